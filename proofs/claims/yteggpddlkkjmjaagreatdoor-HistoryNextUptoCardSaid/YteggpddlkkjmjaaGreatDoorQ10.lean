/- Part of a proof: what functions of the program compute. Conditions: as each theorem says. -/
import Derived.Test.YteggpddlkkjmjaaGreatDoorQ5
set_option linter.unusedSimpArgs false
set_option linter.unusedVariables false
namespace Go.Proofs.YteggpddlkkjmjaaGreatDoor
open Go Go.RowKit
variable {S : Nat → Prop} {a : Nat → Addr}
theorem tweight_any (T : Tr) (p : Option Addr) (bt : Nat) (chunk : Nat) (w : World) (hb : Blk w bt 157 #[.int .i64 chunk, .pointer p]) (hT : IsTree w S T p) :
 Calls Tryz.prog 87 #[.pointer (some ⟨bt, 0, none⟩)] w fun e w' => e = .returned (.agg #[.int .i64 (liveOf T.all), .int .i64 (linesOf T.all)]) ∧ Below w.heap.size w w' := by
 have b0 : Below w.heap.size w (w.alloc (.cells #[.int .i64 0, .int .i64 0] 146)) := (Below.refl _ _).alloc (Nat.le_refl _) _
 have hB := Blk.new w 146 #[.int .i64 0, .int .i64 0]
 have hb0 := hb.step b0
 have c1 := hb0.cell 1
 simp at c1
 have hT0 := hT.step b0
 have hz0 := b0.size
 go_enter Tryz.func87, Tryz.ntmps87
 repeat' (first | (go_at_call 122; go_must ((with_reducible refine (weighs_any T p S _ hT0).mono ?_); rintro _ w1 ⟨rfl, hb1⟩; have hB1 := hB.step hb1; have d0 := hB1.cell 0; have d1 := hB1.cell 1; have f0 := hB1.frozen 0; have f1 := hB1.frozen 1; have hl1 := hB1.lt; dsimp only)) | go_step)
 have hbb := b0.trans (hb1.mono hz0)
 exact bodyPost_ret (v := .agg #[.int .i64 (liveOf T.all), .int .i64 (linesOf T.all)]) (by simp [results, Tryz.results87, go_sem, d0, d1]) rfl ⟨rfl, (hbb.setCell (Nat.le_refl _) _).setCell (Nat.le_refl _) _⟩
end Go.Proofs.YteggpddlkkjmjaaGreatDoor
namespace Go.Proofs.YteggpddlkkjmjaaGreatDoor
open Go Go.RowKit
variable {S : Nat → Prop} {a : Nat → Addr}
theorem remove_ok (T : Tr) (p : Option Addr) (bt chunk i n : Nat) (S : Nat → Prop) (w : World) (hblk : Blk w bt 157 #[.int .i64 chunk, .pointer p]) (hT : IsTree w S T p) (hbt : ¬ S bt)
 (hbd : T.all.length ≤ 1073741824) (hi : i + n ≤ T.all.length) (hc2 : 2 ≤ chunk) (hc64 : chunk ≤ 64) :
 Calls Tryz.prog 120 #[.pointer (some ⟨bt, 0, none⟩), .int .i64 i, .int .i64 n] w (SetRet w S bt chunk (Edit chunk T i n []) .nilIface) := by
 have i1 : ¬ (i : Int) > T.all.length := by omega
 have i3 : ¬ (n : Int) < 0 := by omega
 have i4 : ¬ (n : Int) > T.all.length - i := by omega
 rcases Nat.eq_zero_or_pos n with h0 | h0
 · subst h0
   go_enter Tryz.func120, Tryz.ntmps120
   repeat' (first | (go_at_call 80; go_must ((with_reducible refine (tlen_any T p bt chunk w hblk hT).mono ?_); rintro _ _ ⟨rfl, rfl⟩; dsimp only)) | go_guarded | go_step)
   go_ret
   exact ⟨p, T, rfl, hT.fr, hblk, ⟨by simp, .inl ⟨rfl, rfl, rfl⟩⟩, But.refl _ _⟩
 · have i2 : (n : Int) > 0 := by omega
   have hls : Row w (fun _ => True) none 0 0 [] := Row.nil _ _ _ _ (Nat.zero_le _)
   have HC := hid (change_any T p bt chunk i n none 0 0 [] S (fun _ => True) w hblk hT hbt hls (by omega) hi hc2 hc64)
   go_enter Tryz.func120, Tryz.ntmps120
   repeat' (first | (go_at_call 80; go_must ((with_reducible refine (tlen_any T p bt chunk w hblk hT).mono ?_); rintro _ _ ⟨rfl, rfl⟩; dsimp only)) | (go_at_call 127; go_must ((with_reducible refine Calls.mono HC.out ?_); rintro _ w2 ⟨p2, T2, rfl, ht2, hb2, hq2, hB2⟩; dsimp only)) | go_guarded | go_step)
   go_ret
   exact ⟨p2, T2, rfl, ht2, hb2, ⟨hq2.all hc2, .inr hq2⟩, hB2⟩
end Go.Proofs.YteggpddlkkjmjaaGreatDoor
