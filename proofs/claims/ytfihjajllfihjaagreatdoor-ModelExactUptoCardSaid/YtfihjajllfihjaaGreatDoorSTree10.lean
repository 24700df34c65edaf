/- A tree made; its length, its weight; elements laid in and taken out. Conditions: the tree lies in memory apart from its header; for a refusal: the reasons lie in memory. Elements laid in and taken out: the walks of Insert and Remove. Conditions: the tree lies in memory apart from its header, all together fewer than 2^30; for a refusal: the reasons lie in memory. -/
import Derived.Test.YtfihjajllfihjaaGreatDoorSErr4
namespace Go.Proofs.YtfihjajllfihjaaGreatDoor
set_option linter.unusedSimpArgs false
set_option linter.unusedVariables false
open Go Go.RowKit
variable {S : Nat → Prop} {a : Nat → Addr}
theorem IsErr.one {w w' : World} {Sg S : Nat → Prop} {code g : Nat} {l c : ByteArray} {n : Int} (h1 : 1 ≤ code) (h2 : code ≤ 13) (hg : w.heap.size ≤ g) (hb : Blk w' g 155 #[.string l, .string c, .int .i64 n, reason (a code)]) :
    IsErr w' (Fr w S) a [⟨l, c, n⟩] code (.iface 153 (.pointer (some ⟨g, 0, none⟩))) := ⟨g, _, rfl, .inr hg, hb, h1, h2, rfl⟩
theorem tnew_ok (chunk : Nat) (w : World) (h1 : 2 ≤ chunk) (h2 : chunk ≤ 64) :
    Calls Tryz.prog 52 #[.int .i64 chunk] w fun e w' => ∃ g, e = .returned (.tuple #[.pointer (some ⟨g, 0, none⟩), .nilIface]) ∧ w.heap.size ≤ g ∧ Blk w' g 142 #[.int .i64 chunk, .pointer none] ∧ Below w.heap.size w w' := by
  have i1 : ¬ (chunk : Int) < 2 := by omega
  have i2 : ¬ (chunk : Int) > 64 := by omega
  go_enter Tryz.func52, Tryz.ntmps52
  go_wp2
  go_ret2
  exact ⟨w.heap.size, rfl, Nat.le_refl _, Blk.new _ _ _, (Below.refl _ _).alloc (Nat.le_refl _) _⟩
theorem tlen_any (T : Tr) (p : Option Addr) (bt : Nat) (chunk : Nat) (w : World) (hb : Blk w bt 142 #[.int .i64 chunk, .pointer p]) (hT : IsTree w S T p) :
    Calls Tryz.prog 45 #[.pointer (some ⟨bt, 0, none⟩)] w fun e w' => e = .returned (.int .i64 T.all.length) ∧ w = w' := by
  have c1 := hb.cell 1
  simp at c1
  go_enter Tryz.func45, Tryz.ntmps45
  repeat' (first | (go_at_call 96; go_must ((with_reducible refine (size_any T p S w hT).mono ?_); rintro _ _ ⟨rfl, rfl⟩; dsimp only)) | go_values | go_skip | go_guarded | go_step | go_upon | go_back)
  go_ret
  exact ⟨rfl, rfl⟩
theorem tweight_any (T : Tr) (p : Option Addr) (bt : Nat) (chunk : Nat) (w : World) (hb : Blk w bt 142 #[.int .i64 chunk, .pointer p]) (hT : IsTree w S T p) :
    Calls Tryz.prog 46 #[.pointer (some ⟨bt, 0, none⟩)] w fun e w' => e = .returned (.agg #[.int .i64 (liveOf T.all), .int .i64 (linesOf T.all)]) ∧ Below w.heap.size w w' := by
  have b0 : Below w.heap.size w (w.alloc (.cells #[.int .i64 0, .int .i64 0] 40)) := (Below.refl _ _).alloc (Nat.le_refl _) _
  have hB := Blk.new w 40 #[.int .i64 0, .int .i64 0]
  have hb0 := hb.step b0
  have c1 := hb0.cell 1
  simp at c1
  have hT0 := hT.step b0
  have hz0 := b0.size
  go_enter Tryz.func46, Tryz.ntmps46
  repeat' (first | (go_at_call 97; go_must ((with_reducible refine (weighs_any T p S _ hT0).mono ?_); rintro _ w1 ⟨rfl, hb1⟩; have hB1 := hB.step hb1; have d0 := hB1.cell 0; have d1 := hB1.cell 1; have f0 := hB1.frozen 0; have f1 := hB1.frozen 1; have hl1 := hB1.lt; dsimp only)) | go_values | go_skip | go_guarded | go_step | go_upon | go_back)
  have hbb := b0.trans (hb1.mono hz0)
  exact bodyPost_ret (v := .agg #[.int .i64 (liveOf T.all), .int .i64 (linesOf T.all)]) (by simp [results, Tryz.results46, go_sem, d0, d1]) rfl ⟨rfl, (hbb.setCell (Nat.le_refl _) _).setCell (Nat.le_refl _) _⟩
end Go.Proofs.YtfihjajllfihjaaGreatDoor
namespace Go.Proofs.YtfihjajllfihjaaGreatDoor
set_option linter.unusedSimpArgs false
set_option linter.unusedVariables false
open Go Go.RowKit
variable {S : Nat → Prop} {a : Nat → Addr}
theorem Changed.all {chunk : Nat} {T T' : Tr} {i n : Nat} {ls : List El} (h : Changed chunk T i n ls T') (hc : 2 ≤ chunk) : T'.all = T.all.take i ++ ls ++ T.all.drop (i + n) := by
  obtain ⟨X, Y, M, fs, _, h2, _, _, h5⟩ := h
  rw [Tr.all_eq, h2, ← h5]
  simp only [List.flatten_append]
  rw [cutRows_flat _ _ hc]
/-- what an edit makes of a tree -/
def Edit (chunk : Nat) (T : Tr) (i n : Nat) (ls : List El) (T' : Tr) : Prop := T'.all = T.all.take i ++ ls ++ T.all.drop (i + n) ∧ (ls = [] ∧ n = 0 ∧ T' = T ∨ Changed chunk T i n ls T')
/-- a call hands v back and leaves a tree for which R holds -/
def SetRet (w : World) (S : Nat → Prop) (bt chunk : Nat) (R : Tr → Prop) (v : Value) (e : Ending) (w' : World) : Prop :=
  ∃ p' T', e = .returned v ∧ IsTree w' (Fr w S) T' p' ∧ Blk w' bt 142 #[.int .i64 chunk, .pointer p'] ∧ R T' ∧ But bt w w'
theorem But.refl (bt : Nat) (w : World) : But bt w w := ⟨rfl, rfl, rfl, Nat.le_refl _, fun _ _ _ => rfl⟩
theorem insert_ok (T : Tr) (p : Option Addr) (bt chunk i : Nat) (B : Option Addr) (m d : Nat) (ls : List El) (S SB : Nat → Prop) (w : World) (hblk : Blk w bt 142 #[.int .i64 chunk, .pointer p]) (hT : IsTree w S T p) (hbt : ¬ S bt)
    (hls : Row w SB B m d ls) (hbd : T.all.length + m ≤ 1073741824) (hi : i ≤ T.all.length) (hc2 : 2 ≤ chunk) (hc64 : chunk ≤ 64) :
    Calls Tryz.prog 71 #[.pointer (some ⟨bt, 0, none⟩), .int .i64 i, .slice B m d] w (SetRet w S bt chunk (Edit chunk T i 0 ls) .nilIface) := by
  have i1 : ¬ (i : Int) > T.all.length := by omega
  have hl := hls.1
  rcases Nat.eq_zero_or_pos m with h0 | h0
  · subst h0
    go_enter Tryz.func71, Tryz.ntmps71
    repeat' (first | (go_at_call 45; go_must ((with_reducible refine (tlen_any T p bt chunk w hblk hT).mono ?_); rintro _ _ ⟨rfl, rfl⟩; dsimp only)) | go_values | go_skip | go_guarded | go_step | go_upon | go_back)
    go_ret
    obtain rfl := List.eq_nil_of_length_eq_zero hl
    exact ⟨p, T, rfl, hT.fr, hblk, ⟨by simp, .inl ⟨rfl, rfl, rfl⟩⟩, But.refl _ _⟩
  · have i2 : (m : Int) > 0 := by omega
    have HC := hid (change_any T p bt chunk i 0 B m d ls S SB w hblk hT hbt hls hbd (by omega) hc2 hc64)
    rw [show ((0 : Nat) : Int) = 0 from rfl] at HC
    go_enter Tryz.func71, Tryz.ntmps71
    repeat' (first | (go_at_call 45; go_must ((with_reducible refine (tlen_any T p bt chunk w hblk hT).mono ?_); rintro _ _ ⟨rfl, rfl⟩; dsimp only)) | (go_at_call 108; go_must ((with_reducible refine Calls.mono HC.out ?_); rintro _ w2 ⟨p2, T2, rfl, ht2, hb2, hq2, hB2⟩; dsimp only)) | go_values | go_skip | go_guarded | go_step | go_upon | go_back)
    go_ret
    exact ⟨p2, T2, rfl, ht2, hb2, ⟨hq2.all hc2, .inr hq2⟩, hB2⟩
theorem remove_ok (T : Tr) (p : Option Addr) (bt chunk i n : Nat) (S : Nat → Prop) (w : World) (hblk : Blk w bt 142 #[.int .i64 chunk, .pointer p]) (hT : IsTree w S T p) (hbt : ¬ S bt)
    (hbd : T.all.length ≤ 1073741824) (hi : i + n ≤ T.all.length) (hc2 : 2 ≤ chunk) (hc64 : chunk ≤ 64) :
    Calls Tryz.prog 90 #[.pointer (some ⟨bt, 0, none⟩), .int .i64 i, .int .i64 n] w (SetRet w S bt chunk (Edit chunk T i n []) .nilIface) := by
  have i1 : ¬ (i : Int) > T.all.length := by omega
  have i3 : ¬ (n : Int) < 0 := by omega
  have i4 : ¬ (n : Int) > T.all.length - i := by omega
  rcases Nat.eq_zero_or_pos n with h0 | h0
  · subst h0
    go_enter Tryz.func90, Tryz.ntmps90
    repeat' (first | (go_at_call 45; go_must ((with_reducible refine (tlen_any T p bt chunk w hblk hT).mono ?_); rintro _ _ ⟨rfl, rfl⟩; dsimp only)) | go_values | go_skip | go_guarded | go_step | go_upon | go_back)
    go_ret
    exact ⟨p, T, rfl, hT.fr, hblk, ⟨by simp, .inl ⟨rfl, rfl, rfl⟩⟩, But.refl _ _⟩
  · have i2 : (n : Int) > 0 := by omega
    have hls : Row w (fun _ => True) none 0 0 [] := Row.nil _ _ _ _ (Nat.zero_le _)
    have HC := hid (change_any T p bt chunk i n none 0 0 [] S (fun _ => True) w hblk hT hbt hls (by omega) hi hc2 hc64)
    go_enter Tryz.func90, Tryz.ntmps90
    repeat' (first | (go_at_call 45; go_must ((with_reducible refine (tlen_any T p bt chunk w hblk hT).mono ?_); rintro _ _ ⟨rfl, rfl⟩; dsimp only)) | (go_at_call 108; go_must ((with_reducible refine Calls.mono HC.out ?_); rintro _ w2 ⟨p2, T2, rfl, ht2, hb2, hq2, hB2⟩; dsimp only)) | go_values | go_skip | go_guarded | go_step | go_upon | go_back)
    go_ret
    exact ⟨p2, T2, rfl, ht2, hb2, ⟨hq2.all hc2, .inr hq2⟩, hB2⟩
end Go.Proofs.YtfihjajllfihjaaGreatDoor
