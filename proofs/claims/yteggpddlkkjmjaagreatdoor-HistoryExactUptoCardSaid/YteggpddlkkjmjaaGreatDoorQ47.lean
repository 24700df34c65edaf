/- Part of a proof: what functions of the program compute. Conditions: as each theorem says. -/
import Derived.Test.YteggpddlkkjmjaaGreatDoorQ46
set_option linter.unusedSimpArgs false
set_option linter.unusedVariables false
set_option maxHeartbeats 2000000
set_option maxRecDepth 100000
namespace Go.Proofs.YteggpddlkkjmjaaGreatDoor
open Go Go.RowKit
variable {a : Nat → Addr}
theorem hact_no (w : World) (S S' : Nat → Prop) (gb K : Nat) (i : Int) (s : Lg) (h : LogAt w S gb s K) (hi : i < 0 ∨ (s.acts.length : Int) ≤ i) (hs : Sents w S' a) (hlow : ∀ b, S' b → b < w.heap.size) (hz : s.acts.length ≤ 1048576) : Calls Tryz.prog 81 #[.pointer (some ⟨gb, 0, none⟩), .int .i64 i] w fun e w' => ∃ v, e = .returned (.tuple #[noActn.agg, v]) ∧ IsErr w' (Fr w S') a [⟨({ data := #[104, 105, 115, 116, 111, 114, 121] } : ByteArray), ({ data := #[65, 99, 116] } : ByteArray), atOf i⟩] 2 v ∧ Below w.heap.size w w' := by
 obtain ⟨bm, mb, A, c, B, d, SM, h, -⟩ := h
 have eZ : Below w.heap.size w (w.alloc (.cells #[.int .i64 0, .int .i64 0, .int .i32 0, .int .i64 0, .int .i64 0, .int .i64 0, .int .i64 0, .int .i64 0, .int .i64 0, .int .i64 0, .int .i64 0, .int .i64 0, .int .i64 0] 46)) := balloc (Below.refl _ _)
 have hZ := Blk.new w 46 #[.int .i64 0, .int .i64 0, .int .i32 0, .int .i64 0, .int .i64 0, .int .i64 0, .int .i64 0, .int .i64 0, .int .i64 0, .int .i64 0, .int .i64 0, .int .i64 0, .int .i64 0]
 have hX := h.step eZ
 have hsX := hs.step eZ
 have c2 := hsX.cell 2 (by omega) (by omega)
 simp only [gOf, reason] at c2
 have g3 : (w.alloc (.cells #[.int .i64 0, .int .i64 0, .int .i32 0, .int .i64 0, .int .i64 0, .int .i64 0, .int .i64 0, .int .i64 0, .int .i64 0, .int .i64 0, .int .i64 0, .int .i64 0, .int .i64 0] 46)).cell? ⟨gb, 3, none⟩ = some (.slice A s.acts.length c) := hX.g.cell 3
 have gl := hX.g.lt
 have HE := hid (fun W => new_err (S := S') (a := a) ({ data := #[104, 105, 115, 116, 111, 114, 121] } : ByteArray) ({ data := #[65, 99, 116] } : ByteArray) i [] 2 (reason (a 2)) W ⟨by omega, by omega, rfl⟩)
 clear h hX hsX hs
 have HZ := hid hZ
 clear hZ
 go_enter Tryz.func81, Tryz.ntmps81
 repeat' (first | (with_reducible refine stop_region 1 ?_) | go_step)
 refine Stop.go ?_
 generalize w.alloc (.cells #[.int .i64 0, .int .i64 0, .int .i32 0, .int .i64 0, .int .i64 0, .int .i64 0, .int .i64 0, .int .i64 0, .int .i64 0, .int .i64 0, .int .i64 0, .int .i64 0, .int .i64 0] 46) = X at *
 repeat' (first | (go_at_call 51; go_must ((with_reducible refine Calls.mono (HE.out _) ?_); rintro _ w4 ⟨v, rfl, hv, hb4⟩; have hZ := HZ.out.step hb4; obtain ⟨zl, z0, z1, z2, z3, z4, z5, z6, z7, z8, z9, z10, z11, z12, f0, f1, f2, f3, f4, f5, f6, f7, f8, f9, f10, f11, f12⟩ := bl13 hZ; dsimp only)) | go_guarded | go_step)
 all_goals
  have hz4 := (HZ.out.step hb4).sets (act13 noActn); have v0 := hz4.cell 0; have v1 := hz4.cell 1; have v2 := hz4.cell 2; have v3 := hz4.cell 3; have v4 := hz4.cell 4; have v5 := hz4.cell 5; have v6 := hz4.cell 6; have v7 := hz4.cell 7; have v8 := hz4.cell 8; have v9 := hz4.cell 9; have v10 := hz4.cell 10; have v11 := hz4.cell 11; have v12 := hz4.cell 12
  simp [act13, noActn, noOpn, Clk.zero] at v0 v1 v2 v3 v4 v5 v6 v7 v8 v9 v10 v11 v12
  refine bodyPost_ret (w := setsAt w.heap.size (act13 noActn) _) (v := .tuple #[(.agg #[.int .i64 0, .int .i64 0, .int .i32 0, .int .i64 0, .int .i64 0, .int .i64 0, .int .i64 0, .int .i64 0, .int .i64 0, .int .i64 0, .int .i64 0, .int .i64 0, .int .i64 0]), v]) (by simp [act13, noActn, noOpn, Clk.zero, results, Tryz.results81, go_sem, v0, v1, v2, v3, v4, v5, v6, v7, v8, v9, v10, v11, v12]) rfl ?_
  refine ⟨v, rfl, ?_, Below.sets _ (bvia eZ hb4) (Nat.le_refl _)⟩
  refine (hv.keep (S := Fr X S') ?_).more fun b _ hh => hh.imp id fun h' => by have h2 : X.heap.size ≤ b := h'; have := eZ.size; show w.heap.size ≤ b; omega
  refine Same.sets _ fun hh => ?_
  have hl := HZ.out.lt
  rcases hh with hh | hh
  · have := hlow _ hh; omega
  · have h2 : X.heap.size ≤ w.heap.size := hh
    omega
theorem hform_no (w : World) (S S' : Nat → Prop) (gb K : Nat) (i : Int) (s : Lg) (h : LogAt w S gb s K) (hi : i < 0 ∨ (s.forms.length : Int) ≤ i) (hs : Sents w S' a) (hlow : ∀ b, S' b → b < w.heap.size) (hz : s.forms.length ≤ 1048576) : Calls Tryz.prog 16 #[.pointer (some ⟨gb, 0, none⟩), .int .i64 i] w fun e w' => ∃ v, e = .returned (.tuple #[noOpn.agg, v]) ∧ IsErr w' (Fr w S') a [⟨({ data := #[104, 105, 115, 116, 111, 114, 121] } : ByteArray), ({ data := #[70, 111, 114, 109] } : ByteArray), atOf i⟩] 2 v ∧ Below w.heap.size w w' := by
 obtain ⟨bm, mb, A, c, B, d, SM, h, -⟩ := h
 have eZ : Below w.heap.size w (w.alloc (.cells #[.int .i64 0, .int .i64 0, .int .i32 0, .int .i64 0] 37)) := balloc (Below.refl _ _)
 have hZ := Blk.new w 37 #[.int .i64 0, .int .i64 0, .int .i32 0, .int .i64 0]
 have hX := h.step eZ
 have hsX := hs.step eZ
 have c2 := hsX.cell 2 (by omega) (by omega)
 simp only [gOf, reason] at c2
 have g3 : (w.alloc (.cells #[.int .i64 0, .int .i64 0, .int .i32 0, .int .i64 0] 37)).cell? ⟨gb, 4, none⟩ = some (.slice B s.forms.length d) := hX.g.cell 4
 have gl := hX.g.lt
 have HE := hid (fun W => new_err (S := S') (a := a) ({ data := #[104, 105, 115, 116, 111, 114, 121] } : ByteArray) ({ data := #[70, 111, 114, 109] } : ByteArray) i [] 2 (reason (a 2)) W ⟨by omega, by omega, rfl⟩)
 clear h hX hsX hs
 have HZ := hid hZ
 clear hZ
 go_enter Tryz.func16, Tryz.ntmps16
 repeat' (first | (with_reducible refine stop_region 1 ?_) | go_step)
 refine Stop.go ?_
 generalize w.alloc (.cells #[.int .i64 0, .int .i64 0, .int .i32 0, .int .i64 0] 37) = X at *
 repeat' (first | (go_at_call 51; go_must ((with_reducible refine Calls.mono (HE.out _) ?_); rintro _ w4 ⟨v, rfl, hv, hb4⟩; have hZ := HZ.out.step hb4; obtain ⟨zl, z0, z1, z2, z3, f0, f1, f2, f3⟩ := bl4 hZ; dsimp only)) | go_guarded | go_step)
 all_goals
  have hz4 := (HZ.out.step hb4).sets (op4 noOpn); have v0 := hz4.cell 0; have v1 := hz4.cell 1; have v2 := hz4.cell 2; have v3 := hz4.cell 3
  simp [op4, noOpn] at v0 v1 v2 v3
  refine bodyPost_ret (w := setsAt w.heap.size (op4 noOpn) _) (v := .tuple #[(.agg #[.int .i64 0, .int .i64 0, .int .i32 0, .int .i64 0]), v]) (by simp [op4, noOpn, results, Tryz.results16, go_sem, v0, v1, v2, v3]) rfl ?_
  refine ⟨v, rfl, ?_, Below.sets _ (bvia eZ hb4) (Nat.le_refl _)⟩
  refine (hv.keep (S := Fr X S') ?_).more fun b _ hh => hh.imp id fun h' => by have h2 : X.heap.size ≤ b := h'; have := eZ.size; show w.heap.size ≤ b; omega
  refine Same.sets _ fun hh => ?_
  have hl := HZ.out.lt
  rcases hh with hh | hh
  · have := hlow _ hh; omega
  · have h2 : X.heap.size ≤ w.heap.size := hh
    omega
end Go.Proofs.YteggpddlkkjmjaaGreatDoor
