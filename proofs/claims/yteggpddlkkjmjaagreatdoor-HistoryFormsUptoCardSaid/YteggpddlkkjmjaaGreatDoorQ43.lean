/- Part of a proof: what functions of the program compute. Conditions: as each theorem says. -/
import Derived.Test.YteggpddlkkjmjaaGreatDoorQ32
set_option linter.unusedSimpArgs false
set_option linter.unusedVariables false
namespace Go.Proofs.YteggpddlkkjmjaaGreatDoor
open Go Go.RowKit
variable {a : Nat → Addr}
theorem hacts_any (w : World) (S : Nat → Prop) (gb K : Nat) (s : Lg) (h : LogAt w S gb s K) (hz : s.acts.length ≤ 1048576) : Calls Tryz.prog 15 #[.pointer (some ⟨gb, 0, none⟩)] w fun e w' => ∃ A' c', e = .returned (.slice A' s.acts.length c') ∧ GOwn 46 w' w.heap.size A' s.acts.length c' s.acts ∧ Below w.heap.size w w' := by
 obtain ⟨bm, mb, A, c, B, d, SM, h, -⟩ := h
 have g3 : w.cell? ⟨gb, 3, none⟩ = some (.slice A s.acts.length c) := h.g.cell 3
 have gl := h.g.lt
 have hrow := h.a.row (S := fun _ => True) fun _ _ _ => trivial
 clear h
 go_enter Tryz.func15, Tryz.ntmps15
 repeat' (first | ((with_reducible refine app_acts_here ?_); refine wp_append_acts w.heap.size none _ 0 0 _ _ [] _ (fun _ => True) (by rfl) (by rfl) (GOwn.nil _ _ _) hrow (Nat.le_refl _) (by omega) ?_; intro A1 c1 w1 hA hb1 hsm1 hat1 hz1; try dsimp only) | go_step)
 rw [Nat.zero_add, List.nil_append] at hA
 go_ret
 exact ⟨A1, c1, rfl, hA, hb1⟩
end Go.Proofs.YteggpddlkkjmjaaGreatDoor
