/- Part of a proof: what functions of the program compute. Conditions: as each theorem says. -/
import Derived.Test.YteggpddlkkjmjaaGreatDoorQ32
set_option linter.unusedSimpArgs false
set_option linter.unusedVariables false
namespace Go.Proofs.YteggpddlkkjmjaaGreatDoor
open Go Go.RowKit
variable {a : Nat → Addr}
theorem hlen_any (w : World) (S : Nat → Prop) (gb K : Nat) (s : Lg) (h : LogAt w S gb s K) : Calls Tryz.prog 31 #[.pointer (some ⟨gb, 0, none⟩)] w fun e w' => e = .returned (.int .i64 s.acts.length) ∧ w = w' := by
 obtain ⟨bm, mb, A, c, B, d, SM, h, -⟩ := h
 have g3 : w.cell? ⟨gb, 3, none⟩ = some (.slice A s.acts.length c) := h.g.cell 3
 have gl := h.g.lt
 clear h
 go_enter Tryz.func31, Tryz.ntmps31
 repeat' (first | go_step)
 go_ret
 exact ⟨rfl, rfl⟩
end Go.Proofs.YteggpddlkkjmjaaGreatDoor
