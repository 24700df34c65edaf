/- Part of a proof: what functions of the program compute. Conditions: as each theorem says. -/
import Derived.Test.YteggpddlkkjmjaaGreatDoorQ32
set_option linter.unusedSimpArgs false
set_option linter.unusedVariables false
namespace Go.Proofs.YteggpddlkkjmjaaGreatDoor
open Go Go.RowKit
variable {a : Nat → Addr}
theorem hepoch_any (w : World) (S : Nat → Prop) (gb K : Nat) (s : Lg) (h : LogAt w S gb s K) : Calls Tryz.prog 30 #[.pointer (some ⟨gb, 0, none⟩)] w fun e w' => e = .returned (.int .i64 s.ep) ∧ w = w' := by
 obtain ⟨bm, mb, A, c, B, d, SM, h, -⟩ := h
 have g0 : w.cell? ⟨gb, 0, none⟩ = some (.int .i64 s.ep) := h.g.cell 0
 have gl := h.g.lt
 clear h
 go_enter Tryz.func30, Tryz.ntmps30
 repeat' (first | go_step)
 go_ret
 exact ⟨rfl, rfl⟩
end Go.Proofs.YteggpddlkkjmjaaGreatDoor
