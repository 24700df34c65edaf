/- Part of a proof: what functions of the program compute. Conditions: as each theorem says. -/
import Derived.Test.YteggpddlkkjmjaaGreatDoorQ13
set_option linter.unusedSimpArgs false
set_option linter.unusedVariables false
namespace Go.Proofs.YteggpddlkkjmjaaGreatDoor
open Go Go.RowKit
theorem Clk.ext_get {c d : Clk} (h : ∀ r, r < 8 → c.get r = d.get r) : c = d := by
 obtain ⟨a0, a1, a2, a3, a4, a5, a6, a7⟩ := c
 obtain ⟨b0, b1, b2, b3, b4, b5, b6, b7⟩ := d
 have e0 : a0 = b0 := h 0 (by decide)
 have e1 : a1 = b1 := h 1 (by decide)
 have e2 : a2 = b2 := h 2 (by decide)
 have e3 : a3 = b3 := h 3 (by decide)
 have e4 : a4 = b4 := h 4 (by decide)
 have e5 : a5 = b5 := h 5 (by decide)
 have e6 : a6 = b6 := h 6 (by decide)
 have e7 : a7 = b7 := h 7 (by decide)
 subst e0 e1 e2 e3 e4 e5 e6 e7
 rfl
end Go.Proofs.YteggpddlkkjmjaaGreatDoor
