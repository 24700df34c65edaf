/- Part of a proof: what functions of the program compute. Conditions: as each theorem says. -/
import Derived.Test.YteggpddlkkjmjaaGreatDoorQ2
set_option linter.unusedSimpArgs false
set_option linter.unusedVariables false
namespace Go.Proofs.YteggpddlkkjmjaaGreatDoor
open Go Go.RowKit
variable {α : Type} [Enc α]
section
variable {w w' : World} {S S' : Nat → Prop} {A : Option Addr} {n c : Nat} {es : List α}
theorem GRow.take_ (h : GRow w S A n c es) {i : Nat} (hi : i ≤ n) : GRow w S A i c (es.take i) := by
 refine ⟨by rw [List.length_take, h.1]; omega, by have := h.2.1; omega, h.2.2.1, fun h0 => ?_⟩
 obtain ⟨b, off, e, hs, hb, hc⟩ := h.2.2.2 (by omega)
 refine ⟨b, off, e, hs, hb, fun j u hu => hc j u ?_⟩
 rw [← gcells_take, List.getElem?_take] at hu
 split at hu
 · exact hu
 · cases hu
end
end Go.Proofs.YteggpddlkkjmjaaGreatDoor
