/- Part of a proof: what functions of the program compute. Conditions: as each theorem says. -/
import Derived.Test.YteggpddlkkjmjaaGreatDoorQ30
set_option linter.unusedSimpArgs false
set_option linter.unusedVariables false
namespace Go.Proofs.YteggpddlkkjmjaaGreatDoor
open Go Go.RowKit
section
variable {G G' : List Actn} {n0 : Nat} {ep : Int} {b : List El}
theorem Run.meet (W : Web G b.length) {L L' : List Actn} {F F' : List Opn} {d d' : Clk} {l l' : List El} (h : Run G ep b L F d l) (h' : Run G ep b L' F' d' l') (he : ∀ y, y ∈ L ↔ y ∈ L') : d = d' ∧ l = l' := by
 have : d = d' := here_ext W (h.rw.cl W) (h'.rw.cl W) fun y hy => by
  constructor
  · intro hh
    exact ((h'.mem W y).1 ((he y).1 ((h.mem W y).2 ⟨hy, hh⟩))).2
  · intro hh
    exact ((h.mem W y).1 ((he y).2 ((h'.mem W y).2 ⟨hy, hh⟩))).2
 subst this
 exact ⟨rfl, W.rw_one h.rw h'.rw⟩
end
end Go.Proofs.YteggpddlkkjmjaaGreatDoor
