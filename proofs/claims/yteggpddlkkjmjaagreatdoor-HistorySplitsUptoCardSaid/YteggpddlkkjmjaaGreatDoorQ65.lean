/- Part of a proof: what functions of the program compute. Conditions: as each theorem says. -/
import Derived.Test.YteggpddlkkjmjaaGreatDoorQ57
set_option linter.unusedSimpArgs false
set_option linter.unusedVariables false
namespace Go.Proofs.YteggpddlkkjmjaaGreatDoor
open Go Go.RowKit
theorem Lg.Gd.ctx {s : Lg} {m : Nat} (h : s.Gd m) : s.ctx s.clk = s.l.length := by
 unfold Lg.ctx Lg.had
 rw [h.len]
 congr 2
 refine List.filter_congr fun x hx => ?_
 rw [h.had x hx, Bool.and_true]
end Go.Proofs.YteggpddlkkjmjaaGreatDoor
