/- Part of a proof: what functions of the program compute. Conditions: as each theorem says. -/
import Derived.Test.YteggpddlkkjmjaaGreatDoorQ40
set_option linter.unusedSimpArgs false
set_option linter.unusedVariables false
namespace Go.Proofs.YteggpddlkkjmjaaGreatDoor
open Go Go.RowKit
theorem bix_length (acts : List Actn) (q : Clk) : (bix acts q).length ≤ acts.length := by
 unfold bix
 have := List.length_filter_le (fun p : Actn × Nat => ! hasC q p.1.op.rep p.1.num) acts.zipIdx
 simpa using this
end Go.Proofs.YteggpddlkkjmjaaGreatDoor
