/- Part of a proof: what functions of the program compute. Conditions: as each theorem says. -/
import Derived.Test.YteggpddlkkjmjaaGreatDoorQ30
set_option linter.unusedSimpArgs false
set_option linter.unusedVariables false
namespace Go.Proofs.YteggpddlkkjmjaaGreatDoor
open Go Go.RowKit
section
variable {G G' : List Actn} {n0 : Nat} {ep : Int} {b : List El}
theorem Run.length_le (W : Web G n0) {L : List Actn} {F : List Opn} {d : Clk} {l : List El} (h : Run G ep b L F d l) : L.length ≤ G.length :=
 nodup_sub_length (h.nodup W) fun x hx => ((h.mem W x).1 hx).1
end
end Go.Proofs.YteggpddlkkjmjaaGreatDoor
