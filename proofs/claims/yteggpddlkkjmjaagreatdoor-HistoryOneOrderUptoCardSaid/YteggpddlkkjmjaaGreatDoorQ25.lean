/- Part of a proof: what functions of the program compute. Conditions: as each theorem says. -/
import Derived.Test.YteggpddlkkjmjaaGreatDoorQ11
import Derived.Test.YteggpddlkkjmjaaGreatDoorQ13
set_option linter.unusedSimpArgs false
set_option linter.unusedVariables false
set_option maxRecDepth 20000
namespace Go.Proofs.YteggpddlkkjmjaaGreatDoor
open Go Go.RowKit Go.ChangeShapes Go.WideShapes Go.ChangeAt Go.Deep
section
variable {H : Type} {enc : TypeId × Value → H} {w : World} {base : Nat} {spare : Nat → Bool} {held : Bool}
def Opn.cells (o : Opn) : List Value := [.int .i64 o.kind, .int .i64 o.at_, .int .i32 o.char, .int .i64 o.rep]
theorem op_of_trod {fuel : Nat} {cs : List Value} {x : DataW H × List MemPlace} (hl : cs.length = 4) (h : DataW.trod enc Tryz.prog w base spare held fuel 37 cs = some x) : ∃ o : Opn, cs = o.cells ∧ o.In := by
 obtain ⟨xs, n, _, _, _, hxl, hf⟩ := DataW.trod_struct Tryz.underlying37 h
 match cs, hl with
 | [v0, v1, v2, v3], _ =>
  have c3 : Tryz.prog.cellsOf 3 = 1 := by kernel_rfl
  have c21 : Tryz.prog.cellsOf 21 = 1 := by kernel_rfl
  match xs, hxl with
  | [y0, y1, y2, y3], _ =>
   have g0 := hf 0 _ rfl
   have g1 := hf 1 _ rfl
   have g2 := hf 2 _ rfl
   have g3 := hf 3 _ rfl
   simp [c3, c21] at g0 g1 g2 g3
   obtain ⟨n0, e0, q0⟩ := one_of_trod Tryz.underlying3 g0 rfl
   obtain ⟨n1, e1, q1⟩ := one_of_trod Tryz.underlying3 g1 rfl
   obtain ⟨n2, e2, q2⟩ := one_of_trod Tryz.underlying21 g2 rfl
   obtain ⟨n3, e3, q3⟩ := one_of_trod Tryz.underlying3 g3 rfl
   injection e0 with e0
   injection e1 with e1
   injection e2 with e2
   injection e3 with e3
   subst e0 e1 e2 e3
   exact ⟨⟨n0, n1, n2, n3⟩, rfl, wf_i64 q0, wf_i64 q1, wf_i32 q2, wf_i64 q3⟩
end
end Go.Proofs.YteggpddlkkjmjaaGreatDoor
