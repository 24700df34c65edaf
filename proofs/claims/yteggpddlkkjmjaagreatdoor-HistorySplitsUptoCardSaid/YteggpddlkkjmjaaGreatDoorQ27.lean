/- Part of a proof: what functions of the program compute. Conditions: as each theorem says. -/
import Derived.Test.YteggpddlkkjmjaaGreatDoorQ11
import Derived.Test.YteggpddlkkjmjaaGreatDoorQ13
set_option linter.unusedSimpArgs false
set_option linter.unusedVariables false
set_option maxRecDepth 100000
namespace Go.Proofs.YteggpddlkkjmjaaGreatDoor
open Go Go.RowKit Go.ChangeShapes Go.WideShapes Go.ChangeAt Go.Deep
section
variable {H : Type} {enc : TypeId × Value → H} {W : World} {fuel : Nat}
theorem clk_of_trod {cs : List Value} {x : DataW H × List MemPlace} (hl : cs.length = 8) (h : DataW.trod enc Tryz.prog W 0 (fun _ => true) true fuel 44 cs = some x) : ∃ q : Clk, cs = q.vals.toList ∧ q.In := by
 obtain ⟨xs, n, _, _, _, hxl, hf⟩ := DataW.trod_array Tryz.underlying44 h
 have c3 : Tryz.prog.cellsOf 3 = 1 := by kernel_rfl
 match cs, hl with
 | [v0, v1, v2, v3, v4, v5, v6, v7], _ =>
  match xs, hxl with
  | [y0, y1, y2, y3, y4, y5, y6, y7], _ =>
   have g0 := hf 0 (by decide)
   have g1 := hf 1 (by decide)
   have g2 := hf 2 (by decide)
   have g3 := hf 3 (by decide)
   have g4 := hf 4 (by decide)
   have g5 := hf 5 (by decide)
   have g6 := hf 6 (by decide)
   have g7 := hf 7 (by decide)
   simp [c3] at g0 g1 g2 g3 g4 g5 g6 g7
   obtain ⟨n0, e0, q0⟩ := one_of_trod Tryz.underlying3 g0 rfl
   obtain ⟨n1, e1, q1⟩ := one_of_trod Tryz.underlying3 g1 rfl
   obtain ⟨n2, e2, q2⟩ := one_of_trod Tryz.underlying3 g2 rfl
   obtain ⟨n3, e3, q3⟩ := one_of_trod Tryz.underlying3 g3 rfl
   obtain ⟨n4, e4, q4⟩ := one_of_trod Tryz.underlying3 g4 rfl
   obtain ⟨n5, e5, q5⟩ := one_of_trod Tryz.underlying3 g5 rfl
   obtain ⟨n6, e6, q6⟩ := one_of_trod Tryz.underlying3 g6 rfl
   obtain ⟨n7, e7, q7⟩ := one_of_trod Tryz.underlying3 g7 rfl
   simp only [List.cons.injEq, and_true] at e0 e1 e2 e3 e4 e5 e6 e7
   subst e0 e1 e2 e3 e4 e5 e6 e7
   refine ⟨⟨n0, n1, n2, n3, n4, n5, n6, n7⟩, rfl, fun r hr => ?_⟩
   rcases lt8 hr with rfl | rfl | rfl | rfl | rfl | rfl | rfl | rfl
   · exact wf_i64 q0
   · exact wf_i64 q1
   · exact wf_i64 q2
   · exact wf_i64 q3
   · exact wf_i64 q4
   · exact wf_i64 q5
   · exact wf_i64 q6
   · exact wf_i64 q7
end
end Go.Proofs.YteggpddlkkjmjaaGreatDoor
