/- Part of a proof: what functions of the program compute. Conditions: as each theorem says. -/
import Derived.Test.YteggpddlkkjmjaaGreatDoorQ25
import Derived.Test.YteggpddlkkjmjaaGreatDoorQ27
import Derived.Test.YteggpddlkkjmjaaGreatDoorQ62
set_option linter.unusedSimpArgs false
set_option linter.unusedVariables false
set_option maxRecDepth 100000
namespace Go.Proofs.YteggpddlkkjmjaaGreatDoor
open Go Go.RowKit Go.ChangeShapes Go.WideShapes Go.ChangeAt Go.Deep
instance : Inhabited Actn := ⟨noActn⟩
section
variable {H : Type} {enc : TypeId × Value → H} {W : World} {fuel : Nat}
theorem act_of_trod {cs : List Value} {x : DataW H × List MemPlace} (hl : cs.length = 13) (h : DataW.trod enc Tryz.prog W 0 (fun _ => true) true fuel 46 cs = some x) : ∃ q : Actn, cs = Enc.cells q ∧ q.In := by
 obtain ⟨xs, n, _, _, _, hxl, hf⟩ := DataW.trod_struct Tryz.underlying46 h
 match cs, hl with
 | [v0, v1, v2, v3, v4, v5, v6, v7, v8, v9, v10, v11, v12], _ =>
  have c3 : Tryz.prog.cellsOf 3 = 1 := by kernel_rfl
  have c4 : Tryz.prog.cellsOf 37 = 4 := by kernel_rfl
  have c8 : Tryz.prog.cellsOf 44 = 8 := by kernel_rfl
  match xs, hxl with
  | [y0, y1, y2], _ =>
   have g0 := hf 0 _ rfl
   have g1 := hf 1 _ rfl
   have g2 := hf 2 _ rfl
   simp [c3, c4, c8] at g0 g1 g2
   obtain ⟨o, e0, q0⟩ := op_of_trod rfl g0
   obtain ⟨n1, e1, q1⟩ := one_of_trod Tryz.underlying3 g1 rfl
   obtain ⟨q, e2, q2⟩ := clk_of_trod rfl g2
   unfold Clk.vals at e2
   simp only [Opn.cells, List.cons.injEq, and_true] at e0 e1 e2
   obtain ⟨rfl, rfl, rfl, rfl⟩ := e0
   obtain ⟨rfl, rfl, rfl, rfl, rfl, rfl, rfl, rfl⟩ := e2
   subst e1
   exact ⟨⟨o, n1, q⟩, rfl, q0, wf_i64 q1, q2⟩
theorem acts8_of_cells {v : Value} {y : DataW H × List MemPlace} (h : DataW.trod enc Tryz.prog W 0 (fun _ => true) true fuel 29 [v] = some y) :
 ∃ A n c, ∃ es : List Actn, v = .slice A n c ∧ GRow W (fun b => b < W.heap.size) A n c es ∧ ∀ e ∈ es, e.In :=
 grow_of_cells (α := Actn) (t := 46) Tryz.underlying29 (by kernel_rfl) (by decide) Actn.In (fun fuel cs x hl h => act_of_trod hl h) h
end
section
variable {H : Type} {enc : TypeId × Value → H} {W : World} {v : Value} {d : DataW H} {p : List MemPlace} {r : Reach} {b0 : Nat}
theorem acts8_of_trod (hv : Value.okWide Tryz.prog W r b0 29 v) (h : DataW.Trod enc Tryz.prog W 0 (fun _ => true) true 29 v d p) :
 ∃ A n c, ∃ es : List Actn, v = .slice A n c ∧ GRow W (fun b => b < W.heap.size) A n c es ∧ ∀ e ∈ es, e.In := by
 obtain ⟨fuel, h⟩ := h
 obtain ⟨a', len', cap', rfl⟩ := okWide_slice Tryz.underlying29 hv
 exact acts8_of_cells h
end
end Go.Proofs.YteggpddlkkjmjaaGreatDoor
