/- Arguments opened: a row and three operations that come in as one struct. No condition. -/
import Derived.Test.YtogkbddniacgiaaDoorTrio
namespace Go.Proofs.YtogkbddniacgiaaDoor
set_option linter.unusedSimpArgs false
set_option linter.unusedVariables false
open Go Go.RowKit Go.ChangeShapes Go.WideShapes Go.ChangeAt Go.Deep
set_option maxRecDepth 100000 in
theorem trio_of_trod {H : Type} {enc : TypeId × Value → H} {W : World} {v : Value} {d : DataW H} {p : List MemPlace} {r : Reach} {b0 : Nat} (hv : Value.okWide Tryd.prog W r b0 62 v) (h : DataW.Trod enc Tryd.prog W 0 (fun _ => true) true 62 v d p) :
    ∃ A n c ls a b o who, v = .agg (trioCells A n c a b o who) ∧ Row W (fun b => b < W.heap.size) A n c ls ∧ a.In ∧ b.In ∧ o.In ∧ I64 who := by
  obtain ⟨cs, rfl, hcs⟩ := okWide_struct Tryd.underlying62 hv
  obtain ⟨fuel, h0⟩ := h
  obtain ⟨xs, m, _, _, hcl, hxl, hf⟩ := DataW.trod_struct Tryd.underlying62 h0
  have c24 : Tryd.prog.cellsOf 62 = 14 := by kernel_rfl
  have c3 : Tryd.prog.cellsOf 3 = 1 := by kernel_rfl
  have c22 : Tryd.prog.cellsOf 22 = 1 := by kernel_rfl
  have c58 : Tryd.prog.cellsOf 58 = 4 := by kernel_rfl
  rw [c24] at hcs
  obtain ⟨l⟩ := cs
  match l, hcs with
  | [u0, u1, u2, u3, u4, u5, u6, u7, u8, u9, u10, u11, u12, u13], _ =>
    match xs, hxl with
    | [y0, y1, y2, y3, y4], _ =>
      have g0 := hf 0 _ rfl
      have g1 := hf 1 _ rfl
      have g2 := hf 2 _ rfl
      have g3 := hf 3 _ rfl
      have g4 := hf 4 _ rfl
      simp [c3, c22, c58, Value.cells] at g0 g1 g2 g3 g4
      obtain ⟨A, n, c, ls, rfl, hr, _⟩ := row_of_cells g0
      obtain ⟨a, ea, ia⟩ := op_of_trod rfl g1
      obtain ⟨b, eb, ib⟩ := op_of_trod rfl g2
      obtain ⟨o, eo, io⟩ := op_of_trod rfl g3
      obtain ⟨who, e0, hw⟩ := one_of_trod Tryd.underlying3 g4 rfl
      simp only [Opn.cells, List.cons.injEq, and_true] at ea eb eo e0
      obtain ⟨rfl, rfl, rfl, rfl⟩ := ea
      obtain ⟨rfl, rfl, rfl, rfl⟩ := eb
      obtain ⟨rfl, rfl, rfl, rfl⟩ := eo
      subst e0
      exact ⟨A, n, c, ls, a, b, o, who, rfl, hr, ia, ib, io, wf_i64 hw⟩
end Go.Proofs.YtogkbddniacgiaaDoor
