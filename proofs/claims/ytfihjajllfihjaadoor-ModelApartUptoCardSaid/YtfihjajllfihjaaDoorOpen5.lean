/- Arguments opened: calls of chapter 5, and rows of them. No condition. -/
import Derived.Test.YtfihjajllfihjaaDoorOpenG
import Derived.Test.YtfihjajllfihjaaDoorMap
namespace Go.Proofs.YtfihjajllfihjaaDoor
set_option linter.unusedSimpArgs false
set_option linter.unusedVariables false
open Go Go.RowKit Go.ChangeShapes Go.WideShapes Go.ChangeAt Go.Deep
/-- a call -/
structure Op5 where
  do_ : Int
  i : Int
  n : Int
  e : El
def Op5.cells (o : Op5) : List Value := [.int .i64 o.do_, .int .i64 o.i, .int .i64 o.n, .int .i64 o.e.epoch, .int .i64 o.e.rep, .int .i64 o.e.num, .int .i32 o.e.char, .int .i64 o.e.hides]
instance : Enc Op5 where
  k := 8
  cells := Op5.cells
  len _ := rfl
  one := by
    intro a u hu
    simp only [Op5.cells, List.mem_cons, List.not_mem_nil, or_false] at hu
    rcases hu with rfl | rfl | rfl | rfl | rfl | rfl | rfl | rfl <;> rfl
instance : Inhabited Op5 := ⟨⟨0, 0, 0, ⟨0, 0, 0, 0, 0⟩⟩⟩
structure Op5.In (o : Op5) : Prop where
  do_ : I64 o.do_
  i : I64 o.i
  n : I64 o.n
  e : o.e.In
set_option maxRecDepth 20000 in
theorem op5_of_trod {H : Type} {enc : TypeId × Value → H} {w : World} {base : Nat} {spare : Nat → Bool} {held : Bool} {fuel : Nat} {cs : List Value} {x : DataW H × List MemPlace} (hl : cs.length = 8) (h : DataW.trod enc Tryd.prog w base spare held fuel 63 cs = some x) : ∃ o : Op5, cs = o.cells ∧ o.In := by
  obtain ⟨xs, n, _, _, _, hxl, hf⟩ := DataW.trod_struct Tryd.underlying63 h
  match cs, hl with
  | [v0, v1, v2, v3, v4, v5, v6, v7], _ =>
    have c3 : Tryd.prog.cellsOf 3 = 1 := by kernel_rfl
    have c5 : Tryd.prog.cellsOf 42 = 5 := by kernel_rfl
    match xs, hxl with
    | [y0, y1, y2, y3], _ =>
      have g0 := hf 0 _ rfl
      have g1 := hf 1 _ rfl
      have g2 := hf 2 _ rfl
      have g3 := hf 3 _ rfl
      simp [c3, c5] at g0 g1 g2 g3
      obtain ⟨n0, e0, q0⟩ := one_of_trod Tryd.underlying3 g0 rfl
      obtain ⟨n1, e1, q1⟩ := one_of_trod Tryd.underlying3 g1 rfl
      obtain ⟨n2, e2, q2⟩ := one_of_trod Tryd.underlying3 g2 rfl
      obtain ⟨e, he, hin⟩ := el_of_trod rfl g3
      injection e0 with e0
      injection e1 with e1
      injection e2 with e2
      simp only [El.cells, List.cons.injEq, and_true] at he
      obtain ⟨rfl, rfl, rfl, rfl, rfl⟩ := he
      subst e0 e1 e2
      exact ⟨⟨n0, n1, n2, e⟩, rfl, wf_i64 q0, wf_i64 q1, wf_i64 q2, hin⟩
set_option maxRecDepth 100000 in
theorem op51_of_trod {H : Type} {enc : TypeId × Value → H} {W : World} {v : Value} {d : DataW H} {p : List MemPlace} {r : Reach} {b0 : Nat} (hv : Value.okWide Tryd.prog W r b0 63 v) (h : DataW.Trod enc Tryd.prog W 0 (fun _ => true) true 63 v d p) :
    ∃ o : Op5, v = .agg #[.int .i64 o.do_, .int .i64 o.i, .int .i64 o.n, .int .i64 o.e.epoch, .int .i64 o.e.rep, .int .i64 o.e.num, .int .i32 o.e.char, .int .i64 o.e.hides] ∧ o.In := by
  obtain ⟨cs, rfl, hcs⟩ := okWide_struct Tryd.underlying63 hv
  obtain ⟨fuel, h0⟩ := h
  have c58 : Tryd.prog.cellsOf 63 = 8 := by kernel_rfl
  rw [c58] at hcs
  obtain ⟨l⟩ := cs
  match l, hcs with
  | [u0, u1, u2, u3, u4, u5, u6, u7], _ =>
    obtain ⟨o, ho, io⟩ := op5_of_trod rfl h0
    simp only [Value.cells, Op5.cells, List.cons.injEq, and_true] at ho
    obtain ⟨rfl, rfl, rfl, rfl, rfl, rfl, rfl, rfl⟩ := ho
    exact ⟨o, rfl, io⟩
end Go.Proofs.YtfihjajllfihjaaDoor
