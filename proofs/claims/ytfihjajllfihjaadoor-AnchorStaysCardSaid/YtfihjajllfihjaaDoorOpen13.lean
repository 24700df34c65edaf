/- Arguments opened: rows of numbers, of anchors; a change of chapter 13, rows of them. No condition. -/
import Derived.Test.YtfihjajllfihjaaDoorOpenG
import Derived.Test.YtfihjajllfihjaaDoorErr3
import Derived.Test.YtfihjajllfihjaaDoorPlain13
namespace Go.Proofs.YtfihjajllfihjaaDoor
set_option linter.unusedSimpArgs false
set_option linter.unusedVariables false
open Go Go.RowKit Go.ChangeShapes Go.WideShapes Go.ChangeAt Go.Deep
set_option maxRecDepth 20000 in
theorem ints_of_trod {H : Type} {enc : TypeId × Value → H} {W : World} {v : Value} {d : DataW H} {p : List MemPlace} {r : Reach} {b0 : Nat} (hv : Value.okWide Tryd.prog W r b0 71 v) (h : DataW.Trod enc Tryd.prog W 0 (fun _ => true) true 71 v d p) :
    ∃ A n c, ∃ es : List Int, v = .slice A n c ∧ GRow W (fun b => b < W.heap.size) A n c es ∧ ∀ e ∈ es, I64 e :=
  grow_of_trod (α := Int) (t := 3) Tryd.underlying71 (by kernel_rfl) (by decide) I64 (fun fuel cs x hl h => by
    match cs, hl with
    | [u], _ =>
      obtain ⟨n, e, q⟩ := one_of_trod Tryd.underlying3 h rfl
      exact ⟨n, e, wf_i64 q⟩) hv h
instance : Enc Anc where
  k := 4
  cells := Anc.cells
  len _ := rfl
  one := by
    intro a u hu
    simp only [Anc.cells, List.mem_cons, List.not_mem_nil, or_false] at hu
    rcases hu with rfl | rfl | rfl | rfl <;> rfl
instance : Inhabited Anc := ⟨⟨false, ⟨0, 0, 0⟩⟩⟩
set_option maxRecDepth 20000 in
theorem anc_of_trod {H : Type} {enc : TypeId × Value → H} {w : World} {base : Nat} {spare : Nat → Bool} {held : Bool} {fuel : Nat} {cs : List Value} {x : DataW H × List MemPlace} (hl : cs.length = 4) (h : DataW.trod enc Tryd.prog w base spare held fuel 57 cs = some x) : ∃ o : Anc, cs = o.cells ∧ o.id.In := by
  obtain ⟨xs, n, _, _, _, hxl, hf⟩ := DataW.trod_struct Tryd.underlying57 h
  match cs, hl with
  | [v0, v1, v2, v3], _ =>
    have c34 : Tryd.prog.cellsOf 40 = 3 := by kernel_rfl
    have c3 : Tryd.prog.cellsOf 3 = 1 := by kernel_rfl
    have c4 : Tryd.prog.cellsOf 4 = 1 := by kernel_rfl
    match xs, hxl with
    | [y0, y1], _ =>
      have g0 := hf 0 _ rfl
      have g1 := hf 1 _ rfl
      simp [c34, c3, c4] at g0 g1
      obtain ⟨zs, m, _, _, _, hzl, hz⟩ := DataW.trod_struct Tryd.underlying40 g1
      match zs, hzl with
      | [z0, z1, z2], _ =>
        have k0 := hz 0 _ rfl
        have k1 := hz 1 _ rfl
        have k2 := hz 2 _ rfl
        simp [c3] at k0 k1 k2
        obtain ⟨n0, e0, q0⟩ := one_of_trod Tryd.underlying3 k0 rfl
        obtain ⟨n1, e1, q1⟩ := one_of_trod Tryd.underlying3 k1 rfl
        obtain ⟨n2, e2, q2⟩ := one_of_trod Tryd.underlying3 k2 rfl
        obtain ⟨b, e3, q3⟩ := DataW.trod_bool Tryd.underlying4 g0
        injection e0 with e0
        injection e1 with e1
        injection e2 with e2
        injection e3 with e3
        subst e0 e1 e2 e3
        exact ⟨⟨b, ⟨n0, n1, n2⟩⟩, rfl, wf_i64 q0, wf_i64 q1, wf_i64 q2⟩
set_option maxRecDepth 20000 in
theorem ancs_of_trod {H : Type} {enc : TypeId × Value → H} {W : World} {v : Value} {d : DataW H} {p : List MemPlace} {r : Reach} {b0 : Nat} (hv : Value.okWide Tryd.prog W r b0 72 v) (h : DataW.Trod enc Tryd.prog W 0 (fun _ => true) true 72 v d p) :
    ∃ A n c, ∃ es : List Anc, v = .slice A n c ∧ GRow W (fun b => b < W.heap.size) A n c es ∧ ∀ e ∈ es, e.id.In :=
  grow_of_trod (α := Anc) (t := 57) Tryd.underlying72 (by kernel_rfl) (by decide) (fun e => e.id.In) (fun fuel cs x hl h => anc_of_trod hl h) hv h
end Go.Proofs.YtfihjajllfihjaaDoor
