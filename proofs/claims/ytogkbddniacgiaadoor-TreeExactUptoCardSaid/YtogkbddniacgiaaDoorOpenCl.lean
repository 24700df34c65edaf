/- Arguments opened: a row of calls of chapter 4, each with its elements. No condition. -/
import Derived.Test.YtogkbddniacgiaaDoorTreeChunks
import Derived.Test.YtogkbddniacgiaaDoorOpen
namespace Go.Proofs.YtogkbddniacgiaaDoor
set_option linter.unusedSimpArgs false
set_option linter.unusedVariables false
open Go Go.RowKit Go.ChangeShapes Go.WideShapes Go.ChangeAt Go.Deep
set_option maxRecDepth 20000 in
theorem cl_of_trod {H : Type} {enc : TypeId × Value → H} {W : World} {fuel : Nat} {cs : List Value} {x : DataW H × List MemPlace} (hl : cs.length = 4) (h : DataW.trod enc Tryd.prog W 0 (fun _ => true) true fuel 76 cs = some x) :
    ∃ (o : Cl) (ls : List El), cs = o.cells.toList ∧ Row W (fun b => b < W.heap.size) o.b o.m o.d ls ∧ W64 o.do_ ∧ W64 o.i ∧ W64 o.n := by
  obtain ⟨xs, n, _, _, _, hxl, hf⟩ := DataW.trod_struct Tryd.underlying76 h
  have c3 : Tryd.prog.cellsOf 3 = 1 := by kernel_rfl
  have c22 : Tryd.prog.cellsOf 22 = 1 := by kernel_rfl
  match cs, hl with
  | [v0, v1, v2, v3], _ =>
    match xs, hxl with
    | [y0, y1, y2, y3], _ =>
      have g0 := hf 0 _ rfl
      have g1 := hf 1 _ rfl
      have g2 := hf 2 _ rfl
      have g3 := hf 3 _ rfl
      simp [c3, c22] at g0 g1 g2 g3
      obtain ⟨n0, e0, q0⟩ := one_of_trod Tryd.underlying3 g0 rfl
      obtain ⟨n1, e1, q1⟩ := one_of_trod Tryd.underlying3 g1 rfl
      obtain ⟨n2, e2, q2⟩ := one_of_trod Tryd.underlying3 g2 rfl
      obtain ⟨A, m, d, ls, rfl, hr, _⟩ := row_of_cells g3
      injection e0 with e0
      injection e1 with e1
      injection e2 with e2
      subst e0 e1 e2
      exact ⟨⟨n0, n1, n2, A, m, d⟩, ls, rfl, hr, wf_i64 q0, wf_i64 q1, wf_i64 q2⟩
set_option maxRecDepth 20000 in
theorem clrow_of_trod {H : Type} {enc : TypeId × Value → H} {W : World} {v : Value} {d : DataW H} {p : List MemPlace} {r : Reach} {b0 : Nat} (hv : Value.okWide Tryd.prog W r b0 74 v) (h : DataW.Trod enc Tryd.prog W 0 (fun _ => true) true 74 v d p) :
    ∃ A n c, v = .slice A n c ∧ ClRow W W.heap.size A n c := by
  obtain ⟨fuel, h⟩ := h
  obtain ⟨a', len', cap', rfl⟩ := okWide_slice Tryd.underlying74 hv
  have h' : DataW.trod enc Tryd.prog W 0 (fun _ => true) true fuel 74 [.slice a' len' cap'] = some (d, p) := h
  rcases open_slice Tryd.underlying74 h' with ⟨h0, _⟩ | ⟨a, len, cap, m, n, D, Pl, h0, _, hlc, hcm, hm, _, hx⟩
  · injection h0 with h0 _
    exact ⟨none, 0, 0, h0, Nat.le_refl _, Nat.zero_le _, fun k hk => absurd hk (Nat.not_lt_zero _)⟩
  · injection h0 with h0 _
    have hm' : len ≤ m := by rw [hm]; simpa using hlc
    obtain ⟨b, off, s⟩ := a
    refine ⟨some ⟨b, off, s⟩, len, cap, h0, hlc, hcm, fun k hk => ?_⟩
    have hs : s = none := by
      obtain ⟨cs', h1, h2⟩ := hx 0 (by omega)
      rw [show Tryd.prog.cellsOf 76 = 4 from by kernel_rfl] at h1
      obtain ⟨_, hlen, hcell⟩ := World.cells?_some h1
      obtain ⟨o, ls, he, _⟩ := cl_of_trod hlen h2
      have c0 := hcell 0 (by decide)
      rw [he] at c0
      simpa [Addr.add] using World.cell?_spot c0
    subst hs
    obtain ⟨cs', h1, h2⟩ := hx k (by omega)
    rw [show Tryd.prog.cellsOf 76 = 4 from by kernel_rfl] at h1
    obtain ⟨_, hlen, hcell⟩ := World.cells?_some h1
    obtain ⟨o, ls, he, hr, i1, i2, i3⟩ := cl_of_trod hlen h2
    have c0 := hcell 0 (by decide)
    have c1 := hcell 1 (by decide)
    have c2 := hcell 2 (by decide)
    have c3 := hcell 3 (by decide)
    rw [he, add_add] at c0 c1 c2 c3
    have ea : ∀ j, (⟨b, off, none⟩ : Addr).add j = ⟨b, off + j, none⟩ := fun j => by unfold Addr.add; split <;> simp_all
    rw [ea] at c0 c1 c2 c3
    exact ⟨b, off, o, ls, rfl, lt_of_cell' c0, c0, c1, c2, c3, hr, i1, i2, i3⟩
end Go.Proofs.YtogkbddniacgiaaDoor
