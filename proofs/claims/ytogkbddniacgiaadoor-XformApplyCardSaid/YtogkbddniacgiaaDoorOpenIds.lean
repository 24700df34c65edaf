/- Arguments opened: a row of names that comes in. No condition. -/
import Derived.Test.YtogkbddniacgiaaDoorOpen
import Derived.Test.YtogkbddniacgiaaDoorMap
namespace Go.Proofs.YtogkbddniacgiaaDoor
set_option linter.unusedSimpArgs false
set_option linter.unusedVariables false
open Go Go.RowKit Go.ChangeShapes Go.WideShapes Go.ChangeAt Go.Deep
instance : Enc Nm where
  k := 3
  cells i := [.int .i64 i.epoch, .int .i64 i.rep, .int .i64 i.num]
  len _ := rfl
  one := by
    intro a u hu
    simp only [List.mem_cons, List.not_mem_nil, or_false] at hu
    rcases hu with rfl | rfl | rfl <;> rfl
section
variable {H : Type} {enc : TypeId × Value → H} {w : World} {base : Nat} {spare : Nat → Bool} {held : Bool}
def Nm.cells (i : Nm) : List Value := [.int .i64 i.epoch, .int .i64 i.rep, .int .i64 i.num]
set_option maxRecDepth 20000 in
theorem nm_of_trod {fuel : Nat} {cs : List Value} {x : DataW H × List MemPlace} (hl : cs.length = 3) (h : DataW.trod enc Tryd.prog w base spare held fuel 34 cs = some x) : ∃ i : Nm, cs = i.cells ∧ i.In := by
  obtain ⟨xs, n, _, _, _, hxl, hf⟩ := DataW.trod_struct Tryd.underlying34 h
  match cs, hl with
  | [v0, v1, v2], _ =>
    have c3 : Tryd.prog.cellsOf 3 = 1 := by kernel_rfl
    match xs, hxl with
    | [y0, y1, y2], _ =>
      have g0 := hf 0 _ rfl
      have g1 := hf 1 _ rfl
      have g2 := hf 2 _ rfl
      simp [c3] at g0 g1 g2
      obtain ⟨n0, e0, q0⟩ := one_of_trod Tryd.underlying3 g0 rfl
      obtain ⟨n1, e1, q1⟩ := one_of_trod Tryd.underlying3 g1 rfl
      obtain ⟨n2, e2, q2⟩ := one_of_trod Tryd.underlying3 g2 rfl
      injection e0 with e0
      injection e1 with e1
      injection e2 with e2
      subst e0 e1 e2
      exact ⟨⟨n0, n1, n2⟩, rfl, wf_i64 q0, wf_i64 q1, wf_i64 q2⟩
end
theorem gcells_length3 (es : List Nm) : (gcells es).length = es.length * 3 := by
  rw [gcells_length]
  rfl
set_option maxRecDepth 20000 in
theorem ids_of_cells {H : Type} {enc : TypeId × Value → H} {W : World} {v : Value} {fuel : Nat} {x : DataW H × List MemPlace} (h : DataW.trod enc Tryd.prog W 0 (fun _ => true) true fuel 112 [v] = some x) :
    ∃ A n c, ∃ es : List Nm, v = .slice A n c ∧ GRow W (fun b => b < W.heap.size) A n c es ∧ ∀ e ∈ es, e.In := by
  rcases open_slice Tryd.underlying112 h with ⟨h0, _⟩ | ⟨a, len, cap, m, n, D, Pl, h0, _, hlc, hcm, hm, _, hx⟩
  · injection h0 with h0 _
    exact ⟨none, 0, 0, [], h0, GRow.nil _ _ _ _ (Nat.zero_le _), fun e he => by cases he⟩
  · injection h0 with h0 _
    have hm' : len ≤ m := by rw [hm]; simpa using hlc
    have each : ∀ i, i < m → ∃ e : Nm, (∀ j u, e.cells[j]? = some u → W.cell? (a.add (i * 3 + j)) = some u) ∧ e.In := by
      intro i hi
      obtain ⟨cs', h1, h2⟩ := hx i hi
      rw [show Tryd.prog.cellsOf 34 = 3 from by kernel_rfl] at h1
      obtain ⟨_, hlen, hcell⟩ := World.cells?_some h1
      obtain ⟨e, he, hin⟩ := nm_of_trod hlen h2
      refine ⟨e, fun j u hu => ?_, hin⟩
      have hj : j < 3 := (List.getElem?_eq_some_iff.1 hu).1
      have := hcell j hj
      rw [he, hu] at this
      rw [add_add] at this
      exact this
    haveI : Inhabited Nm := ⟨⟨0, 0, 0⟩⟩
    obtain ⟨E, hE⟩ := choose_lt each
    refine ⟨some a, len, cap, (List.range len).map E, h0, ⟨by simp, hlc, hcm, fun hn => ?_⟩, ?_⟩
    · obtain ⟨b, o, s⟩ := a
      have h00 := (hE 0 (by omega)).1 0 _ rfl
      have hs : s = none := by simpa [Addr.add] using World.cell?_spot h00
      subst hs
      refine ⟨b, o, rfl, lt_of_cell' h00, lt_of_cell' h00, fun j u hu => ?_⟩
      have hjl := (List.getElem?_eq_some_iff.1 hu).1
      rw [gcells_length3] at hjl
      simp only [List.length_map, List.length_range] at hjl
      have hi : j / 3 < len := by omega
      have hq : ((List.range len).map E)[j / 3]? = some (E (j / 3)) := by simp [hi]
      have hc := gcells_at hq (j := j % 3) (Nat.mod_lt _ (by decide))
      rw [show j / 3 * (Enc.k Nm) + j % 3 = j from by show j / 3 * 3 + j % 3 = j; omega, hu] at hc
      have := (hE (j / 3) (by omega)).1 (j % 3) u hc.symm
      rw [show j / 3 * 3 + j % 3 = j from by omega] at this
      rw [show (⟨b, o, none⟩ : Addr).add j = ⟨b, o + j, none⟩ from by unfold Addr.add; split <;> simp_all] at this
      exact this
    · intro e he
      obtain ⟨i, hi, rfl⟩ := List.mem_map.1 he
      exact (hE i (by have := List.mem_range.1 hi; omega)).2
set_option maxRecDepth 100000 in
theorem ids_of_trod {H : Type} {enc : TypeId × Value → H} {W : World} {v : Value} {d : DataW H} {p : List MemPlace} {r : Reach} {b0 : Nat} (hv : Value.okWide Tryd.prog W r b0 112 v) (h : DataW.Trod enc Tryd.prog W 0 (fun _ => true) true 112 v d p) :
    ∃ A n c, ∃ es : List Nm, v = .slice A n c ∧ GRow W (fun b => b < W.heap.size) A n c es ∧ ∀ e ∈ es, e.In := by
  obtain ⟨fuel, h⟩ := h
  obtain ⟨a', len', cap', rfl⟩ := okWide_slice Tryd.underlying112 hv
  exact ids_of_cells h
end Go.Proofs.YtogkbddniacgiaaDoor
