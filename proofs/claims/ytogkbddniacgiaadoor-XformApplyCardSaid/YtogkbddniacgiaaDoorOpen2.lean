/- Arguments opened: a row of operations that comes in. No condition. -/
import Derived.Test.YtogkbddniacgiaaDoorOpen
import Derived.Test.YtogkbddniacgiaaDoorDone7
namespace Go.Proofs.YtogkbddniacgiaaDoor
set_option linter.unusedSimpArgs false
set_option linter.unusedVariables false
open Go Go.RowKit Go.ChangeShapes Go.WideShapes Go.ChangeAt Go.Deep
section
variable {H : Type} {enc : TypeId × Value → H} {w : World} {base : Nat} {spare : Nat → Bool} {held : Bool}
def Opn.cells (o : Opn) : List Value := [.int .i64 o.kind, .int .i64 o.at_, .int .i32 o.char, .int .i64 o.rep]
set_option maxRecDepth 20000 in
theorem op_of_trod {fuel : Nat} {cs : List Value} {x : DataW H × List MemPlace} (hl : cs.length = 4) (h : DataW.trod enc Tryd.prog w base spare held fuel 58 cs = some x) : ∃ o : Opn, cs = o.cells ∧ o.In := by
  obtain ⟨xs, n, _, _, _, hxl, hf⟩ := DataW.trod_struct Tryd.underlying58 h
  match cs, hl with
  | [v0, v1, v2, v3], _ =>
    have c3 : Tryd.prog.cellsOf 3 = 1 := by kernel_rfl
    have c21 : Tryd.prog.cellsOf 21 = 1 := by kernel_rfl
    match xs, hxl with
    | [y0, y1, y2, y3], _ =>
      have g0 := hf 0 _ rfl
      have g1 := hf 1 _ rfl
      have g2 := hf 2 _ rfl
      have g3 := hf 3 _ rfl
      simp [c3, c21] at g0 g1 g2 g3
      obtain ⟨n0, e0, q0⟩ := one_of_trod Tryd.underlying3 g0 rfl
      obtain ⟨n1, e1, q1⟩ := one_of_trod Tryd.underlying3 g1 rfl
      obtain ⟨n2, e2, q2⟩ := one_of_trod Tryd.underlying21 g2 rfl
      obtain ⟨n3, e3, q3⟩ := one_of_trod Tryd.underlying3 g3 rfl
      injection e0 with e0
      injection e1 with e1
      injection e2 with e2
      injection e3 with e3
      subst e0 e1 e2 e3
      exact ⟨⟨n0, n1, n2, n3⟩, rfl, wf_i64 q0, wf_i64 q1, wf_i32 q2, wf_i64 q3⟩
end
theorem gcells_length4 (es : List Opn) : (gcells es).length = es.length * 4 := by
  rw [gcells_length]
  rfl
set_option maxRecDepth 20000 in
theorem ops_of_cells {H : Type} {enc : TypeId × Value → H} {W : World} {v : Value} {fuel : Nat} {x : DataW H × List MemPlace} (h : DataW.trod enc Tryd.prog W 0 (fun _ => true) true fuel 56 [v] = some x) :
    ∃ A n c, ∃ es : List Opn, v = .slice A n c ∧ GRow W (fun b => b < W.heap.size) A n c es ∧ ∀ e ∈ es, e.In := by
  rcases open_slice Tryd.underlying56 h with ⟨h0, _⟩ | ⟨a, len, cap, m, n, D, Pl, h0, _, hlc, hcm, hm, _, hx⟩
  · injection h0 with h0 _
    exact ⟨none, 0, 0, [], h0, GRow.nil _ _ _ _ (Nat.zero_le _), fun e he => by cases he⟩
  · injection h0 with h0 _
    have hm' : len ≤ m := by rw [hm]; simpa using hlc
    have each : ∀ i, i < m → ∃ e : Opn, (∀ j u, e.cells[j]? = some u → W.cell? (a.add (i * 4 + j)) = some u) ∧ e.In := by
      intro i hi
      obtain ⟨cs', h1, h2⟩ := hx i hi
      rw [show Tryd.prog.cellsOf 58 = 4 from by kernel_rfl] at h1
      obtain ⟨_, hlen, hcell⟩ := World.cells?_some h1
      obtain ⟨e, he, hin⟩ := op_of_trod hlen h2
      refine ⟨e, fun j u hu => ?_, hin⟩
      have hj : j < 4 := (List.getElem?_eq_some_iff.1 hu).1
      have := hcell j hj
      rw [he, hu] at this
      rw [add_add] at this
      exact this
    haveI : Inhabited Opn := ⟨⟨0, 0, 0, 0⟩⟩
    obtain ⟨E, hE⟩ := choose_lt each
    refine ⟨some a, len, cap, (List.range len).map E, h0, ⟨by simp, hlc, hcm, fun hn => ?_⟩, ?_⟩
    · obtain ⟨b, o, s⟩ := a
      have h00 := (hE 0 (by omega)).1 0 _ rfl
      have hs : s = none := by simpa [Addr.add] using World.cell?_spot h00
      subst hs
      refine ⟨b, o, rfl, lt_of_cell' h00, lt_of_cell' h00, fun j u hu => ?_⟩
      have hjl := (List.getElem?_eq_some_iff.1 hu).1
      rw [gcells_length4] at hjl
      simp only [List.length_map, List.length_range] at hjl
      have hi : j / 4 < len := by omega
      have hq : ((List.range len).map E)[j / 4]? = some (E (j / 4)) := by simp [hi]
      have hc := gcells_at hq (j := j % 4) (Nat.mod_lt _ (by decide))
      rw [show j / 4 * (Enc.k Opn) + j % 4 = j from by show j / 4 * 4 + j % 4 = j; omega, hu] at hc
      have := (hE (j / 4) (by omega)).1 (j % 4) u hc.symm
      rw [show j / 4 * 4 + j % 4 = j from by omega] at this
      rw [show (⟨b, o, none⟩ : Addr).add j = ⟨b, o + j, none⟩ from by unfold Addr.add; split <;> simp_all] at this
      exact this
    · intro e he
      obtain ⟨i, hi, rfl⟩ := List.mem_map.1 he
      exact (hE i (by have := List.mem_range.1 hi; omega)).2
set_option maxRecDepth 100000 in
theorem ops_of_trod {H : Type} {enc : TypeId × Value → H} {W : World} {v : Value} {d : DataW H} {p : List MemPlace} {r : Reach} {b0 : Nat} (hv : Value.okWide Tryd.prog W r b0 56 v) (h : DataW.Trod enc Tryd.prog W 0 (fun _ => true) true 56 v d p) :
    ∃ A n c, ∃ es : List Opn, v = .slice A n c ∧ GRow W (fun b => b < W.heap.size) A n c es ∧ ∀ e ∈ es, e.In := by
  obtain ⟨fuel, h⟩ := h
  obtain ⟨a', len', cap', rfl⟩ := okWide_slice Tryd.underlying56 hv
  exact ops_of_cells h
end Go.Proofs.YtogkbddniacgiaaDoor
