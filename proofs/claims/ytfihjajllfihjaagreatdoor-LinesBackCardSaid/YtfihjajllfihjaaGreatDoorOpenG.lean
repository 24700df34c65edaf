/- Arguments opened: a row of whatever lies in cells of one kind each. Condition: each element opens. -/
import Derived.Test.YtfihjajllfihjaaGreatDoorOpen
import Derived.Test.YtfihjajllfihjaaGreatDoorGen
namespace Go.Proofs.YtfihjajllfihjaaGreatDoor
set_option linter.unusedSimpArgs false
set_option linter.unusedVariables false
open Go Go.RowKit Go.ChangeShapes Go.WideShapes Go.ChangeAt Go.Deep
set_option maxRecDepth 20000 in
theorem grow_of_trod {α : Type} [Enc α] [Inhabited α] {H : Type} {enc : TypeId × Value → H} {W : World} {t u : TypeId} {v : Value} {d : DataW H} {p : List MemPlace} {r : Reach} {b0 : Nat} (hu : Tryz.prog.underlying u = some (.slice t)) (hk : Tryz.prog.cellsOf t = Enc.k α) (hk0 : 0 < Enc.k α) (Pr : α → Prop)
    (hel : ∀ fuel cs x, cs.length = Enc.k α → DataW.trod enc Tryz.prog W 0 (fun _ => true) true fuel t cs = some x → ∃ e : α, cs = Enc.cells e ∧ Pr e)
    (hv : Value.okWide Tryz.prog W r b0 u v) (h : DataW.Trod enc Tryz.prog W 0 (fun _ => true) true u v d p) :
    ∃ A n c, ∃ es : List α, v = .slice A n c ∧ GRow W (fun b => b < W.heap.size) A n c es ∧ ∀ e ∈ es, Pr e := by
  obtain ⟨fuel, h⟩ := h
  obtain ⟨a', len', cap', rfl⟩ := okWide_slice hu hv
  rcases open_slice (cs := [.slice a' len' cap']) hu h with ⟨h0, _⟩ | ⟨a, len, cap, m, n, D, Pl, h0, _, hlc, hcm, hm, _, hx⟩
  · injection h0 with h0 _
    exact ⟨none, 0, 0, [], h0, GRow.nil _ _ _ _ (Nat.zero_le _), fun e he => by cases he⟩
  · injection h0 with h0 _
    have hm' : len ≤ m := by rw [hm]; simpa using hlc
    have each : ∀ i, i < m → ∃ e : α, (∀ j u, (Enc.cells e)[j]? = some u → W.cell? (a.add (i * Enc.k α + j)) = some u) ∧ Pr e := by
      intro i hi
      obtain ⟨cs', h1, h2⟩ := hx i hi
      rw [hk] at h1
      obtain ⟨_, hlen, hcell⟩ := World.cells?_some h1
      obtain ⟨e, he, hin⟩ := hel _ _ _ hlen h2
      refine ⟨e, fun j u hu => ?_, hin⟩
      have hj : j < Enc.k α := by
        have := (List.getElem?_eq_some_iff.1 hu).1
        rw [Enc.len] at this
        exact this
      have := hcell j hj
      rw [he, hu] at this
      rw [add_add] at this
      exact this
    obtain ⟨E, hE⟩ := choose_lt each
    refine ⟨some a, len, cap, (List.range len).map E, h0, ⟨by simp, hlc, hcm, fun hn => ?_⟩, ?_⟩
    · obtain ⟨b, o, s⟩ := a
      have hl0 : 0 < (Enc.cells (E 0)).length := by rw [Enc.len]; exact hk0
      have h00 := (hE 0 (by omega)).1 0 _ (List.getElem?_eq_getElem hl0)
      have hs : s = none := by simpa [Addr.add] using World.cell?_spot h00
      subst hs
      rw [Nat.zero_mul] at h00
      have hlt : b < W.heap.size := by simpa [Addr.add] using lt_of_cell' h00
      refine ⟨b, o, rfl, hlt, hlt, fun j u hu => ?_⟩
      have hjl := (List.getElem?_eq_some_iff.1 hu).1
      rw [gcells_length] at hjl
      simp only [List.length_map, List.length_range] at hjl
      have hi : j / Enc.k α < len := Nat.div_lt_of_lt_mul (by rw [Nat.mul_comm]; exact hjl)
      have hq : ((List.range len).map E)[j / Enc.k α]? = some (E (j / Enc.k α)) := by simp [hi]
      have hc := gcells_at hq (j := j % Enc.k α) (Nat.mod_lt _ hk0)
      rw [Nat.div_add_mod', hu] at hc
      have := (hE (j / Enc.k α) (by omega)).1 (j % Enc.k α) u hc.symm
      rw [Nat.div_add_mod'] at this
      rw [show (⟨b, o, none⟩ : Addr).add j = ⟨b, o + j, none⟩ from by unfold Addr.add; split <;> simp_all] at this
      exact this
    · intro e he
      obtain ⟨i, hi, rfl⟩ := List.mem_map.1 he
      exact (hE i (by have := List.mem_range.1 hi; omega)).2
end Go.Proofs.YtfihjajllfihjaaGreatDoor
