/- Part of a proof: what functions of the program compute. Conditions: as each theorem says. -/
import Derived.Test.YteggpddlkkjmjaaGreatDoorQ18
import Derived.Test.YteggpddlkkjmjaaGreatDoorQ25
set_option linter.unusedSimpArgs false
set_option linter.unusedVariables false
set_option maxRecDepth 100000
namespace Go.Proofs.YteggpddlkkjmjaaGreatDoor
open Go Go.RowKit Go.ChangeShapes Go.WideShapes Go.ChangeAt Go.Deep
theorem gcells_length4 (es : List Opn) : (gcells es).length = es.length * 4 := by
 rw [gcells_length]
 rfl
theorem ops_of_cells {H : Type} {enc : TypeId × Value → H} {W : World} {v : Value} {fuel : Nat} {x : DataW H × List MemPlace} (h : DataW.trod enc Tryz.prog W 0 (fun _ => true) true fuel 75 [v] = some x) :
 ∃ A n c, ∃ es : List Opn, v = .slice A n c ∧ GRow W (fun b => b < W.heap.size) A n c es ∧ ∀ e ∈ es, e.In := by
 rcases open_slice Tryz.underlying75 h with ⟨h0, _⟩ | ⟨a, len, cap, m, n, D, Pl, h0, _, hlc, hcm, hm, _, hx⟩
 · injection h0 with h0 _
   exact ⟨none, 0, 0, [], h0, GRow.nil _ _ _ _ (Nat.zero_le _), fun e he => by cases he⟩
 · injection h0 with h0 _
   have hm' : len ≤ m := by rw [hm]; simpa using hlc
   have each : ∀ i, i < m → ∃ e : Opn, (∀ j u, e.cells[j]? = some u → W.cell? (a.add (i * 4 + j)) = some u) ∧ e.In := by
    intro i hi
    obtain ⟨cs', h1, h2⟩ := hx i hi
    rw [show Tryz.prog.cellsOf 37 = 4 from by kernel_rfl] at h1
    obtain ⟨_, hlen, hcell⟩ := World.cells?_some h1
    obtain ⟨e, he, hin⟩ := op_of_trod hlen h2
    refine ⟨e, fun j u hu => ?_, hin⟩
    have hj : j < 4 := (List.getElem?_eq_some_iff.1 hu).1
    have := hcell j hj
    rw [he, hu] at this
    rw [add_add] at this
    exact this
   haveI : Inhabited Opn := ⟨⟨0, 0, 0, 0⟩⟩
   obtain ⟨E, hE⟩ := choose_lt each
   refine ⟨some a, len, cap, (List.range len).map E, h0, ⟨by simp, hlc, hcm, fun hn => ?_⟩, ?_⟩
   · obtain ⟨b, o, s⟩ := a
     have h00 := (hE 0 (by omega)).1 0 _ rfl
     have hs : s = none := by simpa [Addr.add] using World.cell?_spot h00
     subst hs
     refine ⟨b, o, rfl, lt_of_cell' h00, lt_of_cell' h00, fun j u hu => ?_⟩
     have hjl := (List.getElem?_eq_some_iff.1 hu).1
     rw [gcells_length4] at hjl
     simp only [List.length_map, List.length_range] at hjl
     have hi : j / 4 < len := by omega
     have hq : ((List.range len).map E)[j / 4]? = some (E (j / 4)) := by simp [hi]
     have hc := gcells_at hq (j := j % 4) (Nat.mod_lt _ (by decide))
     rw [show j / 4 * (Enc.k Opn) + j % 4 = j from by show j / 4 * 4 + j % 4 = j; omega, hu] at hc
     have := (hE (j / 4) (by omega)).1 (j % 4) u hc.symm
     rw [show j / 4 * 4 + j % 4 = j from by omega] at this
     rw [show (⟨b, o, none⟩ : Addr).add j = ⟨b, o + j, none⟩ from by unfold Addr.add; split <;> simp_all] at this
     exact this
   · intro e he
     obtain ⟨i, hi, rfl⟩ := List.mem_map.1 he
     exact (hE i (by have := List.mem_range.1 hi; omega)).2
theorem ops_of_trod {H : Type} {enc : TypeId × Value → H} {W : World} {v : Value} {d : DataW H} {p : List MemPlace} {r : Reach} {b0 : Nat} (hv : Value.okWide Tryz.prog W r b0 75 v) (h : DataW.Trod enc Tryz.prog W 0 (fun _ => true) true 75 v d p) :
 ∃ A n c, ∃ es : List Opn, v = .slice A n c ∧ GRow W (fun b => b < W.heap.size) A n c es ∧ ∀ e ∈ es, e.In := by
 obtain ⟨fuel, h⟩ := h
 obtain ⟨a', len', cap', rfl⟩ := okWide_slice Tryz.underlying75 hv
 exact ops_of_cells h
end Go.Proofs.YteggpddlkkjmjaaGreatDoor
