/- Part of a proof: what functions of the program compute. Conditions: as each theorem says. -/
import Derived.Test.YteggpddlkkjmjaaGreatDoorQ11
set_option linter.unusedSimpArgs false
set_option linter.unusedVariables false
set_option maxRecDepth 100000
namespace Go.Proofs.YteggpddlkkjmjaaGreatDoor
open Go Go.RowKit Go.ChangeShapes Go.WideShapes Go.ChangeAt Go.Deep
def El.In (e : El) : Prop := (-9223372036854775808 ≤ e.epoch ∧ e.epoch ≤ 9223372036854775807) ∧ (-9223372036854775808 ≤ e.rep ∧ e.rep ≤ 9223372036854775807) ∧ (-9223372036854775808 ≤ e.num ∧ e.num ≤ 9223372036854775807) ∧ (-2147483648 ≤ e.char ∧ e.char ≤ 2147483647) ∧ (-9223372036854775808 ≤ e.hides ∧ e.hides ≤ 9223372036854775807)
instance : Inhabited El := ⟨⟨0, 0, 0, 0, 0⟩⟩
section
variable {H : Type} {enc : TypeId × Value → H} {w : World} {base : Nat} {spare : Nat → Bool} {held : Bool}
theorem el_of_trod {fuel : Nat} {cs : List Value} {x : DataW H × List MemPlace} (hl : cs.length = 5) (h : DataW.trod enc Tryz.prog w base spare held fuel 113 cs = some x) : ∃ e : El, cs = e.cells ∧ e.In := by
 obtain ⟨xs, n, _, _, _, hxl, hf⟩ := DataW.trod_struct Tryz.underlying113 h
 match cs, hl with
 | [v0, v1, v2, v3, v4], _ =>
  have c34 : Tryz.prog.cellsOf 70 = 3 := by kernel_rfl
  have c3 : Tryz.prog.cellsOf 3 = 1 := by kernel_rfl
  have c21 : Tryz.prog.cellsOf 21 = 1 := by kernel_rfl
  match xs, hxl with
  | [y0, y1, y2], _ =>
   have g0 := hf 0 _ rfl
   have g1 := hf 1 _ rfl
   have g2 := hf 2 _ rfl
   simp [c34, c3, c21] at g0 g1 g2
   obtain ⟨zs, m, _, _, _, hzl, hz⟩ := DataW.trod_struct Tryz.underlying70 g0
   match zs, hzl with
   | [z0, z1, z2], _ =>
    have k0 := hz 0 _ rfl
    have k1 := hz 1 _ rfl
    have k2 := hz 2 _ rfl
    simp [c3] at k0 k1 k2
    obtain ⟨n0, e0, q0⟩ := one_of_trod Tryz.underlying3 k0 rfl
    obtain ⟨n1, e1, q1⟩ := one_of_trod Tryz.underlying3 k1 rfl
    obtain ⟨n2, e2, q2⟩ := one_of_trod Tryz.underlying3 k2 rfl
    obtain ⟨n3, e3, q3⟩ := one_of_trod Tryz.underlying21 g1 rfl
    obtain ⟨n4, e4, q4⟩ := one_of_trod Tryz.underlying3 g2 rfl
    injection e0 with e0
    injection e1 with e1
    injection e2 with e2
    injection e3 with e3
    injection e4 with e4
    subst e0 e1 e2 e3 e4
    exact ⟨⟨n0, n1, n2, n3, n4⟩, rfl, wf_i64 q0, wf_i64 q1, wf_i64 q2, wf_i32 q3, wf_i64 q4⟩
end
theorem row_of_cells {H : Type} {enc : TypeId × Value → H} {W : World} {v : Value} {fuel : Nat} {x : DataW H × List MemPlace} (h : DataW.trod enc Tryz.prog W 0 (fun _ => true) true fuel 51 [v] = some x) :
 ∃ A n c es, v = .slice A n c ∧ Row W (fun b => b < W.heap.size) A n c es ∧ ∀ e ∈ es, e.In := by
 rcases open_slice Tryz.underlying51 h with ⟨h0, _⟩ | ⟨a, len, cap, m, n, D, Pl, h0, _, hlc, hcm, hm, _, hx⟩
 · injection h0 with h0 _
   exact ⟨none, 0, 0, [], h0, Row.nil _ _ _ _ (Nat.zero_le _), fun e he => by cases he⟩
 · injection h0 with h0 _
   have hm' : len ≤ m := by rw [hm]; simpa using hlc
   have each : ∀ i, i < m → ∃ e : El, (∀ j u, e.cells[j]? = some u → W.cell? (a.add (i * 5 + j)) = some u) ∧ e.In := by
    intro i hi
    obtain ⟨cs', h1, h2⟩ := hx i hi
    rw [show Tryz.prog.cellsOf 113 = 5 from by kernel_rfl] at h1
    obtain ⟨_, hlen, hcell⟩ := World.cells?_some h1
    obtain ⟨e, he, hin⟩ := el_of_trod hlen h2
    refine ⟨e, fun j u hu => ?_, hin⟩
    have hj : j < 5 := (List.getElem?_eq_some_iff.1 hu).1
    have := hcell j hj
    rw [he, hu] at this
    rw [add_add] at this
    exact this
   obtain ⟨E, hE⟩ := choose_lt each
   refine ⟨some a, len, cap, (List.range len).map E, h0, ⟨by simp, hlc, hcm, fun hn => ?_⟩, ?_⟩
   · obtain ⟨b, o, s⟩ := a
     have h00 := (hE 0 (by omega)).1 0 _ rfl
     have hs : s = none := by simpa [Addr.add] using World.cell?_spot h00
     subst hs
     refine ⟨b, o, rfl, lt_of_cell' h00, fun j u hu => ?_⟩
     have hjl := (List.getElem?_eq_some_iff.1 hu).1
     rw [cellsOf_length] at hjl
     simp only [List.length_map, List.length_range] at hjl
     have hi : j / 5 < len := by omega
     have hq : ((List.range len).map E)[j / 5]? = some (E (j / 5)) := by simp [hi]
     have hc := cellsOf_at hq (j := j % 5) (Nat.mod_lt _ (by decide))
     rw [show j / 5 * 5 + j % 5 = j from by omega, hu] at hc
     have := (hE (j / 5) (by omega)).1 (j % 5) u hc.symm
     rw [show j / 5 * 5 + j % 5 = j from by omega] at this
     rw [show (⟨b, o, none⟩ : Addr).add j = ⟨b, o + j, none⟩ from by unfold Addr.add; split <;> simp_all] at this
     exact this
   · intro e he
     obtain ⟨i, hi, rfl⟩ := List.mem_map.1 he
     exact (hE i (by have := List.mem_range.1 hi; omega)).2
theorem row_of_trod {H : Type} {enc : TypeId × Value → H} {W : World} {v : Value} {d : DataW H} {p : List MemPlace} {r : Reach} {b0 : Nat} (hv : Value.okWide Tryz.prog W r b0 51 v) (h : DataW.Trod enc Tryz.prog W 0 (fun _ => true) true 51 v d p) :
 ∃ A n c es, v = .slice A n c ∧ Row W (fun b => b < W.heap.size) A n c es ∧ ∀ e ∈ es, e.In := by
 obtain ⟨fuel, h⟩ := h
 obtain ⟨a', len', cap', rfl⟩ := okWide_slice Tryz.underlying51 hv
 exact row_of_cells h
end Go.Proofs.YteggpddlkkjmjaaGreatDoor
