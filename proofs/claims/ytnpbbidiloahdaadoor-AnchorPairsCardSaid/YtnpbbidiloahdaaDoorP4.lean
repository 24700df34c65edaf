/- Arguments opened: a row of elements that comes in; the reasons that the statement lists. No condition. Arguments opened: a row of whatever lies in cells of one kind each. Condition: each element opens. What a row of elements weighs: the walk of weigh. Conditions: the row lies in memory; it has fewer than 2^40 elements. A node made of a leaf and its sides: the walk of made. Conditions: the sides and the leaf lie in memory, the leaf is not empty, all together fewer than 2^40 elements. -/
import Derived.Test.YtnpbbidiloahdaaDoorSShell
import Derived.Test.YtnpbbidiloahdaaDoorP3
import Derived.Deep.Slices
import Derived.Deep.Strs
import Derived.Test.YtnpbbidiloahdaaDoorP2
namespace Go.Proofs.YtnpbbidiloahdaaDoor
set_option linter.unusedSimpArgs false
set_option linter.unusedVariables false
open Go Go.RowKit Go.ChangeShapes Go.WideShapes Go.ChangeAt Go.Deep

/-- an element's numbers fit their kinds -/
def El.In (e : El) : Prop := (-9223372036854775808 ≤ e.epoch ∧ e.epoch ≤ 9223372036854775807) ∧ (-9223372036854775808 ≤ e.rep ∧ e.rep ≤ 9223372036854775807) ∧ (-9223372036854775808 ≤ e.num ∧ e.num ≤ 9223372036854775807) ∧ (-2147483648 ≤ e.char ∧ e.char ≤ 2147483647) ∧ (-9223372036854775808 ≤ e.hides ∧ e.hides ≤ 9223372036854775807)
instance : Inhabited El := ⟨⟨0, 0, 0, 0, 0⟩⟩
theorem wf_i64 {n : Int} (h : (Lit.int .i64 n).wf = true) : -9223372036854775808 ≤ n ∧ n ≤ 9223372036854775807 := by
  simp only [Lit.wf, Bool.and_eq_true, decide_eq_true_eq, show IntKind.i64.min = -9223372036854775808 from by decide, show IntKind.i64.max = 9223372036854775807 from by decide] at h
  exact h
theorem wf_i32 {n : Int} (h : (Lit.int .i32 n).wf = true) : -2147483648 ≤ n ∧ n ≤ 2147483647 := by
  simp only [Lit.wf, Bool.and_eq_true, decide_eq_true_eq, show IntKind.i32.min = -2147483648 from by decide, show IntKind.i32.max = 2147483647 from by decide] at h
  exact h
section
variable {H : Type} {enc : TypeId × Value → H} {w : World} {base : Nat} {spare : Nat → Bool} {held : Bool}
theorem one_of_trod {t : TypeId} {k : IntKind} {fuel : Nat} {cs : List Value} {y : Option (DataW H × List MemPlace)} {z : DataW H × List MemPlace} (ht : Tryd.prog.underlying t = some (.int k)) (h : DataW.trod enc Tryd.prog w base spare held fuel t cs = y) (hy : y = some z) : ∃ n, cs = [.int k n] ∧ (Lit.int k n).wf = true := by
  subst hy
  obtain ⟨n, h1, _, h2⟩ := DataW.trod_int ht h
  exact ⟨n, h1, h2⟩
set_option maxRecDepth 20000 in
theorem el_of_trod {fuel : Nat} {cs : List Value} {x : DataW H × List MemPlace} (hl : cs.length = 5) (h : DataW.trod enc Tryd.prog w base spare held fuel 48 cs = some x) : ∃ e : El, cs = e.cells ∧ e.In := by
  obtain ⟨xs, n, _, _, _, hxl, hf⟩ := DataW.trod_struct Tryd.underlying48 h
  match cs, hl with
  | [v0, v1, v2, v3, v4], _ =>
    have c34 : Tryd.prog.cellsOf 30 = 3 := by kernel_rfl
    have c3 : Tryd.prog.cellsOf 3 = 1 := by kernel_rfl
    have c21 : Tryd.prog.cellsOf 21 = 1 := by kernel_rfl
    match xs, hxl with
    | [y0, y1, y2], _ =>
      have g0 := hf 0 _ rfl
      have g1 := hf 1 _ rfl
      have g2 := hf 2 _ rfl
      simp [c34, c3, c21] at g0 g1 g2
      obtain ⟨zs, m, _, _, _, hzl, hz⟩ := DataW.trod_struct Tryd.underlying30 g0
      match zs, hzl with
      | [z0, z1, z2], _ =>
        have k0 := hz 0 _ rfl
        have k1 := hz 1 _ rfl
        have k2 := hz 2 _ rfl
        simp [c3] at k0 k1 k2
        obtain ⟨n0, e0, q0⟩ := one_of_trod Tryd.underlying3 k0 rfl
        obtain ⟨n1, e1, q1⟩ := one_of_trod Tryd.underlying3 k1 rfl
        obtain ⟨n2, e2, q2⟩ := one_of_trod Tryd.underlying3 k2 rfl
        obtain ⟨n3, e3, q3⟩ := one_of_trod Tryd.underlying21 g1 rfl
        obtain ⟨n4, e4, q4⟩ := one_of_trod Tryd.underlying3 g2 rfl
        injection e0 with e0
        injection e1 with e1
        injection e2 with e2
        injection e3 with e3
        injection e4 with e4
        subst e0 e1 e2 e3 e4
        exact ⟨⟨n0, n1, n2, n3, n4⟩, rfl, wf_i64 q0, wf_i64 q1, wf_i64 q2, wf_i32 q3, wf_i64 q4⟩
end
set_option maxRecDepth 20000 in
theorem row_of_cells {H : Type} {enc : TypeId × Value → H} {W : World} {v : Value} {fuel : Nat} {x : DataW H × List MemPlace} (h : DataW.trod enc Tryd.prog W 0 (fun _ => true) true fuel 22 [v] = some x) :
    ∃ A n c es, v = .slice A n c ∧ Row W (fun b => b < W.heap.size) A n c es ∧ ∀ e ∈ es, e.In := by
  rcases open_slice Tryd.underlying22 h with ⟨h0, _⟩ | ⟨a, len, cap, m, n, D, Pl, h0, _, hlc, hcm, hm, _, hx⟩
  · injection h0 with h0 _
    exact ⟨none, 0, 0, [], h0, Row.nil _ _ _ _ (Nat.zero_le _), fun e he => by cases he⟩
  · injection h0 with h0 _
    have hm' : len ≤ m := by rw [hm]; simpa using hlc
    have each : ∀ i, i < m → ∃ e : El, (∀ j u, e.cells[j]? = some u → W.cell? (a.add (i * 5 + j)) = some u) ∧ e.In := by
      intro i hi
      obtain ⟨cs', h1, h2⟩ := hx i hi
      rw [show Tryd.prog.cellsOf 48 = 5 from by kernel_rfl] at h1
      obtain ⟨_, hlen, hcell⟩ := World.cells?_some h1
      obtain ⟨e, he, hin⟩ := el_of_trod hlen h2
      refine ⟨e, fun j u hu => ?_, hin⟩
      have hj : j < 5 := (List.getElem?_eq_some_iff.1 hu).1
      have := hcell j hj
      rw [he, hu] at this
      rw [add_add] at this
      exact this
    obtain ⟨E, hE⟩ := choose_lt each
    refine ⟨some a, len, cap, (List.range len).map E, h0, ⟨by simp, hlc, hcm, fun hn => ?_⟩, ?_⟩
    · obtain ⟨b, o, s⟩ := a
      have h00 := (hE 0 (by omega)).1 0 _ rfl
      have hs : s = none := by simpa [Addr.add] using World.cell?_spot h00
      subst hs
      refine ⟨b, o, rfl, lt_of_cell' h00, fun j u hu => ?_⟩
      have hjl := (List.getElem?_eq_some_iff.1 hu).1
      rw [cellsOf_length] at hjl
      simp only [List.length_map, List.length_range] at hjl
      have hi : j / 5 < len := by omega
      have hq : ((List.range len).map E)[j / 5]? = some (E (j / 5)) := by simp [hi]
      have hc := cellsOf_at hq (j := j % 5) (Nat.mod_lt _ (by decide))
      rw [show j / 5 * 5 + j % 5 = j from by omega, hu] at hc
      have := (hE (j / 5) (by omega)).1 (j % 5) u hc.symm
      rw [show j / 5 * 5 + j % 5 = j from by omega] at this
      rw [show (⟨b, o, none⟩ : Addr).add j = ⟨b, o + j, none⟩ from by unfold Addr.add; split <;> simp_all] at this
      exact this
    · intro e he
      obtain ⟨i, hi, rfl⟩ := List.mem_map.1 he
      exact (hE i (by have := List.mem_range.1 hi; omega)).2
set_option maxRecDepth 100000 in
theorem row_of_trod {H : Type} {enc : TypeId × Value → H} {W : World} {v : Value} {d : DataW H} {p : List MemPlace} {r : Reach} {b0 : Nat} (hv : Value.okWide Tryd.prog W r b0 22 v) (h : DataW.Trod enc Tryd.prog W 0 (fun _ => true) true 22 v d p) :
    ∃ A n c es, v = .slice A n c ∧ Row W (fun b => b < W.heap.size) A n c es ∧ ∀ e ∈ es, e.In := by
  obtain ⟨fuel, h⟩ := h
  obtain ⟨a', len', cap', rfl⟩ := okWide_slice Tryd.underlying22 hv
  exact row_of_cells h
/-- a reason's text, by its number -/
def txtOf : Nat → List UInt8
  | 1 => [98, 97, 100, 32, 97, 114, 103, 117, 109, 101, 110, 116]
  | 2 => [111, 117, 116, 32, 111, 102, 32, 114, 97, 110, 103, 101]
  | 3 => [98, 97, 100, 32, 116, 101, 120, 116]
  | 4 => [110, 111, 32, 99, 114, 101, 100, 105, 116, 32, 108, 101, 102, 116]
  | 5 => [102, 114, 111, 122, 101, 110]
  | 6 => [98, 97, 100, 32, 102, 111, 114, 109]
  | 7 => [99, 117, 116, 32, 115, 104, 111, 114, 116]
  | 8 => [110, 111, 116, 32, 121, 101, 116]
  | 9 => [116, 104, 101, 114, 101, 32, 97, 108, 114, 101, 97, 100, 121]
  | 10 => [97, 110, 111, 116, 104, 101, 114, 32, 101, 112, 111, 99, 104]
  | 11 => [98, 117, 115, 121]
  | 12 => [110, 111, 116, 104, 105, 110, 103, 32, 116, 104, 101, 114, 101]
  | 13 => [110, 111, 32, 114, 111, 111, 109]
  | _ => []
theorem txtOf_inj : ∀ j, j < 14 → ∀ k, k < 14 → 1 ≤ j → 1 ≤ k → txtOf j = txtOf k → j = k := by decide
theorem starES : "*" ++ "errors.errorString" = "*errors.errorString" := by decide
theorem rowES (u : TypeId) (h : Tryd.prog.typeName? 3 u = some "*errors.errorString") : u = 152 :=
  typeName_ptr_named (nm := "errors.errorString") (by rw [starES]; kernel_rfl) (by kernel_rfl) (by decide) u (by rw [starES]; exact h)
/-- one reason lies at x -/
def SentAt (W : World) (k : Nat) (x : Addr) : Prop := W.cell? ⟨gOf k, 0, none⟩ = some (reason x) ∧ (∃ s : ByteArray, W.cell? x = some (.string s) ∧ s.data.toList = txtOf k) ∧ ∃ cs t, W.heap[x.block]? = some (.cells cs t (0, 0))
theorem sents_of_at {W : World} (h : ∀ k, 1 ≤ k → k ≤ 13 → ∃ x, SentAt W k x) : ∃ a, Sents W (fun b => b < W.heap.size) a := by
  have h' : ∀ k, ∃ x, 1 ≤ k → k ≤ 13 → SentAt W k x := fun k => by
    by_cases hk : 1 ≤ k ∧ k ≤ 13
    · obtain ⟨x, hx⟩ := h k hk.1 hk.2
      exact ⟨x, fun _ _ => hx⟩
    · exact ⟨⟨0, 0, none⟩, fun h1 h2 => absurd ⟨h1, h2⟩ hk⟩
  obtain ⟨a, ha⟩ := Classical.skolem.1 h'
  refine ⟨a, fun k h1 h2 => (ha k h1 h2).1, fun k h1 h2 => lt_of_cell' (ha k h1 h2).1, fun k h1 h2 => ?_, fun j k h1 h2 h3 h4 e => ?_, fun k h1 h2 => (ha k h1 h2).2.2⟩
  · obtain ⟨s, hs, _⟩ := (ha k h1 h2).2.1
    exact lt_of_cell' hs
  · obtain ⟨s, hs, ts⟩ := (ha j h1 h2).2.1
    obtain ⟨s', hs', ts'⟩ := (ha k h3 h4).2.1
    rw [e, hs'] at hs
    injection hs with hs
    injection hs with hs
    subst hs
    exact txtOf_inj j (by omega) k (by omega) h1 h3 (ts.symm.trans ts')
theorem sent_1 {W : World} {L : List (String × DataW Unit)} (hL : laidMetH Tryd.prog L W) (hf : (L.filter fun x => x.1 == "barrow/api.ErrArg" || x.1 == "barrow/api.ErrOther") = [("barrow/api.ErrArg", Rows.laid_barrow_api_ErrArg), ("barrow/api.ErrOther", Rows.laid_barrow_api_ErrOther)]) : ∃ x, SentAt W 1 x := by
  have h := hL.filter fun x => x.1 == "barrow/api.ErrArg" || x.1 == "barrow/api.ErrOther"
  rw [hf, MakeChecks.laidMetH_plain _ _ _ (by kernel_rfl)] at h
  obtain ⟨a0, a1, s0, s1, c0, c1, t0, t1, hv0, _, hc0, hs0, _, _, _, _, _, hb0, _⟩ := laid_sentinels2 h (g0 := gOf 1) (g1 := 13) (by kernel_rfl) (by kernel_rfl) (by kernel_rfl) (by kernel_rfl) Tryd.underlying50 rowES Tryd.underlying152 Tryd.underlying169 rfl rfl Tryd.underlying9 (by kernel_rfl) (by kernel_rfl)
  refine ⟨a0, ?_, ⟨s0, hc0, hs0⟩, c0, t0, hb0⟩
  have := World.var?_cell (g := gOf 1) (by kernel_rfl) hv0 0
  simpa using this
theorem sent_2 {W : World} {L : List (String × DataW Unit)} (hL : laidMetH Tryd.prog L W) (hf : (L.filter fun x => x.1 == "barrow/api.ErrRange" || x.1 == "barrow/api.ErrOther") = [("barrow/api.ErrRange", Rows.laid_barrow_api_ErrRange), ("barrow/api.ErrOther", Rows.laid_barrow_api_ErrOther)]) : ∃ x, SentAt W 2 x := by
  have h := hL.filter fun x => x.1 == "barrow/api.ErrRange" || x.1 == "barrow/api.ErrOther"
  rw [hf, MakeChecks.laidMetH_plain _ _ _ (by kernel_rfl)] at h
  obtain ⟨a0, a1, s0, s1, c0, c1, t0, t1, hv0, _, hc0, hs0, _, _, _, _, _, hb0, _⟩ := laid_sentinels2 h (g0 := gOf 2) (g1 := 13) (by kernel_rfl) (by kernel_rfl) (by kernel_rfl) (by kernel_rfl) Tryd.underlying50 rowES Tryd.underlying152 Tryd.underlying169 rfl rfl Tryd.underlying9 (by kernel_rfl) (by kernel_rfl)
  refine ⟨a0, ?_, ⟨s0, hc0, hs0⟩, c0, t0, hb0⟩
  have := World.var?_cell (g := gOf 2) (by kernel_rfl) hv0 0
  simpa using this
theorem sent_3 {W : World} {L : List (String × DataW Unit)} (hL : laidMetH Tryd.prog L W) (hf : (L.filter fun x => x.1 == "barrow/api.ErrText" || x.1 == "barrow/api.ErrOther") = [("barrow/api.ErrText", Rows.laid_barrow_api_ErrText), ("barrow/api.ErrOther", Rows.laid_barrow_api_ErrOther)]) : ∃ x, SentAt W 3 x := by
  have h := hL.filter fun x => x.1 == "barrow/api.ErrText" || x.1 == "barrow/api.ErrOther"
  rw [hf, MakeChecks.laidMetH_plain _ _ _ (by kernel_rfl)] at h
  obtain ⟨a0, a1, s0, s1, c0, c1, t0, t1, hv0, _, hc0, hs0, _, _, _, _, _, hb0, _⟩ := laid_sentinels2 h (g0 := gOf 3) (g1 := 13) (by kernel_rfl) (by kernel_rfl) (by kernel_rfl) (by kernel_rfl) Tryd.underlying50 rowES Tryd.underlying152 Tryd.underlying169 rfl rfl Tryd.underlying9 (by kernel_rfl) (by kernel_rfl)
  refine ⟨a0, ?_, ⟨s0, hc0, hs0⟩, c0, t0, hb0⟩
  have := World.var?_cell (g := gOf 3) (by kernel_rfl) hv0 0
  simpa using this
theorem sent_4 {W : World} {L : List (String × DataW Unit)} (hL : laidMetH Tryd.prog L W) (hf : (L.filter fun x => x.1 == "barrow/api.ErrFull" || x.1 == "barrow/api.ErrOther") = [("barrow/api.ErrFull", Rows.laid_barrow_api_ErrFull), ("barrow/api.ErrOther", Rows.laid_barrow_api_ErrOther)]) : ∃ x, SentAt W 4 x := by
  have h := hL.filter fun x => x.1 == "barrow/api.ErrFull" || x.1 == "barrow/api.ErrOther"
  rw [hf, MakeChecks.laidMetH_plain _ _ _ (by kernel_rfl)] at h
  obtain ⟨a0, a1, s0, s1, c0, c1, t0, t1, hv0, _, hc0, hs0, _, _, _, _, _, hb0, _⟩ := laid_sentinels2 h (g0 := gOf 4) (g1 := 13) (by kernel_rfl) (by kernel_rfl) (by kernel_rfl) (by kernel_rfl) Tryd.underlying50 rowES Tryd.underlying152 Tryd.underlying169 rfl rfl Tryd.underlying9 (by kernel_rfl) (by kernel_rfl)
  refine ⟨a0, ?_, ⟨s0, hc0, hs0⟩, c0, t0, hb0⟩
  have := World.var?_cell (g := gOf 4) (by kernel_rfl) hv0 0
  simpa using this
theorem sent_5 {W : World} {L : List (String × DataW Unit)} (hL : laidMetH Tryd.prog L W) (hf : (L.filter fun x => x.1 == "barrow/api.ErrFrozen" || x.1 == "barrow/api.ErrOther") = [("barrow/api.ErrFrozen", Rows.laid_barrow_api_ErrFrozen), ("barrow/api.ErrOther", Rows.laid_barrow_api_ErrOther)]) : ∃ x, SentAt W 5 x := by
  have h := hL.filter fun x => x.1 == "barrow/api.ErrFrozen" || x.1 == "barrow/api.ErrOther"
  rw [hf, MakeChecks.laidMetH_plain _ _ _ (by kernel_rfl)] at h
  obtain ⟨a0, a1, s0, s1, c0, c1, t0, t1, hv0, _, hc0, hs0, _, _, _, _, _, hb0, _⟩ := laid_sentinels2 h (g0 := gOf 5) (g1 := 13) (by kernel_rfl) (by kernel_rfl) (by kernel_rfl) (by kernel_rfl) Tryd.underlying50 rowES Tryd.underlying152 Tryd.underlying169 rfl rfl Tryd.underlying9 (by kernel_rfl) (by kernel_rfl)
  refine ⟨a0, ?_, ⟨s0, hc0, hs0⟩, c0, t0, hb0⟩
  have := World.var?_cell (g := gOf 5) (by kernel_rfl) hv0 0
  simpa using this
theorem sent_6 {W : World} {L : List (String × DataW Unit)} (hL : laidMetH Tryd.prog L W) (hf : (L.filter fun x => x.1 == "barrow/api.ErrForm" || x.1 == "barrow/api.ErrOther") = [("barrow/api.ErrForm", Rows.laid_barrow_api_ErrForm), ("barrow/api.ErrOther", Rows.laid_barrow_api_ErrOther)]) : ∃ x, SentAt W 6 x := by
  have h := hL.filter fun x => x.1 == "barrow/api.ErrForm" || x.1 == "barrow/api.ErrOther"
  rw [hf, MakeChecks.laidMetH_plain _ _ _ (by kernel_rfl)] at h
  obtain ⟨a0, a1, s0, s1, c0, c1, t0, t1, hv0, _, hc0, hs0, _, _, _, _, _, hb0, _⟩ := laid_sentinels2 h (g0 := gOf 6) (g1 := 13) (by kernel_rfl) (by kernel_rfl) (by kernel_rfl) (by kernel_rfl) Tryd.underlying50 rowES Tryd.underlying152 Tryd.underlying169 rfl rfl Tryd.underlying9 (by kernel_rfl) (by kernel_rfl)
  refine ⟨a0, ?_, ⟨s0, hc0, hs0⟩, c0, t0, hb0⟩
  have := World.var?_cell (g := gOf 6) (by kernel_rfl) hv0 0
  simpa using this
theorem sent_7 {W : World} {L : List (String × DataW Unit)} (hL : laidMetH Tryd.prog L W) (hf : (L.filter fun x => x.1 == "barrow/api.ErrShort" || x.1 == "barrow/api.ErrOther") = [("barrow/api.ErrShort", Rows.laid_barrow_api_ErrShort), ("barrow/api.ErrOther", Rows.laid_barrow_api_ErrOther)]) : ∃ x, SentAt W 7 x := by
  have h := hL.filter fun x => x.1 == "barrow/api.ErrShort" || x.1 == "barrow/api.ErrOther"
  rw [hf, MakeChecks.laidMetH_plain _ _ _ (by kernel_rfl)] at h
  obtain ⟨a0, a1, s0, s1, c0, c1, t0, t1, hv0, _, hc0, hs0, _, _, _, _, _, hb0, _⟩ := laid_sentinels2 h (g0 := gOf 7) (g1 := 13) (by kernel_rfl) (by kernel_rfl) (by kernel_rfl) (by kernel_rfl) Tryd.underlying50 rowES Tryd.underlying152 Tryd.underlying169 rfl rfl Tryd.underlying9 (by kernel_rfl) (by kernel_rfl)
  refine ⟨a0, ?_, ⟨s0, hc0, hs0⟩, c0, t0, hb0⟩
  have := World.var?_cell (g := gOf 7) (by kernel_rfl) hv0 0
  simpa using this
theorem sent_8 {W : World} {L : List (String × DataW Unit)} (hL : laidMetH Tryd.prog L W) (hf : (L.filter fun x => x.1 == "barrow/api.ErrOrder" || x.1 == "barrow/api.ErrOther") = [("barrow/api.ErrOrder", Rows.laid_barrow_api_ErrOrder), ("barrow/api.ErrOther", Rows.laid_barrow_api_ErrOther)]) : ∃ x, SentAt W 8 x := by
  have h := hL.filter fun x => x.1 == "barrow/api.ErrOrder" || x.1 == "barrow/api.ErrOther"
  rw [hf, MakeChecks.laidMetH_plain _ _ _ (by kernel_rfl)] at h
  obtain ⟨a0, a1, s0, s1, c0, c1, t0, t1, hv0, _, hc0, hs0, _, _, _, _, _, hb0, _⟩ := laid_sentinels2 h (g0 := gOf 8) (g1 := 13) (by kernel_rfl) (by kernel_rfl) (by kernel_rfl) (by kernel_rfl) Tryd.underlying50 rowES Tryd.underlying152 Tryd.underlying169 rfl rfl Tryd.underlying9 (by kernel_rfl) (by kernel_rfl)
  refine ⟨a0, ?_, ⟨s0, hc0, hs0⟩, c0, t0, hb0⟩
  have := World.var?_cell (g := gOf 8) (by kernel_rfl) hv0 0
  simpa using this
theorem sent_9 {W : World} {L : List (String × DataW Unit)} (hL : laidMetH Tryd.prog L W) (hf : (L.filter fun x => x.1 == "barrow/api.ErrTwice" || x.1 == "barrow/api.ErrOther") = [("barrow/api.ErrTwice", Rows.laid_barrow_api_ErrTwice), ("barrow/api.ErrOther", Rows.laid_barrow_api_ErrOther)]) : ∃ x, SentAt W 9 x := by
  have h := hL.filter fun x => x.1 == "barrow/api.ErrTwice" || x.1 == "barrow/api.ErrOther"
  rw [hf, MakeChecks.laidMetH_plain _ _ _ (by kernel_rfl)] at h
  obtain ⟨a0, a1, s0, s1, c0, c1, t0, t1, hv0, _, hc0, hs0, _, _, _, _, _, hb0, _⟩ := laid_sentinels2 h (g0 := gOf 9) (g1 := 13) (by kernel_rfl) (by kernel_rfl) (by kernel_rfl) (by kernel_rfl) Tryd.underlying50 rowES Tryd.underlying152 Tryd.underlying169 rfl rfl Tryd.underlying9 (by kernel_rfl) (by kernel_rfl)
  refine ⟨a0, ?_, ⟨s0, hc0, hs0⟩, c0, t0, hb0⟩
  have := World.var?_cell (g := gOf 9) (by kernel_rfl) hv0 0
  simpa using this
theorem sent_10 {W : World} {L : List (String × DataW Unit)} (hL : laidMetH Tryd.prog L W) (hf : (L.filter fun x => x.1 == "barrow/api.ErrEpoch" || x.1 == "barrow/api.ErrOther") = [("barrow/api.ErrEpoch", Rows.laid_barrow_api_ErrEpoch), ("barrow/api.ErrOther", Rows.laid_barrow_api_ErrOther)]) : ∃ x, SentAt W 10 x := by
  have h := hL.filter fun x => x.1 == "barrow/api.ErrEpoch" || x.1 == "barrow/api.ErrOther"
  rw [hf, MakeChecks.laidMetH_plain _ _ _ (by kernel_rfl)] at h
  obtain ⟨a0, a1, s0, s1, c0, c1, t0, t1, hv0, _, hc0, hs0, _, _, _, _, _, hb0, _⟩ := laid_sentinels2 h (g0 := gOf 10) (g1 := 13) (by kernel_rfl) (by kernel_rfl) (by kernel_rfl) (by kernel_rfl) Tryd.underlying50 rowES Tryd.underlying152 Tryd.underlying169 rfl rfl Tryd.underlying9 (by kernel_rfl) (by kernel_rfl)
  refine ⟨a0, ?_, ⟨s0, hc0, hs0⟩, c0, t0, hb0⟩
  have := World.var?_cell (g := gOf 10) (by kernel_rfl) hv0 0
  simpa using this
theorem sent_11 {W : World} {L : List (String × DataW Unit)} (hL : laidMetH Tryd.prog L W) (hf : (L.filter fun x => x.1 == "barrow/api.ErrBusy" || x.1 == "barrow/api.ErrOther") = [("barrow/api.ErrBusy", Rows.laid_barrow_api_ErrBusy), ("barrow/api.ErrOther", Rows.laid_barrow_api_ErrOther)]) : ∃ x, SentAt W 11 x := by
  have h := hL.filter fun x => x.1 == "barrow/api.ErrBusy" || x.1 == "barrow/api.ErrOther"
  rw [hf, MakeChecks.laidMetH_plain _ _ _ (by kernel_rfl)] at h
  obtain ⟨a0, a1, s0, s1, c0, c1, t0, t1, hv0, _, hc0, hs0, _, _, _, _, _, hb0, _⟩ := laid_sentinels2 h (g0 := gOf 11) (g1 := 13) (by kernel_rfl) (by kernel_rfl) (by kernel_rfl) (by kernel_rfl) Tryd.underlying50 rowES Tryd.underlying152 Tryd.underlying169 rfl rfl Tryd.underlying9 (by kernel_rfl) (by kernel_rfl)
  refine ⟨a0, ?_, ⟨s0, hc0, hs0⟩, c0, t0, hb0⟩
  have := World.var?_cell (g := gOf 11) (by kernel_rfl) hv0 0
  simpa using this
theorem sent_12 {W : World} {L : List (String × DataW Unit)} (hL : laidMetH Tryd.prog L W) (hf : (L.filter fun x => x.1 == "barrow/api.ErrNone" || x.1 == "barrow/api.ErrOther") = [("barrow/api.ErrNone", Rows.laid_barrow_api_ErrNone), ("barrow/api.ErrOther", Rows.laid_barrow_api_ErrOther)]) : ∃ x, SentAt W 12 x := by
  have h := hL.filter fun x => x.1 == "barrow/api.ErrNone" || x.1 == "barrow/api.ErrOther"
  rw [hf, MakeChecks.laidMetH_plain _ _ _ (by kernel_rfl)] at h
  obtain ⟨a0, a1, s0, s1, c0, c1, t0, t1, hv0, _, hc0, hs0, _, _, _, _, _, hb0, _⟩ := laid_sentinels2 h (g0 := gOf 12) (g1 := 13) (by kernel_rfl) (by kernel_rfl) (by kernel_rfl) (by kernel_rfl) Tryd.underlying50 rowES Tryd.underlying152 Tryd.underlying169 rfl rfl Tryd.underlying9 (by kernel_rfl) (by kernel_rfl)
  refine ⟨a0, ?_, ⟨s0, hc0, hs0⟩, c0, t0, hb0⟩
  have := World.var?_cell (g := gOf 12) (by kernel_rfl) hv0 0
  simpa using this
theorem sent_13 {W : World} {L : List (String × DataW Unit)} (hL : laidMetH Tryd.prog L W) (hf : (L.filter fun x => x.1 == "barrow/api.ErrRoom" || x.1 == "barrow/api.ErrOther") = [("barrow/api.ErrRoom", Rows.laid_barrow_api_ErrRoom), ("barrow/api.ErrOther", Rows.laid_barrow_api_ErrOther)]) : ∃ x, SentAt W 13 x := by
  have h := hL.filter fun x => x.1 == "barrow/api.ErrRoom" || x.1 == "barrow/api.ErrOther"
  rw [hf, MakeChecks.laidMetH_plain _ _ _ (by kernel_rfl)] at h
  obtain ⟨a0, a1, s0, s1, c0, c1, t0, t1, hv0, _, hc0, hs0, _, _, _, _, _, hb0, _⟩ := laid_sentinels2 h (g0 := gOf 13) (g1 := 13) (by kernel_rfl) (by kernel_rfl) (by kernel_rfl) (by kernel_rfl) Tryd.underlying50 rowES Tryd.underlying152 Tryd.underlying169 rfl rfl Tryd.underlying9 (by kernel_rfl) (by kernel_rfl)
  refine ⟨a0, ?_, ⟨s0, hc0, hs0⟩, c0, t0, hb0⟩
  have := World.var?_cell (g := gOf 13) (by kernel_rfl) hv0 0
  simpa using this
end Go.Proofs.YtnpbbidiloahdaaDoor
namespace Go.Proofs.YtnpbbidiloahdaaDoor
set_option linter.unusedSimpArgs false
set_option linter.unusedVariables false
open Go Go.RowKit Go.ChangeShapes Go.WideShapes Go.ChangeAt Go.Deep
set_option maxRecDepth 20000 in
theorem grow_of_trod {α : Type} [Enc α] [Inhabited α] {H : Type} {enc : TypeId × Value → H} {W : World} {t u : TypeId} {v : Value} {d : DataW H} {p : List MemPlace} {r : Reach} {b0 : Nat} (hu : Tryd.prog.underlying u = some (.slice t)) (hk : Tryd.prog.cellsOf t = Enc.k α) (hk0 : 0 < Enc.k α) (Pr : α → Prop)
    (hel : ∀ fuel cs x, cs.length = Enc.k α → DataW.trod enc Tryd.prog W 0 (fun _ => true) true fuel t cs = some x → ∃ e : α, cs = Enc.cells e ∧ Pr e)
    (hv : Value.okWide Tryd.prog W r b0 u v) (h : DataW.Trod enc Tryd.prog W 0 (fun _ => true) true u v d p) :
    ∃ A n c, ∃ es : List α, v = .slice A n c ∧ GRow W (fun b => b < W.heap.size) A n c es ∧ ∀ e ∈ es, Pr e := by
  obtain ⟨fuel, h⟩ := h
  obtain ⟨a', len', cap', rfl⟩ := okWide_slice hu hv
  rcases open_slice (cs := [.slice a' len' cap']) hu h with ⟨h0, _⟩ | ⟨a, len, cap, m, n, D, Pl, h0, _, hlc, hcm, hm, _, hx⟩
  · injection h0 with h0 _
    exact ⟨none, 0, 0, [], h0, GRow.nil _ _ _ _ (Nat.zero_le _), fun e he => by cases he⟩
  · injection h0 with h0 _
    have hm' : len ≤ m := by rw [hm]; simpa using hlc
    have each : ∀ i, i < m → ∃ e : α, (∀ j u, (Enc.cells e)[j]? = some u → W.cell? (a.add (i * Enc.k α + j)) = some u) ∧ Pr e := by
      intro i hi
      obtain ⟨cs', h1, h2⟩ := hx i hi
      rw [hk] at h1
      obtain ⟨_, hlen, hcell⟩ := World.cells?_some h1
      obtain ⟨e, he, hin⟩ := hel _ _ _ hlen h2
      refine ⟨e, fun j u hu => ?_, hin⟩
      have hj : j < Enc.k α := by
        have := (List.getElem?_eq_some_iff.1 hu).1
        rw [Enc.len] at this
        exact this
      have := hcell j hj
      rw [he, hu] at this
      rw [add_add] at this
      exact this
    obtain ⟨E, hE⟩ := choose_lt each
    refine ⟨some a, len, cap, (List.range len).map E, h0, ⟨by simp, hlc, hcm, fun hn => ?_⟩, ?_⟩
    · obtain ⟨b, o, s⟩ := a
      have hl0 : 0 < (Enc.cells (E 0)).length := by rw [Enc.len]; exact hk0
      have h00 := (hE 0 (by omega)).1 0 _ (List.getElem?_eq_getElem hl0)
      have hs : s = none := by simpa [Addr.add] using World.cell?_spot h00
      subst hs
      rw [Nat.zero_mul] at h00
      have hlt : b < W.heap.size := by simpa [Addr.add] using lt_of_cell' h00
      refine ⟨b, o, rfl, hlt, hlt, fun j u hu => ?_⟩
      have hjl := (List.getElem?_eq_some_iff.1 hu).1
      rw [gcells_length] at hjl
      simp only [List.length_map, List.length_range] at hjl
      have hi : j / Enc.k α < len := Nat.div_lt_of_lt_mul (by rw [Nat.mul_comm]; exact hjl)
      have hq : ((List.range len).map E)[j / Enc.k α]? = some (E (j / Enc.k α)) := by simp [hi]
      have hc := gcells_at hq (j := j % Enc.k α) (Nat.mod_lt _ hk0)
      rw [Nat.div_add_mod', hu] at hc
      have := (hE (j / Enc.k α) (by omega)).1 (j % Enc.k α) u hc.symm
      rw [Nat.div_add_mod'] at this
      rw [show (⟨b, o, none⟩ : Addr).add j = ⟨b, o + j, none⟩ from by unfold Addr.add; split <;> simp_all] at this
      exact this
    · intro e he
      obtain ⟨i, hi, rfl⟩ := List.mem_map.1 he
      exact (hE i (by have := List.mem_range.1 hi; omega)).2
end Go.Proofs.YtnpbbidiloahdaaDoor
namespace Go.Proofs.YtnpbbidiloahdaaDoor
set_option linter.unusedSimpArgs false
set_option linter.unusedVariables false
open Go Go.RowKit

theorem method_weight (v : Array Value) (w : World) : (method 272 48 (.agg v) "Weight").run Tryd.prog w = .ok (58, .agg v) w := by kernel_rfl

theorem take_snoc_el {es : List El} {k : Nat} {e : El} (h : es[k]? = some e) : es.take (k + 1) = es.take k ++ [e] := by
  obtain ⟨hk, rfl⟩ := List.getElem?_eq_some_iff.1 h
  rw [List.take_succ_eq_append_getElem hk]
theorem liveOf_snoc {es : List El} {k : Nat} {e : El} (h : es[k]? = some e) : liveOf (es.take (k + 1)) = liveOf (es.take k) + e.live := by
  rw [take_snoc_el h, liveOf_append]; simp [liveOf]
theorem linesOf_snoc {es : List El} {k : Nat} {e : El} (h : es[k]? = some e) : linesOf (es.take (k + 1)) = linesOf (es.take k) + e.lines := by
  rw [take_snoc_el h, linesOf_append]; simp [linesOf]

set_option maxHeartbeats 1000000 in
theorem weigh_any (A : Option Addr) (n c : Nat) (es : List El) (S : Nat → Prop) (w : World) (h : Row w S A n c es) (hn : n ≤ 1099511627776) :
    Calls Tryd.prog 80 #[.slice A n c] w fun e w' => e = .returned (.agg #[.int .i64 (liveOf es), .int .i64 (linesOf es)]) ∧ Below w.heap.size w w' := by
  have methW := method_weight
  have Hr := hid h
  clear h
  go_enter Tryd.func80, Tryd.ntmps80
  go_wp2
  go_loopw [7] (fun i wr => ∃ k : Nat, i = .int .i64 k ∧ k ≤ n ∧ Blk wr w.heap.size 55 #[.int .i64 (liveOf (es.take k)), .int .i64 (linesOf (es.take k))] ∧ Below w.heap.size w wr) (fun i wr => n - (intOf i).toNat)
  case atStart => exact ⟨0, rfl, by omega, Blk.new _ _ _, (Below.refl _ _).alloc (Nat.le_refl _) _⟩
  case round =>
    obtain ⟨k, rfl, hk, hblk, hbel⟩ := hrel
    have hl1 := liveOf_le (es.take k)
    have hl2 := linesOf_le (es.take k)
    have hl3 : (es.take k).length ≤ k := List.length_take_le _ _
    have hsz := hblk.lt
    obtain ⟨hz0, hz1, hf0, hf1⟩ := hblk.two
    have HB := hid hblk
    clear hblk
    by_cases hlt : k < n
    · obtain ⟨b, off, e, rfl, hS, he, c0, c1, c2, c3, c4⟩ := (Hr.out.step hbel).at_ hlt
      have hls := liveOf_snoc he
      have hns := linesOf_snoc he
      have hel := e.live_le
      have hen := e.lines_le
      have HH := hid (And.intro hls (And.intro hns he))
      clear hls hns he
      go_wp2_with fail
      clear c0 c1 c2 c3 c4
      refine wp_region_order [(0, true, false), (1, true, false), (2, true, false), (3, false, false), (4, false, false), (5, false, true)] (by kernel_rfl) (by kernel_rfl) (by kernel_rfl) rfl rfl ?_
      repeat' (first | (go_at_call 58; refine (weight_any e _).mono ?_; rintro _ w1 ⟨rfl, hb1⟩; obtain ⟨hc1, hg1⟩ := bcell hb1; have hs1 := hb1.size; simp only [World.size_drew, World.size_alloc] at hs1; have hq1 : w.heap.size < w1.heap.size := (by omega); dsimp only) | (go_at_call 78; refine (plus_in _ _ _ _ _ (by omega) (by omega) (by omega) (by omega) (by omega) (by omega)).mono ?_; rintro _ w2 ⟨rfl, hb2⟩; obtain ⟨hc2, hg2⟩ := bcell hb2; have hs2 := hb2.size; dsimp only) | (with_reducible refine Keep.last ?_) | (with_reducible refine Keep.below (by assumption) ?_) | (with_reducible refine Keep.kept (by assumption) ?_) | (with_reducible refine Keep.alloc ?_) | (with_reducible refine Keep.same ?_) | ((with_reducible refine WpH.here ?_); first | (refine WpH.nil ?_; refine NoP.normal ?_) | (refine WpH.load (by rfl) (by rfl) (by go_simp; rfl) ?_; simp only [Act.put, List.setIfInBounds_toArray, List.set_cons_zero, List.set_cons_succ]) | (refine WpH.loadT (by rfl) (by rfl) (by go_simp; rfl) (by rintro _ _ ⟨⟩; exact ⟨_, _, _, _, _, _, by rfl, by assumption, by assumption⟩) ?_; simp only [Act.put, List.setIfInBounds_toArray, List.set_cons_zero, List.set_cons_succ]) | (refine WpH.pure (by rfl) (fun w_ => by go_simp; (try go_bits); rfl) ?_; simp only [Act.put, List.setIfInBounds_toArray, List.set_cons_zero, List.set_cons_succ]) | (refine WpH.wild1 (by rfl) (fun _ _ => ?_)) | (refine WpH.skip (by rfl) ?_; simp only [Act.put, List.setIfInBounds_toArray, List.set_cons_zero, List.set_cons_succ])) | go_values | go_skip | go_guarded | go_step | go_upon | go_back)
      go_roundw
      case rel =>
        obtain ⟨h1, h2, _⟩ := HH.out
        refine ⟨k + 1, by go_num, by omega, ?_, ?_⟩
        · rw [h1, h2]
          simpa using (((HB.out.alloc _).drew.step hb1).step hb2).set2
        · exact (((hbel.alloc (by omega) _).drew.trans ((hb1.mono (by simp; omega)).trans (hb2.mono (by omega)))).setCell (Nat.le_refl _) _).setCell (Nat.le_refl _) _
      case measure => simp [intOf]; omega
    · obtain rfl : k = n := by omega
      have hl : es.take k = es := List.take_of_length_le (by rw [Hr.out.1]; omega)
      rw [hl] at HB hz0 hz1
      clear hl
      go_wp2
      exact bodyPost_ret (v := .agg #[.int .i64 (liveOf es), .int .i64 (linesOf es)]) (by simp [results, Tryd.results80, go_sem, hz0, hz1]) rfl ⟨rfl, (hbel.setCell (Nat.le_refl _) _).setCell (Nat.le_refl _) _⟩
end Go.Proofs.YtnpbbidiloahdaaDoor
namespace Go.Proofs.YtnpbbidiloahdaaDoor
set_option linter.unusedSimpArgs false
set_option linter.unusedVariables false
open Go Go.RowKit

set_option maxHeartbeats 1000000 in
theorem made_any (l r : Tr) (pl pr : Option Addr) (A : Option Addr) (n c : Nat) (row : List El) (S : Nat → Prop) (w : World) (hl : IsTree w S l pl) (hr : IsTree w S r pr) (hrow : Row w S A n c row) (hne : row ≠ [])
    (hbd : l.all.length + row.length + r.all.length ≤ 1099511627776) :
    Calls Tryd.prog 93 #[.pointer pl, .slice A n c, .pointer pr] w (TreeRet w S (· = .node l row r)) := by
  have hn : n = row.length := hrow.1.symm
  subst hn
  have h1 := liveOf_le l.all
  have h2 := liveOf_le r.all
  have h3 := liveOf_le row
  have h4 := linesOf_le l.all
  have h5 := linesOf_le r.all
  have h6 := linesOf_le row
  have h7 := hl.high_le
  have h8 := hr.high_le
  have hl0 := hid hl
  have hr0 := hid hr
  have hrow0 := hid hrow
  go_enter Tryd.func93, Tryd.ntmps93
  have hB : Below w.heap.size w w := Below.refl _ _
  repeat' (first | (go_at_call 69; first | ((with_reducible refine (size_any l pl S _ hl).mono ?_); rintro _ _ ⟨rfl, rfl⟩; dsimp only) | ((with_reducible refine (size_any r pr S _ hr).mono ?_); rintro _ _ ⟨rfl, rfl⟩; dsimp only)) | (go_at_call 91; first | ((with_reducible refine (high_any l pl S _ hl).mono ?_); rintro _ _ ⟨rfl, rfl⟩; dsimp only) | ((with_reducible refine (high_any r pr S _ hr).mono ?_); rintro _ _ ⟨rfl, rfl⟩; dsimp only)) | (go_at_call 79; first | ((with_reducible refine (weighs_any l pl S _ hl).mono ?_); rintro _ wk ⟨rfl, hbk⟩; replace hl := hl.step hbk; replace hr := hr.step hbk; replace hrow := hrow.step hbk; replace hB := hB.trans (hbk.mono hB.size); dsimp only) | ((with_reducible refine (weighs_any r pr S _ hr).mono ?_); rintro _ wk ⟨rfl, hbk⟩; replace hl := hl.step hbk; replace hr := hr.step hbk; replace hrow := hrow.step hbk; replace hB := hB.trans (hbk.mono hB.size); dsimp only)) | (go_at_call 80; ((with_reducible refine (weigh_any A _ c row S _ hrow (by omega)).mono ?_); rintro _ wk ⟨rfl, hbk⟩; replace hl := hl.step hbk; replace hr := hr.step hbk; replace hrow := hrow.step hbk; replace hB := hB.trans (hbk.mono hB.size); dsimp only)) | (go_at_call 78; ((with_reducible refine (plus_in _ _ _ _ _ (by omega) (by omega) (by omega) (by omega) (by omega) (by omega)).mono ?_); rintro _ wk ⟨rfl, hbk⟩; replace hl := hl.step hbk; replace hr := hr.step hbk; replace hrow := hrow.step hbk; replace hB := hB.trans (hbk.mono hB.size); dsimp only)) | go_values | go_skip | go_guarded | go_step | go_upon | go_back)
  go_ret
  have hmax : (if l.high < r.high then (r.high : Int) else l.high) + 1 = ((Tr.node l row r).high : Int) := by
    simp only [Tr.high]
    split <;> omega
  have hlen : (l.all.length : Int) + row.length + r.all.length = ((Tr.node l row r).all.length : Int) := by simp [Tr.all]; omega
  have hliv : (liveOf l.all : Int) + liveOf row + liveOf r.all = (liveOf (Tr.node l row r).all : Int) := by simp [Tr.all, liveOf_append]; omega
  have hlin : (linesOf l.all : Int) + linesOf row + linesOf r.all = (linesOf (Tr.node l row r).all : Int) := by simp [Tr.all, linesOf_append]; omega
  rw [hmax, hlen, hliv, hlin]
  have hsz := hB.size
  have hblk := Blk.new wk 138 #[.slice A row.length c, .pointer pl, .pointer pr, .int .i64 (Tr.node l row r).all.length, .int .i64 (Tr.node l row r).high, .int .i64 (liveOf (Tr.node l row r).all), .int .i64 (linesOf (Tr.node l row r).all)]
  refine ⟨_, .node l row r, rfl, ⟨hne, wk.heap.size, A, row.length, c, pl, pr, rfl, .inr hsz, ?_, ?_, ?_, hblk.cell 0, hblk.cell 1, hblk.cell 2, hblk.cell 3, hblk.cell 4, hblk.cell 5, hblk.cell 6⟩, rfl, hB.alloc hsz _⟩
  · exact (hrow.keep (Same.alloc _ _ _)).more fun _ _ h => .inl h
  · exact (hl.keep (Same.alloc _ _ _)).more fun _ _ h => .inl h
  · exact (hr.keep (Same.alloc _ _ _)).more fun _ _ h => .inl h
end Go.Proofs.YtnpbbidiloahdaaDoor
