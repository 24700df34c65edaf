/- Arguments opened: a row of elements that comes in; the reasons that the statement lists. No condition. -/
import Derived.Test.YtfihjajllfihjaaGreatDoorSShell
import Derived.Test.YtfihjajllfihjaaGreatDoorSErr1
import Derived.Deep.Slices
import Derived.Deep.Strs
namespace Go.Proofs.YtfihjajllfihjaaGreatDoor
set_option linter.unusedSimpArgs false
set_option linter.unusedVariables false
open Go Go.RowKit Go.ChangeShapes Go.WideShapes Go.ChangeAt Go.Deep

/-- an element's numbers fit their kinds -/
def El.In (e : El) : Prop := (-9223372036854775808 ≤ e.epoch ∧ e.epoch ≤ 9223372036854775807) ∧ (-9223372036854775808 ≤ e.rep ∧ e.rep ≤ 9223372036854775807) ∧ (-9223372036854775808 ≤ e.num ∧ e.num ≤ 9223372036854775807) ∧ (-2147483648 ≤ e.char ∧ e.char ≤ 2147483647) ∧ (-9223372036854775808 ≤ e.hides ∧ e.hides ≤ 9223372036854775807)
instance : Inhabited El := ⟨⟨0, 0, 0, 0, 0⟩⟩
theorem wf_i64 {n : Int} (h : (Lit.int .i64 n).wf = true) : -9223372036854775808 ≤ n ∧ n ≤ 9223372036854775807 := by
  simp only [Lit.wf, Bool.and_eq_true, decide_eq_true_eq, show IntKind.i64.min = -9223372036854775808 from by decide, show IntKind.i64.max = 9223372036854775807 from by decide] at h
  exact h
theorem wf_i32 {n : Int} (h : (Lit.int .i32 n).wf = true) : -2147483648 ≤ n ∧ n ≤ 2147483647 := by
  simp only [Lit.wf, Bool.and_eq_true, decide_eq_true_eq, show IntKind.i32.min = -2147483648 from by decide, show IntKind.i32.max = 2147483647 from by decide] at h
  exact h
section
variable {H : Type} {enc : TypeId × Value → H} {w : World} {base : Nat} {spare : Nat → Bool} {held : Bool}
theorem one_of_trod {t : TypeId} {k : IntKind} {fuel : Nat} {cs : List Value} {y : Option (DataW H × List MemPlace)} {z : DataW H × List MemPlace} (ht : Tryz.prog.underlying t = some (.int k)) (h : DataW.trod enc Tryz.prog w base spare held fuel t cs = y) (hy : y = some z) : ∃ n, cs = [.int k n] ∧ (Lit.int k n).wf = true := by
  subst hy
  obtain ⟨n, h1, _, h2⟩ := DataW.trod_int ht h
  exact ⟨n, h1, h2⟩
set_option maxRecDepth 20000 in
theorem el_of_trod {fuel : Nat} {cs : List Value} {x : DataW H × List MemPlace} (hl : cs.length = 5) (h : DataW.trod enc Tryz.prog w base spare held fuel 32 cs = some x) : ∃ e : El, cs = e.cells ∧ e.In := by
  obtain ⟨xs, n, _, _, _, hxl, hf⟩ := DataW.trod_struct Tryz.underlying32 h
  match cs, hl with
  | [v0, v1, v2, v3, v4], _ =>
    have c34 : Tryz.prog.cellsOf 30 = 3 := by kernel_rfl
    have c3 : Tryz.prog.cellsOf 3 = 1 := by kernel_rfl
    have c21 : Tryz.prog.cellsOf 21 = 1 := by kernel_rfl
    match xs, hxl with
    | [y0, y1, y2], _ =>
      have g0 := hf 0 _ rfl
      have g1 := hf 1 _ rfl
      have g2 := hf 2 _ rfl
      simp [c34, c3, c21] at g0 g1 g2
      obtain ⟨zs, m, _, _, _, hzl, hz⟩ := DataW.trod_struct Tryz.underlying30 g0
      match zs, hzl with
      | [z0, z1, z2], _ =>
        have k0 := hz 0 _ rfl
        have k1 := hz 1 _ rfl
        have k2 := hz 2 _ rfl
        simp [c3] at k0 k1 k2
        obtain ⟨n0, e0, q0⟩ := one_of_trod Tryz.underlying3 k0 rfl
        obtain ⟨n1, e1, q1⟩ := one_of_trod Tryz.underlying3 k1 rfl
        obtain ⟨n2, e2, q2⟩ := one_of_trod Tryz.underlying3 k2 rfl
        obtain ⟨n3, e3, q3⟩ := one_of_trod Tryz.underlying21 g1 rfl
        obtain ⟨n4, e4, q4⟩ := one_of_trod Tryz.underlying3 g2 rfl
        injection e0 with e0
        injection e1 with e1
        injection e2 with e2
        injection e3 with e3
        injection e4 with e4
        subst e0 e1 e2 e3 e4
        exact ⟨⟨n0, n1, n2, n3, n4⟩, rfl, wf_i64 q0, wf_i64 q1, wf_i64 q2, wf_i32 q3, wf_i64 q4⟩
end
set_option maxRecDepth 20000 in
theorem row_of_cells {H : Type} {enc : TypeId × Value → H} {W : World} {v : Value} {fuel : Nat} {x : DataW H × List MemPlace} (h : DataW.trod enc Tryz.prog W 0 (fun _ => true) true fuel 22 [v] = some x) :
    ∃ A n c es, v = .slice A n c ∧ Row W (fun b => b < W.heap.size) A n c es ∧ ∀ e ∈ es, e.In := by
  rcases open_slice Tryz.underlying22 h with ⟨h0, _⟩ | ⟨a, len, cap, m, n, D, Pl, h0, _, hlc, hcm, hm, _, hx⟩
  · injection h0 with h0 _
    exact ⟨none, 0, 0, [], h0, Row.nil _ _ _ _ (Nat.zero_le _), fun e he => by cases he⟩
  · injection h0 with h0 _
    have hm' : len ≤ m := by rw [hm]; simpa using hlc
    have each : ∀ i, i < m → ∃ e : El, (∀ j u, e.cells[j]? = some u → W.cell? (a.add (i * 5 + j)) = some u) ∧ e.In := by
      intro i hi
      obtain ⟨cs', h1, h2⟩ := hx i hi
      rw [show Tryz.prog.cellsOf 32 = 5 from by kernel_rfl] at h1
      obtain ⟨_, hlen, hcell⟩ := World.cells?_some h1
      obtain ⟨e, he, hin⟩ := el_of_trod hlen h2
      refine ⟨e, fun j u hu => ?_, hin⟩
      have hj : j < 5 := (List.getElem?_eq_some_iff.1 hu).1
      have := hcell j hj
      rw [he, hu] at this
      rw [add_add] at this
      exact this
    obtain ⟨E, hE⟩ := choose_lt each
    refine ⟨some a, len, cap, (List.range len).map E, h0, ⟨by simp, hlc, hcm, fun hn => ?_⟩, ?_⟩
    · obtain ⟨b, o, s⟩ := a
      have h00 := (hE 0 (by omega)).1 0 _ rfl
      have hs : s = none := by simpa [Addr.add] using World.cell?_spot h00
      subst hs
      refine ⟨b, o, rfl, lt_of_cell' h00, fun j u hu => ?_⟩
      have hjl := (List.getElem?_eq_some_iff.1 hu).1
      rw [cellsOf_length] at hjl
      simp only [List.length_map, List.length_range] at hjl
      have hi : j / 5 < len := by omega
      have hq : ((List.range len).map E)[j / 5]? = some (E (j / 5)) := by simp [hi]
      have hc := cellsOf_at hq (j := j % 5) (Nat.mod_lt _ (by decide))
      rw [show j / 5 * 5 + j % 5 = j from by omega, hu] at hc
      have := (hE (j / 5) (by omega)).1 (j % 5) u hc.symm
      rw [show j / 5 * 5 + j % 5 = j from by omega] at this
      rw [show (⟨b, o, none⟩ : Addr).add j = ⟨b, o + j, none⟩ from by unfold Addr.add; split <;> simp_all] at this
      exact this
    · intro e he
      obtain ⟨i, hi, rfl⟩ := List.mem_map.1 he
      exact (hE i (by have := List.mem_range.1 hi; omega)).2
set_option maxRecDepth 100000 in
theorem row_of_trod {H : Type} {enc : TypeId × Value → H} {W : World} {v : Value} {d : DataW H} {p : List MemPlace} {r : Reach} {b0 : Nat} (hv : Value.okWide Tryz.prog W r b0 22 v) (h : DataW.Trod enc Tryz.prog W 0 (fun _ => true) true 22 v d p) :
    ∃ A n c es, v = .slice A n c ∧ Row W (fun b => b < W.heap.size) A n c es ∧ ∀ e ∈ es, e.In := by
  obtain ⟨fuel, h⟩ := h
  obtain ⟨a', len', cap', rfl⟩ := okWide_slice Tryz.underlying22 hv
  exact row_of_cells h
/-- a reason's text, by its number -/
def txtOf : Nat → List UInt8
  | 1 => [98, 97, 100, 32, 97, 114, 103, 117, 109, 101, 110, 116]
  | 2 => [111, 117, 116, 32, 111, 102, 32, 114, 97, 110, 103, 101]
  | 3 => [98, 97, 100, 32, 116, 101, 120, 116]
  | 4 => [110, 111, 32, 99, 114, 101, 100, 105, 116, 32, 108, 101, 102, 116]
  | 5 => [102, 114, 111, 122, 101, 110]
  | 6 => [98, 97, 100, 32, 102, 111, 114, 109]
  | 7 => [99, 117, 116, 32, 115, 104, 111, 114, 116]
  | 8 => [110, 111, 116, 32, 121, 101, 116]
  | 9 => [116, 104, 101, 114, 101, 32, 97, 108, 114, 101, 97, 100, 121]
  | 10 => [97, 110, 111, 116, 104, 101, 114, 32, 101, 112, 111, 99, 104]
  | 11 => [98, 117, 115, 121]
  | 12 => [110, 111, 116, 104, 105, 110, 103, 32, 116, 104, 101, 114, 101]
  | 13 => [110, 111, 32, 114, 111, 111, 109]
  | _ => []
theorem txtOf_inj : ∀ j, j < 14 → ∀ k, k < 14 → 1 ≤ j → 1 ≤ k → txtOf j = txtOf k → j = k := by decide
theorem starES : "*" ++ "errors.errorString" = "*errors.errorString" := by decide
theorem rowES (u : TypeId) (h : Tryz.prog.typeName? 3 u = some "*errors.errorString") : u = 199 :=
  typeName_ptr_named (nm := "errors.errorString") (by rw [starES]; kernel_rfl) (by kernel_rfl) (by decide) u (by rw [starES]; exact h)
/-- one reason lies at x -/
def SentAt (W : World) (k : Nat) (x : Addr) : Prop := W.cell? ⟨gOf k, 0, none⟩ = some (reason x) ∧ (∃ s : ByteArray, W.cell? x = some (.string s) ∧ s.data.toList = txtOf k) ∧ ∃ cs t, W.heap[x.block]? = some (.cells cs t (0, 0))
theorem sents_of_at {W : World} (h : ∀ k, 1 ≤ k → k ≤ 13 → ∃ x, SentAt W k x) : ∃ a, Sents W (fun b => b < W.heap.size) a := by
  have h' : ∀ k, ∃ x, 1 ≤ k → k ≤ 13 → SentAt W k x := fun k => by
    by_cases hk : 1 ≤ k ∧ k ≤ 13
    · obtain ⟨x, hx⟩ := h k hk.1 hk.2
      exact ⟨x, fun _ _ => hx⟩
    · exact ⟨⟨0, 0, none⟩, fun h1 h2 => absurd ⟨h1, h2⟩ hk⟩
  obtain ⟨a, ha⟩ := Classical.skolem.1 h'
  refine ⟨a, fun k h1 h2 => (ha k h1 h2).1, fun k h1 h2 => lt_of_cell' (ha k h1 h2).1, fun k h1 h2 => ?_, fun j k h1 h2 h3 h4 e => ?_, fun k h1 h2 => (ha k h1 h2).2.2⟩
  · obtain ⟨s, hs, _⟩ := (ha k h1 h2).2.1
    exact lt_of_cell' hs
  · obtain ⟨s, hs, ts⟩ := (ha j h1 h2).2.1
    obtain ⟨s', hs', ts'⟩ := (ha k h3 h4).2.1
    rw [e, hs'] at hs
    injection hs with hs
    injection hs with hs
    subst hs
    exact txtOf_inj j (by omega) k (by omega) h1 h3 (ts.symm.trans ts')
theorem sent_1 {W : World} {L : List (String × DataW Unit)} (hL : laidMetH Tryz.prog L W) (hf : (L.filter fun x => x.1 == "barrow/api.ErrArg" || x.1 == "barrow/api.ErrOther") = [("barrow/api.ErrArg", Rows.laid_barrow_api_ErrArg), ("barrow/api.ErrOther", Rows.laid_barrow_api_ErrOther)]) : ∃ x, SentAt W 1 x := by
  have h := hL.filter fun x => x.1 == "barrow/api.ErrArg" || x.1 == "barrow/api.ErrOther"
  rw [hf, MakeChecks.laidMetH_plain _ _ _ (by kernel_rfl)] at h
  obtain ⟨a0, a1, s0, s1, c0, c1, t0, t1, hv0, _, hc0, hs0, _, _, _, _, _, hb0, _⟩ := laid_sentinels2 h (g0 := gOf 1) (g1 := 13) (by kernel_rfl) (by kernel_rfl) (by kernel_rfl) (by kernel_rfl) Tryz.underlying52 rowES Tryz.underlying199 Tryz.underlying213 rfl rfl Tryz.underlying9 (by kernel_rfl) (by kernel_rfl)
  refine ⟨a0, ?_, ⟨s0, hc0, hs0⟩, c0, t0, hb0⟩
  have := World.var?_cell (g := gOf 1) (by kernel_rfl) hv0 0
  simpa using this
theorem sent_2 {W : World} {L : List (String × DataW Unit)} (hL : laidMetH Tryz.prog L W) (hf : (L.filter fun x => x.1 == "barrow/api.ErrRange" || x.1 == "barrow/api.ErrOther") = [("barrow/api.ErrRange", Rows.laid_barrow_api_ErrRange), ("barrow/api.ErrOther", Rows.laid_barrow_api_ErrOther)]) : ∃ x, SentAt W 2 x := by
  have h := hL.filter fun x => x.1 == "barrow/api.ErrRange" || x.1 == "barrow/api.ErrOther"
  rw [hf, MakeChecks.laidMetH_plain _ _ _ (by kernel_rfl)] at h
  obtain ⟨a0, a1, s0, s1, c0, c1, t0, t1, hv0, _, hc0, hs0, _, _, _, _, _, hb0, _⟩ := laid_sentinels2 h (g0 := gOf 2) (g1 := 13) (by kernel_rfl) (by kernel_rfl) (by kernel_rfl) (by kernel_rfl) Tryz.underlying52 rowES Tryz.underlying199 Tryz.underlying213 rfl rfl Tryz.underlying9 (by kernel_rfl) (by kernel_rfl)
  refine ⟨a0, ?_, ⟨s0, hc0, hs0⟩, c0, t0, hb0⟩
  have := World.var?_cell (g := gOf 2) (by kernel_rfl) hv0 0
  simpa using this
theorem sent_3 {W : World} {L : List (String × DataW Unit)} (hL : laidMetH Tryz.prog L W) (hf : (L.filter fun x => x.1 == "barrow/api.ErrText" || x.1 == "barrow/api.ErrOther") = [("barrow/api.ErrText", Rows.laid_barrow_api_ErrText), ("barrow/api.ErrOther", Rows.laid_barrow_api_ErrOther)]) : ∃ x, SentAt W 3 x := by
  have h := hL.filter fun x => x.1 == "barrow/api.ErrText" || x.1 == "barrow/api.ErrOther"
  rw [hf, MakeChecks.laidMetH_plain _ _ _ (by kernel_rfl)] at h
  obtain ⟨a0, a1, s0, s1, c0, c1, t0, t1, hv0, _, hc0, hs0, _, _, _, _, _, hb0, _⟩ := laid_sentinels2 h (g0 := gOf 3) (g1 := 13) (by kernel_rfl) (by kernel_rfl) (by kernel_rfl) (by kernel_rfl) Tryz.underlying52 rowES Tryz.underlying199 Tryz.underlying213 rfl rfl Tryz.underlying9 (by kernel_rfl) (by kernel_rfl)
  refine ⟨a0, ?_, ⟨s0, hc0, hs0⟩, c0, t0, hb0⟩
  have := World.var?_cell (g := gOf 3) (by kernel_rfl) hv0 0
  simpa using this
theorem sent_4 {W : World} {L : List (String × DataW Unit)} (hL : laidMetH Tryz.prog L W) (hf : (L.filter fun x => x.1 == "barrow/api.ErrFull" || x.1 == "barrow/api.ErrOther") = [("barrow/api.ErrFull", Rows.laid_barrow_api_ErrFull), ("barrow/api.ErrOther", Rows.laid_barrow_api_ErrOther)]) : ∃ x, SentAt W 4 x := by
  have h := hL.filter fun x => x.1 == "barrow/api.ErrFull" || x.1 == "barrow/api.ErrOther"
  rw [hf, MakeChecks.laidMetH_plain _ _ _ (by kernel_rfl)] at h
  obtain ⟨a0, a1, s0, s1, c0, c1, t0, t1, hv0, _, hc0, hs0, _, _, _, _, _, hb0, _⟩ := laid_sentinels2 h (g0 := gOf 4) (g1 := 13) (by kernel_rfl) (by kernel_rfl) (by kernel_rfl) (by kernel_rfl) Tryz.underlying52 rowES Tryz.underlying199 Tryz.underlying213 rfl rfl Tryz.underlying9 (by kernel_rfl) (by kernel_rfl)
  refine ⟨a0, ?_, ⟨s0, hc0, hs0⟩, c0, t0, hb0⟩
  have := World.var?_cell (g := gOf 4) (by kernel_rfl) hv0 0
  simpa using this
theorem sent_5 {W : World} {L : List (String × DataW Unit)} (hL : laidMetH Tryz.prog L W) (hf : (L.filter fun x => x.1 == "barrow/api.ErrFrozen" || x.1 == "barrow/api.ErrOther") = [("barrow/api.ErrFrozen", Rows.laid_barrow_api_ErrFrozen), ("barrow/api.ErrOther", Rows.laid_barrow_api_ErrOther)]) : ∃ x, SentAt W 5 x := by
  have h := hL.filter fun x => x.1 == "barrow/api.ErrFrozen" || x.1 == "barrow/api.ErrOther"
  rw [hf, MakeChecks.laidMetH_plain _ _ _ (by kernel_rfl)] at h
  obtain ⟨a0, a1, s0, s1, c0, c1, t0, t1, hv0, _, hc0, hs0, _, _, _, _, _, hb0, _⟩ := laid_sentinels2 h (g0 := gOf 5) (g1 := 13) (by kernel_rfl) (by kernel_rfl) (by kernel_rfl) (by kernel_rfl) Tryz.underlying52 rowES Tryz.underlying199 Tryz.underlying213 rfl rfl Tryz.underlying9 (by kernel_rfl) (by kernel_rfl)
  refine ⟨a0, ?_, ⟨s0, hc0, hs0⟩, c0, t0, hb0⟩
  have := World.var?_cell (g := gOf 5) (by kernel_rfl) hv0 0
  simpa using this
theorem sent_6 {W : World} {L : List (String × DataW Unit)} (hL : laidMetH Tryz.prog L W) (hf : (L.filter fun x => x.1 == "barrow/api.ErrForm" || x.1 == "barrow/api.ErrOther") = [("barrow/api.ErrForm", Rows.laid_barrow_api_ErrForm), ("barrow/api.ErrOther", Rows.laid_barrow_api_ErrOther)]) : ∃ x, SentAt W 6 x := by
  have h := hL.filter fun x => x.1 == "barrow/api.ErrForm" || x.1 == "barrow/api.ErrOther"
  rw [hf, MakeChecks.laidMetH_plain _ _ _ (by kernel_rfl)] at h
  obtain ⟨a0, a1, s0, s1, c0, c1, t0, t1, hv0, _, hc0, hs0, _, _, _, _, _, hb0, _⟩ := laid_sentinels2 h (g0 := gOf 6) (g1 := 13) (by kernel_rfl) (by kernel_rfl) (by kernel_rfl) (by kernel_rfl) Tryz.underlying52 rowES Tryz.underlying199 Tryz.underlying213 rfl rfl Tryz.underlying9 (by kernel_rfl) (by kernel_rfl)
  refine ⟨a0, ?_, ⟨s0, hc0, hs0⟩, c0, t0, hb0⟩
  have := World.var?_cell (g := gOf 6) (by kernel_rfl) hv0 0
  simpa using this
theorem sent_7 {W : World} {L : List (String × DataW Unit)} (hL : laidMetH Tryz.prog L W) (hf : (L.filter fun x => x.1 == "barrow/api.ErrShort" || x.1 == "barrow/api.ErrOther") = [("barrow/api.ErrShort", Rows.laid_barrow_api_ErrShort), ("barrow/api.ErrOther", Rows.laid_barrow_api_ErrOther)]) : ∃ x, SentAt W 7 x := by
  have h := hL.filter fun x => x.1 == "barrow/api.ErrShort" || x.1 == "barrow/api.ErrOther"
  rw [hf, MakeChecks.laidMetH_plain _ _ _ (by kernel_rfl)] at h
  obtain ⟨a0, a1, s0, s1, c0, c1, t0, t1, hv0, _, hc0, hs0, _, _, _, _, _, hb0, _⟩ := laid_sentinels2 h (g0 := gOf 7) (g1 := 13) (by kernel_rfl) (by kernel_rfl) (by kernel_rfl) (by kernel_rfl) Tryz.underlying52 rowES Tryz.underlying199 Tryz.underlying213 rfl rfl Tryz.underlying9 (by kernel_rfl) (by kernel_rfl)
  refine ⟨a0, ?_, ⟨s0, hc0, hs0⟩, c0, t0, hb0⟩
  have := World.var?_cell (g := gOf 7) (by kernel_rfl) hv0 0
  simpa using this
theorem sent_8 {W : World} {L : List (String × DataW Unit)} (hL : laidMetH Tryz.prog L W) (hf : (L.filter fun x => x.1 == "barrow/api.ErrOrder" || x.1 == "barrow/api.ErrOther") = [("barrow/api.ErrOrder", Rows.laid_barrow_api_ErrOrder), ("barrow/api.ErrOther", Rows.laid_barrow_api_ErrOther)]) : ∃ x, SentAt W 8 x := by
  have h := hL.filter fun x => x.1 == "barrow/api.ErrOrder" || x.1 == "barrow/api.ErrOther"
  rw [hf, MakeChecks.laidMetH_plain _ _ _ (by kernel_rfl)] at h
  obtain ⟨a0, a1, s0, s1, c0, c1, t0, t1, hv0, _, hc0, hs0, _, _, _, _, _, hb0, _⟩ := laid_sentinels2 h (g0 := gOf 8) (g1 := 13) (by kernel_rfl) (by kernel_rfl) (by kernel_rfl) (by kernel_rfl) Tryz.underlying52 rowES Tryz.underlying199 Tryz.underlying213 rfl rfl Tryz.underlying9 (by kernel_rfl) (by kernel_rfl)
  refine ⟨a0, ?_, ⟨s0, hc0, hs0⟩, c0, t0, hb0⟩
  have := World.var?_cell (g := gOf 8) (by kernel_rfl) hv0 0
  simpa using this
theorem sent_9 {W : World} {L : List (String × DataW Unit)} (hL : laidMetH Tryz.prog L W) (hf : (L.filter fun x => x.1 == "barrow/api.ErrTwice" || x.1 == "barrow/api.ErrOther") = [("barrow/api.ErrTwice", Rows.laid_barrow_api_ErrTwice), ("barrow/api.ErrOther", Rows.laid_barrow_api_ErrOther)]) : ∃ x, SentAt W 9 x := by
  have h := hL.filter fun x => x.1 == "barrow/api.ErrTwice" || x.1 == "barrow/api.ErrOther"
  rw [hf, MakeChecks.laidMetH_plain _ _ _ (by kernel_rfl)] at h
  obtain ⟨a0, a1, s0, s1, c0, c1, t0, t1, hv0, _, hc0, hs0, _, _, _, _, _, hb0, _⟩ := laid_sentinels2 h (g0 := gOf 9) (g1 := 13) (by kernel_rfl) (by kernel_rfl) (by kernel_rfl) (by kernel_rfl) Tryz.underlying52 rowES Tryz.underlying199 Tryz.underlying213 rfl rfl Tryz.underlying9 (by kernel_rfl) (by kernel_rfl)
  refine ⟨a0, ?_, ⟨s0, hc0, hs0⟩, c0, t0, hb0⟩
  have := World.var?_cell (g := gOf 9) (by kernel_rfl) hv0 0
  simpa using this
theorem sent_10 {W : World} {L : List (String × DataW Unit)} (hL : laidMetH Tryz.prog L W) (hf : (L.filter fun x => x.1 == "barrow/api.ErrEpoch" || x.1 == "barrow/api.ErrOther") = [("barrow/api.ErrEpoch", Rows.laid_barrow_api_ErrEpoch), ("barrow/api.ErrOther", Rows.laid_barrow_api_ErrOther)]) : ∃ x, SentAt W 10 x := by
  have h := hL.filter fun x => x.1 == "barrow/api.ErrEpoch" || x.1 == "barrow/api.ErrOther"
  rw [hf, MakeChecks.laidMetH_plain _ _ _ (by kernel_rfl)] at h
  obtain ⟨a0, a1, s0, s1, c0, c1, t0, t1, hv0, _, hc0, hs0, _, _, _, _, _, hb0, _⟩ := laid_sentinels2 h (g0 := gOf 10) (g1 := 13) (by kernel_rfl) (by kernel_rfl) (by kernel_rfl) (by kernel_rfl) Tryz.underlying52 rowES Tryz.underlying199 Tryz.underlying213 rfl rfl Tryz.underlying9 (by kernel_rfl) (by kernel_rfl)
  refine ⟨a0, ?_, ⟨s0, hc0, hs0⟩, c0, t0, hb0⟩
  have := World.var?_cell (g := gOf 10) (by kernel_rfl) hv0 0
  simpa using this
theorem sent_11 {W : World} {L : List (String × DataW Unit)} (hL : laidMetH Tryz.prog L W) (hf : (L.filter fun x => x.1 == "barrow/api.ErrBusy" || x.1 == "barrow/api.ErrOther") = [("barrow/api.ErrBusy", Rows.laid_barrow_api_ErrBusy), ("barrow/api.ErrOther", Rows.laid_barrow_api_ErrOther)]) : ∃ x, SentAt W 11 x := by
  have h := hL.filter fun x => x.1 == "barrow/api.ErrBusy" || x.1 == "barrow/api.ErrOther"
  rw [hf, MakeChecks.laidMetH_plain _ _ _ (by kernel_rfl)] at h
  obtain ⟨a0, a1, s0, s1, c0, c1, t0, t1, hv0, _, hc0, hs0, _, _, _, _, _, hb0, _⟩ := laid_sentinels2 h (g0 := gOf 11) (g1 := 13) (by kernel_rfl) (by kernel_rfl) (by kernel_rfl) (by kernel_rfl) Tryz.underlying52 rowES Tryz.underlying199 Tryz.underlying213 rfl rfl Tryz.underlying9 (by kernel_rfl) (by kernel_rfl)
  refine ⟨a0, ?_, ⟨s0, hc0, hs0⟩, c0, t0, hb0⟩
  have := World.var?_cell (g := gOf 11) (by kernel_rfl) hv0 0
  simpa using this
theorem sent_12 {W : World} {L : List (String × DataW Unit)} (hL : laidMetH Tryz.prog L W) (hf : (L.filter fun x => x.1 == "barrow/api.ErrNone" || x.1 == "barrow/api.ErrOther") = [("barrow/api.ErrNone", Rows.laid_barrow_api_ErrNone), ("barrow/api.ErrOther", Rows.laid_barrow_api_ErrOther)]) : ∃ x, SentAt W 12 x := by
  have h := hL.filter fun x => x.1 == "barrow/api.ErrNone" || x.1 == "barrow/api.ErrOther"
  rw [hf, MakeChecks.laidMetH_plain _ _ _ (by kernel_rfl)] at h
  obtain ⟨a0, a1, s0, s1, c0, c1, t0, t1, hv0, _, hc0, hs0, _, _, _, _, _, hb0, _⟩ := laid_sentinels2 h (g0 := gOf 12) (g1 := 13) (by kernel_rfl) (by kernel_rfl) (by kernel_rfl) (by kernel_rfl) Tryz.underlying52 rowES Tryz.underlying199 Tryz.underlying213 rfl rfl Tryz.underlying9 (by kernel_rfl) (by kernel_rfl)
  refine ⟨a0, ?_, ⟨s0, hc0, hs0⟩, c0, t0, hb0⟩
  have := World.var?_cell (g := gOf 12) (by kernel_rfl) hv0 0
  simpa using this
theorem sent_13 {W : World} {L : List (String × DataW Unit)} (hL : laidMetH Tryz.prog L W) (hf : (L.filter fun x => x.1 == "barrow/api.ErrRoom" || x.1 == "barrow/api.ErrOther") = [("barrow/api.ErrRoom", Rows.laid_barrow_api_ErrRoom), ("barrow/api.ErrOther", Rows.laid_barrow_api_ErrOther)]) : ∃ x, SentAt W 13 x := by
  have h := hL.filter fun x => x.1 == "barrow/api.ErrRoom" || x.1 == "barrow/api.ErrOther"
  rw [hf, MakeChecks.laidMetH_plain _ _ _ (by kernel_rfl)] at h
  obtain ⟨a0, a1, s0, s1, c0, c1, t0, t1, hv0, _, hc0, hs0, _, _, _, _, _, hb0, _⟩ := laid_sentinels2 h (g0 := gOf 13) (g1 := 13) (by kernel_rfl) (by kernel_rfl) (by kernel_rfl) (by kernel_rfl) Tryz.underlying52 rowES Tryz.underlying199 Tryz.underlying213 rfl rfl Tryz.underlying9 (by kernel_rfl) (by kernel_rfl)
  refine ⟨a0, ?_, ⟨s0, hc0, hs0⟩, c0, t0, hb0⟩
  have := World.var?_cell (g := gOf 13) (by kernel_rfl) hv0 0
  simpa using this
end Go.Proofs.YtfihjajllfihjaaGreatDoor
