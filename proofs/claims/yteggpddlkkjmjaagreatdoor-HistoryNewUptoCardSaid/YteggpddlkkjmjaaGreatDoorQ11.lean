/- Part of a proof: what functions of the program compute. Conditions: as each theorem says. -/
import Derived.Deep.DeepHandedRow
import Derived.Deep.Slices
import Derived.Deep.Strs
import Derived.LaidSub
import Derived.MakeChecks
import Derived.OpenShut
import Derived.ProofKit
import Derived.Stop.LaidTwo
import Derived.Test.YteggpddlkkjmjaaGreatDoorCards
import Derived.Test.YteggpddlkkjmjaaGreatDoorTie
import Derived.Test.YteggpddlkkjmjaaGreatDoorQ5
set_option linter.unusedSimpArgs false
set_option linter.unusedVariables false
namespace Go.Proofs.YteggpddlkkjmjaaGreatDoor
open Go Go.RowKit Go.ChangeShapes Go.WideShapes Go.ChangeAt Go.Deep
theorem wf_i64 {n : Int} (h : (Lit.int .i64 n).wf = true) : -9223372036854775808 ≤ n ∧ n ≤ 9223372036854775807 := by
 simp only [Lit.wf, Bool.and_eq_true, decide_eq_true_eq, show IntKind.i64.min = -9223372036854775808 from by decide, show IntKind.i64.max = 9223372036854775807 from by decide] at h
 exact h
theorem wf_i32 {n : Int} (h : (Lit.int .i32 n).wf = true) : -2147483648 ≤ n ∧ n ≤ 2147483647 := by
 simp only [Lit.wf, Bool.and_eq_true, decide_eq_true_eq, show IntKind.i32.min = -2147483648 from by decide, show IntKind.i32.max = 2147483647 from by decide] at h
 exact h
section
variable {H : Type} {enc : TypeId × Value → H} {w : World} {base : Nat} {spare : Nat → Bool} {held : Bool}
theorem one_of_trod {t : TypeId} {k : IntKind} {fuel : Nat} {cs : List Value} {y : Option (DataW H × List MemPlace)} {z : DataW H × List MemPlace} (ht : Tryz.prog.underlying t = some (.int k)) (h : DataW.trod enc Tryz.prog w base spare held fuel t cs = y) (hy : y = some z) : ∃ n, cs = [.int k n] ∧ (Lit.int k n).wf = true := by
 subst hy
 obtain ⟨n, h1, _, h2⟩ := DataW.trod_int ht h
 exact ⟨n, h1, h2⟩
end
def txtOf : Nat → List UInt8
 | 1 => [98, 97, 100, 32, 97, 114, 103, 117, 109, 101, 110, 116]
 | 2 => [111, 117, 116, 32, 111, 102, 32, 114, 97, 110, 103, 101]
 | 3 => [98, 97, 100, 32, 116, 101, 120, 116]
 | 4 => [110, 111, 32, 99, 114, 101, 100, 105, 116, 32, 108, 101, 102, 116]
 | 5 => [102, 114, 111, 122, 101, 110]
 | 6 => [98, 97, 100, 32, 102, 111, 114, 109]
 | 7 => [99, 117, 116, 32, 115, 104, 111, 114, 116]
 | 8 => [110, 111, 116, 32, 121, 101, 116]
 | 9 => [116, 104, 101, 114, 101, 32, 97, 108, 114, 101, 97, 100, 121]
 | 10 => [97, 110, 111, 116, 104, 101, 114, 32, 101, 112, 111, 99, 104]
 | 11 => [98, 117, 115, 121]
 | 12 => [110, 111, 116, 104, 105, 110, 103, 32, 116, 104, 101, 114, 101]
 | 13 => [110, 111, 32, 114, 111, 111, 109]
 | _ => []
theorem txtOf_inj : ∀ j, j < 14 → ∀ k, k < 14 → 1 ≤ j → 1 ≤ k → txtOf j = txtOf k → j = k := by decide
theorem starES : "*" ++ "errors.errorString" = "*errors.errorString" := by decide
theorem rowES (u : TypeId) (h : Tryz.prog.typeName? 3 u = some "*errors.errorString") : u = 228 :=
 typeName_ptr_named (nm := "errors.errorString") (by rw [starES]; kernel_rfl) (by kernel_rfl) (by decide) u (by rw [starES]; exact h)
def SentAt (W : World) (k : Nat) (x : Addr) : Prop := W.cell? ⟨gOf k, 0, none⟩ = some (reason x) ∧ (∃ s : ByteArray, W.cell? x = some (.string s) ∧ s.data.toList = txtOf k) ∧ ∃ cs t, W.heap[x.block]? = some (.cells cs t (0, 0))
theorem sents_of_at {W : World} (h : ∀ k, 1 ≤ k → k ≤ 13 → ∃ x, SentAt W k x) : ∃ a, Sents W (fun b => b < W.heap.size) a := by
 have h' : ∀ k, ∃ x, 1 ≤ k → k ≤ 13 → SentAt W k x := fun k => by
  by_cases hk : 1 ≤ k ∧ k ≤ 13
  · obtain ⟨x, hx⟩ := h k hk.1 hk.2
    exact ⟨x, fun _ _ => hx⟩
  · exact ⟨⟨0, 0, none⟩, fun h1 h2 => absurd ⟨h1, h2⟩ hk⟩
 obtain ⟨a, ha⟩ := Classical.skolem.1 h'
 refine ⟨a, fun k h1 h2 => (ha k h1 h2).1, fun k h1 h2 => lt_of_cell' (ha k h1 h2).1, fun k h1 h2 => ?_, fun j k h1 h2 h3 h4 e => ?_, fun k h1 h2 => (ha k h1 h2).2.2⟩
 · obtain ⟨s, hs, _⟩ := (ha k h1 h2).2.1
   exact lt_of_cell' hs
 · obtain ⟨s, hs, ts⟩ := (ha j h1 h2).2.1
   obtain ⟨s', hs', ts'⟩ := (ha k h3 h4).2.1
   rw [e, hs'] at hs
   injection hs with hs
   injection hs with hs
   subst hs
   exact txtOf_inj j (by omega) k (by omega) h1 h3 (ts.symm.trans ts')
theorem sent_1 {W : World} {L : List (String × DataW Unit)} (hL : laidMetH Tryz.prog L W) (hf : (L.filter fun x => x.1 == "barrow/api.ErrArg" || x.1 == "barrow/api.ErrOther") = [("barrow/api.ErrArg", Rows.laid_barrow_api_ErrArg), ("barrow/api.ErrOther", Rows.laid_barrow_api_ErrOther)]) : ∃ x, SentAt W 1 x := by
 have h := hL.filter fun x => x.1 == "barrow/api.ErrArg" || x.1 == "barrow/api.ErrOther"
 rw [hf, MakeChecks.laidMetH_plain _ _ _ (by kernel_rfl)] at h
 obtain ⟨a0, a1, s0, s1, c0, c1, t0, t1, hv0, _, hc0, hs0, _, _, _, _, _, hb0, _⟩ := laid_sentinels2 h (g0 := gOf 1) (g1 := 13) (by kernel_rfl) (by kernel_rfl) (by kernel_rfl) (by kernel_rfl) Tryz.underlying39 rowES Tryz.underlying228 Tryz.underlying242 rfl rfl Tryz.underlying9 (by kernel_rfl) (by kernel_rfl)
 refine ⟨a0, ?_, ⟨s0, hc0, hs0⟩, c0, t0, hb0⟩
 have := World.var?_cell (g := gOf 1) (by kernel_rfl) hv0 0
 simpa using this
theorem sent_2 {W : World} {L : List (String × DataW Unit)} (hL : laidMetH Tryz.prog L W) (hf : (L.filter fun x => x.1 == "barrow/api.ErrRange" || x.1 == "barrow/api.ErrOther") = [("barrow/api.ErrRange", Rows.laid_barrow_api_ErrRange), ("barrow/api.ErrOther", Rows.laid_barrow_api_ErrOther)]) : ∃ x, SentAt W 2 x := by
 have h := hL.filter fun x => x.1 == "barrow/api.ErrRange" || x.1 == "barrow/api.ErrOther"
 rw [hf, MakeChecks.laidMetH_plain _ _ _ (by kernel_rfl)] at h
 obtain ⟨a0, a1, s0, s1, c0, c1, t0, t1, hv0, _, hc0, hs0, _, _, _, _, _, hb0, _⟩ := laid_sentinels2 h (g0 := gOf 2) (g1 := 13) (by kernel_rfl) (by kernel_rfl) (by kernel_rfl) (by kernel_rfl) Tryz.underlying39 rowES Tryz.underlying228 Tryz.underlying242 rfl rfl Tryz.underlying9 (by kernel_rfl) (by kernel_rfl)
 refine ⟨a0, ?_, ⟨s0, hc0, hs0⟩, c0, t0, hb0⟩
 have := World.var?_cell (g := gOf 2) (by kernel_rfl) hv0 0
 simpa using this
theorem sent_3 {W : World} {L : List (String × DataW Unit)} (hL : laidMetH Tryz.prog L W) (hf : (L.filter fun x => x.1 == "barrow/api.ErrText" || x.1 == "barrow/api.ErrOther") = [("barrow/api.ErrText", Rows.laid_barrow_api_ErrText), ("barrow/api.ErrOther", Rows.laid_barrow_api_ErrOther)]) : ∃ x, SentAt W 3 x := by
 have h := hL.filter fun x => x.1 == "barrow/api.ErrText" || x.1 == "barrow/api.ErrOther"
 rw [hf, MakeChecks.laidMetH_plain _ _ _ (by kernel_rfl)] at h
 obtain ⟨a0, a1, s0, s1, c0, c1, t0, t1, hv0, _, hc0, hs0, _, _, _, _, _, hb0, _⟩ := laid_sentinels2 h (g0 := gOf 3) (g1 := 13) (by kernel_rfl) (by kernel_rfl) (by kernel_rfl) (by kernel_rfl) Tryz.underlying39 rowES Tryz.underlying228 Tryz.underlying242 rfl rfl Tryz.underlying9 (by kernel_rfl) (by kernel_rfl)
 refine ⟨a0, ?_, ⟨s0, hc0, hs0⟩, c0, t0, hb0⟩
 have := World.var?_cell (g := gOf 3) (by kernel_rfl) hv0 0
 simpa using this
theorem sent_4 {W : World} {L : List (String × DataW Unit)} (hL : laidMetH Tryz.prog L W) (hf : (L.filter fun x => x.1 == "barrow/api.ErrFull" || x.1 == "barrow/api.ErrOther") = [("barrow/api.ErrFull", Rows.laid_barrow_api_ErrFull), ("barrow/api.ErrOther", Rows.laid_barrow_api_ErrOther)]) : ∃ x, SentAt W 4 x := by
 have h := hL.filter fun x => x.1 == "barrow/api.ErrFull" || x.1 == "barrow/api.ErrOther"
 rw [hf, MakeChecks.laidMetH_plain _ _ _ (by kernel_rfl)] at h
 obtain ⟨a0, a1, s0, s1, c0, c1, t0, t1, hv0, _, hc0, hs0, _, _, _, _, _, hb0, _⟩ := laid_sentinels2 h (g0 := gOf 4) (g1 := 13) (by kernel_rfl) (by kernel_rfl) (by kernel_rfl) (by kernel_rfl) Tryz.underlying39 rowES Tryz.underlying228 Tryz.underlying242 rfl rfl Tryz.underlying9 (by kernel_rfl) (by kernel_rfl)
 refine ⟨a0, ?_, ⟨s0, hc0, hs0⟩, c0, t0, hb0⟩
 have := World.var?_cell (g := gOf 4) (by kernel_rfl) hv0 0
 simpa using this
theorem sent_5 {W : World} {L : List (String × DataW Unit)} (hL : laidMetH Tryz.prog L W) (hf : (L.filter fun x => x.1 == "barrow/api.ErrFrozen" || x.1 == "barrow/api.ErrOther") = [("barrow/api.ErrFrozen", Rows.laid_barrow_api_ErrFrozen), ("barrow/api.ErrOther", Rows.laid_barrow_api_ErrOther)]) : ∃ x, SentAt W 5 x := by
 have h := hL.filter fun x => x.1 == "barrow/api.ErrFrozen" || x.1 == "barrow/api.ErrOther"
 rw [hf, MakeChecks.laidMetH_plain _ _ _ (by kernel_rfl)] at h
 obtain ⟨a0, a1, s0, s1, c0, c1, t0, t1, hv0, _, hc0, hs0, _, _, _, _, _, hb0, _⟩ := laid_sentinels2 h (g0 := gOf 5) (g1 := 13) (by kernel_rfl) (by kernel_rfl) (by kernel_rfl) (by kernel_rfl) Tryz.underlying39 rowES Tryz.underlying228 Tryz.underlying242 rfl rfl Tryz.underlying9 (by kernel_rfl) (by kernel_rfl)
 refine ⟨a0, ?_, ⟨s0, hc0, hs0⟩, c0, t0, hb0⟩
 have := World.var?_cell (g := gOf 5) (by kernel_rfl) hv0 0
 simpa using this
theorem sent_6 {W : World} {L : List (String × DataW Unit)} (hL : laidMetH Tryz.prog L W) (hf : (L.filter fun x => x.1 == "barrow/api.ErrForm" || x.1 == "barrow/api.ErrOther") = [("barrow/api.ErrForm", Rows.laid_barrow_api_ErrForm), ("barrow/api.ErrOther", Rows.laid_barrow_api_ErrOther)]) : ∃ x, SentAt W 6 x := by
 have h := hL.filter fun x => x.1 == "barrow/api.ErrForm" || x.1 == "barrow/api.ErrOther"
 rw [hf, MakeChecks.laidMetH_plain _ _ _ (by kernel_rfl)] at h
 obtain ⟨a0, a1, s0, s1, c0, c1, t0, t1, hv0, _, hc0, hs0, _, _, _, _, _, hb0, _⟩ := laid_sentinels2 h (g0 := gOf 6) (g1 := 13) (by kernel_rfl) (by kernel_rfl) (by kernel_rfl) (by kernel_rfl) Tryz.underlying39 rowES Tryz.underlying228 Tryz.underlying242 rfl rfl Tryz.underlying9 (by kernel_rfl) (by kernel_rfl)
 refine ⟨a0, ?_, ⟨s0, hc0, hs0⟩, c0, t0, hb0⟩
 have := World.var?_cell (g := gOf 6) (by kernel_rfl) hv0 0
 simpa using this
theorem sent_7 {W : World} {L : List (String × DataW Unit)} (hL : laidMetH Tryz.prog L W) (hf : (L.filter fun x => x.1 == "barrow/api.ErrShort" || x.1 == "barrow/api.ErrOther") = [("barrow/api.ErrShort", Rows.laid_barrow_api_ErrShort), ("barrow/api.ErrOther", Rows.laid_barrow_api_ErrOther)]) : ∃ x, SentAt W 7 x := by
 have h := hL.filter fun x => x.1 == "barrow/api.ErrShort" || x.1 == "barrow/api.ErrOther"
 rw [hf, MakeChecks.laidMetH_plain _ _ _ (by kernel_rfl)] at h
 obtain ⟨a0, a1, s0, s1, c0, c1, t0, t1, hv0, _, hc0, hs0, _, _, _, _, _, hb0, _⟩ := laid_sentinels2 h (g0 := gOf 7) (g1 := 13) (by kernel_rfl) (by kernel_rfl) (by kernel_rfl) (by kernel_rfl) Tryz.underlying39 rowES Tryz.underlying228 Tryz.underlying242 rfl rfl Tryz.underlying9 (by kernel_rfl) (by kernel_rfl)
 refine ⟨a0, ?_, ⟨s0, hc0, hs0⟩, c0, t0, hb0⟩
 have := World.var?_cell (g := gOf 7) (by kernel_rfl) hv0 0
 simpa using this
theorem sent_8 {W : World} {L : List (String × DataW Unit)} (hL : laidMetH Tryz.prog L W) (hf : (L.filter fun x => x.1 == "barrow/api.ErrOrder" || x.1 == "barrow/api.ErrOther") = [("barrow/api.ErrOrder", Rows.laid_barrow_api_ErrOrder), ("barrow/api.ErrOther", Rows.laid_barrow_api_ErrOther)]) : ∃ x, SentAt W 8 x := by
 have h := hL.filter fun x => x.1 == "barrow/api.ErrOrder" || x.1 == "barrow/api.ErrOther"
 rw [hf, MakeChecks.laidMetH_plain _ _ _ (by kernel_rfl)] at h
 obtain ⟨a0, a1, s0, s1, c0, c1, t0, t1, hv0, _, hc0, hs0, _, _, _, _, _, hb0, _⟩ := laid_sentinels2 h (g0 := gOf 8) (g1 := 13) (by kernel_rfl) (by kernel_rfl) (by kernel_rfl) (by kernel_rfl) Tryz.underlying39 rowES Tryz.underlying228 Tryz.underlying242 rfl rfl Tryz.underlying9 (by kernel_rfl) (by kernel_rfl)
 refine ⟨a0, ?_, ⟨s0, hc0, hs0⟩, c0, t0, hb0⟩
 have := World.var?_cell (g := gOf 8) (by kernel_rfl) hv0 0
 simpa using this
theorem sent_9 {W : World} {L : List (String × DataW Unit)} (hL : laidMetH Tryz.prog L W) (hf : (L.filter fun x => x.1 == "barrow/api.ErrTwice" || x.1 == "barrow/api.ErrOther") = [("barrow/api.ErrTwice", Rows.laid_barrow_api_ErrTwice), ("barrow/api.ErrOther", Rows.laid_barrow_api_ErrOther)]) : ∃ x, SentAt W 9 x := by
 have h := hL.filter fun x => x.1 == "barrow/api.ErrTwice" || x.1 == "barrow/api.ErrOther"
 rw [hf, MakeChecks.laidMetH_plain _ _ _ (by kernel_rfl)] at h
 obtain ⟨a0, a1, s0, s1, c0, c1, t0, t1, hv0, _, hc0, hs0, _, _, _, _, _, hb0, _⟩ := laid_sentinels2 h (g0 := gOf 9) (g1 := 13) (by kernel_rfl) (by kernel_rfl) (by kernel_rfl) (by kernel_rfl) Tryz.underlying39 rowES Tryz.underlying228 Tryz.underlying242 rfl rfl Tryz.underlying9 (by kernel_rfl) (by kernel_rfl)
 refine ⟨a0, ?_, ⟨s0, hc0, hs0⟩, c0, t0, hb0⟩
 have := World.var?_cell (g := gOf 9) (by kernel_rfl) hv0 0
 simpa using this
theorem sent_10 {W : World} {L : List (String × DataW Unit)} (hL : laidMetH Tryz.prog L W) (hf : (L.filter fun x => x.1 == "barrow/api.ErrEpoch" || x.1 == "barrow/api.ErrOther") = [("barrow/api.ErrEpoch", Rows.laid_barrow_api_ErrEpoch), ("barrow/api.ErrOther", Rows.laid_barrow_api_ErrOther)]) : ∃ x, SentAt W 10 x := by
 have h := hL.filter fun x => x.1 == "barrow/api.ErrEpoch" || x.1 == "barrow/api.ErrOther"
 rw [hf, MakeChecks.laidMetH_plain _ _ _ (by kernel_rfl)] at h
 obtain ⟨a0, a1, s0, s1, c0, c1, t0, t1, hv0, _, hc0, hs0, _, _, _, _, _, hb0, _⟩ := laid_sentinels2 h (g0 := gOf 10) (g1 := 13) (by kernel_rfl) (by kernel_rfl) (by kernel_rfl) (by kernel_rfl) Tryz.underlying39 rowES Tryz.underlying228 Tryz.underlying242 rfl rfl Tryz.underlying9 (by kernel_rfl) (by kernel_rfl)
 refine ⟨a0, ?_, ⟨s0, hc0, hs0⟩, c0, t0, hb0⟩
 have := World.var?_cell (g := gOf 10) (by kernel_rfl) hv0 0
 simpa using this
theorem sent_11 {W : World} {L : List (String × DataW Unit)} (hL : laidMetH Tryz.prog L W) (hf : (L.filter fun x => x.1 == "barrow/api.ErrBusy" || x.1 == "barrow/api.ErrOther") = [("barrow/api.ErrBusy", Rows.laid_barrow_api_ErrBusy), ("barrow/api.ErrOther", Rows.laid_barrow_api_ErrOther)]) : ∃ x, SentAt W 11 x := by
 have h := hL.filter fun x => x.1 == "barrow/api.ErrBusy" || x.1 == "barrow/api.ErrOther"
 rw [hf, MakeChecks.laidMetH_plain _ _ _ (by kernel_rfl)] at h
 obtain ⟨a0, a1, s0, s1, c0, c1, t0, t1, hv0, _, hc0, hs0, _, _, _, _, _, hb0, _⟩ := laid_sentinels2 h (g0 := gOf 11) (g1 := 13) (by kernel_rfl) (by kernel_rfl) (by kernel_rfl) (by kernel_rfl) Tryz.underlying39 rowES Tryz.underlying228 Tryz.underlying242 rfl rfl Tryz.underlying9 (by kernel_rfl) (by kernel_rfl)
 refine ⟨a0, ?_, ⟨s0, hc0, hs0⟩, c0, t0, hb0⟩
 have := World.var?_cell (g := gOf 11) (by kernel_rfl) hv0 0
 simpa using this
theorem sent_12 {W : World} {L : List (String × DataW Unit)} (hL : laidMetH Tryz.prog L W) (hf : (L.filter fun x => x.1 == "barrow/api.ErrNone" || x.1 == "barrow/api.ErrOther") = [("barrow/api.ErrNone", Rows.laid_barrow_api_ErrNone), ("barrow/api.ErrOther", Rows.laid_barrow_api_ErrOther)]) : ∃ x, SentAt W 12 x := by
 have h := hL.filter fun x => x.1 == "barrow/api.ErrNone" || x.1 == "barrow/api.ErrOther"
 rw [hf, MakeChecks.laidMetH_plain _ _ _ (by kernel_rfl)] at h
 obtain ⟨a0, a1, s0, s1, c0, c1, t0, t1, hv0, _, hc0, hs0, _, _, _, _, _, hb0, _⟩ := laid_sentinels2 h (g0 := gOf 12) (g1 := 13) (by kernel_rfl) (by kernel_rfl) (by kernel_rfl) (by kernel_rfl) Tryz.underlying39 rowES Tryz.underlying228 Tryz.underlying242 rfl rfl Tryz.underlying9 (by kernel_rfl) (by kernel_rfl)
 refine ⟨a0, ?_, ⟨s0, hc0, hs0⟩, c0, t0, hb0⟩
 have := World.var?_cell (g := gOf 12) (by kernel_rfl) hv0 0
 simpa using this
theorem sent_13 {W : World} {L : List (String × DataW Unit)} (hL : laidMetH Tryz.prog L W) (hf : (L.filter fun x => x.1 == "barrow/api.ErrRoom" || x.1 == "barrow/api.ErrOther") = [("barrow/api.ErrRoom", Rows.laid_barrow_api_ErrRoom), ("barrow/api.ErrOther", Rows.laid_barrow_api_ErrOther)]) : ∃ x, SentAt W 13 x := by
 have h := hL.filter fun x => x.1 == "barrow/api.ErrRoom" || x.1 == "barrow/api.ErrOther"
 rw [hf, MakeChecks.laidMetH_plain _ _ _ (by kernel_rfl)] at h
 obtain ⟨a0, a1, s0, s1, c0, c1, t0, t1, hv0, _, hc0, hs0, _, _, _, _, _, hb0, _⟩ := laid_sentinels2 h (g0 := gOf 13) (g1 := 13) (by kernel_rfl) (by kernel_rfl) (by kernel_rfl) (by kernel_rfl) Tryz.underlying39 rowES Tryz.underlying228 Tryz.underlying242 rfl rfl Tryz.underlying9 (by kernel_rfl) (by kernel_rfl)
 refine ⟨a0, ?_, ⟨s0, hc0, hs0⟩, c0, t0, hb0⟩
 have := World.var?_cell (g := gOf 13) (by kernel_rfl) hv0 0
 simpa using this
end Go.Proofs.YteggpddlkkjmjaaGreatDoor
