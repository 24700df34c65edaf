/- A set of names (IDs) in memory: made, asked, written, struck from. Condition: the names' numbers fit their kind. -/
import Derived.Test.YtfihjajllfihjaaDoorOpen
import Derived.Test.YtfihjajllfihjaaDoorTree12
import Derived.Maps.OwnSet
import Derived.DeepKeys4
import Derived.WalkKit
namespace Go.Proofs.YtfihjajllfihjaaDoor
set_option linter.unusedSimpArgs false
set_option linter.unusedVariables false
open Go Go.RowKit Go.Maps

/-- an element's ID -/
structure Nm where
  epoch : Int
  rep : Int
  num : Int
deriving DecidableEq
def Nm.val (i : Nm) : Value := .agg #[.int .i64 i.epoch, .int .i64 i.rep, .int .i64 i.num]
def I64 (n : Int) : Prop := -9223372036854775808 ≤ n ∧ n ≤ 9223372036854775807
def Nm.In (i : Nm) : Prop := I64 i.epoch ∧ I64 i.rep ∧ I64 i.num
def El.nm (e : El) : Nm := ⟨e.epoch, e.rep, e.num⟩
theorem I64.wf {n : Int} (h : I64 n) : (Lit.int .i64 n).wf = true := by
  simp only [Lit.wf, Bool.and_eq_true, decide_eq_true_eq, show IntKind.i64.min = -9223372036854775808 from by decide, show IntKind.i64.max = 9223372036854775807 from by decide]
  exact h
theorem Tryd.idKeyType : Tryd.prog.keyType 40 = true := by kernel_rfl
theorem Tryd.idLaw : WideMaps.KeyLaw Tryd.prog 40 := deep_law_laid laidOut (m := 2) (by omega) (of_decide_eq_true (by kernel_rfl)) (by kernel_rfl) (by kernel_rfl)
theorem Tryd.idKeyed : Keyed Tryd.prog 40 := Keyed.of_law Tryd.idLaw
theorem nm_key (i : Nm) (h : i.In) : ∃ l, keyOf Tryd.prog 40 i.val = some l := by
  have hf : i.val.formed Tryd.prog 40 = true := by kernel_rfl
  obtain ⟨n, hn⟩ : ∃ n, Tryd.prog.types.size = n + 1 := ⟨Tryd.prog.types.size - 1, by
    have h0 : 0 < Tryd.prog.types.size := of_decide_eq_true (by kernel_rfl)
    omega⟩
  have c34 : Tryd.prog.cellsOf 40 = 3 := by kernel_rfl
  have c3 : Tryd.prog.cellsOf 3 = 1 := by kernel_rfl
  have hl : ∃ ls, Tryd.prog.keyLits (Tryd.prog.types.size + 1) 40 i.val.cells.toList = some ls := by
    rw [hn]
    simp [Program.keyLits, Tryd.underlying40, Tryd.underlying3, c34, c3, Nm.val, Value.cells, h.1.wf, h.2.1.wf, h.2.2.wf, List.mapM_cons, List.mapM_nil]
  obtain ⟨ls, hls⟩ := hl
  unfold keyOf
  rw [Tryd.underlying40]
  refine ⟨.string (keyBytes ls), ?_⟩
  show (if (Tryd.prog.keyType 40 && i.val.formed Tryd.prog 40) = true then _ else _) = _
  rw [Tryd.idKeyType, hf, if_pos (by rfl), hls]
  rfl
noncomputable def Nm.lit (i : Nm) (h : i.In) : Lit := (nm_key i h).choose
theorem Nm.lit_key (i : Nm) (h : i.In) : keyOf Tryd.prog 40 i.val = some (i.lit h) := (nm_key i h).choose_spec
theorem Nm.lit_inj {i j : Nm} {hi : i.In} {hj : j.In} (h : i.lit hi = j.lit hj) : i = j := by
  have h1 := i.lit_key hi
  rw [h] at h1
  have h2 := Tryd.idKeyed.inj h1 (j.lit_key hj)
  cases i
  cases j
  simp only [Nm.val, Value.agg.injEq, Array.mk.injEq, List.cons.injEq, Value.int.injEq, true_and, and_true] at h2
  obtain ⟨rfl, rfl, rfl⟩ := h2
  rfl
theorem Nm.lit_isKey (i : Nm) (h : i.In) : WideAt.IsKeyLit (i.lit h) := Tryd.idKeyed.key (i.lit_key h)
/-- block b is a set of just these names -/
def IsIds (w : World) (b K : Nat) (s : List Nm) : Prop := ∃ (n : Nat) (D : DataW Unit), w.ownsMap Tryd.prog 40 unitElem b n D ∧ n ≤ K ∧ (∀ (i : Nm) (h : i.In), has D (i.lit h) = decide (i ∈ s))
theorem IsIds.lt {w : World} {b K : Nat} {s : List Nm} (h : IsIds w b K s) : b < w.heap.size := by
  obtain ⟨n, D, h, _⟩ := h
  exact h.lt
theorem IsIds.heap {w w' : World} {b K : Nat} {s : List Nm} (h : IsIds w b K s) (hb : w'.heap[b]? = w.heap[b]?) : IsIds w' b K s := by
  obtain ⟨n, D, ⟨es, clock, h1, r⟩, h2⟩ := h
  exact ⟨n, D, ⟨es, clock, hb.trans h1, r⟩, h2⟩
theorem IsIds.made (w : World) : IsIds (w.alloc (.map #[] 0)) w.heap.size 0 [] :=
  ⟨0, .map [], World.ownsMap_made w _ _ _, Nat.zero_le _, fun i h => by simp [has]⟩
/-- a name asked for -/
theorem IsIds.ask {w : World} {b K : Nat} {s : List Nm} (h : IsIds w b K s) (i : Nm) (hi : i.In) : (Instr.lookup 134 (.map (some b)) i.val true).run Tryd.prog w = .ok (.tuple #[.agg #[], .bool (decide (i ∈ s))]) w := by
  obtain ⟨n, D, ho, _, hs⟩ := h
  obtain ⟨v, ps, hrun, hv⟩ := ho.look_ok Tryd.idKeyed Tryd.underlying134 (z := .agg #[]) (by kernel_rfl) unitElem_mk (i.lit_key hi)
  obtain ⟨rfl, _⟩ := unitElem_inv hv
  rw [hrun, hs i hi]
/-- a name laid in -/
theorem IsIds.put {w : World} {b K : Nat} {s : List Nm} (h : IsIds w b K s) (i : Nm) (hi : i.In) (hK : K ≤ 1099511627776) : ∃ w', (Instr.mapUpdate 134 (.map (some b)) i.val (.agg #[])).run Tryd.prog w = .ok () w' ∧ IsIds w' b (K + 1) (i :: s) ∧ w.mapTurned w' b := by
  obtain ⟨n, D, ho, hn, hs⟩ := h
  obtain ⟨w', hrun, ho', hT⟩ := ho.store Tryd.idKeyed Tryd.underlying134 (by have : maxLen = 9223372036854775807 := rfl; omega) (i.lit_key hi) unitElem_mk
  refine ⟨w', hrun, ⟨n + 1, _, ho', by omega, fun j hj => ?_⟩, hT⟩
  by_cases e : j = i
  · subst e
    rw [has_put_same ho.isMap (Nm.lit_isKey _ _)]
    simp
  · rw [has_put_other (fun h => e (Nm.lit_inj h)), hs j hj]
    simp [e]
/-- a name struck out -/
theorem IsIds.del {w : World} {b K : Nat} {s : List Nm} (h : IsIds w b K s) (i : Nm) (hi : i.In) (ty : TypeId) : ∃ w', (Builtin.delete_ #[134, 40] ty #[.map (some b), i.val]).run Tryd.prog w = .ok (.tuple #[]) w' ∧ IsIds w' b K (s.filter (· ≠ i)) ∧ w.mapTurned w' b := by
  obtain ⟨n, D, ho, hn, hs⟩ := h
  obtain ⟨w', hrun, ho', hT⟩ := ho.drop Tryd.idKeyed Tryd.underlying134 (i.lit_key hi) ty
  refine ⟨w', hrun, ⟨n, _, ho', hn, fun j hj => ?_⟩, hT⟩
  by_cases e : j = i
  · subst e
    rw [has_del_same]
    simp
  · rw [has_del_other (fun h => e (Nm.lit_inj h)), hs j hj]
    simp [e]
/-- all but the map in block b stands -/
theorem But.of_turned {w w' : World} {b : Nat} (h : w.mapTurned w' b) : But b w w' := by
  have g := h.grown
  exact ⟨g.os, g.tape, g.output, g.size, fun k hk hne => g.block k hk (fun e => hne (Option.some.inj e))⟩
end Go.Proofs.YtfihjajllfihjaaDoor
