/- Anchors over a row: plain. No condition. No program in sight. -/
import Derived.Test.YtfihjajllfihjaaDoorRefApply
import Derived.Test.YtfihjajllfihjaaDoorBefore
namespace Go.Proofs.YtfihjajllfihjaaDoor
set_option linter.unusedSimpArgs false
set_option linter.unusedVariables false
open Go Go.RowKit
/-- an anchor: the front, or an element's name -/
structure Anc where
  front : Bool
  id : Nm
def Anc.cells (x : Anc) : List Value := [.bool x.front, .int .i64 x.id.epoch, .int .i64 x.id.rep, .int .i64 x.id.num]
/-- where a name stands first -/
def ixOf (l : List El) (id : Nm) : Option Nat := l.findIdx? fun e => decide (e.nm = id)
theorem ixOf_some {l : List El} {id : Nm} {k : Nat} {x : El} (hx : l[k]? = some x) (hn : x.nm = id) (hf : id ∉ (l.take k).map El.nm) : ixOf l id = some k := by
  unfold ixOf
  rw [List.findIdx?_eq_some_iff_getElem]
  obtain ⟨hk, rfl⟩ := List.getElem?_eq_some_iff.1 hx
  refine ⟨hk, by simpa using hn, fun j hj => ?_⟩
  simp only [decide_eq_true_eq]
  intro h
  exact hf (List.mem_map.2 ⟨l[j], List.mem_of_getElem? (show (l.take k)[j]? = some l[j] by rw [List.getElem?_take, if_pos hj]; exact List.getElem?_eq_getElem _), h⟩)
theorem ixOf_none {l : List El} {id : Nm} (h : id ∉ l.map El.nm) : ixOf l id = none := by
  unfold ixOf
  rw [List.findIdx?_eq_none_iff]
  intro x hx
  simp only [decide_eq_false_iff_not]
  intro e
  exact h (List.mem_map.2 ⟨x, hx, e⟩)
theorem ixOf_get {l : List El} {id : Nm} {k : Nat} (h : ixOf l id = some k) : ∃ x, l[k]? = some x ∧ x.nm = id ∧ id ∉ (l.take k).map El.nm := by
  unfold ixOf at h
  rw [List.findIdx?_eq_some_iff_getElem] at h
  obtain ⟨hk, h1, h2⟩ := h
  refine ⟨l[k], List.getElem?_eq_getElem hk, by simpa using h1, fun hm => ?_⟩
  obtain ⟨x, hx, hn⟩ := List.mem_map.1 hm
  obtain ⟨j, hj, rfl⟩ := List.getElem_of_mem hx
  rw [List.length_take] at hj
  have := h2 j (by omega)
  rw [List.getElem_take] at hn
  simp [hn] at this
theorem ixOf_mem {l : List El} {id : Nm} (h : id ∈ l.map El.nm) : ∃ k, ixOf l id = some k := by
  cases hk : ixOf l id with
  | some k => exact ⟨k, rfl⟩
  | none =>
    unfold ixOf at hk
    rw [List.findIdx?_eq_none_iff] at hk
    obtain ⟨x, hx, hn⟩ := List.mem_map.1 h
    have := hk x hx
    simp [hn] at this
/-- the gap of an anchor -/
def whereOf (l : List El) (x : Anc) : Nat × Bool := if x.front = true then (0, true) else match ixOf l x.id with
  | some k => (liveOf (l.take (k + 1)), true)
  | none => (0, false)
theorem whereOf_front {l : List El} {x : Anc} (h : x.front = true) : whereOf l x = (0, true) := if_pos h
theorem whereOf_some {l : List El} {x : Anc} {k : Nat} (h : x.front = false) (hk : ixOf l x.id = some k) : whereOf l x = (liveOf (l.take (k + 1)), true) := by
  unfold whereOf
  rw [if_neg (by simp [h]), hk]
theorem whereOf_none {l : List El} {x : Anc} (h : x.front = false) (hk : ixOf l x.id = none) : whereOf l x = (0, false) := by
  unfold whereOf
  rw [if_neg (by simp [h]), hk]
/-- the element in which the q-th live one stands -/
def liveAt (l : List El) (q : Nat) : Option El := (l.filter fun e => decide (e.live = 1))[q]?
theorem live_filter (l : List El) : (l.filter fun e => decide (e.live = 1)).length = liveOf l := by
  induction l with
  | nil => rfl
  | cons e l ih =>
    rw [liveOf_cons, ← ih]
    have := e.live_le
    by_cases h : e.live = 1
    · rw [List.filter_cons_of_pos (by simpa using h), List.length_cons, h]; omega
    · rw [List.filter_cons_of_neg (by simpa using h)]; omega
theorem liveAt_of {l : List El} {m : Nat} {e : El} (he : l[m]? = some e) (h1 : e.live = 1) : liveAt l (liveOf (l.take m)) = some e := by
  have key : ∀ (a b : List El) (x : El), x.live = 1 → ((a ++ x :: b).filter fun e => decide (e.live = 1))[liveOf a]? = some x := by
    intro a b x hx
    rw [List.filter_append, List.getElem?_append_right (by rw [live_filter]; exact Nat.le_refl _), live_filter, Nat.sub_self, List.filter_cons_of_pos (by simpa using hx)]
    rfl
  obtain ⟨hm, rfl⟩ := List.getElem?_eq_some_iff.1 he
  have hl : l.take m ++ l[m] :: l.drop (m + 1) = l := by rw [← List.drop_eq_getElem_cons hm, List.take_append_drop]
  have := key (l.take m) (l.drop (m + 1)) l[m] h1
  rw [hl] at this
  exact this
/-- the anchor of a gap -/
def gapOf (l : List El) (p : Nat) : Anc := if p = 0 then ⟨true, ⟨0, 0, 0⟩⟩ else match liveAt l (p - 1) with
  | some e => ⟨false, e.nm⟩
  | none => ⟨false, ⟨0, 0, 0⟩⟩
theorem gapOf_live {l : List El} {m q : Nat} {e : El} (he : l[m]? = some e) (h1 : e.live = 1) (hq : liveOf (l.take m) = q) : gapOf l (q + 1) = ⟨false, e.nm⟩ := by
  unfold gapOf
  rw [if_neg (by omega), Nat.add_sub_cancel, ← hq, liveAt_of he h1]
/-- the same gap by a live element -/
def rebaseOf (l : List El) (x : Anc) : Anc × Bool := if (whereOf l x).2 = true then (gapOf l (whereOf l x).1, true) else (⟨false, ⟨0, 0, 0⟩⟩, false)
theorem exists_live {l : List El} {q : Nat} (h : q < liveOf l) : ∃ m e, l[m]? = some e ∧ e.live = 1 ∧ liveOf (l.take m) = q := by
  have key : ∀ n, n ≤ l.length → q < liveOf (l.take n) → ∃ m e, l[m]? = some e ∧ e.live = 1 ∧ liveOf (l.take m) = q := by
    intro n
    induction n with
    | zero => intro _ h; simp [liveOf] at h
    | succ n ih =>
      intro hn hq
      by_cases h1 : q < liveOf (l.take n)
      · exact ih (by omega) h1
      · have he : l[n]? = some l[n] := List.getElem?_eq_getElem (by omega)
        rw [take_snoc_el he, liveOf_append] at hq
        have h2 : liveOf [l[n]] = l[n].live := by simp [liveOf]
        rw [h2] at hq
        have := l[n].live_le
        exact ⟨n, l[n], he, by omega, by omega⟩
  exact key l.length (Nat.le_refl _) (by rwa [List.take_length])
theorem nodup_before {l : List El} {m : Nat} {e : El} (hd : (l.map El.nm).Nodup) (he : l[m]? = some e) : e.nm ∉ (l.take m).map El.nm := by
  intro hm
  have htk := take_snoc_el he
  have h1 : ((l.take (m + 1)).map El.nm).Nodup := by
    rw [List.map_take]
    exact hd.sublist (List.take_sublist _ _)
  rw [htk, List.map_append, List.nodup_append] at h1
  exact h1.2.2 _ hm _ (by simp) rfl
theorem where_gap {l : List El} {p : Nat} (hd : (l.map El.nm).Nodup) (hp : p ≤ liveOf l) : whereOf l (gapOf l p) = (p, true) := by
  by_cases h0 : p = 0
  · subst h0
    rw [show gapOf l 0 = ⟨true, ⟨0, 0, 0⟩⟩ from if_pos rfl]
    exact whereOf_front rfl
  · obtain ⟨q, rfl⟩ : ∃ q, p = q + 1 := ⟨p - 1, by omega⟩
    obtain ⟨m, e, he, hv, hs⟩ := exists_live (show q < liveOf l by omega)
    rw [gapOf_live he hv hs, whereOf_some (x := ⟨false, e.nm⟩) rfl (ixOf_some he rfl (nodup_before hd he)), take_snoc_el he, liveOf_append, hs]
    have h2 : liveOf [e] = e.live := by simp [liveOf]
    rw [h2, hv]
theorem gapOf_in {l : List El} {p : Nat} (hin : ∀ e ∈ l, e.nm.In) (hp : p ≤ liveOf l) : (gapOf l p).id.In := by
  have z : Nm.In ⟨0, 0, 0⟩ := ⟨⟨by decide, by decide⟩, ⟨by decide, by decide⟩, ⟨by decide, by decide⟩⟩
  by_cases h0 : p = 0
  · subst h0
    rw [show gapOf l 0 = ⟨true, ⟨0, 0, 0⟩⟩ from if_pos rfl]
    exact z
  · obtain ⟨q, rfl⟩ : ∃ q, p = q + 1 := ⟨p - 1, by omega⟩
    obtain ⟨m, e, he, hv, hs⟩ := exists_live (show q < liveOf l by omega)
    rw [gapOf_live he hv hs]
    exact hin e (List.mem_of_getElem? he)
end Go.Proofs.YtfihjajllfihjaaDoor
