/- An operation and its inverse: plain. No condition. -/
import Derived.Test.YtogkbddniacgiaaDoorView
import Derived.Test.YtogkbddniacgiaaDoorPlain7
namespace Go.Proofs.YtogkbddniacgiaaDoor
set_option linter.unusedSimpArgs false
set_option linter.unusedVariables false
open Go Go.RowKit
theorem viewOf_append (l m : List El) : viewOf (l ++ m) = viewOf l ++ viewOf m := by simp [viewOf, List.flatMap_append]
theorem viewOf_ins {l : List El} {i : Nat} {e : El} (h : e.hides > 0) : viewOf (insAt l i e) = viewOf l := by
  have h1 : viewOf (e :: l.drop i) = viewOf (l.drop i) := by
    show e.says ++ viewOf (l.drop i) = _
    unfold El.says
    rw [if_pos h, List.nil_append]
  unfold insAt
  rw [viewOf_append, h1, ← viewOf_append, List.take_append_drop]
theorem hid_ins {l : List El} {i : Nat} (e : El) (d : Int) (hi : i ≤ l.length) : hidAt (insAt l i e) i d = insAt l i (e.hide d) := by
  apply List.ext_getElem?
  intro k
  rw [hidAt_get, insAt_get _ hi, insAt_get _ hi]
  by_cases hk : k = i
  · subst hk
    simp
  · simp [hk]
theorem hid_back (l : List El) (i : Nat) (c d : Int) (h : c + d = 0) : hidAt (hidAt l i c) i d = l := by
  apply List.ext_getElem?
  intro k
  rw [hidAt_get, hidAt_get]
  by_cases hk : k = i
  · subst hk
    simp only [if_true, Option.map_map]
    have : (fun e : El => e.hide d) ∘ (fun e : El => e.hide c) = id := by
      funext e
      simp only [Function.comp, El.hide, id]
      have h' : e.hides + c + d = e.hides := by omega
      rw [h']
    rw [this]
    simp
  · simp [hk]
theorem ins_cut {l : List El} {i : Nat} (e : El) (hi : i ≤ l.length) : (insAt l i e).take i ++ (insAt l i e).drop (i + 1) = l := by
  unfold insAt
  have h : (l.take i).length = i := by rw [List.length_take]; omega
  rw [List.take_append_of_le_length (by omega), List.take_of_length_le (by omega), List.drop_append, List.drop_of_length_le (by omega), h]
  simp [Nat.add_sub_cancel_left]
theorem inv_ok {o : Opn} {n : Nat} (h : Fits o n) : (invOf o).2 = true ∧ (invOf o).1.kind ≠ 1 ∧ (invOf o).1.at_ = o.at_ ∧ (invOf o).1.by_ = (if o.kind = 2 then -1 else 1) ∧ Fits (invOf o).1 (n + o.ins) := by
  obtain ⟨h1, h2⟩ := rightOp_rep h.right
  have hl := h.lo
  have hh := h.hi
  obtain ⟨k, t, c, r⟩ := o
  simp only at h1 h2 hl hh
  rcases h.kind with h | h | h
  · simp only at h
    subst h
    have hn : (1 : Int) ≠ 2 := by decide
    refine ⟨by simp [invOf], by simp [invOf], by simp [invOf], by simp [invOf, Opn.by_], ?_, by simpa [invOf] using hl, .inl ?_⟩
    · simp [invOf, rightOp]; omega
    · simp [invOf, Opn.ins]; omega
  · simp only at h
    subst h
    refine ⟨by simp [invOf], by simp [invOf], by simp [invOf], by simp [invOf, Opn.by_], ?_, by simpa [invOf] using hl, .inl ?_⟩
    · simp [invOf, rightOp]; omega
    · simp [invOf, Opn.ins]; omega
  · simp only at h
    subst h
    refine ⟨by simp [invOf], by simp [invOf], by simp [invOf], by simp [invOf, Opn.by_], ?_, by simpa [invOf] using hl, .inl ?_⟩
    · simp [invOf, rightOp]; omega
    · simp [invOf, Opn.ins]; omega
/-- what stands behind an operation and its inverse -/
structure Undone (L M : List El) (a : Opn) : Prop where
  view : viewOf M = viewOf L
  still : a.kind ≠ 1 → M = L
  len : a.kind = 1 → M.length = L.length + 1
  cut : a.kind = 1 → M.take a.at_.toNat ++ M.drop (a.at_.toNat + 1) = L
  one : a.kind = 1 → ∃ e, M[a.at_.toNat]? = some e ∧ e.nm = a.nm ∧ e.hides = 1
theorem inv_law {L : List El} {a : Opn} (hc : Calm 2 L) (ca : Can L a) :
    CanDo L a a.nm ∧ CanDo (doneOp L a a.nm) (invOf a).1 a.nm ∧ Undone L (doneOp (doneOp L a a.nm) (invOf a).1 a.nm) a := by
  obtain ⟨-, h2, h3, h4, h5⟩ := inv_ok ca.fits
  have hi : a.at_.toNat ≤ L.length := by have := ca.fits.hi; have := ca.fits.lo; omega
  have ha := ca.do_ hc (by decide)
  refine ⟨ha, canDo_of (H := 3) (by rw [doneOp_len']; exact h5) (hc.done (by decide) _ _) (by decide) (nm_in ca.fits.right) (fun h => absurd h h2), ?_⟩
  rw [doneOp_hid h2, h3, h4]
  by_cases hk : a.kind = 1
  · rw [if_neg (by rw [hk]; decide), doneOp_ins hk, hid_ins _ _ hi]
    refine ⟨viewOf_ins (by simp [El.hide, insEl]), fun h => absurd hk h, fun _ => insAt_length _, fun _ => ins_cut _ hi, fun _ => ⟨(insEl a.nm a.char).hide 1, ?_, rfl, rfl⟩⟩
    rw [insAt_get _ hi]
    simp
  · have e : hidAt (doneOp L a a.nm) a.at_.toNat (if a.kind = 2 then -1 else 1) = L := by
      rw [doneOp_hid hk]
      unfold Opn.by_
      exact hid_back _ _ _ _ (by split <;> omega)
    rw [e]
    exact ⟨rfl, fun _ => rfl, fun h => absurd h hk, fun h => absurd h hk, fun h => absurd h hk⟩
end Go.Proofs.YtogkbddniacgiaaDoor
