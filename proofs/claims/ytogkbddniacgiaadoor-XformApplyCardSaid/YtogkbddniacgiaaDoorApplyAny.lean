/- xform's Apply and the document's, of any operation with any name: one row, one answer; the two answers held against each other. Conditions: model, row and reasons lie in memory. -/
import Derived.Test.YtogkbddniacgiaaDoorModelNo
import Derived.Test.YtogkbddniacgiaaDoorRefApply7
namespace Go.Proofs.YtogkbddniacgiaaDoor
set_option linter.unusedSimpArgs false
set_option linter.unusedVariables false
open Go Go.RowKit
variable {a : Nat → Addr}
theorem Calm.mono {H H' : Int} {l : List El} (h : Calm H l) (hh : H ≤ H') : Calm H' l := fun e he => ⟨by have := (h e he).1; omega, by have := (h e he).2; omega⟩
/-- an answer of the program: none, or a refusal -/
def ErrAns (w : World) (S : Nat → Prop) (a : Nat → Addr) (ch : List Lk) (code : Nat) (v : Value) : Prop := code = 0 ∧ v = .nilIface ∨ IsErr w S a ch code v
theorem apply_step (w : World) (S S' : Nat → Prop) (mb : Nat) (l : List El) (K : Nat) (o : Opn) (id : Nm) (h : Mdl w S mb l K) (hl : l.length ≤ 536870912) (hK : K ≤ 1099511627776) (hi : id.In) (hc : Calm 1000000 l) (hs : Sents w S' a) :
    Calls Tryd.prog 67 #[.pointer (some ⟨mb, 0, none⟩), o.agg, id.val] w fun e w' => ∃ v, e = .returned v ∧ ErrAns w' (Fr w S') a (chOf o (whyOf l o id)) (whyOf l o id) v ∧ Mdl w' (Fr w S) mb (appOf l o id) (K + 1) ∧ Out S w w' := by
  have no : ∀ (ch : List Lk) (code : Nat), code ≠ 0 → whyOf l o id = code → chOf o code = ch → ∀ (e : Ending) (w' : World), (∃ v, e = .returned v ∧ IsErr w' (Fr w S') a ch code v ∧ Below w.heap.size w w') →
      ∃ v, e = .returned v ∧ ErrAns w' (Fr w S') a (chOf o (whyOf l o id)) (whyOf l o id) v ∧ Mdl w' (Fr w S) mb (appOf l o id) (K + 1) ∧ Out S w w' := by
    rintro ch code h0 hw hch e w' ⟨v, rfl, hv, hb⟩
    refine ⟨v, rfl, .inr ?_, ?_, Out.of_below hb⟩
    · rw [hw, hch]; exact hv
    · rw [appOf_not (by rw [hw]; exact h0)]
      exact ((h.step hb).more fun b _ h => .inl h).monoK (Nat.le_succ _)
  rcases why_cases l o id with ⟨h1, h2⟩ | ⟨h1, h2, h3⟩ | ⟨h1, h2, h3, h4⟩ | ⟨h1, h2, h3⟩
  · exact (apply_arg w mb o id h2 hs).mono (no _ 1 (by decide) h1 rfl)
  · exact (apply_range w S mb l K o id h h2 h3 hs).mono (no _ 2 (by decide) h1 rfl)
  · exact (apply_twice w S mb l K o id h hl h3 h2 hi h4 hs).mono (no _ 9 (by decide) h1 rfl)
  · refine (apply_ok w S mb l K o id h hl hK (why_can h1 hc (by decide) hi)).mono ?_
    rintro e w' ⟨rfl, hM, hO⟩
    exact ⟨_, rfl, .inl ⟨h1, rfl⟩, by rw [appOf_done h1]; exact hM, hO⟩
theorem NoAns.shape {w : World} {S : Nat → Prop} {ch : List Lk} {code : Nat} {v : Value} (h : NoAns w S ch code v) : ∃ B m d C q r, v = .agg #[.int .i64 code, .slice B m d, .slice C q r] := by
  rcases h with ⟨rfl, rfl⟩ | ⟨_, A, n, c, B, d, rfl, _⟩
  · exact ⟨none, 0, 0, none, 0, 0, rfl⟩
  · exact ⟨A, n, c, B, 1, d, rfl⟩
theorem NoAns.keep {w w' : World} {S : Nat → Prop} {ch : List Lk} {code : Nat} {v : Value} (h : NoAns w S ch code v) (hz : w.heap.size ≤ w'.heap.size) (hs : Same S w w') : NoAns w' S ch code v :=
  h.imp id fun h => h.keepS hz hs
theorem NoAns.more {w : World} {S S' : Nat → Prop} {ch : List Lk} {code : Nat} {v : Value} (h : NoAns w S ch code v) (hs : ∀ b, b < w.heap.size → S b → S' b) : NoAns w S' ch code v := by
  refine h.imp id fun h => ?_
  obtain ⟨h1, A, n, c, B, d, rfl, hr1, hr2⟩ := h
  exact ⟨h1, A, n, c, B, d, rfl, hr1.more hs, hr2.more hs⟩
theorem refApply_step (A : Option Addr) (n c : Nat) (es : List El) (S S' : Nat → Prop) (o : Opn) (id : Nm) (w : World) (h : Row w S A n c es) (hn : n ≤ 1073741824) (hc : Calm 1000000 es) :
    Calls Tryd.prog 71 #[.slice A n c, o.agg, id.val] w fun e w' => ∃ A' c' v, e = .returned (.tuple #[.slice A' (appOf es o id).length c', v]) ∧ Row w' (Fr w S) A' (appOf es o id).length c' (appOf es o id) ∧ NoAns w' (Fr w S') (chOf o (whyOf es o id)) (whyOf es o id) v ∧ Below w.heap.size w w' := by
  have hlen := h.1
  have no : ∀ (ch : List Lk) (code : Nat), code ≠ 0 → whyOf es o id = code → chOf o code = ch → ∀ (e : Ending) (w' : World), (∃ v, e = .returned (.tuple #[.slice A n c, v]) ∧ IsNo w' (Fr w S') ch code v ∧ Below w.heap.size w w') →
      ∃ A' c' v, e = .returned (.tuple #[.slice A' (appOf es o id).length c', v]) ∧ Row w' (Fr w S) A' (appOf es o id).length c' (appOf es o id) ∧ NoAns w' (Fr w S') (chOf o (whyOf es o id)) (whyOf es o id) v ∧ Below w.heap.size w w' := by
    rintro ch code h0 hw hch e w' ⟨v, rfl, hv, hb⟩
    rw [appOf_not (by rw [hw]; exact h0), hlen]
    exact ⟨A, c, v, rfl, (h.step hb).more fun b _ h => .inl h, .inr (by rw [hw, hch]; exact hv), hb⟩
  rcases why_cases es o id with ⟨h1, h2⟩ | ⟨h1, h2, h3⟩ | ⟨h1, h2, h3, h4⟩ | ⟨h1, h2, h3⟩
  · exact (refApply_arg A n c o id S' w h2).mono (no _ 1 (by decide) h1 rfl)
  · exact (refApply_range A n c o id S' w h2 (by rw [← hlen]; exact h3)).mono (no _ 2 (by decide) h1 rfl)
  · exact (refApply_twice A n c es S S' o id w h hn (by rw [← hlen]; exact h2) h3 h4).mono (no _ 9 (by decide) h1 rfl)
  · obtain ⟨hro, h0, hh⟩ := validOp_right h2
    rw [appOf_done h1, h1]
    rw [hlen] at h2
    obtain ⟨k, t, c', r⟩ := o
    dsimp only at h0 hh h3
    obtain ⟨i, rfl⟩ : ∃ i : Nat, t = i := ⟨t.toNat, by omega⟩
    have yes : ∀ (es' : List El) (m : Nat), doneOp es ⟨k, i, c', r⟩ id = es' → ∀ (e : Ending) (w' : World), (∃ A' d, e = .returned (.tuple #[.slice A' m d, noNone]) ∧ Own w' w.heap.size A' m d es' ∧ Below w.heap.size w w') →
        ∃ A' d v, e = .returned (.tuple #[.slice A' (doneOp es ⟨k, i, c', r⟩ id).length d, v]) ∧ Row w' (Fr w S) A' (doneOp es ⟨k, i, c', r⟩ id).length d (doneOp es ⟨k, i, c', r⟩ id) ∧ NoAns w' (Fr w S') (chOf ⟨k, i, c', r⟩ 0) 0 v ∧ Below w.heap.size w w' := by
      rintro es' m rfl e w' ⟨A', d, rfl, ho, hb⟩
      have h1 := ho.1
      rw [h1]
      exact ⟨A', d, _, rfl, ho.row fun b h _ => .inr h, .inl ⟨rfl, rfl⟩, hb⟩
    rcases rightOp_kind hro with ⟨h5, h6⟩ | h5 | h5
    · simp only at h5
      subst h5
      exact (refApply_ins A n c i es S c' r id w h hn h2 (h3 rfl)).mono (yes _ _ (by simp [doneOp]))
    · simp only at h5
      subst h5
      have hi : i < es.length := by omega
      have he : es[i]? = some es[i] := List.getElem?_eq_getElem hi
      have hb := hc _ (List.getElem_mem hi)
      exact (refApply_era A n c i es S es[i] c' r id w h hn h2 he (by unfold fairH; simp; omega)).mono (yes _ _ (by simp [doneOp, he]))
    · simp only at h5
      subst h5
      have hi : i < es.length := by omega
      have he : es[i]? = some es[i] := List.getElem?_eq_getElem hi
      have hb := hc _ (List.getElem_mem hi)
      exact (refApply_res A n c i es S es[i] c' r id w h hn h2 he (by unfold fairH; simp; omega)).mono (yes _ _ (by simp [doneOp, he]))
theorem Sents.all {w : World} {S : Nat → Prop} (h : Sents w S a) : Sents w (fun _ => True) a := ⟨h.cell, fun _ _ _ => trivial, fun _ _ _ => trivial, h.inj, h.plain⟩
theorem refused_step (ch : List Lk) (code : Nat) (e v : Value) (S S' S'' : Nat → Prop) (w : World) (he : ErrAns w S a ch code e) (hno : NoAns w S' ch code v) (hs : Sents w S'' a) (hn : ch.length ≤ 1073741824) :
    Calls Tryd.prog 28 #[e, v] w fun e w' => e = .returned (.bool true) ∧ Below w.heap.size w w' := by
  rcases he with ⟨h1, rfl⟩ | h1
  · rcases hno with ⟨_, rfl⟩ | ⟨h2, _⟩
    · exact refused_none w
    · omega
  · rcases hno with ⟨h2, rfl⟩ | h2
    · exfalso
      subst h2
      have : ∀ ch v, ¬ IsErr w S a ch 0 v := fun ch => by
        induction ch with
        | nil => rintro v ⟨h, _⟩; omega
        | cons l r ih => rintro v ⟨_, _, _, _, _, h⟩; exact ih _ h
      exact this _ _ h1
    · exact refused_any (S := fun _ => True) ch code e v S' w (h1.more fun _ _ _ => trivial) h2 hs.all hn
theorem chOf_length (o : Opn) (n : Nat) : (chOf o n).length ≤ 1073741824 := by
  unfold chOf
  split <;> simp
end Go.Proofs.YtogkbddniacgiaaDoor
