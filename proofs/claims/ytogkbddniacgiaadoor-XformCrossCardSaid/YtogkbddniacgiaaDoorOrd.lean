/- A region whose order is open, where two or three operations that write are ready at once: each of their orders is walked. No condition. Plain wp theory, no program in sight. -/
import Derived.Test.YtogkbddniacgiaaDoorRegion
namespace Go.Proofs.YtogkbddniacgiaaDoor
set_option linter.unusedSimpArgs false
set_option linter.unusedVariables false
open Go Go.RowKit

inductive Ord (α : Type) where
  | nil
  | one (x : α) (c t : Bool) (r : Ord α)
  | two (x y : α) (r s : Ord α)
  | three (x y z : α) (r s u : Ord α)
def Ord.depth {α : Type} : Ord α → Nat
  | .nil => 0
  | .one _ _ _ r => r.depth + 1
  | .two _ _ r s => max r.depth s.depth + 1
  | .three _ _ _ r s u => max r.depth (max s.depth u.depth) + 1
section
variable {T : Nat → Prop}
variable {P : Program} {ops : Array Oper} {Q : Exit → Act → World → Prop} {md : Region.Mode}
/-- an operation that writes, then on -/
def wildO (T : Nat → Prop) (P : Program) (ops : Array Oper) (Q : Exit → Act → World → Prop) (t : Bool) (o : Oper) (X : Act → World → Prop) (a : Act) (w : World) : Prop :=
  if Region.wanted o (yielded ops a.tmps) then o.wp P a w (fun a' w' => Keep T t w w' (X a' w')) Q else X (a.put o.dst undef) w
def WpO (T : Nat → Prop) (P : Program) (ops : Array Oper) (Q : Exit → Act → World → Prop) : Ord Oper → Act → World → Prop
  | .nil, a, w => Q .normal a w
  | .one o true _ r, a, w =>
    (Region.wanted o (yielded ops a.tmps) = false ∧ WpO T P ops Q r (a.put o.dst undef) w) ∨
    (Region.wanted o (yielded ops a.tmps) = true ∧ ∃ v, ((∀ w', (execOp a.eval o).run P w' = .ok (.value v) w') ∨ (isLoad o = true ∧ ∀ w', KeepT T w w' → (execOp a.eval o).run P w' = .ok (.value v) w')) ∧ WpO T P ops Q r (a.put o.dst v) w)
  | .one o false t r, a, w => wildO T P ops Q t o (WpO T P ops Q r) a w
  | .two x y r s, a, w => wildO T P ops Q false x (WpO T P ops Q r) a w ∧ wildO T P ops Q false y (WpO T P ops Q s) a w
  | .three x y z r s u, a, w => wildO T P ops Q false x (WpO T P ops Q r) a w ∧ wildO T P ops Q false y (WpO T P ops Q s) a w ∧ wildO T P ops Q false z (WpO T P ops Q u) a w
def ordOk (md : Region.Mode) (ops : Array Oper) : Ord Nat → Array Bool → Bool
  | .nil, listed => (Region.ready md ops listed).isEmpty
  | .one i true _ r, listed => (Region.ready md ops listed).contains i && Region.free md ops listed i && ordOk md ops r (listed.setIfInBounds i true)
  | .one i false t r, listed => (Region.ready md ops listed == [i]) && (!t || tailOp md ops i) && ordOk md ops r (listed.setIfInBounds i true)
  | .two i j r s, listed => (Region.ready md ops listed == [i, j]) && ordOk md ops r (listed.setIfInBounds i true) && ordOk md ops s (listed.setIfInBounds j true)
  | .three i j k r s u, listed => (Region.ready md ops listed == [i, j, k]) && ordOk md ops r (listed.setIfInBounds i true) && ordOk md ops s (listed.setIfInBounds j true) && ordOk md ops u (listed.setIfInBounds k true)
def ordOf (ops : List Oper) : Ord Nat → Option (Ord Oper)
  | .nil => some .nil
  | .one i c t r => match nthOp ops i, ordOf ops r with
    | some o, some l => some (.one o c t l)
    | _, _ => none
  | .two i j r s => match nthOp ops i, nthOp ops j, ordOf ops r, ordOf ops s with
    | some o, some p, some l, some m => some (.two o p l m)
    | _, _, _, _ => none
  | .three i j k r s u => match nthOp ops i, nthOp ops j, nthOp ops k, ordOf ops r, ordOf ops s, ordOf ops u with
    | some o, some p, some q, some l, some m, some n => some (.three o p q l m n)
    | _, _, _, _, _, _ => none
theorem wpOp_wildO {i : Nat} {o : Oper} {t : Bool} {X Y : Act → World → Prop} {a : Act} {w : World} (ho : ops[i]? = some o) (ht : t = true → tailOp md ops i = true) (hXY : ∀ a w, X a w → Y a w) (h : wildO T P ops Q t o X a w) :
    wpOp P ops Q i (fun a' w' => (tailOp md ops i = true ∨ KeepT T w w') ∧ Y a' w') a w := by
  unfold wpOp
  simp only [ho]
  unfold wildO at h
  by_cases hw : Region.wanted o (yielded ops a.tmps) = true
  · rw [if_pos hw] at h ⊢
    refine .inl (Oper.wp_mono (fun a' w' h' => ?_) h)
    unfold Keep at h'
    exact ⟨h'.1.imp ht id, hXY _ _ h'.2⟩
  · rw [if_neg hw] at h ⊢
    exact ⟨.inr (KeepT.refl _ _), hXY _ _ h⟩
theorem wpAnyB_of_O (hsel : Region.noSelect ops = true) (hQ : ∀ c a w, ¬ Q (.panic c) a w) :
    ∀ (order : Ord Nat) (l : Ord Oper) (fuel : Nat) (listed : Array Bool) (a : Act) (w : World),
      ordOf ops.toList order = some l → order.depth ≤ fuel → ordOk md ops order listed = true → WpO T P ops Q l a w → wpAnyB T P md ops Q fuel listed a w := by
  intro order
  induction order with
  | nil =>
    intro l fuel listed a w hl _ hok h
    have hl' : l = .nil := by simpa [ordOf] using hl.symm
    subst hl'
    have hr : Region.ready md ops listed = [] := by simpa [ordOk] using hok
    cases fuel with
    | zero => exact ⟨hr, h⟩
    | succ f => exact ⟨fun _ => h, by rw [hr]; simp⟩
  | one i c t r ih =>
    intro l fuel listed a w hl hf hok h
    obtain ⟨fuel, rfl⟩ : ∃ f, fuel = f + 1 := ⟨fuel - 1, by simp [Ord.depth] at hf; omega⟩
    unfold ordOf at hl
    rw [nthOp_eq, Array.getElem?_toList] at hl
    cases ho : ops[i]? with
    | none => rw [ho] at hl; cases hl
    | some o =>
      cases hrest : ordOf ops.toList r with
      | none => rw [ho, hrest] at hl; cases hl
      | some l' =>
        rw [ho, hrest] at hl
        injection hl with hl
        subst hl
        have hf' : r.depth ≤ fuel := by simpa [Ord.depth] using hf
        cases c with
        | true =>
          simp only [ordOk, Bool.and_eq_true, List.contains_iff_mem] at hok
          obtain ⟨⟨hr, hfr⟩, hok'⟩ := hok
          rcases h with ⟨hw, h⟩ | ⟨hw, v, hv, h⟩
          · exact wpAnyB_first ho (Region.noSelect_spec hsel) (fun c a w hq => (hQ _ _ _ hq).elim) fuel listed a w (Region.free_spec ho hfr) hr (.inr ⟨hw, rfl⟩) (ih l' fuel _ _ _ hrest hf' hok' h)
          · refine wpAnyB_first ho (Region.noSelect_spec hsel) (fun c a w hq => (hQ _ _ _ hq).elim) fuel listed a w (Region.free_spec ho hfr) hr (.inl ⟨hw, fun w' hs => ?_⟩) (ih l' fuel _ _ _ hrest hf' hok' h)
            rcases hv with hv | ⟨hld, hv⟩
            · exact hv w'
            · exact hv w' (hs hld)
        | false =>
          simp only [ordOk, Bool.and_eq_true, beq_iff_eq, Bool.or_eq_true, Bool.not_eq_true'] at hok
          obtain ⟨⟨hr, ht⟩, hok'⟩ := hok
          refine ⟨fun h0 => (by rw [hr] at h0; cases h0), fun j hj => ?_⟩
          rw [hr] at hj
          obtain rfl : j = i := by simpa using hj
          simp only [WpO] at h
          exact wpOp_wildO ho (fun e => by subst e; rcases ht with h1 | h1; cases h1; exact h1) (fun a w h => ih l' fuel _ _ _ hrest hf' hok' h) h
  | two i j r s ihr ihs =>
    intro l fuel listed a w hl hf hok h
    obtain ⟨fuel, rfl⟩ : ∃ f, fuel = f + 1 := ⟨fuel - 1, by simp [Ord.depth] at hf; omega⟩
    unfold ordOf at hl
    rw [nthOp_eq, nthOp_eq, Array.getElem?_toList, Array.getElem?_toList] at hl
    cases ho : ops[i]? with
    | none => rw [ho] at hl; cases hl
    | some o =>
      cases hp : ops[j]? with
      | none => rw [ho, hp] at hl; cases hl
      | some p =>
        cases hr' : ordOf ops.toList r with
        | none => rw [ho, hp, hr'] at hl; cases hl
        | some lr =>
          cases hs' : ordOf ops.toList s with
          | none => rw [ho, hp, hr', hs'] at hl; cases hl
          | some ls =>
            rw [ho, hp, hr', hs'] at hl
            injection hl with hl
            subst hl
            simp only [Ord.depth, Nat.add_le_add_iff_right, Nat.max_le] at hf
            simp only [ordOk, Bool.and_eq_true, beq_iff_eq] at hok
            obtain ⟨⟨hr, hok1⟩, hok2⟩ := hok
            simp only [WpO] at h
            refine ⟨fun h0 => (by rw [hr] at h0; cases h0), fun k hk => ?_⟩
            rw [hr] at hk
            rcases List.mem_cons.1 hk with rfl | hk
            · exact wpOp_wildO ho (fun e => by cases e) (fun a w h => ihr lr fuel _ _ _ hr' hf.1 hok1 h) h.1
            · obtain rfl : k = j := by simpa using hk
              exact wpOp_wildO hp (fun e => by cases e) (fun a w h => ihs ls fuel _ _ _ hs' hf.2 hok2 h) h.2
  | three i j k r s u ihr ihs ihu =>
    intro l fuel listed a w hl hf hok h
    obtain ⟨fuel, rfl⟩ : ∃ f, fuel = f + 1 := ⟨fuel - 1, by simp [Ord.depth] at hf; omega⟩
    unfold ordOf at hl
    rw [nthOp_eq, nthOp_eq, nthOp_eq, Array.getElem?_toList, Array.getElem?_toList, Array.getElem?_toList] at hl
    cases ho : ops[i]? with
    | none => rw [ho] at hl; cases hl
    | some o =>
      cases hp : ops[j]? with
      | none => rw [ho, hp] at hl; cases hl
      | some p =>
        cases hq : ops[k]? with
        | none => rw [ho, hp, hq] at hl; cases hl
        | some q =>
          cases hr' : ordOf ops.toList r with
          | none => rw [ho, hp, hq, hr'] at hl; cases hl
          | some lr =>
            cases hs' : ordOf ops.toList s with
            | none => rw [ho, hp, hq, hr', hs'] at hl; cases hl
            | some ls =>
              cases hu' : ordOf ops.toList u with
              | none => rw [ho, hp, hq, hr', hs', hu'] at hl; cases hl
              | some lu =>
                rw [ho, hp, hq, hr', hs', hu'] at hl
                injection hl with hl
                subst hl
                simp only [Ord.depth, Nat.add_le_add_iff_right, Nat.max_le] at hf
                simp only [ordOk, Bool.and_eq_true, beq_iff_eq] at hok
                obtain ⟨⟨⟨hr, hok1⟩, hok2⟩, hok3⟩ := hok
                simp only [WpO] at h
                refine ⟨fun h0 => (by rw [hr] at h0; cases h0), fun m hm => ?_⟩
                rw [hr] at hm
                rcases List.mem_cons.1 hm with rfl | hm
                · exact wpOp_wildO ho (fun e => by cases e) (fun a w h => ihr lr fuel _ _ _ hr' hf.1 hok1 h) h.1
                · rcases List.mem_cons.1 hm with rfl | hm
                  · exact wpOp_wildO hp (fun e => by cases e) (fun a w h => ihs ls fuel _ _ _ hs' hf.2.1 hok2 h) h.2.1
                  · obtain rfl : m = k := by simpa using hm
                    exact wpOp_wildO hq (fun e => by cases e) (fun a w h => ihu lu fuel _ _ _ hu' hf.2.2 hok3 h) h.2.2
theorem wp_region_ordT (T : Nat → Prop) {id : Nat} {a : Act} {w : World} {L : List Oper} (order : Ord Nat) {l : Ord Oper} (hm : P.follows .mixedOrders = true)
    (hs : Region.noSelect L.toArray = true) (hok : ordOk .any L.toArray order (Array.replicate L.length false) = true) (hlen : order.depth = L.length)
    (hl : ordOf L order = some l) (h : WpO T P L.toArray (NoP Q) l a w.drew) : (Code.region id L.toArray true).wp P Q a w :=
  Code.wp_mono NoP.imp (wp_region_any hm (wpAny_of_B _ _ _ _ (wpAnyB_of_O hs (fun _ _ _ h => by unfold NoP at h; exact h) order l L.toArray.size _ _ _ (by simpa using hl) (by simp; omega) (by simpa using hok) h)))
theorem WpO.here {l : Ord Oper} {a : Act} {w : World} (h : WpO T P ops Q l a w) : WpO T P ops Q l a w := h
theorem WpO.done {a : Act} {w : World} (h : Q .normal a w) : WpO T P ops Q .nil a w := h
theorem WpO.skip {o : Oper} {c t : Bool} {r : Ord Oper} {a : Act} {w : World} (hw : Region.wanted o (yielded ops a.tmps) = false)
    (h : WpO T P ops Q r (a.put o.dst undef) w) : WpO T P ops Q (.one o c t r) a w := by
  cases c
  · simp only [WpO, wildO, hw]; exact h
  · exact .inl ⟨hw, h⟩
theorem WpO.pure {o : Oper} {t : Bool} {r : Ord Oper} {a : Act} {w : World} {v : Value} (hw : Region.wanted o (yielded ops a.tmps) = true)
    (hv : ∀ w', (execOp a.eval o).run P w' = .ok (.value v) w') (h : WpO T P ops Q r (a.put o.dst v) w) : WpO T P ops Q (.one o true t r) a w :=
  .inr ⟨hw, v, .inl hv, h⟩
theorem WpO.load {o : Oper} {t : Bool} {r : Ord Oper} {a : Act} {w : World} {v : Value} (hl : isLoad o = true) (hw : Region.wanted o (yielded ops a.tmps) = true)
    (hv : (execOp a.eval o).run P w = .ok (.value v) w) (h : WpO (fun _ => True) P ops Q r (a.put o.dst v) w) : WpO (fun _ => True) P ops Q (.one o true t r) a w :=
  .inr ⟨hw, v, .inr ⟨hl, fun _ hk => (load_below hl hk hv).2⟩, h⟩
theorem WpO.loadT {o : Oper} {t : Bool} {r : Ord Oper} {a : Act} {w : World} {v : Value} (hl : isLoad o = true) (hw : Region.wanted o (yielded ops a.tmps) = true)
    (hv : (execOp a.eval o).run P w = .ok (.value v) w) (hp : ∀ t x, o.op = .load t x → ∃ b i s cs u z, a.eval x = .pointer (some ⟨b, i, s⟩) ∧ T b ∧ w.heap[b]? = some (.cells cs u z))
    (h : WpO T P ops Q r (a.put o.dst v) w) : WpO T P ops Q (.one o true t r) a w :=
  .inr ⟨hw, v, .inr ⟨hl, fun _ hk => (load_kept hl hk hp hv).2⟩, h⟩
theorem WpO.wild {o : Oper} {t : Bool} {r : Ord Oper} {a : Act} {w : World} (h : wildO T P ops Q t o (WpO T P ops Q r) a w) : WpO T P ops Q (.one o false t r) a w := h
theorem WpO.two {x y : Oper} {r s : Ord Oper} {a : Act} {w : World} (h : wildO T P ops Q false x (WpO T P ops Q r) a w) (k : wildO T P ops Q false y (WpO T P ops Q s) a w) : WpO T P ops Q (.two x y r s) a w := ⟨h, k⟩
theorem WpO.three {x y z : Oper} {r s u : Ord Oper} {a : Act} {w : World} (h : wildO T P ops Q false x (WpO T P ops Q r) a w) (k : wildO T P ops Q false y (WpO T P ops Q s) a w) (m : wildO T P ops Q false z (WpO T P ops Q u) a w) :
    WpO T P ops Q (.three x y z r s u) a w := ⟨h, k, m⟩
theorem wildO.here {t : Bool} {o : Oper} {X : Act → World → Prop} {a : Act} {w : World} (h : wildO T P ops Q t o X a w) : wildO T P ops Q t o X a w := h
/-- an operation that writes: walked as a list of one -/
theorem wildO.go {t : Bool} {o : Oper} {X : Act → World → Prop} {a : Act} {w : World} (hw : Region.wanted o (yielded ops a.tmps) = true)
    (h : ∀ K : Act → World → Prop, (∀ a' w', Keep T t w w' (X a' w') → K a' w') → o.wp P a w K Q) : wildO T P ops Q t o X a w := by
  unfold wildO
  rw [if_pos hw]
  exact h _ fun _ _ h => h
theorem wildO.skip {t : Bool} {o : Oper} {X : Act → World → Prop} {a : Act} {w : World} (hw : Region.wanted o (yielded ops a.tmps) = false) (h : X (a.put o.dst undef) w) : wildO T P ops Q t o X a w := by
  unfold wildO
  rw [hw]
  exact h
end
attribute [irreducible] WpO wildO
end Go.Proofs.YtogkbddniacgiaaDoor
