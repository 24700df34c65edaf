/- The leaves of a tree gone over, till told to leave off: the walk of leaves, by induction on the tree, whatever is called at each leaf. Condition: the tree lies in memory. -/
import Derived.Test.YtogkbddniacgiaaDoorRound
import Derived.Test.YtogkbddniacgiaaDoorTree13
namespace Go.Proofs.YtogkbddniacgiaaDoor
set_option linter.unusedSimpArgs false
set_option linter.unusedVariables false
open Go Go.RowKit
/-- the blocks of S stand, and none is gone -/
structure KS (S : Nat → Prop) (W W' : World) : Prop where
  size : W.heap.size ≤ W'.heap.size
  same : Same S W W'
theorem KS.refl (S : Nat → Prop) (W : World) : KS S W W := ⟨Nat.le_refl _, Same.refl _ _⟩
theorem KS.trans {S : Nat → Prop} {A B C : World} (h : KS S A B) (k : KS S B C) : KS S A C := ⟨Nat.le_trans h.size k.size, h.same.trans h.size k.same⟩
theorem KS.cell {S : Nat → Prop} {W W' : World} (h : KS S W W') {b o : Nat} (hb : S b) {v : Value} (hc : W.cell? ⟨b, o, none⟩ = some v) : W'.cell? ⟨b, o, none⟩ = some v := h.same.cell (a := ⟨b, o, none⟩) hb hc
/-- what a call at a leaf does -/
def EachRet (S : Nat → Prop) (It : List El → World → Prop) (Jx : World → Prop) (pre : List El) (W : World) (e : Ending) (W' : World) : Prop :=
  (e = .returned (.bool true) ∧ It pre W' ∧ KS S W W') ∨ (e = .returned (.bool false) ∧ Jx W')
theorem calls_at (g : Nat) {P : Program} {args : Array Value} {w : World} {R : Ending → World → Prop} (h : Calls P g args w R) : Calls P g args w R := h
set_option maxRecDepth 100000 in
set_option maxHeartbeats 2000000 in
theorem leaves_any (g : Nat) (cap : Array Value) (hg : ∀ args w, (callFunc g args).run Tryd.prog w = .ok (.enter g args) w) (S : Nat → Prop) (It : List El → World → Prop) (Jx : World → Prop) (all : List El)
    (hE : ∀ (pre : List El) A n c row post W, It pre W → Row W S A n c row → row ≠ [] → all = pre ++ row ++ post → Calls Tryd.prog g (#[.slice A n c] ++ cap) W (EachRet S It Jx (pre ++ row) W)) (t : Tr) :
    ∀ (p : Option Addr) (pre post : List El) (W : World), IsTree W S t p → It pre W → all = pre ++ t.all ++ post →
      Calls Tryd.prog 75 #[.pointer p, .func (.func g) #[] cap] W (EachRet S It Jx (pre ++ t.all) W) := by
  induction t with
  | nil =>
    intro p pre post W ht hI _
    obtain rfl := ht
    go_enter Tryd.func75, Tryd.ntmps75
    repeat' (first | (with_reducible refine Keep.last ?_) | (with_reducible refine Keep.below (by assumption) ?_) | (with_reducible refine Keep.kept (by assumption) ?_) | (with_reducible refine Keep.alloc ?_) | (with_reducible refine Keep.same ?_) | ((with_reducible refine WpH.here ?_); first | (refine WpH.nil ?_; refine NoP.normal ?_) | (refine WpH.load (by rfl) (by rfl) (by go_simp; rfl) ?_; simp only [Act.put, List.setIfInBounds_toArray, List.set_cons_zero, List.set_cons_succ]) | (refine WpH.loadT (by rfl) (by rfl) (by go_simp; rfl) (by rintro _ _ ⟨⟩; exact ⟨_, _, _, _, _, _, by rfl, by assumption, by assumption⟩) ?_; simp only [Act.put, List.setIfInBounds_toArray, List.set_cons_zero, List.set_cons_succ]) | (refine WpH.pure (by rfl) (fun w_ => by go_simp; (try go_bits); rfl) ?_; simp only [Act.put, List.setIfInBounds_toArray, List.set_cons_zero, List.set_cons_succ]) | (refine WpH.wild1 (by rfl) (fun _ _ => ?_)) | (refine WpH.skip (by rfl) ?_; simp only [Act.put, List.setIfInBounds_toArray, List.set_cons_zero, List.set_cons_succ])) | go_values | go_skip | go_guarded | go_step | go_upon | go_back)
    go_ret
    exact .inl ⟨rfl, by simpa [Tr.all] using hI, KS.refl _ _⟩
  | node l row r ihl ihr =>
    intro p pre post W ht hI hall
    obtain ⟨hne, b, A, n, c, pl, pr, rfl, hS, hrow, hl, hr, c0, c1, c2, c3, c4, c5, c6⟩ := ht
    clear c3 c4 c5 c6
    have hlt := lt_of_cell' c0
    simp only [Tr.all] at hall ⊢
    have h1 := hid (ihl pl pre (row ++ r.all ++ post) W hl hI (by rw [hall]; simp))
    have h2 := hid (fun W1 (hI1 : It (pre ++ l.all) W1) (hk : KS S W W1) => hE (pre ++ l.all) A n c row (r.all ++ post) W1 hI1 (hrow.keep hk.same) hne (by rw [hall]; simp))
    have h3 := hid (fun W2 (hI2 : It (pre ++ l.all ++ row) W2) (hk : KS S W W2) => ihr pr (pre ++ l.all ++ row) post W2 (hr.keep hk.same) hI2 (by rw [hall]; simp))
    clear ihl ihr hE hall
    go_enter Tryd.func75, Tryd.ntmps75
    repeat' (first | (go_at_call 75; first | ((with_reducible refine Calls.mono H3.out ?_); clear H3; rintro _ W3 (⟨rfl, hI3, hk3⟩ | ⟨rfl, hx3⟩); all_goals dsimp only) | (go_must ((with_reducible refine Calls.mono h1.out ?_); clear h1; rintro _ W1 (⟨rfl, hI1, hk1⟩ | ⟨rfl, hx1⟩); (have H2 := hid (h2.out W1 hI1 hk1); have d0 := hk1.cell hS c0; have d2 := hk1.cell hS c2); all_goals dsimp only))) | ((with_reducible refine calls_at g ?_); go_must ((with_reducible refine Calls.mono H2.out ?_); clear H2; rintro _ W2 (⟨rfl, hI2, hk2⟩ | ⟨rfl, hx2⟩); (have hk12 := hk1.trans hk2; have H3 := hid (h3.out W2 hI2 hk12); have e2 := hk2.cell hS d2; clear d2 d0); all_goals dsimp only)) | (with_reducible refine Keep.last ?_) | (with_reducible refine Keep.below (by assumption) ?_) | (with_reducible refine Keep.kept (by assumption) ?_) | (with_reducible refine Keep.alloc ?_) | (with_reducible refine Keep.same ?_) | ((with_reducible refine WpH.here ?_); first | (refine WpH.nil ?_; refine NoP.normal ?_) | (refine WpH.load (by rfl) (by rfl) (by go_simp; rfl) ?_; simp only [Act.put, List.setIfInBounds_toArray, List.set_cons_zero, List.set_cons_succ]) | (refine WpH.loadT (by rfl) (by rfl) (by go_simp; rfl) (by rintro _ _ ⟨⟩; exact ⟨_, _, _, _, _, _, by rfl, by assumption, by assumption⟩) ?_; simp only [Act.put, List.setIfInBounds_toArray, List.set_cons_zero, List.set_cons_succ]) | (refine WpH.pure (by rfl) (fun w_ => by go_simp; (try go_bits); rfl) ?_; simp only [Act.put, List.setIfInBounds_toArray, List.set_cons_zero, List.set_cons_succ]) | (refine WpH.wild1 (by rfl) (fun _ _ => ?_)) | (refine WpH.skip (by rfl) ?_; simp only [Act.put, List.setIfInBounds_toArray, List.set_cons_zero, List.set_cons_succ])) | go_values | go_skip | go_guarded | go_step | go_upon | go_back)
    all_goals go_ret
    · exact .inl ⟨rfl, by simpa [List.append_assoc] using hI3, hk12.trans hk3⟩
    · exact .inr ⟨rfl, hx3⟩
    · exact .inr ⟨rfl, hx2⟩
    · exact .inr ⟨rfl, hx1⟩
end Go.Proofs.YtogkbddniacgiaaDoor
