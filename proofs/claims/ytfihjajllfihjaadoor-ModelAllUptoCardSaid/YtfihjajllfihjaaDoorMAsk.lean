/- What is asked of a model: Live, Lines, At, ViewOf, ModelOf, Place, LineEnd: the walks. Conditions: the model and the reasons lie in memory, fewer than 2^29 elements. -/
import Derived.Test.YtfihjajllfihjaaDoorModelNo
import Derived.Test.YtfihjajllfihjaaDoorTreeAsk
namespace Go.Proofs.YtfihjajllfihjaaDoor
set_option linter.unusedSimpArgs false
set_option linter.unusedVariables false
open Go Go.RowKit
variable {a : Nat → Addr}
theorem mlive_any (w : World) (S : Nat → Prop) (mb : Nat) (l : List El) (K : Nat) (h : Mdl w S mb l K) : Calls Tryd.prog 19 #[.pointer (some ⟨mb, 0, none⟩)] w fun e w' => e = .returned (.int .i64 (liveOf l)) ∧ Below w.heap.size w w' := by
  obtain ⟨gt, gm, p, T, h1, h2, h3, rfl, h5, h6, h7, h8, h9⟩ := h
  have m0 := h1.cell 0
  simp at m0
  have ml := h1.lt
  have HL := hid (tweight_any T p gt 64 w h2 h3)
  clear h9 h5
  go_enter Tryd.func19, Tryd.ntmps19
  repeat' (first | (go_at_call 77; go_must ((with_reducible refine Calls.mono HL.out ?_); rintro _ w1 ⟨rfl, hb1⟩; dsimp only)) | (with_reducible refine Keep.last ?_) | (with_reducible refine Keep.below (by assumption) ?_) | (with_reducible refine Keep.kept (by assumption) ?_) | (with_reducible refine Keep.alloc ?_) | (with_reducible refine Keep.same ?_) | ((with_reducible refine WpH.here ?_); first | (refine WpH.nil ?_; refine NoP.normal ?_) | (refine WpH.load (by rfl) (by rfl) (by go_simp; rfl) ?_; simp only [Act.put, List.setIfInBounds_toArray, List.set_cons_zero, List.set_cons_succ]) | (refine WpH.loadT (by rfl) (by rfl) (by go_simp; rfl) (by rintro _ _ ⟨⟩; exact ⟨_, _, _, _, _, _, by rfl, by assumption, by assumption⟩) ?_; simp only [Act.put, List.setIfInBounds_toArray, List.set_cons_zero, List.set_cons_succ]) | (refine WpH.pure (by rfl) (fun w_ => by go_simp; (try go_bits); rfl) ?_; simp only [Act.put, List.setIfInBounds_toArray, List.set_cons_zero, List.set_cons_succ]) | (refine WpH.wild1 (by rfl) (fun _ _ => ?_)) | (refine WpH.skip (by rfl) ?_; simp only [Act.put, List.setIfInBounds_toArray, List.set_cons_zero, List.set_cons_succ])) | go_values | go_skip | go_guarded | go_step | go_upon | go_back)
  skip
  go_ret
  exact ⟨rfl, by (repeat' (first | (with_reducible exact Below.refl _ _) | (with_reducible assumption) | (with_reducible refine balloc ?_) | (with_reducible refine bdrew ?_) | (with_reducible refine bset ?_ (by (try dsimp only); omega)) | (with_reducible refine bvia ?_ (by assumption))))⟩
theorem mlines_any (w : World) (S : Nat → Prop) (mb : Nat) (l : List El) (K : Nat) (h : Mdl w S mb l K) : Calls Tryd.prog 103 #[.pointer (some ⟨mb, 0, none⟩)] w fun e w' => e = .returned (.int .i64 (linesOf l)) ∧ Below w.heap.size w w' := by
  obtain ⟨gt, gm, p, T, h1, h2, h3, rfl, h5, h6, h7, h8, h9⟩ := h
  have m0 := h1.cell 0
  simp at m0
  have ml := h1.lt
  have HL := hid (tweight_any T p gt 64 w h2 h3)
  clear h9 h5
  go_enter Tryd.func103, Tryd.ntmps103
  repeat' (first | (go_at_call 77; go_must ((with_reducible refine Calls.mono HL.out ?_); rintro _ w1 ⟨rfl, hb1⟩; dsimp only)) | (with_reducible refine Keep.last ?_) | (with_reducible refine Keep.below (by assumption) ?_) | (with_reducible refine Keep.kept (by assumption) ?_) | (with_reducible refine Keep.alloc ?_) | (with_reducible refine Keep.same ?_) | ((with_reducible refine WpH.here ?_); first | (refine WpH.nil ?_; refine NoP.normal ?_) | (refine WpH.load (by rfl) (by rfl) (by go_simp; rfl) ?_; simp only [Act.put, List.setIfInBounds_toArray, List.set_cons_zero, List.set_cons_succ]) | (refine WpH.loadT (by rfl) (by rfl) (by go_simp; rfl) (by rintro _ _ ⟨⟩; exact ⟨_, _, _, _, _, _, by rfl, by assumption, by assumption⟩) ?_; simp only [Act.put, List.setIfInBounds_toArray, List.set_cons_zero, List.set_cons_succ]) | (refine WpH.pure (by rfl) (fun w_ => by go_simp; (try go_bits); rfl) ?_; simp only [Act.put, List.setIfInBounds_toArray, List.set_cons_zero, List.set_cons_succ]) | (refine WpH.wild1 (by rfl) (fun _ _ => ?_)) | (refine WpH.skip (by rfl) ?_; simp only [Act.put, List.setIfInBounds_toArray, List.set_cons_zero, List.set_cons_succ])) | go_values | go_skip | go_guarded | go_step | go_upon | go_back)
  skip
  go_ret
  exact ⟨rfl, by (repeat' (first | (with_reducible exact Below.refl _ _) | (with_reducible assumption) | (with_reducible refine balloc ?_) | (with_reducible refine bdrew ?_) | (with_reducible refine bset ?_ (by (try dsimp only); omega)) | (with_reducible refine bvia ?_ (by assumption))))⟩
theorem within_no (n m : Int) (w : World) (S' : Nat → Prop) (hs : Sents w S' a) (h : n < 0 ∨ m < n) : Calls Tryd.prog 86 #[.int .i64 n, .int .i64 m] w fun e w' => e = .returned (reason (a 2)) ∧ w = w' := by
  have c2 := hs.cell 2 (by omega) (by omega)
  simp only [gOf, reason] at c2
  by_cases h0 : n < 0
  · go_enter Tryd.func86, Tryd.ntmps86
    repeat' (first | (with_reducible refine Keep.last ?_) | (with_reducible refine Keep.below (by assumption) ?_) | (with_reducible refine Keep.kept (by assumption) ?_) | (with_reducible refine Keep.alloc ?_) | (with_reducible refine Keep.same ?_) | ((with_reducible refine WpH.here ?_); first | (refine WpH.nil ?_; refine NoP.normal ?_) | (refine WpH.load (by rfl) (by rfl) (by go_simp; rfl) ?_; simp only [Act.put, List.setIfInBounds_toArray, List.set_cons_zero, List.set_cons_succ]) | (refine WpH.loadT (by rfl) (by rfl) (by go_simp; rfl) (by rintro _ _ ⟨⟩; exact ⟨_, _, _, _, _, _, by rfl, by assumption, by assumption⟩) ?_; simp only [Act.put, List.setIfInBounds_toArray, List.set_cons_zero, List.set_cons_succ]) | (refine WpH.pure (by rfl) (fun w_ => by go_simp; (try go_bits); rfl) ?_; simp only [Act.put, List.setIfInBounds_toArray, List.set_cons_zero, List.set_cons_succ]) | (refine WpH.wild1 (by rfl) (fun _ _ => ?_)) | (refine WpH.skip (by rfl) ?_; simp only [Act.put, List.setIfInBounds_toArray, List.set_cons_zero, List.set_cons_succ])) | go_values | go_skip | go_guarded | go_step | go_upon | go_back)
    go_ret
    exact ⟨rfl, rfl⟩
  · have h1 : m < n := by omega
    clear h
    go_enter Tryd.func86, Tryd.ntmps86
    repeat' (first | (with_reducible refine Keep.last ?_) | (with_reducible refine Keep.below (by assumption) ?_) | (with_reducible refine Keep.kept (by assumption) ?_) | (with_reducible refine Keep.alloc ?_) | (with_reducible refine Keep.same ?_) | ((with_reducible refine WpH.here ?_); first | (refine WpH.nil ?_; refine NoP.normal ?_) | (refine WpH.load (by rfl) (by rfl) (by go_simp; rfl) ?_; simp only [Act.put, List.setIfInBounds_toArray, List.set_cons_zero, List.set_cons_succ]) | (refine WpH.loadT (by rfl) (by rfl) (by go_simp; rfl) (by rintro _ _ ⟨⟩; exact ⟨_, _, _, _, _, _, by rfl, by assumption, by assumption⟩) ?_; simp only [Act.put, List.setIfInBounds_toArray, List.set_cons_zero, List.set_cons_succ]) | (refine WpH.pure (by rfl) (fun w_ => by go_simp; (try go_bits); rfl) ?_; simp only [Act.put, List.setIfInBounds_toArray, List.set_cons_zero, List.set_cons_succ]) | (refine WpH.wild1 (by rfl) (fun _ _ => ?_)) | (refine WpH.skip (by rfl) ?_; simp only [Act.put, List.setIfInBounds_toArray, List.set_cons_zero, List.set_cons_succ])) | go_values | go_skip | go_guarded | go_step | go_upon | go_back)
    go_ret
    exact ⟨rfl, rfl⟩
set_option maxRecDepth 50000 in
set_option maxHeartbeats 2000000 in
theorem mmodelof_ok (w : World) (S : Nat → Prop) (mb : Nat) (l : List El) (K k : Nat) (h : Mdl w S mb l K) (hl : l.length ≤ 536870912) (hk : k < liveOf l) :
    Calls Tryd.prog 27 #[.pointer (some ⟨mb, 0, none⟩), .int .i64 k] w fun e w' => (∃ m e0, e = .returned (.tuple #[.int .i64 (m : Nat), .nilIface]) ∧ l[m]? = some e0 ∧ e0.live = 1 ∧ liveOf (l.take m) = k) ∧ Below w.heap.size w w' := by
  obtain ⟨gt, gm, p, T, h1, h2, h3, rfl, h5, h6, h7, h8, h9⟩ := h
  have m0 := h1.cell 0
  simp at m0
  have ml := h1.lt
  have HF := hid (find_ok T p gt 64 k _ w h2 h3 (by omega) hk)
  clear h9 h5
  go_enter Tryd.func27, Tryd.ntmps27
  repeat' (first | (go_at_call 82; go_must ((with_reducible refine Calls.mono HF.out ?_); rintro _ w1 ⟨⟨m1, e1, rfl, he1, hv1, hs1⟩, hb1⟩; have H1 := hid (And.intro he1 (And.intro hv1 hs1)); clear he1 hv1 hs1; dsimp only)) | (with_reducible refine Keep.last ?_) | (with_reducible refine Keep.below (by assumption) ?_) | (with_reducible refine Keep.kept (by assumption) ?_) | (with_reducible refine Keep.alloc ?_) | (with_reducible refine Keep.same ?_) | ((with_reducible refine WpH.here ?_); first | (refine WpH.nil ?_; refine NoP.normal ?_) | (refine WpH.load (by rfl) (by rfl) (by go_simp; rfl) ?_; simp only [Act.put, List.setIfInBounds_toArray, List.set_cons_zero, List.set_cons_succ]) | (refine WpH.loadT (by rfl) (by rfl) (by go_simp; rfl) (by rintro _ _ ⟨⟩; exact ⟨_, _, _, _, _, _, by rfl, by assumption, by assumption⟩) ?_; simp only [Act.put, List.setIfInBounds_toArray, List.set_cons_zero, List.set_cons_succ]) | (refine WpH.pure (by rfl) (fun w_ => by go_simp; (try go_bits); rfl) ?_; simp only [Act.put, List.setIfInBounds_toArray, List.set_cons_zero, List.set_cons_succ]) | (refine WpH.wild1 (by rfl) (fun _ _ => ?_)) | (refine WpH.skip (by rfl) ?_; simp only [Act.put, List.setIfInBounds_toArray, List.set_cons_zero, List.set_cons_succ])) | go_values | go_skip | go_guarded | go_step | go_upon | go_back)
  skip
  go_ret2
  exact ⟨⟨m1, e1, rfl, H1.out⟩, hb1⟩
set_option maxRecDepth 50000 in
set_option maxHeartbeats 2000000 in
theorem mmodelof_no (w : World) (S S' : Nat → Prop) (mb : Nat) (l : List El) (K : Nat) (i : Int) (h : Mdl w S mb l K) (hi : i < 0 ∨ (liveOf l : Int) ≤ i) (hs : Sents w S' a) :
    Calls Tryd.prog 27 #[.pointer (some ⟨mb, 0, none⟩), .int .i64 i] w fun e w' => ∃ v, e = .returned (.tuple #[.int .i64 0, v]) ∧ IsErr w' (Fr w S') a [⟨({ data := #[109, 111, 100, 101, 108] } : ByteArray), ({ data := #[77, 111, 100, 101, 108, 79, 102] } : ByteArray), atOf i⟩] 2 v ∧ Below w.heap.size w w' := by
  obtain ⟨gt, gm, p, T, h1, h2, h3, rfl, h5, h6, h7, h8, h9⟩ := h
  have m0 := h1.cell 0
  simp at m0
  have ml := h1.lt
  have HF := hid (find_no T p gt 64 i _ S' w h2 h3 hs hi)
  have HE := hid (fun W => refused_err (S := S') (a := a) ({ data := #[77, 111, 100, 101, 108, 79, 102] } : ByteArray) i [] 2 (reason (a 2)) W ⟨by omega, by omega, rfl⟩)
  clear h9 h5
  go_enter Tryd.func27, Tryd.ntmps27
  repeat' (first | (go_at_call 82; go_must ((with_reducible refine Calls.mono HF.out ?_); rintro _ w1 ⟨v1, rfl, he1, hb1⟩; obtain ⟨tv, xv, rfl⟩ := he1.notNil; have c2 := (hs.step hb1).cell 2 (by omega) (by omega); simp only [gOf, reason] at c2; dsimp only)) | (go_at_call 83; go_must ((with_reducible refine Calls.mono (HE.out _) ?_); rintro _ w4 ⟨v, rfl, hv, hb4⟩; dsimp only)) | (with_reducible refine Keep.last ?_) | (with_reducible refine Keep.below (by assumption) ?_) | (with_reducible refine Keep.kept (by assumption) ?_) | (with_reducible refine Keep.alloc ?_) | (with_reducible refine Keep.same ?_) | ((with_reducible refine WpH.here ?_); first | (refine WpH.nil ?_; refine NoP.normal ?_) | (refine WpH.load (by rfl) (by rfl) (by go_simp; rfl) ?_; simp only [Act.put, List.setIfInBounds_toArray, List.set_cons_zero, List.set_cons_succ]) | (refine WpH.loadT (by rfl) (by rfl) (by go_simp; rfl) (by rintro _ _ ⟨⟩; exact ⟨_, _, _, _, _, _, by rfl, by assumption, by assumption⟩) ?_; simp only [Act.put, List.setIfInBounds_toArray, List.set_cons_zero, List.set_cons_succ]) | (refine WpH.pure (by rfl) (fun w_ => by go_simp; (try go_bits); rfl) ?_; simp only [Act.put, List.setIfInBounds_toArray, List.set_cons_zero, List.set_cons_succ]) | (refine WpH.wild1 (by rfl) (fun _ _ => ?_)) | (refine WpH.skip (by rfl) ?_; simp only [Act.put, List.setIfInBounds_toArray, List.set_cons_zero, List.set_cons_succ])) | go_values | go_skip | go_guarded | go_step | go_upon | go_back)
  skip
  go_ret2
  exact ⟨v, rfl, hv.cut hb1.size, bvia hb1 hb4⟩
set_option maxRecDepth 50000 in
set_option maxHeartbeats 2000000 in
theorem mplace_ok (w : World) (S : Nat → Prop) (mb : Nat) (l : List El) (K k : Nat) (h : Mdl w S mb l K) (hl : l.length ≤ 536870912) (hk : k ≤ liveOf l) :
    Calls Tryd.prog 29 #[.pointer (some ⟨mb, 0, none⟩), .int .i64 k] w fun e w' => (∃ m : Nat, e = .returned (.tuple #[.int .i64 m, .nilIface]) ∧ (k = 0 ∧ m = 0 ∨ ∃ q j e0, k = q + 1 ∧ m = j + 1 ∧ l[j]? = some e0 ∧ e0.live = 1 ∧ liveOf (l.take j) = q)) ∧ Below w.heap.size w w' := by
  have HL := hid (mlive_any w S mb l K h)
  have HW := hid (fun W => within_ok k (liveOf l) W (by omega) (by omega))
  have hle := liveOf_le l
  by_cases h0 : k = 0
  · subst h0
    go_enter Tryd.func29, Tryd.ntmps29
    repeat' (first | (go_at_call 19; go_must ((with_reducible refine Calls.mono HL.out ?_); rintro _ w1 ⟨rfl, hb1⟩; dsimp only)) | (go_at_call 86; go_must ((with_reducible refine Calls.mono (HW.out _) ?_); rintro _ _ ⟨rfl, rfl⟩; dsimp only)) | (with_reducible refine Keep.last ?_) | (with_reducible refine Keep.below (by assumption) ?_) | (with_reducible refine Keep.kept (by assumption) ?_) | (with_reducible refine Keep.alloc ?_) | (with_reducible refine Keep.same ?_) | ((with_reducible refine WpH.here ?_); first | (refine WpH.nil ?_; refine NoP.normal ?_) | (refine WpH.load (by rfl) (by rfl) (by go_simp; rfl) ?_; simp only [Act.put, List.setIfInBounds_toArray, List.set_cons_zero, List.set_cons_succ]) | (refine WpH.loadT (by rfl) (by rfl) (by go_simp; rfl) (by rintro _ _ ⟨⟩; exact ⟨_, _, _, _, _, _, by rfl, by assumption, by assumption⟩) ?_; simp only [Act.put, List.setIfInBounds_toArray, List.set_cons_zero, List.set_cons_succ]) | (refine WpH.pure (by rfl) (fun w_ => by go_simp; (try go_bits); rfl) ?_; simp only [Act.put, List.setIfInBounds_toArray, List.set_cons_zero, List.set_cons_succ]) | (refine WpH.wild1 (by rfl) (fun _ _ => ?_)) | (refine WpH.skip (by rfl) ?_; simp only [Act.put, List.setIfInBounds_toArray, List.set_cons_zero, List.set_cons_succ])) | go_values | go_skip | go_guarded | go_step | go_upon | go_back)
    skip
    go_ret2
    exact ⟨⟨0, rfl, by simp⟩, hb1⟩
  · obtain ⟨q, rfl⟩ : ∃ q, k = q + 1 := ⟨k - 1, by omega⟩
    obtain ⟨gt, gm, p, T, h1, h2, h3, rfl, h5, h6, h7, h8, h9⟩ := h
    clear h9 h5
    have HF := hid (fun W (hb : Below w.heap.size w W) => find_ok T p gt 64 q _ W (h2.step hb) (h3.step hb) (by omega) (by omega))
    have h0' : ¬ ((q : Int) + 1 = 0) := by omega
    have HW2 := hid (fun W => within_ok ((q : Int) + 1) (liveOf T.all) W (by omega) (by omega))
    go_enter Tryd.func29, Tryd.ntmps29
    repeat' (first | (go_at_call 19; go_must ((with_reducible refine Calls.mono HL.out ?_); rintro _ w1 ⟨rfl, hb1⟩; have m0 := (h1.step hb1).cell 0; have ml := (h1.step hb1).lt; simp at m0; dsimp only)) | (go_at_call 86; go_must ((with_reducible refine Calls.mono (HW2.out _) ?_); rintro _ _ ⟨rfl, rfl⟩; dsimp only)) | (go_at_call 82; go_must ((with_reducible refine Calls.mono (HF.out _ hb1) ?_); rintro _ w2 ⟨⟨m1, e1, rfl, he1, hv1, hs1⟩, hb2⟩; have H1 := hid (And.intro he1 (And.intro hv1 hs1)); have hm1 : m1 < T.all.length := (List.getElem?_eq_some_iff.1 he1).1; clear he1 hv1 hs1; dsimp only)) | (with_reducible refine Keep.last ?_) | (with_reducible refine Keep.below (by assumption) ?_) | (with_reducible refine Keep.kept (by assumption) ?_) | (with_reducible refine Keep.alloc ?_) | (with_reducible refine Keep.same ?_) | ((with_reducible refine WpH.here ?_); first | (refine WpH.nil ?_; refine NoP.normal ?_) | (refine WpH.load (by rfl) (by rfl) (by go_simp; rfl) ?_; simp only [Act.put, List.setIfInBounds_toArray, List.set_cons_zero, List.set_cons_succ]) | (refine WpH.loadT (by rfl) (by rfl) (by go_simp; rfl) (by rintro _ _ ⟨⟩; exact ⟨_, _, _, _, _, _, by rfl, by assumption, by assumption⟩) ?_; simp only [Act.put, List.setIfInBounds_toArray, List.set_cons_zero, List.set_cons_succ]) | (refine WpH.pure (by rfl) (fun w_ => by go_simp; (try go_bits); rfl) ?_; simp only [Act.put, List.setIfInBounds_toArray, List.set_cons_zero, List.set_cons_succ]) | (refine WpH.wild1 (by rfl) (fun _ _ => ?_)) | (refine WpH.skip (by rfl) ?_; simp only [Act.put, List.setIfInBounds_toArray, List.set_cons_zero, List.set_cons_succ])) | go_values | go_skip | go_guarded | go_step | go_upon | go_back)
    skip
    go_ret2
    exact ⟨⟨m1 + 1, rfl, .inr ⟨q, m1, e1, rfl, rfl, H1.out⟩⟩, bvia hb1 hb2⟩
set_option maxRecDepth 50000 in
set_option maxHeartbeats 2000000 in
theorem mplace_no (w : World) (S S' : Nat → Prop) (mb : Nat) (l : List El) (K : Nat) (i : Int) (h : Mdl w S mb l K) (hi : i < 0 ∨ (liveOf l : Int) < i) (hs : Sents w S' a) :
    Calls Tryd.prog 29 #[.pointer (some ⟨mb, 0, none⟩), .int .i64 i] w fun e w' => ∃ v, e = .returned (.tuple #[.int .i64 0, v]) ∧ IsErr w' (Fr w S') a [⟨({ data := #[109, 111, 100, 101, 108] } : ByteArray), ({ data := #[80, 108, 97, 99, 101] } : ByteArray), atOf i⟩] 2 v ∧ Below w.heap.size w w' := by
  have HL := hid (mlive_any w S mb l K h)
  have HW := hid (fun W (hb : Below w.heap.size w W) => within_no i (liveOf l) W S' (hs.step hb) hi)
  have HE := hid (fun W => refused_err (S := S') (a := a) ({ data := #[80, 108, 97, 99, 101] } : ByteArray) i [] 2 (reason (a 2)) W ⟨by omega, by omega, rfl⟩)
  unfold reason at HW
  go_enter Tryd.func29, Tryd.ntmps29
  repeat' (first | (go_at_call 19; go_must ((with_reducible refine Calls.mono HL.out ?_); rintro _ w1 ⟨rfl, hb1⟩; dsimp only)) | (go_at_call 86; go_must ((with_reducible refine Calls.mono (HW.out _ hb1) ?_); rintro _ _ ⟨rfl, rfl⟩; dsimp only)) | (go_at_call 83; go_must ((with_reducible refine Calls.mono (HE.out _) ?_); rintro _ w4 ⟨v, rfl, hv, hb4⟩; dsimp only)) | (with_reducible refine Keep.last ?_) | (with_reducible refine Keep.below (by assumption) ?_) | (with_reducible refine Keep.kept (by assumption) ?_) | (with_reducible refine Keep.alloc ?_) | (with_reducible refine Keep.same ?_) | ((with_reducible refine WpH.here ?_); first | (refine WpH.nil ?_; refine NoP.normal ?_) | (refine WpH.load (by rfl) (by rfl) (by go_simp; rfl) ?_; simp only [Act.put, List.setIfInBounds_toArray, List.set_cons_zero, List.set_cons_succ]) | (refine WpH.loadT (by rfl) (by rfl) (by go_simp; rfl) (by rintro _ _ ⟨⟩; exact ⟨_, _, _, _, _, _, by rfl, by assumption, by assumption⟩) ?_; simp only [Act.put, List.setIfInBounds_toArray, List.set_cons_zero, List.set_cons_succ]) | (refine WpH.pure (by rfl) (fun w_ => by go_simp; (try go_bits); rfl) ?_; simp only [Act.put, List.setIfInBounds_toArray, List.set_cons_zero, List.set_cons_succ]) | (refine WpH.wild1 (by rfl) (fun _ _ => ?_)) | (refine WpH.skip (by rfl) ?_; simp only [Act.put, List.setIfInBounds_toArray, List.set_cons_zero, List.set_cons_succ])) | go_values | go_skip | go_guarded | go_step | go_upon | go_back)
  skip
  go_ret2
  exact ⟨v, rfl, hv.cut hb1.size, bvia hb1 hb4⟩
end Go.Proofs.YtfihjajllfihjaaDoor
