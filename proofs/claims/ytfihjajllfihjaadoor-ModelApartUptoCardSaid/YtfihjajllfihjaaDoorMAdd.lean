/- The model's Add refused, for an element hidden too often: the walk. Conditions: the model and the reasons lie in memory, fewer than 2^29 elements. -/
import Derived.Test.YtfihjajllfihjaaDoorModelNo
import Derived.Test.YtfihjajllfihjaaDoorModel3
namespace Go.Proofs.YtfihjajllfihjaaDoor
set_option linter.unusedSimpArgs false
set_option linter.unusedVariables false
open Go Go.RowKit
variable {a : Nat → Addr}
set_option maxRecDepth 50000 in
set_option maxHeartbeats 4000000 in
theorem madd_arg (w : World) (S S' : Nat → Prop) (mb : Nat) (l : List El) (K i : Nat) (e : El) (d : Int) (hd : d = 1 ∨ d = -1) (h : Mdl w S mb l K) (hl : l.length ≤ 536870912) (he : l[i]? = some e) (hf : fairH (e.hides + d) = false) (hs : Sents w S' a) :
    Calls Tryd.prog 40 #[.pointer (some ⟨mb, 0, none⟩), .int .i64 i, .int .i64 d] w fun r w' => ∃ v, r = .returned v ∧ IsErr w' (Fr w S') a [⟨({ data := #[109, 111, 100, 101, 108] } : ByteArray), ({ data := #[65, 100, 100] } : ByteArray), atOf i⟩] 1 v ∧ Below w.heap.size w w' := by
  obtain ⟨gt, gm, p, T, h1, h2, h3, rfl, h5, h6, h7, h8, h9⟩ := h
  have hi := (List.getElem?_eq_some_iff.1 he).1
  have hgood := h9 e (List.mem_of_getElem? he)
  have hhb := fairH_bounds hgood.hides
  have He := hid he
  have m0 := h1.cell 0
  simp at m0
  have hml := h1.lt
  have Hs := hid hs
  clear h5 h9 he hs
  rcases hd with rfl | rfl
  · skip
    have HE := hid (fun W => refused_err (S := S') (a := a) ({ data := #[65, 100, 100] } : ByteArray) i [] 1 (reason (a 1)) W ⟨by omega, by omega, rfl⟩)
    have HA := hid (at_ok T p gt 64 i _ w h2 h3 (by omega) hi)
    have hnz : -9223372036854775808 ≤ e.hides := by omega
    have hpz : e.hides + 1 ≤ 9223372036854775807 := by omega
    have hqz : -9223372036854775808 ≤ e.hides + 1 := by omega
    have HF := hid (fun W => hideable_any (e.hides + 1) W)
    rw [hf] at HF
    clear hf
    go_enter Tryd.func40, Tryd.ntmps40
    repeat' (first | (go_at_call 85; go_must ((with_reducible refine Calls.mono HA.out ?_); rintro _ w1 ⟨⟨e0, rfl, he0⟩, hb1⟩; obtain rfl : e0 = e := Option.some.inj (he0.symm.trans He.out); clear he0; unfold El.agg; have c2 := ((Hs.out.step hb1).step (balloc (o := .cells #[.int .i64 e0.epoch, .int .i64 e0.rep, .int .i64 e0.num, .int .i32 e0.char, .int .i64 e0.hides] 42) (Below.refl _ w1))).cell 1 (by omega) (by omega); simp only [gOf, reason] at c2; dsimp only)) | (go_at_call 93; go_must ((with_reducible refine Calls.mono (HF.out _) ?_); rintro _ _ ⟨rfl, rfl⟩; dsimp only)) | (go_at_call 83; go_must ((with_reducible refine Calls.mono (HE.out _) ?_); rintro _ w4 ⟨v, rfl, hv, hb4⟩; dsimp only)) | (with_reducible refine Keep.last ?_) | (with_reducible refine Keep.below (by assumption) ?_) | (with_reducible refine Keep.kept (by assumption) ?_) | (with_reducible refine Keep.alloc ?_) | (with_reducible refine Keep.same ?_) | ((with_reducible refine WpH.here ?_); first | (refine WpH.nil ?_; refine NoP.normal ?_) | (refine WpH.load (by rfl) (by rfl) (by go_simp; rfl) ?_; simp only [Act.put, List.setIfInBounds_toArray, List.set_cons_zero, List.set_cons_succ]) | (refine WpH.loadT (by rfl) (by rfl) (by go_simp; rfl) (by rintro _ _ ⟨⟩; exact ⟨_, _, _, _, _, _, by rfl, by assumption, by assumption⟩) ?_; simp only [Act.put, List.setIfInBounds_toArray, List.set_cons_zero, List.set_cons_succ]) | (refine WpH.pure (by rfl) (fun w_ => by go_simp; (try go_bits); rfl) ?_; simp only [Act.put, List.setIfInBounds_toArray, List.set_cons_zero, List.set_cons_succ]) | (refine WpH.wild1 (by rfl) (fun _ _ => ?_)) | (refine WpH.skip (by rfl) ?_; simp only [Act.put, List.setIfInBounds_toArray, List.set_cons_zero, List.set_cons_succ])) | go_values | go_skip | go_guarded | go_step | go_upon | go_back)
    skip
    go_ret
    have hbe : Below w.heap.size w (w1.alloc (.cells #[.int .i64 e0.epoch, .int .i64 e0.rep, .int .i64 e0.num, .int .i32 e0.char, .int .i64 e0.hides] 42)) := by (repeat' (first | (with_reducible exact Below.refl _ _) | (with_reducible assumption) | (with_reducible refine balloc ?_) | (with_reducible refine bdrew ?_) | (with_reducible refine bset ?_ (by (try dsimp only); omega)) | (with_reducible refine bvia ?_ (by assumption))))
    exact ⟨v, rfl, hv.cut hbe.size, bvia hbe hb4⟩
  · skip
    have HE := hid (fun W => refused_err (S := S') (a := a) ({ data := #[65, 100, 100] } : ByteArray) i [] 1 (reason (a 1)) W ⟨by omega, by omega, rfl⟩)
    have HA := hid (at_ok T p gt 64 i _ w h2 h3 (by omega) hi)
    have hnz : -9223372036854775808 ≤ e.hides := by omega
    have hpz : e.hides + (-1) ≤ 9223372036854775807 := by omega
    have hqz : -9223372036854775808 ≤ e.hides + (-1) := by omega
    have HF := hid (fun W => hideable_any (e.hides + (-1)) W)
    rw [hf] at HF
    clear hf
    go_enter Tryd.func40, Tryd.ntmps40
    repeat' (first | (go_at_call 85; go_must ((with_reducible refine Calls.mono HA.out ?_); rintro _ w1 ⟨⟨e0, rfl, he0⟩, hb1⟩; obtain rfl : e0 = e := Option.some.inj (he0.symm.trans He.out); clear he0; unfold El.agg; have c2 := ((Hs.out.step hb1).step (balloc (o := .cells #[.int .i64 e0.epoch, .int .i64 e0.rep, .int .i64 e0.num, .int .i32 e0.char, .int .i64 e0.hides] 42) (Below.refl _ w1))).cell 1 (by omega) (by omega); simp only [gOf, reason] at c2; dsimp only)) | (go_at_call 93; go_must ((with_reducible refine Calls.mono (HF.out _) ?_); rintro _ _ ⟨rfl, rfl⟩; dsimp only)) | (go_at_call 83; go_must ((with_reducible refine Calls.mono (HE.out _) ?_); rintro _ w4 ⟨v, rfl, hv, hb4⟩; dsimp only)) | (with_reducible refine Keep.last ?_) | (with_reducible refine Keep.below (by assumption) ?_) | (with_reducible refine Keep.kept (by assumption) ?_) | (with_reducible refine Keep.alloc ?_) | (with_reducible refine Keep.same ?_) | ((with_reducible refine WpH.here ?_); first | (refine WpH.nil ?_; refine NoP.normal ?_) | (refine WpH.load (by rfl) (by rfl) (by go_simp; rfl) ?_; simp only [Act.put, List.setIfInBounds_toArray, List.set_cons_zero, List.set_cons_succ]) | (refine WpH.loadT (by rfl) (by rfl) (by go_simp; rfl) (by rintro _ _ ⟨⟩; exact ⟨_, _, _, _, _, _, by rfl, by assumption, by assumption⟩) ?_; simp only [Act.put, List.setIfInBounds_toArray, List.set_cons_zero, List.set_cons_succ]) | (refine WpH.pure (by rfl) (fun w_ => by go_simp; (try go_bits); rfl) ?_; simp only [Act.put, List.setIfInBounds_toArray, List.set_cons_zero, List.set_cons_succ]) | (refine WpH.wild1 (by rfl) (fun _ _ => ?_)) | (refine WpH.skip (by rfl) ?_; simp only [Act.put, List.setIfInBounds_toArray, List.set_cons_zero, List.set_cons_succ])) | go_values | go_skip | go_guarded | go_step | go_upon | go_back)
    skip
    go_ret
    have hbe : Below w.heap.size w (w1.alloc (.cells #[.int .i64 e0.epoch, .int .i64 e0.rep, .int .i64 e0.num, .int .i32 e0.char, .int .i64 e0.hides] 42)) := by (repeat' (first | (with_reducible exact Below.refl _ _) | (with_reducible assumption) | (with_reducible refine balloc ?_) | (with_reducible refine bdrew ?_) | (with_reducible refine bset ?_ (by (try dsimp only); omega)) | (with_reducible refine bvia ?_ (by assumption))))
    exact ⟨v, rfl, hv.cut hbe.size, bvia hbe hb4⟩
end Go.Proofs.YtfihjajllfihjaaDoor
