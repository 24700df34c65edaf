/- barrowlaw13.AnchorBack: the walk: it returns true. Conditions: the row and the reasons lie in memory, the elements fit their kinds. -/
import Derived.Test.YtfihjajllfihjaaDoorBegun13
namespace Go.Proofs.YtfihjajllfihjaaDoor
set_option linter.unusedSimpArgs false
set_option linter.unusedVariables false
open Go Go.RowKit
variable {a : Nat → Addr}
set_option maxRecDepth 100000 in
set_option maxHeartbeats 4000000 in
theorem aback_true (w : World) (A : Option Addr) (n c : Nat) (ls : List El) (S S' : Nat → Prop) (hr : Row w S A n c ls) (hin : ∀ e ∈ ls, e.In) (hs : Sents w S' a) :
    Calls Tryd.prog 6 #[.slice A n c] w fun e w' => e = .returned (.bool true) ∧ Below w.heap.size w w' := by
  have HB := hid (begun13_any w A n c ls S hr hin)
  have Hs := hid hs
  clear hr hin hs
  go_enter Tryd.func6, Tryd.ntmps6
  repeat' (first | (go_at_call 30; go_must ((with_reducible refine Calls.mono HB.out ?_); rintro _ w1 ⟨⟨mb, A1, c1, X, n1, -, rfl, hM, hrow, hn1, hR, h80, hXin⟩, hb1⟩; dsimp only)) | (with_reducible refine Keep.last ?_) | (with_reducible refine Keep.below (by assumption) ?_) | (with_reducible refine Keep.kept (by assumption) ?_) | (with_reducible refine Keep.alloc ?_) | (with_reducible refine Keep.same ?_) | ((with_reducible refine WpH.here ?_); first | (refine WpH.nil ?_; refine NoP.normal ?_) | (refine WpH.load (by rfl) (by rfl) (by go_simp; rfl) ?_; simp only [Act.put, List.setIfInBounds_toArray, List.set_cons_zero, List.set_cons_succ]) | (refine WpH.loadT (by rfl) (by rfl) (by go_simp; rfl) (by rintro _ _ ⟨⟩; exact ⟨_, _, _, _, _, _, by rfl, by assumption, by assumption⟩) ?_; simp only [Act.put, List.setIfInBounds_toArray, List.set_cons_zero, List.set_cons_succ]) | (refine WpH.pure (by rfl) (fun w_ => by go_simp; (try go_bits); rfl) ?_; simp only [Act.put, List.setIfInBounds_toArray, List.set_cons_zero, List.set_cons_succ]) | (refine WpH.wild1 (by rfl) (fun _ _ => ?_)) | (refine WpH.skip (by rfl) ?_; simp only [Act.put, List.setIfInBounds_toArray, List.set_cons_zero, List.set_cons_succ])) | go_values | go_skip | go_guarded | go_step | go_upon | go_back)
  have hll := liveOf_le X
  have hnd := hid hR.nodup
  have hXn := hid (fun (e : El) (he : e ∈ X) => (⟨(hXin e he).1, (hXin e he).2.1, (hXin e he).2.2.1⟩ : e.nm.In))
  have HM := hid (And.intro hM hrow)
  clear HB hR hXin hM hrow
  go_loopw [5] (fun i wr => ∃ p : Nat, i = .int .i64 p ∧ p ≤ liveOf X + 1 ∧ Below w1.heap.size w1 wr) (fun i _ => liveOf X + 1 - (intOf i).toNat)
  case atStart => exact ⟨0, rfl, Nat.zero_le _, Below.refl _ _⟩
  case round =>
    obtain ⟨p, rfl, hp, hbr⟩ := hrel
    have HS := hid (refSum_any A1 X.length c1 X _ wr (HM.out.2.step hbr) (by omega))
    by_cases hlt : p ≤ liveOf X
    · have hlt' : (p : Int) ≤ liveOf X := by omega
      have HA := hid (fun W (hb : Below w1.heap.size w1 W) => aat_ok W _ mb X _ p (HM.out.1.step hb) (by omega) hlt)
      have HW := hid (fun W (hb : Below w1.heap.size w1 W) => awhere_any W _ mb X _ (gapOf X p) (HM.out.1.step hb) (by omega) (gapOf_in hXn.out hlt))
      rw [where_gap hnd.out hlt] at HW
      dsimp only at HW
      generalize gapOf X p = g at *
      repeat' (first | (go_at_call 31; go_must ((with_reducible refine Calls.mono HS.out ?_); rintro _ w2 ⟨rfl, hb2⟩; have B2 := bvia hbr hb2; dsimp only)) | (go_at_call 32; go_must ((with_reducible refine Calls.mono (HA.out _ B2) ?_); rintro _ w3 ⟨rfl, hb3⟩; have eB : Below w3.heap.size w3 (w3.alloc (.cells #[.bool g.front, .int .i64 g.id.epoch, .int .i64 g.id.rep, .int .i64 g.id.num] 57)) := balloc (Below.refl _ _); have B3 := bvia (bvia B2 hb3) eB; dsimp only)) | (go_at_call 33; go_must ((with_reducible refine Calls.mono (HW.out _ B3) ?_); rintro _ w4 ⟨rfl, hb4⟩; dsimp only)) | (with_reducible refine Keep.last ?_) | (with_reducible refine Keep.below (by assumption) ?_) | (with_reducible refine Keep.kept (by assumption) ?_) | (with_reducible refine Keep.alloc ?_) | (with_reducible refine Keep.same ?_) | ((with_reducible refine WpH.here ?_); first | (refine WpH.nil ?_; refine NoP.normal ?_) | (refine WpH.load (by rfl) (by rfl) (by go_simp; rfl) ?_; simp only [Act.put, List.setIfInBounds_toArray, List.set_cons_zero, List.set_cons_succ]) | (refine WpH.loadT (by rfl) (by rfl) (by go_simp; rfl) (by rintro _ _ ⟨⟩; exact ⟨_, _, _, _, _, _, by rfl, by assumption, by assumption⟩) ?_; simp only [Act.put, List.setIfInBounds_toArray, List.set_cons_zero, List.set_cons_succ]) | (refine WpH.pure (by rfl) (fun w_ => by go_simp; (try go_bits); rfl) ?_; simp only [Act.put, List.setIfInBounds_toArray, List.set_cons_zero, List.set_cons_succ]) | (refine WpH.wild1 (by rfl) (fun _ _ => ?_)) | (refine WpH.skip (by rfl) ?_; simp only [Act.put, List.setIfInBounds_toArray, List.set_cons_zero, List.set_cons_succ])) | go_values | go_skip | go_guarded | go_step | go_upon | go_back)
      skip
      go_roundw
      case rel => exact ⟨p + 1, by go_num, by omega, bvia B3 hb4⟩
      case measure => simp [intOf]; omega
    · have hlt' : ¬ (p : Int) ≤ liveOf X := by omega
      have HK := hid (fun W (hb : Below w1.heap.size w1 W) => wakes13_any W _ ((Hs.out.step hb1).step hb))
      repeat' (first | (go_at_call 31; go_must ((with_reducible refine Calls.mono HS.out ?_); rintro _ w2 ⟨rfl, hb2⟩; have B2 := bvia hbr hb2; dsimp only)) | (go_at_call 34; go_must ((with_reducible refine Calls.mono (HK.out _ B2) ?_); rintro _ w3 ⟨rfl, hb3⟩; dsimp only)) | (with_reducible refine Keep.last ?_) | (with_reducible refine Keep.below (by assumption) ?_) | (with_reducible refine Keep.kept (by assumption) ?_) | (with_reducible refine Keep.alloc ?_) | (with_reducible refine Keep.same ?_) | ((with_reducible refine WpH.here ?_); first | (refine WpH.nil ?_; refine NoP.normal ?_) | (refine WpH.load (by rfl) (by rfl) (by go_simp; rfl) ?_; simp only [Act.put, List.setIfInBounds_toArray, List.set_cons_zero, List.set_cons_succ]) | (refine WpH.loadT (by rfl) (by rfl) (by go_simp; rfl) (by rintro _ _ ⟨⟩; exact ⟨_, _, _, _, _, _, by rfl, by assumption, by assumption⟩) ?_; simp only [Act.put, List.setIfInBounds_toArray, List.set_cons_zero, List.set_cons_succ]) | (refine WpH.pure (by rfl) (fun w_ => by go_simp; (try go_bits); rfl) ?_; simp only [Act.put, List.setIfInBounds_toArray, List.set_cons_zero, List.set_cons_succ]) | (refine WpH.wild1 (by rfl) (fun _ _ => ?_)) | (refine WpH.skip (by rfl) ?_; simp only [Act.put, List.setIfInBounds_toArray, List.set_cons_zero, List.set_cons_succ])) | go_values | go_skip | go_guarded | go_step | go_upon | go_back)
      skip
      go_ret
      exact ⟨rfl, bvia (bvia hb1 B2) hb3⟩
end Go.Proofs.YtfihjajllfihjaaDoor
