/- barrowlaw05.ModelBack: the walk: it returns true. Conditions: the row and the reasons lie in memory, the elements fit their kinds. -/
import Derived.Test.YtfihjajllfihjaaDoorBegun5
import Derived.Test.YtfihjajllfihjaaDoorMAsk2
namespace Go.Proofs.YtfihjajllfihjaaDoor
set_option linter.unusedSimpArgs false
set_option linter.unusedVariables false
open Go Go.RowKit
variable {a : Nat → Addr}
theorem live_cases (e : El) : e.live = 1 ∨ e.live = 0 := by unfold El.live; split <;> simp
theorem place_same {L : List El} {k m m5 : Nat} {e0 : El} (h : k + 1 = 0 ∧ m5 = 0 ∨ ∃ q j e1, k + 1 = q + 1 ∧ m5 = j + 1 ∧ L[j]? = some e1 ∧ e1.live = 1 ∧ liveOf (L.take j) = q) (he : L[m]? = some e0) (hv : e0.live = 1) (hs : liveOf (L.take m) = k) : m5 = m + 1 := by
  rcases h with ⟨h, -⟩ | ⟨q, j, e1, h1, rfl, h3, h4, h5⟩
  · omega
  · rw [live_same h3 he h4 hv (by omega)]
set_option maxRecDepth 100000 in
set_option maxHeartbeats 4000000 in
theorem mback_no (w : World) (A : Option Addr) (n c j : Nat) (ls : List El) (ej : El) (S S' : Nat → Prop) (hr : Row w S A n c ls) (hg : AllRight ((ls.take (min n 100)).take j)) (hj : (ls.take (min n 100))[j]? = some ej) (hw : wrongS (((ls.take (min n 100)).take j).map El.nm) ej ≠ 0) (hin : ∀ e ∈ ls, e.In) (hs : Sents w S' a) :
    Calls Tryd.prog 5 #[.slice A n c] w fun e w' => e = .returned (.bool true) ∧ Below w.heap.size w w' := by
  have HB := hid (begun5_no w A n c j ls ej S S' hr hg hj hw hin hs)
  have HK := hid wakes5_any
  clear hr hg hj hw hin hs
  go_enter Tryd.func5, Tryd.ntmps5
  repeat' (first | (go_at_call 16; go_must ((with_reducible refine Calls.mono HB.out ?_); rintro _ w1 ⟨rfl, hb1⟩; dsimp only)) | (go_at_call 17; go_must ((with_reducible refine Calls.mono (HK.out _) ?_); rintro _ w9 ⟨rfl, hb9⟩; dsimp only)) | (with_reducible refine Keep.last ?_) | (with_reducible refine Keep.below (by assumption) ?_) | (with_reducible refine Keep.kept (by assumption) ?_) | (with_reducible refine Keep.alloc ?_) | (with_reducible refine Keep.same ?_) | ((with_reducible refine WpH.here ?_); first | (refine WpH.nil ?_; refine NoP.normal ?_) | (refine WpH.load (by rfl) (by rfl) (by go_simp; rfl) ?_; simp only [Act.put, List.setIfInBounds_toArray, List.set_cons_zero, List.set_cons_succ]) | (refine WpH.loadT (by rfl) (by rfl) (by go_simp; rfl) (by rintro _ _ ⟨⟩; exact ⟨_, _, _, _, _, _, by rfl, by assumption, by assumption⟩) ?_; simp only [Act.put, List.setIfInBounds_toArray, List.set_cons_zero, List.set_cons_succ]) | (refine WpH.pure (by rfl) (fun w_ => by go_simp; (try go_bits); rfl) ?_; simp only [Act.put, List.setIfInBounds_toArray, List.set_cons_zero, List.set_cons_succ]) | (refine WpH.wild1 (by rfl) (fun _ _ => ?_)) | (refine WpH.skip (by rfl) ?_; simp only [Act.put, List.setIfInBounds_toArray, List.set_cons_zero, List.set_cons_succ])) | go_values | go_skip | go_guarded | go_step | go_upon | go_back)
  skip
  go_ret
  exact ⟨rfl, bvia hb1 hb9⟩
set_option maxRecDepth 100000 in
set_option maxHeartbeats 4000000 in
theorem mback_ok (w : World) (A : Option Addr) (n c : Nat) (ls : List El) (S S' : Nat → Prop) (hr : Row w S A n c ls) (hg : AllRight (ls.take (min n 100))) (hin : ∀ e ∈ ls, e.In) (hs : Sents w S' a) :
    Calls Tryd.prog 5 #[.slice A n c] w fun e w' => e = .returned (.bool true) ∧ Below w.heap.size w w' := by
  have HB := hid (begun5_ok w A n c ls S hr hg hin)
  have HK := hid wakes5_any
  have hL : (ls.take (min n 100)).length ≤ 100 := by rw [List.length_take]; omega
  generalize ls.take (min n 100) = L at *
  have Hs := hid hs
  clear hr hg hin hs
  go_enter Tryd.func5, Tryd.ntmps5
  repeat' (first | (go_at_call 16; go_must ((with_reducible refine Calls.mono HB.out ?_); rintro _ w1 ⟨⟨pb, mb, SM, rfl, hP⟩, hb1⟩; obtain ⟨p0, pl⟩ := hP.cell; have HV := hid (mlive_any w1 SM mb L _ hP.mdl); dsimp only)) | (go_at_call 19; go_must ((with_reducible refine Calls.mono HV.out ?_); rintro _ w2 ⟨rfl, hb2⟩; dsimp only)) | (with_reducible refine Keep.last ?_) | (with_reducible refine Keep.below (by assumption) ?_) | (with_reducible refine Keep.kept (by assumption) ?_) | (with_reducible refine Keep.alloc ?_) | (with_reducible refine Keep.same ?_) | ((with_reducible refine WpH.here ?_); first | (refine WpH.nil ?_; refine NoP.normal ?_) | (refine WpH.load (by rfl) (by rfl) (by go_simp; rfl) ?_; simp only [Act.put, List.setIfInBounds_toArray, List.set_cons_zero, List.set_cons_succ]) | (refine WpH.loadT (by rfl) (by rfl) (by go_simp; rfl) (by rintro _ _ ⟨⟩; exact ⟨_, _, _, _, _, _, by rfl, by assumption, by assumption⟩) ?_; simp only [Act.put, List.setIfInBounds_toArray, List.set_cons_zero, List.set_cons_succ]) | (refine WpH.pure (by rfl) (fun w_ => by go_simp; (try go_bits); rfl) ?_; simp only [Act.put, List.setIfInBounds_toArray, List.set_cons_zero, List.set_cons_succ]) | (refine WpH.wild1 (by rfl) (fun _ _ => ?_)) | (refine WpH.skip (by rfl) ?_; simp only [Act.put, List.setIfInBounds_toArray, List.set_cons_zero, List.set_cons_succ])) | go_values | go_skip | go_guarded | go_step | go_upon | go_back)
  have hll := liveOf_le L
  go_loopw [6] (fun i wr => ∃ k : Nat, i = .int .i64 k ∧ k ≤ liveOf L ∧ Below w1.heap.size w1 wr) (fun i _ => liveOf L - (intOf i).toNat)
  case atStart => exact ⟨0, rfl, Nat.zero_le _, hb2⟩
  case round =>
    obtain ⟨k, rfl, hk, hbr⟩ := hrel
    clear p0 pl hb2
    by_cases hlt : k < liveOf L
    · obtain ⟨p0, pl⟩ := (hP.step hbr).cell
      have HO := hid (mmodelof_ok wr SM mb L _ k (hP.step hbr).mdl (by omega) hlt)
      repeat' (first | (go_at_call 27; go_must ((with_reducible refine Calls.mono HO.out ?_); rintro _ w3 ⟨⟨m, e0, rfl, he0, hv0, hs0⟩, hb3⟩; have B3 := bvia hbr hb3; obtain ⟨p0, pl⟩ := (hP.step B3).cell; have HW := hid (mviewof_in w3 SM mb L _ m e0 (hP.step B3).mdl (by omega) he0); rw [hs0, hv0] at HW; have hm := (List.getElem?_eq_some_iff.1 he0).1; have H0 := hid (And.intro he0 (And.intro hv0 hs0)); clear he0 hv0 hs0; dsimp only)) | (go_at_call 28; go_must ((with_reducible refine Calls.mono HW.out ?_); rintro _ w4 ⟨rfl, hb4⟩; have B4 := bvia B3 hb4; obtain ⟨p0, pl⟩ := (hP.step B4).cell; have HPl := hid (mplace_ok w4 SM mb L _ (k + 1) (hP.step B4).mdl (by omega) hlt); rw [show ((k + 1 : Nat) : Int) = (k : Int) + 1 from rfl] at HPl; dsimp only)) | (go_at_call 29; go_must ((with_reducible refine Calls.mono HPl.out ?_); rintro _ w5 ⟨⟨m5, rfl, hm5⟩, hb5⟩; have hq : m5 = m + 1 := (place_same hm5 H0.out.1 H0.out.2.1 H0.out.2.2); subst hq; clear hm5; dsimp only)) | (with_reducible refine Keep.last ?_) | (with_reducible refine Keep.below (by assumption) ?_) | (with_reducible refine Keep.kept (by assumption) ?_) | (with_reducible refine Keep.alloc ?_) | (with_reducible refine Keep.same ?_) | ((with_reducible refine WpH.here ?_); first | (refine WpH.nil ?_; refine NoP.normal ?_) | (refine WpH.load (by rfl) (by rfl) (by go_simp; rfl) ?_; simp only [Act.put, List.setIfInBounds_toArray, List.set_cons_zero, List.set_cons_succ]) | (refine WpH.loadT (by rfl) (by rfl) (by go_simp; rfl) (by rintro _ _ ⟨⟩; exact ⟨_, _, _, _, _, _, by rfl, by assumption, by assumption⟩) ?_; simp only [Act.put, List.setIfInBounds_toArray, List.set_cons_zero, List.set_cons_succ]) | (refine WpH.pure (by rfl) (fun w_ => by go_simp; (try go_bits); rfl) ?_; simp only [Act.put, List.setIfInBounds_toArray, List.set_cons_zero, List.set_cons_succ]) | (refine WpH.wild1 (by rfl) (fun _ _ => ?_)) | (refine WpH.skip (by rfl) ?_; simp only [Act.put, List.setIfInBounds_toArray, List.set_cons_zero, List.set_cons_succ])) | go_values | go_skip | go_guarded | go_step | go_upon | go_back)
      skip
      go_roundw
      case rel => exact ⟨k + 1, by go_num, by omega, bvia B4 hb5⟩
      case measure => simp [intOf]; omega
    · obtain rfl : k = liveOf L := by omega
      repeat' (first | (with_reducible refine Keep.last ?_) | (with_reducible refine Keep.below (by assumption) ?_) | (with_reducible refine Keep.kept (by assumption) ?_) | (with_reducible refine Keep.alloc ?_) | (with_reducible refine Keep.same ?_) | ((with_reducible refine WpH.here ?_); first | (refine WpH.nil ?_; refine NoP.normal ?_) | (refine WpH.load (by rfl) (by rfl) (by go_simp; rfl) ?_; simp only [Act.put, List.setIfInBounds_toArray, List.set_cons_zero, List.set_cons_succ]) | (refine WpH.loadT (by rfl) (by rfl) (by go_simp; rfl) (by rintro _ _ ⟨⟩; exact ⟨_, _, _, _, _, _, by rfl, by assumption, by assumption⟩) ?_; simp only [Act.put, List.setIfInBounds_toArray, List.set_cons_zero, List.set_cons_succ]) | (refine WpH.pure (by rfl) (fun w_ => by go_simp; (try go_bits); rfl) ?_; simp only [Act.put, List.setIfInBounds_toArray, List.set_cons_zero, List.set_cons_succ]) | (refine WpH.wild1 (by rfl) (fun _ _ => ?_)) | (refine WpH.skip (by rfl) ?_; simp only [Act.put, List.setIfInBounds_toArray, List.set_cons_zero, List.set_cons_succ])) | go_values | go_skip | go_guarded | go_step | go_upon | go_back)
      go_loopw [14, 15] (fun s i wr => ∃ k : Nat, s = .int .i64 (liveOf (L.take k)) ∧ i = .int .i64 k ∧ k ≤ L.length + 1 ∧ Below w1.heap.size w1 wr) (fun _ i _ => L.length + 1 - (intOf i).toNat)
      case atStart => exact ⟨0, rfl, rfl, by omega, hbr⟩
      case round =>
        clear hbr hlt hk
        obtain ⟨k, rfl, rfl, hk, hbr⟩ := hrel
        obtain ⟨p0, pl⟩ := (hP.step hbr).cell
        have HN := hid (fun W (hb : Below w1.heap.size w1 W) => mlen_any W SM mb L _ (hP.step hb).mdl)
        by_cases hk1 : k < L.length
        · have he0 : L[k]? = some L[k] := List.getElem?_eq_getElem hk1
          generalize L[k] = e0 at he0
          have hsn := liveOf_snoc he0
          have HW := hid (fun W (hb : Below w1.heap.size w1 W) => mviewof_in W SM mb L _ k e0 (hP.step hb).mdl (by omega) he0)
          have hkl : (k : Int) ≤ L.length := by omega
          have hkn : ¬ (k : Int) = L.length := by omega
          have hlk := liveOf_le (L.take k)
          rw [List.length_take] at hlk
          have hlb : (liveOf (L.take k) : Int) ≤ 100 := by omega
          clear hlk
          have Hsn := hid hsn
          clear hsn he0
          rcases live_cases e0 with hv | hv
          · have dv : decide (e0.live = 1) = true := by simp [hv]
            rw [hv] at Hsn
            rw [dv] at HW
            clear hv dv
            repeat' (first | (go_at_call 20; go_must ((with_reducible refine Calls.mono (HN.out _ (by (repeat' (first | (with_reducible exact Below.refl _ _) | (with_reducible assumption) | (with_reducible refine balloc ?_) | (with_reducible refine bdrew ?_) | (with_reducible refine bset ?_ (by (try dsimp only); omega)) | (with_reducible refine bvia ?_ (by assumption)))))) ?_); rintro _ _ ⟨rfl, rfl⟩; dsimp only)) | (go_at_call 28; go_must ((with_reducible refine Calls.mono (HW.out _ hbr) ?_); rintro _ w4 ⟨rfl, hb4⟩; obtain ⟨p0, pl⟩ := (hP.step (bvia hbr hb4)).cell; have B4 := bvia hbr hb4; dsimp only)) | (with_reducible refine Keep.last ?_) | (with_reducible refine Keep.below (by assumption) ?_) | (with_reducible refine Keep.kept (by assumption) ?_) | (with_reducible refine Keep.alloc ?_) | (with_reducible refine Keep.same ?_) | ((with_reducible refine WpH.here ?_); first | (refine WpH.nil ?_; refine NoP.normal ?_) | (refine WpH.load (by rfl) (by rfl) (by go_simp; rfl) ?_; simp only [Act.put, List.setIfInBounds_toArray, List.set_cons_zero, List.set_cons_succ]) | (refine WpH.loadT (by rfl) (by rfl) (by go_simp; rfl) (by rintro _ _ ⟨⟩; exact ⟨_, _, _, _, _, _, by rfl, by assumption, by assumption⟩) ?_; simp only [Act.put, List.setIfInBounds_toArray, List.set_cons_zero, List.set_cons_succ]) | (refine WpH.pure (by rfl) (fun w_ => by go_simp; (try go_bits); rfl) ?_; simp only [Act.put, List.setIfInBounds_toArray, List.set_cons_zero, List.set_cons_succ]) | (refine WpH.wild1 (by rfl) (fun _ _ => ?_)) | (refine WpH.skip (by rfl) ?_; simp only [Act.put, List.setIfInBounds_toArray, List.set_cons_zero, List.set_cons_succ])) | go_values | go_skip | go_guarded | go_step | go_upon | go_back)
            skip
            go_roundw
            case rel => exact ⟨k + 1, by rw [Hsn.out]; go_num, by go_num, by omega, bvia hbr hb4⟩
            case measure => simp [intOf]; omega
          · have dv : decide (e0.live = 1) = false := by simp [hv]
            rw [hv] at Hsn
            rw [dv] at HW
            clear hv dv
            repeat' (first | (go_at_call 20; go_must ((with_reducible refine Calls.mono (HN.out _ (by (repeat' (first | (with_reducible exact Below.refl _ _) | (with_reducible assumption) | (with_reducible refine balloc ?_) | (with_reducible refine bdrew ?_) | (with_reducible refine bset ?_ (by (try dsimp only); omega)) | (with_reducible refine bvia ?_ (by assumption)))))) ?_); rintro _ _ ⟨rfl, rfl⟩; dsimp only)) | (go_at_call 28; go_must ((with_reducible refine Calls.mono (HW.out _ hbr) ?_); rintro _ w4 ⟨rfl, hb4⟩; obtain ⟨p0, pl⟩ := (hP.step (bvia hbr hb4)).cell; have B4 := bvia hbr hb4; dsimp only)) | (with_reducible refine Keep.last ?_) | (with_reducible refine Keep.below (by assumption) ?_) | (with_reducible refine Keep.kept (by assumption) ?_) | (with_reducible refine Keep.alloc ?_) | (with_reducible refine Keep.same ?_) | ((with_reducible refine WpH.here ?_); first | (refine WpH.nil ?_; refine NoP.normal ?_) | (refine WpH.load (by rfl) (by rfl) (by go_simp; rfl) ?_; simp only [Act.put, List.setIfInBounds_toArray, List.set_cons_zero, List.set_cons_succ]) | (refine WpH.loadT (by rfl) (by rfl) (by go_simp; rfl) (by rintro _ _ ⟨⟩; exact ⟨_, _, _, _, _, _, by rfl, by assumption, by assumption⟩) ?_; simp only [Act.put, List.setIfInBounds_toArray, List.set_cons_zero, List.set_cons_succ]) | (refine WpH.pure (by rfl) (fun w_ => by go_simp; (try go_bits); rfl) ?_; simp only [Act.put, List.setIfInBounds_toArray, List.set_cons_zero, List.set_cons_succ]) | (refine WpH.wild1 (by rfl) (fun _ _ => ?_)) | (refine WpH.skip (by rfl) ?_; simp only [Act.put, List.setIfInBounds_toArray, List.set_cons_zero, List.set_cons_succ])) | go_values | go_skip | go_guarded | go_step | go_upon | go_back)
            skip
            go_roundw
            case rel => exact ⟨k + 1, by rw [Hsn.out]; go_num, by go_num, by omega, bvia hbr hb4⟩
            case measure => simp [intOf]; omega
        · by_cases hk2 : k = L.length
          · subst hk2
            have HW := hid (fun W (hb : Below w1.heap.size w1 W) => mviewof_end W SM S' mb L _ (hP.step hb).mdl (by omega) ((Hs.out.step hb1).step hb))
            rw [List.take_length]
            repeat' (first | (go_at_call 20; go_must ((with_reducible refine Calls.mono (HN.out _ (by (repeat' (first | (with_reducible exact Below.refl _ _) | (with_reducible assumption) | (with_reducible refine balloc ?_) | (with_reducible refine bdrew ?_) | (with_reducible refine bset ?_ (by (try dsimp only); omega)) | (with_reducible refine bvia ?_ (by assumption)))))) ?_); rintro _ _ ⟨rfl, rfl⟩; dsimp only)) | (go_at_call 28; go_must ((with_reducible refine Calls.mono (HW.out _ hbr) ?_); rintro _ w4 ⟨rfl, hb4⟩; obtain ⟨p0, pl⟩ := (hP.step (bvia hbr hb4)).cell; have B4 := bvia hbr hb4; dsimp only)) | (with_reducible refine Keep.last ?_) | (with_reducible refine Keep.below (by assumption) ?_) | (with_reducible refine Keep.kept (by assumption) ?_) | (with_reducible refine Keep.alloc ?_) | (with_reducible refine Keep.same ?_) | ((with_reducible refine WpH.here ?_); first | (refine WpH.nil ?_; refine NoP.normal ?_) | (refine WpH.load (by rfl) (by rfl) (by go_simp; rfl) ?_; simp only [Act.put, List.setIfInBounds_toArray, List.set_cons_zero, List.set_cons_succ]) | (refine WpH.loadT (by rfl) (by rfl) (by go_simp; rfl) (by rintro _ _ ⟨⟩; exact ⟨_, _, _, _, _, _, by rfl, by assumption, by assumption⟩) ?_; simp only [Act.put, List.setIfInBounds_toArray, List.set_cons_zero, List.set_cons_succ]) | (refine WpH.pure (by rfl) (fun w_ => by go_simp; (try go_bits); rfl) ?_; simp only [Act.put, List.setIfInBounds_toArray, List.set_cons_zero, List.set_cons_succ]) | (refine WpH.wild1 (by rfl) (fun _ _ => ?_)) | (refine WpH.skip (by rfl) ?_; simp only [Act.put, List.setIfInBounds_toArray, List.set_cons_zero, List.set_cons_succ])) | go_values | go_skip | go_guarded | go_step | go_upon | go_back)
            skip
            go_roundw
            case rel => exact ⟨L.length + 1, by rw [show L.take (L.length + 1) = L from List.take_of_length_le (by omega)], by go_num, by omega, bvia hbr hb4⟩
            case measure => simp [intOf] <;> omega
          · obtain rfl : k = L.length + 1 := by omega
            have ht : L.take (L.length + 1) = L := List.take_of_length_le (by omega)
            rw [ht]
            have hkl : ¬ ((L.length : Int) + 1 ≤ L.length) := by omega
            have HPl := hid (fun W (hb : Below w1.heap.size w1 W) => mplace_ok W SM mb L _ 0 (hP.step hb).mdl (by omega) (Nat.zero_le _))
            rw [show ((0 : Nat) : Int) = 0 from rfl] at HPl
            repeat' (first | (go_at_call 20; go_must ((with_reducible refine Calls.mono (HN.out _ (by (repeat' (first | (with_reducible exact Below.refl _ _) | (with_reducible assumption) | (with_reducible refine balloc ?_) | (with_reducible refine bdrew ?_) | (with_reducible refine bset ?_ (by (try dsimp only); omega)) | (with_reducible refine bvia ?_ (by assumption)))))) ?_); rintro _ _ ⟨rfl, rfl⟩; dsimp only)) | (go_at_call 29; go_must ((with_reducible refine Calls.mono (HPl.out _ hbr) ?_); rintro _ w5 ⟨⟨m5, rfl, hm5⟩, hb5⟩; obtain rfl : m5 = 0 := (by rcases hm5 with ⟨-, h⟩ | ⟨q, j, e1, h1, -⟩ <;> first | exact h | omega); clear hm5; dsimp only)) | (go_at_call 17; go_must ((with_reducible refine Calls.mono (HK.out _) ?_); rintro _ w9 ⟨rfl, hb9⟩; dsimp only)) | (with_reducible refine Keep.last ?_) | (with_reducible refine Keep.below (by assumption) ?_) | (with_reducible refine Keep.kept (by assumption) ?_) | (with_reducible refine Keep.alloc ?_) | (with_reducible refine Keep.same ?_) | ((with_reducible refine WpH.here ?_); first | (refine WpH.nil ?_; refine NoP.normal ?_) | (refine WpH.load (by rfl) (by rfl) (by go_simp; rfl) ?_; simp only [Act.put, List.setIfInBounds_toArray, List.set_cons_zero, List.set_cons_succ]) | (refine WpH.loadT (by rfl) (by rfl) (by go_simp; rfl) (by rintro _ _ ⟨⟩; exact ⟨_, _, _, _, _, _, by rfl, by assumption, by assumption⟩) ?_; simp only [Act.put, List.setIfInBounds_toArray, List.set_cons_zero, List.set_cons_succ]) | (refine WpH.pure (by rfl) (fun w_ => by go_simp; (try go_bits); rfl) ?_; simp only [Act.put, List.setIfInBounds_toArray, List.set_cons_zero, List.set_cons_succ]) | (refine WpH.wild1 (by rfl) (fun _ _ => ?_)) | (refine WpH.skip (by rfl) ?_; simp only [Act.put, List.setIfInBounds_toArray, List.set_cons_zero, List.set_cons_succ])) | go_values | go_skip | go_guarded | go_step | go_upon | go_back)
            skip
            go_ret
            exact ⟨rfl, bvia hb1 (bvia (bvia hbr hb5) hb9)⟩
theorem mback_true (w : World) (A : Option Addr) (n c : Nat) (ls : List El) (S S' : Nat → Prop) (hr : Row w S A n c ls) (hin : ∀ e ∈ ls, e.In) (hs : Sents w S' a) :
    Calls Tryd.prog 5 #[.slice A n c] w fun e w' => e = .returned (.bool true) ∧ Below w.heap.size w w' := by
  rcases allRight_or (ls.take (min n 100)) with hg | ⟨j, ej, hj, hg, hw⟩
  · exact mback_ok w A n c ls S S' hr hg hin hs
  · exact mback_no w A n c j ls ej S S' hr hg hj hw hin hs
end Go.Proofs.YtfihjajllfihjaaDoor
