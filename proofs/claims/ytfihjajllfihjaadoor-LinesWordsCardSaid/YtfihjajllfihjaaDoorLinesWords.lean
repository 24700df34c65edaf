/- barrowlaw06.LinesWords: the walk: it returns true. Conditions: the rows and the reasons lie in memory, characters and numbers fit their kinds. -/
import Derived.Test.YtfihjajllfihjaaDoorWakes6
import Derived.Test.YtfihjajllfihjaaDoorWord
import Derived.Test.YtfihjajllfihjaaDoorNo6
namespace Go.Proofs.YtfihjajllfihjaaDoor
set_option linter.unusedSimpArgs false
set_option linter.unusedVariables false
open Go Go.RowKit
variable {a : Nat → Addr}
set_option maxRecDepth 100000 in
set_option maxHeartbeats 8000000 in
theorem lwords_true (w : World) (A B0 C : Option Addr) (n c m0 d m r : Nat) (l : List Int) (hs_ : List Bool) (as_ : List Int) (S S2 S3 S' : Nat → Prop) (h : GRow w S A n c (l.map Rn.mk)) (h2 : GRow w S2 B0 m0 d hs_) (h3 : GRow w S3 C m r as_) (hin : ∀ e ∈ l, I32 e) (hs : Sents w S' a) :
    Calls Tryd.prog 13 #[.slice A n c, .slice B0 m0 d, .slice C m r] w fun e w' => e = .returned (.bool true) ∧ Below w.heap.size w w' := by
  have HB := hid (begun6_any w A B0 n c m0 d l hs_ S S2 h h2 hin)
  have Ha := hid h3
  have hnm := h3.len_le
  unfold maxLen at hnm
  have hs0 := hs.narrow
  have Hs := hid hs0
  clear h h2 h3 hs hs0 hin
  have HF := hid (fun W c i e v (he : IsErr W (fun _ => True) a [⟨({ data := #[108, 105, 110, 101, 115] } : ByteArray), c, atOf i⟩] 2 e) (hno : IsNo W (fun _ => True) [⟨({ data := #[108, 105, 110, 101, 115] } : ByteArray), c, atOf i⟩] 2 v) (hs : Sents W (fun _ => True) a) => refused_any (a := a) _ 2 e v _ _ W he hno hs (by simp))
  go_enter Tryd.func13, Tryd.ntmps13
  repeat' (first | (go_at_call 50; go_must ((with_reducible refine Calls.mono HB.out ?_); rintro _ w1 ⟨⟨mb, A1, c1, X, n1, -, rfl, hM, hgr, hn1, hXl⟩, hb1⟩; dsimp only)) | (with_reducible refine stop_region 4 ?_) | (with_reducible refine Keep.last ?_) | (with_reducible refine Keep.below (by assumption) ?_) | (with_reducible refine Keep.kept (by assumption) ?_) | (with_reducible refine Keep.alloc ?_) | (with_reducible refine Keep.same ?_) | ((with_reducible refine WpH.here ?_); first | (refine WpH.nil ?_; refine NoP.normal ?_) | (refine WpH.load (by rfl) (by rfl) (by go_simp; rfl) ?_; simp only [Act.put, List.setIfInBounds_toArray, List.set_cons_zero, List.set_cons_succ]) | (refine WpH.loadT (by rfl) (by rfl) (by go_simp; rfl) (by rintro _ _ ⟨⟩; exact ⟨_, _, _, _, _, _, by rfl, by assumption, by assumption⟩) ?_; simp only [Act.put, List.setIfInBounds_toArray, List.set_cons_zero, List.set_cons_succ]) | (refine WpH.pure (by rfl) (fun w_ => by go_simp; (try go_bits); rfl) ?_; simp only [Act.put, List.setIfInBounds_toArray, List.set_cons_zero, List.set_cons_succ]) | (refine WpH.wild1 (by rfl) (fun _ _ => ?_)) | (refine WpH.skip (by rfl) ?_; simp only [Act.put, List.setIfInBounds_toArray, List.set_cons_zero, List.set_cons_succ])) | go_values | go_skip | go_guarded | go_step | go_upon | go_back)
  refine Stop.go ?_
  have hlv := liveOf_le X
  have HM := hid hM
  have HRA := hid (fun W p (hb : Below w1.heap.size w1 W) (hp : p ≤ liveOf X) => refAround_any W A1 (liveOf X) c1 p (seenOf X) _ (hgr.step hb) (by omega) hp)
  obtain ⟨lv, hlve⟩ : ∃ lv, liveOf X = lv := ⟨_, rfl⟩
  have Hlv := hid hlve
  rw [hlve] at HRA ⊢
  have hlvb : lv ≤ 150 := by omega
  have Ha1 := hid (Ha.out.step hb1)
  clear hM hgr HB Ha hn1 hlve hlv
  repeat' (first | (with_reducible refine Keep.last ?_) | (with_reducible refine Keep.below (by assumption) ?_) | (with_reducible refine Keep.kept (by assumption) ?_) | (with_reducible refine Keep.alloc ?_) | (with_reducible refine Keep.same ?_) | ((with_reducible refine WpH.here ?_); first | (refine WpH.nil ?_; refine NoP.normal ?_) | (refine WpH.load (by rfl) (by rfl) (by go_simp; rfl) ?_; simp only [Act.put, List.setIfInBounds_toArray, List.set_cons_zero, List.set_cons_succ]) | (refine WpH.loadT (by rfl) (by rfl) (by go_simp; rfl) (by rintro _ _ ⟨⟩; exact ⟨_, _, _, _, _, _, by rfl, by assumption, by assumption⟩) ?_; simp only [Act.put, List.setIfInBounds_toArray, List.set_cons_zero, List.set_cons_succ]) | (refine WpH.pure (by rfl) (fun w_ => by go_simp; (try go_bits); rfl) ?_; simp only [Act.put, List.setIfInBounds_toArray, List.set_cons_zero, List.set_cons_succ]) | (refine WpH.wild1 (by rfl) (fun _ _ => ?_)) | (refine WpH.skip (by rfl) ?_; simp only [Act.put, List.setIfInBounds_toArray, List.set_cons_zero, List.set_cons_succ])) | go_values | go_skip | go_guarded | go_step | go_upon | go_back)
  go_loopw [9] (fun i wr => ∃ k : Nat, i = .int .i64 k ∧ k ≤ m ∧ k ≤ 100 ∧ Below w1.heap.size w1 wr) (fun i _ => m - (intOf i).toNat)
  case atStart => exact ⟨0, rfl, Nat.zero_le _, Nat.zero_le _, Below.refl _ _⟩
  case round =>
    obtain ⟨k, rfl, hk, hk1, hbr⟩ := hrel
    by_cases hlt : k < m ∧ k < 100
    · obtain ⟨hlt1, hlt2⟩ := hlt
      obtain ⟨b, off, p, rfl, hSb, hbl, he, hcell⟩ := (Ha1.out.step hbr).at_ hlt1
      have c0 : wr.cell? ⟨b, off + k * 1, none⟩ = some (.int .i64 p) := hcell 0 _ rfl
      rw [Nat.mul_one] at c0
      have hkm : (k : Int) < m := by omega
      have hk100 : (k : Int) < 100 := by omega
      have B := hbr
      clear hcell he hSb
      by_cases hcn : p < 0
      · have HWn := hid (laround_no (a := a) _ _ _ mb X _ p (HM.out.step B) (by omega) (.inl hcn) (Hs.out.step (hb1.trans (B.mono hb1.size))))
        as_aux_lemma =>
          repeat' (first | (go_at_call 60; go_must ((with_reducible refine Calls.mono HWn.out ?_); rintro _ w3 ⟨vp, rfl, hep, hb3⟩; have B := bvia B hb3; dsimp only)) | (go_at_call 57; go_must ((with_reducible refine Calls.mono (no6_any ({ data := #[65, 114, 111, 117, 110, 100] } : ByteArray) p (fun _ => True) _) ?_); rintro _ w8 ⟨v8, rfl, hno8, hb8⟩; have B := bvia B hb8; have HF8 := hid (HF.out w8 ({ data := #[65, 114, 111, 117, 110, 100] } : ByteArray) p _ v8 ((hep.step hb8).more (fun _ _ _ => trivial)) (hno8.re (Nat.le_refl _) (Same.refl _ _) (fun _ _ => trivial)) (Hs.out.step (hb1.trans (B.mono hb1.size))).wide); dsimp only)) | (go_at_call 42; go_must ((with_reducible refine Calls.mono HF8.out ?_); rintro _ w9 ⟨rfl, hb9⟩; have B := bvia B hb9; dsimp only)) | (with_reducible refine Keep.last ?_) | (with_reducible refine Keep.below (by assumption) ?_) | (with_reducible refine Keep.kept (by assumption) ?_) | (with_reducible refine Keep.alloc ?_) | (with_reducible refine Keep.same ?_) | ((with_reducible refine WpH.here ?_); first | (refine WpH.nil ?_; refine NoP.normal ?_) | (refine WpH.load (by rfl) (by rfl) (by go_simp; rfl) ?_; simp only [Act.put, List.setIfInBounds_toArray, List.set_cons_zero, List.set_cons_succ]) | (refine WpH.loadT (by rfl) (by rfl) (by go_simp; rfl) (by rintro _ _ ⟨⟩; exact ⟨_, _, _, _, _, _, by rfl, by assumption, by assumption⟩) ?_; simp only [Act.put, List.setIfInBounds_toArray, List.set_cons_zero, List.set_cons_succ]) | (refine WpH.pure (by rfl) (fun w_ => by go_simp; (try go_bits); rfl) ?_; simp only [Act.put, List.setIfInBounds_toArray, List.set_cons_zero, List.set_cons_succ]) | (refine WpH.wild1 (by rfl) (fun _ _ => ?_)) | (refine WpH.skip (by rfl) ?_; simp only [Act.put, List.setIfInBounds_toArray, List.set_cons_zero, List.set_cons_succ])) | go_values | go_skip | go_guarded | go_step | go_upon | go_back)
          skip
          go_roundw
          case rel => exact ⟨k + 1, by go_num, by omega, by omega, B⟩
          case measure => simp [intOf]; omega
      · by_cases hcg : p > (lv : Int)
        · have HWn := hid (laround_no (a := a) _ _ _ mb X _ p (HM.out.step B) (by omega) (.inr (by have := Hlv.out; omega)) (Hs.out.step (hb1.trans (B.mono hb1.size))))
          as_aux_lemma =>
            repeat' (first | (go_at_call 60; go_must ((with_reducible refine Calls.mono HWn.out ?_); rintro _ w3 ⟨vp, rfl, hep, hb3⟩; have B := bvia B hb3; dsimp only)) | (go_at_call 57; go_must ((with_reducible refine Calls.mono (no6_any ({ data := #[65, 114, 111, 117, 110, 100] } : ByteArray) p (fun _ => True) _) ?_); rintro _ w8 ⟨v8, rfl, hno8, hb8⟩; have B := bvia B hb8; have HF8 := hid (HF.out w8 ({ data := #[65, 114, 111, 117, 110, 100] } : ByteArray) p _ v8 ((hep.step hb8).more (fun _ _ _ => trivial)) (hno8.re (Nat.le_refl _) (Same.refl _ _) (fun _ _ => trivial)) (Hs.out.step (hb1.trans (B.mono hb1.size))).wide); dsimp only)) | (go_at_call 42; go_must ((with_reducible refine Calls.mono HF8.out ?_); rintro _ w9 ⟨rfl, hb9⟩; have B := bvia B hb9; dsimp only)) | (with_reducible refine Keep.last ?_) | (with_reducible refine Keep.below (by assumption) ?_) | (with_reducible refine Keep.kept (by assumption) ?_) | (with_reducible refine Keep.alloc ?_) | (with_reducible refine Keep.same ?_) | ((with_reducible refine WpH.here ?_); first | (refine WpH.nil ?_; refine NoP.normal ?_) | (refine WpH.load (by rfl) (by rfl) (by go_simp; rfl) ?_; simp only [Act.put, List.setIfInBounds_toArray, List.set_cons_zero, List.set_cons_succ]) | (refine WpH.loadT (by rfl) (by rfl) (by go_simp; rfl) (by rintro _ _ ⟨⟩; exact ⟨_, _, _, _, _, _, by rfl, by assumption, by assumption⟩) ?_; simp only [Act.put, List.setIfInBounds_toArray, List.set_cons_zero, List.set_cons_succ]) | (refine WpH.pure (by rfl) (fun w_ => by go_simp; (try go_bits); rfl) ?_; simp only [Act.put, List.setIfInBounds_toArray, List.set_cons_zero, List.set_cons_succ]) | (refine WpH.wild1 (by rfl) (fun _ _ => ?_)) | (refine WpH.skip (by rfl) ?_; simp only [Act.put, List.setIfInBounds_toArray, List.set_cons_zero, List.set_cons_succ])) | go_values | go_skip | go_guarded | go_step | go_upon | go_back)
            skip
            go_roundw
            case rel => exact ⟨k + 1, by go_num, by omega, by omega, B⟩
            case measure => simp [intOf]; omega
        · obtain ⟨q, rfl⟩ : ∃ q : Nat, p = q := ⟨p.toNat, by omega⟩
          have hql : q ≤ lv := by omega
          have HWo := hid (laround_ok _ _ mb X _ q (HM.out.step B) (by omega) (by have := Hlv.out; omega))
          have HRA2 := hid (fun W (hb : Below w1.heap.size w1 W) => HRA.out W q hb hql)
          generalize backW (seenOf X) q = x at *
          generalize fwdW (seenOf X) q = y at *
          repeat' (first | (go_at_call 60; go_must ((with_reducible refine Calls.mono HWo.out ?_); rintro _ w3 ⟨rfl, hb3⟩; have B := bvia B hb3; dsimp only)) | (go_at_call 61; go_must ((with_reducible refine Calls.mono (HRA2.out _ B) ?_); rintro _ w4 ⟨rfl, hb4⟩; have B := bvia B hb4; dsimp only)) | (go_at_call 57; go_must ((with_reducible refine Calls.mono (no6_none ({ data := #[65, 114, 111, 117, 110, 100] } : ByteArray) q _) ?_); rintro _ w8 ⟨rfl, hb8⟩; have B := bvia B hb8; dsimp only)) | (go_at_call 42; go_must ((with_reducible refine Calls.mono (refused_none _) ?_); rintro _ w9 ⟨rfl, hb9⟩; have B := bvia B hb9; dsimp only)) | (with_reducible refine Keep.last ?_) | (with_reducible refine Keep.below (by assumption) ?_) | (with_reducible refine Keep.kept (by assumption) ?_) | (with_reducible refine Keep.alloc ?_) | (with_reducible refine Keep.same ?_) | ((with_reducible refine WpH.here ?_); first | (refine WpH.nil ?_; refine NoP.normal ?_) | (refine WpH.load (by rfl) (by rfl) (by go_simp; rfl) ?_; simp only [Act.put, List.setIfInBounds_toArray, List.set_cons_zero, List.set_cons_succ]) | (refine WpH.loadT (by rfl) (by rfl) (by go_simp; rfl) (by rintro _ _ ⟨⟩; exact ⟨_, _, _, _, _, _, by rfl, by assumption, by assumption⟩) ?_; simp only [Act.put, List.setIfInBounds_toArray, List.set_cons_zero, List.set_cons_succ]) | (refine WpH.pure (by rfl) (fun w_ => by go_simp; (try go_bits); rfl) ?_; simp only [Act.put, List.setIfInBounds_toArray, List.set_cons_zero, List.set_cons_succ]) | (refine WpH.wild1 (by rfl) (fun _ _ => ?_)) | (refine WpH.skip (by rfl) ?_; simp only [Act.put, List.setIfInBounds_toArray, List.set_cons_zero, List.set_cons_succ])) | go_values | go_skip | go_guarded | go_step | go_upon | go_back)
          skip
          go_roundw
          case rel => exact ⟨k + 1, by go_num, by omega, by omega, B⟩
          case measure => simp [intOf]; omega
    · have HK := hid (wakes6_any wr _ (Hs.out.step (hb1.trans (hbr.mono hb1.size))))
      by_cases hkn : k < m
      · have hkm : (k : Int) < m := by omega
        have hk100 : ¬ (k : Int) < 100 := by omega
        clear hlt
        repeat' (first | (go_at_call 54; go_must ((with_reducible refine Calls.mono HK.out ?_); rintro _ w9 ⟨rfl, hb9⟩; dsimp only)) | (with_reducible refine Keep.last ?_) | (with_reducible refine Keep.below (by assumption) ?_) | (with_reducible refine Keep.kept (by assumption) ?_) | (with_reducible refine Keep.alloc ?_) | (with_reducible refine Keep.same ?_) | ((with_reducible refine WpH.here ?_); first | (refine WpH.nil ?_; refine NoP.normal ?_) | (refine WpH.load (by rfl) (by rfl) (by go_simp; rfl) ?_; simp only [Act.put, List.setIfInBounds_toArray, List.set_cons_zero, List.set_cons_succ]) | (refine WpH.loadT (by rfl) (by rfl) (by go_simp; rfl) (by rintro _ _ ⟨⟩; exact ⟨_, _, _, _, _, _, by rfl, by assumption, by assumption⟩) ?_; simp only [Act.put, List.setIfInBounds_toArray, List.set_cons_zero, List.set_cons_succ]) | (refine WpH.pure (by rfl) (fun w_ => by go_simp; (try go_bits); rfl) ?_; simp only [Act.put, List.setIfInBounds_toArray, List.set_cons_zero, List.set_cons_succ]) | (refine WpH.wild1 (by rfl) (fun _ _ => ?_)) | (refine WpH.skip (by rfl) ?_; simp only [Act.put, List.setIfInBounds_toArray, List.set_cons_zero, List.set_cons_succ])) | go_values | go_skip | go_guarded | go_step | go_upon | go_back)
        go_ret
        exact ⟨rfl, hb1.trans ((bvia hbr hb9).mono hb1.size)⟩
      · obtain rfl : k = m := by omega
        clear hlt
        repeat' (first | (go_at_call 54; go_must ((with_reducible refine Calls.mono HK.out ?_); rintro _ w9 ⟨rfl, hb9⟩; dsimp only)) | (with_reducible refine Keep.last ?_) | (with_reducible refine Keep.below (by assumption) ?_) | (with_reducible refine Keep.kept (by assumption) ?_) | (with_reducible refine Keep.alloc ?_) | (with_reducible refine Keep.same ?_) | ((with_reducible refine WpH.here ?_); first | (refine WpH.nil ?_; refine NoP.normal ?_) | (refine WpH.load (by rfl) (by rfl) (by go_simp; rfl) ?_; simp only [Act.put, List.setIfInBounds_toArray, List.set_cons_zero, List.set_cons_succ]) | (refine WpH.loadT (by rfl) (by rfl) (by go_simp; rfl) (by rintro _ _ ⟨⟩; exact ⟨_, _, _, _, _, _, by rfl, by assumption, by assumption⟩) ?_; simp only [Act.put, List.setIfInBounds_toArray, List.set_cons_zero, List.set_cons_succ]) | (refine WpH.pure (by rfl) (fun w_ => by go_simp; (try go_bits); rfl) ?_; simp only [Act.put, List.setIfInBounds_toArray, List.set_cons_zero, List.set_cons_succ]) | (refine WpH.wild1 (by rfl) (fun _ _ => ?_)) | (refine WpH.skip (by rfl) ?_; simp only [Act.put, List.setIfInBounds_toArray, List.set_cons_zero, List.set_cons_succ])) | go_values | go_skip | go_guarded | go_step | go_upon | go_back)
        go_ret
        exact ⟨rfl, hb1.trans ((bvia hbr hb9).mono hb1.size)⟩
end Go.Proofs.YtfihjajllfihjaaDoor
