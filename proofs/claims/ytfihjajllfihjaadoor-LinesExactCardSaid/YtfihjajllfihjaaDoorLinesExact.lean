/- barrowlaw06.LinesExact: the walk: it returns true. Conditions: the rows and the reasons lie in memory, characters and numbers fit their kinds. -/
import Derived.Test.YtfihjajllfihjaaDoorWakes6
import Derived.Test.YtfihjajllfihjaaDoorRows2
import Derived.Test.YtfihjajllfihjaaDoorNo6
import Derived.Test.YtfihjajllfihjaaDoorUtf8
namespace Go.Proofs.YtfihjajllfihjaaDoor
set_option linter.unusedSimpArgs false
set_option linter.unusedVariables false
open Go Go.RowKit
variable {a : Nat → Addr}
set_option maxRecDepth 100000 in
set_option maxHeartbeats 8000000 in
theorem line6_ok (w : World) (S S2 : Nat → Prop) (mb : Nat) (X : List El) (K k : Nat) (A : Option Addr) (c : Nat) (hM : Mdl w S mb X K) (hl : X.length ≤ 150) (hR : RRows w S2 A c (rowsOf X)) (hk : k < (rowsOf X).length) :
    Calls Tryd.prog 53 #[.pointer (some ⟨mb, 0, none⟩), .slice A (rowsOf X).length c, .int .i64 k] w fun e w' => e = .returned (.bool true) ∧ Below w.heap.size w w' := by
  have hx : (rowsOf X)[k]? = some (rowsOf X)[k] := List.getElem?_eq_getElem hk
  generalize (rowsOf X)[k] = x at hx
  obtain ⟨s, hs⟩ : ∃ s, startS (rowsOf X) k = s := ⟨_, rfl⟩
  have hend := (rowsOf_end hx).1
  have hlv := liveOf_le X
  have hrx : ∀ c ∈ x, rightC c = true := fun c hc => seen_right hM.allGood c (splitS_mem hx c hc)
  have D0 := (Below.refl w.heap.size w).drew
  obtain ⟨b2, off2, B2, d2, rfl, hbl2, a0, hrow2⟩ := (hR.step D0).at_ hx
  have HST := hid (refStart_any w.drew _ c k (rowsOf X) _ (hR.step D0) (by omega) (by omega))
  have HU := hid (fun W (hb : Below w.drew.heap.size w.drew W) => refUtf8_any W B2 x.length d2 x S2 (hrow2.step hb) (by omega) hrx)
  have H1 := hid (fun W (hb : Below w.heap.size w W) => lstart_ok W S mb X K k s 0 x (hM.step hb) (by omega) hx hs)
  have H2 := hid (fun W (hb : Below w.heap.size w W) => llength_ok W S mb X K k s 0 x (hM.step hb) (by omega) hx hs)
  have H3 := hid (fun W (hb : Below w.heap.size w W) => ltext_ok W S mb X K k s 0 x (hM.step hb) (by omega) hx hs)
  rw [hs] at HST hend
  rw [utf8S_bytesZ] at HU
  have hnlb : (rowsOf X).length ≤ 151 := by have h1 := rowsOf_length X; have h2 := linesOf_le X; omega
  have hkn : ¬ (k : Int) ≥ (rowsOf X).length := by omega
  have hkn2 : (k : Int) < (rowsOf X).length := by omega
  clear hx hs hM hR hrow2 hrx hk
  generalize utf8S x = y at *
  generalize x.length = xl at *
  generalize (rowsOf X).length = nl at *
  have hk0 : ¬ (k : Int) < 0 := by omega
  go_enter Tryd.func53, Tryd.ntmps53
  repeat' (first | ((with_reducible refine region_at 4 ?_); refine wp_region_order [(0, true, false), (1, true, false), (3, true, false), (4, true, false), (5, true, false), (6, true, false), (7, true, false), (8, true, false), (9, true, false), (10, true, false), (11, true, false), (2, false, false), (12, false, false), (13, true, false), (14, true, false), (15, true, false)] (by kernel_rfl) (by kernel_rfl) (by kernel_rfl) rfl rfl ?_) | (go_at_call 56; go_must ((with_reducible refine Calls.mono HST.out ?_); rintro _ w1 ⟨rfl, hb1⟩; dsimp only)) | (go_at_call 104; go_must ((with_reducible refine Calls.mono (HU.out _ hb1) ?_); rintro _ w2 ⟨rfl, hb2⟩; have B := undrew (bvia hb1 hb2); dsimp only)) | (go_at_call 105; go_must ((with_reducible refine Calls.mono (H1.out _ B) ?_); rintro _ w3 ⟨rfl, hb3⟩; have B := bvia B hb3; dsimp only)) | (go_at_call 106; go_must ((with_reducible refine Calls.mono (H2.out _ B) ?_); rintro _ w4 ⟨rfl, hb4⟩; have B := bvia B hb4; dsimp only)) | (go_at_call 107; go_must ((with_reducible refine Calls.mono (H3.out _ B) ?_); rintro _ w5 ⟨rfl, hb5⟩; have B := bvia B hb5; dsimp only)) | (go_at_call 57; go_must ((with_reducible refine Calls.mono (no6_none _ k _) ?_); rintro _ w8 ⟨rfl, hb8⟩; have B := bvia B hb8; dsimp only)) | (go_at_call 42; go_must ((with_reducible refine Calls.mono (refused_none _) ?_); rintro _ w9 ⟨rfl, hb9⟩; have B := bvia B hb9; dsimp only)) | (with_reducible refine Keep.last ?_) | (with_reducible refine Keep.below (by assumption) ?_) | (with_reducible refine Keep.kept (by assumption) ?_) | (with_reducible refine Keep.alloc ?_) | (with_reducible refine Keep.same ?_) | ((with_reducible refine WpH.here ?_); first | (refine WpH.nil ?_; refine NoP.normal ?_) | (refine WpH.load (by rfl) (by rfl) (by go_simp; rfl) ?_; simp only [Act.put, List.setIfInBounds_toArray, List.set_cons_zero, List.set_cons_succ]) | (refine WpH.loadT (by rfl) (by rfl) (by go_simp; rfl) (by rintro _ _ ⟨⟩; exact ⟨_, _, _, _, _, _, by rfl, by assumption, by assumption⟩) ?_; simp only [Act.put, List.setIfInBounds_toArray, List.set_cons_zero, List.set_cons_succ]) | (refine WpH.pure (by rfl) (fun w_ => by go_simp; (try go_bits); rfl) ?_; simp only [Act.put, List.setIfInBounds_toArray, List.set_cons_zero, List.set_cons_succ]) | (refine WpH.wild1 (by rfl) (fun _ _ => ?_)) | (refine WpH.skip (by rfl) ?_; simp only [Act.put, List.setIfInBounds_toArray, List.set_cons_zero, List.set_cons_succ])) | go_values | go_skip | go_guarded | go_step | go_upon | go_back)
  skip
  go_ret
  exact ⟨rfl, B⟩
set_option maxRecDepth 100000 in
set_option maxHeartbeats 8000000 in
theorem line6_no (w : World) (S S2 S' : Nat → Prop) (mb : Nat) (X : List El) (K : Nat) (i : Int) (A : Option Addr) (c : Nat) (hM : Mdl w S mb X K) (hl : X.length ≤ 150) (hi : i < 0 ∨ ((rowsOf X).length : Int) ≤ i) (hs : Sents w S' a) :
    Calls Tryd.prog 53 #[.pointer (some ⟨mb, 0, none⟩), .slice A (rowsOf X).length c, .int .i64 i] w fun e w' => e = .returned (.bool true) ∧ Below w.heap.size w w' := by
  have hs0 := hs.narrow
  have Hs := hid hs0
  have H1 := hid (lstart_no (a := a) w S (fun b => b < w.heap.size) mb X K i hM (by omega) hi hs0)
  have H2 := hid (fun W (hb : Below w.heap.size w W) => llength_no (a := a) W S (fun b => b < w.heap.size) mb X K i (hM.step hb) (by omega) hi (hs0.step hb))
  have H3 := hid (fun W (hb : Below w.heap.size w W) => ltext_no (a := a) W S (fun b => b < w.heap.size) mb X K i (hM.step hb) (by omega) hi (hs0.step hb))
  have HF := hid (fun W c i e v (he : IsErr W (fun _ => True) a [⟨({ data := #[108, 105, 110, 101, 115] } : ByteArray), c, atOf i⟩] 2 e) (hno : IsNo W (fun _ => True) [⟨({ data := #[108, 105, 110, 101, 115] } : ByteArray), c, atOf i⟩] 2 v) (hs : Sents W (fun _ => True) a) => refused_any (a := a) _ 2 e v _ _ W he hno hs (by simp))
  clear hM hs hs0
  generalize (rowsOf X).length = nl at *
  have key : i < 0 ∨ (¬ i < 0 ∧ i ≥ (nl : Int)) := by omega
  clear hi
  rcases key with h0 | ⟨h0, h1⟩
  all_goals
    as_aux_lemma =>
      go_enter Tryd.func53, Tryd.ntmps53
      repeat' (first | (go_at_call 105; go_must ((with_reducible refine Calls.mono H1.out ?_); rintro _ w3 ⟨v3, rfl, he3, hb3⟩; have B := hb3; have E3 := hid (fun W (hb : Below w.heap.size w W) (h3 : Below w3.heap.size w3 W) => he3.step h3); dsimp only)) | (go_at_call 106; go_must ((with_reducible refine Calls.mono (H2.out _ B) ?_); rintro _ w4 ⟨v4, rfl, he4, hb4⟩; have B := bvia B hb4; have he3 := he3.step hb4; dsimp only)) | (go_at_call 107; go_must ((with_reducible refine Calls.mono (H3.out _ B) ?_); rintro _ w5 ⟨v5, rfl, he5, hb5⟩; have B := bvia B hb5; have he3 := he3.step hb5; have he4 := he4.step hb5; dsimp only)) | (go_at_call 57; go_must (first | ((with_reducible refine Calls.mono (no6_any ({ data := #[83, 116, 97, 114, 116] } : ByteArray) i (fun _ => True) _) ?_); rintro _ w8 ⟨v8, rfl, hno8, hb8⟩; have B := bvia B hb8; have he4 := he4.step hb8; have he5 := he5.step hb8; have HF8 := hid (HF.out w8 ({ data := #[83, 116, 97, 114, 116] } : ByteArray) i _ v8 ((he3.step hb8).more (fun _ _ _ => trivial)) (hno8.re (Nat.le_refl _) (Same.refl _ _) (fun _ _ => trivial)) (Hs.out.step B).wide); dsimp only) | ((with_reducible refine Calls.mono (no6_any ({ data := #[76, 101, 110, 103, 116, 104] } : ByteArray) i (fun _ => True) _) ?_); rintro _ w8 ⟨v8, rfl, hno8, hb8⟩; have B := bvia B hb8; have he5 := he5.step hb8; have HF8 := hid (HF.out w8 ({ data := #[76, 101, 110, 103, 116, 104] } : ByteArray) i _ v8 ((he4.step hb8).more (fun _ _ _ => trivial)) (hno8.re (Nat.le_refl _) (Same.refl _ _) (fun _ _ => trivial)) (Hs.out.step B).wide); dsimp only) | ((with_reducible refine Calls.mono (no6_any ({ data := #[84, 101, 120, 116] } : ByteArray) i (fun _ => True) _) ?_); rintro _ w8 ⟨v8, rfl, hno8, hb8⟩; have B := bvia B hb8; have HF8 := hid (HF.out w8 ({ data := #[84, 101, 120, 116] } : ByteArray) i _ v8 ((he5.step hb8).more (fun _ _ _ => trivial)) (hno8.re (Nat.le_refl _) (Same.refl _ _) (fun _ _ => trivial)) (Hs.out.step B).wide); dsimp only))) | (go_at_call 42; go_must ((with_reducible refine Calls.mono HF8.out ?_); rintro _ w9 ⟨rfl, hb9⟩; have B := bvia B hb9; (try have he4 := he4.step hb9); (try have he5 := he5.step hb9); dsimp only)) | (with_reducible refine Keep.last ?_) | (with_reducible refine Keep.below (by assumption) ?_) | (with_reducible refine Keep.kept (by assumption) ?_) | (with_reducible refine Keep.alloc ?_) | (with_reducible refine Keep.same ?_) | ((with_reducible refine WpH.here ?_); first | (refine WpH.nil ?_; refine NoP.normal ?_) | (refine WpH.load (by rfl) (by rfl) (by go_simp; rfl) ?_; simp only [Act.put, List.setIfInBounds_toArray, List.set_cons_zero, List.set_cons_succ]) | (refine WpH.loadT (by rfl) (by rfl) (by go_simp; rfl) (by rintro _ _ ⟨⟩; exact ⟨_, _, _, _, _, _, by rfl, by assumption, by assumption⟩) ?_; simp only [Act.put, List.setIfInBounds_toArray, List.set_cons_zero, List.set_cons_succ]) | (refine WpH.pure (by rfl) (fun w_ => by go_simp; (try go_bits); rfl) ?_; simp only [Act.put, List.setIfInBounds_toArray, List.set_cons_zero, List.set_cons_succ]) | (refine WpH.wild1 (by rfl) (fun _ _ => ?_)) | (refine WpH.skip (by rfl) ?_; simp only [Act.put, List.setIfInBounds_toArray, List.set_cons_zero, List.set_cons_succ])) | go_values | go_skip | go_guarded | go_step | go_upon | go_back)
      skip
      go_ret
      exact ⟨rfl, B⟩
set_option maxRecDepth 100000 in
set_option maxHeartbeats 8000000 in
theorem lexact_true (w : World) (A B0 C : Option Addr) (n c m0 d m r : Nat) (l : List Int) (hs_ : List Bool) (as_ : List Int) (S S2 S3 S' : Nat → Prop) (h : GRow w S A n c (l.map Rn.mk)) (h2 : GRow w S2 B0 m0 d hs_) (h3 : GRow w S3 C m r as_) (hin : ∀ e ∈ l, I32 e) (hs : Sents w S' a) :
    Calls Tryd.prog 11 #[.slice A n c, .slice B0 m0 d, .slice C m r] w fun e w' => e = .returned (.bool true) ∧ Below w.heap.size w w' := by
  have HB := hid (begun6_any w A B0 n c m0 d l hs_ S S2 h h2 hin)
  have Ha := hid h3
  have hnm := h3.len_le
  unfold maxLen at hnm
  have hs0 := hs.narrow
  have Hs := hid hs0
  clear h h2 h3 hs hs0 hin
  go_enter Tryd.func11, Tryd.ntmps11
  repeat' (first | (go_at_call 50; go_must ((with_reducible refine Calls.mono HB.out ?_); rintro _ w0 ⟨⟨mb, A1, c1, X, n1, -, rfl, hM, hgr, hn1, hXl⟩, hb1⟩; have hlv := liveOf_le X; have HSP := hid (refSplit_any w0 A1 (liveOf X) c1 (seenOf X) _ hgr (by omega)); dsimp only)) | (go_at_call 51; go_must ((with_reducible refine Calls.mono HSP.out ?_); rintro _ w1 ⟨⟨AA, cA, rfl, hR⟩, hb2⟩; have HC := hid (lcount_any w1 _ mb X _ _ (hM.step hb2) (by omega) rfl); dsimp only)) | (with_reducible refine stop_region 5 ?_) | (with_reducible refine Keep.last ?_) | (with_reducible refine Keep.below (by assumption) ?_) | (with_reducible refine Keep.kept (by assumption) ?_) | (with_reducible refine Keep.alloc ?_) | (with_reducible refine Keep.same ?_) | ((with_reducible refine WpH.here ?_); first | (refine WpH.nil ?_; refine NoP.normal ?_) | (refine WpH.load (by rfl) (by rfl) (by go_simp; rfl) ?_; simp only [Act.put, List.setIfInBounds_toArray, List.set_cons_zero, List.set_cons_succ]) | (refine WpH.loadT (by rfl) (by rfl) (by go_simp; rfl) (by rintro _ _ ⟨⟩; exact ⟨_, _, _, _, _, _, by rfl, by assumption, by assumption⟩) ?_; simp only [Act.put, List.setIfInBounds_toArray, List.set_cons_zero, List.set_cons_succ]) | (refine WpH.pure (by rfl) (fun w_ => by go_simp; (try go_bits); rfl) ?_; simp only [Act.put, List.setIfInBounds_toArray, List.set_cons_zero, List.set_cons_succ]) | (refine WpH.wild1 (by rfl) (fun _ _ => ?_)) | (refine WpH.skip (by rfl) ?_; simp only [Act.put, List.setIfInBounds_toArray, List.set_cons_zero, List.set_cons_succ])) | go_values | go_skip | go_guarded | go_step | go_upon | go_back)
  refine Stop.go ?_
  have hbw1 := bvia hb1 hb2
  have HLo := hid (fun W k (hb : Below w1.heap.size w1 W) (hk : k < (rowsOf X).length) => line6_ok W _ _ mb X _ k AA cA ((hM.step hb2).step hb) hXl (hR.step hb) hk)
  have HLn := hid (fun W i (hb : Below w1.heap.size w1 W) (hi : i < 0 ∨ ((rowsOf X).length : Int) ≤ i) => line6_no (a := a) W _ (fun _ => True) _ mb X _ i AA cA ((hM.step hb2).step hb) hXl hi (Hs.out.step (hbw1.trans (hb.mono hbw1.size))))
  have HK := hid (fun W (hb : Below w1.heap.size w1 W) => wakes6_any W _ (Hs.out.step (hbw1.trans (hb.mono hbw1.size))))
  have hnlb : (rowsOf X).length ≤ 151 := by have h1 := rowsOf_length X; have h2 := linesOf_le X; omega
  rw [show (splitS (seenOf X)).length = (rowsOf X).length from rfl]
  have Ha1 := hid (Ha.out.step hbw1)
  clear hR hM hgr hb1 hb2 HB HSP Ha hn1
  generalize (rowsOf X).length = nl at *
  repeat' (first | (go_at_call 52; go_must ((with_reducible refine Calls.mono HC.out ?_); rintro _ w2 ⟨rfl, hb2⟩; dsimp only)) | (with_reducible refine Keep.last ?_) | (with_reducible refine Keep.below (by assumption) ?_) | (with_reducible refine Keep.kept (by assumption) ?_) | (with_reducible refine Keep.alloc ?_) | (with_reducible refine Keep.same ?_) | ((with_reducible refine WpH.here ?_); first | (refine WpH.nil ?_; refine NoP.normal ?_) | (refine WpH.load (by rfl) (by rfl) (by go_simp; rfl) ?_; simp only [Act.put, List.setIfInBounds_toArray, List.set_cons_zero, List.set_cons_succ]) | (refine WpH.loadT (by rfl) (by rfl) (by go_simp; rfl) (by rintro _ _ ⟨⟩; exact ⟨_, _, _, _, _, _, by rfl, by assumption, by assumption⟩) ?_; simp only [Act.put, List.setIfInBounds_toArray, List.set_cons_zero, List.set_cons_succ]) | (refine WpH.pure (by rfl) (fun w_ => by go_simp; (try go_bits); rfl) ?_; simp only [Act.put, List.setIfInBounds_toArray, List.set_cons_zero, List.set_cons_succ]) | (refine WpH.wild1 (by rfl) (fun _ _ => ?_)) | (refine WpH.skip (by rfl) ?_; simp only [Act.put, List.setIfInBounds_toArray, List.set_cons_zero, List.set_cons_succ])) | go_values | go_skip | go_guarded | go_step | go_upon | go_back)
  skip
  go_loopw [10] (fun i wr => ∃ k : Nat, i = .int .i64 k ∧ k ≤ m ∧ k ≤ 60 ∧ Below w1.heap.size w1 wr) (fun i _ => m - (intOf i).toNat)
  case atStart => exact ⟨0, rfl, Nat.zero_le _, Nat.zero_le _, hb2⟩
  case round =>
    obtain ⟨k, rfl, hk, hk1, hbr⟩ := hrel
    by_cases hlt : k < m ∧ k < 60
    · obtain ⟨hlt1, hlt2⟩ := hlt
      obtain ⟨b, off, p, rfl, hSb, hbl, he, hcell⟩ := (Ha1.out.step hbr).at_ hlt1
      have c0 : wr.cell? ⟨b, off + k * 1, none⟩ = some (.int .i64 p) := hcell 0 _ rfl
      rw [Nat.mul_one] at c0
      have hkm : (k : Int) < m := by omega
      have hk60 : (k : Int) < 60 := by omega
      clear hcell he hSb
      by_cases hin : 0 ≤ p ∧ p < nl
      · obtain ⟨q, rfl⟩ : ∃ q : Nat, p = q := ⟨p.toNat, by omega⟩
        have HL := hid (HLo.out wr q hbr (by omega))
        clear hin
        repeat' (first | (go_at_call 53; go_must ((with_reducible refine Calls.mono HL.out ?_); rintro _ w3 ⟨rfl, hb3⟩; dsimp only)) | (with_reducible refine Keep.last ?_) | (with_reducible refine Keep.below (by assumption) ?_) | (with_reducible refine Keep.kept (by assumption) ?_) | (with_reducible refine Keep.alloc ?_) | (with_reducible refine Keep.same ?_) | ((with_reducible refine WpH.here ?_); first | (refine WpH.nil ?_; refine NoP.normal ?_) | (refine WpH.load (by rfl) (by rfl) (by go_simp; rfl) ?_; simp only [Act.put, List.setIfInBounds_toArray, List.set_cons_zero, List.set_cons_succ]) | (refine WpH.loadT (by rfl) (by rfl) (by go_simp; rfl) (by rintro _ _ ⟨⟩; exact ⟨_, _, _, _, _, _, by rfl, by assumption, by assumption⟩) ?_; simp only [Act.put, List.setIfInBounds_toArray, List.set_cons_zero, List.set_cons_succ]) | (refine WpH.pure (by rfl) (fun w_ => by go_simp; (try go_bits); rfl) ?_; simp only [Act.put, List.setIfInBounds_toArray, List.set_cons_zero, List.set_cons_succ]) | (refine WpH.wild1 (by rfl) (fun _ _ => ?_)) | (refine WpH.skip (by rfl) ?_; simp only [Act.put, List.setIfInBounds_toArray, List.set_cons_zero, List.set_cons_succ])) | go_values | go_skip | go_guarded | go_step | go_upon | go_back)
        go_roundw
        case rel => exact ⟨k + 1, by go_num, by omega, by omega, bvia hbr hb3⟩
        case measure => simp [intOf]; omega
      · have HL := hid (HLn.out wr p hbr (by omega))
        clear hin
        repeat' (first | (go_at_call 53; go_must ((with_reducible refine Calls.mono HL.out ?_); rintro _ w3 ⟨rfl, hb3⟩; dsimp only)) | (with_reducible refine Keep.last ?_) | (with_reducible refine Keep.below (by assumption) ?_) | (with_reducible refine Keep.kept (by assumption) ?_) | (with_reducible refine Keep.alloc ?_) | (with_reducible refine Keep.same ?_) | ((with_reducible refine WpH.here ?_); first | (refine WpH.nil ?_; refine NoP.normal ?_) | (refine WpH.load (by rfl) (by rfl) (by go_simp; rfl) ?_; simp only [Act.put, List.setIfInBounds_toArray, List.set_cons_zero, List.set_cons_succ]) | (refine WpH.loadT (by rfl) (by rfl) (by go_simp; rfl) (by rintro _ _ ⟨⟩; exact ⟨_, _, _, _, _, _, by rfl, by assumption, by assumption⟩) ?_; simp only [Act.put, List.setIfInBounds_toArray, List.set_cons_zero, List.set_cons_succ]) | (refine WpH.pure (by rfl) (fun w_ => by go_simp; (try go_bits); rfl) ?_; simp only [Act.put, List.setIfInBounds_toArray, List.set_cons_zero, List.set_cons_succ]) | (refine WpH.wild1 (by rfl) (fun _ _ => ?_)) | (refine WpH.skip (by rfl) ?_; simp only [Act.put, List.setIfInBounds_toArray, List.set_cons_zero, List.set_cons_succ])) | go_values | go_skip | go_guarded | go_step | go_upon | go_back)
        go_roundw
        case rel => exact ⟨k + 1, by go_num, by omega, by omega, bvia hbr hb3⟩
        case measure => simp [intOf]; omega
    · have key : (¬ (k : Int) < m) ∨ ((k : Int) < m ∧ ¬ (k : Int) < 60) := by omega
      have hbr0 := hbr
      generalize hwr : wr = w5 at *
      clear hlt
      rcases key with hkm | ⟨hkm, hk60⟩
      all_goals
        repeat' (first | (with_reducible refine Keep.last ?_) | (with_reducible refine Keep.below (by assumption) ?_) | (with_reducible refine Keep.kept (by assumption) ?_) | (with_reducible refine Keep.alloc ?_) | (with_reducible refine Keep.same ?_) | ((with_reducible refine WpH.here ?_); first | (refine WpH.nil ?_; refine NoP.normal ?_) | (refine WpH.load (by rfl) (by rfl) (by go_simp; rfl) ?_; simp only [Act.put, List.setIfInBounds_toArray, List.set_cons_zero, List.set_cons_succ]) | (refine WpH.loadT (by rfl) (by rfl) (by go_simp; rfl) (by rintro _ _ ⟨⟩; exact ⟨_, _, _, _, _, _, by rfl, by assumption, by assumption⟩) ?_; simp only [Act.put, List.setIfInBounds_toArray, List.set_cons_zero, List.set_cons_succ]) | (refine WpH.pure (by rfl) (fun w_ => by go_simp; (try go_bits); rfl) ?_; simp only [Act.put, List.setIfInBounds_toArray, List.set_cons_zero, List.set_cons_succ]) | (refine WpH.wild1 (by rfl) (fun _ _ => ?_)) | (refine WpH.skip (by rfl) ?_; simp only [Act.put, List.setIfInBounds_toArray, List.set_cons_zero, List.set_cons_succ])) | go_values | go_skip | go_guarded | go_step | go_upon | go_back)
        go_loopw [11] (fun i wr => ∃ j : Nat, i = .int .i64 j ∧ j ≤ nl ∧ Below w1.heap.size w1 wr) (fun i _ => nl - (intOf i).toNat)
        case atStart => exact ⟨0, rfl, Nat.zero_le _, hbr0⟩
        case round =>
          clear hbr0 hbr
          obtain ⟨j, rfl, hj, hbr⟩ := hrel
          by_cases hlt : j < nl
          · have hji : (j : Int) < nl := by omega
            have HL := hid (HLo.out wr j hbr hlt)
            repeat' (first | (go_at_call 53; go_must ((with_reducible refine Calls.mono HL.out ?_); rintro _ w3 ⟨rfl, hb3⟩; dsimp only)) | (with_reducible refine Keep.last ?_) | (with_reducible refine Keep.below (by assumption) ?_) | (with_reducible refine Keep.kept (by assumption) ?_) | (with_reducible refine Keep.alloc ?_) | (with_reducible refine Keep.same ?_) | ((with_reducible refine WpH.here ?_); first | (refine WpH.nil ?_; refine NoP.normal ?_) | (refine WpH.load (by rfl) (by rfl) (by go_simp; rfl) ?_; simp only [Act.put, List.setIfInBounds_toArray, List.set_cons_zero, List.set_cons_succ]) | (refine WpH.loadT (by rfl) (by rfl) (by go_simp; rfl) (by rintro _ _ ⟨⟩; exact ⟨_, _, _, _, _, _, by rfl, by assumption, by assumption⟩) ?_; simp only [Act.put, List.setIfInBounds_toArray, List.set_cons_zero, List.set_cons_succ]) | (refine WpH.pure (by rfl) (fun w_ => by go_simp; (try go_bits); rfl) ?_; simp only [Act.put, List.setIfInBounds_toArray, List.set_cons_zero, List.set_cons_succ]) | (refine WpH.wild1 (by rfl) (fun _ _ => ?_)) | (refine WpH.skip (by rfl) ?_; simp only [Act.put, List.setIfInBounds_toArray, List.set_cons_zero, List.set_cons_succ])) | go_values | go_skip | go_guarded | go_step | go_upon | go_back)
            go_roundw
            case rel => exact ⟨j + 1, by go_num, by omega, bvia hbr hb3⟩
            case measure => simp [intOf]; omega
          · obtain rfl : j = nl := by omega
            have B := hbr
            repeat' (first | (go_at_call 54; go_must ((with_reducible refine Calls.mono (HK.out _ B) ?_); rintro _ w9 ⟨rfl, hb9⟩; have B := bvia B hb9; dsimp only)) | (with_reducible refine Keep.last ?_) | (with_reducible refine Keep.below (by assumption) ?_) | (with_reducible refine Keep.kept (by assumption) ?_) | (with_reducible refine Keep.alloc ?_) | (with_reducible refine Keep.same ?_) | ((with_reducible refine WpH.here ?_); first | (refine WpH.nil ?_; refine NoP.normal ?_) | (refine WpH.load (by rfl) (by rfl) (by go_simp; rfl) ?_; simp only [Act.put, List.setIfInBounds_toArray, List.set_cons_zero, List.set_cons_succ]) | (refine WpH.loadT (by rfl) (by rfl) (by go_simp; rfl) (by rintro _ _ ⟨⟩; exact ⟨_, _, _, _, _, _, by rfl, by assumption, by assumption⟩) ?_; simp only [Act.put, List.setIfInBounds_toArray, List.set_cons_zero, List.set_cons_succ]) | (refine WpH.pure (by rfl) (fun w_ => by go_simp; (try go_bits); rfl) ?_; simp only [Act.put, List.setIfInBounds_toArray, List.set_cons_zero, List.set_cons_succ]) | (refine WpH.wild1 (by rfl) (fun _ _ => ?_)) | (refine WpH.skip (by rfl) ?_; simp only [Act.put, List.setIfInBounds_toArray, List.set_cons_zero, List.set_cons_succ])) | go_values | go_skip | go_guarded | go_step | go_upon | go_back)
            go_ret
            exact ⟨rfl, hbw1.trans (B.mono hbw1.size)⟩
end Go.Proofs.YtfihjajllfihjaaDoor
