/- Chapter 6's start: a model of some characters, some hidden. Conditions: the rows lie in memory, characters fit their kind. -/
import Derived.Test.YtfihjajllfihjaaGreatDoorRunes
import Derived.Test.YtfihjajllfihjaaGreatDoorRefRight
namespace Go.Proofs.YtfihjajllfihjaaGreatDoor
set_option linter.unusedSimpArgs false
set_option linter.unusedVariables false
open Go Go.RowKit
theorem Row.one_at (w : World) (cs : Array Value) (e : El) (h : cs.toList = cellsOf [e]) : Row (w.alloc (.cells cs 32)) (fun _ => True) (some ⟨w.heap.size, 0, none⟩) 1 1 [e] := Row.lit w cs [e] 1 _ trivial rfl (by decide) h
set_option maxRecDepth 100000 in
set_option maxHeartbeats 4000000 in
theorem begun6_any (w : World) (A B : Option Addr) (n c m d : Nat) (l : List Int) (hs : List Bool) (S S2 : Nat → Prop) (h : GRow w S A n c (l.map Rn.mk)) (h2 : GRow w S2 B m d hs) (hin : ∀ e ∈ l, I32 e) :
    Calls Tryz.prog 18 #[.slice A n c, .slice B m d] w fun e w' => (∃ mb A' c' X n1, X = els6 l hs (min n 150) ∧ e = .returned (.tuple #[.pointer (some ⟨mb, 0, none⟩), .slice A' (liveOf X) c']) ∧ Mdl w' (fun b => n1 ≤ b) mb X X.length ∧ GRow w' (fun b => w.heap.size ≤ b ∧ b < n1) A' (liveOf X) c' ((seenOf X).map Rn.mk) ∧ w.heap.size ≤ n1 ∧ X.length ≤ 150) ∧ Below w.heap.size w w' := by
  have Hr := hid h
  have Hr2 := hid h2
  have hnl : l.length = n := by have := h.1; rwa [List.length_map] at this
  have hml := h2.1
  have hnm := h.len_le
  have hmm := h2.len_le
  unfold maxLen at hnm hmm
  have Hin := hid hin
  clear h h2 hin
  go_enter Tryz.func18, Tryz.ntmps18
  repeat' (first | (with_reducible refine Keep.last ?_) | (with_reducible refine Keep.below (by assumption) ?_) | (with_reducible refine Keep.kept (by assumption) ?_) | (with_reducible refine Keep.alloc ?_) | (with_reducible refine Keep.same ?_) | ((with_reducible refine WpH.here ?_); first | (refine WpH.nil ?_; refine NoP.normal ?_) | (refine WpH.load (by rfl) (by rfl) (by go_simp; rfl) ?_; simp only [Act.put, List.setIfInBounds_toArray, List.set_cons_zero, List.set_cons_succ]) | (refine WpH.loadT (by rfl) (by rfl) (by go_simp; rfl) (by rintro _ _ ⟨⟩; exact ⟨_, _, _, _, _, _, by rfl, by assumption, by assumption⟩) ?_; simp only [Act.put, List.setIfInBounds_toArray, List.set_cons_zero, List.set_cons_succ]) | (refine WpH.pure (by rfl) (fun w_ => by go_simp; (try go_bits); rfl) ?_; simp only [Act.put, List.setIfInBounds_toArray, List.set_cons_zero, List.set_cons_succ]) | (refine WpH.wild1 (by rfl) (fun _ _ => ?_)) | (refine WpH.skip (by rfl) ?_; simp only [Act.put, List.setIfInBounds_toArray, List.set_cons_zero, List.set_cons_succ])) | go_values | go_skip | go_guarded | go_step | go_upon | go_back)
  go_loopw [6, 7, 8] (fun o s i wr => ∃ (k : Nat) (A1 A2 : Option Addr) (c1 c2 v : Nat) (X : List El) (sn : List Int), X = els6 l hs k ∧ sn = seenOf X ∧ v = sn.length ∧ i = .int .i64 k ∧ o = .slice A1 X.length c1 ∧ s = .slice A2 v c2 ∧ k ≤ n ∧ k ≤ 150 ∧ X.length ≤ k ∧ v ≤ k ∧ Own wr w.heap.size A1 X.length c1 X ∧ GOwn 21 wr w.heap.size A2 v c2 (sn.map Rn.mk) ∧ Below w.heap.size w wr) (fun _ _ i _ => n - (intOf i).toNat)
  case atStart => exact ⟨0, none, none, 0, 0, 0, [], [], rfl, rfl, rfl, rfl, rfl, rfl, Nat.zero_le _, Nat.zero_le _, Nat.le_refl _, Nat.le_refl _, Own.nil _ _, GOwn.nil _ _ _, Below.refl _ _⟩
  case round =>
    obtain ⟨k, A1, A2, c1, c2, v, X, sn, hXe, hsn, hv, rfl, rfl, rfl, hk, hk5, hXl, hvk, hown, hgo, hbr⟩ := hrel
    have HXe := hid hXe
    have Hsn := hid hsn
    have Hv := hid hv
    clear hXe hsn hv
    by_cases hlt : k < n ∧ k < 150
    · obtain ⟨hlt1, hlt2⟩ := hlt
      have hkn : (k : Int) < n := by omega
      have hk150 : (k : Int) < 150 := by omega
      obtain ⟨b, off, e, rfl, hS, hbl, he, hcell⟩ := (Hr.out.step hbr).at_ hlt1
      obtain ⟨ch, hch, rfl⟩ : ∃ ch, l[k]? = some ch ∧ Rn.mk ch = e := by simpa using he
      have c0 : wr.cell? ⟨b, off + k * 1, none⟩ = some (.int .i32 ch) := hcell 0 _ rfl
      rw [Nat.mul_one] at c0
      have hci := Hin.out ch (List.mem_of_getElem? hch)
      unfold I32 at hci
      have HR := hid (fun W => ref5Right_any ch W)
      have Hch := hid hch
      have hs0 := hid (And.intro hown hgo)
      clear hcell he hch hown hgo
      cases hrc : rightC ch
      · rw [hrc] at HR
        have Hrc := hid hrc
        clear hrc
        repeat' (first | (go_at_call 57; go_must ((with_reducible refine Calls.mono (HR.out _) ?_); rintro _ _ ⟨rfl, rfl⟩; dsimp only)) | (with_reducible refine Keep.last ?_) | (with_reducible refine Keep.below (by assumption) ?_) | (with_reducible refine Keep.kept (by assumption) ?_) | (with_reducible refine Keep.alloc ?_) | (with_reducible refine Keep.same ?_) | ((with_reducible refine WpH.here ?_); first | (refine WpH.nil ?_; refine NoP.normal ?_) | (refine WpH.load (by rfl) (by rfl) (by go_simp; rfl) ?_; simp only [Act.put, List.setIfInBounds_toArray, List.set_cons_zero, List.set_cons_succ]) | (refine WpH.loadT (by rfl) (by rfl) (by go_simp; rfl) (by rintro _ _ ⟨⟩; exact ⟨_, _, _, _, _, _, by rfl, by assumption, by assumption⟩) ?_; simp only [Act.put, List.setIfInBounds_toArray, List.set_cons_zero, List.set_cons_succ]) | (refine WpH.pure (by rfl) (fun w_ => by go_simp; (try go_bits); rfl) ?_; simp only [Act.put, List.setIfInBounds_toArray, List.set_cons_zero, List.set_cons_succ]) | (refine WpH.wild1 (by rfl) (fun _ _ => ?_)) | (refine WpH.skip (by rfl) ?_; simp only [Act.put, List.setIfInBounds_toArray, List.set_cons_zero, List.set_cons_succ])) | go_values | go_skip | go_guarded | go_step | go_upon | go_back)
        skip
        go_roundw
        case rel => exact ⟨k + 1, A1, A2, c1, c2, v, X, sn, by rw [HXe.out, els6_no Hch.out Hrc.out], Hsn.out, Hv.out, by go_num, rfl, rfl, by omega, by omega, by omega, by omega, hs0.out.1, hs0.out.2, hbr⟩
        case measure => simp [intOf]; omega
      · rw [hrc] at HR
        have Hrc := hid hrc
        clear hrc
        by_cases hh : hid6 hs k = true
        · have hkm : k < m := by
            unfold hid6 at hh
            cases hq : hs[k]? with
            | none => rw [hq] at hh; cases hh
            | some y => have := (List.getElem?_eq_some_iff.1 hq).1; omega
          obtain ⟨b2, off2, y, rfl, hS2, hbl2, hy, hcell2⟩ := (Hr2.out.step hbr).at_ hkm
          have d0 : wr.cell? ⟨b2, off2 + k * 1, none⟩ = some (.bool y) := hcell2 0 _ rfl
          rw [Nat.mul_one] at d0
          obtain rfl : y = true := by
            unfold hid6 at hh
            rw [hy] at hh
            exact hh
          have hkmi : (k : Int) < m := by omega
          have Hh := hid hh
          clear hh hcell2 hy
          have hz0 := hbr.size
          repeat' (first | (go_at_call 57; go_must ((with_reducible refine Calls.mono (HR.out _) ?_); rintro _ _ ⟨rfl, rfl⟩; dsimp only)) | (with_reducible refine stop_region 11 ?_) | (with_reducible refine Keep.last ?_) | (with_reducible refine Keep.below (by assumption) ?_) | (with_reducible refine Keep.kept (by assumption) ?_) | (with_reducible refine Keep.alloc ?_) | (with_reducible refine Keep.same ?_) | ((with_reducible refine WpH.here ?_); first | (refine WpH.nil ?_; refine NoP.normal ?_) | (refine WpH.load (by rfl) (by rfl) (by go_simp; rfl) ?_; simp only [Act.put, List.setIfInBounds_toArray, List.set_cons_zero, List.set_cons_succ]) | (refine WpH.loadT (by rfl) (by rfl) (by go_simp; rfl) (by rintro _ _ ⟨⟩; exact ⟨_, _, _, _, _, _, by rfl, by assumption, by assumption⟩) ?_; simp only [Act.put, List.setIfInBounds_toArray, List.set_cons_zero, List.set_cons_succ]) | (refine WpH.pure (by rfl) (fun w_ => by go_simp; (try go_bits); rfl) ?_; simp only [Act.put, List.setIfInBounds_toArray, List.set_cons_zero, List.set_cons_succ]) | (refine WpH.wild1 (by rfl) (fun _ _ => ?_)) | (refine WpH.skip (by rfl) ?_; simp only [Act.put, List.setIfInBounds_toArray, List.set_cons_zero, List.set_cons_succ])) | go_values | go_skip | go_guarded | go_step | go_upon | go_back)
          refine Stop.go ?_
          have eB := balloc (o := .cells #[.int .i64 0, .int .i64 0, .int .i64 ((k : Int) + 1), .int .i32 ch, .int .i64 1] 32) (Below.refl _ wr)
          have hX := Blk.new wr 32 #[.int .i64 0, .int .i64 0, .int .i64 ((k : Int) + 1), .int .i32 ch, .int .i64 1]
          have hB5 := bvia hbr eB
          have hown5 := hs0.out.1.step eB
          have hgo5 := hs0.out.2.step eB
          have hz5 := hB5.size
          generalize wr.alloc (.cells #[.int .i64 0, .int .i64 0, .int .i64 ((k : Int) + 1), .int .i32 ch, .int .i64 1] 32) = W5 at *
          have Hd : Hid (seenOf (X ++ [⟨0, 0, k + 1, ch, 1⟩]) = sn) := hid (by rw [seenOf_append, seenOf_one_not (show ¬ (1 : Int) ≤ 0 by decide), List.append_nil]; exact Hsn.out.symm)
          have HXn := hid (show X ++ [⟨0, 0, k + 1, ch, 1⟩] = els6 l hs (k + 1) by rw [els6_yes Hch.out Hrc.out, Hh.out, HXe.out]; rfl)
          obtain ⟨x0, x1, x2, x3, x4, xl⟩ := hX.five
          have hrow1 := Row.one W5 ⟨0, 0, k + 1, ch, 1⟩
          repeat' (first | ((with_reducible refine append_here ?_); go_must (have eE := balloc (o := .cells #[.int .i64 0, .int .i64 0, .int .i64 ((k : Int) + 1), .int .i32 ch, .int .i64 1] 32) (Below.refl _ W5); have hz6 := eE.size; refine wp_append_el w.heap.size A1 _ X.length c1 1 1 X [⟨0, 0, k + 1, ch, 1⟩] (fun _ => True) (by rfl) (by rfl) (hown5.step eE) hrow1 (by omega) (by omega) ?_; intro A4 c4 w4 hown4 hb4 hsm4 hat4 hz4; have hgo6 := (hgo5.step eE).apart_el (hown5.step eE) (by decide) hsm4; have hB6 := (bvia hB5 eE).trans hb4)) | (with_reducible refine Keep.last ?_) | (with_reducible refine Keep.below (by assumption) ?_) | (with_reducible refine Keep.kept (by assumption) ?_) | (with_reducible refine Keep.alloc ?_) | (with_reducible refine Keep.same ?_) | ((with_reducible refine WpH.here ?_); first | (refine WpH.nil ?_; refine NoP.normal ?_) | (refine WpH.load (by rfl) (by rfl) (by go_simp; rfl) ?_; simp only [Act.put, List.setIfInBounds_toArray, List.set_cons_zero, List.set_cons_succ]) | (refine WpH.loadT (by rfl) (by rfl) (by go_simp; rfl) (by rintro _ _ ⟨⟩; exact ⟨_, _, _, _, _, _, by rfl, by assumption, by assumption⟩) ?_; simp only [Act.put, List.setIfInBounds_toArray, List.set_cons_zero, List.set_cons_succ]) | (refine WpH.pure (by rfl) (fun w_ => by go_simp; (try go_bits); rfl) ?_; simp only [Act.put, List.setIfInBounds_toArray, List.set_cons_zero, List.set_cons_succ]) | (refine WpH.wild1 (by rfl) (fun _ _ => ?_)) | (refine WpH.skip (by rfl) ?_; simp only [Act.put, List.setIfInBounds_toArray, List.set_cons_zero, List.set_cons_succ])) | go_values | go_skip | go_guarded | go_step | go_upon | go_back)
          skip
          go_roundw
          case rel => exact ⟨k + 1, A4, A2, c4, c2, v, X ++ [⟨0, 0, k + 1, ch, 1⟩], sn, HXn.out, Hd.out.symm, Hv.out, by go_num, by rw [List.length_append]; rfl, by first | rfl | go_num, by omega, by omega, by rw [List.length_append]; show X.length + 1 ≤ k + 1; omega, by omega, by rw [List.length_append]; exact hown4, hgo6, hB6⟩
          case measure => simp [intOf]; omega
        · have hhf : hid6 hs k = false := by simpa using hh
          have Hh := hid hhf
          clear hh hhf
          by_cases hkm : k < m
          · obtain ⟨b2, off2, y, rfl, hS2, hbl2, hy, hcell2⟩ := (Hr2.out.step hbr).at_ hkm
            have d0 : wr.cell? ⟨b2, off2 + k * 1, none⟩ = some (.bool y) := hcell2 0 _ rfl
            rw [Nat.mul_one] at d0
            obtain rfl : y = false := by
              have := Hh.out
              unfold hid6 at this
              rw [hy] at this
              exact this
            have hkmi : (k : Int) < m := by omega
            clear hcell2 hy
            repeat' (first | (go_at_call 57; go_must ((with_reducible refine Calls.mono (HR.out _) ?_); rintro _ _ ⟨rfl, rfl⟩; dsimp only)) | (with_reducible refine stop_region 10 ?_) | (with_reducible refine Keep.last ?_) | (with_reducible refine Keep.below (by assumption) ?_) | (with_reducible refine Keep.kept (by assumption) ?_) | (with_reducible refine Keep.alloc ?_) | (with_reducible refine Keep.same ?_) | ((with_reducible refine WpH.here ?_); first | (refine WpH.nil ?_; refine NoP.normal ?_) | (refine WpH.load (by rfl) (by rfl) (by go_simp; rfl) ?_; simp only [Act.put, List.setIfInBounds_toArray, List.set_cons_zero, List.set_cons_succ]) | (refine WpH.loadT (by rfl) (by rfl) (by go_simp; rfl) (by rintro _ _ ⟨⟩; exact ⟨_, _, _, _, _, _, by rfl, by assumption, by assumption⟩) ?_; simp only [Act.put, List.setIfInBounds_toArray, List.set_cons_zero, List.set_cons_succ]) | (refine WpH.pure (by rfl) (fun w_ => by go_simp; (try go_bits); rfl) ?_; simp only [Act.put, List.setIfInBounds_toArray, List.set_cons_zero, List.set_cons_succ]) | (refine WpH.wild1 (by rfl) (fun _ _ => ?_)) | (refine WpH.skip (by rfl) ?_; simp only [Act.put, List.setIfInBounds_toArray, List.set_cons_zero, List.set_cons_succ])) | go_values | go_skip | go_guarded | go_step | go_upon | go_back)
            refine Stop.go ?_
            have eB := balloc (o := .cells #[.int .i64 0, .int .i64 0, .int .i64 ((k : Int) + 1), .int .i32 ch, .int .i64 0] 32) (Below.refl _ wr)
            have hX := Blk.new wr 32 #[.int .i64 0, .int .i64 0, .int .i64 ((k : Int) + 1), .int .i32 ch, .int .i64 0]
            have hB1 := bvia hbr eB
            have hown1 := hs0.out.1.step eB
            have hgo1 := hs0.out.2.step eB
            have c0 := kc eB c0
            have hbl1 := Nat.lt_of_lt_of_le hbl eB.size
            have hA2 : ∀ a, A2 = some a → a.block < wr.heap.size := fun a ha => (hs0.out.2.block a ha).2
            have hwz := hbr.size
            generalize wr.heap.size = xb at *
            generalize wr.alloc (.cells #[.int .i64 0, .int .i64 0, .int .i64 ((k : Int) + 1), .int .i32 ch, .int .i64 0] 32) = W1 at *
            have hz1 := hB1.size
            repeat' (first | ((with_reducible refine app_runes_here ?_); go_must (have eL := balloc (o := .cells #[.int .i32 ch] 21) (Below.refl _ W1); have hz2 := eL.size; refine wp_append_runes w.heap.size A2 _ v c2 1 1 (sn.map Rn.mk) [⟨ch⟩] (fun _ => True) (by rfl) (by rfl) (hgo1.step eL) (grow_rune W1 ch) (by omega) (by omega) ?_; intro A3 c3 w3 hgo5 hb3 hsm3 hat3 hz3; have hX := (hX.step eL).app hsm3 hA2; have hown5 := (hown1.step eL).apart_g (hgo1.step eL) (by decide) hsm3; have hB5 := (bvia hB1 eL).trans hb3)) | (with_reducible refine stop_region 11 ?_) | (with_reducible refine Keep.last ?_) | (with_reducible refine Keep.below (by assumption) ?_) | (with_reducible refine Keep.kept (by assumption) ?_) | (with_reducible refine Keep.alloc ?_) | (with_reducible refine Keep.same ?_) | ((with_reducible refine WpH.here ?_); first | (refine WpH.nil ?_; refine NoP.normal ?_) | (refine WpH.load (by rfl) (by rfl) (by go_simp; rfl) ?_; simp only [Act.put, List.setIfInBounds_toArray, List.set_cons_zero, List.set_cons_succ]) | (refine WpH.loadT (by rfl) (by rfl) (by go_simp; rfl) (by rintro _ _ ⟨⟩; exact ⟨_, _, _, _, _, _, by rfl, by assumption, by assumption⟩) ?_; simp only [Act.put, List.setIfInBounds_toArray, List.set_cons_zero, List.set_cons_succ]) | (refine WpH.pure (by rfl) (fun w_ => by go_simp; (try go_bits); rfl) ?_; simp only [Act.put, List.setIfInBounds_toArray, List.set_cons_zero, List.set_cons_succ]) | (refine WpH.wild1 (by rfl) (fun _ _ => ?_)) | (refine WpH.skip (by rfl) ?_; simp only [Act.put, List.setIfInBounds_toArray, List.set_cons_zero, List.set_cons_succ])) | go_values | go_skip | go_guarded | go_step | go_upon | go_back)
            skip
            refine Stop.go ?_
            have hz5 := hB5.size
            have Hd := hid (show seenOf (X ++ [⟨0, 0, k + 1, ch, 0⟩]) = sn ++ [ch] by rw [seenOf_append, seenOf_one_live (show (0 : Int) ≤ 0 by decide), ← Hsn.out])
            have HXn := hid (show X ++ [⟨0, 0, k + 1, ch, 0⟩] = els6 l hs (k + 1) by rw [els6_yes Hch.out Hrc.out, Hh.out, HXe.out]; rfl)
            have hgo5 : GOwn 21 w3 w.heap.size A3 (v + 1) c3 ((sn ++ [ch]).map Rn.mk) := by rw [List.map_append]; exact hgo5
            generalize w3 = W5 at *
            obtain ⟨x0, x1, x2, x3, x4, xl⟩ := hX.five
            have hrow1 := Row.one W5 ⟨0, 0, k + 1, ch, 0⟩
            repeat' (first | ((with_reducible refine append_here ?_); go_must (have eE := balloc (o := .cells #[.int .i64 0, .int .i64 0, .int .i64 ((k : Int) + 1), .int .i32 ch, .int .i64 0] 32) (Below.refl _ W5); have hz6 := eE.size; refine wp_append_el w.heap.size A1 _ X.length c1 1 1 X [⟨0, 0, k + 1, ch, 0⟩] (fun _ => True) (by rfl) (by rfl) (hown5.step eE) hrow1 (by omega) (by omega) ?_; intro A4 c4 w4 hown4 hb4 hsm4 hat4 hz4; have hgo6 := (hgo5.step eE).apart_el (hown5.step eE) (by decide) hsm4; have hB6 := (bvia hB5 eE).trans hb4)) | (with_reducible refine Keep.last ?_) | (with_reducible refine Keep.below (by assumption) ?_) | (with_reducible refine Keep.kept (by assumption) ?_) | (with_reducible refine Keep.alloc ?_) | (with_reducible refine Keep.same ?_) | ((with_reducible refine WpH.here ?_); first | (refine WpH.nil ?_; refine NoP.normal ?_) | (refine WpH.load (by rfl) (by rfl) (by go_simp; rfl) ?_; simp only [Act.put, List.setIfInBounds_toArray, List.set_cons_zero, List.set_cons_succ]) | (refine WpH.loadT (by rfl) (by rfl) (by go_simp; rfl) (by rintro _ _ ⟨⟩; exact ⟨_, _, _, _, _, _, by rfl, by assumption, by assumption⟩) ?_; simp only [Act.put, List.setIfInBounds_toArray, List.set_cons_zero, List.set_cons_succ]) | (refine WpH.pure (by rfl) (fun w_ => by go_simp; (try go_bits); rfl) ?_; simp only [Act.put, List.setIfInBounds_toArray, List.set_cons_zero, List.set_cons_succ]) | (refine WpH.wild1 (by rfl) (fun _ _ => ?_)) | (refine WpH.skip (by rfl) ?_; simp only [Act.put, List.setIfInBounds_toArray, List.set_cons_zero, List.set_cons_succ])) | go_values | go_skip | go_guarded | go_step | go_upon | go_back)
            skip
            go_roundw
            case rel => exact ⟨k + 1, A4, A3, c4, c3, (v + 1), X ++ [⟨0, 0, k + 1, ch, 0⟩], (sn ++ [ch]), HXn.out, Hd.out.symm, by rw [Hv.out]; simp, by go_num, by rw [List.length_append]; rfl, by first | rfl | go_num, by omega, by omega, by rw [List.length_append]; show X.length + 1 ≤ k + 1; omega, by omega, by rw [List.length_append]; exact hown4, hgo6, hB6⟩
            case measure => simp [intOf]; omega
          · have hkmi : ¬ (k : Int) < m := by omega
            repeat' (first | (go_at_call 57; go_must ((with_reducible refine Calls.mono (HR.out _) ?_); rintro _ _ ⟨rfl, rfl⟩; dsimp only)) | (with_reducible refine stop_region 10 ?_) | (with_reducible refine Keep.last ?_) | (with_reducible refine Keep.below (by assumption) ?_) | (with_reducible refine Keep.kept (by assumption) ?_) | (with_reducible refine Keep.alloc ?_) | (with_reducible refine Keep.same ?_) | ((with_reducible refine WpH.here ?_); first | (refine WpH.nil ?_; refine NoP.normal ?_) | (refine WpH.load (by rfl) (by rfl) (by go_simp; rfl) ?_; simp only [Act.put, List.setIfInBounds_toArray, List.set_cons_zero, List.set_cons_succ]) | (refine WpH.loadT (by rfl) (by rfl) (by go_simp; rfl) (by rintro _ _ ⟨⟩; exact ⟨_, _, _, _, _, _, by rfl, by assumption, by assumption⟩) ?_; simp only [Act.put, List.setIfInBounds_toArray, List.set_cons_zero, List.set_cons_succ]) | (refine WpH.pure (by rfl) (fun w_ => by go_simp; (try go_bits); rfl) ?_; simp only [Act.put, List.setIfInBounds_toArray, List.set_cons_zero, List.set_cons_succ]) | (refine WpH.wild1 (by rfl) (fun _ _ => ?_)) | (refine WpH.skip (by rfl) ?_; simp only [Act.put, List.setIfInBounds_toArray, List.set_cons_zero, List.set_cons_succ])) | go_values | go_skip | go_guarded | go_step | go_upon | go_back)
            refine Stop.go ?_
            have eB := balloc (o := .cells #[.int .i64 0, .int .i64 0, .int .i64 ((k : Int) + 1), .int .i32 ch, .int .i64 0] 32) (Below.refl _ wr)
            have hX := Blk.new wr 32 #[.int .i64 0, .int .i64 0, .int .i64 ((k : Int) + 1), .int .i32 ch, .int .i64 0]
            have hB1 := bvia hbr eB
            have hown1 := hs0.out.1.step eB
            have hgo1 := hs0.out.2.step eB
            have c0 := kc eB c0
            have hbl1 := Nat.lt_of_lt_of_le hbl eB.size
            have hA2 : ∀ a, A2 = some a → a.block < wr.heap.size := fun a ha => (hs0.out.2.block a ha).2
            have hwz := hbr.size
            generalize wr.heap.size = xb at *
            generalize wr.alloc (.cells #[.int .i64 0, .int .i64 0, .int .i64 ((k : Int) + 1), .int .i32 ch, .int .i64 0] 32) = W1 at *
            have hz1 := hB1.size
            repeat' (first | ((with_reducible refine app_runes_here ?_); go_must (have eL := balloc (o := .cells #[.int .i32 ch] 21) (Below.refl _ W1); have hz2 := eL.size; refine wp_append_runes w.heap.size A2 _ v c2 1 1 (sn.map Rn.mk) [⟨ch⟩] (fun _ => True) (by rfl) (by rfl) (hgo1.step eL) (grow_rune W1 ch) (by omega) (by omega) ?_; intro A3 c3 w3 hgo5 hb3 hsm3 hat3 hz3; have hX := (hX.step eL).app hsm3 hA2; have hown5 := (hown1.step eL).apart_g (hgo1.step eL) (by decide) hsm3; have hB5 := (bvia hB1 eL).trans hb3)) | (with_reducible refine stop_region 11 ?_) | (with_reducible refine Keep.last ?_) | (with_reducible refine Keep.below (by assumption) ?_) | (with_reducible refine Keep.kept (by assumption) ?_) | (with_reducible refine Keep.alloc ?_) | (with_reducible refine Keep.same ?_) | ((with_reducible refine WpH.here ?_); first | (refine WpH.nil ?_; refine NoP.normal ?_) | (refine WpH.load (by rfl) (by rfl) (by go_simp; rfl) ?_; simp only [Act.put, List.setIfInBounds_toArray, List.set_cons_zero, List.set_cons_succ]) | (refine WpH.loadT (by rfl) (by rfl) (by go_simp; rfl) (by rintro _ _ ⟨⟩; exact ⟨_, _, _, _, _, _, by rfl, by assumption, by assumption⟩) ?_; simp only [Act.put, List.setIfInBounds_toArray, List.set_cons_zero, List.set_cons_succ]) | (refine WpH.pure (by rfl) (fun w_ => by go_simp; (try go_bits); rfl) ?_; simp only [Act.put, List.setIfInBounds_toArray, List.set_cons_zero, List.set_cons_succ]) | (refine WpH.wild1 (by rfl) (fun _ _ => ?_)) | (refine WpH.skip (by rfl) ?_; simp only [Act.put, List.setIfInBounds_toArray, List.set_cons_zero, List.set_cons_succ])) | go_values | go_skip | go_guarded | go_step | go_upon | go_back)
            skip
            refine Stop.go ?_
            have hz5 := hB5.size
            have Hd := hid (show seenOf (X ++ [⟨0, 0, k + 1, ch, 0⟩]) = sn ++ [ch] by rw [seenOf_append, seenOf_one_live (show (0 : Int) ≤ 0 by decide), ← Hsn.out])
            have HXn := hid (show X ++ [⟨0, 0, k + 1, ch, 0⟩] = els6 l hs (k + 1) by rw [els6_yes Hch.out Hrc.out, Hh.out, HXe.out]; rfl)
            have hgo5 : GOwn 21 w3 w.heap.size A3 (v + 1) c3 ((sn ++ [ch]).map Rn.mk) := by rw [List.map_append]; exact hgo5
            generalize w3 = W5 at *
            obtain ⟨x0, x1, x2, x3, x4, xl⟩ := hX.five
            have hrow1 := Row.one W5 ⟨0, 0, k + 1, ch, 0⟩
            repeat' (first | ((with_reducible refine append_here ?_); go_must (have eE := balloc (o := .cells #[.int .i64 0, .int .i64 0, .int .i64 ((k : Int) + 1), .int .i32 ch, .int .i64 0] 32) (Below.refl _ W5); have hz6 := eE.size; refine wp_append_el w.heap.size A1 _ X.length c1 1 1 X [⟨0, 0, k + 1, ch, 0⟩] (fun _ => True) (by rfl) (by rfl) (hown5.step eE) hrow1 (by omega) (by omega) ?_; intro A4 c4 w4 hown4 hb4 hsm4 hat4 hz4; have hgo6 := (hgo5.step eE).apart_el (hown5.step eE) (by decide) hsm4; have hB6 := (bvia hB5 eE).trans hb4)) | (with_reducible refine Keep.last ?_) | (with_reducible refine Keep.below (by assumption) ?_) | (with_reducible refine Keep.kept (by assumption) ?_) | (with_reducible refine Keep.alloc ?_) | (with_reducible refine Keep.same ?_) | ((with_reducible refine WpH.here ?_); first | (refine WpH.nil ?_; refine NoP.normal ?_) | (refine WpH.load (by rfl) (by rfl) (by go_simp; rfl) ?_; simp only [Act.put, List.setIfInBounds_toArray, List.set_cons_zero, List.set_cons_succ]) | (refine WpH.loadT (by rfl) (by rfl) (by go_simp; rfl) (by rintro _ _ ⟨⟩; exact ⟨_, _, _, _, _, _, by rfl, by assumption, by assumption⟩) ?_; simp only [Act.put, List.setIfInBounds_toArray, List.set_cons_zero, List.set_cons_succ]) | (refine WpH.pure (by rfl) (fun w_ => by go_simp; (try go_bits); rfl) ?_; simp only [Act.put, List.setIfInBounds_toArray, List.set_cons_zero, List.set_cons_succ]) | (refine WpH.wild1 (by rfl) (fun _ _ => ?_)) | (refine WpH.skip (by rfl) ?_; simp only [Act.put, List.setIfInBounds_toArray, List.set_cons_zero, List.set_cons_succ])) | go_values | go_skip | go_guarded | go_step | go_upon | go_back)
            skip
            go_roundw
            case rel => exact ⟨k + 1, A4, A3, c4, c3, (v + 1), X ++ [⟨0, 0, k + 1, ch, 0⟩], (sn ++ [ch]), HXn.out, Hd.out.symm, by rw [Hv.out]; simp, by go_num, by rw [List.length_append]; rfl, by first | rfl | go_num, by omega, by omega, by rw [List.length_append]; show X.length + 1 ≤ k + 1; omega, by omega, by rw [List.length_append]; exact hown4, hgo6, hB6⟩
            case measure => simp [intOf]; omega
    · have hg := els6_good (l := l) (hs := hs) (k := k) (by omega)
      rw [← HXe.out] at hg
      have hrow := hown.row (S := fun b => w.heap.size ≤ b ∧ b < wr.heap.size) fun b h1 h2 => ⟨h1, h2⟩
      have hgr := hgo.row (S := fun b => w.heap.size ≤ b ∧ b < wr.heap.size) fun b h1 h2 => ⟨h1, h2⟩
      have HM := hid (mof_ok wr A1 X.length c1 X _ hrow (by omega) (fun e he => (hg.1 e he).1) hg.2.1)
      have hvl : v = liveOf X := by rw [Hv.out, Hsn.out, seenOf_length]
      have Hgr := hid hgr
      have HXe2 : Hid (X = els6 l hs (min n 150)) := hid (by rw [HXe.out, show k = min n 150 by omega])
      have Hhl := hid hvl
      clear hown hgo hrow hgr hg hvl
      by_cases hkn : k < n
      · have hkn' : (k : Int) < n := by omega
        have hk150 : ¬ (k : Int) < 150 := by omega
        clear hlt
        repeat' (first | (go_at_call 27; go_must ((with_reducible refine Calls.mono HM.out ?_); rintro _ w2 ⟨mb, rfl, hM, hb2⟩; dsimp only)) | (with_reducible refine Keep.last ?_) | (with_reducible refine Keep.below (by assumption) ?_) | (with_reducible refine Keep.kept (by assumption) ?_) | (with_reducible refine Keep.alloc ?_) | (with_reducible refine Keep.same ?_) | ((with_reducible refine WpH.here ?_); first | (refine WpH.nil ?_; refine NoP.normal ?_) | (refine WpH.load (by rfl) (by rfl) (by go_simp; rfl) ?_; simp only [Act.put, List.setIfInBounds_toArray, List.set_cons_zero, List.set_cons_succ]) | (refine WpH.loadT (by rfl) (by rfl) (by go_simp; rfl) (by rintro _ _ ⟨⟩; exact ⟨_, _, _, _, _, _, by rfl, by assumption, by assumption⟩) ?_; simp only [Act.put, List.setIfInBounds_toArray, List.set_cons_zero, List.set_cons_succ]) | (refine WpH.pure (by rfl) (fun w_ => by go_simp; (try go_bits); rfl) ?_; simp only [Act.put, List.setIfInBounds_toArray, List.set_cons_zero, List.set_cons_succ]) | (refine WpH.wild1 (by rfl) (fun _ _ => ?_)) | (refine WpH.skip (by rfl) ?_; simp only [Act.put, List.setIfInBounds_toArray, List.set_cons_zero, List.set_cons_succ])) | go_values | go_skip | go_guarded | go_step | go_upon | go_back)
        skip
        go_ret2
        rw [Hhl.out]
        refine ⟨⟨mb, A2, c2, X, wr.heap.size, HXe2.out, rfl, hM, ?_, hbr.size, by omega⟩, bvia hbr hb2⟩
        have := Hgr.out.step hb2
        rwa [Hhl.out, Hsn.out] at this
      · obtain rfl : k = n := by omega
        clear hlt
        repeat' (first | (go_at_call 27; go_must ((with_reducible refine Calls.mono HM.out ?_); rintro _ w2 ⟨mb, rfl, hM, hb2⟩; dsimp only)) | (with_reducible refine Keep.last ?_) | (with_reducible refine Keep.below (by assumption) ?_) | (with_reducible refine Keep.kept (by assumption) ?_) | (with_reducible refine Keep.alloc ?_) | (with_reducible refine Keep.same ?_) | ((with_reducible refine WpH.here ?_); first | (refine WpH.nil ?_; refine NoP.normal ?_) | (refine WpH.load (by rfl) (by rfl) (by go_simp; rfl) ?_; simp only [Act.put, List.setIfInBounds_toArray, List.set_cons_zero, List.set_cons_succ]) | (refine WpH.loadT (by rfl) (by rfl) (by go_simp; rfl) (by rintro _ _ ⟨⟩; exact ⟨_, _, _, _, _, _, by rfl, by assumption, by assumption⟩) ?_; simp only [Act.put, List.setIfInBounds_toArray, List.set_cons_zero, List.set_cons_succ]) | (refine WpH.pure (by rfl) (fun w_ => by go_simp; (try go_bits); rfl) ?_; simp only [Act.put, List.setIfInBounds_toArray, List.set_cons_zero, List.set_cons_succ]) | (refine WpH.wild1 (by rfl) (fun _ _ => ?_)) | (refine WpH.skip (by rfl) ?_; simp only [Act.put, List.setIfInBounds_toArray, List.set_cons_zero, List.set_cons_succ])) | go_values | go_skip | go_guarded | go_step | go_upon | go_back)
        skip
        go_ret2
        rw [Hhl.out]
        refine ⟨⟨mb, A2, c2, X, wr.heap.size, HXe2.out, rfl, hM, ?_, hbr.size, by omega⟩, bvia hbr hb2⟩
        have := Hgr.out.step hb2
        rwa [Hhl.out, Hsn.out] at this
end Go.Proofs.YtfihjajllfihjaaGreatDoor
