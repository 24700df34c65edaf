/- The document's Split, Start, Where over rows of characters: the walks. Conditions: the rows lie in memory, fewer than 2^29 characters. -/
import Derived.Test.YtfihjajllfihjaaDoorRows2
import Derived.Test.YtfihjajllfihjaaDoorLines3
namespace Go.Proofs.YtfihjajllfihjaaDoor
set_option linter.unusedSimpArgs false
set_option linter.unusedVariables false
open Go Go.RowKit
theorem cut_take {s : List Int} {k : Nat} {ch : Int} (h : s[k]? = some ch) : cutOf (s.take (k + 1)) = cutStep (cutOf (s.take k)) ch := by
  rw [List.take_add_one, h, show (some ch).toList = [ch] from rfl, cutOf_snoc]
set_option maxRecDepth 100000 in
set_option maxHeartbeats 4000000 in
theorem refSplit_any (w : World) (A : Option Addr) (n c : Nat) (s : List Int) (S : Nat → Prop) (h : GRow w S A n c (s.map Rn.mk)) (hn : n ≤ 536870912) :
    Calls Tryd.prog 51 #[.slice A n c] w fun e w' => (∃ A' c', e = .returned (.slice A' (splitS s).length c') ∧ RRows w' (fun b => w.heap.size ≤ b) A' c' (splitS s)) ∧ Below w.heap.size w w' := by
  have Hr := hid (h.more (S' := fun b => b < w.heap.size) fun b hb _ => hb)
  have hnl : s.length = n := by have := h.1; rwa [List.length_map] at this
  have g0 := gown_sl0 w
  have e0 := balloc (o := .cells #[.slice none 0 0] 94) (Below.refl _ w)
  clear h
  go_enter Tryd.func51, Tryd.ntmps51
  repeat' (first | (with_reducible refine Keep.last ?_) | (with_reducible refine Keep.below (by assumption) ?_) | (with_reducible refine Keep.kept (by assumption) ?_) | (with_reducible refine Keep.alloc ?_) | (with_reducible refine Keep.same ?_) | ((with_reducible refine WpH.here ?_); first | (refine WpH.nil ?_; refine NoP.normal ?_) | (refine WpH.load (by rfl) (by rfl) (by go_simp; rfl) ?_; simp only [Act.put, List.setIfInBounds_toArray, List.set_cons_zero, List.set_cons_succ]) | (refine WpH.loadT (by rfl) (by rfl) (by go_simp; rfl) (by rintro _ _ ⟨⟩; exact ⟨_, _, _, _, _, _, by rfl, by assumption, by assumption⟩) ?_; simp only [Act.put, List.setIfInBounds_toArray, List.set_cons_zero, List.set_cons_succ]) | (refine WpH.pure (by rfl) (fun w_ => by go_simp; (try go_bits); rfl) ?_; simp only [Act.put, List.setIfInBounds_toArray, List.set_cons_zero, List.set_cons_succ]) | (refine WpH.wild1 (by rfl) (fun _ _ => ?_)) | (refine WpH.skip (by rfl) ?_; simp only [Act.put, List.setIfInBounds_toArray, List.set_cons_zero, List.set_cons_succ])) | go_values | go_skip | go_guarded | go_step | go_upon | go_back)
  go_loopw [3, 4, 5] (fun o i _ wr => ∃ (k no : Nat) (AO : Option Addr) (co : Nat) (hd : List Sl) (cur : Sl), i = .int .i64 k ∧ o = .slice AO no co ∧ no = hd.length + 1 ∧ k ≤ n ∧ hd.length ≤ k ∧ cur.n ≤ k ∧ Hid (SpAt wr w.heap.size AO co hd cur (cutOf (s.take k)).1 (cutOf (s.take k)).2) ∧ Below w.heap.size w wr) (fun _ i _ _ => n - (intOf i).toNat)
  case atStart => exact ⟨0, 1, _, _, [], Sl.none_, rfl, rfl, rfl, Nat.zero_le _, Nat.le_refl _, Nat.le_refl _, hid ⟨g0, Pairs.nil _ _, GOwn.nil _ _ _⟩, e0⟩
  case round =>
    clear g0 e0
    obtain ⟨k, no, AO, co, hd, cur, rfl, rfl, hno, hk, hdk, hck, HS, hbr⟩ := hrel
    have Hno := hid hno
    have hnob : no ≤ 536870914 := by omega
    by_cases hlt : k < n
    · have hkn : (k : Int) < n := by omega
      obtain ⟨b, off, e, rfl, hSb, hbl, he, hcell⟩ := (Hr.out.step hbr).at_ hlt
      obtain ⟨ch, hch, rfl⟩ : ∃ ch, s[k]? = some ch ∧ Rn.mk ch = e := by simpa using he
      have c0 : wr.cell? ⟨b, off + k * 1, none⟩ = some (.int .i32 ch) := hcell 0 _ rfl
      rw [Nat.mul_one] at c0
      have Hct := hid (cut_take hch)
      have hz := hbr.size
      clear hcell he hch
      by_cases h10 : ch = 10
      · subst h10
        have eL := balloc (o := .cells #[.slice none 0 0] 94) (Below.refl _ wr)
        have hz1 := eL.size
        have HO := hid (HS.out.out.step eL)
        have hrow := (gown_sl0 wr).row (S := fun _ => True) fun _ _ _ => trivial
        clear hno
        repeat' (first | ((with_reducible refine app_sls_here ?_); go_must (refine wp_append_sls w.heap.size AO _ no co 1 1 (hd ++ [cur]) [Sl.none_] (fun _ => True) (by rfl) (by rfl) (by rw [Hno.out]; exact HO.out) hrow (by omega) (by omega) ?_; intro A4 c4 w4 hown4 hb4 hsm4 hat4 hz4)) | (with_reducible refine Keep.last ?_) | (with_reducible refine Keep.below (by assumption) ?_) | (with_reducible refine Keep.kept (by assumption) ?_) | (with_reducible refine Keep.alloc ?_) | (with_reducible refine Keep.same ?_) | ((with_reducible refine WpH.here ?_); first | (refine WpH.nil ?_; refine NoP.normal ?_) | (refine WpH.load (by rfl) (by rfl) (by go_simp; rfl) ?_; simp only [Act.put, List.setIfInBounds_toArray, List.set_cons_zero, List.set_cons_succ]) | (refine WpH.loadT (by rfl) (by rfl) (by go_simp; rfl) (by rintro _ _ ⟨⟩; exact ⟨_, _, _, _, _, _, by rfl, by assumption, by assumption⟩) ?_; simp only [Act.put, List.setIfInBounds_toArray, List.set_cons_zero, List.set_cons_succ]) | (refine WpH.pure (by rfl) (fun w_ => by go_simp; (try go_bits); rfl) ?_; simp only [Act.put, List.setIfInBounds_toArray, List.set_cons_zero, List.set_cons_succ]) | (refine WpH.wild1 (by rfl) (fun _ _ => ?_)) | (refine WpH.skip (by rfl) ?_; simp only [Act.put, List.setIfInBounds_toArray, List.set_cons_zero, List.set_cons_succ])) | go_values | go_skip | go_guarded | go_step | go_upon | go_back)
        skip
        go_roundw
        case rel =>
          have hS2 := (HS.out.step eL).eol (by rw [Hno.out] at hown4; exact hown4) hsm4 hat4 hz4
          refine ⟨k + 1, no + 1, A4, c4, hd ++ [cur], Sl.none_, by go_num, by first | rfl | go_num, by rw [List.length_append, Hno.out]; rfl, by omega, by rw [List.length_append]; show hd.length + 1 ≤ k + 1; omega, Nat.zero_le _, hid ?_, (bvia hbr eL).trans hb4⟩
          rw [Hct.out]
          unfold cutStep
          rw [if_pos rfl]
          exact hS2
        case measure => simp [intOf]; omega
      · obtain ⟨g, hg⟩ : ∃ g, AO = some ⟨g, 0, none⟩ := by
          cases AO with
          | none => have := HS.out.out.cap_le; rcases HS.out.out.2.2 with ⟨_, h0⟩ | ⟨g, _, _, h1, _⟩
                    · omega
                    · injection h1 with h1; cases h1
          | some a => obtain ⟨g, rfl⟩ := HS.out.out.head; exact ⟨g, rfl⟩
        subst hg
        obtain ⟨o0, of_, ol⟩ := own_sl HS.out.out (i := hd.length) (v := cur) (by simp)
        unfold Sl.v at o0
        have hTg : Away cur.A g := fun a ha => Ne.symm (owns_ne HS.out.last.2 HS.out.out.2 (by decide) a ha _ rfl)
        have hTb : Away cur.A b := fun a ha => by have := (HS.out.last.block a ha).1; omega
        have hni : (no : Int) - 1 = (hd.length : Nat) := by omega
        have hdl : hd.length < no := by omega
        have hdb : (hd.length : Int) ≤ 536870912 := by omega
        have eL := balloc (o := .cells #[.int .i32 ch] 21) (Below.refl _ wr)
        have eD : Below wr.heap.size wr (wr.alloc (.cells #[.int .i32 ch] 21)).drew := eL.drew
        have hLD := HS.out.step eD
        have hrow := (grow_rune wr ch).drew
        have hzD : (wr.alloc (.cells #[.int .i32 ch] 21)).drew.heap.size = wr.heap.size + 1 := Array.size_push _
        have hBD := bvia hbr eD
        obtain ⟨CA, cn, cc⟩ := cur
        dsimp only at o0 hck hTg hTb
        have cD : wr.drew.cell? ⟨b, off + k, none⟩ = some (.int .i32 ch) := c0
        have oD : wr.drew.cell? ⟨g, hd.length, none⟩ = some (.slice CA cn cc) := o0
        obtain ⟨hcs, hcu, hcz, hcH⟩ := cell_obj cD
        obtain ⟨hos, hou, hoz, hoH⟩ := cell_obj oD
        clear hno
        have HLD := hid hLD
        have Hnn := hid (And.intro h10 Hno.out)
        clear hLD
        repeat' (first | ((with_reducible refine region_at 8 ?_); refine wp_region_orderT (fun x => Away CA x) [(0, true, false), (1, true, false), (2, true, false), (3, true, false), (4, true, false), (5, true, false), (6, true, false), (7, true, false), (8, true, false), (9, true, false), (10, false, false), (11, false, false), (12, true, false), (13, false, true)] (by kernel_rfl) (by kernel_rfl) (by kernel_rfl) rfl rfl ?_) | (with_reducible refine Keep.allocD ?_) | ((with_reducible refine app_runes_here ?_); go_must (refine wp_append_runes w.heap.size CA _ cn cc 1 1 ((cutOf (s.take k)).2.map Rn.mk) [⟨ch⟩] (fun _ => True) (by rfl) (by rfl) HLD.out.last hrow (by omega) (by omega) ?_; intro A3 c3 w3 hown3 hb3 hsm3 hat3 hz3; have hk3 : KeepT (fun x => Away CA x) _ w3 := ⟨hz3, fun b hl hb => hsm3 b (fun g hg => hb g hg) hl⟩; have hout3 := HLD.out.out.keep hsm3 (fun a ha x hx => owns_ne HLD.out.out.2 HLD.out.last.2 (by decide) a ha x hx); obtain ⟨o3, of3, ol3⟩ := own_sl hout3 (i := hd.length) (v := ⟨CA, cn, cc⟩) (by simp); unfold Sl.v at o3)) | (with_reducible refine Keep.last ?_) | (with_reducible refine Keep.below (by assumption) ?_) | (with_reducible refine Keep.kept (by assumption) ?_) | (with_reducible refine Keep.alloc ?_) | (with_reducible refine Keep.same ?_) | ((with_reducible refine WpH.here ?_); first | (refine WpH.nil ?_; refine NoP.normal ?_) | (refine WpH.load (by rfl) (by rfl) (by go_simp; rfl) ?_; simp only [Act.put, List.setIfInBounds_toArray, List.set_cons_zero, List.set_cons_succ]) | (refine WpH.loadT (by rfl) (by rfl) (by go_simp; rfl) (by rintro _ _ ⟨⟩; exact ⟨_, _, _, _, _, _, by rfl, by assumption, by assumption⟩) ?_; simp only [Act.put, List.setIfInBounds_toArray, List.set_cons_zero, List.set_cons_succ]) | (refine WpH.pure (by rfl) (fun w_ => by go_simp; (try go_bits); rfl) ?_; simp only [Act.put, List.setIfInBounds_toArray, List.set_cons_zero, List.set_cons_succ]) | (refine WpH.wild1 (by rfl) (fun _ _ => ?_)) | (refine WpH.skip (by rfl) ?_; simp only [Act.put, List.setIfInBounds_toArray, List.set_cons_zero, List.set_cons_succ])) | go_values | go_skip | go_guarded | go_step | go_upon | go_back)
        skip
        go_roundw
        case rel =>
          have hS2 := HLD.out.char hown3 hsm3 hat3 hz3
          refine ⟨k + 1, no, _, co, hd, ⟨A3, cn + 1, c3⟩, by go_num, rfl, Hnn.out.2, by omega, by omega, by show cn + 1 ≤ k + 1; omega, hid ?_, ?_⟩
          · rw [Hct.out]
            unfold cutStep
            rw [if_neg Hnn.out.1]
            exact hS2
          · exact bset (hBD.trans hb3) (HS.out.out.block _ rfl).1
        case measure => simp [intOf]; omega
    · obtain rfl : k = n := by omega
      have Hs := hid (show s.take k = s from List.take_of_length_le (by omega))
      repeat' (first | (with_reducible refine Keep.last ?_) | (with_reducible refine Keep.below (by assumption) ?_) | (with_reducible refine Keep.kept (by assumption) ?_) | (with_reducible refine Keep.alloc ?_) | (with_reducible refine Keep.same ?_) | ((with_reducible refine WpH.here ?_); first | (refine WpH.nil ?_; refine NoP.normal ?_) | (refine WpH.load (by rfl) (by rfl) (by go_simp; rfl) ?_; simp only [Act.put, List.setIfInBounds_toArray, List.set_cons_zero, List.set_cons_succ]) | (refine WpH.loadT (by rfl) (by rfl) (by go_simp; rfl) (by rintro _ _ ⟨⟩; exact ⟨_, _, _, _, _, _, by rfl, by assumption, by assumption⟩) ?_; simp only [Act.put, List.setIfInBounds_toArray, List.set_cons_zero, List.set_cons_succ]) | (refine WpH.pure (by rfl) (fun w_ => by go_simp; (try go_bits); rfl) ?_; simp only [Act.put, List.setIfInBounds_toArray, List.set_cons_zero, List.set_cons_succ]) | (refine WpH.wild1 (by rfl) (fun _ _ => ?_)) | (refine WpH.skip (by rfl) ?_; simp only [Act.put, List.setIfInBounds_toArray, List.set_cons_zero, List.set_cons_succ])) | go_values | go_skip | go_guarded | go_step | go_upon | go_back)
      skip
      go_ret
      rw [Hs.out] at HS
      have hl : (splitS s).length = no := by have h1 := HS.out.done.1; have h2 := Hno.out; unfold splitS; rw [List.length_append]; simp only [List.length_singleton]; omega
      rw [hl]
      refine ⟨⟨AO, co, rfl, hd ++ [cur], ?_, ?_⟩, hbr⟩
      · rw [hl, Hno.out]
        exact HS.out.out.row fun b h _ => h
      · have hlen : cur.n = (cutOf s).2.length := by have := HS.out.last.1; rw [List.length_map] at this; exact this.symm
        exact (HS.out.done.more fun b _ h => h.1).snoc ⟨hlen, HS.out.last.row fun b h _ => h⟩
set_option maxRecDepth 100000 in
theorem refStart_any (w : World) (A : Option Addr) (c k : Nat) (ls : List (List Int)) (S : Nat → Prop) (h : RRows w S A c ls) (hk : k ≤ ls.length) (hb : startS ls k ≤ 1073741824) :
    Calls Tryd.prog 56 #[.slice A ls.length c, .int .i64 k] w fun e w' => e = .returned (.int .i64 (startS ls k)) ∧ Below w.heap.size w w' := by
  have Hr := hid h
  obtain ⟨n, hn⟩ : ∃ n, n = ls.length := ⟨_, rfl⟩
  have hnb : n ≤ maxLen := by obtain ⟨hd, h1, _⟩ := h; rw [hn]; exact h1.len_le
  unfold maxLen at hnb
  rw [← hn]
  clear h
  go_enter Tryd.func56, Tryd.ntmps56
  repeat' (first | (with_reducible refine Keep.last ?_) | (with_reducible refine Keep.below (by assumption) ?_) | (with_reducible refine Keep.kept (by assumption) ?_) | (with_reducible refine Keep.alloc ?_) | (with_reducible refine Keep.same ?_) | ((with_reducible refine WpH.here ?_); first | (refine WpH.nil ?_; refine NoP.normal ?_) | (refine WpH.load (by rfl) (by rfl) (by go_simp; rfl) ?_; simp only [Act.put, List.setIfInBounds_toArray, List.set_cons_zero, List.set_cons_succ]) | (refine WpH.loadT (by rfl) (by rfl) (by go_simp; rfl) (by rintro _ _ ⟨⟩; exact ⟨_, _, _, _, _, _, by rfl, by assumption, by assumption⟩) ?_; simp only [Act.put, List.setIfInBounds_toArray, List.set_cons_zero, List.set_cons_succ]) | (refine WpH.pure (by rfl) (fun w_ => by go_simp; (try go_bits); rfl) ?_; simp only [Act.put, List.setIfInBounds_toArray, List.set_cons_zero, List.set_cons_succ]) | (refine WpH.wild1 (by rfl) (fun _ _ => ?_)) | (refine WpH.skip (by rfl) ?_; simp only [Act.put, List.setIfInBounds_toArray, List.set_cons_zero, List.set_cons_succ])) | go_values | go_skip | go_guarded | go_step | go_upon | go_back)
  go_loopw [5, 6] (fun t i wr => ∃ (j s : Nat), i = .int .i64 j ∧ t = .int .i64 s ∧ Hid (s = startS ls j) ∧ j ≤ k ∧ Below w.heap.size w wr) (fun _ i _ => k - (intOf i).toNat)
  case atStart => exact ⟨0, 0, rfl, rfl, hid rfl, Nat.zero_le _, Below.refl _ _⟩
  case round =>
    obtain ⟨j, s, rfl, rfl, hs, hj, hbr⟩ := hrel
    by_cases hlt : j < k
    · have hx : ls[j]? = some ls[j] := List.getElem?_eq_getElem (by omega)
      generalize ls[j] = x at hx
      obtain ⟨b, off, B, d, rfl, hbl, c0, hrow⟩ := (Hr.out.step hbr).at_ hx
      have hss := startS_succ hx
      have hsm := startS_mono (ls := ls) (i := j + 1) (j := k) (by omega) hk
      have hjk : (j : Int) < k := by omega
      have hjn : (j : Int) < n := by omega
      obtain ⟨m, hm⟩ : ∃ m, m = x.length := ⟨_, rfl⟩
      rw [← hm] at c0 hss
      obtain ⟨u, hu⟩ : ∃ u, u = s + m := ⟨_, rfl⟩
      have hui : (s : Int) + m = u := by omega
      have hsb : s + m + 1 ≤ 1073741824 := by have := hs.out; omega
      have Hss := hid (show u + 1 = startS ls (j + 1) by rw [hss, ← hs.out, hu])
      clear hss hsm hx hm hu hrow hlt
      repeat' (first | (with_reducible refine Keep.last ?_) | (with_reducible refine Keep.below (by assumption) ?_) | (with_reducible refine Keep.kept (by assumption) ?_) | (with_reducible refine Keep.alloc ?_) | (with_reducible refine Keep.same ?_) | ((with_reducible refine WpH.here ?_); first | (refine WpH.nil ?_; refine NoP.normal ?_) | (refine WpH.load (by rfl) (by rfl) (by go_simp; rfl) ?_; simp only [Act.put, List.setIfInBounds_toArray, List.set_cons_zero, List.set_cons_succ]) | (refine WpH.loadT (by rfl) (by rfl) (by go_simp; rfl) (by rintro _ _ ⟨⟩; exact ⟨_, _, _, _, _, _, by rfl, by assumption, by assumption⟩) ?_; simp only [Act.put, List.setIfInBounds_toArray, List.set_cons_zero, List.set_cons_succ]) | (refine WpH.pure (by rfl) (fun w_ => by go_simp; (try go_bits); rfl) ?_; simp only [Act.put, List.setIfInBounds_toArray, List.set_cons_zero, List.set_cons_succ]) | (refine WpH.wild1 (by rfl) (fun _ _ => ?_)) | (refine WpH.skip (by rfl) ?_; simp only [Act.put, List.setIfInBounds_toArray, List.set_cons_zero, List.set_cons_succ])) | go_values | go_skip | go_guarded | go_step | go_upon | go_back)
      skip
      go_roundw
      case rel => exact ⟨j + 1, u + 1, by go_num, by go_num, Hss, by omega, hbr⟩
      case measure => simp [intOf]; omega
    · obtain rfl : j = k := by omega
      repeat' (first | (with_reducible refine Keep.last ?_) | (with_reducible refine Keep.below (by assumption) ?_) | (with_reducible refine Keep.kept (by assumption) ?_) | (with_reducible refine Keep.alloc ?_) | (with_reducible refine Keep.same ?_) | ((with_reducible refine WpH.here ?_); first | (refine WpH.nil ?_; refine NoP.normal ?_) | (refine WpH.load (by rfl) (by rfl) (by go_simp; rfl) ?_; simp only [Act.put, List.setIfInBounds_toArray, List.set_cons_zero, List.set_cons_succ]) | (refine WpH.loadT (by rfl) (by rfl) (by go_simp; rfl) (by rintro _ _ ⟨⟩; exact ⟨_, _, _, _, _, _, by rfl, by assumption, by assumption⟩) ?_; simp only [Act.put, List.setIfInBounds_toArray, List.set_cons_zero, List.set_cons_succ]) | (refine WpH.pure (by rfl) (fun w_ => by go_simp; (try go_bits); rfl) ?_; simp only [Act.put, List.setIfInBounds_toArray, List.set_cons_zero, List.set_cons_succ]) | (refine WpH.wild1 (by rfl) (fun _ _ => ?_)) | (refine WpH.skip (by rfl) ?_; simp only [Act.put, List.setIfInBounds_toArray, List.set_cons_zero, List.set_cons_succ])) | go_values | go_skip | go_guarded | go_step | go_upon | go_back)
      go_ret
      rw [← hs.out]
      exact ⟨rfl, hbr⟩
set_option maxRecDepth 100000 in
theorem refWhere_any (w : World) (A : Option Addr) (c p k : Nat) (ls : List (List Int)) (S : Nat → Prop) (h : RRows w S A c ls) (hw : IsWhere ls p k) (hb : p ≤ 1073741824) :
    Calls Tryd.prog 59 #[.slice A ls.length c, .int .i64 p] w fun e w' => (∃ q : Nat, startS ls k + q = p ∧ e = .returned (.tuple #[.int .i64 k, .int .i64 q])) ∧ Below w.heap.size w w' := by
  have Hr := hid h
  obtain ⟨n, hn⟩ : ∃ n, n = ls.length := ⟨_, rfl⟩
  have hnb : n ≤ maxLen := by obtain ⟨hd, h1, _⟩ := h; rw [hn]; exact h1.len_le
  unfold maxLen at hnb
  rw [← hn]
  have Hw := hid hw
  clear h hw
  go_enter Tryd.func59, Tryd.ntmps59
  repeat' (first | (with_reducible refine Keep.last ?_) | (with_reducible refine Keep.below (by assumption) ?_) | (with_reducible refine Keep.kept (by assumption) ?_) | (with_reducible refine Keep.alloc ?_) | (with_reducible refine Keep.same ?_) | ((with_reducible refine WpH.here ?_); first | (refine WpH.nil ?_; refine NoP.normal ?_) | (refine WpH.load (by rfl) (by rfl) (by go_simp; rfl) ?_; simp only [Act.put, List.setIfInBounds_toArray, List.set_cons_zero, List.set_cons_succ]) | (refine WpH.loadT (by rfl) (by rfl) (by go_simp; rfl) (by rintro _ _ ⟨⟩; exact ⟨_, _, _, _, _, _, by rfl, by assumption, by assumption⟩) ?_; simp only [Act.put, List.setIfInBounds_toArray, List.set_cons_zero, List.set_cons_succ]) | (refine WpH.pure (by rfl) (fun w_ => by go_simp; (try go_bits); rfl) ?_; simp only [Act.put, List.setIfInBounds_toArray, List.set_cons_zero, List.set_cons_succ]) | (refine WpH.wild1 (by rfl) (fun _ _ => ?_)) | (refine WpH.skip (by rfl) ?_; simp only [Act.put, List.setIfInBounds_toArray, List.set_cons_zero, List.set_cons_succ])) | go_values | go_skip | go_guarded | go_step | go_upon | go_back)
  go_loopw [1, 6] (fun t i wr => ∃ (j q : Nat), i = .int .i64 j ∧ t = .int .i64 q ∧ Hid (startS ls j + q = p) ∧ j ≤ k ∧ q ≤ p ∧ Below w.heap.size w wr) (fun _ i _ => k - (intOf i).toNat)
  case atStart => exact ⟨0, p, rfl, rfl, hid (Nat.zero_add p), Nat.zero_le _, Nat.le_refl _, Below.refl _ _⟩
  case round =>
    obtain ⟨j, q, rfl, rfl, hs, hj, hqp, hbr⟩ := hrel
    obtain ⟨y, hy, hy1, hy2⟩ := Hw.out
    have hkl := (List.getElem?_eq_some_iff.1 hy).1
    have hx : ls[j]? = some ls[j] := List.getElem?_eq_getElem (by omega)
    generalize ls[j] = x at hx
    obtain ⟨b, off, B, d, rfl, hbl, c0, hrow⟩ := (Hr.out.step hbr).at_ hx
    have hjn : (j : Int) < n := by omega
    obtain ⟨m, hm⟩ : ∃ m, m = x.length := ⟨_, rfl⟩
    have hss := startS_succ hx
    rw [← hm] at c0 hss
    by_cases hgt : q > m
    · have hjk : j < k := by
        rcases Nat.lt_or_ge j k with h1 | h1
        · exact h1
        · have : j = k := by omega
          subst this
          rw [hx] at hy
          injection hy with hy
          subst hy
          have := hs.out
          omega
      have hgi : (q : Int) > m := by omega
      obtain ⟨u, hu⟩ : ∃ u, u + m = q := ⟨q - m, by omega⟩
      have hui : (q : Int) - m = u := by omega
      obtain ⟨v, hv⟩ : ∃ v, v + 1 = u := ⟨u - 1, by omega⟩
      have hvi : (u : Int) - 1 = v := by omega
      have Hs := hid (show startS ls (j + 1) + v = p by have := hs.out; omega)
      have hvp : v ≤ p := by omega
      have hub : (u : Int) ≤ 1073741824 := by omega
      clear hss hx hm hu hv hrow hgt hy hy1 hy2
      repeat' (first | (with_reducible refine Keep.last ?_) | (with_reducible refine Keep.below (by assumption) ?_) | (with_reducible refine Keep.kept (by assumption) ?_) | (with_reducible refine Keep.alloc ?_) | (with_reducible refine Keep.same ?_) | ((with_reducible refine WpH.here ?_); first | (refine WpH.nil ?_; refine NoP.normal ?_) | (refine WpH.load (by rfl) (by rfl) (by go_simp; rfl) ?_; simp only [Act.put, List.setIfInBounds_toArray, List.set_cons_zero, List.set_cons_succ]) | (refine WpH.loadT (by rfl) (by rfl) (by go_simp; rfl) (by rintro _ _ ⟨⟩; exact ⟨_, _, _, _, _, _, by rfl, by assumption, by assumption⟩) ?_; simp only [Act.put, List.setIfInBounds_toArray, List.set_cons_zero, List.set_cons_succ]) | (refine WpH.pure (by rfl) (fun w_ => by go_simp; (try go_bits); rfl) ?_; simp only [Act.put, List.setIfInBounds_toArray, List.set_cons_zero, List.set_cons_succ]) | (refine WpH.wild1 (by rfl) (fun _ _ => ?_)) | (refine WpH.skip (by rfl) ?_; simp only [Act.put, List.setIfInBounds_toArray, List.set_cons_zero, List.set_cons_succ])) | go_values | go_skip | go_guarded | go_step | go_upon | go_back)
      skip
      go_roundw
      case rel => exact ⟨j + 1, v, by go_num, rfl, Hs, by omega, hvp, hbr⟩
      case measure => simp [intOf]; omega
    · have hgi : ¬ (q : Int) > m := by omega
      have hjk : j = k := by
        refine IsWhere.same (p := p) ⟨x, hx, ?_, ?_⟩ Hw.out
        · have := hs.out; omega
        · have := hs.out; omega
      have Hjk := hid hjk
      clear hss hx hm hrow hgt hy hy1 hy2 hjk
      repeat' (first | (with_reducible refine Keep.last ?_) | (with_reducible refine Keep.below (by assumption) ?_) | (with_reducible refine Keep.kept (by assumption) ?_) | (with_reducible refine Keep.alloc ?_) | (with_reducible refine Keep.same ?_) | ((with_reducible refine WpH.here ?_); first | (refine WpH.nil ?_; refine NoP.normal ?_) | (refine WpH.load (by rfl) (by rfl) (by go_simp; rfl) ?_; simp only [Act.put, List.setIfInBounds_toArray, List.set_cons_zero, List.set_cons_succ]) | (refine WpH.loadT (by rfl) (by rfl) (by go_simp; rfl) (by rintro _ _ ⟨⟩; exact ⟨_, _, _, _, _, _, by rfl, by assumption, by assumption⟩) ?_; simp only [Act.put, List.setIfInBounds_toArray, List.set_cons_zero, List.set_cons_succ]) | (refine WpH.pure (by rfl) (fun w_ => by go_simp; (try go_bits); rfl) ?_; simp only [Act.put, List.setIfInBounds_toArray, List.set_cons_zero, List.set_cons_succ]) | (refine WpH.wild1 (by rfl) (fun _ _ => ?_)) | (refine WpH.skip (by rfl) ?_; simp only [Act.put, List.setIfInBounds_toArray, List.set_cons_zero, List.set_cons_succ])) | go_values | go_skip | go_guarded | go_step | go_upon | go_back)
      skip
      go_ret2
      rw [Hjk.out]
      exact ⟨⟨q, by rw [← Hjk.out]; exact hs.out, rfl⟩, hbr⟩
end Go.Proofs.YtfihjajllfihjaaDoor
