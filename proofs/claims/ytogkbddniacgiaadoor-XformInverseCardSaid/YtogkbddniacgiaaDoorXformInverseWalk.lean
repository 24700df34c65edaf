/- barrowlaw07.XformInverse: the walk: it returns true, old memory stands. Conditions: row and operation lie in memory, the numbers fit their kinds. -/
import Derived.Test.YtogkbddniacgiaaDoorPlainInv
import Derived.Test.YtogkbddniacgiaaDoorLaw7a
import Derived.Test.YtogkbddniacgiaaDoorTrio
import Derived.Test.YtogkbddniacgiaaDoorRef5
namespace Go.Proofs.YtogkbddniacgiaaDoor
set_option linter.unusedSimpArgs false
set_option linter.unusedVariables false
open Go Go.RowKit
theorem name_any (r : Int) (w : World) : Calls Tryd.prog 68 #[.int .i64 r] w fun e w' => e = .returned (.agg #[.int .i64 4, .int .i64 r, .int .i64 1]) ∧ Below w.heap.size w w' := by
  go_enter Tryd.func68, Tryd.ntmps68
  repeat' (first | (with_reducible refine Keep.last ?_) | (with_reducible refine Keep.below (by assumption) ?_) | (with_reducible refine Keep.kept (by assumption) ?_) | (with_reducible refine Keep.alloc ?_) | (with_reducible refine Keep.same ?_) | ((with_reducible refine WpH.here ?_); first | (refine WpH.nil ?_; refine NoP.normal ?_) | (refine WpH.load (by rfl) (by rfl) (by go_simp; rfl) ?_; simp only [Act.put, List.setIfInBounds_toArray, List.set_cons_zero, List.set_cons_succ]) | (refine WpH.loadT (by rfl) (by rfl) (by go_simp; rfl) (by rintro _ _ ⟨⟩; exact ⟨_, _, _, _, _, _, by rfl, by assumption, by assumption⟩) ?_; simp only [Act.put, List.setIfInBounds_toArray, List.set_cons_zero, List.set_cons_succ]) | (refine WpH.pure (by rfl) (fun w_ => by go_simp; (try go_bits); rfl) ?_; simp only [Act.put, List.setIfInBounds_toArray, List.set_cons_zero, List.set_cons_succ]) | (refine WpH.wild1 (by rfl) (fun _ _ => ?_)) | (refine WpH.skip (by rfl) ?_; simp only [Act.put, List.setIfInBounds_toArray, List.set_cons_zero, List.set_cons_succ])) | go_values | go_skip | go_guarded | go_step | go_upon | go_back)
  exact bodyPost_ret (v := .agg #[.int .i64 4, .int .i64 r, .int .i64 1]) (by simp [results, Tryd.results68, go_sem]) rfl ⟨rfl, by (repeat' (first | (with_reducible exact Below.refl _ _) | (with_reducible assumption) | (with_reducible refine balloc ?_) | (with_reducible refine bdrew ?_) | (with_reducible refine bset ?_ (by (try dsimp only); omega)) | (with_reducible refine bvia ?_ (by assumption))))⟩
set_option maxRecDepth 100000 in
set_option maxHeartbeats 4000000 in
theorem xin_true (w : World) (A : Option Addr) (n c : Nat) (ls : List El) (SB : Nat → Prop) (o : Opn) (hr : Row w SB A n c ls) (io : o.In) :
    Calls Tryd.prog 17 #[.slice A n c, .agg #[.int .i64 o.kind, .int .i64 o.at_, .int .i32 o.char, .int .i64 o.rep]] w fun e w' => e = .returned (.bool true) ∧ Below w.heap.size w w' := by
  have HK := hid wakes7_any
  have HRow := hid (fun W (hb : Below w.heap.size w W) => row7_any W A n c ls SB (hr.step hb))
  have hL := row7_length (ls.take 60)
  have hl60 : (ls.take 60).length ≤ 60 := List.length_take_le _ _
  have hgood := hid (row7_good hl60)
  have hnod := hid (row7_nodup (ls.take 60))
  have hcalm := hid (row7_calm (ls.take 60))
  have hnew := hid (row7_new (ls.take 60))
  have hL60 : (row7 (ls.take 60)).length ≤ 60 := by omega
  clear hL hl60 hr
  generalize row7 (ls.take 60) = L at *
  have HF := hid (fun W => fit_any o L.length 2 W (by omega))
  unfold Opn.agg at HF
  have b1 : Below w.heap.size w (w.alloc (.cells #[.int .i64 o.kind, .int .i64 o.at_, .int .i32 o.char, .int .i64 o.rep] 58)) := balloc (Below.refl _ _)
  have hX := Blk.new w 58 #[.int .i64 o.kind, .int .i64 o.at_, .int .i32 o.char, .int .i64 o.rep]
  go_enter Tryd.func17, Tryd.ntmps17
  repeat' (first | (with_reducible refine stop_region 1 ?_) | (with_reducible refine Keep.last ?_) | (with_reducible refine Keep.below (by assumption) ?_) | (with_reducible refine Keep.kept (by assumption) ?_) | (with_reducible refine Keep.alloc ?_) | (with_reducible refine Keep.same ?_) | ((with_reducible refine WpH.here ?_); first | (refine WpH.nil ?_; refine NoP.normal ?_) | (refine WpH.load (by rfl) (by rfl) (by go_simp; rfl) ?_; simp only [Act.put, List.setIfInBounds_toArray, List.set_cons_zero, List.set_cons_succ]) | (refine WpH.loadT (by rfl) (by rfl) (by go_simp; rfl) (by rintro _ _ ⟨⟩; exact ⟨_, _, _, _, _, _, by rfl, by assumption, by assumption⟩) ?_; simp only [Act.put, List.setIfInBounds_toArray, List.set_cons_zero, List.set_cons_succ]) | (refine WpH.pure (by rfl) (fun w_ => by go_simp; (try go_bits); rfl) ?_; simp only [Act.put, List.setIfInBounds_toArray, List.set_cons_zero, List.set_cons_succ]) | (refine WpH.wild1 (by rfl) (fun _ _ => ?_)) | (refine WpH.skip (by rfl) ?_; simp only [Act.put, List.setIfInBounds_toArray, List.set_cons_zero, List.set_cons_succ])) | go_values | go_skip | go_guarded | go_step | go_upon | go_back)
  refine Stop.go ?_
  generalize w.alloc (.cells #[.int .i64 o.kind, .int .i64 o.at_, .int .i32 o.char, .int .i64 o.rep] 58) = W0 at *
  obtain ⟨x0, x1, x2, x3, -, -, -, -, xl⟩ := hX.four
  repeat' (first | (go_at_call 33; go_must ((with_reducible refine Calls.mono (HRow.out _ b1) ?_); rintro _ w1 ⟨A1, c1, rfl, hown1, hb1⟩; obtain ⟨x0, x1, x2, x3, -, -, -, -, xl⟩ := (hX.step hb1).four; dsimp only)) | (go_at_call 35; go_must ((with_reducible refine Calls.mono (HF.out _) ?_); rintro _ w2 ⟨rfl, hb2⟩; have hX2 := (hX.step hb1).step hb2; obtain ⟨x0, x1, x2, x3, f0, f1, f2, f3, xl⟩ := hX2.four; dsimp only)) | (with_reducible refine stop_region 3 ?_) | (with_reducible refine Keep.last ?_) | (with_reducible refine Keep.below (by assumption) ?_) | (with_reducible refine Keep.kept (by assumption) ?_) | (with_reducible refine Keep.alloc ?_) | (with_reducible refine Keep.same ?_) | ((with_reducible refine WpH.here ?_); first | (refine WpH.nil ?_; refine NoP.normal ?_) | (refine WpH.load (by rfl) (by rfl) (by go_simp; rfl) ?_; simp only [Act.put, List.setIfInBounds_toArray, List.set_cons_zero, List.set_cons_succ]) | (refine WpH.loadT (by rfl) (by rfl) (by go_simp; rfl) (by rintro _ _ ⟨⟩; exact ⟨_, _, _, _, _, _, by rfl, by assumption, by assumption⟩) ?_; simp only [Act.put, List.setIfInBounds_toArray, List.set_cons_zero, List.set_cons_succ]) | (refine WpH.pure (by rfl) (fun w_ => by go_simp; (try go_bits); rfl) ?_; simp only [Act.put, List.setIfInBounds_toArray, List.set_cons_zero, List.set_cons_succ]) | (refine WpH.wild1 (by rfl) (fun _ _ => ?_)) | (refine WpH.skip (by rfl) ?_; simp only [Act.put, List.setIfInBounds_toArray, List.set_cons_zero, List.set_cons_succ])) | go_values | go_skip | go_guarded | go_step | go_upon | go_back)
  refine Stop.go ?_
  clear x0 x1 x2 x3 f0 f1 f2 f3 HRow
  have hff := hid (fun h => fit_fits (o := o) (n := L.length) (r := 2) (by decide) h)
  have hrep := hid (fit_rep o L.length 2)
  have hz2 : w.heap.size < w2.heap.size := hX2.lt
  have hbb2 := bvia (bvia b1 hb1) hb2
  have hown2 := (hown1.mono b1.size).step hb2
  clear hX hown1 hb1 hb2 b1
  generalize fitOf o L.length 2 = fa at *
  obtain ⟨a, p⟩ := fa
  dsimp only at hff hrep ⊢
  have hX3 : Blk ((((w2.setCell ⟨w.heap.size, 0, none⟩ (.int .i64 a.kind)).setCell ⟨w.heap.size, 1, none⟩ (.int .i64 a.at_)).setCell ⟨w.heap.size, 2, none⟩ (.int .i32 a.char)).setCell ⟨w.heap.size, 3, none⟩ (.int .i64 a.rep)) w.heap.size 58 #[.int .i64 a.kind, .int .i64 a.at_, .int .i32 a.char, .int .i64 a.rep] := by
    have h := (((hX2.set_ 0 (.int .i64 a.kind)).set_ 1 (.int .i64 a.at_)).set_ 2 (.int .i32 a.char)).set_ 3 (.int .i64 a.rep)
    simpa using h
  have hb3 : Below w.heap.size w ((((w2.setCell ⟨w.heap.size, 0, none⟩ (.int .i64 a.kind)).setCell ⟨w.heap.size, 1, none⟩ (.int .i64 a.at_)).setCell ⟨w.heap.size, 2, none⟩ (.int .i32 a.char)).setCell ⟨w.heap.size, 3, none⟩ (.int .i64 a.rep)) := bset (bset (bset (bset hbb2 (Nat.le_refl _)) (Nat.le_refl _)) (Nat.le_refl _)) (Nat.le_refl _)
  have hL3 : Own ((((w2.setCell ⟨w.heap.size, 0, none⟩ (.int .i64 a.kind)).setCell ⟨w.heap.size, 1, none⟩ (.int .i64 a.at_)).setCell ⟨w.heap.size, 2, none⟩ (.int .i32 a.char)).setCell ⟨w.heap.size, 3, none⟩ (.int .i64 a.rep)) w.heap.size A1 L.length c1 L := by
    have hne : ∀ x, A1 = some x → x.block ≠ w.heap.size := fun x hx e => by
      rcases hown2.2.2 with h | ⟨g, cap, cur, e', -, hh, -⟩
      · injection h.1 with h1
        rw [hx] at h1
        cases h1
      · injection e' with e1 e2 e3
        rw [hx] at e1
        injection e1 with e1
        subst e1
        have e' : g = w.heap.size := e
        subst e'
        rw [hX2] at hh
        injection hh with hh
        injection hh with _ hh
        revert hh
        decide
    exact (((hown2.keep (S := fun b => b ≠ w.heap.size) (Same.setCell (p := ⟨w.heap.size, 0, none⟩) _ (fun h => h rfl) _) hne).keep (S := fun b => b ≠ w.heap.size) (Same.setCell (p := ⟨w.heap.size, 1, none⟩) _ (fun h => h rfl) _) hne).keep (S := fun b => b ≠ w.heap.size) (Same.setCell (p := ⟨w.heap.size, 2, none⟩) _ (fun h => h rfl) _) hne).keep (S := fun b => b ≠ w.heap.size) (Same.setCell (p := ⟨w.heap.size, 3, none⟩) _ (fun h => h rfl) _) hne
  clear hX2 hown2 hbb2 hz2
  generalize (((w2.setCell ⟨w.heap.size, 0, none⟩ (.int .i64 a.kind)).setCell ⟨w.heap.size, 1, none⟩ (.int .i64 a.at_)).setCell ⟨w.heap.size, 2, none⟩ (.int .i32 a.char)).setCell ⟨w.heap.size, 3, none⟩ (.int .i64 a.rep) = W3 at *
  cases p
  · skip
    repeat' (first | (go_at_call 32; go_must ((with_reducible refine Calls.mono (HK.out _) ?_); rintro _ w6 ⟨rfl, hb6⟩; dsimp only)) | (with_reducible refine Keep.last ?_) | (with_reducible refine Keep.below (by assumption) ?_) | (with_reducible refine Keep.kept (by assumption) ?_) | (with_reducible refine Keep.alloc ?_) | (with_reducible refine Keep.same ?_) | ((with_reducible refine WpH.here ?_); first | (refine WpH.nil ?_; refine NoP.normal ?_) | (refine WpH.load (by rfl) (by rfl) (by go_simp; rfl) ?_; simp only [Act.put, List.setIfInBounds_toArray, List.set_cons_zero, List.set_cons_succ]) | (refine WpH.loadT (by rfl) (by rfl) (by go_simp; rfl) (by rintro _ _ ⟨⟩; exact ⟨_, _, _, _, _, _, by rfl, by assumption, by assumption⟩) ?_; simp only [Act.put, List.setIfInBounds_toArray, List.set_cons_zero, List.set_cons_succ]) | (refine WpH.pure (by rfl) (fun w_ => by go_simp; (try go_bits); rfl) ?_; simp only [Act.put, List.setIfInBounds_toArray, List.set_cons_zero, List.set_cons_succ]) | (refine WpH.wild1 (by rfl) (fun _ _ => ?_)) | (refine WpH.skip (by rfl) ?_; simp only [Act.put, List.setIfInBounds_toArray, List.set_cons_zero, List.set_cons_succ])) | go_values | go_skip | go_guarded | go_step | go_upon | go_back)
    go_ret
    exact ⟨rfl, bvia hb3 hb6⟩
  · have ca : Can L a := ⟨hff.out rfl, hnew.out _ _⟩
    obtain ⟨k1, k2, und⟩ := inv_law hcalm.out ca
    obtain ⟨i1, i2, i3, i4, i5⟩ := inv_ok ca.fits
    have HInv := hid (fun W => inv_any a W)
    rw [i1] at HInv
    have hnm : a.nm = ⟨4, 2, 1⟩ := by unfold Opn.nm; rw [hrep.out]
    have hlo := ca.fits.lo
    have hhi := ca.fits.hi
    have hlen1 := doneOp_length L a a.nm
    have HO := hid (fun W (h : Row W (fun _ => True) A1 L.length c1 L) => mof_ok W A1 L.length c1 L _ h (by omega) hgood.out hnod.out)
    rw [hnm] at k1 k2 und hlen1
    have Hund := hid und
    clear und i1 i2 i3 i4 i5 ca hff hnew hcalm
    obtain ⟨i, hi⟩ : ∃ i : Nat, Hid (a.at_ = i) := ⟨a.at_.toNat, hid (by omega)⟩
    obtain ⟨b, hb⟩ : ∃ b, b = (invOf a).1 := ⟨_, rfl⟩
    rw [← hb] at HInv Hund k2
    clear hb
    obtain ⟨M, hM⟩ : ∃ M, M = doneOp (doneOp L a ⟨4, 2, 1⟩) b ⟨4, 2, 1⟩ := ⟨_, rfl⟩
    obtain ⟨L1, hL1⟩ : ∃ L1, L1 = doneOp L a ⟨4, 2, 1⟩ := ⟨_, rfl⟩
    have hlen2 := doneOp_length L1 b ⟨4, 2, 1⟩
    have HA1 := hid (fun W S mb (h : Mdl W S mb L L.length) => apply_ok W S mb L L.length a ⟨4, 2, 1⟩ h (by omega) (by omega) k1)
    have HA2 := hid (fun W S mb (h : Mdl W S mb L1 (L.length + 1)) => apply_ok W S mb L1 (L.length + 1) b ⟨4, 2, 1⟩ h (by rw [hL1]; omega) (by omega) (by rw [hL1]; exact k2))
    rw [← hL1] at hlen1 hM HA1
    rw [← hM] at hlen2 HA2
    rw [← hL1, ← hM] at Hund
    clear hM hL1 k1 k2
    unfold Opn.agg Nm.val at HA1 HA2
    unfold Opn.agg at HInv
    dsimp only at HA1 HA2
    obtain ⟨x0, x1, x2, x3, -, -, -, -, xl⟩ := hX3.four
    repeat' (first | (go_at_call 46; go_must ((with_reducible refine Calls.mono (HInv.out _) ?_); rintro _ w4 ⟨rfl, hb4⟩; dsimp only)) | (with_reducible refine stop_region 6 ?_) | (with_reducible refine Keep.last ?_) | (with_reducible refine Keep.below (by assumption) ?_) | (with_reducible refine Keep.kept (by assumption) ?_) | (with_reducible refine Keep.alloc ?_) | (with_reducible refine Keep.same ?_) | ((with_reducible refine WpH.here ?_); first | (refine WpH.nil ?_; refine NoP.normal ?_) | (refine WpH.load (by rfl) (by rfl) (by go_simp; rfl) ?_; simp only [Act.put, List.setIfInBounds_toArray, List.set_cons_zero, List.set_cons_succ]) | (refine WpH.loadT (by rfl) (by rfl) (by go_simp; rfl) (by rintro _ _ ⟨⟩; exact ⟨_, _, _, _, _, _, by rfl, by assumption, by assumption⟩) ?_; simp only [Act.put, List.setIfInBounds_toArray, List.set_cons_zero, List.set_cons_succ]) | (refine WpH.pure (by rfl) (fun w_ => by go_simp; (try go_bits); rfl) ?_; simp only [Act.put, List.setIfInBounds_toArray, List.set_cons_zero, List.set_cons_succ]) | (refine WpH.wild1 (by rfl) (fun _ _ => ?_)) | (refine WpH.skip (by rfl) ?_; simp only [Act.put, List.setIfInBounds_toArray, List.set_cons_zero, List.set_cons_succ])) | go_values | go_skip | go_guarded | go_step | go_upon | go_back)
    refine Stop.go ?_
    have eB := balloc (o := .cells #[.int .i64 b.kind, .int .i64 b.at_, .int .i32 b.char, .int .i64 b.rep] 58) (Below.refl _ w4)
    have hB4 := Blk.new w4 58 #[.int .i64 b.kind, .int .i64 b.at_, .int .i32 b.char, .int .i64 b.rep]
    have hX4 := (hX3.step hb4).step eB
    have hL4 := (hL3.step hb4).step eB
    have hbb4 := bvia (bvia hb3 hb4) eB
    generalize w4.alloc (.cells #[.int .i64 b.kind, .int .i64 b.at_, .int .i32 b.char, .int .i64 b.rep] 58) = W4 at *
    generalize w4.heap.size = gb at *
    clear x0 x1 x2 x3 hX3 hL3 hb4 eB
    repeat' (first | (go_at_call 65; go_must ((with_reducible refine Calls.mono (HO.out _ (hL4.row fun _ _ _ => trivial)) ?_); rintro _ w5 ⟨mb, rfl, hM5, hb5⟩; dsimp only)) | (with_reducible refine stop_region 11 ?_) | (with_reducible refine Keep.last ?_) | (with_reducible refine Keep.below (by assumption) ?_) | (with_reducible refine Keep.kept (by assumption) ?_) | (with_reducible refine Keep.alloc ?_) | (with_reducible refine Keep.same ?_) | ((with_reducible refine WpH.here ?_); first | (refine WpH.nil ?_; refine NoP.normal ?_) | (refine WpH.load (by rfl) (by rfl) (by go_simp; rfl) ?_; simp only [Act.put, List.setIfInBounds_toArray, List.set_cons_zero, List.set_cons_succ]) | (refine WpH.loadT (by rfl) (by rfl) (by go_simp; rfl) (by rintro _ _ ⟨⟩; exact ⟨_, _, _, _, _, _, by rfl, by assumption, by assumption⟩) ?_; simp only [Act.put, List.setIfInBounds_toArray, List.set_cons_zero, List.set_cons_succ]) | (refine WpH.pure (by rfl) (fun w_ => by go_simp; (try go_bits); rfl) ?_; simp only [Act.put, List.setIfInBounds_toArray, List.set_cons_zero, List.set_cons_succ]) | (refine WpH.wild1 (by rfl) (fun _ _ => ?_)) | (refine WpH.skip (by rfl) ?_; simp only [Act.put, List.setIfInBounds_toArray, List.set_cons_zero, List.set_cons_succ])) | go_values | go_skip | go_guarded | go_step | go_upon | go_back)
    refine Stop.go ?_
    have HV := hid (view_any w5 _ mb L _ hM5 (by omega))
    have hmb := hM5
    repeat' (first | (go_at_call 66; go_must ((with_reducible refine Calls.mono HV.out ?_); rintro _ w6 ⟨rfl, hb6⟩; dsimp only)) | (with_reducible refine stop_region 12 ?_) | (with_reducible refine Keep.last ?_) | (with_reducible refine Keep.below (by assumption) ?_) | (with_reducible refine Keep.kept (by assumption) ?_) | (with_reducible refine Keep.alloc ?_) | (with_reducible refine Keep.same ?_) | ((with_reducible refine WpH.here ?_); first | (refine WpH.nil ?_; refine NoP.normal ?_) | (refine WpH.load (by rfl) (by rfl) (by go_simp; rfl) ?_; simp only [Act.put, List.setIfInBounds_toArray, List.set_cons_zero, List.set_cons_succ]) | (refine WpH.loadT (by rfl) (by rfl) (by go_simp; rfl) (by rintro _ _ ⟨⟩; exact ⟨_, _, _, _, _, _, by rfl, by assumption, by assumption⟩) ?_; simp only [Act.put, List.setIfInBounds_toArray, List.set_cons_zero, List.set_cons_succ]) | (refine WpH.pure (by rfl) (fun w_ => by go_simp; (try go_bits); rfl) ?_; simp only [Act.put, List.setIfInBounds_toArray, List.set_cons_zero, List.set_cons_succ]) | (refine WpH.wild1 (by rfl) (fun _ _ => ?_)) | (refine WpH.skip (by rfl) ?_; simp only [Act.put, List.setIfInBounds_toArray, List.set_cons_zero, List.set_cons_succ])) | go_values | go_skip | go_guarded | go_step | go_upon | go_back)
    refine Stop.go ?_
    have hM6 := (hM5.step hb6).more (S' := fun b => W4.heap.size ≤ b) fun b _ h => h
    have hX6 := (hX4.step hb5).step hb6
    have hB6 := (hB4.step hb5).step hb6
    have hL6 := (hL4.step hb5).step hb6
    have hbb6 := bvia (bvia hbb4 hb5) hb6
    have hzX : w.heap.size < W4.heap.size := hX4.lt
    have hzB : gb < W4.heap.size := hB4.lt
    have hz46 : W4.heap.size ≤ w6.heap.size := Nat.le_trans hb5.size hb6.size
    have hA1l : ∀ x, A1 = some x → x.block < W4.heap.size := fun x hx => (hL4.block x hx).2
    have HN := hid (fun W => name_any 2 W)
    clear hM5 hmb hX4 hB4 hL4 hb5 hb6 hbb4 HV HO
    obtain ⟨x0, x1, x2, x3, -, -, -, -, xl⟩ := hX6.four
    repeat' (first | (with_reducible refine stop_region 14 ?_) | ((with_reducible refine region_at 12 ?_); refine wp_region_orderT (fun b => b < W4.heap.size) [(0, true, false), (1, true, false), (2, false, false), (3, false, false), (4, true, false), (5, true, false), (6, true, false), (7, true, false), (8, false, false), (9, false, false), (10, true, false), (11, true, false)] (by kernel_rfl) (by kernel_rfl) (by kernel_rfl) rfl rfl ?_) | ((with_reducible refine WpH.here ?_); refine WpH.wild2 (by rfl) (fun _ _ => ?_)) | (go_at_call 68; go_must ((with_reducible refine Calls.mono (HN.out _) ?_); (first | (rintro _ w9 ⟨rfl, hb9⟩; have hM9 := (hM8.step hb9).keep (w' := w9) (fun _ _ _ => rfl)) | (rintro _ w7 ⟨rfl, hb7⟩; have hM7 := ((hM6.keep (w' := w6.drew) (fun _ _ _ => rfl)).step hb7); have hz7 : W4.heap.size ≤ w7.heap.size := Nat.le_trans hz46 hb7.size)); dsimp only)) | (go_at_call 67; go_must (first | ((with_reducible refine Calls.mono (HA2.out _ _ _ hM9) ?_); rintro _ w10 ⟨rfl, hM10, hO10⟩; have hk10 : KeepT (fun b => b < W4.heap.size) _ w10 := hO10.keepT _ (fun b hb h => by rcases h with h | h <;> omega)) | ((with_reducible refine Calls.mono (HA1.out _ _ _ hM7) ?_); rintro _ w8 ⟨rfl, hM8, hO8⟩; have hk8 : KeepT (fun b => b < W4.heap.size) _ w8 := hO8.keepT _ (fun b hb h => by omega); have hB8 := hO8.blk (hB6.drew.step hb7) (by omega); have q8 : w8.heap[gb]? = some (.cells #[.int .i64 b.kind, .int .i64 b.at_, .int .i32 b.char, .int .i64 b.rep] 58 (0, 0)) := hB8; obtain ⟨y0, y1, y2, y3, -, -, -, -, yl⟩ := hB8.four)); dsimp only) | (with_reducible refine Keep.last ?_) | (with_reducible refine Keep.below (by assumption) ?_) | (with_reducible refine Keep.kept (by assumption) ?_) | (with_reducible refine Keep.alloc ?_) | (with_reducible refine Keep.same ?_) | ((with_reducible refine WpH.here ?_); first | (refine WpH.nil ?_; refine NoP.normal ?_) | (refine WpH.load (by rfl) (by rfl) (by go_simp; rfl) ?_; simp only [Act.put, List.setIfInBounds_toArray, List.set_cons_zero, List.set_cons_succ]) | (refine WpH.loadT (by rfl) (by rfl) (by go_simp; rfl) (by rintro _ _ ⟨⟩; exact ⟨_, _, _, _, _, _, by rfl, by assumption, by assumption⟩) ?_; simp only [Act.put, List.setIfInBounds_toArray, List.set_cons_zero, List.set_cons_succ]) | (refine WpH.pure (by rfl) (fun w_ => by go_simp; (try go_bits); rfl) ?_; simp only [Act.put, List.setIfInBounds_toArray, List.set_cons_zero, List.set_cons_succ]) | (refine WpH.wild1 (by rfl) (fun _ _ => ?_)) | (refine WpH.skip (by rfl) ?_; simp only [Act.put, List.setIfInBounds_toArray, List.set_cons_zero, List.set_cons_succ])) | go_values | go_skip | go_guarded | go_step | go_upon | go_back)
    refine Stop.go ?_
    have hb7' := bvia hbb6.drew hb7
    have hb8' := hO8.below hb7' (Nat.le_refl _) (fun b h => by have h' : W4.heap.size ≤ b := h; omega)
    have hb9' := bvia hb8' hb9
    have hb10 := hO10.below hb9' (Nat.le_refl _) (fun b h => by rcases h with h | h <;> omega)
    have hkA : KeepT (fun b => b < W4.heap.size) w6 w10 := (((KeepT.of_below ((Below.refl _ w6).drew.trans hb7)).trans hk8).trans (KeepT.of_below hb9)).trans hk10
    have hsA : Same (fun b => b < W4.heap.size) w6 w10 := fun b hb hl => hkA.block b hl hb
    have hX10 := hX6.keepS hsA hzX
    have hL10 := hL6.keep hsA hA1l
    have HE := hid (melements_any w10 _ mb M _ hM10 (by omega))
    have hM10' := hid hM10
    clear hb7' hb8' hb9' hkA hsA hX6 hL6 hB6 hM6 hM7 hM8 hM9 hM10 hO8 hO10 hk8 hk10 hB8 q8 y0 y1 y2 y3 x0 x1 x2 x3 hbb6 hb7 hb9 HA1 HA2 HInv hz46 hA1l hz7
    obtain ⟨x0, x1, x2, x3, -, -, -, -, xl⟩ := hX10.four
    rw [hi.out] at x1
    repeat' (first | (go_at_call 69; go_must ((with_reducible refine Calls.mono HE.out ?_); rintro _ w11 ⟨A2, c2, rfl, hown11, hb11⟩; dsimp only)) | (with_reducible refine stop_region 15 ?_) | (with_reducible refine Keep.last ?_) | (with_reducible refine Keep.below (by assumption) ?_) | (with_reducible refine Keep.kept (by assumption) ?_) | (with_reducible refine Keep.alloc ?_) | (with_reducible refine Keep.same ?_) | ((with_reducible refine WpH.here ?_); first | (refine WpH.nil ?_; refine NoP.normal ?_) | (refine WpH.load (by rfl) (by rfl) (by go_simp; rfl) ?_; simp only [Act.put, List.setIfInBounds_toArray, List.set_cons_zero, List.set_cons_succ]) | (refine WpH.loadT (by rfl) (by rfl) (by go_simp; rfl) (by rintro _ _ ⟨⟩; exact ⟨_, _, _, _, _, _, by rfl, by assumption, by assumption⟩) ?_; simp only [Act.put, List.setIfInBounds_toArray, List.set_cons_zero, List.set_cons_succ]) | (refine WpH.pure (by rfl) (fun w_ => by go_simp; (try go_bits); rfl) ?_; simp only [Act.put, List.setIfInBounds_toArray, List.set_cons_zero, List.set_cons_succ]) | (refine WpH.wild1 (by rfl) (fun _ _ => ?_)) | (refine WpH.skip (by rfl) ?_; simp only [Act.put, List.setIfInBounds_toArray, List.set_cons_zero, List.set_cons_succ])) | go_values | go_skip | go_guarded | go_step | go_upon | go_back)
    refine Stop.go ?_
    have hX11 := hX10.step hb11
    have hL11 := hL10.step hb11
    have hM11 := hM10'.out.step hb11
    have hb8 := bvia hb10 hb11
    clear hX10 hL10 hM10' HE x0 x1 x2 x3
    obtain ⟨x0, x1, x2, x3, -, -, -, -, xl⟩ := hX11.four
    rw [hi.out] at x1
    by_cases hk : a.kind = 1
    · have hlenM := Hund.out.len hk
      obtain ⟨e, he, hen, heh⟩ := Hund.out.one hk
      have hcut := Hund.out.cut hk
      have hvw := Hund.out.view
      rw [hi.out, Int.toNat_natCast] at he hcut
      rw [hnm] at hen
      rw [hk] at x0
      have hil : i < M.length := (List.getElem?_eq_some_iff.1 he).1
      obtain ⟨e0, e1, e2, e3, e4⟩ := e
      simp only [El.nm, Nm.mk.injEq] at hen heh
      obtain ⟨rfl, rfl, rfl⟩ := hen
      subst heh
      have hrow := hown11.row (S := fun _ => True) (fun _ _ _ => trivial)
      obtain ⟨g, off, e', rfl, -, he', d0, d1, d2, d3, d4⟩ := hrow.drew.at_ hil
      obtain rfl := Option.some.inj (he'.symm.trans he)
      dsimp only at d0 d1 d2 d4
      have hgl := lt_of_cell' d0
      dsimp only at hgl
      have HC := hid (fun W (hb : Below w11.heap.size w11 W) => refCut_any (some ⟨g, off, none⟩) M.length c2 i 1 M _ W (hrow.step hb) (by omega) (by omega))
      rw [hcut] at HC
      have Hlen := hid hlenM
      have hlc : (M.length : Int) = (L.length : Int) + 1 := by omega
      have hil' : (i : Int) < (L.length : Int) + 1 := by omega
      clear he he' hcut d3 hlenM hk
      repeat' (first | ((with_reducible refine region_at 16 ?_); refine wp_region_order [(0, true, false), (1, true, false), (2, true, false), (3, true, false), (4, true, false), (5, true, false), (6, true, false), (7, true, false), (8, true, false), (9, true, false), (10, true, false), (11, true, false), (12, true, false), (13, false, false), (14, true, false), (15, true, false), (16, true, false), (17, true, false), (18, true, false), (19, true, false), (20, true, false), (21, true, false), (22, true, false), (23, true, false), (24, true, false)] (by kernel_rfl) (by kernel_rfl) (by kernel_rfl) rfl rfl ?_) | ((with_reducible refine WpH.here ?_); refine WpH.wild2 (by rfl) (fun _ _ => ?_)) | (go_at_call 68; go_must ((with_reducible refine Calls.mono (HN.out _) ?_); rintro _ w12 ⟨rfl, hb12⟩; have hX12 := hX11.drew.step hb12; obtain ⟨x0, x1, x2, x3, -, -, -, -, xl⟩ := hX12.four; rw [hi.out] at x1; have d0 := kc hb12 d0; have d1 := kc hb12 d1; have d2 := kc hb12 d2; have d4 := kc hb12 d4; have hgl := Nat.lt_of_lt_of_le hgl hb12.size; dsimp only)) | (with_reducible refine stop_region 18 ?_) | (with_reducible refine Keep.last ?_) | (with_reducible refine Keep.below (by assumption) ?_) | (with_reducible refine Keep.kept (by assumption) ?_) | (with_reducible refine Keep.alloc ?_) | (with_reducible refine Keep.same ?_) | ((with_reducible refine WpH.here ?_); first | (refine WpH.nil ?_; refine NoP.normal ?_) | (refine WpH.load (by rfl) (by rfl) (by go_simp; rfl) ?_; simp only [Act.put, List.setIfInBounds_toArray, List.set_cons_zero, List.set_cons_succ]) | (refine WpH.loadT (by rfl) (by rfl) (by go_simp; rfl) (by rintro _ _ ⟨⟩; exact ⟨_, _, _, _, _, _, by rfl, by assumption, by assumption⟩) ?_; simp only [Act.put, List.setIfInBounds_toArray, List.set_cons_zero, List.set_cons_succ]) | (refine WpH.pure (by rfl) (fun w_ => by go_simp; (try go_bits); rfl) ?_; simp only [Act.put, List.setIfInBounds_toArray, List.set_cons_zero, List.set_cons_succ]) | (refine WpH.wild1 (by rfl) (fun _ _ => ?_)) | (refine WpH.skip (by rfl) ?_; simp only [Act.put, List.setIfInBounds_toArray, List.set_cons_zero, List.set_cons_succ])) | go_values | go_skip | go_guarded | go_step | go_upon | go_back)
      refine Stop.go ?_
      have hb12' : Below w11.heap.size w11 w12 := (Below.refl _ w11).drew.trans hb12
      have hM12 := hM11.step hb12'
      have hL12 := hL11.step hb12'
      have hbb12 := bvia hb8 hb12'
      have HC' := hid (HC.out w12 hb12')
      rw [show M.length - 1 = L.length from by have := Hlen.out; omega] at HC'
      clear HC d0 d1 d2 d4
      repeat' (first | (go_at_call 70; go_must ((with_reducible refine Calls.mono HC'.out ?_); rintro _ w16 ⟨A3, c3, rfl, hNow, hb16⟩; dsimp only)) | (with_reducible refine stop_region 19 ?_) | (with_reducible refine Keep.last ?_) | (with_reducible refine Keep.below (by assumption) ?_) | (with_reducible refine Keep.kept (by assumption) ?_) | (with_reducible refine Keep.alloc ?_) | (with_reducible refine Keep.same ?_) | ((with_reducible refine WpH.here ?_); first | (refine WpH.nil ?_; refine NoP.normal ?_) | (refine WpH.load (by rfl) (by rfl) (by go_simp; rfl) ?_; simp only [Act.put, List.setIfInBounds_toArray, List.set_cons_zero, List.set_cons_succ]) | (refine WpH.loadT (by rfl) (by rfl) (by go_simp; rfl) (by rintro _ _ ⟨⟩; exact ⟨_, _, _, _, _, _, by rfl, by assumption, by assumption⟩) ?_; simp only [Act.put, List.setIfInBounds_toArray, List.set_cons_zero, List.set_cons_succ]) | (refine WpH.pure (by rfl) (fun w_ => by go_simp; (try go_bits); rfl) ?_; simp only [Act.put, List.setIfInBounds_toArray, List.set_cons_zero, List.set_cons_succ]) | (refine WpH.wild1 (by rfl) (fun _ _ => ?_)) | (refine WpH.skip (by rfl) ?_; simp only [Act.put, List.setIfInBounds_toArray, List.set_cons_zero, List.set_cons_succ])) | go_values | go_skip | go_guarded | go_step | go_upon | go_back)
      refine Stop.go ?_
      have HV2 := hid (view_any w16 _ mb M _ (hM12.step hb16) (by omega))
      rw [hvw] at HV2
      have hL8 := hL12.step hb16
      have hb8 := bvia hbb12 hb16
      clear hvw hlc
      repeat' (first | (go_at_call 66; go_must ((with_reducible refine Calls.mono HV2.out ?_); rintro _ w13 ⟨rfl, hb13⟩; have hl13 := hL8.step hb13; have hm13 := hNow.step hb13; dsimp only)) | (go_at_call 37; go_must ((with_reducible refine Calls.mono (els_eq _ _ _ _ _ L (fun _ => True) (fun _ => True) w13 (hm13.row fun _ _ _ => trivial) (hl13.row fun _ _ _ => trivial)) ?_); rintro _ w14 ⟨rfl, hb14⟩; dsimp only)) | (go_at_call 32; go_must ((with_reducible refine Calls.mono (HK.out _) ?_); rintro _ w15 ⟨rfl, hb15⟩; dsimp only)) | (with_reducible refine Keep.last ?_) | (with_reducible refine Keep.below (by assumption) ?_) | (with_reducible refine Keep.kept (by assumption) ?_) | (with_reducible refine Keep.alloc ?_) | (with_reducible refine Keep.same ?_) | ((with_reducible refine WpH.here ?_); first | (refine WpH.nil ?_; refine NoP.normal ?_) | (refine WpH.load (by rfl) (by rfl) (by go_simp; rfl) ?_; simp only [Act.put, List.setIfInBounds_toArray, List.set_cons_zero, List.set_cons_succ]) | (refine WpH.loadT (by rfl) (by rfl) (by go_simp; rfl) (by rintro _ _ ⟨⟩; exact ⟨_, _, _, _, _, _, by rfl, by assumption, by assumption⟩) ?_; simp only [Act.put, List.setIfInBounds_toArray, List.set_cons_zero, List.set_cons_succ]) | (refine WpH.pure (by rfl) (fun w_ => by go_simp; (try go_bits); rfl) ?_; simp only [Act.put, List.setIfInBounds_toArray, List.set_cons_zero, List.set_cons_succ]) | (refine WpH.wild1 (by rfl) (fun _ _ => ?_)) | (refine WpH.skip (by rfl) ?_; simp only [Act.put, List.setIfInBounds_toArray, List.set_cons_zero, List.set_cons_succ])) | go_values | go_skip | go_guarded | go_step | go_upon | go_back)
      skip
      go_ret
      exact ⟨rfl, bvia (bvia (bvia hb8 hb13) hb14) hb15⟩
    · obtain rfl := Hund.out.still hk
      have HV2 := hid (view_any w11 _ mb M _ hM11 (by omega))
      have hL8 := hL11
      have hNow := hown11
      repeat' (first | (go_at_call 66; go_must ((with_reducible refine Calls.mono HV2.out ?_); rintro _ w13 ⟨rfl, hb13⟩; have hl13 := hL8.step hb13; have hm13 := hNow.step hb13; dsimp only)) | (go_at_call 37; go_must ((with_reducible refine Calls.mono (els_eq _ _ _ _ _ M (fun _ => True) (fun _ => True) w13 (hm13.row fun _ _ _ => trivial) (hl13.row fun _ _ _ => trivial)) ?_); rintro _ w14 ⟨rfl, hb14⟩; dsimp only)) | (go_at_call 32; go_must ((with_reducible refine Calls.mono (HK.out _) ?_); rintro _ w15 ⟨rfl, hb15⟩; dsimp only)) | (with_reducible refine Keep.last ?_) | (with_reducible refine Keep.below (by assumption) ?_) | (with_reducible refine Keep.kept (by assumption) ?_) | (with_reducible refine Keep.alloc ?_) | (with_reducible refine Keep.same ?_) | ((with_reducible refine WpH.here ?_); first | (refine WpH.nil ?_; refine NoP.normal ?_) | (refine WpH.load (by rfl) (by rfl) (by go_simp; rfl) ?_; simp only [Act.put, List.setIfInBounds_toArray, List.set_cons_zero, List.set_cons_succ]) | (refine WpH.loadT (by rfl) (by rfl) (by go_simp; rfl) (by rintro _ _ ⟨⟩; exact ⟨_, _, _, _, _, _, by rfl, by assumption, by assumption⟩) ?_; simp only [Act.put, List.setIfInBounds_toArray, List.set_cons_zero, List.set_cons_succ]) | (refine WpH.pure (by rfl) (fun w_ => by go_simp; (try go_bits); rfl) ?_; simp only [Act.put, List.setIfInBounds_toArray, List.set_cons_zero, List.set_cons_succ]) | (refine WpH.wild1 (by rfl) (fun _ _ => ?_)) | (refine WpH.skip (by rfl) ?_; simp only [Act.put, List.setIfInBounds_toArray, List.set_cons_zero, List.set_cons_succ])) | go_values | go_skip | go_guarded | go_step | go_upon | go_back)
      skip
      go_ret
      exact ⟨rfl, bvia (bvia (bvia hb8 hb13) hb14) hb15⟩
end Go.Proofs.YtogkbddniacgiaaDoor
