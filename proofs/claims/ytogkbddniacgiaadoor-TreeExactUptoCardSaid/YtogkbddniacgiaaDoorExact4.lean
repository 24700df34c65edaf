/- What is asked of a tree beside its plain list: At, Before, Find and FindLine: the walks. Conditions: both lie in memory, fewer than 601 elements; the reasons lie in memory. -/
import Derived.Test.YtogkbddniacgiaaDoorExact2
import Derived.Test.YtogkbddniacgiaaDoorExact3
import Derived.Test.YtogkbddniacgiaaDoorTreeFinds
namespace Go.Proofs.YtogkbddniacgiaaDoor
set_option linter.unusedSimpArgs false
set_option linter.unusedVariables false
open Go Go.RowKit
variable {a : Nat → Addr}
set_option maxRecDepth 100000 in
set_option maxHeartbeats 4000000 in
theorem asksAt (w : World) (pb gt ck base : Nat) (T : Tr) (k : Nat) (h : PairAt w pb gt ck T base) (hl : T.all.length ≤ 600) (hk : k < T.all.length) :
    Calls Tryd.prog 64 #[.pointer (some ⟨pb, 0, none⟩), .int .i64 3, .int .i64 k] w fun e w' => e = .returned (.bool true) ∧ Below w.heap.size w w' := by
  obtain ⟨⟨hlp, hlg⟩, ⟨A, c, hp, hr⟩, p, hg, hT⟩ := h
  obtain ⟨p0, p1, p2, pl⟩ := hp.three'
  have HA := hid (at_ok T p gt ck k _ w hg hT (by omega) hk)
  have HN := hid (fun W => no_none ({ data := #[65, 116] } : ByteArray) k W)
  have HF := hid refused_none
  unfold noNone at HN HF
  have hi1 : ¬ (k : Int) < 0 := by omega
  have hi2 : ¬ (k : Int) ≥ T.all.length := by omega
  clear hg hT
  go_enter Tryd.func64, Tryd.ntmps64
  repeat' (first | (with_reducible refine stop_region 7 ?_) | (go_at_call 29; go_must ((with_reducible refine Calls.mono HA.out ?_); rintro _ w1 ⟨⟨e0, rfl, he0⟩, hb1⟩; unfold El.agg; dsimp only)) | (with_reducible refine Keep.last ?_) | (with_reducible refine Keep.below (by assumption) ?_) | (with_reducible refine Keep.kept (by assumption) ?_) | (with_reducible refine Keep.alloc ?_) | (with_reducible refine Keep.same ?_) | ((with_reducible refine WpH.here ?_); first | (refine WpH.nil ?_; refine NoP.normal ?_) | (refine WpH.load (by rfl) (by rfl) (by go_simp; rfl) ?_; simp only [Act.put, List.setIfInBounds_toArray, List.set_cons_zero, List.set_cons_succ]) | (refine WpH.loadT (by rfl) (by rfl) (by go_simp; rfl) (by rintro _ _ ⟨⟩; exact ⟨_, _, _, _, _, _, by rfl, by assumption, by assumption⟩) ?_; simp only [Act.put, List.setIfInBounds_toArray, List.set_cons_zero, List.set_cons_succ]) | (refine WpH.pure (by rfl) (fun w_ => by go_simp; (try go_bits); rfl) ?_; simp only [Act.put, List.setIfInBounds_toArray, List.set_cons_zero, List.set_cons_succ]) | (refine WpH.wild1 (by rfl) (fun _ _ => ?_)) | (refine WpH.skip (by rfl) ?_; simp only [Act.put, List.setIfInBounds_toArray, List.set_cons_zero, List.set_cons_succ])) | go_values | go_skip | go_guarded | go_step | go_upon | go_back)
  refine Stop.go ?_
  obtain ⟨hX, hY, eXY⟩ := boxes2 w1 36 36 #[.int .i64 e0.epoch, .int .i64 e0.rep, .int .i64 e0.num, .int .i32 e0.char, .int .i64 e0.hides] #[.int .i64 0, .int .i64 0, .int .i64 0, .int .i32 0, .int .i64 0]
  generalize (w1.alloc (.cells #[.int .i64 e0.epoch, .int .i64 e0.rep, .int .i64 e0.num, .int .i32 e0.char, .int .i64 e0.hides] 36)).alloc (.cells #[.int .i64 0, .int .i64 0, .int .i64 0, .int .i32 0, .int .i64 0] 36) = W2 at *
  have hb2 := bvia hb1 eXY
  have hz1 := hb1.size
  clear p0 p1 p2 hb1 eXY HA
  obtain ⟨p0, p1, p2, pl2⟩ := (hp.step hb2).three'
  obtain ⟨b, off, e1, rfl, -, he1, c0, c1, c2, c3, c4⟩ := (hr.step hb2).at_ hk
  obtain rfl := Option.some.inj (he0.symm.trans he1)
  have hcb := lt_of_cell' c0
  dsimp only at hcb
  clear he0 he1
  obtain ⟨y0, y1, y2, y3, y4, yl⟩ := hY.five
  have f0 := hY.frozen 0
  have f1 := hY.frozen 1
  have f2 := hY.frozen 2
  have f3 := hY.frozen 3
  have f4 := hY.frozen 4
  repeat' (first | (with_reducible refine stop_region 9 ?_) | (with_reducible refine Keep.last ?_) | (with_reducible refine Keep.below (by assumption) ?_) | (with_reducible refine Keep.kept (by assumption) ?_) | (with_reducible refine Keep.alloc ?_) | (with_reducible refine Keep.same ?_) | ((with_reducible refine WpH.here ?_); first | (refine WpH.nil ?_; refine NoP.normal ?_) | (refine WpH.load (by rfl) (by rfl) (by go_simp; rfl) ?_; simp only [Act.put, List.setIfInBounds_toArray, List.set_cons_zero, List.set_cons_succ]) | (refine WpH.loadT (by rfl) (by rfl) (by go_simp; rfl) (by rintro _ _ ⟨⟩; exact ⟨_, _, _, _, _, _, by rfl, by assumption, by assumption⟩) ?_; simp only [Act.put, List.setIfInBounds_toArray, List.set_cons_zero, List.set_cons_succ]) | (refine WpH.pure (by rfl) (fun w_ => by go_simp; (try go_bits); rfl) ?_; simp only [Act.put, List.setIfInBounds_toArray, List.set_cons_zero, List.set_cons_succ]) | (refine WpH.wild1 (by rfl) (fun _ _ => ?_)) | (refine WpH.skip (by rfl) ?_; simp only [Act.put, List.setIfInBounds_toArray, List.set_cons_zero, List.set_cons_succ])) | go_values | go_skip | go_guarded | go_step | go_upon | go_back)
  refine Stop.go ?_
  have hY3 := hY.set5 (.int .i64 e0.epoch) (.int .i64 e0.rep) (.int .i64 e0.num) (.int .i32 e0.char) (.int .i64 e0.hides)
  have hX3 := ((((hX.far (p := ⟨w1.heap.size + 1, 0, none⟩) (by show w1.heap.size ≠ w1.heap.size + 1; omega) (.int .i64 e0.epoch)).far (p := ⟨w1.heap.size + 1, 1, none⟩) (by show w1.heap.size ≠ w1.heap.size + 1; omega) (.int .i64 e0.rep)).far (p := ⟨w1.heap.size + 1, 2, none⟩) (by show w1.heap.size ≠ w1.heap.size + 1; omega) (.int .i64 e0.num)).far (p := ⟨w1.heap.size + 1, 3, none⟩) (by show w1.heap.size ≠ w1.heap.size + 1; omega) (.int .i32 e0.char)).far (p := ⟨w1.heap.size + 1, 4, none⟩) (by show w1.heap.size ≠ w1.heap.size + 1; omega) (.int .i64 e0.hides)
  have hb3 : Below w.heap.size w (((((W2.setCell ⟨w1.heap.size + 1, 0, none⟩ (.int .i64 e0.epoch)).setCell ⟨w1.heap.size + 1, 1, none⟩ (.int .i64 e0.rep)).setCell ⟨w1.heap.size + 1, 2, none⟩ (.int .i64 e0.num)).setCell ⟨w1.heap.size + 1, 3, none⟩ (.int .i32 e0.char)).setCell ⟨w1.heap.size + 1, 4, none⟩ (.int .i64 e0.hides)) := bset (bset (bset (bset (bset hb2 (by show w.heap.size ≤ w1.heap.size + 1; omega)) (by show w.heap.size ≤ w1.heap.size + 1; omega)) (by show w.heap.size ≤ w1.heap.size + 1; omega)) (by show w.heap.size ≤ w1.heap.size + 1; omega)) (by show w.heap.size ≤ w1.heap.size + 1; omega)
  clear p0 p1 p2 c0 c1 c2 c3 c4 y0 y1 y2 y3 y4 f0 f1 f2 f3 f4 hX hY
  generalize ((((W2.setCell ⟨w1.heap.size + 1, 0, none⟩ (.int .i64 e0.epoch)).setCell ⟨w1.heap.size + 1, 1, none⟩ (.int .i64 e0.rep)).setCell ⟨w1.heap.size + 1, 2, none⟩ (.int .i64 e0.num)).setCell ⟨w1.heap.size + 1, 3, none⟩ (.int .i32 e0.char)).setCell ⟨w1.heap.size + 1, 4, none⟩ (.int .i64 e0.hides) = W3 at *
  obtain ⟨x0, x1, x2, x3, x4, xl⟩ := hX3.five
  obtain ⟨y0, y1, y2, y3, y4, yl⟩ := hY3.five
  repeat' (first | (go_at_call 89; go_must ((with_reducible refine Calls.mono (HN.out _) ?_); rintro _ w8 ⟨rfl, hb8⟩; dsimp only)) | (go_at_call 28; go_must ((with_reducible refine Calls.mono (HF.out _) ?_); rintro _ w9 ⟨rfl, hb9⟩; dsimp only)) | (with_reducible refine Keep.last ?_) | (with_reducible refine Keep.below (by assumption) ?_) | (with_reducible refine Keep.kept (by assumption) ?_) | (with_reducible refine Keep.alloc ?_) | (with_reducible refine Keep.same ?_) | ((with_reducible refine WpH.here ?_); first | (refine WpH.nil ?_; refine NoP.normal ?_) | (refine WpH.load (by rfl) (by rfl) (by go_simp; rfl) ?_; simp only [Act.put, List.setIfInBounds_toArray, List.set_cons_zero, List.set_cons_succ]) | (refine WpH.loadT (by rfl) (by rfl) (by go_simp; rfl) (by rintro _ _ ⟨⟩; exact ⟨_, _, _, _, _, _, by rfl, by assumption, by assumption⟩) ?_; simp only [Act.put, List.setIfInBounds_toArray, List.set_cons_zero, List.set_cons_succ]) | (refine WpH.pure (by rfl) (fun w_ => by go_simp; (try go_bits); rfl) ?_; simp only [Act.put, List.setIfInBounds_toArray, List.set_cons_zero, List.set_cons_succ]) | (refine WpH.wild1 (by rfl) (fun _ _ => ?_)) | (refine WpH.skip (by rfl) ?_; simp only [Act.put, List.setIfInBounds_toArray, List.set_cons_zero, List.set_cons_succ])) | go_values | go_skip | go_guarded | go_step | go_upon | go_back)
  skip
  go_ret
  exact ⟨rfl, bvia (bvia hb3 hb8) hb9⟩
set_option maxRecDepth 100000 in
set_option maxHeartbeats 4000000 in
theorem asksAt_out (w : World) (pb gt ck base : Nat) (T : Tr) (i : Int) (h : PairAt w pb gt ck T base) (hi : i < 0 ∨ T.all.length ≤ i) (hs : Sents w (fun b => b < base) a) :
    Calls Tryd.prog 64 #[.pointer (some ⟨pb, 0, none⟩), .int .i64 3, .int .i64 i] w fun e w' => e = .returned (.bool true) ∧ Below w.heap.size w w' := by
  obtain ⟨⟨hlp, hlg⟩, ⟨A, c, hp, hr⟩, p, hg, hT⟩ := h
  obtain ⟨p0, p1, p2, pl⟩ := hp.three'
  have Hss := hid hs
  have HA := hid (at_no T p gt ck i _ (fun b => b < base) w hg hT hs hi)
  have HN := hid (fun W => no_any ({ data := #[65, 116] } : ByteArray) i (fun _ => False) W)
  clear hg hT
  by_cases hi0 : i < 0
  · clear hi
    go_enter Tryd.func64, Tryd.ntmps64
    repeat' (first | (with_reducible refine stop_region 9 ?_) | (go_at_call 29; go_must ((with_reducible refine Calls.mono HA.out ?_); rintro _ w1 ⟨v1, rfl, he1, hb1⟩; dsimp only)) | (with_reducible refine Keep.last ?_) | (with_reducible refine Keep.below (by assumption) ?_) | (with_reducible refine Keep.kept (by assumption) ?_) | (with_reducible refine Keep.alloc ?_) | (with_reducible refine Keep.same ?_) | ((with_reducible refine WpH.here ?_); first | (refine WpH.nil ?_; refine NoP.normal ?_) | (refine WpH.load (by rfl) (by rfl) (by go_simp; rfl) ?_; simp only [Act.put, List.setIfInBounds_toArray, List.set_cons_zero, List.set_cons_succ]) | (refine WpH.loadT (by rfl) (by rfl) (by go_simp; rfl) (by rintro _ _ ⟨⟩; exact ⟨_, _, _, _, _, _, by rfl, by assumption, by assumption⟩) ?_; simp only [Act.put, List.setIfInBounds_toArray, List.set_cons_zero, List.set_cons_succ]) | (refine WpH.pure (by rfl) (fun w_ => by go_simp; (try go_bits); rfl) ?_; simp only [Act.put, List.setIfInBounds_toArray, List.set_cons_zero, List.set_cons_succ]) | (refine WpH.wild1 (by rfl) (fun _ _ => ?_)) | (refine WpH.skip (by rfl) ?_; simp only [Act.put, List.setIfInBounds_toArray, List.set_cons_zero, List.set_cons_succ])) | go_values | go_skip | go_guarded | go_step | go_upon | go_back)
    refine Stop.go ?_
    obtain ⟨hX, hY, eXY⟩ := boxes2 w1 36 36 #[.int .i64 0, .int .i64 0, .int .i64 0, .int .i32 0, .int .i64 0] #[.int .i64 0, .int .i64 0, .int .i64 0, .int .i32 0, .int .i64 0]
    have he5 := he1.step eXY
    generalize (w1.alloc (.cells #[.int .i64 0, .int .i64 0, .int .i64 0, .int .i32 0, .int .i64 0] 36)).alloc (.cells #[.int .i64 0, .int .i64 0, .int .i64 0, .int .i32 0, .int .i64 0] 36) = W2 at *
    have hb2 := bvia hb1 eXY
    clear p0 p1 p2 he1
    obtain ⟨x0, x1, x2, x3, x4, xl⟩ := hX.five
    obtain ⟨y0, y1, y2, y3, y4, yl⟩ := hY.five
    have HV5 := hid he5
    obtain ⟨tv, xv, rfl⟩ := he5.notNil
    have HF := hid (fun V V' v (hno : IsNo V' (Fr V (fun _ => False)) [⟨({ data := #[116, 114, 101, 101] } : ByteArray), ({ data := #[65, 116] } : ByteArray), atOf i⟩] 2 v) (he : IsErr V' (fun _ => True) a [⟨({ data := #[116, 114, 101, 101] } : ByteArray), ({ data := #[65, 116] } : ByteArray), atOf i⟩] 2 (.iface tv (.pointer (some xv)))) (hs : Sents V' (fun _ => True) a) => refused_any _ 2 _ v _ _ V' he hno hs (by simp))
    clear hs he5
    repeat' (first | (go_at_call 89; go_must ((with_reducible refine Calls.mono (HN.out _) ?_); rintro _ w9 ⟨v9, rfl, hno9, hb9⟩; dsimp only)) | (go_at_call 28; go_must ((with_reducible refine Calls.mono (HF.out _ w9 _ hno9 ((HV5.out.step hb9).more fun _ _ _ => trivial) (Hss.out.step (bvia hb2 hb9)).every) ?_); rintro _ w10 ⟨rfl, hb10⟩; dsimp only)) | (with_reducible refine Keep.last ?_) | (with_reducible refine Keep.below (by assumption) ?_) | (with_reducible refine Keep.kept (by assumption) ?_) | (with_reducible refine Keep.alloc ?_) | (with_reducible refine Keep.same ?_) | ((with_reducible refine WpH.here ?_); first | (refine WpH.nil ?_; refine NoP.normal ?_) | (refine WpH.load (by rfl) (by rfl) (by go_simp; rfl) ?_; simp only [Act.put, List.setIfInBounds_toArray, List.set_cons_zero, List.set_cons_succ]) | (refine WpH.loadT (by rfl) (by rfl) (by go_simp; rfl) (by rintro _ _ ⟨⟩; exact ⟨_, _, _, _, _, _, by rfl, by assumption, by assumption⟩) ?_; simp only [Act.put, List.setIfInBounds_toArray, List.set_cons_zero, List.set_cons_succ]) | (refine WpH.pure (by rfl) (fun w_ => by go_simp; (try go_bits); rfl) ?_; simp only [Act.put, List.setIfInBounds_toArray, List.set_cons_zero, List.set_cons_succ]) | (refine WpH.wild1 (by rfl) (fun _ _ => ?_)) | (refine WpH.skip (by rfl) ?_; simp only [Act.put, List.setIfInBounds_toArray, List.set_cons_zero, List.set_cons_succ])) | go_values | go_skip | go_guarded | go_step | go_upon | go_back)
    skip
    go_ret
    exact ⟨rfl, bvia (bvia hb2 hb9) hb10⟩
  · have hi1 : (T.all.length : Int) ≤ i := by omega
    clear hi
    go_enter Tryd.func64, Tryd.ntmps64
    repeat' (first | (with_reducible refine stop_region 9 ?_) | (go_at_call 29; go_must ((with_reducible refine Calls.mono HA.out ?_); rintro _ w1 ⟨v1, rfl, he1, hb1⟩; dsimp only)) | (with_reducible refine Keep.last ?_) | (with_reducible refine Keep.below (by assumption) ?_) | (with_reducible refine Keep.kept (by assumption) ?_) | (with_reducible refine Keep.alloc ?_) | (with_reducible refine Keep.same ?_) | ((with_reducible refine WpH.here ?_); first | (refine WpH.nil ?_; refine NoP.normal ?_) | (refine WpH.load (by rfl) (by rfl) (by go_simp; rfl) ?_; simp only [Act.put, List.setIfInBounds_toArray, List.set_cons_zero, List.set_cons_succ]) | (refine WpH.loadT (by rfl) (by rfl) (by go_simp; rfl) (by rintro _ _ ⟨⟩; exact ⟨_, _, _, _, _, _, by rfl, by assumption, by assumption⟩) ?_; simp only [Act.put, List.setIfInBounds_toArray, List.set_cons_zero, List.set_cons_succ]) | (refine WpH.pure (by rfl) (fun w_ => by go_simp; (try go_bits); rfl) ?_; simp only [Act.put, List.setIfInBounds_toArray, List.set_cons_zero, List.set_cons_succ]) | (refine WpH.wild1 (by rfl) (fun _ _ => ?_)) | (refine WpH.skip (by rfl) ?_; simp only [Act.put, List.setIfInBounds_toArray, List.set_cons_zero, List.set_cons_succ])) | go_values | go_skip | go_guarded | go_step | go_upon | go_back)
    refine Stop.go ?_
    obtain ⟨hX, hY, eXY⟩ := boxes2 w1 36 36 #[.int .i64 0, .int .i64 0, .int .i64 0, .int .i32 0, .int .i64 0] #[.int .i64 0, .int .i64 0, .int .i64 0, .int .i32 0, .int .i64 0]
    have he5 := he1.step eXY
    generalize (w1.alloc (.cells #[.int .i64 0, .int .i64 0, .int .i64 0, .int .i32 0, .int .i64 0] 36)).alloc (.cells #[.int .i64 0, .int .i64 0, .int .i64 0, .int .i32 0, .int .i64 0] 36) = W2 at *
    have hb2 := bvia hb1 eXY
    clear p0 p1 p2 he1
    obtain ⟨x0, x1, x2, x3, x4, xl⟩ := hX.five
    obtain ⟨y0, y1, y2, y3, y4, yl⟩ := hY.five
    have HV5 := hid he5
    obtain ⟨tv, xv, rfl⟩ := he5.notNil
    have HF := hid (fun V V' v (hno : IsNo V' (Fr V (fun _ => False)) [⟨({ data := #[116, 114, 101, 101] } : ByteArray), ({ data := #[65, 116] } : ByteArray), atOf i⟩] 2 v) (he : IsErr V' (fun _ => True) a [⟨({ data := #[116, 114, 101, 101] } : ByteArray), ({ data := #[65, 116] } : ByteArray), atOf i⟩] 2 (.iface tv (.pointer (some xv)))) (hs : Sents V' (fun _ => True) a) => refused_any _ 2 _ v _ _ V' he hno hs (by simp))
    clear hs he5
    repeat' (first | (go_at_call 89; go_must ((with_reducible refine Calls.mono (HN.out _) ?_); rintro _ w9 ⟨v9, rfl, hno9, hb9⟩; dsimp only)) | (go_at_call 28; go_must ((with_reducible refine Calls.mono (HF.out _ w9 _ hno9 ((HV5.out.step hb9).more fun _ _ _ => trivial) (Hss.out.step (bvia hb2 hb9)).every) ?_); rintro _ w10 ⟨rfl, hb10⟩; dsimp only)) | (with_reducible refine Keep.last ?_) | (with_reducible refine Keep.below (by assumption) ?_) | (with_reducible refine Keep.kept (by assumption) ?_) | (with_reducible refine Keep.alloc ?_) | (with_reducible refine Keep.same ?_) | ((with_reducible refine WpH.here ?_); first | (refine WpH.nil ?_; refine NoP.normal ?_) | (refine WpH.load (by rfl) (by rfl) (by go_simp; rfl) ?_; simp only [Act.put, List.setIfInBounds_toArray, List.set_cons_zero, List.set_cons_succ]) | (refine WpH.loadT (by rfl) (by rfl) (by go_simp; rfl) (by rintro _ _ ⟨⟩; exact ⟨_, _, _, _, _, _, by rfl, by assumption, by assumption⟩) ?_; simp only [Act.put, List.setIfInBounds_toArray, List.set_cons_zero, List.set_cons_succ]) | (refine WpH.pure (by rfl) (fun w_ => by go_simp; (try go_bits); rfl) ?_; simp only [Act.put, List.setIfInBounds_toArray, List.set_cons_zero, List.set_cons_succ]) | (refine WpH.wild1 (by rfl) (fun _ _ => ?_)) | (refine WpH.skip (by rfl) ?_; simp only [Act.put, List.setIfInBounds_toArray, List.set_cons_zero, List.set_cons_succ])) | go_values | go_skip | go_guarded | go_step | go_upon | go_back)
    skip
    go_ret
    exact ⟨rfl, bvia (bvia hb2 hb9) hb10⟩
end Go.Proofs.YtogkbddniacgiaaDoor
