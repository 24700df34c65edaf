/- What is asked of a tree beside its plain list: Before, Find and FindLine: the walks. Conditions: both lie in memory, fewer than 601 elements; the reasons lie in memory. -/
import Derived.Test.YtogkbddniacgiaaDoorExact4
namespace Go.Proofs.YtogkbddniacgiaaDoor
set_option linter.unusedSimpArgs false
set_option linter.unusedVariables false
open Go Go.RowKit
variable {a : Nat → Addr}
set_option maxRecDepth 100000 in
set_option maxHeartbeats 4000000 in
theorem asksBefore (w : World) (pb gt ck base : Nat) (T : Tr) (k : Nat) (h : PairAt w pb gt ck T base) (hl : T.all.length ≤ 600) (hk : k ≤ T.all.length) :
    Calls Tryd.prog 64 #[.pointer (some ⟨pb, 0, none⟩), .int .i64 4, .int .i64 k] w fun e w' => e = .returned (.bool true) ∧ Below w.heap.size w w' := by
  obtain ⟨⟨hlp, hlg⟩, ⟨A, c, hp, hr⟩, p, hg, hT⟩ := h
  obtain ⟨p0, p1, p2, pl⟩ := hp.three'
  have HA := hid (before_ok T p gt ck k _ w hg hT (by omega) hk)
  have HN := hid (fun W => no_none ({ data := #[66, 101, 102, 111, 114, 101] } : ByteArray) k W)
  have HF := hid refused_none
  unfold noNone at HN HF
  have hi1 : ¬ (k : Int) < 0 := by omega
  have hi2 : ¬ (k : Int) > T.all.length := by omega
  have hlc := hr.2.1
  have hlm := hr.2.2.1
  have hkc : k ≤ c := by omega
  clear hg hT
  generalize hq1 : liveOf (T.all.take k) = q1 at *
  generalize hq2 : linesOf (T.all.take k) = q2 at *
  have Hq := hid (And.intro hq1 hq2)
  clear hq1 hq2
  go_enter Tryd.func64, Tryd.ntmps64
  repeat' (first | (with_reducible refine stop_region 14 ?_) | (go_at_call 56; go_must ((with_reducible refine Calls.mono HA.out ?_); rintro _ w1 ⟨rfl, hb1⟩; dsimp only)) | (with_reducible refine Keep.last ?_) | (with_reducible refine Keep.below (by assumption) ?_) | (with_reducible refine Keep.kept (by assumption) ?_) | (with_reducible refine Keep.alloc ?_) | (with_reducible refine Keep.same ?_) | ((with_reducible refine WpH.here ?_); first | (refine WpH.nil ?_; refine NoP.normal ?_) | (refine WpH.load (by rfl) (by rfl) (by go_simp; rfl) ?_; simp only [Act.put, List.setIfInBounds_toArray, List.set_cons_zero, List.set_cons_succ]) | (refine WpH.loadT (by rfl) (by rfl) (by go_simp; rfl) (by rintro _ _ ⟨⟩; exact ⟨_, _, _, _, _, _, by rfl, by assumption, by assumption⟩) ?_; simp only [Act.put, List.setIfInBounds_toArray, List.set_cons_zero, List.set_cons_succ]) | (refine WpH.pure (by rfl) (fun w_ => by go_simp; (try go_bits); rfl) ?_; simp only [Act.put, List.setIfInBounds_toArray, List.set_cons_zero, List.set_cons_succ]) | (refine WpH.wild1 (by rfl) (fun _ _ => ?_)) | (refine WpH.skip (by rfl) ?_; simp only [Act.put, List.setIfInBounds_toArray, List.set_cons_zero, List.set_cons_succ])) | go_values | go_skip | go_guarded | go_step | go_upon | go_back)
  refine Stop.go ?_
  obtain ⟨hX, hY, eXY⟩ := boxes2 w1 93 93 #[.int .i64 q1, .int .i64 q2] #[.int .i64 0, .int .i64 0]
  generalize (w1.alloc (.cells #[.int .i64 q1, .int .i64 q2] 93)).alloc (.cells #[.int .i64 0, .int .i64 0] 93) = W2 at *
  have hb2 := bvia hb1 eXY
  have hz1 := hb1.size
  have HS := hid (refSum_any A k c (T.all.take k) _ W2 ((hr.step hb2).take_ hk) (by omega))
  rw [Hq.out.1, Hq.out.2] at HS
  clear p0 p1 p2 hb1 eXY HA
  obtain ⟨p0, p1, p2, pl2⟩ := (hp.step hb2).three'
  repeat' (first | (with_reducible refine stop_region 16 ?_) | (go_at_call 101; go_must ((with_reducible refine Calls.mono HS.out ?_); rintro _ w3 ⟨rfl, hb3⟩; have hY3 := hY.step hb3; have y0 := hY3.cell 0; have y1 := hY3.cell 1; have f0 := hY3.frozen 0; have f1 := hY3.frozen 1; have yl := hY3.lt; simp at y0 y1; dsimp only)) | (with_reducible refine Keep.last ?_) | (with_reducible refine Keep.below (by assumption) ?_) | (with_reducible refine Keep.kept (by assumption) ?_) | (with_reducible refine Keep.alloc ?_) | (with_reducible refine Keep.same ?_) | ((with_reducible refine WpH.here ?_); first | (refine WpH.nil ?_; refine NoP.normal ?_) | (refine WpH.load (by rfl) (by rfl) (by go_simp; rfl) ?_; simp only [Act.put, List.setIfInBounds_toArray, List.set_cons_zero, List.set_cons_succ]) | (refine WpH.loadT (by rfl) (by rfl) (by go_simp; rfl) (by rintro _ _ ⟨⟩; exact ⟨_, _, _, _, _, _, by rfl, by assumption, by assumption⟩) ?_; simp only [Act.put, List.setIfInBounds_toArray, List.set_cons_zero, List.set_cons_succ]) | (refine WpH.pure (by rfl) (fun w_ => by go_simp; (try go_bits); rfl) ?_; simp only [Act.put, List.setIfInBounds_toArray, List.set_cons_zero, List.set_cons_succ]) | (refine WpH.wild1 (by rfl) (fun _ _ => ?_)) | (refine WpH.skip (by rfl) ?_; simp only [Act.put, List.setIfInBounds_toArray, List.set_cons_zero, List.set_cons_succ])) | go_values | go_skip | go_guarded | go_step | go_upon | go_back)
  refine Stop.go ?_
  have hY4 := weight_set hY3 (x' := .int .i64 q1) (y' := .int .i64 q2)
  have hX4 := ((hX.step hb3).far (p := ⟨w1.heap.size + 1, 0, none⟩) (by show w1.heap.size ≠ w1.heap.size + 1; omega) (.int .i64 q1)).far (p := ⟨w1.heap.size + 1, 1, none⟩) (by show w1.heap.size ≠ w1.heap.size + 1; omega) (.int .i64 q2)
  have hb4 : Below w.heap.size w ((w3.setCell ⟨w1.heap.size + 1, 0, none⟩ (.int .i64 q1)).setCell ⟨w1.heap.size + 1, 1, none⟩ (.int .i64 q2)) := bset (bset (bvia hb2 hb3) (by show w.heap.size ≤ w1.heap.size + 1; omega)) (by show w.heap.size ≤ w1.heap.size + 1; omega)
  clear p0 p1 p2 y0 y1 f0 f1 hX hY hY3
  generalize (w3.setCell ⟨w1.heap.size + 1, 0, none⟩ (.int .i64 q1)).setCell ⟨w1.heap.size + 1, 1, none⟩ (.int .i64 q2) = W4 at *
  have x0 := hX4.cell 0
  have x1 := hX4.cell 1
  have xl := hX4.lt
  have y0 := hY4.cell 0
  have y1 := hY4.cell 1
  have yl := hY4.lt
  simp at x0 x1 y0 y1
  repeat' (first | (go_at_call 89; go_must ((with_reducible refine Calls.mono (HN.out _) ?_); rintro _ w8 ⟨rfl, hb8⟩; dsimp only)) | (go_at_call 28; go_must ((with_reducible refine Calls.mono (HF.out _) ?_); rintro _ w9 ⟨rfl, hb9⟩; dsimp only)) | (with_reducible refine Keep.last ?_) | (with_reducible refine Keep.below (by assumption) ?_) | (with_reducible refine Keep.kept (by assumption) ?_) | (with_reducible refine Keep.alloc ?_) | (with_reducible refine Keep.same ?_) | ((with_reducible refine WpH.here ?_); first | (refine WpH.nil ?_; refine NoP.normal ?_) | (refine WpH.load (by rfl) (by rfl) (by go_simp; rfl) ?_; simp only [Act.put, List.setIfInBounds_toArray, List.set_cons_zero, List.set_cons_succ]) | (refine WpH.loadT (by rfl) (by rfl) (by go_simp; rfl) (by rintro _ _ ⟨⟩; exact ⟨_, _, _, _, _, _, by rfl, by assumption, by assumption⟩) ?_; simp only [Act.put, List.setIfInBounds_toArray, List.set_cons_zero, List.set_cons_succ]) | (refine WpH.pure (by rfl) (fun w_ => by go_simp; (try go_bits); rfl) ?_; simp only [Act.put, List.setIfInBounds_toArray, List.set_cons_zero, List.set_cons_succ]) | (refine WpH.wild1 (by rfl) (fun _ _ => ?_)) | (refine WpH.skip (by rfl) ?_; simp only [Act.put, List.setIfInBounds_toArray, List.set_cons_zero, List.set_cons_succ])) | go_values | go_skip | go_guarded | go_step | go_upon | go_back)
  skip
  go_ret
  exact ⟨rfl, bvia (bvia hb4 hb8) hb9⟩
set_option maxRecDepth 100000 in
set_option maxHeartbeats 4000000 in
theorem asksBefore_out (w : World) (pb gt ck base : Nat) (T : Tr) (i : Int) (h : PairAt w pb gt ck T base) (hi : i < 0 ∨ T.all.length < i) (hs : Sents w (fun b => b < base) a) :
    Calls Tryd.prog 64 #[.pointer (some ⟨pb, 0, none⟩), .int .i64 4, .int .i64 i] w fun e w' => e = .returned (.bool true) ∧ Below w.heap.size w w' := by
  obtain ⟨⟨hlp, hlg⟩, ⟨A, c, hp, hr⟩, p, hg, hT⟩ := h
  obtain ⟨p0, p1, p2, pl⟩ := hp.three'
  have Hss := hid hs
  have HA := hid (before_no T p gt ck i _ (fun b => b < base) w hg hT hs hi)
  have HN := hid (fun W => no_any ({ data := #[66, 101, 102, 111, 114, 101] } : ByteArray) i (fun _ => False) W)
  clear hg hT
  by_cases hi0 : i < 0
  · clear hi
    go_enter Tryd.func64, Tryd.ntmps64
    repeat' (first | (with_reducible refine stop_region 16 ?_) | (go_at_call 56; go_must ((with_reducible refine Calls.mono HA.out ?_); rintro _ w1 ⟨v1, rfl, he1, hb1⟩; dsimp only)) | (with_reducible refine Keep.last ?_) | (with_reducible refine Keep.below (by assumption) ?_) | (with_reducible refine Keep.kept (by assumption) ?_) | (with_reducible refine Keep.alloc ?_) | (with_reducible refine Keep.same ?_) | ((with_reducible refine WpH.here ?_); first | (refine WpH.nil ?_; refine NoP.normal ?_) | (refine WpH.load (by rfl) (by rfl) (by go_simp; rfl) ?_; simp only [Act.put, List.setIfInBounds_toArray, List.set_cons_zero, List.set_cons_succ]) | (refine WpH.loadT (by rfl) (by rfl) (by go_simp; rfl) (by rintro _ _ ⟨⟩; exact ⟨_, _, _, _, _, _, by rfl, by assumption, by assumption⟩) ?_; simp only [Act.put, List.setIfInBounds_toArray, List.set_cons_zero, List.set_cons_succ]) | (refine WpH.pure (by rfl) (fun w_ => by go_simp; (try go_bits); rfl) ?_; simp only [Act.put, List.setIfInBounds_toArray, List.set_cons_zero, List.set_cons_succ]) | (refine WpH.wild1 (by rfl) (fun _ _ => ?_)) | (refine WpH.skip (by rfl) ?_; simp only [Act.put, List.setIfInBounds_toArray, List.set_cons_zero, List.set_cons_succ])) | go_values | go_skip | go_guarded | go_step | go_upon | go_back)
    refine Stop.go ?_
    obtain ⟨hX, hY, eXY⟩ := boxes2 w1 93 93 #[.int .i64 0, .int .i64 0] #[.int .i64 0, .int .i64 0]
    have he5 := he1.step eXY
    generalize (w1.alloc (.cells #[.int .i64 0, .int .i64 0] 93)).alloc (.cells #[.int .i64 0, .int .i64 0] 93) = W2 at *
    have hb2 := bvia hb1 eXY
    clear p0 p1 p2 he1
    have x0 := hX.cell 0
    have x1 := hX.cell 1
    have xl := hX.lt
    have y0 := hY.cell 0
    have y1 := hY.cell 1
    have yl := hY.lt
    simp at x0 x1 y0 y1
    have HV5 := hid he5
    obtain ⟨tv, xv, rfl⟩ := he5.notNil
    have HF := hid (fun V V' v (hno : IsNo V' (Fr V (fun _ => False)) [⟨({ data := #[116, 114, 101, 101] } : ByteArray), ({ data := #[66, 101, 102, 111, 114, 101] } : ByteArray), atOf i⟩] 2 v) (he : IsErr V' (fun _ => True) a [⟨({ data := #[116, 114, 101, 101] } : ByteArray), ({ data := #[66, 101, 102, 111, 114, 101] } : ByteArray), atOf i⟩] 2 (.iface tv (.pointer (some xv)))) (hs : Sents V' (fun _ => True) a) => refused_any _ 2 _ v _ _ V' he hno hs (by simp))
    clear hs he5
    repeat' (first | (go_at_call 89; go_must ((with_reducible refine Calls.mono (HN.out _) ?_); rintro _ w9 ⟨v9, rfl, hno9, hb9⟩; dsimp only)) | (go_at_call 28; go_must ((with_reducible refine Calls.mono (HF.out _ w9 _ hno9 ((HV5.out.step hb9).more fun _ _ _ => trivial) (Hss.out.step (bvia hb2 hb9)).every) ?_); rintro _ w10 ⟨rfl, hb10⟩; dsimp only)) | (with_reducible refine Keep.last ?_) | (with_reducible refine Keep.below (by assumption) ?_) | (with_reducible refine Keep.kept (by assumption) ?_) | (with_reducible refine Keep.alloc ?_) | (with_reducible refine Keep.same ?_) | ((with_reducible refine WpH.here ?_); first | (refine WpH.nil ?_; refine NoP.normal ?_) | (refine WpH.load (by rfl) (by rfl) (by go_simp; rfl) ?_; simp only [Act.put, List.setIfInBounds_toArray, List.set_cons_zero, List.set_cons_succ]) | (refine WpH.loadT (by rfl) (by rfl) (by go_simp; rfl) (by rintro _ _ ⟨⟩; exact ⟨_, _, _, _, _, _, by rfl, by assumption, by assumption⟩) ?_; simp only [Act.put, List.setIfInBounds_toArray, List.set_cons_zero, List.set_cons_succ]) | (refine WpH.pure (by rfl) (fun w_ => by go_simp; (try go_bits); rfl) ?_; simp only [Act.put, List.setIfInBounds_toArray, List.set_cons_zero, List.set_cons_succ]) | (refine WpH.wild1 (by rfl) (fun _ _ => ?_)) | (refine WpH.skip (by rfl) ?_; simp only [Act.put, List.setIfInBounds_toArray, List.set_cons_zero, List.set_cons_succ])) | go_values | go_skip | go_guarded | go_step | go_upon | go_back)
    skip
    go_ret
    exact ⟨rfl, bvia (bvia hb2 hb9) hb10⟩
  · have hi1 : (T.all.length : Int) < i := by omega
    clear hi
    go_enter Tryd.func64, Tryd.ntmps64
    repeat' (first | (with_reducible refine stop_region 16 ?_) | (go_at_call 56; go_must ((with_reducible refine Calls.mono HA.out ?_); rintro _ w1 ⟨v1, rfl, he1, hb1⟩; dsimp only)) | (with_reducible refine Keep.last ?_) | (with_reducible refine Keep.below (by assumption) ?_) | (with_reducible refine Keep.kept (by assumption) ?_) | (with_reducible refine Keep.alloc ?_) | (with_reducible refine Keep.same ?_) | ((with_reducible refine WpH.here ?_); first | (refine WpH.nil ?_; refine NoP.normal ?_) | (refine WpH.load (by rfl) (by rfl) (by go_simp; rfl) ?_; simp only [Act.put, List.setIfInBounds_toArray, List.set_cons_zero, List.set_cons_succ]) | (refine WpH.loadT (by rfl) (by rfl) (by go_simp; rfl) (by rintro _ _ ⟨⟩; exact ⟨_, _, _, _, _, _, by rfl, by assumption, by assumption⟩) ?_; simp only [Act.put, List.setIfInBounds_toArray, List.set_cons_zero, List.set_cons_succ]) | (refine WpH.pure (by rfl) (fun w_ => by go_simp; (try go_bits); rfl) ?_; simp only [Act.put, List.setIfInBounds_toArray, List.set_cons_zero, List.set_cons_succ]) | (refine WpH.wild1 (by rfl) (fun _ _ => ?_)) | (refine WpH.skip (by rfl) ?_; simp only [Act.put, List.setIfInBounds_toArray, List.set_cons_zero, List.set_cons_succ])) | go_values | go_skip | go_guarded | go_step | go_upon | go_back)
    refine Stop.go ?_
    obtain ⟨hX, hY, eXY⟩ := boxes2 w1 93 93 #[.int .i64 0, .int .i64 0] #[.int .i64 0, .int .i64 0]
    have he5 := he1.step eXY
    generalize (w1.alloc (.cells #[.int .i64 0, .int .i64 0] 93)).alloc (.cells #[.int .i64 0, .int .i64 0] 93) = W2 at *
    have hb2 := bvia hb1 eXY
    clear p0 p1 p2 he1
    have x0 := hX.cell 0
    have x1 := hX.cell 1
    have xl := hX.lt
    have y0 := hY.cell 0
    have y1 := hY.cell 1
    have yl := hY.lt
    simp at x0 x1 y0 y1
    have HV5 := hid he5
    obtain ⟨tv, xv, rfl⟩ := he5.notNil
    have HF := hid (fun V V' v (hno : IsNo V' (Fr V (fun _ => False)) [⟨({ data := #[116, 114, 101, 101] } : ByteArray), ({ data := #[66, 101, 102, 111, 114, 101] } : ByteArray), atOf i⟩] 2 v) (he : IsErr V' (fun _ => True) a [⟨({ data := #[116, 114, 101, 101] } : ByteArray), ({ data := #[66, 101, 102, 111, 114, 101] } : ByteArray), atOf i⟩] 2 (.iface tv (.pointer (some xv)))) (hs : Sents V' (fun _ => True) a) => refused_any _ 2 _ v _ _ V' he hno hs (by simp))
    clear hs he5
    repeat' (first | (go_at_call 89; go_must ((with_reducible refine Calls.mono (HN.out _) ?_); rintro _ w9 ⟨v9, rfl, hno9, hb9⟩; dsimp only)) | (go_at_call 28; go_must ((with_reducible refine Calls.mono (HF.out _ w9 _ hno9 ((HV5.out.step hb9).more fun _ _ _ => trivial) (Hss.out.step (bvia hb2 hb9)).every) ?_); rintro _ w10 ⟨rfl, hb10⟩; dsimp only)) | (with_reducible refine Keep.last ?_) | (with_reducible refine Keep.below (by assumption) ?_) | (with_reducible refine Keep.kept (by assumption) ?_) | (with_reducible refine Keep.alloc ?_) | (with_reducible refine Keep.same ?_) | ((with_reducible refine WpH.here ?_); first | (refine WpH.nil ?_; refine NoP.normal ?_) | (refine WpH.load (by rfl) (by rfl) (by go_simp; rfl) ?_; simp only [Act.put, List.setIfInBounds_toArray, List.set_cons_zero, List.set_cons_succ]) | (refine WpH.loadT (by rfl) (by rfl) (by go_simp; rfl) (by rintro _ _ ⟨⟩; exact ⟨_, _, _, _, _, _, by rfl, by assumption, by assumption⟩) ?_; simp only [Act.put, List.setIfInBounds_toArray, List.set_cons_zero, List.set_cons_succ]) | (refine WpH.pure (by rfl) (fun w_ => by go_simp; (try go_bits); rfl) ?_; simp only [Act.put, List.setIfInBounds_toArray, List.set_cons_zero, List.set_cons_succ]) | (refine WpH.wild1 (by rfl) (fun _ _ => ?_)) | (refine WpH.skip (by rfl) ?_; simp only [Act.put, List.setIfInBounds_toArray, List.set_cons_zero, List.set_cons_succ])) | go_values | go_skip | go_guarded | go_step | go_upon | go_back)
    skip
    go_ret
    exact ⟨rfl, bvia (bvia hb2 hb9) hb10⟩
set_option maxRecDepth 100000 in
set_option maxHeartbeats 4000000 in
theorem asksFind (w : World) (pb gt ck base : Nat) (T : Tr) (k : Nat) (h : PairAt w pb gt ck T base) (hl : T.all.length ≤ 600) (hk : k < liveOf T.all) :
    Calls Tryd.prog 64 #[.pointer (some ⟨pb, 0, none⟩), .int .i64 5, .int .i64 k] w fun e w' => e = .returned (.bool true) ∧ Below w.heap.size w w' := by
  obtain ⟨⟨hlp, hlg⟩, ⟨A, c, hp, hr⟩, p, hg, hT⟩ := h
  obtain ⟨p0, p1, p2, pl⟩ := hp.three'
  have HA := hid (find_ok T p gt ck k _ w hg hT (by omega) hk)
  have HN := hid (fun W => no_none ({ data := #[70, 105, 110, 100] } : ByteArray) k W)
  have HF := hid refused_none
  unfold noNone at HN HF
  have hi1 : ¬ (k : Int) < 0 := by omega
  have hi2 : ¬ (k : Int) ≥ liveOf T.all := by omega
  have HS := hid (fun W (hb : Below w.heap.size w W) => refSum_any A T.all.length c T.all _ W (hr.step hb) (by omega))
  have HD := hid (fun W (hb : Below w.heap.size w W) => refFind_live A T.all.length c k T.all _ W (hr.step hb) (by omega) hk)
  clear hg hT
  go_enter Tryd.func64, Tryd.ntmps64
  repeat' (first | (with_reducible refine stop_region 23 ?_) | (go_at_call 58; go_must ((with_reducible refine Calls.mono HA.out ?_); rintro _ w1 ⟨⟨m1, e1, rfl, he1, hv1, hs1⟩, hb1⟩; have H1 := hid (And.intro he1 (And.intro hv1 hs1)); clear he1 hv1 hs1; obtain ⟨p0, p1, p2, pl1⟩ := (hp.step hb1).three'; dsimp only)) | (go_at_call 101; go_must ((with_reducible refine Calls.mono (HS.out _ hb1) ?_); rintro _ w3 ⟨rfl, hb3⟩; have hb3' := bvia hb1 hb3; obtain ⟨p0, p1, p2, pl1⟩ := (hp.step hb3').three'; dsimp only)) | (go_at_call 102; go_must ((with_reducible refine Calls.mono (HD.out _ hb3') ?_); rintro _ w4 ⟨⟨m2, e2, rfl, he2, hv2, hs2⟩, hb4⟩; obtain rfl := live_same H1.out.1 he2 H1.out.2.1 hv2 (H1.out.2.2.trans hs2.symm); clear he2 hv2 hs2; dsimp only)) | (with_reducible refine Keep.last ?_) | (with_reducible refine Keep.below (by assumption) ?_) | (with_reducible refine Keep.kept (by assumption) ?_) | (with_reducible refine Keep.alloc ?_) | (with_reducible refine Keep.same ?_) | ((with_reducible refine WpH.here ?_); first | (refine WpH.nil ?_; refine NoP.normal ?_) | (refine WpH.load (by rfl) (by rfl) (by go_simp; rfl) ?_; simp only [Act.put, List.setIfInBounds_toArray, List.set_cons_zero, List.set_cons_succ]) | (refine WpH.loadT (by rfl) (by rfl) (by go_simp; rfl) (by rintro _ _ ⟨⟩; exact ⟨_, _, _, _, _, _, by rfl, by assumption, by assumption⟩) ?_; simp only [Act.put, List.setIfInBounds_toArray, List.set_cons_zero, List.set_cons_succ]) | (refine WpH.pure (by rfl) (fun w_ => by go_simp; (try go_bits); rfl) ?_; simp only [Act.put, List.setIfInBounds_toArray, List.set_cons_zero, List.set_cons_succ]) | (refine WpH.wild1 (by rfl) (fun _ _ => ?_)) | (refine WpH.skip (by rfl) ?_; simp only [Act.put, List.setIfInBounds_toArray, List.set_cons_zero, List.set_cons_succ])) | go_values | go_skip | go_guarded | go_step | go_upon | go_back)
  refine Stop.go ?_
  repeat' (first | (go_at_call 89; go_must ((with_reducible refine Calls.mono (HN.out _) ?_); rintro _ w8 ⟨rfl, hb8⟩; dsimp only)) | (go_at_call 28; go_must ((with_reducible refine Calls.mono (HF.out _) ?_); rintro _ w9 ⟨rfl, hb9⟩; dsimp only)) | (with_reducible refine Keep.last ?_) | (with_reducible refine Keep.below (by assumption) ?_) | (with_reducible refine Keep.kept (by assumption) ?_) | (with_reducible refine Keep.alloc ?_) | (with_reducible refine Keep.same ?_) | ((with_reducible refine WpH.here ?_); first | (refine WpH.nil ?_; refine NoP.normal ?_) | (refine WpH.load (by rfl) (by rfl) (by go_simp; rfl) ?_; simp only [Act.put, List.setIfInBounds_toArray, List.set_cons_zero, List.set_cons_succ]) | (refine WpH.loadT (by rfl) (by rfl) (by go_simp; rfl) (by rintro _ _ ⟨⟩; exact ⟨_, _, _, _, _, _, by rfl, by assumption, by assumption⟩) ?_; simp only [Act.put, List.setIfInBounds_toArray, List.set_cons_zero, List.set_cons_succ]) | (refine WpH.pure (by rfl) (fun w_ => by go_simp; (try go_bits); rfl) ?_; simp only [Act.put, List.setIfInBounds_toArray, List.set_cons_zero, List.set_cons_succ]) | (refine WpH.wild1 (by rfl) (fun _ _ => ?_)) | (refine WpH.skip (by rfl) ?_; simp only [Act.put, List.setIfInBounds_toArray, List.set_cons_zero, List.set_cons_succ])) | go_values | go_skip | go_guarded | go_step | go_upon | go_back)
  skip
  go_ret
  exact ⟨rfl, bvia (bvia (bvia hb3' hb4) hb8) hb9⟩
set_option maxRecDepth 100000 in
set_option maxHeartbeats 4000000 in
theorem asksFind_out (w : World) (pb gt ck base : Nat) (T : Tr) (i : Int) (h : PairAt w pb gt ck T base) (hl : T.all.length ≤ 600) (hi : i < 0 ∨ liveOf T.all ≤ i) (hs : Sents w (fun b => b < base) a) :
    Calls Tryd.prog 64 #[.pointer (some ⟨pb, 0, none⟩), .int .i64 5, .int .i64 i] w fun e w' => e = .returned (.bool true) ∧ Below w.heap.size w w' := by
  obtain ⟨⟨hlp, hlg⟩, ⟨A, c, hp, hr⟩, p, hg, hT⟩ := h
  obtain ⟨p0, p1, p2, pl⟩ := hp.three'
  have Hss := hid hs
  have HA := hid (find_no T p gt ck i _ (fun b => b < base) w hg hT hs hi)
  have HN := hid (fun W => no_any ({ data := #[70, 105, 110, 100] } : ByteArray) i (fun _ => False) W)
  have HS := hid (fun W (hb : Below w.heap.size w W) => refSum_any A T.all.length c T.all _ W (hr.step hb) (by omega))
  clear hg hT
  by_cases hi0 : i < 0
  · clear hi
    go_enter Tryd.func64, Tryd.ntmps64
    repeat' (first | (with_reducible refine stop_region 23 ?_) | (go_at_call 58; go_must ((with_reducible refine Calls.mono HA.out ?_); rintro _ w1 ⟨v1, rfl, he5, hb1⟩; dsimp only)) | (with_reducible refine Keep.last ?_) | (with_reducible refine Keep.below (by assumption) ?_) | (with_reducible refine Keep.kept (by assumption) ?_) | (with_reducible refine Keep.alloc ?_) | (with_reducible refine Keep.same ?_) | ((with_reducible refine WpH.here ?_); first | (refine WpH.nil ?_; refine NoP.normal ?_) | (refine WpH.load (by rfl) (by rfl) (by go_simp; rfl) ?_; simp only [Act.put, List.setIfInBounds_toArray, List.set_cons_zero, List.set_cons_succ]) | (refine WpH.loadT (by rfl) (by rfl) (by go_simp; rfl) (by rintro _ _ ⟨⟩; exact ⟨_, _, _, _, _, _, by rfl, by assumption, by assumption⟩) ?_; simp only [Act.put, List.setIfInBounds_toArray, List.set_cons_zero, List.set_cons_succ]) | (refine WpH.pure (by rfl) (fun w_ => by go_simp; (try go_bits); rfl) ?_; simp only [Act.put, List.setIfInBounds_toArray, List.set_cons_zero, List.set_cons_succ]) | (refine WpH.wild1 (by rfl) (fun _ _ => ?_)) | (refine WpH.skip (by rfl) ?_; simp only [Act.put, List.setIfInBounds_toArray, List.set_cons_zero, List.set_cons_succ])) | go_values | go_skip | go_guarded | go_step | go_upon | go_back)
    refine Stop.go ?_
    have HV5 := hid he5
    obtain ⟨tv, xv, rfl⟩ := he5.notNil
    have HF := hid (fun V V' v (hno : IsNo V' (Fr V (fun _ => False)) [⟨({ data := #[116, 114, 101, 101] } : ByteArray), ({ data := #[70, 105, 110, 100] } : ByteArray), atOf i⟩] 2 v) (he : IsErr V' (fun _ => True) a [⟨({ data := #[116, 114, 101, 101] } : ByteArray), ({ data := #[70, 105, 110, 100] } : ByteArray), atOf i⟩] 2 (.iface tv (.pointer (some xv)))) (hs : Sents V' (fun _ => True) a) => refused_any _ 2 _ v _ _ V' he hno hs (by simp))
    clear hs he5
    repeat' (first | (go_at_call 89; go_must ((with_reducible refine Calls.mono (HN.out _) ?_); rintro _ w9 ⟨v9, rfl, hno9, hb9⟩; dsimp only)) | (go_at_call 28; go_must ((with_reducible refine Calls.mono (HF.out _ w9 _ hno9 ((HV5.out.step hb9).more fun _ _ _ => trivial) (Hss.out.step (bvia hb1 hb9)).every) ?_); rintro _ w10 ⟨rfl, hb10⟩; dsimp only)) | (with_reducible refine Keep.last ?_) | (with_reducible refine Keep.below (by assumption) ?_) | (with_reducible refine Keep.kept (by assumption) ?_) | (with_reducible refine Keep.alloc ?_) | (with_reducible refine Keep.same ?_) | ((with_reducible refine WpH.here ?_); first | (refine WpH.nil ?_; refine NoP.normal ?_) | (refine WpH.load (by rfl) (by rfl) (by go_simp; rfl) ?_; simp only [Act.put, List.setIfInBounds_toArray, List.set_cons_zero, List.set_cons_succ]) | (refine WpH.loadT (by rfl) (by rfl) (by go_simp; rfl) (by rintro _ _ ⟨⟩; exact ⟨_, _, _, _, _, _, by rfl, by assumption, by assumption⟩) ?_; simp only [Act.put, List.setIfInBounds_toArray, List.set_cons_zero, List.set_cons_succ]) | (refine WpH.pure (by rfl) (fun w_ => by go_simp; (try go_bits); rfl) ?_; simp only [Act.put, List.setIfInBounds_toArray, List.set_cons_zero, List.set_cons_succ]) | (refine WpH.wild1 (by rfl) (fun _ _ => ?_)) | (refine WpH.skip (by rfl) ?_; simp only [Act.put, List.setIfInBounds_toArray, List.set_cons_zero, List.set_cons_succ])) | go_values | go_skip | go_guarded | go_step | go_upon | go_back)
    skip
    go_ret
    exact ⟨rfl, bvia (bvia hb1 hb9) hb10⟩
  · have hi1 : (liveOf T.all : Int) ≤ i := by omega
    clear hi
    go_enter Tryd.func64, Tryd.ntmps64
    repeat' (first | (with_reducible refine stop_region 23 ?_) | (go_at_call 58; go_must ((with_reducible refine Calls.mono HA.out ?_); rintro _ w1 ⟨v1, rfl, he1, hb1⟩; obtain ⟨p0, p1, p2, pl1⟩ := (hp.step hb1).three'; dsimp only)) | (go_at_call 101; go_must ((with_reducible refine Calls.mono (HS.out _ hb1) ?_); rintro _ w3 ⟨rfl, hb3⟩; have hb3' := bvia hb1 hb3; have he5 := he1.step hb3; dsimp only)) | (with_reducible refine Keep.last ?_) | (with_reducible refine Keep.below (by assumption) ?_) | (with_reducible refine Keep.kept (by assumption) ?_) | (with_reducible refine Keep.alloc ?_) | (with_reducible refine Keep.same ?_) | ((with_reducible refine WpH.here ?_); first | (refine WpH.nil ?_; refine NoP.normal ?_) | (refine WpH.load (by rfl) (by rfl) (by go_simp; rfl) ?_; simp only [Act.put, List.setIfInBounds_toArray, List.set_cons_zero, List.set_cons_succ]) | (refine WpH.loadT (by rfl) (by rfl) (by go_simp; rfl) (by rintro _ _ ⟨⟩; exact ⟨_, _, _, _, _, _, by rfl, by assumption, by assumption⟩) ?_; simp only [Act.put, List.setIfInBounds_toArray, List.set_cons_zero, List.set_cons_succ]) | (refine WpH.pure (by rfl) (fun w_ => by go_simp; (try go_bits); rfl) ?_; simp only [Act.put, List.setIfInBounds_toArray, List.set_cons_zero, List.set_cons_succ]) | (refine WpH.wild1 (by rfl) (fun _ _ => ?_)) | (refine WpH.skip (by rfl) ?_; simp only [Act.put, List.setIfInBounds_toArray, List.set_cons_zero, List.set_cons_succ])) | go_values | go_skip | go_guarded | go_step | go_upon | go_back)
    refine Stop.go ?_
    have HV5 := hid he5
    obtain ⟨tv, xv, rfl⟩ := he5.notNil
    have HF := hid (fun V V' v (hno : IsNo V' (Fr V (fun _ => False)) [⟨({ data := #[116, 114, 101, 101] } : ByteArray), ({ data := #[70, 105, 110, 100] } : ByteArray), atOf i⟩] 2 v) (he : IsErr V' (fun _ => True) a [⟨({ data := #[116, 114, 101, 101] } : ByteArray), ({ data := #[70, 105, 110, 100] } : ByteArray), atOf i⟩] 2 (.iface tv (.pointer (some xv)))) (hs : Sents V' (fun _ => True) a) => refused_any _ 2 _ v _ _ V' he hno hs (by simp))
    clear hs he5
    repeat' (first | (go_at_call 89; go_must ((with_reducible refine Calls.mono (HN.out _) ?_); rintro _ w9 ⟨v9, rfl, hno9, hb9⟩; dsimp only)) | (go_at_call 28; go_must ((with_reducible refine Calls.mono (HF.out _ w9 _ hno9 ((HV5.out.step hb9).more fun _ _ _ => trivial) (Hss.out.step (bvia hb3' hb9)).every) ?_); rintro _ w10 ⟨rfl, hb10⟩; dsimp only)) | (with_reducible refine Keep.last ?_) | (with_reducible refine Keep.below (by assumption) ?_) | (with_reducible refine Keep.kept (by assumption) ?_) | (with_reducible refine Keep.alloc ?_) | (with_reducible refine Keep.same ?_) | ((with_reducible refine WpH.here ?_); first | (refine WpH.nil ?_; refine NoP.normal ?_) | (refine WpH.load (by rfl) (by rfl) (by go_simp; rfl) ?_; simp only [Act.put, List.setIfInBounds_toArray, List.set_cons_zero, List.set_cons_succ]) | (refine WpH.loadT (by rfl) (by rfl) (by go_simp; rfl) (by rintro _ _ ⟨⟩; exact ⟨_, _, _, _, _, _, by rfl, by assumption, by assumption⟩) ?_; simp only [Act.put, List.setIfInBounds_toArray, List.set_cons_zero, List.set_cons_succ]) | (refine WpH.pure (by rfl) (fun w_ => by go_simp; (try go_bits); rfl) ?_; simp only [Act.put, List.setIfInBounds_toArray, List.set_cons_zero, List.set_cons_succ]) | (refine WpH.wild1 (by rfl) (fun _ _ => ?_)) | (refine WpH.skip (by rfl) ?_; simp only [Act.put, List.setIfInBounds_toArray, List.set_cons_zero, List.set_cons_succ])) | go_values | go_skip | go_guarded | go_step | go_upon | go_back)
    skip
    go_ret
    exact ⟨rfl, bvia (bvia hb3' hb9) hb10⟩
set_option maxRecDepth 100000 in
set_option maxHeartbeats 4000000 in
theorem asksFindLine (w : World) (pb gt ck base : Nat) (T : Tr) (k : Nat) (h : PairAt w pb gt ck T base) (hl : T.all.length ≤ 600) (hk : k < linesOf T.all) :
    Calls Tryd.prog 64 #[.pointer (some ⟨pb, 0, none⟩), .int .i64 6, .int .i64 k] w fun e w' => e = .returned (.bool true) ∧ Below w.heap.size w w' := by
  obtain ⟨⟨hlp, hlg⟩, ⟨A, c, hp, hr⟩, p, hg, hT⟩ := h
  obtain ⟨p0, p1, p2, pl⟩ := hp.three'
  have HA := hid (findLine_ok T p gt ck k _ w hg hT (by omega) hk)
  have HN := hid (fun W => no_none ({ data := #[70, 105, 110, 100, 76, 105, 110, 101] } : ByteArray) k W)
  have HF := hid refused_none
  unfold noNone at HN HF
  have hi1 : ¬ (k : Int) < 0 := by omega
  have hi2 : ¬ (k : Int) ≥ linesOf T.all := by omega
  have HS := hid (fun W (hb : Below w.heap.size w W) => refSum_any A T.all.length c T.all _ W (hr.step hb) (by omega))
  have HD := hid (fun W (hb : Below w.heap.size w W) => refFind_line A T.all.length c k T.all _ W (hr.step hb) (by omega) hk)
  clear hg hT
  go_enter Tryd.func64, Tryd.ntmps64
  repeat' (first | (with_reducible refine stop_region 29 ?_) | (go_at_call 59; go_must ((with_reducible refine Calls.mono HA.out ?_); rintro _ w1 ⟨⟨m1, e1, rfl, he1, hv1, hs1⟩, hb1⟩; have H1 := hid (And.intro he1 (And.intro hv1 hs1)); clear he1 hv1 hs1; obtain ⟨p0, p1, p2, pl1⟩ := (hp.step hb1).three'; dsimp only)) | (go_at_call 101; go_must ((with_reducible refine Calls.mono (HS.out _ hb1) ?_); rintro _ w3 ⟨rfl, hb3⟩; have hb3' := bvia hb1 hb3; obtain ⟨p0, p1, p2, pl1⟩ := (hp.step hb3').three'; dsimp only)) | (go_at_call 102; go_must ((with_reducible refine Calls.mono (HD.out _ hb3') ?_); rintro _ w4 ⟨⟨m2, e2, rfl, he2, hv2, hs2⟩, hb4⟩; obtain rfl := lines_same H1.out.1 he2 H1.out.2.1 hv2 (H1.out.2.2.trans hs2.symm); clear he2 hv2 hs2; dsimp only)) | (with_reducible refine Keep.last ?_) | (with_reducible refine Keep.below (by assumption) ?_) | (with_reducible refine Keep.kept (by assumption) ?_) | (with_reducible refine Keep.alloc ?_) | (with_reducible refine Keep.same ?_) | ((with_reducible refine WpH.here ?_); first | (refine WpH.nil ?_; refine NoP.normal ?_) | (refine WpH.load (by rfl) (by rfl) (by go_simp; rfl) ?_; simp only [Act.put, List.setIfInBounds_toArray, List.set_cons_zero, List.set_cons_succ]) | (refine WpH.loadT (by rfl) (by rfl) (by go_simp; rfl) (by rintro _ _ ⟨⟩; exact ⟨_, _, _, _, _, _, by rfl, by assumption, by assumption⟩) ?_; simp only [Act.put, List.setIfInBounds_toArray, List.set_cons_zero, List.set_cons_succ]) | (refine WpH.pure (by rfl) (fun w_ => by go_simp; (try go_bits); rfl) ?_; simp only [Act.put, List.setIfInBounds_toArray, List.set_cons_zero, List.set_cons_succ]) | (refine WpH.wild1 (by rfl) (fun _ _ => ?_)) | (refine WpH.skip (by rfl) ?_; simp only [Act.put, List.setIfInBounds_toArray, List.set_cons_zero, List.set_cons_succ])) | go_values | go_skip | go_guarded | go_step | go_upon | go_back)
  refine Stop.go ?_
  repeat' (first | (go_at_call 89; go_must ((with_reducible refine Calls.mono (HN.out _) ?_); rintro _ w8 ⟨rfl, hb8⟩; dsimp only)) | (go_at_call 28; go_must ((with_reducible refine Calls.mono (HF.out _) ?_); rintro _ w9 ⟨rfl, hb9⟩; dsimp only)) | (with_reducible refine Keep.last ?_) | (with_reducible refine Keep.below (by assumption) ?_) | (with_reducible refine Keep.kept (by assumption) ?_) | (with_reducible refine Keep.alloc ?_) | (with_reducible refine Keep.same ?_) | ((with_reducible refine WpH.here ?_); first | (refine WpH.nil ?_; refine NoP.normal ?_) | (refine WpH.load (by rfl) (by rfl) (by go_simp; rfl) ?_; simp only [Act.put, List.setIfInBounds_toArray, List.set_cons_zero, List.set_cons_succ]) | (refine WpH.loadT (by rfl) (by rfl) (by go_simp; rfl) (by rintro _ _ ⟨⟩; exact ⟨_, _, _, _, _, _, by rfl, by assumption, by assumption⟩) ?_; simp only [Act.put, List.setIfInBounds_toArray, List.set_cons_zero, List.set_cons_succ]) | (refine WpH.pure (by rfl) (fun w_ => by go_simp; (try go_bits); rfl) ?_; simp only [Act.put, List.setIfInBounds_toArray, List.set_cons_zero, List.set_cons_succ]) | (refine WpH.wild1 (by rfl) (fun _ _ => ?_)) | (refine WpH.skip (by rfl) ?_; simp only [Act.put, List.setIfInBounds_toArray, List.set_cons_zero, List.set_cons_succ])) | go_values | go_skip | go_guarded | go_step | go_upon | go_back)
  skip
  go_ret
  exact ⟨rfl, bvia (bvia (bvia hb3' hb4) hb8) hb9⟩
set_option maxRecDepth 100000 in
set_option maxHeartbeats 4000000 in
theorem asksFindLine_out (w : World) (pb gt ck base : Nat) (T : Tr) (i : Int) (h : PairAt w pb gt ck T base) (hl : T.all.length ≤ 600) (hi : i < 0 ∨ linesOf T.all ≤ i) (hs : Sents w (fun b => b < base) a) :
    Calls Tryd.prog 64 #[.pointer (some ⟨pb, 0, none⟩), .int .i64 6, .int .i64 i] w fun e w' => e = .returned (.bool true) ∧ Below w.heap.size w w' := by
  obtain ⟨⟨hlp, hlg⟩, ⟨A, c, hp, hr⟩, p, hg, hT⟩ := h
  obtain ⟨p0, p1, p2, pl⟩ := hp.three'
  have Hss := hid hs
  have HA := hid (findLine_no T p gt ck i _ (fun b => b < base) w hg hT hs hi)
  have HN := hid (fun W => no_any ({ data := #[70, 105, 110, 100, 76, 105, 110, 101] } : ByteArray) i (fun _ => False) W)
  have HS := hid (fun W (hb : Below w.heap.size w W) => refSum_any A T.all.length c T.all _ W (hr.step hb) (by omega))
  clear hg hT
  by_cases hi0 : i < 0
  · clear hi
    go_enter Tryd.func64, Tryd.ntmps64
    repeat' (first | (with_reducible refine stop_region 29 ?_) | (go_at_call 59; go_must ((with_reducible refine Calls.mono HA.out ?_); rintro _ w1 ⟨v1, rfl, he5, hb1⟩; dsimp only)) | (with_reducible refine Keep.last ?_) | (with_reducible refine Keep.below (by assumption) ?_) | (with_reducible refine Keep.kept (by assumption) ?_) | (with_reducible refine Keep.alloc ?_) | (with_reducible refine Keep.same ?_) | ((with_reducible refine WpH.here ?_); first | (refine WpH.nil ?_; refine NoP.normal ?_) | (refine WpH.load (by rfl) (by rfl) (by go_simp; rfl) ?_; simp only [Act.put, List.setIfInBounds_toArray, List.set_cons_zero, List.set_cons_succ]) | (refine WpH.loadT (by rfl) (by rfl) (by go_simp; rfl) (by rintro _ _ ⟨⟩; exact ⟨_, _, _, _, _, _, by rfl, by assumption, by assumption⟩) ?_; simp only [Act.put, List.setIfInBounds_toArray, List.set_cons_zero, List.set_cons_succ]) | (refine WpH.pure (by rfl) (fun w_ => by go_simp; (try go_bits); rfl) ?_; simp only [Act.put, List.setIfInBounds_toArray, List.set_cons_zero, List.set_cons_succ]) | (refine WpH.wild1 (by rfl) (fun _ _ => ?_)) | (refine WpH.skip (by rfl) ?_; simp only [Act.put, List.setIfInBounds_toArray, List.set_cons_zero, List.set_cons_succ])) | go_values | go_skip | go_guarded | go_step | go_upon | go_back)
    refine Stop.go ?_
    have HV5 := hid he5
    obtain ⟨tv, xv, rfl⟩ := he5.notNil
    have HF := hid (fun V V' v (hno : IsNo V' (Fr V (fun _ => False)) [⟨({ data := #[116, 114, 101, 101] } : ByteArray), ({ data := #[70, 105, 110, 100, 76, 105, 110, 101] } : ByteArray), atOf i⟩] 2 v) (he : IsErr V' (fun _ => True) a [⟨({ data := #[116, 114, 101, 101] } : ByteArray), ({ data := #[70, 105, 110, 100, 76, 105, 110, 101] } : ByteArray), atOf i⟩] 2 (.iface tv (.pointer (some xv)))) (hs : Sents V' (fun _ => True) a) => refused_any _ 2 _ v _ _ V' he hno hs (by simp))
    clear hs he5
    repeat' (first | (go_at_call 89; go_must ((with_reducible refine Calls.mono (HN.out _) ?_); rintro _ w9 ⟨v9, rfl, hno9, hb9⟩; dsimp only)) | (go_at_call 28; go_must ((with_reducible refine Calls.mono (HF.out _ w9 _ hno9 ((HV5.out.step hb9).more fun _ _ _ => trivial) (Hss.out.step (bvia hb1 hb9)).every) ?_); rintro _ w10 ⟨rfl, hb10⟩; dsimp only)) | (with_reducible refine Keep.last ?_) | (with_reducible refine Keep.below (by assumption) ?_) | (with_reducible refine Keep.kept (by assumption) ?_) | (with_reducible refine Keep.alloc ?_) | (with_reducible refine Keep.same ?_) | ((with_reducible refine WpH.here ?_); first | (refine WpH.nil ?_; refine NoP.normal ?_) | (refine WpH.load (by rfl) (by rfl) (by go_simp; rfl) ?_; simp only [Act.put, List.setIfInBounds_toArray, List.set_cons_zero, List.set_cons_succ]) | (refine WpH.loadT (by rfl) (by rfl) (by go_simp; rfl) (by rintro _ _ ⟨⟩; exact ⟨_, _, _, _, _, _, by rfl, by assumption, by assumption⟩) ?_; simp only [Act.put, List.setIfInBounds_toArray, List.set_cons_zero, List.set_cons_succ]) | (refine WpH.pure (by rfl) (fun w_ => by go_simp; (try go_bits); rfl) ?_; simp only [Act.put, List.setIfInBounds_toArray, List.set_cons_zero, List.set_cons_succ]) | (refine WpH.wild1 (by rfl) (fun _ _ => ?_)) | (refine WpH.skip (by rfl) ?_; simp only [Act.put, List.setIfInBounds_toArray, List.set_cons_zero, List.set_cons_succ])) | go_values | go_skip | go_guarded | go_step | go_upon | go_back)
    skip
    go_ret
    exact ⟨rfl, bvia (bvia hb1 hb9) hb10⟩
  · have hi1 : (linesOf T.all : Int) ≤ i := by omega
    clear hi
    go_enter Tryd.func64, Tryd.ntmps64
    repeat' (first | (with_reducible refine stop_region 29 ?_) | (go_at_call 59; go_must ((with_reducible refine Calls.mono HA.out ?_); rintro _ w1 ⟨v1, rfl, he1, hb1⟩; obtain ⟨p0, p1, p2, pl1⟩ := (hp.step hb1).three'; dsimp only)) | (go_at_call 101; go_must ((with_reducible refine Calls.mono (HS.out _ hb1) ?_); rintro _ w3 ⟨rfl, hb3⟩; have hb3' := bvia hb1 hb3; have he5 := he1.step hb3; dsimp only)) | (with_reducible refine Keep.last ?_) | (with_reducible refine Keep.below (by assumption) ?_) | (with_reducible refine Keep.kept (by assumption) ?_) | (with_reducible refine Keep.alloc ?_) | (with_reducible refine Keep.same ?_) | ((with_reducible refine WpH.here ?_); first | (refine WpH.nil ?_; refine NoP.normal ?_) | (refine WpH.load (by rfl) (by rfl) (by go_simp; rfl) ?_; simp only [Act.put, List.setIfInBounds_toArray, List.set_cons_zero, List.set_cons_succ]) | (refine WpH.loadT (by rfl) (by rfl) (by go_simp; rfl) (by rintro _ _ ⟨⟩; exact ⟨_, _, _, _, _, _, by rfl, by assumption, by assumption⟩) ?_; simp only [Act.put, List.setIfInBounds_toArray, List.set_cons_zero, List.set_cons_succ]) | (refine WpH.pure (by rfl) (fun w_ => by go_simp; (try go_bits); rfl) ?_; simp only [Act.put, List.setIfInBounds_toArray, List.set_cons_zero, List.set_cons_succ]) | (refine WpH.wild1 (by rfl) (fun _ _ => ?_)) | (refine WpH.skip (by rfl) ?_; simp only [Act.put, List.setIfInBounds_toArray, List.set_cons_zero, List.set_cons_succ])) | go_values | go_skip | go_guarded | go_step | go_upon | go_back)
    refine Stop.go ?_
    have HV5 := hid he5
    obtain ⟨tv, xv, rfl⟩ := he5.notNil
    have HF := hid (fun V V' v (hno : IsNo V' (Fr V (fun _ => False)) [⟨({ data := #[116, 114, 101, 101] } : ByteArray), ({ data := #[70, 105, 110, 100, 76, 105, 110, 101] } : ByteArray), atOf i⟩] 2 v) (he : IsErr V' (fun _ => True) a [⟨({ data := #[116, 114, 101, 101] } : ByteArray), ({ data := #[70, 105, 110, 100, 76, 105, 110, 101] } : ByteArray), atOf i⟩] 2 (.iface tv (.pointer (some xv)))) (hs : Sents V' (fun _ => True) a) => refused_any _ 2 _ v _ _ V' he hno hs (by simp))
    clear hs he5
    repeat' (first | (go_at_call 89; go_must ((with_reducible refine Calls.mono (HN.out _) ?_); rintro _ w9 ⟨v9, rfl, hno9, hb9⟩; dsimp only)) | (go_at_call 28; go_must ((with_reducible refine Calls.mono (HF.out _ w9 _ hno9 ((HV5.out.step hb9).more fun _ _ _ => trivial) (Hss.out.step (bvia hb3' hb9)).every) ?_); rintro _ w10 ⟨rfl, hb10⟩; dsimp only)) | (with_reducible refine Keep.last ?_) | (with_reducible refine Keep.below (by assumption) ?_) | (with_reducible refine Keep.kept (by assumption) ?_) | (with_reducible refine Keep.alloc ?_) | (with_reducible refine Keep.same ?_) | ((with_reducible refine WpH.here ?_); first | (refine WpH.nil ?_; refine NoP.normal ?_) | (refine WpH.load (by rfl) (by rfl) (by go_simp; rfl) ?_; simp only [Act.put, List.setIfInBounds_toArray, List.set_cons_zero, List.set_cons_succ]) | (refine WpH.loadT (by rfl) (by rfl) (by go_simp; rfl) (by rintro _ _ ⟨⟩; exact ⟨_, _, _, _, _, _, by rfl, by assumption, by assumption⟩) ?_; simp only [Act.put, List.setIfInBounds_toArray, List.set_cons_zero, List.set_cons_succ]) | (refine WpH.pure (by rfl) (fun w_ => by go_simp; (try go_bits); rfl) ?_; simp only [Act.put, List.setIfInBounds_toArray, List.set_cons_zero, List.set_cons_succ]) | (refine WpH.wild1 (by rfl) (fun _ _ => ?_)) | (refine WpH.skip (by rfl) ?_; simp only [Act.put, List.setIfInBounds_toArray, List.set_cons_zero, List.set_cons_succ])) | go_values | go_skip | go_guarded | go_step | go_upon | go_back)
    skip
    go_ret
    exact ⟨rfl, bvia (bvia hb3' hb9) hb10⟩
end Go.Proofs.YtogkbddniacgiaaDoor
