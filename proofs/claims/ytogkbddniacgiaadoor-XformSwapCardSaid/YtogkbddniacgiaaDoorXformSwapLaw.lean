/- barrowlaw07.XformSwap returns true for every input, and leaves what it is given as it was. No condition. -/
import Derived.Test.YtogkbddniacgiaaDoorTrioOpen
import Derived.Deep.DeepWitnessRowRef
import Derived.LaidMore
namespace Go.Proofs.YtogkbddniacgiaaDoor
set_option linter.unusedSimpArgs false
set_option linter.unusedVariables false
open Go Go.RowKit Go.ChangeShapes Go.WideShapes Go.ChangeAt
theorem swap_law {L : List El} {a b : Opn} (hL : L.length ≤ 60) (hc : Calm 2 L) (ca : Can L a) (fb : Fits b (L.length + a.ins)) (nb : b.nm ∉ L.map El.nm) (hr : a.rep ≠ b.rep) (hok : (backOf b a).2 = true) :
    CanAll L [a, b] ∧ CanAll L [(backOf b a).1, Tof a (backOf b a).1] ∧ doneAll L [a, b] = doneAll L [(backOf b a).1, Tof a (backOf b a).1] ∧ backOf (Tof a (backOf b a).1) (backOf b a).1 = (a, true) ∧ Tof (backOf b a).1 a = b := by
  have hT := back_T hok
  have hx := back_fits ca.fits fb (by omega) hok
  obtain ⟨p1, p2, p3, p4, p5⟩ := backOf_props b a
  have hs := swap_done (l := L) a.nm b.nm ca.fits fb hr (by omega) hok
  have hm := ca.fits.hi
  have hbt := back_of_T (a := a) (b := (backOf b a).1) (by omega)
  generalize (backOf b a).1 = x at *
  have hnm : x.nm = b.nm := by unfold Opn.nm; rw [p2]
  have cx : Can L x := ⟨hx, by rw [hnm]; exact nb⟩
  have cb : Can (doneOp L a a.nm) b := ⟨by rw [doneOp_len']; exact fb, fun h => by
    rcases nm_done h with ⟨_, h⟩ | h
    · have := congrArg Nm.rep h
      exact hr this.symm
    · exact nb h⟩
  refine ⟨⟨ca.do_ hc (by decide), cb.do_ (hc.done (by decide) _ _) (by decide), trivial⟩, canAll_two cx ca hc (by rw [p2]; exact hr.symm) (by omega), ?_, hbt, hT⟩
  rw [doneAll_two, doneAll_two, Tof_nm, hnm]
  exact hs
set_option maxRecDepth 100000 in
set_option maxHeartbeats 4000000 in
theorem xsw_true (w : World) (A : Option Addr) (n c : Nat) (ls : List El) (SB : Nat → Prop) (oa ob oc : Opn) (who : Int) (hr : Row w SB A n c ls) (hw : I64 who) (ia : oa.In) (ib : ob.In) :
    Calls Tryd.prog 15 #[.agg (trioCells A n c oa ob oc who)] w fun e w' => e = .returned (.bool true) ∧ Below w.heap.size w w' := by
  have HK := hid wakes7_any
  have HRow := hid (fun W (hb : Below w.heap.size w W) => row7_any W A n c ls SB (hr.step hb))
  have HThree := hid (fun W => three_any who W hw)
  obtain ⟨⟨q0, q1, q2⟩, d1, d2, d3⟩ := three_apart who
  have hL := row7_length (ls.take 60)
  have hl60 : (ls.take 60).length ≤ 60 := List.length_take_le _ _
  have hgood := hid (row7_good hl60)
  have hnod := hid (row7_nodup (ls.take 60))
  have hcalm := hid (row7_calm (ls.take 60))
  have hnew := hid (row7_new (ls.take 60))
  have hL60 : (row7 (ls.take 60)).length ≤ 60 := by omega
  clear hL hl60 hr
  generalize row7 (ls.take 60) = L at *
  generalize (threeOf who).1 = r0 at *
  generalize (threeOf who).2.1 = r1 at *
  generalize (threeOf who).2.2 = r2 at *
  have HFa := hid (fun W => fit_any oa L.length r0 W (by omega))
  have b1 : Below w.heap.size w (w.alloc (.cells (trioCells A n c oa ob oc who) 62)) := balloc (Below.refl _ _)
  have hT := Blk.new w 62 (trioCells A n c oa ob oc who)
  unfold trioCells at b1 ⊢
  simp only [Opn.agg] at HFa
  obtain ⟨t0, t1, t2, t3, t4, t5, t6, t7, t8, -, -, -, -, t13, tl⟩ := trio_cells hT
  unfold trioCells at t0 t1 t2 t3 t4 t5 t6 t7 t8 t13 tl
  go_enter Tryd.func15, Tryd.ntmps15
  repeat' (first | (with_reducible refine stop_region 4 ?_) | (go_at_call 33; go_must ((with_reducible refine Calls.mono (HRow.out _ b1) ?_); rintro _ w1 ⟨A1, c1, rfl, hown1, hb1⟩; have hT1 := hT.step hb1; obtain ⟨t0, t1, t2, t3, t4, t5, t6, t7, t8, -, -, -, -, t13, tl⟩ := trio_cells hT1; dsimp only)) | (go_at_call 34; go_must ((with_reducible refine Calls.mono (HThree.out _) ?_); rintro _ w2 ⟨rfl, hb2⟩; have hT2 := hT1.step hb2; obtain ⟨t0, t1, t2, t3, t4, t5, t6, t7, t8, -, -, -, -, t13, tl⟩ := trio_cells hT2; dsimp only)) | (go_at_call 35; go_must ((with_reducible refine Calls.mono (HFa.out _) ?_); rintro _ w3 ⟨rfl, hb3⟩; have eR := balloc (o := .cells #[.int .i64 r0, .int .i64 r1, .int .i64 r2] 64) (Below.refl _ w2); have hT3 := (hT2.step eR).step hb3; have hR3 := (Blk.new w2 64 #[.int .i64 r0, .int .i64 r1, .int .i64 r2]).step hb3; obtain ⟨t0, t1, t2, t3, t4, t5, t6, t7, t8, -, -, -, -, t13, tl⟩ := trio_cells hT3; obtain ⟨u0, u1, u2, ul⟩ := Blk.three hR3; dsimp only)) | (with_reducible refine Keep.last ?_) | (with_reducible refine Keep.below (by assumption) ?_) | (with_reducible refine Keep.kept (by assumption) ?_) | (with_reducible refine Keep.alloc ?_) | (with_reducible refine Keep.same ?_) | ((with_reducible refine WpH.here ?_); first | (refine WpH.nil ?_; refine NoP.normal ?_) | (refine WpH.load (by rfl) (by rfl) (by go_simp; rfl) ?_; simp only [Act.put, List.setIfInBounds_toArray, List.set_cons_zero, List.set_cons_succ]) | (refine WpH.loadT (by rfl) (by rfl) (by go_simp; rfl) (by rintro _ _ ⟨⟩; exact ⟨_, _, _, _, _, _, by rfl, by assumption, by assumption⟩) ?_; simp only [Act.put, List.setIfInBounds_toArray, List.set_cons_zero, List.set_cons_succ]) | (refine WpH.pure (by rfl) (fun w_ => by go_simp; (try go_bits); rfl) ?_; simp only [Act.put, List.setIfInBounds_toArray, List.set_cons_zero, List.set_cons_succ]) | (refine WpH.wild1 (by rfl) (fun _ _ => ?_)) | (refine WpH.skip (by rfl) ?_; simp only [Act.put, List.setIfInBounds_toArray, List.set_cons_zero, List.set_cons_succ])) | go_values | go_skip | go_guarded | go_step | go_upon | go_back)
  refine Stop.go ?_
  have hbr0 := hid (fit_rep oa L.length r0)
  have hff0 := hid (fun h => fit_fits (o := oa) (n := L.length) (r := r0) q0 h)
  generalize fitOf oa L.length r0 = fa at *
  obtain ⟨a, p⟩ := fa
  have eA := balloc (o := .cells #[.int .i64 a.kind, .int .i64 a.at_, .int .i32 a.char, .int .i64 a.rep] 58) (Below.refl _ w3)
  have hA4 := Blk.new w3 58 #[.int .i64 a.kind, .int .i64 a.at_, .int .i32 a.char, .int .i64 a.rep]
  have hT4 := hT3.step eA
  have hR4 := hR3.step eA
  have hown4 := (((((hown1.mono b1.size).step hb2).step eR).step hb3).step eA)
  have hb4 : Below w.heap.size w (w3.alloc (.cells #[.int .i64 a.kind, .int .i64 a.at_, .int .i32 a.char, .int .i64 a.rep] 58)) := by (repeat' (first | (with_reducible exact Below.refl _ _) | (with_reducible assumption) | (with_reducible refine balloc ?_) | (with_reducible refine bdrew ?_) | (with_reducible refine bset ?_ (by (try dsimp only); omega)) | (with_reducible refine bvia ?_ (by assumption))))
  dsimp only
  generalize w3.alloc (.cells #[.int .i64 a.kind, .int .i64 a.at_, .int .i32 a.char, .int .i64 a.rep] 58) = W4 at *
  generalize w3.heap.size = ga at *
  generalize w2.heap.size = gr at *
  clear hown1 hb2 hb3 hb1 eA eR hT hT1 hT2 hT3 hR3 t0 t1 t2 t3 t4 t5 t6 t7 t8 t13 u0 u1 u2 HFa HRow HThree
  have hins : a.ins ≤ 1 := by unfold Opn.ins; split <;> omega
  have HFb := hid (fun W => fit_any ob (L.length + a.ins) r1 W (by omega))
  have hbr1 := hid (fit_rep ob (L.length + a.ins) r1)
  have hff1 := hid (fun h => fit_fits (o := ob) (n := L.length + a.ins) (r := r1) q1 h)
  generalize fitOf ob (L.length + a.ins) r1 = fb at *
  obtain ⟨b, q⟩ := fb
  simp only [Opn.agg] at HFb
  obtain ⟨t0, t1, t2, t3, t4, t5, t6, t7, t8, -, -, -, -, t13, tl⟩ := trio_cells hT4
  obtain ⟨u0, u1, u2, ul⟩ := Blk.three hR4
  obtain ⟨x0, x1, x2, x3, -, -, -, -, xl⟩ := Blk.four hA4
  by_cases hk : a.kind = 1
  · have hi : a.ins = 1 := by unfold Opn.ins; rw [if_pos hk]
    have hcast : ((L.length + a.ins : Nat) : Int) = (L.length : Int) + 1 := by omega
    rw [hcast] at HFb
    clear hcast
    repeat' (first | (with_reducible refine stop_region 7 ?_) | (with_reducible refine Keep.last ?_) | (with_reducible refine Keep.below (by assumption) ?_) | (with_reducible refine Keep.kept (by assumption) ?_) | (with_reducible refine Keep.alloc ?_) | (with_reducible refine Keep.same ?_) | ((with_reducible refine WpH.here ?_); first | (refine WpH.nil ?_; refine NoP.normal ?_) | (refine WpH.load (by rfl) (by rfl) (by go_simp; rfl) ?_; simp only [Act.put, List.setIfInBounds_toArray, List.set_cons_zero, List.set_cons_succ]) | (refine WpH.loadT (by rfl) (by rfl) (by go_simp; rfl) (by rintro _ _ ⟨⟩; exact ⟨_, _, _, _, _, _, by rfl, by assumption, by assumption⟩) ?_; simp only [Act.put, List.setIfInBounds_toArray, List.set_cons_zero, List.set_cons_succ]) | (refine WpH.pure (by rfl) (fun w_ => by go_simp; (try go_bits); rfl) ?_; simp only [Act.put, List.setIfInBounds_toArray, List.set_cons_zero, List.set_cons_succ]) | (refine WpH.wild1 (by rfl) (fun _ _ => ?_)) | (refine WpH.skip (by rfl) ?_; simp only [Act.put, List.setIfInBounds_toArray, List.set_cons_zero, List.set_cons_succ])) | go_values | go_skip | go_guarded | go_step | go_upon | go_back)
    refine Stop.go ?_
    clear hk
    repeat' (first | (with_reducible refine stop_region 8 ?_) | (go_at_call 35; go_must ((with_reducible refine Calls.mono (HFb.out _) ?_); rintro _ w5 ⟨rfl, hb5⟩; dsimp only)) | (with_reducible refine Keep.last ?_) | (with_reducible refine Keep.below (by assumption) ?_) | (with_reducible refine Keep.kept (by assumption) ?_) | (with_reducible refine Keep.alloc ?_) | (with_reducible refine Keep.same ?_) | ((with_reducible refine WpH.here ?_); first | (refine WpH.nil ?_; refine NoP.normal ?_) | (refine WpH.load (by rfl) (by rfl) (by go_simp; rfl) ?_; simp only [Act.put, List.setIfInBounds_toArray, List.set_cons_zero, List.set_cons_succ]) | (refine WpH.loadT (by rfl) (by rfl) (by go_simp; rfl) (by rintro _ _ ⟨⟩; exact ⟨_, _, _, _, _, _, by rfl, by assumption, by assumption⟩) ?_; simp only [Act.put, List.setIfInBounds_toArray, List.set_cons_zero, List.set_cons_succ]) | (refine WpH.pure (by rfl) (fun w_ => by go_simp; (try go_bits); rfl) ?_; simp only [Act.put, List.setIfInBounds_toArray, List.set_cons_zero, List.set_cons_succ]) | (refine WpH.wild1 (by rfl) (fun _ _ => ?_)) | (refine WpH.skip (by rfl) ?_; simp only [Act.put, List.setIfInBounds_toArray, List.set_cons_zero, List.set_cons_succ])) | go_values | go_skip | go_guarded | go_step | go_upon | go_back)
    refine Stop.go ?_
    have eB := balloc (o := .cells #[.int .i64 b.kind, .int .i64 b.at_, .int .i32 b.char, .int .i64 b.rep] 58) (Below.refl _ w5)
    have hA8 := (hA4.step hb5).step eB
    have hB8 := Blk.new w5 58 #[.int .i64 b.kind, .int .i64 b.at_, .int .i32 b.char, .int .i64 b.rep]
    have hown8 := (hown4.step hb5).step eB
    have hb8 : Below w.heap.size w (w5.alloc (.cells #[.int .i64 b.kind, .int .i64 b.at_, .int .i32 b.char, .int .i64 b.rep] 58)) := by (repeat' (first | (with_reducible exact Below.refl _ _) | (with_reducible assumption) | (with_reducible refine balloc ?_) | (with_reducible refine bdrew ?_) | (with_reducible refine bset ?_ (by (try dsimp only); omega)) | (with_reducible refine bvia ?_ (by assumption))))
    generalize w5.alloc (.cells #[.int .i64 b.kind, .int .i64 b.at_, .int .i32 b.char, .int .i64 b.rep] 58) = W8 at *
    generalize w5.heap.size = gb at *
    clear hb5 eB hown4 hA4 hT4 hR4 t0 t1 t2 t3 t4 t5 t6 t7 t8 t13 u0 u1 u2 x0 x1 x2 x3 HFb
    cases p
    · skip
      repeat' (first | (go_at_call 32; go_must ((with_reducible refine Calls.mono (HK.out _) ?_); rintro _ w6 ⟨rfl, hb6⟩; dsimp only)) | (with_reducible refine Keep.last ?_) | (with_reducible refine Keep.below (by assumption) ?_) | (with_reducible refine Keep.kept (by assumption) ?_) | (with_reducible refine Keep.alloc ?_) | (with_reducible refine Keep.same ?_) | ((with_reducible refine WpH.here ?_); first | (refine WpH.nil ?_; refine NoP.normal ?_) | (refine WpH.load (by rfl) (by rfl) (by go_simp; rfl) ?_; simp only [Act.put, List.setIfInBounds_toArray, List.set_cons_zero, List.set_cons_succ]) | (refine WpH.loadT (by rfl) (by rfl) (by go_simp; rfl) (by rintro _ _ ⟨⟩; exact ⟨_, _, _, _, _, _, by rfl, by assumption, by assumption⟩) ?_; simp only [Act.put, List.setIfInBounds_toArray, List.set_cons_zero, List.set_cons_succ]) | (refine WpH.pure (by rfl) (fun w_ => by go_simp; (try go_bits); rfl) ?_; simp only [Act.put, List.setIfInBounds_toArray, List.set_cons_zero, List.set_cons_succ]) | (refine WpH.wild1 (by rfl) (fun _ _ => ?_)) | (refine WpH.skip (by rfl) ?_; simp only [Act.put, List.setIfInBounds_toArray, List.set_cons_zero, List.set_cons_succ])) | go_values | go_skip | go_guarded | go_step | go_upon | go_back)
      go_ret
      exact ⟨rfl, bvia hb8 hb6⟩
    · cases q
      · skip
        repeat' (first | (go_at_call 32; go_must ((with_reducible refine Calls.mono (HK.out _) ?_); rintro _ w6 ⟨rfl, hb6⟩; dsimp only)) | (with_reducible refine Keep.last ?_) | (with_reducible refine Keep.below (by assumption) ?_) | (with_reducible refine Keep.kept (by assumption) ?_) | (with_reducible refine Keep.alloc ?_) | (with_reducible refine Keep.same ?_) | ((with_reducible refine WpH.here ?_); first | (refine WpH.nil ?_; refine NoP.normal ?_) | (refine WpH.load (by rfl) (by rfl) (by go_simp; rfl) ?_; simp only [Act.put, List.setIfInBounds_toArray, List.set_cons_zero, List.set_cons_succ]) | (refine WpH.loadT (by rfl) (by rfl) (by go_simp; rfl) (by rintro _ _ ⟨⟩; exact ⟨_, _, _, _, _, _, by rfl, by assumption, by assumption⟩) ?_; simp only [Act.put, List.setIfInBounds_toArray, List.set_cons_zero, List.set_cons_succ]) | (refine WpH.pure (by rfl) (fun w_ => by go_simp; (try go_bits); rfl) ?_; simp only [Act.put, List.setIfInBounds_toArray, List.set_cons_zero, List.set_cons_succ]) | (refine WpH.wild1 (by rfl) (fun _ _ => ?_)) | (refine WpH.skip (by rfl) ?_; simp only [Act.put, List.setIfInBounds_toArray, List.set_cons_zero, List.set_cons_succ])) | go_values | go_skip | go_guarded | go_step | go_upon | go_back)
        go_ret
        exact ⟨rfl, bvia hb8 hb6⟩
      · have fa := hff0.out rfl
        have fb := hff1.out rfl
        have ra := hbr0.out
        have rb := hbr1.out
        dsimp only at fa fb ra rb
        have ca : Can L a := ⟨fa, hnew.out _ _⟩
        have hne : a.rep ≠ b.rep := by rw [ra, rb]; exact d1
        have ia' := fa.in_ (by omega)
        have ib' := fb.in_ (by omega)
        have HS1 := hid (fun W => swap_any a b W ia' ib' fb.lo)
        have HS2 := hid (fun W => refSwap_any a b W ia' ib' fb.lo)
        rw [← back_eq fb.lo fa.lo] at HS2
        have hlaw := swap_law hL60 hcalm.out ca fb (hnew.out _ _) hne
        have hbin := backOf_in (b := a) ib' fb.lo
        have hblo : (backOf b a).2 = true → 0 ≤ (backOf b a).1.at_ := fun h => (back_fits fa fb (by omega) h).lo
        generalize backOf b a = f at *
        obtain ⟨x, ok⟩ := f
        dsimp only at HS1 HS2 hlaw hbin hblo
        obtain ⟨x0, x1, x2, x3, -, -, -, -, xl⟩ := Blk.four hA8
        obtain ⟨y0, y1, y2, y3, -, -, -, -, yl⟩ := Blk.four hB8
        cases ok
        · simp only [Bool.false_eq_true, if_false, Opn.agg] at HS1 HS2
          clear hlaw hbin hblo hff0 hff1 hbr0 hbr1 fa fb ra rb ca hne
          repeat' (first | (with_reducible refine stop_region 12 ?_) | (go_at_call 61; go_must ((with_reducible refine Calls.mono (HS1.out _) ?_); rintro _ w9 ⟨rfl, hb9⟩; obtain ⟨hX9, hY9, eXY⟩ := two_boxes' w9 58 #[.int .i64 a.kind, .int .i64 a.at_, .int .i32 a.char, .int .i64 a.rep] #[.int .i64 b.kind, .int .i64 b.at_, .int .i32 b.char, .int .i64 b.rep]; have hA9 := (hA8.step hb9).step eXY; have hB9 := (hB8.step hb9).step eXY; have hown9 := (hown8.step hb9).step eXY; have hbb9 := bvia (bvia hb8 hb9) eXY; obtain ⟨x0, x1, x2, x3, -, -, -, -, xl⟩ := Blk.four (hA8.step hb9); obtain ⟨y0, y1, y2, y3, -, -, -, -, yl⟩ := Blk.four (hB8.step hb9); dsimp only)) | (go_at_call 62; go_must ((with_reducible refine Calls.mono (HS2.out _) ?_); rintro _ w10 ⟨rfl, hb10⟩; obtain ⟨hU10, hV10, eUV⟩ := two_boxes' w10 58 #[.int .i64 a.kind, .int .i64 a.at_, .int .i32 a.char, .int .i64 a.rep] #[.int .i64 b.kind, .int .i64 b.at_, .int .i32 b.char, .int .i64 b.rep]; have hA10 := (hA9.step hb10).step eUV; have hB10 := (hB9.step hb10).step eUV; have hX10 := (hX9.step hb10).step eUV; have hY10 := (hY9.step hb10).step eUV; have hown10 := (hown9.step hb10).step eUV; have hbb10 := bvia (bvia hbb9 hb10) eUV; dsimp only)) | (with_reducible refine Keep.last ?_) | (with_reducible refine Keep.below (by assumption) ?_) | (with_reducible refine Keep.kept (by assumption) ?_) | (with_reducible refine Keep.alloc ?_) | (with_reducible refine Keep.same ?_) | ((with_reducible refine WpH.here ?_); first | (refine WpH.nil ?_; refine NoP.normal ?_) | (refine WpH.load (by rfl) (by rfl) (by go_simp; rfl) ?_; simp only [Act.put, List.setIfInBounds_toArray, List.set_cons_zero, List.set_cons_succ]) | (refine WpH.loadT (by rfl) (by rfl) (by go_simp; rfl) (by rintro _ _ ⟨⟩; exact ⟨_, _, _, _, _, _, by rfl, by assumption, by assumption⟩) ?_; simp only [Act.put, List.setIfInBounds_toArray, List.set_cons_zero, List.set_cons_succ]) | (refine WpH.pure (by rfl) (fun w_ => by go_simp; (try go_bits); rfl) ?_; simp only [Act.put, List.setIfInBounds_toArray, List.set_cons_zero, List.set_cons_succ]) | (refine WpH.wild1 (by rfl) (fun _ _ => ?_)) | (refine WpH.skip (by rfl) ?_; simp only [Act.put, List.setIfInBounds_toArray, List.set_cons_zero, List.set_cons_succ])) | go_values | go_skip | go_guarded | go_step | go_upon | go_back)
          refine Stop.go ?_
          clear x0 x1 x2 x3 y0 y1 y2 y3
          generalize (w10.alloc (.cells #[.int .i64 a.kind, .int .i64 a.at_, .int .i32 a.char, .int .i64 a.rep] 58)).alloc (.cells #[.int .i64 b.kind, .int .i64 b.at_, .int .i32 b.char, .int .i64 b.rep] 58) = V at *
          generalize w10.heap.size = z10 at *
          generalize w9.heap.size = z9 at *
          clear hX9 hY9 hA9 hB9 hown9 hbb9 hb9 hb10 eXY eUV
          obtain ⟨x0, x1, x2, x3, -, -, -, -, xl⟩ := Blk.four hA10
          obtain ⟨y0, y1, y2, y3, -, -, -, -, yl⟩ := Blk.four hB10
          obtain ⟨s0, s1, s2, s3, -, -, -, -, sl⟩ := Blk.four hX10
          obtain ⟨v0, v1, v2, v3, -, -, -, -, vl⟩ := Blk.four hY10
          obtain ⟨c0, c1', c2, c3, -, -, -, -, cl⟩ := Blk.four hU10
          obtain ⟨e0, e1, e2, e3, -, -, -, -, el⟩ := Blk.four hV10
          repeat' (first | (go_at_call 32; go_must ((with_reducible refine Calls.mono (HK.out _) ?_); rintro _ w6 ⟨rfl, hb6⟩; dsimp only)) | (with_reducible refine Keep.last ?_) | (with_reducible refine Keep.below (by assumption) ?_) | (with_reducible refine Keep.kept (by assumption) ?_) | (with_reducible refine Keep.alloc ?_) | (with_reducible refine Keep.same ?_) | ((with_reducible refine WpH.here ?_); first | (refine WpH.nil ?_; refine NoP.normal ?_) | (refine WpH.load (by rfl) (by rfl) (by go_simp; rfl) ?_; simp only [Act.put, List.setIfInBounds_toArray, List.set_cons_zero, List.set_cons_succ]) | (refine WpH.loadT (by rfl) (by rfl) (by go_simp; rfl) (by rintro _ _ ⟨⟩; exact ⟨_, _, _, _, _, _, by rfl, by assumption, by assumption⟩) ?_; simp only [Act.put, List.setIfInBounds_toArray, List.set_cons_zero, List.set_cons_succ]) | (refine WpH.pure (by rfl) (fun w_ => by go_simp; (try go_bits); rfl) ?_; simp only [Act.put, List.setIfInBounds_toArray, List.set_cons_zero, List.set_cons_succ]) | (refine WpH.wild1 (by rfl) (fun _ _ => ?_)) | (refine WpH.skip (by rfl) ?_; simp only [Act.put, List.setIfInBounds_toArray, List.set_cons_zero, List.set_cons_succ])) | go_values | go_skip | go_guarded | go_step | go_upon | go_back)
          go_ret
          exact ⟨rfl, bvia hbb10 hb6⟩
        · simp only [if_true] at HS1 HS2
          obtain ⟨k1, k2, k3, k4, k5⟩ := hlaw rfl
          have iy := Tof_in (b := x) ia'
          have hylo : 0 ≤ (Tof a x).at_ := Int.le_trans fa.lo (Tof_at_le a x).1
          have HS3 := hid (fun W => swap_any x (Tof a x) W hbin iy hylo)
          rw [k4] at HS3
          dsimp only at HS3
          rw [k5] at HS3
          simp only [if_true] at HS3
          have HD1 := hid (fun W (ho : Own W w.heap.size A1 L.length c1 L) => done_two W w.heap.size A1 c1 L a b ho hL60 hgood.out hnod.out k1)
          have HD2 := hid (fun W (ho : Own W w.heap.size A1 L.length c1 L) => done_two W w.heap.size A1 c1 L x (Tof a x) ho hL60 hgood.out hnod.out k2)
          rw [k3] at HD1
          generalize doneAll L [x, Tof a x] = F at *
          generalize Tof a x = y at *
          simp only [Opn.agg] at HS1 HS2 HS3
          clear hbin hblo hff0 hff1 hbr0 hbr1 fa fb ra rb ca hne k1 k2 k3 k4 k5 iy hylo
          repeat' (first | (with_reducible refine stop_region 12 ?_) | (go_at_call 61; go_must ((with_reducible refine Calls.mono (HS1.out _) ?_); rintro _ w9 ⟨rfl, hb9⟩; obtain ⟨hX9, hY9, eXY⟩ := two_boxes' w9 58 #[.int .i64 x.kind, .int .i64 x.at_, .int .i32 x.char, .int .i64 x.rep] #[.int .i64 y.kind, .int .i64 y.at_, .int .i32 y.char, .int .i64 y.rep]; have hA9 := (hA8.step hb9).step eXY; have hB9 := (hB8.step hb9).step eXY; have hown9 := (hown8.step hb9).step eXY; have hbb9 := bvia (bvia hb8 hb9) eXY; obtain ⟨x0, x1, x2, x3, -, -, -, -, xl⟩ := Blk.four (hA8.step hb9); obtain ⟨y0, y1, y2, y3, -, -, -, -, yl⟩ := Blk.four (hB8.step hb9); dsimp only)) | (go_at_call 62; go_must ((with_reducible refine Calls.mono (HS2.out _) ?_); rintro _ w10 ⟨rfl, hb10⟩; obtain ⟨hU10, hV10, eUV⟩ := two_boxes' w10 58 #[.int .i64 x.kind, .int .i64 x.at_, .int .i32 x.char, .int .i64 x.rep] #[.int .i64 y.kind, .int .i64 y.at_, .int .i32 y.char, .int .i64 y.rep]; have hA10 := (hA9.step hb10).step eUV; have hB10 := (hB9.step hb10).step eUV; have hX10 := (hX9.step hb10).step eUV; have hY10 := (hY9.step hb10).step eUV; have hown10 := (hown9.step hb10).step eUV; have hbb10 := bvia (bvia hbb9 hb10) eUV; dsimp only)) | (with_reducible refine Keep.last ?_) | (with_reducible refine Keep.below (by assumption) ?_) | (with_reducible refine Keep.kept (by assumption) ?_) | (with_reducible refine Keep.alloc ?_) | (with_reducible refine Keep.same ?_) | ((with_reducible refine WpH.here ?_); first | (refine WpH.nil ?_; refine NoP.normal ?_) | (refine WpH.load (by rfl) (by rfl) (by go_simp; rfl) ?_; simp only [Act.put, List.setIfInBounds_toArray, List.set_cons_zero, List.set_cons_succ]) | (refine WpH.loadT (by rfl) (by rfl) (by go_simp; rfl) (by rintro _ _ ⟨⟩; exact ⟨_, _, _, _, _, _, by rfl, by assumption, by assumption⟩) ?_; simp only [Act.put, List.setIfInBounds_toArray, List.set_cons_zero, List.set_cons_succ]) | (refine WpH.pure (by rfl) (fun w_ => by go_simp; (try go_bits); rfl) ?_; simp only [Act.put, List.setIfInBounds_toArray, List.set_cons_zero, List.set_cons_succ]) | (refine WpH.wild1 (by rfl) (fun _ _ => ?_)) | (refine WpH.skip (by rfl) ?_; simp only [Act.put, List.setIfInBounds_toArray, List.set_cons_zero, List.set_cons_succ])) | go_values | go_skip | go_guarded | go_step | go_upon | go_back)
          refine Stop.go ?_
          clear x0 x1 x2 x3 y0 y1 y2 y3
          generalize (w10.alloc (.cells #[.int .i64 x.kind, .int .i64 x.at_, .int .i32 x.char, .int .i64 x.rep] 58)).alloc (.cells #[.int .i64 y.kind, .int .i64 y.at_, .int .i32 y.char, .int .i64 y.rep] 58) = V at *
          generalize w10.heap.size = z10 at *
          generalize w9.heap.size = z9 at *
          clear hX9 hY9 hA9 hB9 hown9 hbb9 hb9 hb10 eXY eUV
          obtain ⟨x0, x1, x2, x3, -, -, -, -, xl⟩ := Blk.four hA10
          obtain ⟨y0, y1, y2, y3, -, -, -, -, yl⟩ := Blk.four hB10
          obtain ⟨s0, s1, s2, s3, -, -, -, -, sl⟩ := Blk.four hX10
          obtain ⟨v0, v1, v2, v3, -, -, -, -, vl⟩ := Blk.four hY10
          obtain ⟨c0, c1', c2, c3, -, -, -, -, cl⟩ := Blk.four hU10
          obtain ⟨e0, e1, e2, e3, -, -, -, -, el⟩ := Blk.four hV10
          repeat' (first | (go_at_call 36; go_must (first | ((with_reducible refine Calls.mono (HD1.out _ hown10) ?_); rintro _ w11 ⟨A7, c7, rfl, hF7, hb11, hk11⟩; have hX11 := hX10.step hb11; have hY11 := hY10.step hb11; have hA11 := hA10.step hb11; have hB11 := hB10.step hb11; have hown11 := hown10.step hb11; have hbb11 := bvia hbb10 hb11; obtain ⟨s0, s1, s2, s3, -, -, -, -, sl⟩ := Blk.four hX11; obtain ⟨v0, v1, v2, v3, -, -, -, -, vl⟩ := Blk.four hY11; dsimp only) | ((with_reducible refine Calls.mono (HD2.out _ hown11) ?_); rintro _ w12 ⟨A9, c9, rfl, hF9, hb12, hk12⟩; have hX12 := hX11.step hb12; have hY12 := hY11.step hb12; have hA12 := hA11.step hb12; have hB12 := hB11.step hb12; have hF7' := hF7.step hb12; have hbb12 := bvia hbb11 hb12; obtain ⟨s0, s1, s2, s3, -, -, -, -, sl⟩ := Blk.four hX12; obtain ⟨v0, v1, v2, v3, -, -, -, -, vl⟩ := Blk.four hY12; dsimp only))) | (go_at_call 61; go_must ((with_reducible refine Calls.mono (HS3.out _) ?_); rintro _ w13 ⟨rfl, hb13⟩; have hA13 := hA12.step hb13; have hB13 := hB12.step hb13; have hF7'' := hF7'.step hb13; have hF9' := hF9.step hb13; have hbb13 := bvia hbb12 hb13; dsimp only)) | (with_reducible refine stop_region 19 ?_) | (with_reducible refine Keep.last ?_) | (with_reducible refine Keep.below (by assumption) ?_) | (with_reducible refine Keep.kept (by assumption) ?_) | (with_reducible refine Keep.alloc ?_) | (with_reducible refine Keep.same ?_) | ((with_reducible refine WpH.here ?_); first | (refine WpH.nil ?_; refine NoP.normal ?_) | (refine WpH.load (by rfl) (by rfl) (by go_simp; rfl) ?_; simp only [Act.put, List.setIfInBounds_toArray, List.set_cons_zero, List.set_cons_succ]) | (refine WpH.loadT (by rfl) (by rfl) (by go_simp; rfl) (by rintro _ _ ⟨⟩; exact ⟨_, _, _, _, _, _, by rfl, by assumption, by assumption⟩) ?_; simp only [Act.put, List.setIfInBounds_toArray, List.set_cons_zero, List.set_cons_succ]) | (refine WpH.pure (by rfl) (fun w_ => by go_simp; (try go_bits); rfl) ?_; simp only [Act.put, List.setIfInBounds_toArray, List.set_cons_zero, List.set_cons_succ]) | (refine WpH.wild1 (by rfl) (fun _ _ => ?_)) | (refine WpH.skip (by rfl) ?_; simp only [Act.put, List.setIfInBounds_toArray, List.set_cons_zero, List.set_cons_succ])) | go_values | go_skip | go_guarded | go_step | go_upon | go_back)
          refine Stop.go ?_
          obtain ⟨hC, hD, eCD⟩ := two_boxes' w13 58 #[.int .i64 a.kind, .int .i64 a.at_, .int .i32 a.char, .int .i64 a.rep] #[.int .i64 b.kind, .int .i64 b.at_, .int .i32 b.char, .int .i64 b.rep]
          have hA14 := hA13.step eCD
          have hB14 := hB13.step eCD
          have hE14 := hF7''.step eCD
          have hE15 := hF9'.step eCD
          have hbb14 := bvia hbb13 eCD
          generalize (w13.alloc (.cells #[.int .i64 a.kind, .int .i64 a.at_, .int .i32 a.char, .int .i64 a.rep] 58)).alloc (.cells #[.int .i64 b.kind, .int .i64 b.at_, .int .i32 b.char, .int .i64 b.rep] 58) = V14 at *
          generalize w13.heap.size = z13 at *
          clear s0 s1 s2 s3 v0 v1 v2 v3
          repeat' (first | (go_at_call 37; go_must ((with_reducible refine Calls.mono (els_eq A7 _ c7 A9 c9 F (fun _ => True) (fun _ => True) _ (hE14.row fun _ _ _ => trivial) (hE15.row fun _ _ _ => trivial)) ?_); rintro _ w15 ⟨rfl, hb15⟩; obtain ⟨x0, x1, x2, x3, -, -, -, -, xl⟩ := Blk.four (hA14.step hb15); obtain ⟨y0, y1, y2, y3, -, -, -, -, yl⟩ := Blk.four (hB14.step hb15); obtain ⟨s0, s1, s2, s3, -, -, -, -, sl⟩ := Blk.four (hC.step hb15); obtain ⟨v0, v1, v2, v3, -, -, -, -, vl⟩ := Blk.four (hD.step hb15); have hbb15 := bvia hbb14 hb15; dsimp only)) | (go_at_call 32; go_must ((with_reducible refine Calls.mono (HK.out _) ?_); rintro _ w16 ⟨rfl, hb16⟩; dsimp only)) | (with_reducible refine Keep.last ?_) | (with_reducible refine Keep.below (by assumption) ?_) | (with_reducible refine Keep.kept (by assumption) ?_) | (with_reducible refine Keep.alloc ?_) | (with_reducible refine Keep.same ?_) | ((with_reducible refine WpH.here ?_); first | (refine WpH.nil ?_; refine NoP.normal ?_) | (refine WpH.load (by rfl) (by rfl) (by go_simp; rfl) ?_; simp only [Act.put, List.setIfInBounds_toArray, List.set_cons_zero, List.set_cons_succ]) | (refine WpH.loadT (by rfl) (by rfl) (by go_simp; rfl) (by rintro _ _ ⟨⟩; exact ⟨_, _, _, _, _, _, by rfl, by assumption, by assumption⟩) ?_; simp only [Act.put, List.setIfInBounds_toArray, List.set_cons_zero, List.set_cons_succ]) | (refine WpH.pure (by rfl) (fun w_ => by go_simp; (try go_bits); rfl) ?_; simp only [Act.put, List.setIfInBounds_toArray, List.set_cons_zero, List.set_cons_succ]) | (refine WpH.wild1 (by rfl) (fun _ _ => ?_)) | (refine WpH.skip (by rfl) ?_; simp only [Act.put, List.setIfInBounds_toArray, List.set_cons_zero, List.set_cons_succ])) | go_values | go_skip | go_guarded | go_step | go_upon | go_back)
          skip
          go_ret
          exact ⟨rfl, bvia hbb15 hb16⟩
  · have hi : a.ins = 0 := by unfold Opn.ins; rw [if_neg hk]
    have hcast : ((L.length + a.ins : Nat) : Int) = (L.length : Int) := by omega
    rw [hcast] at HFb
    clear hcast
    repeat' (first | (with_reducible refine stop_region 7 ?_) | (with_reducible refine Keep.last ?_) | (with_reducible refine Keep.below (by assumption) ?_) | (with_reducible refine Keep.kept (by assumption) ?_) | (with_reducible refine Keep.alloc ?_) | (with_reducible refine Keep.same ?_) | ((with_reducible refine WpH.here ?_); first | (refine WpH.nil ?_; refine NoP.normal ?_) | (refine WpH.load (by rfl) (by rfl) (by go_simp; rfl) ?_; simp only [Act.put, List.setIfInBounds_toArray, List.set_cons_zero, List.set_cons_succ]) | (refine WpH.loadT (by rfl) (by rfl) (by go_simp; rfl) (by rintro _ _ ⟨⟩; exact ⟨_, _, _, _, _, _, by rfl, by assumption, by assumption⟩) ?_; simp only [Act.put, List.setIfInBounds_toArray, List.set_cons_zero, List.set_cons_succ]) | (refine WpH.pure (by rfl) (fun w_ => by go_simp; (try go_bits); rfl) ?_; simp only [Act.put, List.setIfInBounds_toArray, List.set_cons_zero, List.set_cons_succ]) | (refine WpH.wild1 (by rfl) (fun _ _ => ?_)) | (refine WpH.skip (by rfl) ?_; simp only [Act.put, List.setIfInBounds_toArray, List.set_cons_zero, List.set_cons_succ])) | go_values | go_skip | go_guarded | go_step | go_upon | go_back)
    refine Stop.go ?_
    clear hk
    repeat' (first | (with_reducible refine stop_region 8 ?_) | (go_at_call 35; go_must ((with_reducible refine Calls.mono (HFb.out _) ?_); rintro _ w5 ⟨rfl, hb5⟩; dsimp only)) | (with_reducible refine Keep.last ?_) | (with_reducible refine Keep.below (by assumption) ?_) | (with_reducible refine Keep.kept (by assumption) ?_) | (with_reducible refine Keep.alloc ?_) | (with_reducible refine Keep.same ?_) | ((with_reducible refine WpH.here ?_); first | (refine WpH.nil ?_; refine NoP.normal ?_) | (refine WpH.load (by rfl) (by rfl) (by go_simp; rfl) ?_; simp only [Act.put, List.setIfInBounds_toArray, List.set_cons_zero, List.set_cons_succ]) | (refine WpH.loadT (by rfl) (by rfl) (by go_simp; rfl) (by rintro _ _ ⟨⟩; exact ⟨_, _, _, _, _, _, by rfl, by assumption, by assumption⟩) ?_; simp only [Act.put, List.setIfInBounds_toArray, List.set_cons_zero, List.set_cons_succ]) | (refine WpH.pure (by rfl) (fun w_ => by go_simp; (try go_bits); rfl) ?_; simp only [Act.put, List.setIfInBounds_toArray, List.set_cons_zero, List.set_cons_succ]) | (refine WpH.wild1 (by rfl) (fun _ _ => ?_)) | (refine WpH.skip (by rfl) ?_; simp only [Act.put, List.setIfInBounds_toArray, List.set_cons_zero, List.set_cons_succ])) | go_values | go_skip | go_guarded | go_step | go_upon | go_back)
    refine Stop.go ?_
    have eB := balloc (o := .cells #[.int .i64 b.kind, .int .i64 b.at_, .int .i32 b.char, .int .i64 b.rep] 58) (Below.refl _ w5)
    have hA8 := (hA4.step hb5).step eB
    have hB8 := Blk.new w5 58 #[.int .i64 b.kind, .int .i64 b.at_, .int .i32 b.char, .int .i64 b.rep]
    have hown8 := (hown4.step hb5).step eB
    have hb8 : Below w.heap.size w (w5.alloc (.cells #[.int .i64 b.kind, .int .i64 b.at_, .int .i32 b.char, .int .i64 b.rep] 58)) := by (repeat' (first | (with_reducible exact Below.refl _ _) | (with_reducible assumption) | (with_reducible refine balloc ?_) | (with_reducible refine bdrew ?_) | (with_reducible refine bset ?_ (by (try dsimp only); omega)) | (with_reducible refine bvia ?_ (by assumption))))
    generalize w5.alloc (.cells #[.int .i64 b.kind, .int .i64 b.at_, .int .i32 b.char, .int .i64 b.rep] 58) = W8 at *
    generalize w5.heap.size = gb at *
    clear hb5 eB hown4 hA4 hT4 hR4 t0 t1 t2 t3 t4 t5 t6 t7 t8 t13 u0 u1 u2 x0 x1 x2 x3 HFb
    cases p
    · skip
      repeat' (first | (go_at_call 32; go_must ((with_reducible refine Calls.mono (HK.out _) ?_); rintro _ w6 ⟨rfl, hb6⟩; dsimp only)) | (with_reducible refine Keep.last ?_) | (with_reducible refine Keep.below (by assumption) ?_) | (with_reducible refine Keep.kept (by assumption) ?_) | (with_reducible refine Keep.alloc ?_) | (with_reducible refine Keep.same ?_) | ((with_reducible refine WpH.here ?_); first | (refine WpH.nil ?_; refine NoP.normal ?_) | (refine WpH.load (by rfl) (by rfl) (by go_simp; rfl) ?_; simp only [Act.put, List.setIfInBounds_toArray, List.set_cons_zero, List.set_cons_succ]) | (refine WpH.loadT (by rfl) (by rfl) (by go_simp; rfl) (by rintro _ _ ⟨⟩; exact ⟨_, _, _, _, _, _, by rfl, by assumption, by assumption⟩) ?_; simp only [Act.put, List.setIfInBounds_toArray, List.set_cons_zero, List.set_cons_succ]) | (refine WpH.pure (by rfl) (fun w_ => by go_simp; (try go_bits); rfl) ?_; simp only [Act.put, List.setIfInBounds_toArray, List.set_cons_zero, List.set_cons_succ]) | (refine WpH.wild1 (by rfl) (fun _ _ => ?_)) | (refine WpH.skip (by rfl) ?_; simp only [Act.put, List.setIfInBounds_toArray, List.set_cons_zero, List.set_cons_succ])) | go_values | go_skip | go_guarded | go_step | go_upon | go_back)
      go_ret
      exact ⟨rfl, bvia hb8 hb6⟩
    · cases q
      · skip
        repeat' (first | (go_at_call 32; go_must ((with_reducible refine Calls.mono (HK.out _) ?_); rintro _ w6 ⟨rfl, hb6⟩; dsimp only)) | (with_reducible refine Keep.last ?_) | (with_reducible refine Keep.below (by assumption) ?_) | (with_reducible refine Keep.kept (by assumption) ?_) | (with_reducible refine Keep.alloc ?_) | (with_reducible refine Keep.same ?_) | ((with_reducible refine WpH.here ?_); first | (refine WpH.nil ?_; refine NoP.normal ?_) | (refine WpH.load (by rfl) (by rfl) (by go_simp; rfl) ?_; simp only [Act.put, List.setIfInBounds_toArray, List.set_cons_zero, List.set_cons_succ]) | (refine WpH.loadT (by rfl) (by rfl) (by go_simp; rfl) (by rintro _ _ ⟨⟩; exact ⟨_, _, _, _, _, _, by rfl, by assumption, by assumption⟩) ?_; simp only [Act.put, List.setIfInBounds_toArray, List.set_cons_zero, List.set_cons_succ]) | (refine WpH.pure (by rfl) (fun w_ => by go_simp; (try go_bits); rfl) ?_; simp only [Act.put, List.setIfInBounds_toArray, List.set_cons_zero, List.set_cons_succ]) | (refine WpH.wild1 (by rfl) (fun _ _ => ?_)) | (refine WpH.skip (by rfl) ?_; simp only [Act.put, List.setIfInBounds_toArray, List.set_cons_zero, List.set_cons_succ])) | go_values | go_skip | go_guarded | go_step | go_upon | go_back)
        go_ret
        exact ⟨rfl, bvia hb8 hb6⟩
      · have fa := hff0.out rfl
        have fb := hff1.out rfl
        have ra := hbr0.out
        have rb := hbr1.out
        dsimp only at fa fb ra rb
        have ca : Can L a := ⟨fa, hnew.out _ _⟩
        have hne : a.rep ≠ b.rep := by rw [ra, rb]; exact d1
        have ia' := fa.in_ (by omega)
        have ib' := fb.in_ (by omega)
        have HS1 := hid (fun W => swap_any a b W ia' ib' fb.lo)
        have HS2 := hid (fun W => refSwap_any a b W ia' ib' fb.lo)
        rw [← back_eq fb.lo fa.lo] at HS2
        have hlaw := swap_law hL60 hcalm.out ca fb (hnew.out _ _) hne
        have hbin := backOf_in (b := a) ib' fb.lo
        have hblo : (backOf b a).2 = true → 0 ≤ (backOf b a).1.at_ := fun h => (back_fits fa fb (by omega) h).lo
        generalize backOf b a = f at *
        obtain ⟨x, ok⟩ := f
        dsimp only at HS1 HS2 hlaw hbin hblo
        obtain ⟨x0, x1, x2, x3, -, -, -, -, xl⟩ := Blk.four hA8
        obtain ⟨y0, y1, y2, y3, -, -, -, -, yl⟩ := Blk.four hB8
        cases ok
        · simp only [Bool.false_eq_true, if_false, Opn.agg] at HS1 HS2
          clear hlaw hbin hblo hff0 hff1 hbr0 hbr1 fa fb ra rb ca hne
          repeat' (first | (with_reducible refine stop_region 12 ?_) | (go_at_call 61; go_must ((with_reducible refine Calls.mono (HS1.out _) ?_); rintro _ w9 ⟨rfl, hb9⟩; obtain ⟨hX9, hY9, eXY⟩ := two_boxes' w9 58 #[.int .i64 a.kind, .int .i64 a.at_, .int .i32 a.char, .int .i64 a.rep] #[.int .i64 b.kind, .int .i64 b.at_, .int .i32 b.char, .int .i64 b.rep]; have hA9 := (hA8.step hb9).step eXY; have hB9 := (hB8.step hb9).step eXY; have hown9 := (hown8.step hb9).step eXY; have hbb9 := bvia (bvia hb8 hb9) eXY; obtain ⟨x0, x1, x2, x3, -, -, -, -, xl⟩ := Blk.four (hA8.step hb9); obtain ⟨y0, y1, y2, y3, -, -, -, -, yl⟩ := Blk.four (hB8.step hb9); dsimp only)) | (go_at_call 62; go_must ((with_reducible refine Calls.mono (HS2.out _) ?_); rintro _ w10 ⟨rfl, hb10⟩; obtain ⟨hU10, hV10, eUV⟩ := two_boxes' w10 58 #[.int .i64 a.kind, .int .i64 a.at_, .int .i32 a.char, .int .i64 a.rep] #[.int .i64 b.kind, .int .i64 b.at_, .int .i32 b.char, .int .i64 b.rep]; have hA10 := (hA9.step hb10).step eUV; have hB10 := (hB9.step hb10).step eUV; have hX10 := (hX9.step hb10).step eUV; have hY10 := (hY9.step hb10).step eUV; have hown10 := (hown9.step hb10).step eUV; have hbb10 := bvia (bvia hbb9 hb10) eUV; dsimp only)) | (with_reducible refine Keep.last ?_) | (with_reducible refine Keep.below (by assumption) ?_) | (with_reducible refine Keep.kept (by assumption) ?_) | (with_reducible refine Keep.alloc ?_) | (with_reducible refine Keep.same ?_) | ((with_reducible refine WpH.here ?_); first | (refine WpH.nil ?_; refine NoP.normal ?_) | (refine WpH.load (by rfl) (by rfl) (by go_simp; rfl) ?_; simp only [Act.put, List.setIfInBounds_toArray, List.set_cons_zero, List.set_cons_succ]) | (refine WpH.loadT (by rfl) (by rfl) (by go_simp; rfl) (by rintro _ _ ⟨⟩; exact ⟨_, _, _, _, _, _, by rfl, by assumption, by assumption⟩) ?_; simp only [Act.put, List.setIfInBounds_toArray, List.set_cons_zero, List.set_cons_succ]) | (refine WpH.pure (by rfl) (fun w_ => by go_simp; (try go_bits); rfl) ?_; simp only [Act.put, List.setIfInBounds_toArray, List.set_cons_zero, List.set_cons_succ]) | (refine WpH.wild1 (by rfl) (fun _ _ => ?_)) | (refine WpH.skip (by rfl) ?_; simp only [Act.put, List.setIfInBounds_toArray, List.set_cons_zero, List.set_cons_succ])) | go_values | go_skip | go_guarded | go_step | go_upon | go_back)
          refine Stop.go ?_
          clear x0 x1 x2 x3 y0 y1 y2 y3
          generalize (w10.alloc (.cells #[.int .i64 a.kind, .int .i64 a.at_, .int .i32 a.char, .int .i64 a.rep] 58)).alloc (.cells #[.int .i64 b.kind, .int .i64 b.at_, .int .i32 b.char, .int .i64 b.rep] 58) = V at *
          generalize w10.heap.size = z10 at *
          generalize w9.heap.size = z9 at *
          clear hX9 hY9 hA9 hB9 hown9 hbb9 hb9 hb10 eXY eUV
          obtain ⟨x0, x1, x2, x3, -, -, -, -, xl⟩ := Blk.four hA10
          obtain ⟨y0, y1, y2, y3, -, -, -, -, yl⟩ := Blk.four hB10
          obtain ⟨s0, s1, s2, s3, -, -, -, -, sl⟩ := Blk.four hX10
          obtain ⟨v0, v1, v2, v3, -, -, -, -, vl⟩ := Blk.four hY10
          obtain ⟨c0, c1', c2, c3, -, -, -, -, cl⟩ := Blk.four hU10
          obtain ⟨e0, e1, e2, e3, -, -, -, -, el⟩ := Blk.four hV10
          repeat' (first | (go_at_call 32; go_must ((with_reducible refine Calls.mono (HK.out _) ?_); rintro _ w6 ⟨rfl, hb6⟩; dsimp only)) | (with_reducible refine Keep.last ?_) | (with_reducible refine Keep.below (by assumption) ?_) | (with_reducible refine Keep.kept (by assumption) ?_) | (with_reducible refine Keep.alloc ?_) | (with_reducible refine Keep.same ?_) | ((with_reducible refine WpH.here ?_); first | (refine WpH.nil ?_; refine NoP.normal ?_) | (refine WpH.load (by rfl) (by rfl) (by go_simp; rfl) ?_; simp only [Act.put, List.setIfInBounds_toArray, List.set_cons_zero, List.set_cons_succ]) | (refine WpH.loadT (by rfl) (by rfl) (by go_simp; rfl) (by rintro _ _ ⟨⟩; exact ⟨_, _, _, _, _, _, by rfl, by assumption, by assumption⟩) ?_; simp only [Act.put, List.setIfInBounds_toArray, List.set_cons_zero, List.set_cons_succ]) | (refine WpH.pure (by rfl) (fun w_ => by go_simp; (try go_bits); rfl) ?_; simp only [Act.put, List.setIfInBounds_toArray, List.set_cons_zero, List.set_cons_succ]) | (refine WpH.wild1 (by rfl) (fun _ _ => ?_)) | (refine WpH.skip (by rfl) ?_; simp only [Act.put, List.setIfInBounds_toArray, List.set_cons_zero, List.set_cons_succ])) | go_values | go_skip | go_guarded | go_step | go_upon | go_back)
          go_ret
          exact ⟨rfl, bvia hbb10 hb6⟩
        · simp only [if_true] at HS1 HS2
          obtain ⟨k1, k2, k3, k4, k5⟩ := hlaw rfl
          have iy := Tof_in (b := x) ia'
          have hylo : 0 ≤ (Tof a x).at_ := Int.le_trans fa.lo (Tof_at_le a x).1
          have HS3 := hid (fun W => swap_any x (Tof a x) W hbin iy hylo)
          rw [k4] at HS3
          dsimp only at HS3
          rw [k5] at HS3
          simp only [if_true] at HS3
          have HD1 := hid (fun W (ho : Own W w.heap.size A1 L.length c1 L) => done_two W w.heap.size A1 c1 L a b ho hL60 hgood.out hnod.out k1)
          have HD2 := hid (fun W (ho : Own W w.heap.size A1 L.length c1 L) => done_two W w.heap.size A1 c1 L x (Tof a x) ho hL60 hgood.out hnod.out k2)
          rw [k3] at HD1
          generalize doneAll L [x, Tof a x] = F at *
          generalize Tof a x = y at *
          simp only [Opn.agg] at HS1 HS2 HS3
          clear hbin hblo hff0 hff1 hbr0 hbr1 fa fb ra rb ca hne k1 k2 k3 k4 k5 iy hylo
          repeat' (first | (with_reducible refine stop_region 12 ?_) | (go_at_call 61; go_must ((with_reducible refine Calls.mono (HS1.out _) ?_); rintro _ w9 ⟨rfl, hb9⟩; obtain ⟨hX9, hY9, eXY⟩ := two_boxes' w9 58 #[.int .i64 x.kind, .int .i64 x.at_, .int .i32 x.char, .int .i64 x.rep] #[.int .i64 y.kind, .int .i64 y.at_, .int .i32 y.char, .int .i64 y.rep]; have hA9 := (hA8.step hb9).step eXY; have hB9 := (hB8.step hb9).step eXY; have hown9 := (hown8.step hb9).step eXY; have hbb9 := bvia (bvia hb8 hb9) eXY; obtain ⟨x0, x1, x2, x3, -, -, -, -, xl⟩ := Blk.four (hA8.step hb9); obtain ⟨y0, y1, y2, y3, -, -, -, -, yl⟩ := Blk.four (hB8.step hb9); dsimp only)) | (go_at_call 62; go_must ((with_reducible refine Calls.mono (HS2.out _) ?_); rintro _ w10 ⟨rfl, hb10⟩; obtain ⟨hU10, hV10, eUV⟩ := two_boxes' w10 58 #[.int .i64 x.kind, .int .i64 x.at_, .int .i32 x.char, .int .i64 x.rep] #[.int .i64 y.kind, .int .i64 y.at_, .int .i32 y.char, .int .i64 y.rep]; have hA10 := (hA9.step hb10).step eUV; have hB10 := (hB9.step hb10).step eUV; have hX10 := (hX9.step hb10).step eUV; have hY10 := (hY9.step hb10).step eUV; have hown10 := (hown9.step hb10).step eUV; have hbb10 := bvia (bvia hbb9 hb10) eUV; dsimp only)) | (with_reducible refine Keep.last ?_) | (with_reducible refine Keep.below (by assumption) ?_) | (with_reducible refine Keep.kept (by assumption) ?_) | (with_reducible refine Keep.alloc ?_) | (with_reducible refine Keep.same ?_) | ((with_reducible refine WpH.here ?_); first | (refine WpH.nil ?_; refine NoP.normal ?_) | (refine WpH.load (by rfl) (by rfl) (by go_simp; rfl) ?_; simp only [Act.put, List.setIfInBounds_toArray, List.set_cons_zero, List.set_cons_succ]) | (refine WpH.loadT (by rfl) (by rfl) (by go_simp; rfl) (by rintro _ _ ⟨⟩; exact ⟨_, _, _, _, _, _, by rfl, by assumption, by assumption⟩) ?_; simp only [Act.put, List.setIfInBounds_toArray, List.set_cons_zero, List.set_cons_succ]) | (refine WpH.pure (by rfl) (fun w_ => by go_simp; (try go_bits); rfl) ?_; simp only [Act.put, List.setIfInBounds_toArray, List.set_cons_zero, List.set_cons_succ]) | (refine WpH.wild1 (by rfl) (fun _ _ => ?_)) | (refine WpH.skip (by rfl) ?_; simp only [Act.put, List.setIfInBounds_toArray, List.set_cons_zero, List.set_cons_succ])) | go_values | go_skip | go_guarded | go_step | go_upon | go_back)
          refine Stop.go ?_
          clear x0 x1 x2 x3 y0 y1 y2 y3
          generalize (w10.alloc (.cells #[.int .i64 x.kind, .int .i64 x.at_, .int .i32 x.char, .int .i64 x.rep] 58)).alloc (.cells #[.int .i64 y.kind, .int .i64 y.at_, .int .i32 y.char, .int .i64 y.rep] 58) = V at *
          generalize w10.heap.size = z10 at *
          generalize w9.heap.size = z9 at *
          clear hX9 hY9 hA9 hB9 hown9 hbb9 hb9 hb10 eXY eUV
          obtain ⟨x0, x1, x2, x3, -, -, -, -, xl⟩ := Blk.four hA10
          obtain ⟨y0, y1, y2, y3, -, -, -, -, yl⟩ := Blk.four hB10
          obtain ⟨s0, s1, s2, s3, -, -, -, -, sl⟩ := Blk.four hX10
          obtain ⟨v0, v1, v2, v3, -, -, -, -, vl⟩ := Blk.four hY10
          obtain ⟨c0, c1', c2, c3, -, -, -, -, cl⟩ := Blk.four hU10
          obtain ⟨e0, e1, e2, e3, -, -, -, -, el⟩ := Blk.four hV10
          repeat' (first | (go_at_call 36; go_must (first | ((with_reducible refine Calls.mono (HD1.out _ hown10) ?_); rintro _ w11 ⟨A7, c7, rfl, hF7, hb11, hk11⟩; have hX11 := hX10.step hb11; have hY11 := hY10.step hb11; have hA11 := hA10.step hb11; have hB11 := hB10.step hb11; have hown11 := hown10.step hb11; have hbb11 := bvia hbb10 hb11; obtain ⟨s0, s1, s2, s3, -, -, -, -, sl⟩ := Blk.four hX11; obtain ⟨v0, v1, v2, v3, -, -, -, -, vl⟩ := Blk.four hY11; dsimp only) | ((with_reducible refine Calls.mono (HD2.out _ hown11) ?_); rintro _ w12 ⟨A9, c9, rfl, hF9, hb12, hk12⟩; have hX12 := hX11.step hb12; have hY12 := hY11.step hb12; have hA12 := hA11.step hb12; have hB12 := hB11.step hb12; have hF7' := hF7.step hb12; have hbb12 := bvia hbb11 hb12; obtain ⟨s0, s1, s2, s3, -, -, -, -, sl⟩ := Blk.four hX12; obtain ⟨v0, v1, v2, v3, -, -, -, -, vl⟩ := Blk.four hY12; dsimp only))) | (go_at_call 61; go_must ((with_reducible refine Calls.mono (HS3.out _) ?_); rintro _ w13 ⟨rfl, hb13⟩; have hA13 := hA12.step hb13; have hB13 := hB12.step hb13; have hF7'' := hF7'.step hb13; have hF9' := hF9.step hb13; have hbb13 := bvia hbb12 hb13; dsimp only)) | (with_reducible refine stop_region 19 ?_) | (with_reducible refine Keep.last ?_) | (with_reducible refine Keep.below (by assumption) ?_) | (with_reducible refine Keep.kept (by assumption) ?_) | (with_reducible refine Keep.alloc ?_) | (with_reducible refine Keep.same ?_) | ((with_reducible refine WpH.here ?_); first | (refine WpH.nil ?_; refine NoP.normal ?_) | (refine WpH.load (by rfl) (by rfl) (by go_simp; rfl) ?_; simp only [Act.put, List.setIfInBounds_toArray, List.set_cons_zero, List.set_cons_succ]) | (refine WpH.loadT (by rfl) (by rfl) (by go_simp; rfl) (by rintro _ _ ⟨⟩; exact ⟨_, _, _, _, _, _, by rfl, by assumption, by assumption⟩) ?_; simp only [Act.put, List.setIfInBounds_toArray, List.set_cons_zero, List.set_cons_succ]) | (refine WpH.pure (by rfl) (fun w_ => by go_simp; (try go_bits); rfl) ?_; simp only [Act.put, List.setIfInBounds_toArray, List.set_cons_zero, List.set_cons_succ]) | (refine WpH.wild1 (by rfl) (fun _ _ => ?_)) | (refine WpH.skip (by rfl) ?_; simp only [Act.put, List.setIfInBounds_toArray, List.set_cons_zero, List.set_cons_succ])) | go_values | go_skip | go_guarded | go_step | go_upon | go_back)
          refine Stop.go ?_
          obtain ⟨hC, hD, eCD⟩ := two_boxes' w13 58 #[.int .i64 a.kind, .int .i64 a.at_, .int .i32 a.char, .int .i64 a.rep] #[.int .i64 b.kind, .int .i64 b.at_, .int .i32 b.char, .int .i64 b.rep]
          have hA14 := hA13.step eCD
          have hB14 := hB13.step eCD
          have hE14 := hF7''.step eCD
          have hE15 := hF9'.step eCD
          have hbb14 := bvia hbb13 eCD
          generalize (w13.alloc (.cells #[.int .i64 a.kind, .int .i64 a.at_, .int .i32 a.char, .int .i64 a.rep] 58)).alloc (.cells #[.int .i64 b.kind, .int .i64 b.at_, .int .i32 b.char, .int .i64 b.rep] 58) = V14 at *
          generalize w13.heap.size = z13 at *
          clear s0 s1 s2 s3 v0 v1 v2 v3
          repeat' (first | (go_at_call 37; go_must ((with_reducible refine Calls.mono (els_eq A7 _ c7 A9 c9 F (fun _ => True) (fun _ => True) _ (hE14.row fun _ _ _ => trivial) (hE15.row fun _ _ _ => trivial)) ?_); rintro _ w15 ⟨rfl, hb15⟩; obtain ⟨x0, x1, x2, x3, -, -, -, -, xl⟩ := Blk.four (hA14.step hb15); obtain ⟨y0, y1, y2, y3, -, -, -, -, yl⟩ := Blk.four (hB14.step hb15); obtain ⟨s0, s1, s2, s3, -, -, -, -, sl⟩ := Blk.four (hC.step hb15); obtain ⟨v0, v1, v2, v3, -, -, -, -, vl⟩ := Blk.four (hD.step hb15); have hbb15 := bvia hbb14 hb15; dsimp only)) | (go_at_call 32; go_must ((with_reducible refine Calls.mono (HK.out _) ?_); rintro _ w16 ⟨rfl, hb16⟩; dsimp only)) | (with_reducible refine Keep.last ?_) | (with_reducible refine Keep.below (by assumption) ?_) | (with_reducible refine Keep.kept (by assumption) ?_) | (with_reducible refine Keep.alloc ?_) | (with_reducible refine Keep.same ?_) | ((with_reducible refine WpH.here ?_); first | (refine WpH.nil ?_; refine NoP.normal ?_) | (refine WpH.load (by rfl) (by rfl) (by go_simp; rfl) ?_; simp only [Act.put, List.setIfInBounds_toArray, List.set_cons_zero, List.set_cons_succ]) | (refine WpH.loadT (by rfl) (by rfl) (by go_simp; rfl) (by rintro _ _ ⟨⟩; exact ⟨_, _, _, _, _, _, by rfl, by assumption, by assumption⟩) ?_; simp only [Act.put, List.setIfInBounds_toArray, List.set_cons_zero, List.set_cons_succ]) | (refine WpH.pure (by rfl) (fun w_ => by go_simp; (try go_bits); rfl) ?_; simp only [Act.put, List.setIfInBounds_toArray, List.set_cons_zero, List.set_cons_succ]) | (refine WpH.wild1 (by rfl) (fun _ _ => ?_)) | (refine WpH.skip (by rfl) ?_; simp only [Act.put, List.setIfInBounds_toArray, List.set_cons_zero, List.set_cons_succ])) | go_values | go_skip | go_guarded | go_step | go_upon | go_back)
          skip
          go_ret
          exact ⟨rfl, bvia hbb15 hb16⟩
set_option maxRecDepth 100000 in
theorem xsw_contract (H : Type) (enc : TypeId × Value → H) (W : World) (base : Nat) (args : Array Value) (ds gs : List (DataW H)) (before : List MemPlace)
    (hval : ∀ (j : Nat) t v, Tryd.f15.params[j]? = some t → args[j]? = some v → Value.okWide Tryd.prog W .any base t v)
    (hW : DataW.Whole enc Tryd.prog Tryd.f15.params.toList Rows.xformSwapSpec.vars false W args.toList ds gs before) (hL : laidMetH Tryd.prog Rows.xformSwapRow.laid W) :
    Calls Tryd.prog 15 args W fun e W' => ∃ v, e = .returned v ∧ Rows.xformSwapSpec.post enc Tryd.prog Tryd.f15 false true false false W args v W' := by
  have hW' := hW
  obtain ⟨p, q, hA0, hV, rfl, hfz, hnd⟩ := hW
  have hA : DataW.TrodAll enc Tryd.prog W 0 (fun _ => true) true Tryd.f15.params.toList args.toList ds p := hA0
  rw [Tryd.params15] at hA hval
  obtain ⟨rfl, rfl⟩ := trodVars_none hV
  obtain ⟨v0, d0, rfl, rfl, h0⟩ := trodAll_one hA
  obtain ⟨A, n, c, ls, a, b, o, who, rfl, hr, ia, ib, io, hw⟩ := trio_of_trod (hval 0 62 v0 rfl rfl) h0
  refine (xsw_true W A n c ls _ a b o who hr hw ia ib).mono fun e W' ⟨he, hb⟩ => ⟨_, he, ?_⟩
  refine law_post rfl (by kernel_rfl) ?_ hW' rfl rfl rfl hb
  intro t ht
  rw [Tryd.params15] at ht
  have hall : (([62] : List TypeId).all fun u => Tryd.prog.readableRec u && decide (u < Tryd.prog.types.size)) = true := by kernel_rfl
  have := List.all_eq_true.1 hall t ht
  simpa using this
theorem xsw_doorMet (os : Os) (args : Array Value) : laidMetH Tryd.prog Rows.xformSwapRow.laid ((World.doorLaid Tryd.prog 275 os).forCall (fun _ _ => 0) ⟨#[], args, []⟩).memory :=
  laidMetH_of_parts3 (fuel := 8) (laidMet_of_run' 8 (by kernel_rfl) (by kernel_rfl)) (by kernel_rfl) (by kernel_rfl)
theorem xsw_reads (os : Os) {H : Type} (enc : TypeId × Value → H) : ∃ places, DataW.whole enc Tryd.prog ((World.doorLaid Tryd.prog 275 os).forCall (fun _ _ => 0) ⟨#[], #[.agg #[.slice none 0 0, .int .i64 0, .int .i64 0, .int .i32 0, .int .i64 0, .int .i64 0, .int .i64 0, .int .i32 0, .int .i64 0, .int .i64 0, .int .i64 0, .int .i32 0, .int .i64 0, .int .i64 0]], []⟩).memory Tryd.f15.params.toList Rows.xformSwapSpec.vars false (#[.agg #[.slice none 0 0, .int .i64 0, .int .i64 0, .int .i32 0, .int .i64 0, .int .i64 0, .int .i64 0, .int .i32 0, .int .i64 0, .int .i64 0, .int .i64 0, .int .i32 0, .int .i64 0, .int .i64 0]] : Array Value).toList 8 = some ([.agg [.nil, .agg [.lit (.int .i64 0), .lit (.int .i64 0), .lit (.int .i32 0), .lit (.int .i64 0)], .agg [.lit (.int .i64 0), .lit (.int .i64 0), .lit (.int .i32 0), .lit (.int .i64 0)], .agg [.lit (.int .i64 0), .lit (.int .i64 0), .lit (.int .i32 0), .lit (.int .i64 0)], .lit (.int .i64 0)]], [], places) :=
  ⟨[], by kernel_rfl⟩
set_option maxRecDepth 100000 in
theorem xsw_lifted (os : Os) (started : os.Started) (H : Type) (enc : TypeId × Value → H) (F : Stop.Interp) :
    ReturnsInHanded {} Tryd.checked os 15 .any ((OpenSpec.ofChange Rows.xformSwapSpec).preRow enc Tryd.prog Tryd.f15 Rows.xformSwapRow.domain false Rows.xformSwapRow.laid) (((OpenSpec.ofChange Rows.xformSwapSpec).at F).post enc Tryd.prog Tryd.f15 false true false false) := by
  obtain ⟨places, hx⟩ := xsw_reads os enc
  refine returnsInHanded_of_row (C := Tryd.checked) (s := OpenSpec.ofChange Rows.xformSwapSpec) own started (by kernel_rfl) Tryd.func15
    (witness_row_atRef (enc := enc) (C := Tryd.checked) false (World.doorLaid Tryd.prog 275 os) #[.agg #[.slice none 0 0, .int .i64 0, .int .i64 0, .int .i32 0, .int .i64 0, .int .i64 0, .int .i64 0, .int .i32 0, .int .i64 0, .int .i64 0, .int .i64 0, .int .i32 0, .int .i64 0, .int .i64 0]] rfl (by kernel_rfl) (by kernel_rfl) (by kernel_rfl)
      (OpenSpec.preRow_of_cond 8 hx (by kernel_rfl) (fun k hk => by cases hk) (by kernel_rfl) (xsw_doorMet os _))) ?_
  intro W base args ds gs before hval hW _ _ _ hL _ _
  exact xsw_contract H enc W base args ds gs before hval hW hL
theorem xsw_said : Rows.XformSwapSaid :=
  OpenClaim.holds_of_cond 15 Tryd.f15 rfl rfl rfl rfl rfl rfl rfl ⟨rfl, rfl, rfl, rfl, rfl⟩ rfl rfl rfl rfl rfl (by kernel_rfl) Tryd.func15 (by kernel_rfl)
    (of_decide_eq_true (by kernel_rfl)) (by unfold Func.isWrapper; first | (rw [if_pos (by decide +kernel)]; kernel_rfl) | (rw [if_neg (by decide +kernel)]; exact ⟨rfl, rfl⟩))
    (fun os started H enc _ F => by rw [OpenClaim.pre_eq_preRow]; exact xsw_lifted os started H enc F)
theorem xsw_plain (f : FuncId) (fn : Func) (hf : Tryd.pinned.checked.prog.funcNamed "barrow/barrowlaw07.XformSwap" = some f) (hfn : Tryd.pinned.checked.prog.funcs[f]? = some fn) :
    true = Tryd.pinned.checked.prog.looks [] ∧ ∀ (j : Nat) t, fn.params[j]? = some t → Tryd.pinned.checked.prog.wantsStandIn t = false := by
  obtain rfl : f = 15 := Option.some.inj ((show Tryd.prog.funcNamed "barrow/barrowlaw07.XformSwap" = some 15 by kernel_rfl).symm.trans hf) |>.symm
  obtain rfl : fn = Tryd.f15 := (Option.some.inj (Tryd.func15.symm.trans hfn)).symm
  refine ⟨by kernel_rfl, fun j t ht => ?_⟩
  rw [Tryd.params15] at ht
  have hm : t ∈ ([62] : List TypeId) := by simpa using Array.mem_of_getElem? ht
  have hall : (([62] : List TypeId).all fun u => !Tryd.prog.wantsStandIn u) = true := by kernel_rfl
  exact (show Tryd.prog.wantsStandIn t = false by simpa using List.all_eq_true.1 hall t hm)
theorem xformSwap_card : Rows.XformSwapCardSaid :=
  Claim7.holds_tied_plain_at .later [] _ _ _ _ xsw_said (fun _ h => by cases h) (by kernel_rfl) (fun _ h => by cases h) xformSwap_row_tie rfl ⟨rfl, rfl⟩ (by kernel_rfl) rfl xsw_plain (by kernel_rfl)
#print axioms xformSwap_card
end Go.Proofs.YtogkbddniacgiaaDoor
