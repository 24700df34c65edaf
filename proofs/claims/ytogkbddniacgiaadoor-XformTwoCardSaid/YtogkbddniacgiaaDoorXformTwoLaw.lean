/- barrowlaw07.XformTwo returns true for every input, and leaves what it is given as it was. No condition. -/
import Derived.Test.YtogkbddniacgiaaDoorTrioOpen
import Derived.Deep.DeepWitnessRowRef
import Derived.LaidMore
namespace Go.Proofs.YtogkbddniacgiaaDoor
set_option linter.unusedSimpArgs false
set_option linter.unusedVariables false
open Go Go.RowKit Go.ChangeShapes Go.WideShapes Go.ChangeAt
set_option maxRecDepth 100000 in
set_option maxHeartbeats 4000000 in
theorem xtwo_true (w : World) (A : Option Addr) (n c : Nat) (ls : List El) (SB : Nat → Prop) (oa ob oc : Opn) (who : Int) (hr : Row w SB A n c ls) (hw : I64 who) (ia : oa.In) (ib : ob.In) :
    Calls Tryd.prog 6 #[.agg (trioCells A n c oa ob oc who)] w fun e w' => e = .returned (.bool true) ∧ Below w.heap.size w w' := by
  have HK := hid wakes7_any
  have HRow := hid (fun W (hb : Below w.heap.size w W) => row7_any W A n c ls SB (hr.step hb))
  have HThree := hid (fun W => three_any who W hw)
  obtain ⟨⟨q0, q1, q2⟩, d1, d2, d3⟩ := three_apart who
  have hL := row7_length (ls.take 60)
  have hl60 : (ls.take 60).length ≤ 60 := List.length_take_le _ _
  have hgood := hid (row7_good hl60)
  have hnod := hid (row7_nodup (ls.take 60))
  have hcalm := hid (row7_calm (ls.take 60))
  have hnew := hid (row7_new (ls.take 60))
  have hL60 : (row7 (ls.take 60)).length ≤ 60 := by omega
  clear hL hl60 hr
  generalize row7 (ls.take 60) = L at *
  generalize (threeOf who).1 = r0 at *
  generalize (threeOf who).2.1 = r1 at *
  generalize (threeOf who).2.2 = r2 at *
  have HFa := hid (fun W => fit_any oa L.length r0 W (by omega))
  have HFb := hid (fun W => fit_any ob L.length r1 W (by omega))
  have b1 : Below w.heap.size w (w.alloc (.cells (trioCells A n c oa ob oc who) 62)) := balloc (Below.refl _ _)
  have hT := Blk.new w 62 (trioCells A n c oa ob oc who)
  unfold trioCells at b1 ⊢
  simp only [Opn.agg] at HFa HFb
  obtain ⟨t0, t1, t2, t3, t4, t5, t6, t7, t8, -, -, -, -, t13, tl⟩ := trio_cells hT
  unfold trioCells at t0 t1 t2 t3 t4 t5 t6 t7 t8 t13 tl
  go_enter Tryd.func6, Tryd.ntmps6
  repeat' (first | (with_reducible refine stop_region 5 ?_) | (go_at_call 33; go_must ((with_reducible refine Calls.mono (HRow.out _ b1) ?_); rintro _ w1 ⟨A1, c1, rfl, hown1, hb1⟩; have hT1 := hT.step hb1; obtain ⟨t0, t1, t2, t3, t4, t5, t6, t7, t8, -, -, -, -, t13, tl⟩ := trio_cells hT1; dsimp only)) | (go_at_call 34; go_must ((with_reducible refine Calls.mono (HThree.out _) ?_); rintro _ w2 ⟨rfl, hb2⟩; have hT2 := hT1.step hb2; obtain ⟨t0, t1, t2, t3, t4, t5, t6, t7, t8, -, -, -, -, t13, tl⟩ := trio_cells hT2; dsimp only)) | (go_at_call 35; go_must (first | ((with_reducible refine Calls.mono (HFa.out _) ?_); rintro _ w3 ⟨rfl, hb3⟩; have eR := balloc (o := .cells #[.int .i64 r0, .int .i64 r1, .int .i64 r2] 64) (Below.refl _ w2); have hT3 := (hT2.step eR).step hb3; have hR3 := (Blk.new w2 64 #[.int .i64 r0, .int .i64 r1, .int .i64 r2]).step hb3; obtain ⟨t0, t1, t2, t3, t4, t5, t6, t7, t8, -, -, -, -, t13, tl⟩ := trio_cells hT3; obtain ⟨u0, u1, u2, ul⟩ := Blk.three hR3; dsimp only) | ((with_reducible refine Calls.mono (HFb.out _) ?_); rintro _ w4 ⟨rfl, hb4⟩; dsimp only))) | (with_reducible refine Keep.last ?_) | (with_reducible refine Keep.below (by assumption) ?_) | (with_reducible refine Keep.kept (by assumption) ?_) | (with_reducible refine Keep.alloc ?_) | (with_reducible refine Keep.same ?_) | ((with_reducible refine WpH.here ?_); first | (refine WpH.nil ?_; refine NoP.normal ?_) | (refine WpH.load (by rfl) (by rfl) (by go_simp; rfl) ?_; simp only [Act.put, List.setIfInBounds_toArray, List.set_cons_zero, List.set_cons_succ]) | (refine WpH.loadT (by rfl) (by rfl) (by go_simp; rfl) (by rintro _ _ ⟨⟩; exact ⟨_, _, _, _, _, _, by rfl, by assumption, by assumption⟩) ?_; simp only [Act.put, List.setIfInBounds_toArray, List.set_cons_zero, List.set_cons_succ]) | (refine WpH.pure (by rfl) (fun w_ => by go_simp; (try go_bits); rfl) ?_; simp only [Act.put, List.setIfInBounds_toArray, List.set_cons_zero, List.set_cons_succ]) | (refine WpH.wild1 (by rfl) (fun _ _ => ?_)) | (refine WpH.skip (by rfl) ?_; simp only [Act.put, List.setIfInBounds_toArray, List.set_cons_zero, List.set_cons_succ])) | go_values | go_skip | go_guarded | go_step | go_upon | go_back)
  refine Stop.go ?_
  have hbr0 := hid (fit_rep oa L.length r0)
  have hbr1 := hid (fit_rep ob L.length r1)
  have hff0 := hid (fun h => fit_fits (o := oa) (n := L.length) (r := r0) q0 h)
  have hff1 := hid (fun h => fit_fits (o := ob) (n := L.length) (r := r1) q1 h)
  generalize fitOf oa L.length r0 = fa at *
  generalize fitOf ob L.length r1 = fb at *
  obtain ⟨a, p⟩ := fa
  obtain ⟨b, q⟩ := fb
  clear HFa HFb HRow HThree t0 t1 t2 t3 t4 t5 t6 t7 t8 t13
  have eA := balloc (o := .cells #[.int .i64 a.kind, .int .i64 a.at_, .int .i32 a.char, .int .i64 a.rep] 58) (Below.refl _ w3)
  have eB := balloc (o := .cells #[.int .i64 b.kind, .int .i64 b.at_, .int .i32 b.char, .int .i64 b.rep] 58) (Below.refl _ w4)
  have hA5 := ((Blk.new w3 58 #[.int .i64 a.kind, .int .i64 a.at_, .int .i32 a.char, .int .i64 a.rep]).step hb4).step eB
  have hB5 := Blk.new w4 58 #[.int .i64 b.kind, .int .i64 b.at_, .int .i32 b.char, .int .i64 b.rep]
  have hown5 := ((((((hown1.mono b1.size).step hb2).step eR).step hb3).step eA).step hb4).step eB
  have hb5 : Below w.heap.size w (w4.alloc (.cells #[.int .i64 b.kind, .int .i64 b.at_, .int .i32 b.char, .int .i64 b.rep] 58)) := by (repeat' (first | (with_reducible exact Below.refl _ _) | (with_reducible assumption) | (with_reducible refine balloc ?_) | (with_reducible refine bdrew ?_) | (with_reducible refine bset ?_ (by (try dsimp only); omega)) | (with_reducible refine bvia ?_ (by assumption))))
  dsimp only
  generalize w4.alloc (.cells #[.int .i64 b.kind, .int .i64 b.at_, .int .i32 b.char, .int .i64 b.rep] 58) = W5 at *
  generalize w3.heap.size = ga at *
  generalize w4.heap.size = gb at *
  clear hown1 hb2 hb3 hb4 hb1 eA eB eR hT hT1 hT2 hT3 hR3
  cases p
  · repeat' (first | (go_at_call 32; go_must ((with_reducible refine Calls.mono (HK.out _) ?_); rintro _ w6 ⟨rfl, hb6⟩; dsimp only)) | (with_reducible refine Keep.last ?_) | (with_reducible refine Keep.below (by assumption) ?_) | (with_reducible refine Keep.kept (by assumption) ?_) | (with_reducible refine Keep.alloc ?_) | (with_reducible refine Keep.same ?_) | ((with_reducible refine WpH.here ?_); first | (refine WpH.nil ?_; refine NoP.normal ?_) | (refine WpH.load (by rfl) (by rfl) (by go_simp; rfl) ?_; simp only [Act.put, List.setIfInBounds_toArray, List.set_cons_zero, List.set_cons_succ]) | (refine WpH.loadT (by rfl) (by rfl) (by go_simp; rfl) (by rintro _ _ ⟨⟩; exact ⟨_, _, _, _, _, _, by rfl, by assumption, by assumption⟩) ?_; simp only [Act.put, List.setIfInBounds_toArray, List.set_cons_zero, List.set_cons_succ]) | (refine WpH.pure (by rfl) (fun w_ => by go_simp; (try go_bits); rfl) ?_; simp only [Act.put, List.setIfInBounds_toArray, List.set_cons_zero, List.set_cons_succ]) | (refine WpH.wild1 (by rfl) (fun _ _ => ?_)) | (refine WpH.skip (by rfl) ?_; simp only [Act.put, List.setIfInBounds_toArray, List.set_cons_zero, List.set_cons_succ])) | go_values | go_skip | go_guarded | go_step | go_upon | go_back)
    go_ret
    exact ⟨rfl, bvia hb5 hb6⟩
  · cases q
    · repeat' (first | (go_at_call 32; go_must ((with_reducible refine Calls.mono (HK.out _) ?_); rintro _ w6 ⟨rfl, hb6⟩; dsimp only)) | (with_reducible refine Keep.last ?_) | (with_reducible refine Keep.below (by assumption) ?_) | (with_reducible refine Keep.kept (by assumption) ?_) | (with_reducible refine Keep.alloc ?_) | (with_reducible refine Keep.same ?_) | ((with_reducible refine WpH.here ?_); first | (refine WpH.nil ?_; refine NoP.normal ?_) | (refine WpH.load (by rfl) (by rfl) (by go_simp; rfl) ?_; simp only [Act.put, List.setIfInBounds_toArray, List.set_cons_zero, List.set_cons_succ]) | (refine WpH.loadT (by rfl) (by rfl) (by go_simp; rfl) (by rintro _ _ ⟨⟩; exact ⟨_, _, _, _, _, _, by rfl, by assumption, by assumption⟩) ?_; simp only [Act.put, List.setIfInBounds_toArray, List.set_cons_zero, List.set_cons_succ]) | (refine WpH.pure (by rfl) (fun w_ => by go_simp; (try go_bits); rfl) ?_; simp only [Act.put, List.setIfInBounds_toArray, List.set_cons_zero, List.set_cons_succ]) | (refine WpH.wild1 (by rfl) (fun _ _ => ?_)) | (refine WpH.skip (by rfl) ?_; simp only [Act.put, List.setIfInBounds_toArray, List.set_cons_zero, List.set_cons_succ])) | go_values | go_skip | go_guarded | go_step | go_upon | go_back)
      go_ret
      exact ⟨rfl, bvia hb5 hb6⟩
    · have ca : Can L a := ⟨hff0.out rfl, hnew.out _ _⟩
      have cb : Can L b := ⟨hff1.out rfl, hnew.out _ _⟩
      have hne : a.rep ≠ b.rep := by have h0 := hbr0.out; have h1 := hbr1.out; dsimp only at h0 h1; rw [h0, h1]; exact d1
      have HT1 := hid (fun W => T_any b a W (cb.fits.in_ (by omega)))
      have HT2 := hid (fun W => T_any a b W (ca.fits.in_ (by omega)))
      have HD1 := hid (fun W (ho : Own W w.heap.size A1 L.length c1 L) => done_two W w.heap.size A1 c1 L a (Tof b a) ho hL60 hgood.out hnod.out (canAll_two ca cb hcalm.out hne (by omega)))
      have HD2 := hid (fun W (ho : Own W w.heap.size A1 L.length c1 L) => done_two W w.heap.size A1 c1 L b (Tof a b) ho hL60 hgood.out hnod.out (canAll_two cb ca hcalm.out hne.symm (by omega)))
      rw [two_ways ca cb hne (by omega)] at HD1
      generalize doneAll L [b, Tof a b] = F at *
      generalize Tof a b = y at *
      generalize Tof b a = x at *
      simp only [Opn.agg] at HT1 HT2
      clear hff0 hff1 hbr0 hbr1 ca cb hnew hcalm
      obtain ⟨x0, x1, x2, x3, -, -, -, -, xl⟩ := Blk.four hA5
      obtain ⟨y0, y1, y2, y3, -, -, -, -, yl⟩ := Blk.four hB5
      repeat' (first | ((with_reducible refine region_at 7 ?_); refine wp_region_order [(0, true, false), (1, true, false), (2, true, false), (3, true, false), (4, false, false), (5, false, false), (6, false, false), (7, true, false), (8, true, false), (9, true, false), (10, true, false), (11, true, false)] (by kernel_rfl) (by kernel_rfl) (by kernel_rfl) rfl rfl ?_) | ((with_reducible refine region_at 8 ?_); refine wp_region_order [(0, true, false), (1, true, false), (2, true, false), (3, true, false), (4, false, false), (5, false, false), (6, false, false), (7, true, false), (8, true, false), (9, true, false), (10, true, false), (11, true, false)] (by kernel_rfl) (by kernel_rfl) (by kernel_rfl) rfl rfl ?_) | (go_at_call 30; go_must (first | ((with_reducible refine Calls.mono (HT1.out _) ?_); rintro _ w6 ⟨rfl, hb6⟩; have hA6 := hA5.drew.step hb6; have hB6 := hB5.drew.step hb6; have hown6 := hown5.drew.step hb6; have hbb6 := bvia (bdrew hb5) hb6; dsimp only) | ((with_reducible refine Calls.mono (HT2.out _) ?_); rintro _ w8 ⟨rfl, hb8⟩; have hown8 := hown7.drew.step hb8; have hF8 := hF7.drew.step hb8; have hbb8 := bvia (bdrew hbb7) hb8; dsimp only))) | (go_at_call 36; go_must (first | ((with_reducible refine Calls.mono (HD2.out _ hown8) ?_); rintro _ w9 ⟨A9, c9, rfl, hF9, hb9, hk9⟩; have hF79 := hF8.step hb9; have hbb9 := bvia hbb8 hb9; dsimp only) | ((with_reducible refine Calls.mono (HD1.out _ hown6) ?_); rintro _ w7 ⟨A7, c7, rfl, hF7, hb7, hk7⟩; have hA7 := hA6.step hb7; have hB7 := hB6.step hb7; have hown7 := hown6.step hb7; have hbb7 := bvia hbb6 hb7; obtain ⟨x0, x1, x2, x3, -, -, -, -, xl⟩ := Blk.four hA7; obtain ⟨y0, y1, y2, y3, -, -, -, -, yl⟩ := Blk.four hB7; dsimp only))) | (go_at_call 37; go_must ((with_reducible refine Calls.mono (els_eq A7 _ c7 A9 c9 F (fun _ => True) (fun _ => True) _ (hF79.row fun _ _ _ => trivial) (hF9.row fun _ _ _ => trivial)) ?_); rintro _ w10 ⟨rfl, hb10⟩; dsimp only)) | (go_at_call 32; go_must ((with_reducible refine Calls.mono (HK.out _) ?_); rintro _ w11 ⟨rfl, hb11⟩; dsimp only)) | (with_reducible refine Keep.last ?_) | (with_reducible refine Keep.below (by assumption) ?_) | (with_reducible refine Keep.kept (by assumption) ?_) | (with_reducible refine Keep.alloc ?_) | (with_reducible refine Keep.same ?_) | ((with_reducible refine WpH.here ?_); first | (refine WpH.nil ?_; refine NoP.normal ?_) | (refine WpH.load (by rfl) (by rfl) (by go_simp; rfl) ?_; simp only [Act.put, List.setIfInBounds_toArray, List.set_cons_zero, List.set_cons_succ]) | (refine WpH.loadT (by rfl) (by rfl) (by go_simp; rfl) (by rintro _ _ ⟨⟩; exact ⟨_, _, _, _, _, _, by rfl, by assumption, by assumption⟩) ?_; simp only [Act.put, List.setIfInBounds_toArray, List.set_cons_zero, List.set_cons_succ]) | (refine WpH.pure (by rfl) (fun w_ => by go_simp; (try go_bits); rfl) ?_; simp only [Act.put, List.setIfInBounds_toArray, List.set_cons_zero, List.set_cons_succ]) | (refine WpH.wild1 (by rfl) (fun _ _ => ?_)) | (refine WpH.skip (by rfl) ?_; simp only [Act.put, List.setIfInBounds_toArray, List.set_cons_zero, List.set_cons_succ])) | go_values | go_skip | go_guarded | go_step | go_upon | go_back)
      skip
      go_ret
      exact ⟨rfl, bvia (bvia hbb9 hb10) hb11⟩
set_option maxRecDepth 100000 in
theorem xtwo_contract (H : Type) (enc : TypeId × Value → H) (W : World) (base : Nat) (args : Array Value) (ds gs : List (DataW H)) (before : List MemPlace)
    (hval : ∀ (j : Nat) t v, Tryd.f6.params[j]? = some t → args[j]? = some v → Value.okWide Tryd.prog W .any base t v)
    (hW : DataW.Whole enc Tryd.prog Tryd.f6.params.toList Rows.xformTwoSpec.vars false W args.toList ds gs before) (hL : laidMetH Tryd.prog Rows.xformTwoRow.laid W) :
    Calls Tryd.prog 6 args W fun e W' => ∃ v, e = .returned v ∧ Rows.xformTwoSpec.post enc Tryd.prog Tryd.f6 false true false false W args v W' := by
  have hW' := hW
  obtain ⟨p, q, hA0, hV, rfl, hfz, hnd⟩ := hW
  have hA : DataW.TrodAll enc Tryd.prog W 0 (fun _ => true) true Tryd.f6.params.toList args.toList ds p := hA0
  rw [Tryd.params6] at hA hval
  obtain ⟨rfl, rfl⟩ := trodVars_none hV
  obtain ⟨v0, d0, rfl, rfl, h0⟩ := trodAll_one hA
  obtain ⟨A, n, c, ls, a, b, o, who, rfl, hr, ia, ib, io, hw⟩ := trio_of_trod (hval 0 62 v0 rfl rfl) h0
  refine (xtwo_true W A n c ls _ a b o who hr hw ia ib).mono fun e W' ⟨he, hb⟩ => ⟨_, he, ?_⟩
  refine law_post rfl (by kernel_rfl) ?_ hW' rfl rfl rfl hb
  intro t ht
  rw [Tryd.params6] at ht
  have hall : (([62] : List TypeId).all fun u => Tryd.prog.readableRec u && decide (u < Tryd.prog.types.size)) = true := by kernel_rfl
  have := List.all_eq_true.1 hall t ht
  simpa using this
theorem xtwo_doorMet (os : Os) (args : Array Value) : laidMetH Tryd.prog Rows.xformTwoRow.laid ((World.doorLaid Tryd.prog 275 os).forCall (fun _ _ => 0) ⟨#[], args, []⟩).memory :=
  laidMetH_of_parts3 (fuel := 8) (laidMet_of_run' 8 (by kernel_rfl) (by kernel_rfl)) (by kernel_rfl) (by kernel_rfl)
theorem xtwo_reads (os : Os) {H : Type} (enc : TypeId × Value → H) : ∃ places, DataW.whole enc Tryd.prog ((World.doorLaid Tryd.prog 275 os).forCall (fun _ _ => 0) ⟨#[], #[.agg #[.slice none 0 0, .int .i64 0, .int .i64 0, .int .i32 0, .int .i64 0, .int .i64 0, .int .i64 0, .int .i32 0, .int .i64 0, .int .i64 0, .int .i64 0, .int .i32 0, .int .i64 0, .int .i64 0]], []⟩).memory Tryd.f6.params.toList Rows.xformTwoSpec.vars false (#[.agg #[.slice none 0 0, .int .i64 0, .int .i64 0, .int .i32 0, .int .i64 0, .int .i64 0, .int .i64 0, .int .i32 0, .int .i64 0, .int .i64 0, .int .i64 0, .int .i32 0, .int .i64 0, .int .i64 0]] : Array Value).toList 8 = some ([.agg [.nil, .agg [.lit (.int .i64 0), .lit (.int .i64 0), .lit (.int .i32 0), .lit (.int .i64 0)], .agg [.lit (.int .i64 0), .lit (.int .i64 0), .lit (.int .i32 0), .lit (.int .i64 0)], .agg [.lit (.int .i64 0), .lit (.int .i64 0), .lit (.int .i32 0), .lit (.int .i64 0)], .lit (.int .i64 0)]], [], places) :=
  ⟨[], by kernel_rfl⟩
set_option maxRecDepth 100000 in
theorem xtwo_lifted (os : Os) (started : os.Started) (H : Type) (enc : TypeId × Value → H) (F : Stop.Interp) :
    ReturnsInHanded {} Tryd.checked os 6 .any ((OpenSpec.ofChange Rows.xformTwoSpec).preRow enc Tryd.prog Tryd.f6 Rows.xformTwoRow.domain false Rows.xformTwoRow.laid) (((OpenSpec.ofChange Rows.xformTwoSpec).at F).post enc Tryd.prog Tryd.f6 false true false false) := by
  obtain ⟨places, hx⟩ := xtwo_reads os enc
  refine returnsInHanded_of_row (C := Tryd.checked) (s := OpenSpec.ofChange Rows.xformTwoSpec) own started (by kernel_rfl) Tryd.func6
    (witness_row_atRef (enc := enc) (C := Tryd.checked) false (World.doorLaid Tryd.prog 275 os) #[.agg #[.slice none 0 0, .int .i64 0, .int .i64 0, .int .i32 0, .int .i64 0, .int .i64 0, .int .i64 0, .int .i32 0, .int .i64 0, .int .i64 0, .int .i64 0, .int .i32 0, .int .i64 0, .int .i64 0]] rfl (by kernel_rfl) (by kernel_rfl) (by kernel_rfl)
      (OpenSpec.preRow_of_cond 8 hx (by kernel_rfl) (fun k hk => by cases hk) (by kernel_rfl) (xtwo_doorMet os _))) ?_
  intro W base args ds gs before hval hW _ _ _ hL _ _
  exact xtwo_contract H enc W base args ds gs before hval hW hL
theorem xtwo_said : Rows.XformTwoSaid :=
  OpenClaim.holds_of_cond 6 Tryd.f6 rfl rfl rfl rfl rfl rfl rfl ⟨rfl, rfl, rfl, rfl, rfl⟩ rfl rfl rfl rfl rfl (by kernel_rfl) Tryd.func6 (by kernel_rfl)
    (of_decide_eq_true (by kernel_rfl)) (by unfold Func.isWrapper; first | (rw [if_pos (by decide +kernel)]; kernel_rfl) | (rw [if_neg (by decide +kernel)]; exact ⟨rfl, rfl⟩))
    (fun os started H enc _ F => by rw [OpenClaim.pre_eq_preRow]; exact xtwo_lifted os started H enc F)
theorem xtwo_plain (f : FuncId) (fn : Func) (hf : Tryd.pinned.checked.prog.funcNamed "barrow/barrowlaw07.XformTwo" = some f) (hfn : Tryd.pinned.checked.prog.funcs[f]? = some fn) :
    true = Tryd.pinned.checked.prog.looks [] ∧ ∀ (j : Nat) t, fn.params[j]? = some t → Tryd.pinned.checked.prog.wantsStandIn t = false := by
  obtain rfl : f = 6 := Option.some.inj ((show Tryd.prog.funcNamed "barrow/barrowlaw07.XformTwo" = some 6 by kernel_rfl).symm.trans hf) |>.symm
  obtain rfl : fn = Tryd.f6 := (Option.some.inj (Tryd.func6.symm.trans hfn)).symm
  refine ⟨by kernel_rfl, fun j t ht => ?_⟩
  rw [Tryd.params6] at ht
  have hm : t ∈ ([62] : List TypeId) := by simpa using Array.mem_of_getElem? ht
  have hall : (([62] : List TypeId).all fun u => !Tryd.prog.wantsStandIn u) = true := by kernel_rfl
  exact (show Tryd.prog.wantsStandIn t = false by simpa using List.all_eq_true.1 hall t hm)
theorem xformTwo_card : Rows.XformTwoCardSaid :=
  Claim7.holds_tied_plain_at .later [] _ _ _ _ xtwo_said (fun _ h => by cases h) (by kernel_rfl) (fun _ h => by cases h) xformTwo_row_tie rfl ⟨rfl, rfl⟩ (by kernel_rfl) rfl xtwo_plain (by kernel_rfl)
#print axioms xformTwo_card
end Go.Proofs.YtogkbddniacgiaaDoor
