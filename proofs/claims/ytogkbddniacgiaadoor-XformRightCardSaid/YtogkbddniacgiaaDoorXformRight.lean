/- barrowlaw07.XformRight returns true for every input, and leaves what it is given as it was. No condition. -/
import Derived.Test.YtogkbddniacgiaaDoorOpen2
import Derived.Test.YtogkbddniacgiaaDoorOps3
import Derived.Deep.DeepWitnessRowRef
import Derived.LaidMore
namespace Go.Proofs.YtogkbddniacgiaaDoor
set_option linter.unusedSimpArgs false
set_option linter.unusedVariables false
open Go Go.RowKit Go.ChangeShapes Go.WideShapes Go.ChangeAt
set_option maxRecDepth 100000 in
set_option maxHeartbeats 4000000 in
theorem xr_true (w : World) (A : Option Addr) (n c : Nat) (q : Int) (xs : List Opn) (ha : GRow w (fun b => b < w.heap.size) A n c xs) :
    Calls Tryd.prog 11 #[.slice A n c, .int .i64 q] w fun e w' => e = .returned (.bool true) ∧ Below w.heap.size w w' := by
  have HK := hid wakes7_any
  have Ha := hid ha
  have hnl := ha.1
  have hnx := ha.len_le
  unfold maxLen at hnx
  clear ha
  go_enter Tryd.func11, Tryd.ntmps11
  repeat' (first | (with_reducible refine Keep.last ?_) | (with_reducible refine Keep.below (by assumption) ?_) | (with_reducible refine Keep.kept (by assumption) ?_) | (with_reducible refine Keep.alloc ?_) | (with_reducible refine Keep.same ?_) | ((with_reducible refine WpH.here ?_); first | (refine WpH.nil ?_; refine NoP.normal ?_) | (refine WpH.load (by rfl) (by rfl) (by go_simp; rfl) ?_; simp only [Act.put, List.setIfInBounds_toArray, List.set_cons_zero, List.set_cons_succ]) | (refine WpH.loadT (by rfl) (by rfl) (by go_simp; rfl) (by rintro _ _ ⟨⟩; exact ⟨_, _, _, _, _, _, by rfl, by assumption, by assumption⟩) ?_; simp only [Act.put, List.setIfInBounds_toArray, List.set_cons_zero, List.set_cons_succ]) | (refine WpH.pure (by rfl) (fun w_ => by go_simp; (try go_bits); rfl) ?_; simp only [Act.put, List.setIfInBounds_toArray, List.set_cons_zero, List.set_cons_succ]) | (refine WpH.wild1 (by rfl) (fun _ _ => ?_)) | (refine WpH.skip (by rfl) ?_; simp only [Act.put, List.setIfInBounds_toArray, List.set_cons_zero, List.set_cons_succ])) | go_values | go_skip | go_guarded | go_step | go_upon | go_back)
  go_loopw [5] (fun i wr => ∃ k : Nat, i = .int .i64 k ∧ k ≤ n ∧ Below w.heap.size w wr) (fun i _ => n - (intOf i).toNat)
  case atStart => exact ⟨0, rfl, Nat.zero_le _, Below.refl _ _⟩
  case round =>
    obtain ⟨k, rfl, hk, hbr⟩ := hrel
    by_cases hlt1 : k < n
    · obtain ⟨b, off, o, rfl, hSb, hbl, hok, hcell⟩ := (Ha.out.step hbr).at_ hlt1
      have c0 : wr.drew.cell? ⟨b, off + k * 4, none⟩ = some (.int .i64 o.kind) := hcell 0 _ rfl
      have c1 : wr.drew.cell? ⟨b, off + k * 4 + 1, none⟩ = some (.int .i64 o.at_) := hcell 1 _ rfl
      have c2 : wr.drew.cell? ⟨b, off + k * 4 + 2, none⟩ = some (.int .i32 o.char) := hcell 2 _ rfl
      have c3 : wr.drew.cell? ⟨b, off + k * 4 + 3, none⟩ = some (.int .i64 o.rep) := hcell 3 _ rfl
      obtain ⟨cs, u, z, hH⟩ := cell_obj c0
      have Hop := hid (fun w1 (hB : Below w.heap.size w w1) => op_cells Ha.out hlt1 hok hB)
      have H1 := hid (fun W => rightOp_any o W)
      have H2 := hid (fun W => refRightOp_any o W)
      have H3 := hid (fun W n => validOp_any o n W)
      have H4 := hid (fun W n => refValidOp_any o n W)
      have H5 := hid (fun W => inv_any o W)
      have H6 := hid (fun W => refInv_any o W)
      simp only [Opn.agg] at H1 H2 H3 H4 H5 H6
      have hbd := hbr.drew
      clear hcell hok
      repeat' (first | ((with_reducible refine region_at 4 ?_); refine wp_region_orderT (fun b => b < w.heap.size) [(0, true, false), (1, true, false), (2, true, false), (3, true, false), (5, true, false), (6, true, false), (7, true, false), (8, true, false), (4, false, false), (9, false, false), (10, true, false), (11, true, false), (12, true, false), (13, true, false), (14, true, false), (15, true, false), (16, true, false), (18, true, false), (19, true, false), (20, true, false), (21, true, false), (22, true, false), (17, false, false), (23, false, false), (24, true, false), (25, true, false), (26, true, false), (27, true, false), (28, true, false), (29, true, false), (30, true, false), (31, true, false), (32, true, false), (33, true, false), (34, true, false), (35, true, false), (37, true, false), (38, true, false), (39, true, false), (40, true, false), (41, true, false), (42, true, false), (43, true, false), (44, true, false), (45, true, false), (36, false, false), (46, false, false), (47, true, false), (48, true, false)] (by kernel_rfl) (by kernel_rfl) (by kernel_rfl) rfl rfl ?_) | ((with_reducible refine WpH.here ?_); refine WpH.wild2 (by rfl) (fun _ _ => ?_)) | (go_at_call 43; go_must ((with_reducible refine Calls.mono (H1.out _) ?_); rintro _ w1 ⟨rfl, hb⟩; have hk := belowKeep hb (fun b => b < w.heap.size); have hB : Below w.heap.size w w1 := (by (repeat' (first | (with_reducible exact Below.refl _ _) | (with_reducible assumption) | (with_reducible refine balloc ?_) | (with_reducible refine bdrew ?_) | (with_reducible refine bset ?_ (by (try dsimp only); omega)) | (with_reducible refine bvia ?_ (by assumption))))); obtain ⟨c0, c1, c2, c3, hbl, cs, u, z, hH⟩ := Hop.out w1 hB; dsimp only)) | (go_at_call 40; go_must ((with_reducible refine Calls.mono (H2.out _) ?_); rintro _ w1 ⟨rfl, hb⟩; have hk := belowKeep hb (fun b => b < w.heap.size); have hB : Below w.heap.size w w1 := (by (repeat' (first | (with_reducible exact Below.refl _ _) | (with_reducible assumption) | (with_reducible refine balloc ?_) | (with_reducible refine bdrew ?_) | (with_reducible refine bset ?_ (by (try dsimp only); omega)) | (with_reducible refine bvia ?_ (by assumption))))); obtain ⟨c0, c1, c2, c3, hbl, cs, u, z, hH⟩ := Hop.out w1 hB; dsimp only)) | (go_at_call 44; go_must ((with_reducible refine Calls.mono (H3.out _ _) ?_); rintro _ w1 ⟨rfl, hb⟩; have hk := belowKeep hb (fun b => b < w.heap.size); have hB : Below w.heap.size w w1 := (by (repeat' (first | (with_reducible exact Below.refl _ _) | (with_reducible assumption) | (with_reducible refine balloc ?_) | (with_reducible refine bdrew ?_) | (with_reducible refine bset ?_ (by (try dsimp only); omega)) | (with_reducible refine bvia ?_ (by assumption))))); obtain ⟨c0, c1, c2, c3, hbl, cs, u, z, hH⟩ := Hop.out w1 hB; dsimp only)) | (go_at_call 45; go_must ((with_reducible refine Calls.mono (H4.out _ _) ?_); rintro _ w1 ⟨rfl, hb⟩; have hk := belowKeep hb (fun b => b < w.heap.size); have hB : Below w.heap.size w w1 := (by (repeat' (first | (with_reducible exact Below.refl _ _) | (with_reducible assumption) | (with_reducible refine balloc ?_) | (with_reducible refine bdrew ?_) | (with_reducible refine bset ?_ (by (try dsimp only); omega)) | (with_reducible refine bvia ?_ (by assumption))))); obtain ⟨c0, c1, c2, c3, hbl, cs, u, z, hH⟩ := Hop.out w1 hB; dsimp only)) | (go_at_call 46; go_must ((with_reducible refine Calls.mono (H5.out _) ?_); rintro _ w1 ⟨rfl, hb⟩; have hk := belowKeep hb (fun b => b < w.heap.size); have hB : Below w.heap.size w w1 := (by (repeat' (first | (with_reducible exact Below.refl _ _) | (with_reducible assumption) | (with_reducible refine balloc ?_) | (with_reducible refine bdrew ?_) | (with_reducible refine bset ?_ (by (try dsimp only); omega)) | (with_reducible refine bvia ?_ (by assumption))))); obtain ⟨c0, c1, c2, c3, hbl, cs, u, z, hH⟩ := Hop.out w1 hB; dsimp only)) | (go_at_call 47; go_must ((with_reducible refine Calls.mono (H6.out _) ?_); rintro _ w2 ⟨rfl, hb⟩; have hX := (Blk.new w1 58 #[.int .i64 (invOf o).1.kind, .int .i64 (invOf o).1.at_, .int .i32 (invOf o).1.char, .int .i64 (invOf o).1.rep]).step hb; obtain ⟨x0, x1, x2, x3, -, -, -, -, xl⟩ := Blk.four hX; dsimp only)) | (with_reducible refine Keep.last ?_) | (with_reducible refine Keep.below (by assumption) ?_) | (with_reducible refine Keep.kept (by assumption) ?_) | (with_reducible refine Keep.alloc ?_) | (with_reducible refine Keep.same ?_) | ((with_reducible refine WpH.here ?_); first | (refine WpH.nil ?_; refine NoP.normal ?_) | (refine WpH.load (by rfl) (by rfl) (by go_simp; rfl) ?_; simp only [Act.put, List.setIfInBounds_toArray, List.set_cons_zero, List.set_cons_succ]) | (refine WpH.loadT (by rfl) (by rfl) (by go_simp; rfl) (by rintro _ _ ⟨⟩; exact ⟨_, _, _, _, _, _, by rfl, by assumption, by assumption⟩) ?_; simp only [Act.put, List.setIfInBounds_toArray, List.set_cons_zero, List.set_cons_succ]) | (refine WpH.pure (by rfl) (fun w_ => by go_simp; (try go_bits); rfl) ?_; simp only [Act.put, List.setIfInBounds_toArray, List.set_cons_zero, List.set_cons_succ]) | (refine WpH.wild1 (by rfl) (fun _ _ => ?_)) | (refine WpH.skip (by rfl) ?_; simp only [Act.put, List.setIfInBounds_toArray, List.set_cons_zero, List.set_cons_succ])) | go_values | go_skip | go_guarded | go_step | go_upon | go_back)
      skip
      exact ⟨⟨k + 1, by go_num, by omega, by (repeat' (first | (with_reducible exact Below.refl _ _) | (with_reducible assumption) | (with_reducible refine balloc ?_) | (with_reducible refine bdrew ?_) | (with_reducible refine bset ?_ (by (try dsimp only); omega)) | (with_reducible refine bvia ?_ (by assumption))))⟩, by simp [intOf]; omega⟩
    · repeat' (first | (go_at_call 32; go_must ((with_reducible refine Calls.mono (HK.out _) ?_); rintro _ w1 ⟨rfl, hb1⟩; dsimp only)) | (with_reducible refine Keep.last ?_) | (with_reducible refine Keep.below (by assumption) ?_) | (with_reducible refine Keep.kept (by assumption) ?_) | (with_reducible refine Keep.alloc ?_) | (with_reducible refine Keep.same ?_) | ((with_reducible refine WpH.here ?_); first | (refine WpH.nil ?_; refine NoP.normal ?_) | (refine WpH.load (by rfl) (by rfl) (by go_simp; rfl) ?_; simp only [Act.put, List.setIfInBounds_toArray, List.set_cons_zero, List.set_cons_succ]) | (refine WpH.loadT (by rfl) (by rfl) (by go_simp; rfl) (by rintro _ _ ⟨⟩; exact ⟨_, _, _, _, _, _, by rfl, by assumption, by assumption⟩) ?_; simp only [Act.put, List.setIfInBounds_toArray, List.set_cons_zero, List.set_cons_succ]) | (refine WpH.pure (by rfl) (fun w_ => by go_simp; (try go_bits); rfl) ?_; simp only [Act.put, List.setIfInBounds_toArray, List.set_cons_zero, List.set_cons_succ]) | (refine WpH.wild1 (by rfl) (fun _ _ => ?_)) | (refine WpH.skip (by rfl) ?_; simp only [Act.put, List.setIfInBounds_toArray, List.set_cons_zero, List.set_cons_succ])) | go_values | go_skip | go_guarded | go_step | go_upon | go_back)
      all_goals
        go_ret
        exact ⟨rfl, hbr.trans (hb1.mono hbr.size)⟩
set_option maxRecDepth 100000 in
theorem xr_contract (H : Type) (enc : TypeId × Value → H) (W : World) (base : Nat) (args : Array Value) (ds gs : List (DataW H)) (before : List MemPlace)
    (hval : ∀ (j : Nat) t v, Tryd.f11.params[j]? = some t → args[j]? = some v → Value.okWide Tryd.prog W .any base t v)
    (hW : DataW.Whole enc Tryd.prog Tryd.f11.params.toList Rows.xformRightSpec.vars false W args.toList ds gs before) (hL : laidMetH Tryd.prog Rows.xformRightRow.laid W) :
    Calls Tryd.prog 11 args W fun e W' => ∃ v, e = .returned v ∧ Rows.xformRightSpec.post enc Tryd.prog Tryd.f11 false true false false W args v W' := by
  have hW' := hW
  obtain ⟨p, q, hA0, hV, rfl, hfz, hnd⟩ := hW
  have hA : DataW.TrodAll enc Tryd.prog W 0 (fun _ => true) true Tryd.f11.params.toList args.toList ds p := hA0
  rw [Tryd.params11] at hA hval
  obtain ⟨rfl, rfl⟩ := trodVars_none hV
  obtain ⟨v0, v1, d0, d1, p0, p1, rfl, rfl, rfl, h0, h1⟩ := trodAll_two hA
  obtain ⟨A, n, c, xs, rfl, hr, hi⟩ := ops_of_trod (hval 0 56 v0 rfl rfl) h0
  obtain ⟨q, rfl, rfl, rfl, wa⟩ := open_int Tryd.underlying3 (hval 1 3 v1 rfl rfl) h1
  refine (xr_true W A n c q xs hr).mono fun e W' ⟨he, hb⟩ => ⟨_, he, ?_⟩
  refine law_post rfl (by kernel_rfl) ?_ hW' rfl rfl rfl hb
  intro t ht
  rw [Tryd.params11] at ht
  have hall : (([56, 3] : List TypeId).all fun u => Tryd.prog.readableRec u && decide (u < Tryd.prog.types.size)) = true := by kernel_rfl
  have := List.all_eq_true.1 hall t ht
  simpa using this
theorem xr_doorMet (os : Os) (args : Array Value) : laidMetH Tryd.prog Rows.xformRightRow.laid ((World.doorLaid Tryd.prog 275 os).forCall (fun _ _ => 0) ⟨#[], args, []⟩).memory :=
  laidMetH_of_parts3 (fuel := 8) (laidMet_of_run' 8 (by kernel_rfl) (by kernel_rfl)) (by kernel_rfl) (by kernel_rfl)
theorem xr_reads (os : Os) {H : Type} (enc : TypeId × Value → H) : ∃ places, DataW.whole enc Tryd.prog ((World.doorLaid Tryd.prog 275 os).forCall (fun _ _ => 0) ⟨#[], #[.slice none 0 0, .int .i64 0], []⟩).memory Tryd.f11.params.toList Rows.xformRightSpec.vars false (#[.slice none 0 0, .int .i64 0] : Array Value).toList 8 = some ([.nil, .lit (.int .i64 0)], [], places) :=
  ⟨[], by kernel_rfl⟩
set_option maxRecDepth 100000 in
theorem xr_lifted (os : Os) (started : os.Started) (H : Type) (enc : TypeId × Value → H) (F : Stop.Interp) :
    ReturnsInHanded {} Tryd.checked os 11 .any ((OpenSpec.ofChange Rows.xformRightSpec).preRow enc Tryd.prog Tryd.f11 Rows.xformRightRow.domain false Rows.xformRightRow.laid) (((OpenSpec.ofChange Rows.xformRightSpec).at F).post enc Tryd.prog Tryd.f11 false true false false) := by
  obtain ⟨places, hx⟩ := xr_reads os enc
  refine returnsInHanded_of_row (C := Tryd.checked) (s := OpenSpec.ofChange Rows.xformRightSpec) own started (by kernel_rfl) Tryd.func11
    (witness_row_atRef (enc := enc) (C := Tryd.checked) false (World.doorLaid Tryd.prog 275 os) #[.slice none 0 0, .int .i64 0] rfl (by kernel_rfl) (by kernel_rfl) (by kernel_rfl)
      (OpenSpec.preRow_of_cond 8 hx (by kernel_rfl) (fun k hk => by cases hk) (by kernel_rfl) (xr_doorMet os _))) ?_
  intro W base args ds gs before hval hW _ _ _ hL _ _
  exact xr_contract H enc W base args ds gs before hval hW hL
theorem xr_said : Rows.XformRightSaid :=
  OpenClaim.holds_of_cond 11 Tryd.f11 rfl rfl rfl rfl rfl rfl rfl ⟨rfl, rfl, rfl, rfl, rfl⟩ rfl rfl rfl rfl rfl (by kernel_rfl) Tryd.func11 (by kernel_rfl)
    (of_decide_eq_true (by kernel_rfl)) (by unfold Func.isWrapper; first | (rw [if_pos (by decide +kernel)]; kernel_rfl) | (rw [if_neg (by decide +kernel)]; exact ⟨rfl, rfl⟩))
    (fun os started H enc _ F => by rw [OpenClaim.pre_eq_preRow]; exact xr_lifted os started H enc F)
theorem xr_plain (f : FuncId) (fn : Func) (hf : Tryd.pinned.checked.prog.funcNamed "barrow/barrowlaw07.XformRight" = some f) (hfn : Tryd.pinned.checked.prog.funcs[f]? = some fn) :
    true = Tryd.pinned.checked.prog.looks [] ∧ ∀ (j : Nat) t, fn.params[j]? = some t → Tryd.pinned.checked.prog.wantsStandIn t = false := by
  obtain rfl : f = 11 := Option.some.inj ((show Tryd.prog.funcNamed "barrow/barrowlaw07.XformRight" = some 11 by kernel_rfl).symm.trans hf) |>.symm
  obtain rfl : fn = Tryd.f11 := (Option.some.inj (Tryd.func11.symm.trans hfn)).symm
  refine ⟨by kernel_rfl, fun j t ht => ?_⟩
  rw [Tryd.params11] at ht
  have hm : t ∈ ([56, 3] : List TypeId) := by simpa using Array.mem_of_getElem? ht
  have hall : (([56, 3] : List TypeId).all fun u => !Tryd.prog.wantsStandIn u) = true := by kernel_rfl
  exact (show Tryd.prog.wantsStandIn t = false by simpa using List.all_eq_true.1 hall t hm)
theorem xformRight_card : Rows.XformRightCardSaid :=
  Claim7.holds_tied_plain_at .later [] _ _ _ _ xr_said (fun _ h => by cases h) (by kernel_rfl) (fun _ h => by cases h) xformRight_row_tie rfl ⟨rfl, rfl⟩ (by kernel_rfl) rfl xr_plain (by kernel_rfl)
#print axioms xformRight_card
end Go.Proofs.YtogkbddniacgiaaDoor
