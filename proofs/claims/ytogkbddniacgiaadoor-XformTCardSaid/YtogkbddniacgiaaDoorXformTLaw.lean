/- barrowlaw07.XformT returns true for every input, and leaves what it is given as it was. No condition. -/
import Derived.Test.YtogkbddniacgiaaDoorOpen2
import Derived.Deep.DeepWitnessRowRef
import Derived.LaidMore
namespace Go.Proofs.YtogkbddniacgiaaDoor
set_option linter.unusedSimpArgs false
set_option linter.unusedVariables false
open Go Go.RowKit Go.ChangeShapes Go.WideShapes Go.ChangeAt
theorem Tof_in {a b : Opn} (ha : a.In) : (Tof a b).In := by
  unfold Tof
  split
  · next h =>
    have := moves_max h
    obtain ⟨h1, h2, h3, h4⟩ := ha
    exact ⟨h1, ⟨by have := h2.1; show _ ≤ a.at_ + 1; omega, by have := h2.2; show a.at_ + 1 ≤ _; omega⟩, h3, h4⟩
  · exact ha
set_option maxRecDepth 50000 in
set_option maxHeartbeats 2000000 in
theorem xt_true (w : World) (A B : Option Addr) (n c m d : Nat) (xs ys : List Opn) (ha : GRow w (fun b => b < w.heap.size) A n c xs) (hb : GRow w (fun b => b < w.heap.size) B m d ys) (hi : ∀ o ∈ xs, o.In) :
    Calls Tryd.prog 5 #[.slice A n c, .slice B m d] w fun e w' => e = .returned (.bool true) ∧ Below w.heap.size w w' := by
  have HK := hid wakes7_any
  have Ha := hid ha
  have Hb := hid hb
  have Hi := hid hi
  have hnl := ha.1
  have hml := hb.1
  have hnx := ha.len_le
  have hmx := hb.len_le
  unfold maxLen at hnx hmx
  clear ha hb hi
  go_enter Tryd.func5, Tryd.ntmps5
  repeat' (first | (with_reducible refine Keep.last ?_) | (with_reducible refine Keep.below (by assumption) ?_) | (with_reducible refine Keep.kept (by assumption) ?_) | (with_reducible refine Keep.alloc ?_) | (with_reducible refine Keep.same ?_) | ((with_reducible refine WpH.here ?_); first | (refine WpH.nil ?_; refine NoP.normal ?_) | (refine WpH.load (by rfl) (by rfl) (by go_simp; rfl) ?_; simp only [Act.put, List.setIfInBounds_toArray, List.set_cons_zero, List.set_cons_succ]) | (refine WpH.loadT (by rfl) (by rfl) (by go_simp; rfl) (by rintro _ _ ⟨⟩; exact ⟨_, _, _, _, _, _, by rfl, by assumption, by assumption⟩) ?_; simp only [Act.put, List.setIfInBounds_toArray, List.set_cons_zero, List.set_cons_succ]) | (refine WpH.pure (by rfl) (fun w_ => by go_simp; (try go_bits); rfl) ?_; simp only [Act.put, List.setIfInBounds_toArray, List.set_cons_zero, List.set_cons_succ]) | (refine WpH.wild1 (by rfl) (fun _ _ => ?_)) | (refine WpH.skip (by rfl) ?_; simp only [Act.put, List.setIfInBounds_toArray, List.set_cons_zero, List.set_cons_succ])) | go_values | go_skip | go_guarded | go_step | go_upon | go_back)
  go_loopw [5] (fun i wr => ∃ k : Nat, i = .int .i64 k ∧ k ≤ n ∧ k ≤ m ∧ Below w.heap.size w wr) (fun i _ => n - (intOf i).toNat)
  case atStart => exact ⟨0, rfl, Nat.zero_le _, Nat.zero_le _, Below.refl _ _⟩
  case round =>
    obtain ⟨k, rfl, hk, hk2, hbr⟩ := hrel
    by_cases hlt : k < n ∧ k < m
    · obtain ⟨hlt1, hlt2⟩ := hlt
      obtain ⟨b, off, o, rfl, hSb, hbl, hok, hcell⟩ := (Ha.out.step hbr).at_ hlt1
      obtain ⟨b', off', o', rfl, hSb', hbl', hok', hcell'⟩ := (Hb.out.step hbr).at_ hlt2
      have c0 : wr.drew.cell? ⟨b, off + k * 4, none⟩ = some (.int .i64 o.kind) := hcell 0 _ rfl
      have c1 : wr.drew.cell? ⟨b, off + k * 4 + 1, none⟩ = some (.int .i64 o.at_) := hcell 1 _ rfl
      have c2 : wr.drew.cell? ⟨b, off + k * 4 + 2, none⟩ = some (.int .i32 o.char) := hcell 2 _ rfl
      have c3 : wr.drew.cell? ⟨b, off + k * 4 + 3, none⟩ = some (.int .i64 o.rep) := hcell 3 _ rfl
      have c0' : wr.drew.cell? ⟨b', off' + k * 4, none⟩ = some (.int .i64 o'.kind) := hcell' 0 _ rfl
      have c1' : wr.drew.cell? ⟨b', off' + k * 4 + 1, none⟩ = some (.int .i64 o'.at_) := hcell' 1 _ rfl
      have c2' : wr.drew.cell? ⟨b', off' + k * 4 + 2, none⟩ = some (.int .i32 o'.char) := hcell' 2 _ rfl
      have c3' : wr.drew.cell? ⟨b', off' + k * 4 + 3, none⟩ = some (.int .i64 o'.rep) := hcell' 3 _ rfl
      obtain ⟨cs, u, z, hH⟩ := cell_obj c0
      obtain ⟨cs', u', z', hH'⟩ := cell_obj c0'
      have hin : o.In := Hi.out o (List.mem_of_getElem? hok)
      have HT := hid (fun W => T_any o o' W hin)
      have HR := hid (fun W => refT_any o o' W hin)
      simp only [Opn.agg] at HT HR
      have hbd := hbr.drew
      clear hcell hcell' hok hok' hin
      repeat' (first | ((with_reducible refine region_at 4 ?_); refine wp_region_orderT (fun b => b < w.heap.size) [(0, true, false), (1, true, false), (2, true, false), (3, true, false), (4, true, false), (5, true, false), (6, true, false), (7, true, false), (9, true, false), (10, true, false), (11, true, false), (12, true, false), (13, true, false), (14, true, false), (15, true, false), (16, true, false), (8, false, false), (17, false, false), (18, true, false)] (by kernel_rfl) (by kernel_rfl) (by kernel_rfl) rfl rfl ?_) | (go_at_call 30; go_must ((with_reducible refine Calls.mono (HT.out _) ?_); rintro _ w1 ⟨rfl, hb1⟩; have hb2 := hbd.trans (hb1.mono hbd.size); have hk1 : KeepT (fun b => b < w.heap.size) _ w1 := ⟨hb1.size, fun b hl _ => hb1.block b hl⟩; dsimp only)) | (go_at_call 31; go_must ((with_reducible refine Calls.mono (HR.out _) ?_); rintro _ w2 ⟨rfl, hb3⟩; have hb4 := hb2.trans (hb3.mono hb2.size); have hk2 : KeepT (fun b => b < w.heap.size) _ w2 := ⟨hb3.size, fun b hl _ => hb3.block b hl⟩; dsimp only)) | (with_reducible refine Keep.last ?_) | (with_reducible refine Keep.below (by assumption) ?_) | (with_reducible refine Keep.kept (by assumption) ?_) | (with_reducible refine Keep.alloc ?_) | (with_reducible refine Keep.same ?_) | ((with_reducible refine WpH.here ?_); first | (refine WpH.nil ?_; refine NoP.normal ?_) | (refine WpH.load (by rfl) (by rfl) (by go_simp; rfl) ?_; simp only [Act.put, List.setIfInBounds_toArray, List.set_cons_zero, List.set_cons_succ]) | (refine WpH.loadT (by rfl) (by rfl) (by go_simp; rfl) (by rintro _ _ ⟨⟩; exact ⟨_, _, _, _, _, _, by rfl, by assumption, by assumption⟩) ?_; simp only [Act.put, List.setIfInBounds_toArray, List.set_cons_zero, List.set_cons_succ]) | (refine WpH.pure (by rfl) (fun w_ => by go_simp; (try go_bits); rfl) ?_; simp only [Act.put, List.setIfInBounds_toArray, List.set_cons_zero, List.set_cons_succ]) | (refine WpH.wild1 (by rfl) (fun _ _ => ?_)) | (refine WpH.skip (by rfl) ?_; simp only [Act.put, List.setIfInBounds_toArray, List.set_cons_zero, List.set_cons_succ])) | go_values | go_skip | go_guarded | go_step | go_upon | go_back)
      exact ⟨⟨k + 1, by go_num, by omega, by omega, hb4⟩, by simp [intOf]; omega⟩
    · repeat' (first | (go_at_call 32; go_must ((with_reducible refine Calls.mono (HK.out _) ?_); rintro _ w1 ⟨rfl, hb1⟩; dsimp only)) | (with_reducible refine Keep.last ?_) | (with_reducible refine Keep.below (by assumption) ?_) | (with_reducible refine Keep.kept (by assumption) ?_) | (with_reducible refine Keep.alloc ?_) | (with_reducible refine Keep.same ?_) | ((with_reducible refine WpH.here ?_); first | (refine WpH.nil ?_; refine NoP.normal ?_) | (refine WpH.load (by rfl) (by rfl) (by go_simp; rfl) ?_; simp only [Act.put, List.setIfInBounds_toArray, List.set_cons_zero, List.set_cons_succ]) | (refine WpH.loadT (by rfl) (by rfl) (by go_simp; rfl) (by rintro _ _ ⟨⟩; exact ⟨_, _, _, _, _, _, by rfl, by assumption, by assumption⟩) ?_; simp only [Act.put, List.setIfInBounds_toArray, List.set_cons_zero, List.set_cons_succ]) | (refine WpH.pure (by rfl) (fun w_ => by go_simp; (try go_bits); rfl) ?_; simp only [Act.put, List.setIfInBounds_toArray, List.set_cons_zero, List.set_cons_succ]) | (refine WpH.wild1 (by rfl) (fun _ _ => ?_)) | (refine WpH.skip (by rfl) ?_; simp only [Act.put, List.setIfInBounds_toArray, List.set_cons_zero, List.set_cons_succ])) | go_values | go_skip | go_guarded | go_step | go_upon | go_back)
      all_goals
        go_ret
        exact ⟨rfl, hbr.trans (hb1.mono hbr.size)⟩
set_option maxRecDepth 100000 in
theorem xt_contract (H : Type) (enc : TypeId × Value → H) (W : World) (base : Nat) (args : Array Value) (ds gs : List (DataW H)) (before : List MemPlace)
    (hval : ∀ (j : Nat) t v, Tryd.f5.params[j]? = some t → args[j]? = some v → Value.okWide Tryd.prog W .any base t v)
    (hW : DataW.Whole enc Tryd.prog Tryd.f5.params.toList Rows.xformTSpec.vars false W args.toList ds gs before) (hL : laidMetH Tryd.prog Rows.xformTRow.laid W) :
    Calls Tryd.prog 5 args W fun e W' => ∃ v, e = .returned v ∧ Rows.xformTSpec.post enc Tryd.prog Tryd.f5 false true false false W args v W' := by
  have hW' := hW
  obtain ⟨p, q, hA0, hV, rfl, hfz, hnd⟩ := hW
  have hA : DataW.TrodAll enc Tryd.prog W 0 (fun _ => true) true Tryd.f5.params.toList args.toList ds p := hA0
  rw [Tryd.params5] at hA hval
  obtain ⟨rfl, rfl⟩ := trodVars_none hV
  obtain ⟨v0, v1, d0, d1, p0, p1, rfl, rfl, rfl, h0, h1⟩ := trodAll_two hA
  obtain ⟨A, n, c, xs, rfl, hr, hi⟩ := ops_of_trod (hval 0 56 v0 rfl rfl) h0
  obtain ⟨B, m, d, ys, rfl, hr', _⟩ := ops_of_trod (hval 1 56 v1 rfl rfl) h1
  refine (xt_true W A B n c m d xs ys hr hr' hi).mono fun e W' ⟨he, hb⟩ => ⟨_, he, ?_⟩
  refine law_post rfl (by kernel_rfl) ?_ hW' rfl rfl rfl hb
  intro t ht
  rw [Tryd.params5] at ht
  have hall : (([56, 56] : List TypeId).all fun u => Tryd.prog.readableRec u && decide (u < Tryd.prog.types.size)) = true := by kernel_rfl
  have := List.all_eq_true.1 hall t ht
  simpa using this
theorem xt_doorMet (os : Os) (args : Array Value) : laidMetH Tryd.prog Rows.xformTRow.laid ((World.doorLaid Tryd.prog 275 os).forCall (fun _ _ => 0) ⟨#[], args, []⟩).memory :=
  laidMetH_of_parts3 (fuel := 8) (laidMet_of_run' 8 (by kernel_rfl) (by kernel_rfl)) (by kernel_rfl) (by kernel_rfl)
theorem xt_reads (os : Os) {H : Type} (enc : TypeId × Value → H) : ∃ places, DataW.whole enc Tryd.prog ((World.doorLaid Tryd.prog 275 os).forCall (fun _ _ => 0) ⟨#[], #[.slice none 0 0, .slice none 0 0], []⟩).memory Tryd.f5.params.toList Rows.xformTSpec.vars false (#[.slice none 0 0, .slice none 0 0] : Array Value).toList 8 = some ([.nil, .nil], [], places) :=
  ⟨[], by kernel_rfl⟩
set_option maxRecDepth 100000 in
theorem xt_lifted (os : Os) (started : os.Started) (H : Type) (enc : TypeId × Value → H) (F : Stop.Interp) :
    ReturnsInHanded {} Tryd.checked os 5 .any ((OpenSpec.ofChange Rows.xformTSpec).preRow enc Tryd.prog Tryd.f5 Rows.xformTRow.domain false Rows.xformTRow.laid) (((OpenSpec.ofChange Rows.xformTSpec).at F).post enc Tryd.prog Tryd.f5 false true false false) := by
  obtain ⟨places, hx⟩ := xt_reads os enc
  refine returnsInHanded_of_row (C := Tryd.checked) (s := OpenSpec.ofChange Rows.xformTSpec) own started (by kernel_rfl) Tryd.func5
    (witness_row_atRef (enc := enc) (C := Tryd.checked) false (World.doorLaid Tryd.prog 275 os) #[.slice none 0 0, .slice none 0 0] rfl (by kernel_rfl) (by kernel_rfl) (by kernel_rfl)
      (OpenSpec.preRow_of_cond 8 hx (by kernel_rfl) (fun k hk => by cases hk) (by kernel_rfl) (xt_doorMet os _))) ?_
  intro W base args ds gs before hval hW _ _ _ hL _ _
  exact xt_contract H enc W base args ds gs before hval hW hL
theorem xt_said : Rows.XformTSaid :=
  OpenClaim.holds_of_cond 5 Tryd.f5 rfl rfl rfl rfl rfl rfl rfl ⟨rfl, rfl, rfl, rfl, rfl⟩ rfl rfl rfl rfl rfl (by kernel_rfl) Tryd.func5 (by kernel_rfl)
    (of_decide_eq_true (by kernel_rfl)) (by unfold Func.isWrapper; first | (rw [if_pos (by decide +kernel)]; kernel_rfl) | (rw [if_neg (by decide +kernel)]; exact ⟨rfl, rfl⟩))
    (fun os started H enc _ F => by rw [OpenClaim.pre_eq_preRow]; exact xt_lifted os started H enc F)
theorem xt_plain (f : FuncId) (fn : Func) (hf : Tryd.pinned.checked.prog.funcNamed "barrow/barrowlaw07.XformT" = some f) (hfn : Tryd.pinned.checked.prog.funcs[f]? = some fn) :
    true = Tryd.pinned.checked.prog.looks [] ∧ ∀ (j : Nat) t, fn.params[j]? = some t → Tryd.pinned.checked.prog.wantsStandIn t = false := by
  obtain rfl : f = 5 := Option.some.inj ((show Tryd.prog.funcNamed "barrow/barrowlaw07.XformT" = some 5 by kernel_rfl).symm.trans hf) |>.symm
  obtain rfl : fn = Tryd.f5 := (Option.some.inj (Tryd.func5.symm.trans hfn)).symm
  refine ⟨by kernel_rfl, fun j t ht => ?_⟩
  rw [Tryd.params5] at ht
  have hm : t ∈ ([56, 56] : List TypeId) := by simpa using Array.mem_of_getElem? ht
  have hall : (([56, 56] : List TypeId).all fun u => !Tryd.prog.wantsStandIn u) = true := by kernel_rfl
  exact (show Tryd.prog.wantsStandIn t = false by simpa using List.all_eq_true.1 hall t hm)
theorem xformT_card : Rows.XformTCardSaid :=
  Claim7.holds_tied_plain_at .later [] _ _ _ _ xt_said (fun _ h => by cases h) (by kernel_rfl) (fun _ h => by cases h) xformT_row_tie rfl ⟨rfl, rfl⟩ (by kernel_rfl) rfl xt_plain (by kernel_rfl)
#print axioms xformT_card
end Go.Proofs.YtogkbddniacgiaaDoor
