/- barrowlaw07.XformInverse returns true for every input, and leaves what it is given as it was. No condition. -/
import Derived.Test.YtogkbddniacgiaaDoorXformInverseWalk
import Derived.Test.YtogkbddniacgiaaDoorOpen2
import Derived.Deep.DeepWitnessRowRef
import Derived.LaidMore
namespace Go.Proofs.YtogkbddniacgiaaDoor
set_option linter.unusedSimpArgs false
set_option linter.unusedVariables false
open Go Go.RowKit Go.ChangeShapes Go.WideShapes Go.ChangeAt
set_option maxRecDepth 100000 in
theorem op1_of_trod {H : Type} {enc : TypeId × Value → H} {W : World} {v : Value} {d : DataW H} {p : List MemPlace} {r : Reach} {b0 : Nat} (hv : Value.okWide Tryd.prog W r b0 58 v) (h : DataW.Trod enc Tryd.prog W 0 (fun _ => true) true 58 v d p) :
    ∃ o : Opn, v = .agg #[.int .i64 o.kind, .int .i64 o.at_, .int .i32 o.char, .int .i64 o.rep] ∧ o.In := by
  obtain ⟨cs, rfl, hcs⟩ := okWide_struct Tryd.underlying58 hv
  obtain ⟨fuel, h0⟩ := h
  have c58 : Tryd.prog.cellsOf 58 = 4 := by kernel_rfl
  rw [c58] at hcs
  obtain ⟨l⟩ := cs
  match l, hcs with
  | [u0, u1, u2, u3], _ =>
    obtain ⟨o, ho, io⟩ := op_of_trod rfl h0
    simp only [Value.cells, Opn.cells, List.cons.injEq, and_true] at ho
    obtain ⟨rfl, rfl, rfl, rfl⟩ := ho
    exact ⟨o, rfl, io⟩
set_option maxRecDepth 100000 in
theorem xin_contract (H : Type) (enc : TypeId × Value → H) (W : World) (base : Nat) (args : Array Value) (ds gs : List (DataW H)) (before : List MemPlace)
    (hval : ∀ (j : Nat) t v, Tryd.f17.params[j]? = some t → args[j]? = some v → Value.okWide Tryd.prog W .any base t v)
    (hW : DataW.Whole enc Tryd.prog Tryd.f17.params.toList Rows.xformInverseSpec.vars false W args.toList ds gs before) (hL : laidMetH Tryd.prog Rows.xformInverseRow.laid W) :
    Calls Tryd.prog 17 args W fun e W' => ∃ v, e = .returned v ∧ Rows.xformInverseSpec.post enc Tryd.prog Tryd.f17 false true false false W args v W' := by
  have hW' := hW
  obtain ⟨p, q, hA0, hV, rfl, hfz, hnd⟩ := hW
  have hA : DataW.TrodAll enc Tryd.prog W 0 (fun _ => true) true Tryd.f17.params.toList args.toList ds p := hA0
  rw [Tryd.params17] at hA hval
  obtain ⟨rfl, rfl⟩ := trodVars_none hV
  obtain ⟨v0, v1, d0, d1, p0, p1, rfl, rfl, rfl, h0, h1⟩ := trodAll_two hA
  obtain ⟨A, n, c, ls, rfl, hr, _⟩ := row_of_trod (hval 0 22 v0 rfl rfl) h0
  obtain ⟨o, rfl, io⟩ := op1_of_trod (hval 1 58 v1 rfl rfl) h1
  refine (xin_true W A n c ls _ o hr io).mono fun e W' ⟨he, hb⟩ => ⟨_, he, ?_⟩
  refine law_post rfl (by kernel_rfl) ?_ hW' rfl rfl rfl hb
  intro t ht
  rw [Tryd.params17] at ht
  have hall : (([22, 58] : List TypeId).all fun u => Tryd.prog.readableRec u && decide (u < Tryd.prog.types.size)) = true := by kernel_rfl
  have := List.all_eq_true.1 hall t ht
  simpa using this
theorem xin_doorMet (os : Os) (args : Array Value) : laidMetH Tryd.prog Rows.xformInverseRow.laid ((World.doorLaid Tryd.prog 275 os).forCall (fun _ _ => 0) ⟨#[], args, []⟩).memory :=
  laidMetH_of_parts3 (fuel := 8) (laidMet_of_run' 8 (by kernel_rfl) (by kernel_rfl)) (by kernel_rfl) (by kernel_rfl)
theorem xin_reads (os : Os) {H : Type} (enc : TypeId × Value → H) : ∃ places, DataW.whole enc Tryd.prog ((World.doorLaid Tryd.prog 275 os).forCall (fun _ _ => 0) ⟨#[], #[.slice none 0 0, .agg #[.int .i64 0, .int .i64 0, .int .i32 0, .int .i64 0]], []⟩).memory Tryd.f17.params.toList Rows.xformInverseSpec.vars false (#[.slice none 0 0, .agg #[.int .i64 0, .int .i64 0, .int .i32 0, .int .i64 0]] : Array Value).toList 8 = some ([.nil, .agg [.lit (.int .i64 0), .lit (.int .i64 0), .lit (.int .i32 0), .lit (.int .i64 0)]], [], places) :=
  ⟨[], by kernel_rfl⟩
set_option maxRecDepth 100000 in
theorem xin_lifted (os : Os) (started : os.Started) (H : Type) (enc : TypeId × Value → H) (F : Stop.Interp) :
    ReturnsInHanded {} Tryd.checked os 17 .any ((OpenSpec.ofChange Rows.xformInverseSpec).preRow enc Tryd.prog Tryd.f17 Rows.xformInverseRow.domain false Rows.xformInverseRow.laid) (((OpenSpec.ofChange Rows.xformInverseSpec).at F).post enc Tryd.prog Tryd.f17 false true false false) := by
  obtain ⟨places, hx⟩ := xin_reads os enc
  refine returnsInHanded_of_row (C := Tryd.checked) (s := OpenSpec.ofChange Rows.xformInverseSpec) own started (by kernel_rfl) Tryd.func17
    (witness_row_atRef (enc := enc) (C := Tryd.checked) false (World.doorLaid Tryd.prog 275 os) #[.slice none 0 0, .agg #[.int .i64 0, .int .i64 0, .int .i32 0, .int .i64 0]] rfl (by kernel_rfl) (by kernel_rfl) (by kernel_rfl)
      (OpenSpec.preRow_of_cond 8 hx (by kernel_rfl) (fun k hk => by cases hk) (by kernel_rfl) (xin_doorMet os _))) ?_
  intro W base args ds gs before hval hW _ _ _ hL _ _
  exact xin_contract H enc W base args ds gs before hval hW hL
theorem xin_said : Rows.XformInverseSaid :=
  OpenClaim.holds_of_cond 17 Tryd.f17 rfl rfl rfl rfl rfl rfl rfl ⟨rfl, rfl, rfl, rfl, rfl⟩ rfl rfl rfl rfl rfl (by kernel_rfl) Tryd.func17 (by kernel_rfl)
    (of_decide_eq_true (by kernel_rfl)) (by unfold Func.isWrapper; first | (rw [if_pos (by decide +kernel)]; kernel_rfl) | (rw [if_neg (by decide +kernel)]; exact ⟨rfl, rfl⟩))
    (fun os started H enc _ F => by rw [OpenClaim.pre_eq_preRow]; exact xin_lifted os started H enc F)
theorem xin_plain (f : FuncId) (fn : Func) (hf : Tryd.pinned.checked.prog.funcNamed "barrow/barrowlaw07.XformInverse" = some f) (hfn : Tryd.pinned.checked.prog.funcs[f]? = some fn) :
    true = Tryd.pinned.checked.prog.looks [] ∧ ∀ (j : Nat) t, fn.params[j]? = some t → Tryd.pinned.checked.prog.wantsStandIn t = false := by
  obtain rfl : f = 17 := Option.some.inj ((show Tryd.prog.funcNamed "barrow/barrowlaw07.XformInverse" = some 17 by kernel_rfl).symm.trans hf) |>.symm
  obtain rfl : fn = Tryd.f17 := (Option.some.inj (Tryd.func17.symm.trans hfn)).symm
  refine ⟨by kernel_rfl, fun j t ht => ?_⟩
  rw [Tryd.params17] at ht
  have hm : t ∈ ([22, 58] : List TypeId) := by simpa using Array.mem_of_getElem? ht
  have hall : (([22, 58] : List TypeId).all fun u => !Tryd.prog.wantsStandIn u) = true := by kernel_rfl
  exact (show Tryd.prog.wantsStandIn t = false by simpa using List.all_eq_true.1 hall t hm)
theorem xformInverse_card : Rows.XformInverseCardSaid :=
  Claim7.holds_tied_plain_at .later [] _ _ _ _ xin_said (fun _ h => by cases h) (by kernel_rfl) (fun _ h => by cases h) xformInverse_row_tie rfl ⟨rfl, rfl⟩ (by kernel_rfl) rfl xin_plain (by kernel_rfl)
#print axioms xformInverse_card
end Go.Proofs.YtogkbddniacgiaaDoor
