/- barrowlaw07.XformCross returns true for every input, and leaves what it is given as it was. No condition. -/
import Derived.Test.YtogkbddniacgiaaDoorXformCrossWalk
import Derived.Deep.DeepWitnessRowRef
import Derived.LaidMore
namespace Go.Proofs.YtogkbddniacgiaaDoor
set_option linter.unusedSimpArgs false
set_option linter.unusedVariables false
open Go Go.RowKit Go.ChangeShapes Go.WideShapes Go.ChangeAt Go.Deep
set_option maxRecDepth 100000 in
theorem rows_of_trod {H : Type} {enc : TypeId × Value → H} {W : World} {v : Value} {d : DataW H} {p : List MemPlace} {r : Reach} {b0 : Nat} (hv : Value.okWide Tryd.prog W r b0 85 v) (h : DataW.Trod enc Tryd.prog W 0 (fun _ => true) true 85 v d p) :
    ∃ A n c ls B m e xs C k f ys who, v = .agg #[.slice A n c, .slice B m e, .slice C k f, .int .i64 who] ∧ Row W (fun b => b < W.heap.size) A n c ls ∧ GRow W (fun b => b < W.heap.size) B m e (xs : List Opn) ∧ GRow W (fun b => b < W.heap.size) C k f (ys : List Opn) ∧ I64 who := by
  obtain ⟨cs, rfl, hcs⟩ := okWide_struct Tryd.underlying85 hv
  obtain ⟨fuel, h0⟩ := h
  obtain ⟨xs, m, _, _, hcl, hxl, hf⟩ := DataW.trod_struct Tryd.underlying85 h0
  have c24 : Tryd.prog.cellsOf 85 = 4 := by kernel_rfl
  have c3 : Tryd.prog.cellsOf 3 = 1 := by kernel_rfl
  have c22 : Tryd.prog.cellsOf 22 = 1 := by kernel_rfl
  have c56 : Tryd.prog.cellsOf 56 = 1 := by kernel_rfl
  rw [c24] at hcs
  obtain ⟨l⟩ := cs
  match l, hcs with
  | [u0, u1, u2, u3], _ =>
    match xs, hxl with
    | [y0, y1, y2, y3], _ =>
      have g0 := hf 0 _ rfl
      have g1 := hf 1 _ rfl
      have g2 := hf 2 _ rfl
      have g3 := hf 3 _ rfl
      simp [c3, c22, c56, Value.cells] at g0 g1 g2 g3
      obtain ⟨A, n, c, ls, rfl, hr, _⟩ := row_of_cells g0
      obtain ⟨B, m, e, xs, rfl, hx, _⟩ := ops_of_cells g1
      obtain ⟨C, k, f, ys, rfl, hy, _⟩ := ops_of_cells g2
      obtain ⟨who, e0, hw⟩ := one_of_trod Tryd.underlying3 g3 rfl
      injection e0 with e0
      subst e0
      exact ⟨A, n, c, ls, B, m, e, xs, C, k, f, ys, who, rfl, hr, hx, hy, wf_i64 hw⟩
set_option maxRecDepth 100000 in
theorem xcr_contract (H : Type) (enc : TypeId × Value → H) (W : World) (base : Nat) (args : Array Value) (ds gs : List (DataW H)) (before : List MemPlace)
    (hval : ∀ (j : Nat) t v, Tryd.f12.params[j]? = some t → args[j]? = some v → Value.okWide Tryd.prog W .any base t v)
    (hW : DataW.Whole enc Tryd.prog Tryd.f12.params.toList Rows.xformCrossSpec.vars false W args.toList ds gs before) (hL : laidMetH Tryd.prog Rows.xformCrossRow.laid W) :
    Calls Tryd.prog 12 args W fun e W' => ∃ v, e = .returned v ∧ Rows.xformCrossSpec.post enc Tryd.prog Tryd.f12 false true false false W args v W' := by
  have hW' := hW
  obtain ⟨p, q, hA0, hV, rfl, hfz, hnd⟩ := hW
  have hA : DataW.TrodAll enc Tryd.prog W 0 (fun _ => true) true Tryd.f12.params.toList args.toList ds p := hA0
  rw [Tryd.params12] at hA hval
  obtain ⟨rfl, rfl⟩ := trodVars_none hV
  obtain ⟨v0, d0, rfl, rfl, h0⟩ := trodAll_one hA
  obtain ⟨A, n, c, ls, B, m, e, xs, C, k, f, ys, who, rfl, hr, hx, hy, hw⟩ := rows_of_trod (hval 0 85 v0 rfl rfl) h0
  refine (xcr_true W A n c ls _ B C m e k f xs ys who hr hx hy hw).mono fun e W' ⟨he, hb⟩ => ⟨_, he, ?_⟩
  refine law_post rfl (by kernel_rfl) ?_ hW' rfl rfl rfl hb
  intro t ht
  rw [Tryd.params12] at ht
  have hall : (([85] : List TypeId).all fun u => Tryd.prog.readableRec u && decide (u < Tryd.prog.types.size)) = true := by kernel_rfl
  have := List.all_eq_true.1 hall t ht
  simpa using this
theorem xcr_doorMet (os : Os) (args : Array Value) : laidMetH Tryd.prog Rows.xformCrossRow.laid ((World.doorLaid Tryd.prog 275 os).forCall (fun _ _ => 0) ⟨#[], args, []⟩).memory :=
  laidMetH_of_parts3 (fuel := 8) (laidMet_of_run' 8 (by kernel_rfl) (by kernel_rfl)) (by kernel_rfl) (by kernel_rfl)
theorem xcr_reads (os : Os) {H : Type} (enc : TypeId × Value → H) : ∃ places, DataW.whole enc Tryd.prog ((World.doorLaid Tryd.prog 275 os).forCall (fun _ _ => 0) ⟨#[], #[.agg #[.slice none 0 0, .slice none 0 0, .slice none 0 0, .int .i64 0]], []⟩).memory Tryd.f12.params.toList Rows.xformCrossSpec.vars false (#[.agg #[.slice none 0 0, .slice none 0 0, .slice none 0 0, .int .i64 0]] : Array Value).toList 8 = some ([.agg [.nil, .nil, .nil, .lit (.int .i64 0)]], [], places) :=
  ⟨[], by kernel_rfl⟩
set_option maxRecDepth 100000 in
theorem xcr_lifted (os : Os) (started : os.Started) (H : Type) (enc : TypeId × Value → H) (F : Stop.Interp) :
    ReturnsInHanded {} Tryd.checked os 12 .any ((OpenSpec.ofChange Rows.xformCrossSpec).preRow enc Tryd.prog Tryd.f12 Rows.xformCrossRow.domain false Rows.xformCrossRow.laid) (((OpenSpec.ofChange Rows.xformCrossSpec).at F).post enc Tryd.prog Tryd.f12 false true false false) := by
  obtain ⟨places, hx⟩ := xcr_reads os enc
  refine returnsInHanded_of_row (C := Tryd.checked) (s := OpenSpec.ofChange Rows.xformCrossSpec) own started (by kernel_rfl) Tryd.func12
    (witness_row_atRef (enc := enc) (C := Tryd.checked) false (World.doorLaid Tryd.prog 275 os) #[.agg #[.slice none 0 0, .slice none 0 0, .slice none 0 0, .int .i64 0]] rfl (by kernel_rfl) (by kernel_rfl) (by kernel_rfl)
      (OpenSpec.preRow_of_cond 8 hx (by kernel_rfl) (fun k hk => by cases hk) (by kernel_rfl) (xcr_doorMet os _))) ?_
  intro W base args ds gs before hval hW _ _ _ hL _ _
  exact xcr_contract H enc W base args ds gs before hval hW hL
theorem xcr_said : Rows.XformCrossSaid :=
  OpenClaim.holds_of_cond 12 Tryd.f12 rfl rfl rfl rfl rfl rfl rfl ⟨rfl, rfl, rfl, rfl, rfl⟩ rfl rfl rfl rfl rfl (by kernel_rfl) Tryd.func12 (by kernel_rfl)
    (of_decide_eq_true (by kernel_rfl)) (by unfold Func.isWrapper; first | (rw [if_pos (by decide +kernel)]; kernel_rfl) | (rw [if_neg (by decide +kernel)]; exact ⟨rfl, rfl⟩))
    (fun os started H enc _ F => by rw [OpenClaim.pre_eq_preRow]; exact xcr_lifted os started H enc F)
theorem xcr_plain (f : FuncId) (fn : Func) (hf : Tryd.pinned.checked.prog.funcNamed "barrow/barrowlaw07.XformCross" = some f) (hfn : Tryd.pinned.checked.prog.funcs[f]? = some fn) :
    true = Tryd.pinned.checked.prog.looks [] ∧ ∀ (j : Nat) t, fn.params[j]? = some t → Tryd.pinned.checked.prog.wantsStandIn t = false := by
  obtain rfl : f = 12 := Option.some.inj ((show Tryd.prog.funcNamed "barrow/barrowlaw07.XformCross" = some 12 by kernel_rfl).symm.trans hf) |>.symm
  obtain rfl : fn = Tryd.f12 := (Option.some.inj (Tryd.func12.symm.trans hfn)).symm
  refine ⟨by kernel_rfl, fun j t ht => ?_⟩
  rw [Tryd.params12] at ht
  have hm : t ∈ ([85] : List TypeId) := by simpa using Array.mem_of_getElem? ht
  have hall : (([85] : List TypeId).all fun u => !Tryd.prog.wantsStandIn u) = true := by kernel_rfl
  exact (show Tryd.prog.wantsStandIn t = false by simpa using List.all_eq_true.1 hall t hm)
theorem xformCross_card : Rows.XformCrossCardSaid :=
  Claim7.holds_tied_plain_at .later [] _ _ _ _ xcr_said (fun _ h => by cases h) (by kernel_rfl) (fun _ h => by cases h) xformCross_row_tie rfl ⟨rfl, rfl⟩ (by kernel_rfl) rfl xcr_plain (by kernel_rfl)
#print axioms xformCross_card
end Go.Proofs.YtogkbddniacgiaaDoor
