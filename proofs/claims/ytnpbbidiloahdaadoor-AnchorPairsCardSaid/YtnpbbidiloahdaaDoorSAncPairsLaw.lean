/- barrowlaw13.AnchorPairs returns true for every input, and leaves what it is given as it was. No condition. -/
import Derived.Test.YtnpbbidiloahdaaDoorSAncPairs
import Derived.Test.YtnpbbidiloahdaaDoorSShell
import Derived.Test.YtnpbbidiloahdaaDoorP4
import Derived.Deep.DeepWitnessRowRef
import Derived.LaidMore
namespace Go.Proofs.YtnpbbidiloahdaaDoor
set_option linter.unusedSimpArgs false
set_option linter.unusedVariables false
open Go Go.RowKit Go.ChangeShapes Go.WideShapes Go.ChangeAt
theorem sents_of_laid {W : World} (hL : laidMetH Tryd.prog Rows.anchorPairsRow.laid W) : ∃ a, Sents W (fun b => b < W.heap.size) a := by
  refine sents_of_at fun k h1 h2 => ?_
  rcases (show k = 1 ∨ k = 2 ∨ k = 3 ∨ k = 4 ∨ k = 5 ∨ k = 6 ∨ k = 7 ∨ k = 8 ∨ k = 9 ∨ k = 10 ∨ k = 11 ∨ k = 12 ∨ k = 13 from by omega) with rfl | rfl | rfl | rfl | rfl | rfl | rfl | rfl | rfl | rfl | rfl | rfl | rfl
  · exact sent_1 hL (by kernel_rfl)
  · exact sent_2 hL (by kernel_rfl)
  · exact sent_3 hL (by kernel_rfl)
  · exact sent_4 hL (by kernel_rfl)
  · exact sent_5 hL (by kernel_rfl)
  · exact sent_6 hL (by kernel_rfl)
  · exact sent_7 hL (by kernel_rfl)
  · exact sent_8 hL (by kernel_rfl)
  · exact sent_9 hL (by kernel_rfl)
  · exact sent_10 hL (by kernel_rfl)
  · exact sent_11 hL (by kernel_rfl)
  · exact sent_12 hL (by kernel_rfl)
  · exact sent_13 hL (by kernel_rfl)
set_option maxRecDepth 100000 in
theorem apr_contract (H : Type) (enc : TypeId × Value → H) (W : World) (base : Nat) (args : Array Value) (ds gs : List (DataW H)) (before : List MemPlace)
    (hval : ∀ (j : Nat) t v, Tryd.f3.params[j]? = some t → args[j]? = some v → Value.okWide Tryd.prog W .any base t v)
    (hW : DataW.Whole enc Tryd.prog Tryd.f3.params.toList Rows.anchorPairsSpec.vars false W args.toList ds gs before) (hL : laidMetH Tryd.prog Rows.anchorPairsRow.laid W) :
    Calls Tryd.prog 3 args W fun e W' => ∃ v, e = .returned v ∧ Rows.anchorPairsSpec.post enc Tryd.prog Tryd.f3 false true false false W args v W' := by
  have hW' := hW
  obtain ⟨p, q, hA0, hV, rfl, hfz, hnd⟩ := hW
  have hA : DataW.TrodAll enc Tryd.prog W 0 (fun _ => true) true Tryd.f3.params.toList args.toList ds p := hA0
  rw [Tryd.params3] at hA hval
  obtain ⟨rfl, rfl⟩ := trodVars_none hV
  obtain ⟨v0, v1, d0, d1, p0, p1, rfl, rfl, rfl, h0, h1⟩ := trodAll_two hA
  obtain ⟨A, n, c, ls, rfl, hr, hin⟩ := row_of_trod (hval 0 22 v0 rfl rfl) h0
  obtain ⟨H', q, r, as_, rfl, ha, hai⟩ := ancs_of_trod (hval 1 23 v1 rfl rfl) h1
  obtain ⟨a, hs⟩ := sents_of_laid (W := W) hL
  refine (apairs_true W A H' n c q r ls as_ _ _ hr hin ha hai hs).mono fun e W' ⟨he, hb⟩ => ⟨_, he, ?_⟩
  refine law_post rfl (by kernel_rfl) ?_ hW' rfl rfl rfl hb
  intro t ht
  rw [Tryd.params3] at ht
  have hall : (([22, 23] : List TypeId).all fun u => Tryd.prog.readableRec u && decide (u < Tryd.prog.types.size)) = true := by kernel_rfl
  have := List.all_eq_true.1 hall t ht
  simpa using this
theorem apr_doorMet (os : Os) (args : Array Value) : laidMetH Tryd.prog Rows.anchorPairsRow.laid ((World.doorLaid Tryd.prog 275 os).forCall (fun _ _ => 0) ⟨#[], args, []⟩).memory :=
  laidMetH_of_parts3 (fuel := 8) (laidMet_of_run' 8 (by kernel_rfl) (by kernel_rfl)) (by kernel_rfl) (by kernel_rfl)
theorem apr_reads (os : Os) {H : Type} (enc : TypeId × Value → H) : ∃ places, DataW.whole enc Tryd.prog ((World.doorLaid Tryd.prog 275 os).forCall (fun _ _ => 0) ⟨#[], #[.slice none 0 0, .slice none 0 0], []⟩).memory Tryd.f3.params.toList Rows.anchorPairsSpec.vars false (#[.slice none 0 0, .slice none 0 0] : Array Value).toList 8 = some ([.nil, .nil], [], places) :=
  ⟨[], by kernel_rfl⟩
set_option maxRecDepth 100000 in
theorem apr_lifted (os : Os) (started : os.Started) (H : Type) (enc : TypeId × Value → H) (F : Stop.Interp) :
    ReturnsInHanded {} Tryd.checked os 3 .any ((OpenSpec.ofChange Rows.anchorPairsSpec).preRow enc Tryd.prog Tryd.f3 Rows.anchorPairsRow.domain false Rows.anchorPairsRow.laid) (((OpenSpec.ofChange Rows.anchorPairsSpec).at F).post enc Tryd.prog Tryd.f3 false true false false) := by
  obtain ⟨places, hx⟩ := apr_reads os enc
  refine returnsInHanded_of_row (C := Tryd.checked) (s := OpenSpec.ofChange Rows.anchorPairsSpec) own started (by kernel_rfl) Tryd.func3
    (witness_row_atRef (enc := enc) (C := Tryd.checked) false (World.doorLaid Tryd.prog 275 os) #[.slice none 0 0, .slice none 0 0] rfl (by kernel_rfl) (by kernel_rfl) (by kernel_rfl)
      (OpenSpec.preRow_of_cond 8 hx (by kernel_rfl) (fun k hk => by cases hk) (by kernel_rfl) (apr_doorMet os _))) ?_
  intro W base args ds gs before hval hW _ _ _ hL _ _
  exact apr_contract H enc W base args ds gs before hval hW hL
theorem apr_said : Rows.AnchorPairsSaid :=
  OpenClaim.holds_of_cond 3 Tryd.f3 rfl rfl rfl rfl rfl rfl rfl ⟨rfl, rfl, rfl, rfl, rfl⟩ rfl rfl rfl rfl rfl (by kernel_rfl) Tryd.func3 (by kernel_rfl)
    (of_decide_eq_true (by kernel_rfl)) (by unfold Func.isWrapper; first | (rw [if_pos (by decide +kernel)]; kernel_rfl) | (rw [if_neg (by decide +kernel)]; exact ⟨rfl, rfl⟩))
    (fun os started H enc _ F => by rw [OpenClaim.pre_eq_preRow]; exact apr_lifted os started H enc F)
theorem apr_plain (f : FuncId) (fn : Func) (hf : Tryd.pinned.checked.prog.funcNamed "barrow/barrowlaw13.AnchorPairs" = some f) (hfn : Tryd.pinned.checked.prog.funcs[f]? = some fn) :
    true = Tryd.pinned.checked.prog.looks [] ∧ ∀ (j : Nat) t, fn.params[j]? = some t → Tryd.pinned.checked.prog.wantsStandIn t = false := by
  obtain rfl : f = 3 := Option.some.inj ((show Tryd.prog.funcNamed "barrow/barrowlaw13.AnchorPairs" = some 3 by kernel_rfl).symm.trans hf) |>.symm
  obtain rfl : fn = Tryd.f3 := (Option.some.inj (Tryd.func3.symm.trans hfn)).symm
  refine ⟨by kernel_rfl, fun j t ht => ?_⟩
  rw [Tryd.params3] at ht
  have hm : t ∈ ([22, 23] : List TypeId) := by simpa using Array.mem_of_getElem? ht
  have hall : (([22, 23] : List TypeId).all fun u => !Tryd.prog.wantsStandIn u) = true := by kernel_rfl
  exact (show Tryd.prog.wantsStandIn t = false by simpa using List.all_eq_true.1 hall t hm)
theorem anchorPairs_card : Rows.AnchorPairsCardSaid :=
  Claim7.holds_tied_plain_at .later [] _ _ _ _ apr_said (fun _ h => by cases h) (by kernel_rfl) (fun _ h => by cases h) anchorPairs_row_tie rfl ⟨rfl, rfl⟩ (by kernel_rfl) rfl apr_plain (by kernel_rfl)
#print axioms anchorPairs_card
end Go.Proofs.YtnpbbidiloahdaaDoor
