/- barrowlaw08.HistoryNew returns true for every input of bulk at most the bound that the row has, and leaves what it is given as it was. No other condition. -/
import Derived.Deep.DeepWitnessRowRef
import Derived.LaidMore
import Derived.Test.YteggpddlkkjmjaaGreatDoorQ63
set_option linter.unusedSimpArgs false
set_option linter.unusedVariables false
set_option maxRecDepth 100000
namespace Go.Proofs.YteggpddlkkjmjaaGreatDoor
open Go Go.RowKit Go.ChangeShapes Go.WideShapes Go.ChangeAt
theorem sents_of_laid {W : World} (hL : laidMetH Tryz.prog Rows.historyNewRow.laid W) : ∃ a, Sents W (fun b => b < W.heap.size) a := by
 refine sents_of_at fun k h1 h2 => ?_
 rcases (show k = 1 ∨ k = 2 ∨ k = 3 ∨ k = 4 ∨ k = 5 ∨ k = 6 ∨ k = 7 ∨ k = 8 ∨ k = 9 ∨ k = 10 ∨ k = 11 ∨ k = 12 ∨ k = 13 from by omega) with rfl | rfl | rfl | rfl | rfl | rfl | rfl | rfl | rfl | rfl | rfl | rfl | rfl
 · exact sent_1 hL (by kernel_rfl)
 · exact sent_2 hL (by kernel_rfl)
 · exact sent_3 hL (by kernel_rfl)
 · exact sent_4 hL (by kernel_rfl)
 · exact sent_5 hL (by kernel_rfl)
 · exact sent_6 hL (by kernel_rfl)
 · exact sent_7 hL (by kernel_rfl)
 · exact sent_8 hL (by kernel_rfl)
 · exact sent_9 hL (by kernel_rfl)
 · exact sent_10 hL (by kernel_rfl)
 · exact sent_11 hL (by kernel_rfl)
 · exact sent_12 hL (by kernel_rfl)
 · exact sent_13 hL (by kernel_rfl)
theorem hnl_contract (H : Type) (enc : TypeId × Value → H) (W : World) (base : Nat) (args : Array Value) (ds gs : List (DataW H)) (before : List MemPlace)
 (hval : ∀ (j : Nat) t v, Tryz.f6.params[j]? = some t → args[j]? = some v → Value.okWide Tryz.prog W .any base t v)
 (hW : DataW.Whole enc Tryz.prog Tryz.f6.params.toList Rows.historyNewSpec.vars false W args.toList ds gs before) (hL : laidMetH Tryz.prog Rows.historyNewRow.laid W) :
 Calls Tryz.prog 6 args W fun e W' => ∃ v, e = .returned v ∧ Rows.historyNewSpec.post enc Tryz.prog Tryz.f6 false true false false W args v W' := by
 have hW' := hW
 obtain ⟨p, q, hA0, hV, rfl, hfz, hnd⟩ := hW
 have hA : DataW.TrodAll enc Tryz.prog W 0 (fun _ => true) true Tryz.f6.params.toList args.toList ds p := hA0
 rw [Tryz.params6] at hA hval
 obtain ⟨rfl, rfl⟩ := trodVars_none hV
 obtain ⟨v0, v1, d0, d1, p0, p1, rfl, rfl, rfl, h0, h1⟩ := trodAll_two hA
 obtain ⟨ep, rfl, -, -, w1⟩ := open_int Tryz.underlying3 (hval 0 3 v0 rfl rfl) h0
 obtain ⟨A, n, c, ls, rfl, hr, hin⟩ := row_of_trod (hval 1 51 v1 rfl rfl) h1
 obtain ⟨a, hs⟩ := sents_of_laid (W := W) hL
 refine (hnew_true W ep A n c ls _ _ (wf_i64 w1) hr hin hs fun b hb => hb).mono fun e W' ⟨he, hb⟩ => ⟨_, he, ?_⟩
 refine law_post rfl (by kernel_rfl) ?_ hW' rfl rfl rfl hb
 intro t ht
 rw [Tryz.params6] at ht
 have hall : (([3, 51] : List TypeId).all fun u => Tryz.prog.readableRec u && decide (u < Tryz.prog.types.size)) = true := by kernel_rfl
 have := List.all_eq_true.1 hall t ht
 simpa using this
theorem hnl_doorMet (os : Os) (args : Array Value) : laidMetH Tryz.prog Rows.historyNewRow.laid ((World.doorLaid Tryz.prog 275 os).forCall (fun _ _ => 0) ⟨#[], args, []⟩).memory :=
 laidMetH_of_parts3 (fuel := 8) (laidMet_of_run' 8 (by kernel_rfl) (by kernel_rfl)) (by kernel_rfl) (by kernel_rfl)
theorem hnl_reads (os : Os) {H : Type} (enc : TypeId × Value → H) : ∃ places, DataW.whole enc Tryz.prog ((World.doorLaid Tryz.prog 275 os).forCall (fun _ _ => 0) ⟨#[], #[.int .i64 0, .slice none 0 0], []⟩).memory Tryz.f6.params.toList Rows.historyNewSpec.vars false (#[.int .i64 0, .slice none 0 0] : Array Value).toList 8 = some ([.lit (.int .i64 0), .nil], [], places) :=
 ⟨[], by kernel_rfl⟩
theorem hnl_liftedUpto (os : Os) (started : os.Started) (H : Type) (enc : TypeId × Value → H) (F : Stop.Interp) :
 ReturnsInHanded {} Tryz.checked os 6 .any ((Rows.OpenSpec.upto Rows.historyNewSpec).preRow enc Tryz.prog Tryz.f6 Rows.historyNewUptoRow.domain false Rows.historyNewUptoRow.laid) (((Rows.OpenSpec.upto Rows.historyNewSpec).at F).post enc Tryz.prog Tryz.f6 false true false false) := by
 obtain ⟨places, hx⟩ := hnl_reads os enc
 refine returnsInHanded_of_row (C := Tryz.checked) (s := Rows.OpenSpec.upto Rows.historyNewSpec) own started (by kernel_rfl) Tryz.func6
  (witness_row_atRef (enc := enc) (C := Tryz.checked) false (World.doorLaid Tryz.prog 275 os) #[.int .i64 0, .slice none 0 0] rfl (by kernel_rfl) (by kernel_rfl) (by kernel_rfl)
   (OpenSpec.preRow_of_cond 8 hx (by kernel_rfl) (fun k hk => by cases hk; kernel_rfl) (by kernel_rfl) (hnl_doorMet os _))) ?_
 intro W base args ds gs before hval hW _ _ _ hL _ _
 exact hnl_contract H enc W base args ds gs before hval hW hL
theorem hnl_saidUpto : Rows.HistoryNewUptoSaid :=
 OpenClaim.holds_of_cond 6 Tryz.f6 rfl rfl rfl rfl rfl rfl rfl ⟨rfl, rfl, rfl, rfl, rfl⟩ rfl rfl rfl rfl rfl (by kernel_rfl) Tryz.func6 (by kernel_rfl)
  (of_decide_eq_true (by kernel_rfl)) (by unfold Func.isWrapper; first | (rw [if_pos (by decide +kernel)]; kernel_rfl) | (rw [if_neg (by decide +kernel)]; exact ⟨rfl, rfl⟩))
  (fun os started H enc _ F => by rw [OpenClaim.pre_eq_preRow]; exact hnl_liftedUpto os started H enc F)
theorem hnl_plain (f : FuncId) (fn : Func) (hf : Tryz.pinned.checked.prog.funcNamed "barrow/barrowlaw08.HistoryNew" = some f) (hfn : Tryz.pinned.checked.prog.funcs[f]? = some fn) :
 true = Tryz.pinned.checked.prog.looks [] ∧ ∀ (j : Nat) t, fn.params[j]? = some t → Tryz.pinned.checked.prog.wantsStandIn t = false := by
 obtain rfl : f = 6 := Option.some.inj ((show Tryz.prog.funcNamed "barrow/barrowlaw08.HistoryNew" = some 6 by kernel_rfl).symm.trans hf) |>.symm
 obtain rfl : fn = Tryz.f6 := (Option.some.inj (Tryz.func6.symm.trans hfn)).symm
 refine ⟨by kernel_rfl, fun j t ht => ?_⟩
 rw [Tryz.params6] at ht
 have hm : t ∈ ([3, 51] : List TypeId) := by simpa using Array.mem_of_getElem? ht
 have hall : (([3, 51] : List TypeId).all fun u => !Tryz.prog.wantsStandIn u) = true := by kernel_rfl
 exact (show Tryz.prog.wantsStandIn t = false by simpa using List.all_eq_true.1 hall t hm)
theorem historyNewUpto_card : Rows.HistoryNewUptoCardSaid :=
 Claim7.holds_tied_plain_at .later [] _ _ _ _ hnl_saidUpto (fun _ h => by cases h) (by kernel_rfl) (fun _ h => by cases h) historyNewUpto_row_tie rfl ⟨rfl, rfl⟩ (by kernel_rfl) rfl hnl_plain (by kernel_rfl)
end Go.Proofs.YteggpddlkkjmjaaGreatDoor
