/- barrowlaw06.LinesSplit returns true for every input, and leaves what it is given as it was. No condition. -/
import Derived.Test.YtfihjajllfihjaaDoorLinesSplit
import Derived.Test.YtfihjajllfihjaaDoorOpen
import Derived.ChangeMaps5
import Derived.Deep.DeepWitnessRowRef
import Derived.LaidMore
import Derived.Lay
namespace Go.Proofs.YtfihjajllfihjaaDoor
set_option linter.unusedSimpArgs false
set_option linter.unusedVariables false
open Go Go.RowKit Go.ChangeShapes Go.WideShapes Go.ChangeAt
theorem sents_of_laid {W : World} (hL : laidMetH Tryd.prog Rows.linesSplitRow.laid W) : ∃ a, Sents W (fun b => b < W.heap.size) a := by
  refine sents_of_at fun k h1 h2 => ?_
  rcases (show k = 1 ∨ k = 2 ∨ k = 3 ∨ k = 4 ∨ k = 5 ∨ k = 6 ∨ k = 7 ∨ k = 8 ∨ k = 9 ∨ k = 10 ∨ k = 11 ∨ k = 12 ∨ k = 13 from by omega) with rfl | rfl | rfl | rfl | rfl | rfl | rfl | rfl | rfl | rfl | rfl | rfl | rfl
  · exact sent_1 hL (by kernel_rfl)
  · exact sent_2 hL (by kernel_rfl)
  · exact sent_3 hL (by kernel_rfl)
  · exact sent_4 hL (by kernel_rfl)
  · exact sent_5 hL (by kernel_rfl)
  · exact sent_6 hL (by kernel_rfl)
  · exact sent_7 hL (by kernel_rfl)
  · exact sent_8 hL (by kernel_rfl)
  · exact sent_9 hL (by kernel_rfl)
  · exact sent_10 hL (by kernel_rfl)
  · exact sent_11 hL (by kernel_rfl)
  · exact sent_12 hL (by kernel_rfl)
  · exact sent_13 hL (by kernel_rfl)
set_option maxRecDepth 100000 in
theorem lsp_contract (H : Type) (enc : TypeId × Value → H) (W : World) (base : Nat) (args : Array Value) (ds gs : List (DataW H)) (before : List MemPlace)
    (hval : ∀ (j : Nat) t v, Tryd.f15.params[j]? = some t → args[j]? = some v → Value.okWide Tryd.prog W .any base t v)
    (hW : DataW.Whole enc Tryd.prog Tryd.f15.params.toList Rows.linesSplitSpec.vars false W args.toList ds gs before) (hL : laidMetH Tryd.prog Rows.linesSplitRow.laid W) :
    Calls Tryd.prog 15 args W fun e W' => ∃ v, e = .returned v ∧ Rows.linesSplitSpec.post enc Tryd.prog Tryd.f15 false true false false W args v W' := by
  have hW' := hW
  obtain ⟨p, q, hA0, hV, rfl, hfz, hnd⟩ := hW
  have hA : DataW.TrodAll enc Tryd.prog W 0 (fun _ => true) true Tryd.f15.params.toList args.toList ds p := hA0
  rw [Tryd.params15] at hA hval
  obtain ⟨rfl, rfl⟩ := trodVars_none hV
  obtain ⟨v0, d0, rfl, rfl, h0⟩ := trodAll_one hA
  obtain ⟨s, rfl, -⟩ := Go.ChangeMaps.open_string Tryd.underlying9 (hval 0 9 v0 rfl rfl) h0
  obtain ⟨a, hs⟩ := sents_of_laid (W := W) hL
  refine (lsplit_true W s _ hs).mono fun e W' ⟨he, hb⟩ => ⟨_, he, ?_⟩
  refine law_post rfl (by kernel_rfl) ?_ hW' rfl rfl rfl hb
  intro t ht
  rw [Tryd.params15] at ht
  have hall : (([9] : List TypeId).all fun u => Tryd.prog.readableRec u && decide (u < Tryd.prog.types.size)) = true := by kernel_rfl
  have := List.all_eq_true.1 hall t ht
  simpa using this
theorem lsp_doorMet (os : Os) (args : Array Value) : laidMetH Tryd.prog Rows.linesSplitRow.laid ((World.laidAll Tryd.prog os Rows.linesSplitRow.laid).forCall (fun _ _ => 0) ⟨#[], args, []⟩).memory :=
  laidMetH_of_parts3 (fuel := 8) (by
    rw [show (Rows.linesSplitRow.laid.filter fun x => x.2.handleName?.isNone) = Rows.linesSplitRow.laid from by kernel_rfl]
    exact laidMet_laidAll (P := Tryd.prog) (os := os) (laid := Rows.linesSplitRow.laid) args (by kernel_rfl) (by kernel_rfl)) (by kernel_rfl) (by kernel_rfl)
theorem lsp_reads (os : Os) {H : Type} (enc : TypeId × Value → H) : ∃ places, DataW.whole enc Tryd.prog ((World.laidAll Tryd.prog os Rows.linesSplitRow.laid).forCall (fun _ _ => 0) ⟨#[], #[.string ⟨#[]⟩], []⟩).memory Tryd.f15.params.toList Rows.linesSplitSpec.vars false (#[.string ⟨#[]⟩] : Array Value).toList 8 = some ([.lit (.string [])], [], places) :=
  ⟨[], by kernel_rfl⟩
set_option maxRecDepth 100000 in
theorem lsp_lifted (os : Os) (started : os.Started) (H : Type) (enc : TypeId × Value → H) (F : Stop.Interp) :
    ReturnsInHanded {} Tryd.checked os 15 .any ((OpenSpec.ofChange Rows.linesSplitSpec).preRow enc Tryd.prog Tryd.f15 Rows.linesSplitRow.domain false Rows.linesSplitRow.laid) (((OpenSpec.ofChange Rows.linesSplitSpec).at F).post enc Tryd.prog Tryd.f15 false true false false) := by
  obtain ⟨places, hx⟩ := lsp_reads os enc
  refine returnsInHanded_of_row (C := Tryd.checked) (s := OpenSpec.ofChange Rows.linesSplitSpec) own started (by kernel_rfl) Tryd.func15
    (witness_row_atRef (enc := enc) (C := Tryd.checked) false (World.laidAll Tryd.prog os Rows.linesSplitRow.laid) #[.string ⟨#[]⟩] (World.laidAll_os _ _ _) (by kernel_rfl) (by kernel_rfl) (by kernel_rfl)
      (OpenSpec.preRow_of_cond 8 hx (by kernel_rfl) (fun k hk => by cases hk) (by kernel_rfl) (lsp_doorMet os _))) ?_
  intro W base args ds gs before hval hW _ _ _ hL _ _
  exact lsp_contract H enc W base args ds gs before hval hW hL
theorem lsp_said : Rows.LinesSplitSaid :=
  OpenClaim.holds_of_cond 15 Tryd.f15 rfl rfl rfl rfl rfl rfl rfl ⟨rfl, rfl, rfl, rfl, rfl⟩ rfl rfl rfl rfl rfl (by kernel_rfl) Tryd.func15 (by kernel_rfl)
    (of_decide_eq_true (by kernel_rfl)) (by unfold Func.isWrapper; first | (rw [if_pos (by decide +kernel)]; kernel_rfl) | (rw [if_neg (by decide +kernel)]; exact ⟨rfl, rfl⟩))
    (fun os started H enc _ F => by rw [OpenClaim.pre_eq_preRow]; exact lsp_lifted os started H enc F)
theorem lsp_plain (f : FuncId) (fn : Func) (hf : Tryd.pinned.checked.prog.funcNamed "barrow/barrowlaw06.LinesSplit" = some f) (hfn : Tryd.pinned.checked.prog.funcs[f]? = some fn) :
    true = Tryd.pinned.checked.prog.looks [] ∧ ∀ (j : Nat) t, fn.params[j]? = some t → Tryd.pinned.checked.prog.wantsStandIn t = false := by
  obtain rfl : f = 15 := Option.some.inj ((show Tryd.prog.funcNamed "barrow/barrowlaw06.LinesSplit" = some 15 by kernel_rfl).symm.trans hf) |>.symm
  obtain rfl : fn = Tryd.f15 := (Option.some.inj (Tryd.func15.symm.trans hfn)).symm
  refine ⟨by kernel_rfl, fun j t ht => ?_⟩
  rw [Tryd.params15] at ht
  have hm : t ∈ ([9] : List TypeId) := by simpa using Array.mem_of_getElem? ht
  have hall : (([9] : List TypeId).all fun u => !Tryd.prog.wantsStandIn u) = true := by kernel_rfl
  exact (show Tryd.prog.wantsStandIn t = false by simpa using List.all_eq_true.1 hall t hm)
theorem linesSplit_card : Rows.LinesSplitCardSaid :=
  Claim7.holds_tied_plain_at .later [] _ _ _ _ lsp_said (fun _ h => by cases h) (by kernel_rfl) (fun _ h => by cases h) linesSplit_row_tie rfl ⟨rfl, rfl⟩ (by kernel_rfl) rfl lsp_plain (by kernel_rfl)
#print axioms linesSplit_card
end Go.Proofs.YtfihjajllfihjaaDoor
