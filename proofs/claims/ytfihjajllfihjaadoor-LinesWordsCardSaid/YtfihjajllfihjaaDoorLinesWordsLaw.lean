/- barrowlaw06.LinesWords returns true for every input, and leaves what it is given as it was. No condition. -/
import Derived.Test.YtfihjajllfihjaaDoorLinesWords
import Derived.Test.YtfihjajllfihjaaDoorOpen
import Derived.Test.YtfihjajllfihjaaDoorUtf8
import Derived.Deep.DeepWitnessRowRef
import Derived.LaidMore
namespace Go.Proofs.YtfihjajllfihjaaDoor
set_option linter.unusedSimpArgs false
set_option linter.unusedVariables false
open Go Go.RowKit Go.ChangeShapes Go.WideShapes Go.ChangeAt Go.Deep
theorem sents_of_laid {W : World} (hL : laidMetH Tryd.prog Rows.linesWordsRow.laid W) : ∃ a, Sents W (fun b => b < W.heap.size) a := by
  refine sents_of_at fun k h1 h2 => ?_
  rcases (show k = 1 ∨ k = 2 ∨ k = 3 ∨ k = 4 ∨ k = 5 ∨ k = 6 ∨ k = 7 ∨ k = 8 ∨ k = 9 ∨ k = 10 ∨ k = 11 ∨ k = 12 ∨ k = 13 from by omega) with rfl | rfl | rfl | rfl | rfl | rfl | rfl | rfl | rfl | rfl | rfl | rfl | rfl
  · exact sent_1 hL (by kernel_rfl)
  · exact sent_2 hL (by kernel_rfl)
  · exact sent_3 hL (by kernel_rfl)
  · exact sent_4 hL (by kernel_rfl)
  · exact sent_5 hL (by kernel_rfl)
  · exact sent_6 hL (by kernel_rfl)
  · exact sent_7 hL (by kernel_rfl)
  · exact sent_8 hL (by kernel_rfl)
  · exact sent_9 hL (by kernel_rfl)
  · exact sent_10 hL (by kernel_rfl)
  · exact sent_11 hL (by kernel_rfl)
  · exact sent_12 hL (by kernel_rfl)
  · exact sent_13 hL (by kernel_rfl)
set_option maxRecDepth 100000 in
theorem lwd_contract (H : Type) (enc : TypeId × Value → H) (W : World) (base : Nat) (args : Array Value) (ds gs : List (DataW H)) (before : List MemPlace)
    (hval : ∀ (j : Nat) t v, Tryd.f13.params[j]? = some t → args[j]? = some v → Value.okWide Tryd.prog W .any base t v)
    (hW : DataW.Whole enc Tryd.prog Tryd.f13.params.toList Rows.linesWordsSpec.vars false W args.toList ds gs before) (hL : laidMetH Tryd.prog Rows.linesWordsRow.laid W) :
    Calls Tryd.prog 13 args W fun e W' => ∃ v, e = .returned v ∧ Rows.linesWordsSpec.post enc Tryd.prog Tryd.f13 false true false false W args v W' := by
  have hW' := hW
  obtain ⟨p, q, hA0, hV, rfl, hfz, hnd⟩ := hW
  have hA : DataW.TrodAll enc Tryd.prog W 0 (fun _ => true) true Tryd.f13.params.toList args.toList ds p := hA0
  rw [Tryd.params13] at hA hval
  obtain ⟨rfl, rfl⟩ := trodVars_none hV
  obtain ⟨v0, v1, v2, d0, d1, d2, p0, p1, p2, rfl, rfl, rfl, h0, h1, h2⟩ := trodAll_three hA
  obtain ⟨A, n, c, l, rfl, hr, hin⟩ := runes_of_trod (hval 0 94 v0 rfl rfl) h0
  obtain ⟨B, m0, d, hs_, rfl, hb_⟩ := bools_of_trod (hval 1 95 v1 rfl rfl) h1
  obtain ⟨C, m, r, as_, rfl, hc, _⟩ := ints6_of_trod (hval 2 71 v2 rfl rfl) h2
  obtain ⟨a, hs⟩ := sents_of_laid (W := W) hL
  refine (lwords_true W A B C n c m0 d m r l hs_ as_ _ _ _ _ hr hb_ hc hin hs).mono fun e W' ⟨he, hb⟩ => ⟨_, he, ?_⟩
  refine law_post rfl (by kernel_rfl) ?_ hW' rfl rfl rfl hb
  intro t ht
  rw [Tryd.params13] at ht
  have hall : (([94, 95, 71] : List TypeId).all fun u => Tryd.prog.readableRec u && decide (u < Tryd.prog.types.size)) = true := by kernel_rfl
  have := List.all_eq_true.1 hall t ht
  simpa using this
theorem lwd_doorMet (os : Os) (args : Array Value) : laidMetH Tryd.prog Rows.linesWordsRow.laid ((World.doorLaid Tryd.prog 275 os).forCall (fun _ _ => 0) ⟨#[], args, []⟩).memory :=
  laidMetH_of_parts3 (fuel := 8) (laidMet_of_run' 8 (by kernel_rfl) (by kernel_rfl)) (by kernel_rfl) (by kernel_rfl)
theorem lwd_reads (os : Os) {H : Type} (enc : TypeId × Value → H) : ∃ places, DataW.whole enc Tryd.prog ((World.doorLaid Tryd.prog 275 os).forCall (fun _ _ => 0) ⟨#[], #[.slice none 0 0, .slice none 0 0, .slice none 0 0], []⟩).memory Tryd.f13.params.toList Rows.linesWordsSpec.vars false (#[.slice none 0 0, .slice none 0 0, .slice none 0 0] : Array Value).toList 8 = some ([.nil, .nil, .nil], [], places) :=
  ⟨[], by kernel_rfl⟩
set_option maxRecDepth 100000 in
theorem lwd_lifted (os : Os) (started : os.Started) (H : Type) (enc : TypeId × Value → H) (F : Stop.Interp) :
    ReturnsInHanded {} Tryd.checked os 13 .any ((OpenSpec.ofChange Rows.linesWordsSpec).preRow enc Tryd.prog Tryd.f13 Rows.linesWordsRow.domain false Rows.linesWordsRow.laid) (((OpenSpec.ofChange Rows.linesWordsSpec).at F).post enc Tryd.prog Tryd.f13 false true false false) := by
  obtain ⟨places, hx⟩ := lwd_reads os enc
  refine returnsInHanded_of_row (C := Tryd.checked) (s := OpenSpec.ofChange Rows.linesWordsSpec) own started (by kernel_rfl) Tryd.func13
    (witness_row_atRef (enc := enc) (C := Tryd.checked) false (World.doorLaid Tryd.prog 275 os) #[.slice none 0 0, .slice none 0 0, .slice none 0 0] rfl (by kernel_rfl) (by kernel_rfl) (by kernel_rfl)
      (OpenSpec.preRow_of_cond 8 hx (by kernel_rfl) (fun k hk => by cases hk) (by kernel_rfl) (lwd_doorMet os _))) ?_
  intro W base args ds gs before hval hW _ _ _ hL _ _
  exact lwd_contract H enc W base args ds gs before hval hW hL
theorem lwd_said : Rows.LinesWordsSaid :=
  OpenClaim.holds_of_cond 13 Tryd.f13 rfl rfl rfl rfl rfl rfl rfl ⟨rfl, rfl, rfl, rfl, rfl⟩ rfl rfl rfl rfl rfl (by kernel_rfl) Tryd.func13 (by kernel_rfl)
    (of_decide_eq_true (by kernel_rfl)) (by unfold Func.isWrapper; first | (rw [if_pos (by decide +kernel)]; kernel_rfl) | (rw [if_neg (by decide +kernel)]; exact ⟨rfl, rfl⟩))
    (fun os started H enc _ F => by rw [OpenClaim.pre_eq_preRow]; exact lwd_lifted os started H enc F)
theorem lwd_plain (f : FuncId) (fn : Func) (hf : Tryd.pinned.checked.prog.funcNamed "barrow/barrowlaw06.LinesWords" = some f) (hfn : Tryd.pinned.checked.prog.funcs[f]? = some fn) :
    true = Tryd.pinned.checked.prog.looks [] ∧ ∀ (j : Nat) t, fn.params[j]? = some t → Tryd.pinned.checked.prog.wantsStandIn t = false := by
  obtain rfl : f = 13 := Option.some.inj ((show Tryd.prog.funcNamed "barrow/barrowlaw06.LinesWords" = some 13 by kernel_rfl).symm.trans hf) |>.symm
  obtain rfl : fn = Tryd.f13 := (Option.some.inj (Tryd.func13.symm.trans hfn)).symm
  refine ⟨by kernel_rfl, fun j t ht => ?_⟩
  rw [Tryd.params13] at ht
  have hm : t ∈ ([94, 95, 71] : List TypeId) := by simpa using Array.mem_of_getElem? ht
  have hall : (([94, 95, 71] : List TypeId).all fun u => !Tryd.prog.wantsStandIn u) = true := by kernel_rfl
  exact (show Tryd.prog.wantsStandIn t = false by simpa using List.all_eq_true.1 hall t hm)
theorem linesWords_card : Rows.LinesWordsCardSaid :=
  Claim7.holds_tied_plain_at .later [] _ _ _ _ lwd_said (fun _ h => by cases h) (by kernel_rfl) (fun _ h => by cases h) linesWords_row_tie rfl ⟨rfl, rfl⟩ (by kernel_rfl) rfl lwd_plain (by kernel_rfl)
#print axioms linesWords_card
end Go.Proofs.YtfihjajllfihjaaDoor
