/- barrowlaw05.ModelAll returns true for every input of bulk at most the bound that the row has, and leaves what it is given as it was. No other condition. -/
import Derived.Test.YtfihjajllfihjaaDoorModelAll2
import Derived.Test.YtfihjajllfihjaaDoorOpen
import Derived.Deep.DeepWitnessRowRef
import Derived.LaidMore
namespace Go.Proofs.YtfihjajllfihjaaDoor
set_option linter.unusedSimpArgs false
set_option linter.unusedVariables false
open Go Go.RowKit Go.ChangeShapes Go.WideShapes Go.ChangeAt
theorem sents_of_laid {W : World} (hL : laidMetH Tryd.prog Rows.modelAllRow.laid W) : ∃ a, Sents W (fun b => b < W.heap.size) a := by
  refine sents_of_at fun k h1 h2 => ?_
  rcases (show k = 1 ∨ k = 2 ∨ k = 3 ∨ k = 4 ∨ k = 5 ∨ k = 6 ∨ k = 7 ∨ k = 8 ∨ k = 9 ∨ k = 10 ∨ k = 11 ∨ k = 12 ∨ k = 13 from by omega) with rfl | rfl | rfl | rfl | rfl | rfl | rfl | rfl | rfl | rfl | rfl | rfl | rfl
  · exact sent_1 hL (by kernel_rfl)
  · exact sent_2 hL (by kernel_rfl)
  · exact sent_3 hL (by kernel_rfl)
  · exact sent_4 hL (by kernel_rfl)
  · exact sent_5 hL (by kernel_rfl)
  · exact sent_6 hL (by kernel_rfl)
  · exact sent_7 hL (by kernel_rfl)
  · exact sent_8 hL (by kernel_rfl)
  · exact sent_9 hL (by kernel_rfl)
  · exact sent_10 hL (by kernel_rfl)
  · exact sent_11 hL (by kernel_rfl)
  · exact sent_12 hL (by kernel_rfl)
  · exact sent_13 hL (by kernel_rfl)
theorem mall_true {a : Nat → Addr} (w : World) (A : Option Addr) (n c : Nat) (stop : Int) (ls : List El) (S S' : Nat → Prop) (hr : Row w S A n c ls) (hin : ∀ e ∈ ls, e.In) (hs : Sents w S' a) :
    Calls Tryd.prog 4 #[.slice A n c, .int .i64 stop] w fun e w' => e = .returned (.bool true) ∧ Below w.heap.size w w' := by
  rcases allRight_or (ls.take (min n 100)) with hg | ⟨j, ej, hj, hg, hw⟩
  · exact mall_ok w A n c stop ls S hr hg hin
  · exact mall_no w A n c j stop ls ej S S' hr hg hj hw hin hs
set_option maxRecDepth 100000 in
theorem mal_contract (H : Type) (enc : TypeId × Value → H) (W : World) (base : Nat) (args : Array Value) (ds gs : List (DataW H)) (before : List MemPlace)
    (hval : ∀ (j : Nat) t v, Tryd.f4.params[j]? = some t → args[j]? = some v → Value.okWide Tryd.prog W .any base t v)
    (hW : DataW.Whole enc Tryd.prog Tryd.f4.params.toList Rows.modelAllSpec.vars false W args.toList ds gs before) (hL : laidMetH Tryd.prog Rows.modelAllRow.laid W) :
    Calls Tryd.prog 4 args W fun e W' => ∃ v, e = .returned v ∧ Rows.modelAllSpec.post enc Tryd.prog Tryd.f4 false true false false W args v W' := by
  have hW' := hW
  obtain ⟨p, q, hA0, hV, rfl, hfz, hnd⟩ := hW
  have hA : DataW.TrodAll enc Tryd.prog W 0 (fun _ => true) true Tryd.f4.params.toList args.toList ds p := hA0
  rw [Tryd.params4] at hA hval
  obtain ⟨rfl, rfl⟩ := trodVars_none hV
  obtain ⟨v0, v1, d0, d1, p0, p1, rfl, rfl, rfl, h0, h1⟩ := trodAll_two hA
  obtain ⟨A, n, c, ls, rfl, hr, hin⟩ := row_of_trod (hval 0 22 v0 rfl rfl) h0
  obtain ⟨stop, rfl, -, -, w1⟩ := open_int Tryd.underlying3 (hval 1 3 v1 rfl rfl) h1
  obtain ⟨a, hs⟩ := sents_of_laid (W := W) hL
  refine (mall_true W A n c stop ls _ _ hr hin hs).mono fun e W' ⟨he, hb⟩ => ⟨_, he, ?_⟩
  refine law_post rfl (by kernel_rfl) ?_ hW' rfl rfl rfl hb
  intro t ht
  rw [Tryd.params4] at ht
  have hall : (([22, 3] : List TypeId).all fun u => Tryd.prog.readableRec u && decide (u < Tryd.prog.types.size)) = true := by kernel_rfl
  have := List.all_eq_true.1 hall t ht
  simpa using this
theorem mal_doorMet (os : Os) (args : Array Value) : laidMetH Tryd.prog Rows.modelAllRow.laid ((World.doorLaid Tryd.prog 275 os).forCall (fun _ _ => 0) ⟨#[], args, []⟩).memory :=
  laidMetH_of_parts3 (fuel := 8) (laidMet_of_run' 8 (by kernel_rfl) (by kernel_rfl)) (by kernel_rfl) (by kernel_rfl)
theorem mal_reads (os : Os) {H : Type} (enc : TypeId × Value → H) : ∃ places, DataW.whole enc Tryd.prog ((World.doorLaid Tryd.prog 275 os).forCall (fun _ _ => 0) ⟨#[], #[.slice none 0 0, .int .i64 0], []⟩).memory Tryd.f4.params.toList Rows.modelAllSpec.vars false (#[.slice none 0 0, .int .i64 0] : Array Value).toList 8 = some ([.nil, .lit (.int .i64 0)], [], places) :=
  ⟨[], by kernel_rfl⟩
set_option maxRecDepth 100000 in
theorem mal_liftedUpto (os : Os) (started : os.Started) (H : Type) (enc : TypeId × Value → H) (F : Stop.Interp) :
    ReturnsInHanded {} Tryd.checked os 4 .any ((Rows.OpenSpec.upto Rows.modelAllSpec).preRow enc Tryd.prog Tryd.f4 Rows.modelAllUptoRow.domain false Rows.modelAllUptoRow.laid) (((Rows.OpenSpec.upto Rows.modelAllSpec).at F).post enc Tryd.prog Tryd.f4 false true false false) := by
  obtain ⟨places, hx⟩ := mal_reads os enc
  refine returnsInHanded_of_row (C := Tryd.checked) (s := Rows.OpenSpec.upto Rows.modelAllSpec) own started (by kernel_rfl) Tryd.func4
    (witness_row_atRef (enc := enc) (C := Tryd.checked) false (World.doorLaid Tryd.prog 275 os) #[.slice none 0 0, .int .i64 0] rfl (by kernel_rfl) (by kernel_rfl) (by kernel_rfl)
      (OpenSpec.preRow_of_cond 8 hx (by kernel_rfl) (fun k hk => by cases hk; kernel_rfl) (by kernel_rfl) (mal_doorMet os _))) ?_
  intro W base args ds gs before hval hW _ _ _ hL _ _
  exact mal_contract H enc W base args ds gs before hval hW hL
theorem mal_saidUpto : Rows.ModelAllUptoSaid :=
  OpenClaim.holds_of_cond 4 Tryd.f4 rfl rfl rfl rfl rfl rfl rfl ⟨rfl, rfl, rfl, rfl, rfl⟩ rfl rfl rfl rfl rfl (by kernel_rfl) Tryd.func4 (by kernel_rfl)
    (of_decide_eq_true (by kernel_rfl)) (by unfold Func.isWrapper; first | (rw [if_pos (by decide +kernel)]; kernel_rfl) | (rw [if_neg (by decide +kernel)]; exact ⟨rfl, rfl⟩))
    (fun os started H enc _ F => by rw [OpenClaim.pre_eq_preRow]; exact mal_liftedUpto os started H enc F)
theorem mal_plain (f : FuncId) (fn : Func) (hf : Tryd.pinned.checked.prog.funcNamed "barrow/barrowlaw05.ModelAll" = some f) (hfn : Tryd.pinned.checked.prog.funcs[f]? = some fn) :
    true = Tryd.pinned.checked.prog.looks [] ∧ ∀ (j : Nat) t, fn.params[j]? = some t → Tryd.pinned.checked.prog.wantsStandIn t = false := by
  obtain rfl : f = 4 := Option.some.inj ((show Tryd.prog.funcNamed "barrow/barrowlaw05.ModelAll" = some 4 by kernel_rfl).symm.trans hf) |>.symm
  obtain rfl : fn = Tryd.f4 := (Option.some.inj (Tryd.func4.symm.trans hfn)).symm
  refine ⟨by kernel_rfl, fun j t ht => ?_⟩
  rw [Tryd.params4] at ht
  have hm : t ∈ ([22, 3] : List TypeId) := by simpa using Array.mem_of_getElem? ht
  have hall : (([22, 3] : List TypeId).all fun u => !Tryd.prog.wantsStandIn u) = true := by kernel_rfl
  exact (show Tryd.prog.wantsStandIn t = false by simpa using List.all_eq_true.1 hall t hm)
theorem modelAllUpto_card : Rows.ModelAllUptoCardSaid :=
  Claim7.holds_tied_plain_at .later [] _ _ _ _ mal_saidUpto (fun _ h => by cases h) (by kernel_rfl) (fun _ h => by cases h) modelAllUpto_row_tie rfl ⟨rfl, rfl⟩ (by kernel_rfl) rfl mal_plain (by kernel_rfl)
#print axioms modelAllUpto_card
end Go.Proofs.YtfihjajllfihjaaDoor
