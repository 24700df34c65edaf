/- barrowlaw06.LinesPlaces returns true for every input, and leaves what it is given as it was. No condition. -/
import Derived.Test.YtfihjajllfihjaaDoorLinesPlaces
import Derived.Test.YtfihjajllfihjaaDoorOpen
import Derived.Deep.DeepWitnessRowRef
import Derived.LaidMore
namespace Go.Proofs.YtfihjajllfihjaaDoor
set_option linter.unusedSimpArgs false
set_option linter.unusedVariables false
open Go Go.RowKit Go.ChangeShapes Go.WideShapes Go.ChangeAt Go.Deep
set_option maxRecDepth 20000 in
theorem spots_of_trod {H : Type} {enc : TypeId × Value → H} {W : World} {v : Value} {d : DataW H} {p : List MemPlace} {r : Reach} {b0 : Nat} (hv : Value.okWide Tryd.prog W r b0 103 v) (h : DataW.Trod enc Tryd.prog W 0 (fun _ => true) true 103 v d p) :
    ∃ A n c, ∃ es : List Spo, v = .slice A n c ∧ GRow W (fun b => b < W.heap.size) A n c es ∧ ∀ x ∈ es, True :=
  grow_of_trod (α := Spo) (t := 106) Tryd.underlying103 (by kernel_rfl) (by decide) (fun _ => True) (fun fuel cs x hl h => by
    obtain ⟨xs, n, _, _, _, hxl, hf⟩ := DataW.trod_struct Tryd.underlying106 h
    match cs, hl with
    | [v0, v1], _ =>
      have c3 : Tryd.prog.cellsOf 3 = 1 := by kernel_rfl
      match xs, hxl with
      | [y0, y1], _ =>
        have g0 := hf 0 _ rfl
        have g1 := hf 1 _ rfl
        simp [c3] at g0 g1
        obtain ⟨n0, e0, q0⟩ := one_of_trod Tryd.underlying3 g0 rfl
        obtain ⟨n1, e1, q1⟩ := one_of_trod Tryd.underlying3 g1 rfl
        injection e0 with e0
        injection e1 with e1
        subst e0 e1
        exact ⟨⟨n0, n1⟩, rfl, trivial⟩) hv h
theorem sents_of_laid {W : World} (hL : laidMetH Tryd.prog Rows.linesPlacesRow.laid W) : ∃ a, Sents W (fun b => b < W.heap.size) a := by
  refine sents_of_at fun k h1 h2 => ?_
  rcases (show k = 1 ∨ k = 2 ∨ k = 3 ∨ k = 4 ∨ k = 5 ∨ k = 6 ∨ k = 7 ∨ k = 8 ∨ k = 9 ∨ k = 10 ∨ k = 11 ∨ k = 12 ∨ k = 13 from by omega) with rfl | rfl | rfl | rfl | rfl | rfl | rfl | rfl | rfl | rfl | rfl | rfl | rfl
  · exact sent_1 hL (by kernel_rfl)
  · exact sent_2 hL (by kernel_rfl)
  · exact sent_3 hL (by kernel_rfl)
  · exact sent_4 hL (by kernel_rfl)
  · exact sent_5 hL (by kernel_rfl)
  · exact sent_6 hL (by kernel_rfl)
  · exact sent_7 hL (by kernel_rfl)
  · exact sent_8 hL (by kernel_rfl)
  · exact sent_9 hL (by kernel_rfl)
  · exact sent_10 hL (by kernel_rfl)
  · exact sent_11 hL (by kernel_rfl)
  · exact sent_12 hL (by kernel_rfl)
  · exact sent_13 hL (by kernel_rfl)
set_option maxRecDepth 100000 in
theorem lpl_contract (H : Type) (enc : TypeId × Value → H) (W : World) (base : Nat) (args : Array Value) (ds gs : List (DataW H)) (before : List MemPlace)
    (hval : ∀ (j : Nat) t v, Tryd.f12.params[j]? = some t → args[j]? = some v → Value.okWide Tryd.prog W .any base t v)
    (hW : DataW.Whole enc Tryd.prog Tryd.f12.params.toList Rows.linesPlacesSpec.vars false W args.toList ds gs before) (hL : laidMetH Tryd.prog Rows.linesPlacesRow.laid W) :
    Calls Tryd.prog 12 args W fun e W' => ∃ v, e = .returned v ∧ Rows.linesPlacesSpec.post enc Tryd.prog Tryd.f12 false true false false W args v W' := by
  have hW' := hW
  obtain ⟨p, q, hA0, hV, rfl, hfz, hnd⟩ := hW
  have hA : DataW.TrodAll enc Tryd.prog W 0 (fun _ => true) true Tryd.f12.params.toList args.toList ds p := hA0
  rw [Tryd.params12] at hA hval
  obtain ⟨rfl, rfl⟩ := trodVars_none hV
  obtain ⟨v0, v1, v2, d0, d1, d2, p0, p1, p2, rfl, rfl, rfl, h0, h1, h2⟩ := trodAll_three hA
  obtain ⟨A, n, c, l, rfl, hr, hin⟩ := runes_of_trod (hval 0 94 v0 rfl rfl) h0
  obtain ⟨B, m0, d, hs_, rfl, hb_⟩ := bools_of_trod (hval 1 95 v1 rfl rfl) h1
  obtain ⟨C, m, r, as_, rfl, hc, _⟩ := spots_of_trod (hval 2 103 v2 rfl rfl) h2
  obtain ⟨a, hs⟩ := sents_of_laid (W := W) hL
  refine (lplaces_true W A B C n c m0 d m r l hs_ as_ _ _ _ _ hr hb_ hc hin hs).mono fun e W' ⟨he, hb⟩ => ⟨_, he, ?_⟩
  refine law_post rfl (by kernel_rfl) ?_ hW' rfl rfl rfl hb
  intro t ht
  rw [Tryd.params12] at ht
  have hall : (([94, 95, 103] : List TypeId).all fun u => Tryd.prog.readableRec u && decide (u < Tryd.prog.types.size)) = true := by kernel_rfl
  have := List.all_eq_true.1 hall t ht
  simpa using this
theorem lpl_doorMet (os : Os) (args : Array Value) : laidMetH Tryd.prog Rows.linesPlacesRow.laid ((World.doorLaid Tryd.prog 275 os).forCall (fun _ _ => 0) ⟨#[], args, []⟩).memory :=
  laidMetH_of_parts3 (fuel := 8) (laidMet_of_run' 8 (by kernel_rfl) (by kernel_rfl)) (by kernel_rfl) (by kernel_rfl)
theorem lpl_reads (os : Os) {H : Type} (enc : TypeId × Value → H) : ∃ places, DataW.whole enc Tryd.prog ((World.doorLaid Tryd.prog 275 os).forCall (fun _ _ => 0) ⟨#[], #[.slice none 0 0, .slice none 0 0, .slice none 0 0], []⟩).memory Tryd.f12.params.toList Rows.linesPlacesSpec.vars false (#[.slice none 0 0, .slice none 0 0, .slice none 0 0] : Array Value).toList 8 = some ([.nil, .nil, .nil], [], places) :=
  ⟨[], by kernel_rfl⟩
set_option maxRecDepth 100000 in
theorem lpl_lifted (os : Os) (started : os.Started) (H : Type) (enc : TypeId × Value → H) (F : Stop.Interp) :
    ReturnsInHanded {} Tryd.checked os 12 .any ((OpenSpec.ofChange Rows.linesPlacesSpec).preRow enc Tryd.prog Tryd.f12 Rows.linesPlacesRow.domain false Rows.linesPlacesRow.laid) (((OpenSpec.ofChange Rows.linesPlacesSpec).at F).post enc Tryd.prog Tryd.f12 false true false false) := by
  obtain ⟨places, hx⟩ := lpl_reads os enc
  refine returnsInHanded_of_row (C := Tryd.checked) (s := OpenSpec.ofChange Rows.linesPlacesSpec) own started (by kernel_rfl) Tryd.func12
    (witness_row_atRef (enc := enc) (C := Tryd.checked) false (World.doorLaid Tryd.prog 275 os) #[.slice none 0 0, .slice none 0 0, .slice none 0 0] rfl (by kernel_rfl) (by kernel_rfl) (by kernel_rfl)
      (OpenSpec.preRow_of_cond 8 hx (by kernel_rfl) (fun k hk => by cases hk) (by kernel_rfl) (lpl_doorMet os _))) ?_
  intro W base args ds gs before hval hW _ _ _ hL _ _
  exact lpl_contract H enc W base args ds gs before hval hW hL
theorem lpl_said : Rows.LinesPlacesSaid :=
  OpenClaim.holds_of_cond 12 Tryd.f12 rfl rfl rfl rfl rfl rfl rfl ⟨rfl, rfl, rfl, rfl, rfl⟩ rfl rfl rfl rfl rfl (by kernel_rfl) Tryd.func12 (by kernel_rfl)
    (of_decide_eq_true (by kernel_rfl)) (by unfold Func.isWrapper; first | (rw [if_pos (by decide +kernel)]; kernel_rfl) | (rw [if_neg (by decide +kernel)]; exact ⟨rfl, rfl⟩))
    (fun os started H enc _ F => by rw [OpenClaim.pre_eq_preRow]; exact lpl_lifted os started H enc F)
theorem lpl_plain (f : FuncId) (fn : Func) (hf : Tryd.pinned.checked.prog.funcNamed "barrow/barrowlaw06.LinesPlaces" = some f) (hfn : Tryd.pinned.checked.prog.funcs[f]? = some fn) :
    true = Tryd.pinned.checked.prog.looks [] ∧ ∀ (j : Nat) t, fn.params[j]? = some t → Tryd.pinned.checked.prog.wantsStandIn t = false := by
  obtain rfl : f = 12 := Option.some.inj ((show Tryd.prog.funcNamed "barrow/barrowlaw06.LinesPlaces" = some 12 by kernel_rfl).symm.trans hf) |>.symm
  obtain rfl : fn = Tryd.f12 := (Option.some.inj (Tryd.func12.symm.trans hfn)).symm
  refine ⟨by kernel_rfl, fun j t ht => ?_⟩
  rw [Tryd.params12] at ht
  have hm : t ∈ ([94, 95, 103] : List TypeId) := by simpa using Array.mem_of_getElem? ht
  have hall : (([94, 95, 103] : List TypeId).all fun u => !Tryd.prog.wantsStandIn u) = true := by kernel_rfl
  exact (show Tryd.prog.wantsStandIn t = false by simpa using List.all_eq_true.1 hall t hm)
theorem linesPlaces_card : Rows.LinesPlacesCardSaid :=
  Claim7.holds_tied_plain_at .later [] _ _ _ _ lpl_said (fun _ h => by cases h) (by kernel_rfl) (fun _ h => by cases h) linesPlaces_row_tie rfl ⟨rfl, rfl⟩ (by kernel_rfl) rfl lpl_plain (by kernel_rfl)
#print axioms linesPlaces_card
end Go.Proofs.YtfihjajllfihjaaDoor
