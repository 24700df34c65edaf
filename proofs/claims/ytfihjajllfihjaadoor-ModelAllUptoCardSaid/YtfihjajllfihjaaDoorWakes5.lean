/- The statements' own wakes of chapter 5. No condition. -/
import Derived.Test.YtfihjajllfihjaaDoorMAsk
import Derived.Test.YtfihjajllfihjaaDoorView
namespace Go.Proofs.YtfihjajllfihjaaDoor
set_option linter.unusedSimpArgs false
set_option linter.unusedVariables false
open Go Go.RowKit
def wk5 : List El := [⟨0, 0, 1, 97, 1⟩, ⟨0, 0, 2, 98, 0⟩]
theorem wk5_row (w : World) : Row (w.alloc (.cells #[.int .i64 0, .int .i64 0, .int .i64 1, .int .i32 97, .int .i64 1, .int .i64 0, .int .i64 0, .int .i64 2, .int .i32 98, .int .i64 0] 42)) (fun _ => True) (some ⟨w.heap.size, 0, none⟩) 2 2 wk5 := Row.lit w _ wk5 2 _ trivial rfl (by decide) rfl
theorem wk5_good : ∀ e ∈ wk5, e.Good := by
  intro e he
  simp only [wk5, List.mem_cons, List.not_mem_nil, or_false] at he
  rcases he with rfl | rfl
  · exact ⟨by decide, by decide, ⟨by decide, by decide⟩, ⟨by decide, by decide⟩, ⟨by decide, by decide⟩⟩
  · exact ⟨by decide, by decide, ⟨by decide, by decide⟩, ⟨by decide, by decide⟩, ⟨by decide, by decide⟩⟩
theorem wk5_view : (viewOf wk5).toArray = #[98] := by decide
theorem wk5_find {m : Nat} {e : El} (h : wk5[m]? = some e) (h1 : e.live = 1) : m = 1 := by
  match m, h with
  | 0, h =>
    have h' : e = ⟨0, 0, 1, 97, 1⟩ := by simpa [wk5] using h.symm
    subst h'
    exact absurd h1 (by decide)
  | 1, _ => rfl
  | n + 2, h => simp [wk5] at h
set_option maxRecDepth 50000 in
set_option maxHeartbeats 2000000 in
theorem wakes5_any (w : World) : Calls Tryd.prog 17 #[] w fun e w' => e = .returned (.bool true) ∧ Below w.heap.size w w' := by
  have e1 : Below w.heap.size w (w.alloc (.cells #[.int .i64 0, .int .i64 0, .int .i64 1, .int .i32 97, .int .i64 1, .int .i64 0, .int .i64 0, .int .i64 2, .int .i32 98, .int .i64 0] 42)) := balloc (Below.refl _ _)
  have HO := hid (mof_ok _ _ 2 2 wk5 _ (wk5_row w) (by decide) wk5_good (by decide))
  go_enter Tryd.func17, Tryd.ntmps17
  repeat' (first | (go_at_call 70; go_must ((with_reducible refine Calls.mono HO.out ?_); rintro _ w1 ⟨mb, rfl, hM, hb1⟩; have hbb1 := bvia e1 hb1; have HF := hid (mmodelof_ok w1 _ mb wk5 2 0 hM (by decide) (by decide)); have HV := hid (fun W (hb : Below w1.heap.size w1 W) => view_any W _ mb wk5 2 (hM.step hb) (by decide)); have HL := hid (fun W (hb : Below w1.heap.size w1 W) => mlen_any W _ mb wk5 2 (hM.step hb)); rw [wk5_view] at HV; dsimp only)) | (go_at_call 27; go_must ((with_reducible refine Calls.mono HF.out ?_); rintro _ w2 ⟨⟨m, e, rfl, he, hv, -⟩, hb2⟩; obtain rfl := wk5_find he hv; clear he hv; dsimp only)) | (go_at_call 18; go_must ((with_reducible refine Calls.mono (HV.out _ hb2) ?_); rintro _ w3 ⟨rfl, hb3⟩; have hb23 := bvia hb2 hb3; dsimp only)) | (go_at_call 20; go_must ((with_reducible refine Calls.mono (HL.out _ hb23) ?_); rintro _ _ ⟨rfl, rfl⟩; dsimp only)) | (with_reducible refine Keep.last ?_) | (with_reducible refine Keep.below (by assumption) ?_) | (with_reducible refine Keep.kept (by assumption) ?_) | (with_reducible refine Keep.alloc ?_) | (with_reducible refine Keep.same ?_) | ((with_reducible refine WpH.here ?_); first | (refine WpH.nil ?_; refine NoP.normal ?_) | (refine WpH.load (by rfl) (by rfl) (by go_simp; rfl) ?_; simp only [Act.put, List.setIfInBounds_toArray, List.set_cons_zero, List.set_cons_succ]) | (refine WpH.loadT (by rfl) (by rfl) (by go_simp; rfl) (by rintro _ _ ⟨⟩; exact ⟨_, _, _, _, _, _, by rfl, by assumption, by assumption⟩) ?_; simp only [Act.put, List.setIfInBounds_toArray, List.set_cons_zero, List.set_cons_succ]) | (refine WpH.pure (by rfl) (fun w_ => by go_simp; (try go_bits); rfl) ?_; simp only [Act.put, List.setIfInBounds_toArray, List.set_cons_zero, List.set_cons_succ]) | (refine WpH.wild1 (by rfl) (fun _ _ => ?_)) | (refine WpH.skip (by rfl) ?_; simp only [Act.put, List.setIfInBounds_toArray, List.set_cons_zero, List.set_cons_succ])) | go_values | go_skip | go_guarded | go_step | go_upon | go_back)
  skip
  go_ret
  exact ⟨rfl, bvia hbb1 hb23⟩
end Go.Proofs.YtfihjajllfihjaaDoor
