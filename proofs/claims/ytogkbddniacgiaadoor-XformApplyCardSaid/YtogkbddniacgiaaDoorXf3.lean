/- The document's Right, Valid; both Inverses. Condition: the numbers fit their kinds. -/
import Derived.Test.YtogkbddniacgiaaDoorDone7
namespace Go.Proofs.YtogkbddniacgiaaDoor
set_option linter.unusedSimpArgs false
set_option linter.unusedVariables false
open Go Go.RowKit
set_option maxHeartbeats 1000000 in
theorem ref5Right_any (c : Int) (w : World) : Calls Tryd.prog 85 #[.int .i32 c] w fun e w' => e = .returned (.bool (rightC c)) ∧ w = w' := by
  go_enter Tryd.func85, Tryd.ntmps85
  repeat' (first | (with_reducible refine Keep.last ?_) | (with_reducible refine Keep.below (by assumption) ?_) | (with_reducible refine Keep.kept (by assumption) ?_) | (with_reducible refine Keep.alloc ?_) | (with_reducible refine Keep.same ?_) | ((with_reducible refine WpH.here ?_); first | (refine WpH.nil ?_; refine NoP.normal ?_) | (refine WpH.load (by rfl) (by rfl) (by go_simp; rfl) ?_; simp only [Act.put, List.setIfInBounds_toArray, List.set_cons_zero, List.set_cons_succ]) | (refine WpH.loadT (by rfl) (by rfl) (by go_simp; rfl) (by rintro _ _ ⟨⟩; exact ⟨_, _, _, _, _, _, by rfl, by assumption, by assumption⟩) ?_; simp only [Act.put, List.setIfInBounds_toArray, List.set_cons_zero, List.set_cons_succ]) | (refine WpH.pure (by rfl) (fun w_ => by go_simp; (try go_bits); rfl) ?_; simp only [Act.put, List.setIfInBounds_toArray, List.set_cons_zero, List.set_cons_succ]) | (refine WpH.wild1 (by rfl) (fun _ _ => ?_)) | (refine WpH.skip (by rfl) ?_; simp only [Act.put, List.setIfInBounds_toArray, List.set_cons_zero, List.set_cons_succ])) | go_values | go_skip | go_guarded | go_step | go_upon | go_back)
  all_goals
    go_ret
    refine ⟨congrArg (fun x => Ending.returned (.bool x)) ?_, rfl⟩
    try simp only [beq_iff_eq, beq_eq_false_iff_ne, ne_eq] at *
    unfold rightC
    first
      | (simp_all; done)
      | (simp_all; omega)
      | (rw [Bool.eq_iff_iff]; simp_all; done)
      | (rw [Bool.eq_iff_iff]; simp_all; omega)
      | (go_goals; fail)
set_option maxRecDepth 20000 in
set_option maxHeartbeats 1000000 in
theorem refRightOp_any (o : Opn) (w : World) : Calls Tryd.prog 40 #[o.agg] w fun e w' => e = .returned (.bool (rightOp o)) ∧ Below w.heap.size w w' := by
  have HR := hid (fun W => ref5Right_any o.char W)
  unfold Opn.agg
  go_enter Tryd.func40, Tryd.ntmps40
  repeat' (first | (go_at_call 85; go_must ((with_reducible refine Calls.mono (HR.out _) ?_); rintro _ w1 ⟨rfl, rfl⟩; dsimp only)) | (with_reducible refine Keep.last ?_) | (with_reducible refine Keep.below (by assumption) ?_) | (with_reducible refine Keep.kept (by assumption) ?_) | (with_reducible refine Keep.alloc ?_) | (with_reducible refine Keep.same ?_) | ((with_reducible refine WpH.here ?_); first | (refine WpH.nil ?_; refine NoP.normal ?_) | (refine WpH.load (by rfl) (by rfl) (by go_simp; rfl) ?_; simp only [Act.put, List.setIfInBounds_toArray, List.set_cons_zero, List.set_cons_succ]) | (refine WpH.loadT (by rfl) (by rfl) (by go_simp; rfl) (by rintro _ _ ⟨⟩; exact ⟨_, _, _, _, _, _, by rfl, by assumption, by assumption⟩) ?_; simp only [Act.put, List.setIfInBounds_toArray, List.set_cons_zero, List.set_cons_succ]) | (refine WpH.pure (by rfl) (fun w_ => by go_simp; (try go_bits); rfl) ?_; simp only [Act.put, List.setIfInBounds_toArray, List.set_cons_zero, List.set_cons_succ]) | (refine WpH.wild1 (by rfl) (fun _ _ => ?_)) | (refine WpH.skip (by rfl) ?_; simp only [Act.put, List.setIfInBounds_toArray, List.set_cons_zero, List.set_cons_succ])) | go_values | go_skip | go_guarded | go_step | go_upon | go_back)
  all_goals
    go_ret
    refine ⟨congrArg (fun x => Ending.returned (.bool x)) ?_, (Below.refl _ _).alloc (Nat.le_refl _) _⟩
    clear HR
    try simp only [beq_iff_eq, beq_eq_false_iff_ne, ne_eq] at *
    unfold rightOp
    first
      | (simp_all; done)
      | (simp_all; omega)
      | (rw [Bool.eq_iff_iff]; simp_all; done)
      | (rw [Bool.eq_iff_iff]; simp_all; omega)
      | (go_goals; fail)
set_option maxRecDepth 20000 in
set_option maxHeartbeats 1000000 in
theorem refValidOp_any (o : Opn) (n : Int) (w : World) : Calls Tryd.prog 45 #[o.agg, .int .i64 n] w fun e w' => e = .returned (.bool (validOp o n)) ∧ Below w.heap.size w w' := by
  have HR := hid (fun W => refRightOp_any o W)
  have b1 : Below w.heap.size w (w.alloc (.cells (opCells o) 58)) := (Below.refl _ _).alloc (Nat.le_refl _) _
  have hx := Blk.new w 58 (opCells o)
  unfold opCells at b1 hx
  cases hr : rightOp o
  · rw [hr] at HR
    have hv : validOp o n = false := by unfold validOp; rw [hr]; rfl
    rw [hv]
    clear hv hr
    unfold Opn.agg at HR ⊢
    go_enter Tryd.func45, Tryd.ntmps45
    repeat' (first | (go_at_call 40; go_must ((with_reducible refine Calls.mono (HR.out _) ?_); rintro _ w1 ⟨rfl, hb1⟩; dsimp only)) | (with_reducible refine Keep.last ?_) | (with_reducible refine Keep.below (by assumption) ?_) | (with_reducible refine Keep.kept (by assumption) ?_) | (with_reducible refine Keep.alloc ?_) | (with_reducible refine Keep.same ?_) | ((with_reducible refine WpH.here ?_); first | (refine WpH.nil ?_; refine NoP.normal ?_) | (refine WpH.load (by rfl) (by rfl) (by go_simp; rfl) ?_; simp only [Act.put, List.setIfInBounds_toArray, List.set_cons_zero, List.set_cons_succ]) | (refine WpH.loadT (by rfl) (by rfl) (by go_simp; rfl) (by rintro _ _ ⟨⟩; exact ⟨_, _, _, _, _, _, by rfl, by assumption, by assumption⟩) ?_; simp only [Act.put, List.setIfInBounds_toArray, List.set_cons_zero, List.set_cons_succ]) | (refine WpH.pure (by rfl) (fun w_ => by go_simp; (try go_bits); rfl) ?_; simp only [Act.put, List.setIfInBounds_toArray, List.set_cons_zero, List.set_cons_succ]) | (refine WpH.wild1 (by rfl) (fun _ _ => ?_)) | (refine WpH.skip (by rfl) ?_; simp only [Act.put, List.setIfInBounds_toArray, List.set_cons_zero, List.set_cons_succ])) | go_values | go_skip | go_guarded | go_step | go_upon | go_back)
    go_ret
    exact ⟨rfl, b1.trans (hb1.mono b1.size)⟩
  · rw [hr] at HR
    have hv : validOp o n = decide (0 ≤ o.at_ ∧ (o.at_ < n ∨ o.at_ = n ∧ o.kind = 1)) := by unfold validOp; rw [hr]; rfl
    rw [hv]
    clear hv hr
    unfold Opn.agg at HR ⊢
    go_enter Tryd.func45, Tryd.ntmps45
    repeat' (first | (go_at_call 40; go_must ((with_reducible refine Calls.mono (HR.out _) ?_); rintro _ w1 ⟨rfl, hb1⟩; have hx1 := hx.step hb1; obtain ⟨x0, x1, x2, x3, -, -, -, -, xl⟩ := hx1.four; dsimp only)) | (with_reducible refine Keep.last ?_) | (with_reducible refine Keep.below (by assumption) ?_) | (with_reducible refine Keep.kept (by assumption) ?_) | (with_reducible refine Keep.alloc ?_) | (with_reducible refine Keep.same ?_) | ((with_reducible refine WpH.here ?_); first | (refine WpH.nil ?_; refine NoP.normal ?_) | (refine WpH.load (by rfl) (by rfl) (by go_simp; rfl) ?_; simp only [Act.put, List.setIfInBounds_toArray, List.set_cons_zero, List.set_cons_succ]) | (refine WpH.loadT (by rfl) (by rfl) (by go_simp; rfl) (by rintro _ _ ⟨⟩; exact ⟨_, _, _, _, _, _, by rfl, by assumption, by assumption⟩) ?_; simp only [Act.put, List.setIfInBounds_toArray, List.set_cons_zero, List.set_cons_succ]) | (refine WpH.pure (by rfl) (fun w_ => by go_simp; (try go_bits); rfl) ?_; simp only [Act.put, List.setIfInBounds_toArray, List.set_cons_zero, List.set_cons_succ]) | (refine WpH.wild1 (by rfl) (fun _ _ => ?_)) | (refine WpH.skip (by rfl) ?_; simp only [Act.put, List.setIfInBounds_toArray, List.set_cons_zero, List.set_cons_succ])) | go_values | go_skip | go_guarded | go_step | go_upon | go_back)
    all_goals
      go_ret
      refine ⟨congrArg (fun x => Ending.returned (.bool x)) ?_, b1.trans (hb1.mono b1.size)⟩
      clear HR x0 x1 x2 x3 b1 hx hb1 hx1
      try simp only [beq_iff_eq, beq_eq_false_iff_ne, ne_eq] at *
      first
        | (simp_all; done)
        | (simp_all; omega)
        | (rw [Bool.eq_iff_iff]; simp_all; done)
        | (rw [Bool.eq_iff_iff]; simp_all; omega)
        | (go_goals; fail)
/-- what takes an operation back -/
def invOf (o : Opn) : Opn × Bool := if o.kind = 1 ∨ o.kind = 3 then (⟨2, o.at_, 0, o.rep⟩, true) else if o.kind = 2 then (⟨3, o.at_, 0, o.rep⟩, true) else (⟨0, 0, 0, 0⟩, false)
set_option maxRecDepth 20000 in
set_option maxHeartbeats 1000000 in
theorem inv_any (o : Opn) (w : World) : Calls Tryd.prog 46 #[o.agg] w fun e w' => e = .returned (.tuple #[(invOf o).1.agg, .bool (invOf o).2]) ∧ Below w.heap.size w w' := by
  unfold Opn.agg
  go_enter Tryd.func46, Tryd.ntmps46
  repeat' (first | (with_reducible refine Keep.last ?_) | (with_reducible refine Keep.below (by assumption) ?_) | (with_reducible refine Keep.kept (by assumption) ?_) | (with_reducible refine Keep.alloc ?_) | (with_reducible refine Keep.same ?_) | ((with_reducible refine WpH.here ?_); first | (refine WpH.nil ?_; refine NoP.normal ?_) | (refine WpH.load (by rfl) (by rfl) (by go_simp; rfl) ?_; simp only [Act.put, List.setIfInBounds_toArray, List.set_cons_zero, List.set_cons_succ]) | (refine WpH.loadT (by rfl) (by rfl) (by go_simp; rfl) (by rintro _ _ ⟨⟩; exact ⟨_, _, _, _, _, _, by rfl, by assumption, by assumption⟩) ?_; simp only [Act.put, List.setIfInBounds_toArray, List.set_cons_zero, List.set_cons_succ]) | (refine WpH.pure (by rfl) (fun w_ => by go_simp; (try go_bits); rfl) ?_; simp only [Act.put, List.setIfInBounds_toArray, List.set_cons_zero, List.set_cons_succ]) | (refine WpH.wild1 (by rfl) (fun _ _ => ?_)) | (refine WpH.skip (by rfl) ?_; simp only [Act.put, List.setIfInBounds_toArray, List.set_cons_zero, List.set_cons_succ])) | go_values | go_skip | go_guarded | go_step | go_upon | go_back)
  all_goals
    try simp only [beq_iff_eq, beq_eq_false_iff_ne, ne_eq] at *
    refine bodyPost_ret (v := .tuple #[.agg #[.int .i64 (invOf o).1.kind, .int .i64 (invOf o).1.at_, .int .i32 (invOf o).1.char, .int .i64 (invOf o).1.rep], .bool (invOf o).2]) ?_ rfl ⟨rfl, ?_⟩
    · first
      | (simp [results, Tryd.results46, go_sem, invOf, *]; done)
      | (simp_all [results, Tryd.results46, go_sem, invOf]; done)
      | (go_goals; fail)
    · repeat (refine Below.setCell ?_ (by first | exact Nat.le_refl _ | exact Nat.le_succ _ | exact Nat.le_trans (Nat.le_succ _) (Nat.le_succ _)) _)
      exact ((Below.refl _ _).alloc (Nat.le_refl _) _).alloc (by simp) _
set_option maxRecDepth 20000 in
set_option maxHeartbeats 1000000 in
theorem refInv_any (o : Opn) (w : World) : Calls Tryd.prog 47 #[o.agg] w fun e w' => e = .returned (.tuple #[(invOf o).1.agg, .bool (invOf o).2]) ∧ Below w.heap.size w w' := by
  unfold Opn.agg
  go_enter Tryd.func47, Tryd.ntmps47
  repeat' (first | (with_reducible refine Keep.last ?_) | (with_reducible refine Keep.below (by assumption) ?_) | (with_reducible refine Keep.kept (by assumption) ?_) | (with_reducible refine Keep.alloc ?_) | (with_reducible refine Keep.same ?_) | ((with_reducible refine WpH.here ?_); first | (refine WpH.nil ?_; refine NoP.normal ?_) | (refine WpH.load (by rfl) (by rfl) (by go_simp; rfl) ?_; simp only [Act.put, List.setIfInBounds_toArray, List.set_cons_zero, List.set_cons_succ]) | (refine WpH.loadT (by rfl) (by rfl) (by go_simp; rfl) (by rintro _ _ ⟨⟩; exact ⟨_, _, _, _, _, _, by rfl, by assumption, by assumption⟩) ?_; simp only [Act.put, List.setIfInBounds_toArray, List.set_cons_zero, List.set_cons_succ]) | (refine WpH.pure (by rfl) (fun w_ => by go_simp; (try go_bits); rfl) ?_; simp only [Act.put, List.setIfInBounds_toArray, List.set_cons_zero, List.set_cons_succ]) | (refine WpH.wild1 (by rfl) (fun _ _ => ?_)) | (refine WpH.skip (by rfl) ?_; simp only [Act.put, List.setIfInBounds_toArray, List.set_cons_zero, List.set_cons_succ])) | go_values | go_skip | go_guarded | go_step | go_upon | go_back)
  all_goals
    try simp only [beq_iff_eq, beq_eq_false_iff_ne, ne_eq] at *
    refine bodyPost_ret (v := .tuple #[.agg #[.int .i64 (invOf o).1.kind, .int .i64 (invOf o).1.at_, .int .i32 (invOf o).1.char, .int .i64 (invOf o).1.rep], .bool (invOf o).2]) ?_ rfl ⟨rfl, ?_⟩
    · first
      | (simp [results, Tryd.results47, go_sem, invOf, *]; done)
      | (simp_all [results, Tryd.results47, go_sem, invOf]; done)
      | (go_goals; fail)
    · repeat (refine Below.setCell ?_ (by first | exact Nat.le_refl _ | exact Nat.le_succ _ | exact Nat.le_trans (Nat.le_succ _) (Nat.le_succ _)) _)
      exact ((Below.refl _ _).alloc (Nat.le_refl _) _).alloc (by simp) _
end Go.Proofs.YtogkbddniacgiaaDoor
