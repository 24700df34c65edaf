/- Operations, transformed: the walks of moves and T, the document's T. Condition: the numbers fit their kinds. -/
import Derived.Test.YtogkbddniacgiaaDoorMap
import Derived.Test.YtogkbddniacgiaaDoorBel
namespace Go.Proofs.YtogkbddniacgiaaDoor
set_option linter.unusedSimpArgs false
set_option linter.unusedVariables false
open Go Go.RowKit

/-- an operation -/
structure Opn where
  kind : Int
  at_ : Int
  char : Int
  rep : Int
deriving DecidableEq
def Opn.agg (o : Opn) : Value := .agg #[.int .i64 o.kind, .int .i64 o.at_, .int .i32 o.char, .int .i64 o.rep]
def I32 (n : Int) : Prop := -2147483648 ≤ n ∧ n ≤ 2147483647
structure Opn.In (o : Opn) : Prop where
  kind : I64 o.kind
  at_ : I64 o.at_
  char : I32 o.char
  rep : I64 o.rep
/-- does b's element come to stand ahead of what a means? -/
def moves (a b : Opn) : Bool :=
  if b.kind ≠ 1 ∨ a.at_ = 9223372036854775807 then false
  else if a.kind = 1 then decide (b.at_ < a.at_ ∨ b.at_ = a.at_ ∧ b.rep ≤ a.rep)
  else if a.kind = 2 ∨ a.kind = 3 then decide (b.at_ ≤ a.at_)
  else false
/-- a behind b -/
def Tof (a b : Opn) : Opn := if moves a b then { a with at_ := a.at_ + 1 } else a
set_option maxRecDepth 20000 in
set_option maxHeartbeats 1000000 in
theorem moves_any (a b : Opn) (w : World) : Calls Tryd.prog 84 #[a.agg, b.agg] w fun e w' => e = .returned (.bool (moves a b)) ∧ Below w.heap.size w w' := by
  unfold Opn.agg
  go_enter Tryd.func84, Tryd.ntmps84
  repeat' (first | (with_reducible refine Keep.last ?_) | (with_reducible refine Keep.below (by assumption) ?_) | (with_reducible refine Keep.kept (by assumption) ?_) | (with_reducible refine Keep.alloc ?_) | (with_reducible refine Keep.same ?_) | ((with_reducible refine WpH.here ?_); first | (refine WpH.nil ?_; refine NoP.normal ?_) | (refine WpH.load (by rfl) (by rfl) (by go_simp; rfl) ?_; simp only [Act.put, List.setIfInBounds_toArray, List.set_cons_zero, List.set_cons_succ]) | (refine WpH.loadT (by rfl) (by rfl) (by go_simp; rfl) (by rintro _ _ ⟨⟩; exact ⟨_, _, _, _, _, _, by rfl, by assumption, by assumption⟩) ?_; simp only [Act.put, List.setIfInBounds_toArray, List.set_cons_zero, List.set_cons_succ]) | (refine WpH.pure (by rfl) (fun w_ => by go_simp; (try go_bits); rfl) ?_; simp only [Act.put, List.setIfInBounds_toArray, List.set_cons_zero, List.set_cons_succ]) | (refine WpH.wild1 (by rfl) (fun _ _ => ?_)) | (refine WpH.skip (by rfl) ?_; simp only [Act.put, List.setIfInBounds_toArray, List.set_cons_zero, List.set_cons_succ])) | go_values | go_skip | go_guarded | go_step | go_upon | go_back)
  all_goals
    go_ret
    refine ⟨congrArg (fun x => Ending.returned (.bool x)) ?_, ((Below.refl _ _).alloc (Nat.le_refl _) _).alloc (by simp) _⟩
    try simp only [beq_iff_eq, beq_eq_false_iff_ne, ne_eq] at *
    unfold moves
    first
      | (simp_all; done)
      | (simp_all; omega)
      | (go_goals; fail)
theorem moves_max {a b : Opn} (h : moves a b = true) : a.at_ ≠ 9223372036854775807 := by
  intro e
  unfold moves at h
  rw [if_pos (.inr e)] at h
  cases h
/-- three boxes of operations: two that come in, one that goes out -/
def opCells (a : Opn) : Array Value := #[.int .i64 a.kind, .int .i64 a.at_, .int .i32 a.char, .int .i64 a.rep]
theorem three_boxes (w : World) (t : TypeId) (x y z : Array Value) : let W := ((w.alloc (.cells x t)).alloc (.cells y t)).alloc (.cells z t)
    Blk W w.heap.size t x ∧ Blk W (w.heap.size + 1) t y ∧ Blk W (w.heap.size + 1 + 1) t z ∧ Below w.heap.size w W := by
  intro W
  have s1 : (w.alloc (.cells x t)).heap.size = w.heap.size + 1 := Array.size_push _
  have s2 : ((w.alloc (.cells x t)).alloc (.cells y t)).heap.size = w.heap.size + 1 + 1 := by rw [← s1]; exact Array.size_push _
  refine ⟨((Blk.new w t x).alloc _).alloc _, ?_, ?_, (((Below.refl _ _).alloc (Nat.le_refl _) _).alloc (by omega) _).alloc (by omega) _⟩
  · have := (Blk.new (w.alloc (.cells x t)) t y).alloc (.cells z t)
    rw [s1] at this
    exact this
  · have := Blk.new ((w.alloc (.cells x t)).alloc (.cells y t)) t z
    rw [s2] at this
    exact this
set_option maxRecDepth 20000 in
set_option maxHeartbeats 1000000 in
theorem T_any (a b : Opn) (w : World) (ha : a.In) : Calls Tryd.prog 30 #[a.agg, b.agg] w fun e w' => e = .returned (Tof a b).agg ∧ Below w.heap.size w w' := by
  obtain ⟨hA, hB, hZ, hW⟩ := three_boxes w 58 (opCells a) (opCells b) #[.int .i64 0, .int .i64 0, .int .i32 0, .int .i64 0]
  have HM := hid (fun W => moves_any a b W)
  unfold Opn.agg at HM ⊢
  unfold opCells at hA hB hW hZ
  have h1 := ha.at_.1
  have h2 := ha.at_.2
  have hs := hW.size
  by_cases hm : moves a b = true
  · have h3 := moves_max hm
    have h4 : a.at_ + 1 ≤ 9223372036854775807 := by omega
    rw [hm] at HM
    clear h3
    go_enter Tryd.func30, Tryd.ntmps30
    repeat' (first | (go_at_call 84; go_must ((with_reducible refine Calls.mono (HM.out _) ?_); rintro _ W1 ⟨rfl, hb1⟩; have hA1 := hA.step hb1; have hZ1 := hZ.step hb1; obtain ⟨a0, a1, a2, a3, f0, f1, f2, f3, fl⟩ := hA1.four; obtain ⟨z0, z1, z2, z3, g0, g1, g2, g3, gl⟩ := hZ1.four; dsimp only)) | (with_reducible refine Keep.last ?_) | (with_reducible refine Keep.below (by assumption) ?_) | (with_reducible refine Keep.kept (by assumption) ?_) | (with_reducible refine Keep.alloc ?_) | (with_reducible refine Keep.same ?_) | ((with_reducible refine WpH.here ?_); first | (refine WpH.nil ?_; refine NoP.normal ?_) | (refine WpH.load (by rfl) (by rfl) (by go_simp; rfl) ?_; simp only [Act.put, List.setIfInBounds_toArray, List.set_cons_zero, List.set_cons_succ]) | (refine WpH.loadT (by rfl) (by rfl) (by go_simp; rfl) (by rintro _ _ ⟨⟩; exact ⟨_, _, _, _, _, _, by rfl, by assumption, by assumption⟩) ?_; simp only [Act.put, List.setIfInBounds_toArray, List.set_cons_zero, List.set_cons_succ]) | (refine WpH.pure (by rfl) (fun w_ => by go_simp; (try go_bits); rfl) ?_; simp only [Act.put, List.setIfInBounds_toArray, List.set_cons_zero, List.set_cons_succ]) | (refine WpH.wild1 (by rfl) (fun _ _ => ?_)) | (refine WpH.skip (by rfl) ?_; simp only [Act.put, List.setIfInBounds_toArray, List.set_cons_zero, List.set_cons_succ])) | go_values | go_skip | go_guarded | go_step | go_upon | go_back)
    have hbb := hW.trans (hb1.mono hs)
    refine bodyPost_ret (v := .agg #[.int .i64 a.kind, .int .i64 (a.at_ + 1), .int .i32 a.char, .int .i64 a.rep]) (by simp [results, Tryd.results30, go_sem, z0, z1, z2, z3]) rfl ⟨by simp [Tof, hm], ?_⟩
    (repeat (refine Below.setCell ?_ (by first | exact Nat.le_refl _ | exact Nat.le_succ _ | exact Nat.le_trans (Nat.le_succ _) (Nat.le_succ _)) _)); exact hbb
  · have hm' : moves a b = false := by simpa using hm
    rw [hm'] at HM
    go_enter Tryd.func30, Tryd.ntmps30
    repeat' (first | (go_at_call 84; go_must ((with_reducible refine Calls.mono (HM.out _) ?_); rintro _ W1 ⟨rfl, hb1⟩; have hA1 := hA.step hb1; have hZ1 := hZ.step hb1; obtain ⟨a0, a1, a2, a3, f0, f1, f2, f3, fl⟩ := hA1.four; obtain ⟨z0, z1, z2, z3, g0, g1, g2, g3, gl⟩ := hZ1.four; dsimp only)) | (with_reducible refine Keep.last ?_) | (with_reducible refine Keep.below (by assumption) ?_) | (with_reducible refine Keep.kept (by assumption) ?_) | (with_reducible refine Keep.alloc ?_) | (with_reducible refine Keep.same ?_) | ((with_reducible refine WpH.here ?_); first | (refine WpH.nil ?_; refine NoP.normal ?_) | (refine WpH.load (by rfl) (by rfl) (by go_simp; rfl) ?_; simp only [Act.put, List.setIfInBounds_toArray, List.set_cons_zero, List.set_cons_succ]) | (refine WpH.loadT (by rfl) (by rfl) (by go_simp; rfl) (by rintro _ _ ⟨⟩; exact ⟨_, _, _, _, _, _, by rfl, by assumption, by assumption⟩) ?_; simp only [Act.put, List.setIfInBounds_toArray, List.set_cons_zero, List.set_cons_succ]) | (refine WpH.pure (by rfl) (fun w_ => by go_simp; (try go_bits); rfl) ?_; simp only [Act.put, List.setIfInBounds_toArray, List.set_cons_zero, List.set_cons_succ]) | (refine WpH.wild1 (by rfl) (fun _ _ => ?_)) | (refine WpH.skip (by rfl) ?_; simp only [Act.put, List.setIfInBounds_toArray, List.set_cons_zero, List.set_cons_succ])) | go_values | go_skip | go_guarded | go_step | go_upon | go_back)
    have hbb := hW.trans (hb1.mono hs)
    refine bodyPost_ret (v := .agg #[.int .i64 a.kind, .int .i64 a.at_, .int .i32 a.char, .int .i64 a.rep]) (by simp [results, Tryd.results30, go_sem, z0, z1, z2, z3]) rfl ⟨by simp [Tof, hm], ?_⟩
    (repeat (refine Below.setCell ?_ (by first | exact Nat.le_refl _ | exact Nat.le_succ _ | exact Nat.le_trans (Nat.le_succ _) (Nat.le_succ _)) _)); exact hbb
set_option maxRecDepth 20000 in
set_option maxHeartbeats 2000000 in
theorem refT_any (a b : Opn) (w : World) (ha : a.In) : Calls Tryd.prog 31 #[a.agg, b.agg] w fun e w' => e = .returned (Tof a b).agg ∧ Below w.heap.size w w' := by
  obtain ⟨hA, hB, hZ, hW⟩ := three_boxes w 58 (opCells a) (opCells b) #[.int .i64 0, .int .i64 0, .int .i32 0, .int .i64 0]
  unfold Opn.agg
  unfold opCells at hA hB hW hZ
  have h1 := ha.at_.1
  have h2 := ha.at_.2
  have HW := hid hW
  have HT : Hid (∀ X, moves a b = X → Tof a b = if X then { a with at_ := a.at_ + 1 } else a) := hid (fun X h => by rw [← h]; rfl)
  clear hA hB hZ hW
  have hmx : a.at_ < 9223372036854775807 ∨ a.at_ = 9223372036854775807 := by omega
  rcases hmx with hmx | hmx
  · have h4 : a.at_ + 1 ≤ 9223372036854775807 := by omega
    go_enter Tryd.func31, Tryd.ntmps31
    repeat' (first | (with_reducible refine Keep.last ?_) | (with_reducible refine Keep.below (by assumption) ?_) | (with_reducible refine Keep.kept (by assumption) ?_) | (with_reducible refine Keep.alloc ?_) | (with_reducible refine Keep.same ?_) | ((with_reducible refine WpH.here ?_); first | (refine WpH.nil ?_; refine NoP.normal ?_) | (refine WpH.load (by rfl) (by rfl) (by go_simp; rfl) ?_; simp only [Act.put, List.setIfInBounds_toArray, List.set_cons_zero, List.set_cons_succ]) | (refine WpH.loadT (by rfl) (by rfl) (by go_simp; rfl) (by rintro _ _ ⟨⟩; exact ⟨_, _, _, _, _, _, by rfl, by assumption, by assumption⟩) ?_; simp only [Act.put, List.setIfInBounds_toArray, List.set_cons_zero, List.set_cons_succ]) | (refine WpH.pure (by rfl) (fun w_ => by go_simp; (try go_bits); rfl) ?_; simp only [Act.put, List.setIfInBounds_toArray, List.set_cons_zero, List.set_cons_succ]) | (refine WpH.wild1 (by rfl) (fun _ _ => ?_)) | (refine WpH.skip (by rfl) ?_; simp only [Act.put, List.setIfInBounds_toArray, List.set_cons_zero, List.set_cons_succ])) | go_values | go_skip | go_guarded | go_step | go_upon | go_back)
    all_goals
      first
      | (refine bodyPost_ret (v := .agg #[.int .i64 a.kind, .int .i64 (a.at_ + 1), .int .i32 a.char, .int .i64 a.rep]) (by simp [results, Tryd.results31, go_sem]) rfl ⟨?_, ?_⟩
         · have hm : moves a b = true := by
             unfold moves
             try simp only [beq_iff_eq, beq_eq_false_iff_ne, ne_eq] at *
             first | (simp_all; done) | (simp_all; omega)
           simp [Tof, hm])
      | (refine bodyPost_ret (v := .agg #[.int .i64 a.kind, .int .i64 a.at_, .int .i32 a.char, .int .i64 a.rep]) (by simp [results, Tryd.results31, go_sem]) rfl ⟨?_, ?_⟩
         · have hm : moves a b = false := by
             unfold moves
             try simp only [beq_iff_eq, beq_eq_false_iff_ne, ne_eq] at *
             first | (simp_all; done) | (simp_all; omega)
           simp [Tof, hm])
      | (go_goals; fail)
      repeat (refine Below.setCell ?_ (by first | exact Nat.le_refl _ | exact Nat.le_succ _ | exact Nat.le_trans (Nat.le_succ _) (Nat.le_succ _)) _)
      exact (((Below.refl _ _).alloc (Nat.le_refl _) _).alloc (by simp) _).alloc (by simp; omega) _
  · clear HT HW h1 h2 ha
    have hm : moves a b = false := by
      unfold moves
      rw [if_pos (.inr hmx)]
    have hT : Tof a b = a := by simp [Tof, hm]
    rw [hT]
    clear hT hm
    obtain ⟨k, t, c, r⟩ := a
    simp only at hmx ⊢
    subst hmx
    go_enter Tryd.func31, Tryd.ntmps31
    repeat' (first | (with_reducible refine Keep.last ?_) | (with_reducible refine Keep.below (by assumption) ?_) | (with_reducible refine Keep.kept (by assumption) ?_) | (with_reducible refine Keep.alloc ?_) | (with_reducible refine Keep.same ?_) | ((with_reducible refine WpH.here ?_); first | (refine WpH.nil ?_; refine NoP.normal ?_) | (refine WpH.load (by rfl) (by rfl) (by go_simp; rfl) ?_; simp only [Act.put, List.setIfInBounds_toArray, List.set_cons_zero, List.set_cons_succ]) | (refine WpH.loadT (by rfl) (by rfl) (by go_simp; rfl) (by rintro _ _ ⟨⟩; exact ⟨_, _, _, _, _, _, by rfl, by assumption, by assumption⟩) ?_; simp only [Act.put, List.setIfInBounds_toArray, List.set_cons_zero, List.set_cons_succ]) | (refine WpH.pure (by rfl) (fun w_ => by go_simp; (try go_bits); rfl) ?_; simp only [Act.put, List.setIfInBounds_toArray, List.set_cons_zero, List.set_cons_succ]) | (refine WpH.wild1 (by rfl) (fun _ _ => ?_)) | (refine WpH.skip (by rfl) ?_; simp only [Act.put, List.setIfInBounds_toArray, List.set_cons_zero, List.set_cons_succ])) | go_values | go_skip | go_guarded | go_step | go_upon | go_back)
    all_goals
      refine bodyPost_ret (v := .agg #[.int .i64 k, .int .i64 9223372036854775807, .int .i32 c, .int .i64 r]) (by simp [results, Tryd.results31, go_sem]) rfl ⟨rfl, ?_⟩
      repeat (refine Below.setCell ?_ (by first | exact Nat.le_refl _ | exact Nat.le_succ _ | exact Nat.le_trans (Nat.le_succ _) (Nat.le_succ _)) _)
      exact (((Below.refl _ _).alloc (Nat.le_refl _) _).alloc (by simp) _).alloc (by simp; omega) _
end Go.Proofs.YtogkbddniacgiaaDoor
