/- The waking example of chapter 7 is true, over any memory. No condition. -/
import Derived.Test.YtogkbddniacgiaaDoorDone7
namespace Go.Proofs.YtogkbddniacgiaaDoor
set_option linter.unusedSimpArgs false
set_option linter.unusedVariables false
open Go Go.RowKit
instance (n : Int) : Decidable (I64 n) := by unfold I64; infer_instance
instance (n : Int) : Decidable (I32 n) := by unfold I32; infer_instance
instance (n : Nm) : Decidable n.In := by unfold Nm.In; infer_instance
@[go_sem] theorem field_op0 (x0 x1 x2 x3 : Value) (w : World) : (Instr.field 58 (.agg #[x0, x1, x2, x3]) 0).run Tryd.prog w = .ok x0 w := by kernel_rfl
@[go_sem] theorem field_op1 (x0 x1 x2 x3 : Value) (w : World) : (Instr.field 58 (.agg #[x0, x1, x2, x3]) 1).run Tryd.prog w = .ok x1 w := by kernel_rfl
@[go_sem] theorem field_op2 (x0 x1 x2 x3 : Value) (w : World) : (Instr.field 58 (.agg #[x0, x1, x2, x3]) 2).run Tryd.prog w = .ok x2 w := by kernel_rfl
@[go_sem] theorem field_op3 (x0 x1 x2 x3 : Value) (w : World) : (Instr.field 58 (.agg #[x0, x1, x2, x3]) 3).run Tryd.prog w = .ok x3 w := by kernel_rfl
def opA : Opn := ⟨1, 0, 97, 1⟩
def opB : Opn := ⟨1, 0, 98, 2⟩
def wakeRow : List El := [insEl (Opn.nm opA) 97, insEl (Opn.nm opB) 98]
theorem Own.cell0 {w : World} {base : Nat} {A : Option Addr} {n c : Nat} {e : El} {es : List El} (h : Own w base A n c (e :: es)) : ∃ g, A = some ⟨g, 0, none⟩ ∧ base ≤ g ∧ g < w.heap.size ∧ w.cell? ⟨g, 3, none⟩ = some (.int .i32 e.char) := by
  obtain ⟨b, off, rfl, _, hcell⟩ := ((h.row (S := fun _ => True) fun _ _ _ => trivial).2.2.2 (by have := h.1; simp at this; omega))
  obtain ⟨g, hg⟩ := h.head
  have hb := h.block _ rfl
  injection hg with h1 h2
  subst h1 h2
  refine ⟨b, rfl, hb.1, hb.2, ?_⟩
  have := hcell 3 (.int .i32 e.char) rfl
  simpa using this
theorem wake_done (w : World) : Calls Tryd.prog 36 #[.slice none 0 0, .slice (some ⟨w.heap.size, 0, none⟩) 2 2] (w.alloc (.cells #[.int .i64 1, .int .i64 0, .int .i32 98, .int .i64 2, .int .i64 1, .int .i64 0, .int .i32 97, .int .i64 1] 58)) fun r w' => ∃ g c', r = .returned (.tuple #[.slice (some ⟨g, 0, none⟩) 2 c', .bool true]) ∧ w.heap.size ≤ g ∧ g < w'.heap.size ∧ w'.cell? ⟨g, 3, none⟩ = some (.int .i32 97) ∧ Below w.heap.size w w' ∧ Below (w.heap.size + 1) (w.alloc (.cells #[.int .i64 1, .int .i64 0, .int .i32 98, .int .i64 2, .int .i64 1, .int .i64 0, .int .i32 97, .int .i64 1] 58)) w' := by
  have hrow : GRow (w.alloc (.cells #[.int .i64 1, .int .i64 0, .int .i32 98, .int .i64 2, .int .i64 1, .int .i64 0, .int .i32 97, .int .i64 1] 58)) (fun _ => True) (some ⟨w.heap.size, 0, none⟩) 2 2 [opB, opA] := (GOwn.lit (t := 58) w #[.int .i64 1, .int .i64 0, .int .i32 98, .int .i64 2, .int .i64 1, .int .i64 0, .int .i32 97, .int .i64 1] [opB, opA] 0 (Nat.zero_le _) (by show 2 ≤ maxLen; decide) rfl).row fun _ _ _ => trivial
  have hb : Below w.heap.size w (w.alloc (.cells #[.int .i64 1, .int .i64 0, .int .i32 98, .int .i64 2, .int .i64 1, .int .i64 0, .int .i32 97, .int .i64 1] 58)) := (Below.refl _ _).alloc (Nat.le_refl _) _
  refine (done_ok _ none (some ⟨w.heap.size, 0, none⟩) 0 0 2 2 [] [opB, opA] (fun _ => True) (fun _ => True) (Row.nil _ _ _ _ (Nat.zero_le _)) hrow (by omega) (by omega) (fun e he => by cases he) List.nodup_nil ⟨⟨by decide, fun _ => ⟨by decide, by simp⟩, fun h => absurd rfl h⟩, ⟨by decide, fun _ => ⟨by decide, by decide⟩, fun h => absurd rfl h⟩, trivial⟩).mono ?_
  rintro _ w' ⟨A', c', rfl, ho, hbb⟩
  obtain ⟨g, rfl, h1, h2, h3⟩ := ho.cell0
  have h4 := hb.size
  exact ⟨g, c', rfl, by omega, h2, h3, hb.trans (hbb.mono hb.size), by simpa using hbb⟩
theorem two_size (w : World) (t : TypeId) (x y : Array Value) : ((w.alloc (.cells x t)).alloc (.cells y t)).heap.size = w.heap.size + 1 + 1 := by
  have s1 : (w.alloc (.cells x t)).heap.size = w.heap.size + 1 := Array.size_push _
  rw [← s1]
  exact Array.size_push _
theorem two_boxes (w : World) (t : TypeId) (x y : Array Value) : let W := (w.alloc (.cells x t)).alloc (.cells y t)
    Blk W w.heap.size t x ∧ Blk W (w.heap.size + 1) t y ∧ Below w.heap.size w W := by
  intro W
  have s1 : (w.alloc (.cells x t)).heap.size = w.heap.size + 1 := Array.size_push _
  refine ⟨(Blk.new w t x).alloc _, ?_, ((Below.refl _ _).alloc (Nat.le_refl _) _).alloc (by omega) _⟩
  have := Blk.new (w.alloc (.cells x t)) t y
  rw [s1] at this
  exact this
set_option maxRecDepth 50000 in
set_option maxHeartbeats 2000000 in
theorem wakes7_any (w : World) : Calls Tryd.prog 32 #[] w fun r w' => r = .returned (.bool true) ∧ Below w.heap.size w w' := by
  have HT := hid (fun W => T_any opA opB W (by unfold opA; exact ⟨by decide, by decide, by decide, by decide⟩))
  have HT2 := hid (fun W => T_any opB opA W (by unfold opB; exact ⟨by decide, by decide, by decide, by decide⟩))
  rw [show Tof opA opB = opA from by decide] at HT
  rw [show Tof opB opA = ⟨1, 1, 98, 2⟩ from by decide] at HT2
  simp only [Opn.agg, opA, opB] at HT HT2
  have HD := hid wake_done
  obtain ⟨hA, hB, hW⟩ := two_boxes w 58 (opCells opA) (opCells opB)
  simp only [opCells, opA, opB] at hA hB hW
  have lA : w.heap.size < w.heap.size + 1 + 1 := by omega
  have lB : w.heap.size + 1 < w.heap.size + 1 + 1 := by omega
  have zA := hA
  unfold Blk at zA
  have zB := hB
  unfold Blk at zB
  have sW := hW.size
  have eW := two_size w 58 (opCells opA) (opCells opB)
  simp only [opCells, opA, opB] at eW
  go_enter Tryd.func32, Tryd.ntmps32
  repeat' (first | ((with_reducible refine region_at 3 ?_); refine wp_region_orderT (fun b => b < w.heap.size + 1 + 1) [(0, true, false), (1, true, false), (2, true, false), (3, false, false), (4, false, false), (5, false, false), (6, true, false), (7, true, false), (8, true, false), (9, true, false), (10, true, false)] (by kernel_rfl) (by kernel_rfl) (by kernel_rfl) rfl rfl ?_) | (go_at_call 30; go_must (first | ((with_reducible refine Calls.mono (HT.out _) ?_); rintro _ w1 ⟨rfl, hb1⟩; have hbb := undrew hb1; have hk1 : KeepT (fun b => b < w.heap.size + 1 + 1) _ w1 := ⟨hbb.size, fun b _ hb => hbb.block b (by rw [eW]; exact hb)⟩; dsimp only) | ((with_reducible refine Calls.mono (HT2.out _) ?_); rintro _ w4 ⟨rfl, hb4⟩; dsimp only))) | (go_at_call 36; go_must ((with_reducible refine Calls.mono (HD.out _) ?_); rintro _ w3 ⟨g, c', rfl, hg1, hg2, hg3, hb3, hb5⟩; have hb2 := hbb.trans (hb3.mono hbb.size); have hk3 : KeepT (fun b => b < w.heap.size + 1 + 1) _ w3 := ⟨hb5.size, fun b _ hb => hb5.block b (by have := hbb.size; rw [eW] at this; omega)⟩; obtain ⟨a0, a1, a2, a3, -, -, -, -, al⟩ := (hA.step hb2).four; obtain ⟨z0, z1, z2, z3, -, -, -, -, zl⟩ := (hB.step hb2).four; dsimp only)) | (with_reducible refine Keep.last ?_) | (with_reducible refine Keep.below (by assumption) ?_) | (with_reducible refine Keep.kept (by assumption) ?_) | (with_reducible refine Keep.alloc ?_) | (with_reducible refine Keep.same ?_) | ((with_reducible refine WpH.here ?_); first | (refine WpH.nil ?_; refine NoP.normal ?_) | (refine WpH.load (by rfl) (by rfl) (by go_simp; rfl) ?_; simp only [Act.put, List.setIfInBounds_toArray, List.set_cons_zero, List.set_cons_succ]) | (refine WpH.loadT (by rfl) (by rfl) (by go_simp; rfl) (by rintro _ _ ⟨⟩; exact ⟨_, _, _, _, _, _, by rfl, by assumption, by assumption⟩) ?_; simp only [Act.put, List.setIfInBounds_toArray, List.set_cons_zero, List.set_cons_succ]) | (refine WpH.pure (by rfl) (fun w_ => by go_simp; (try go_bits); rfl) ?_; simp only [Act.put, List.setIfInBounds_toArray, List.set_cons_zero, List.set_cons_succ]) | (refine WpH.wild1 (by rfl) (fun _ _ => ?_)) | (refine WpH.skip (by rfl) ?_; simp only [Act.put, List.setIfInBounds_toArray, List.set_cons_zero, List.set_cons_succ])) | go_values | go_skip | go_guarded | go_step | go_upon | go_back)
  go_ret
  exact ⟨rfl, hW.trans ((hb2.trans (hb4.mono hb2.size)).mono hW.size)⟩
end Go.Proofs.YtogkbddniacgiaaDoor
