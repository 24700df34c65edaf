/- A refusal gone through: its number, its reasons' numbers. Conditions: the refusal and the reasons lie in memory. -/
import Derived.Test.YtogkbddniacgiaaDoorErr1
namespace Go.Proofs.YtogkbddniacgiaaDoor
set_option linter.unusedSimpArgs false
set_option linter.unusedVariables false
open Go Go.RowKit
variable {S : Nat → Prop} {a : Nat → Addr}

@[go_sem] theorem as_ff (v : Value) (w : World) : (Instr.typeAssert (.iface 161 v) 28 161 true).run Tryd.prog w = .ok (.tuple #[v, .bool true]) w := by kernel_rfl
@[go_sem] theorem as_fm (v : Value) (w : World) : (Instr.typeAssert (.iface 161 v) 28 185 true).run Tryd.prog w = .ok (.tuple #[.pointer none, .bool false]) w := by kernel_rfl
@[go_sem] theorem as_ef (v : Value) (w : World) : (Instr.typeAssert (.iface 197 v) 28 161 true).run Tryd.prog w = .ok (.tuple #[.pointer none, .bool false]) w := by kernel_rfl
@[go_sem] theorem as_em (v : Value) (w : World) : (Instr.typeAssert (.iface 197 v) 28 185 true).run Tryd.prog w = .ok (.tuple #[.pointer none, .bool false]) w := by kernel_rfl
theorem unwrap_any (l : Lk) (g : Nat) (v : Value) (w : World) (hb : Blk w g 163 #[.string l.layer, .string l.call, .int .i64 l.at_, v]) :
    Calls Tryd.prog 135 #[.pointer (some ⟨g, 0, none⟩)] w fun e w' => e = .returned v ∧ w = w' := by
  have h3 : w.cell? ⟨g, 3, none⟩ = some v := hb.cell 3
  go_enter Tryd.func135, Tryd.ntmps135
  go_wp2
  go_ret
  exact ⟨rfl, rfl⟩
theorem code1_reason (j : Nat) (h1 : 1 ≤ j) (h2 : j ≤ 13) (cb : Nat) (x : Int) (w : World) (hs : Sents w S a) (hc : Blk w cb 3 #[.int .i64 x]) :
    Calls Tryd.prog 119 #[reason (a j), .pointer (some ⟨cb, 0, none⟩)] w fun e w' => e = .returned (.bool false) ∧ w' = w.setCell ⟨cb, 0, none⟩ (.int .i64 j) := by
  have c0 : w.cell? ⟨cb, 0, none⟩ = some (.int .i64 x) := hc.cell 0
  have f0 := hc.frozen 0
  go_enter Tryd.func119, Tryd.ntmps119
  repeat' (first | (go_at_call 120; (with_reducible refine (number_reason j h1 h2 S a w hs).mono ?_); rintro _ _ ⟨rfl, rfl⟩; dsimp only) | (with_reducible refine Keep.last ?_) | (with_reducible refine Keep.below (by assumption) ?_) | (with_reducible refine Keep.kept (by assumption) ?_) | (with_reducible refine Keep.alloc ?_) | (with_reducible refine Keep.same ?_) | ((with_reducible refine WpH.here ?_); first | (refine WpH.nil ?_; refine NoP.normal ?_) | (refine WpH.load (by rfl) (by rfl) (by go_simp; rfl) ?_; simp only [Act.put, List.setIfInBounds_toArray, List.set_cons_zero, List.set_cons_succ]) | (refine WpH.loadT (by rfl) (by rfl) (by go_simp; rfl) (by rintro _ _ ⟨⟩; exact ⟨_, _, _, _, _, _, by rfl, by assumption, by assumption⟩) ?_; simp only [Act.put, List.setIfInBounds_toArray, List.set_cons_zero, List.set_cons_succ]) | (refine WpH.pure (by rfl) (fun w_ => by go_simp; (try go_bits); rfl) ?_; simp only [Act.put, List.setIfInBounds_toArray, List.set_cons_zero, List.set_cons_succ]) | (refine WpH.wild1 (by rfl) (fun _ _ => ?_)) | (refine WpH.skip (by rfl) ?_; simp only [Act.put, List.setIfInBounds_toArray, List.set_cons_zero, List.set_cons_succ])) | go_values | go_skip | go_guarded | go_step | go_upon | go_back)
  go_ret
  refine ⟨?_, rfl⟩
  show Ending.returned (.bool ((j : Int) == 0)) = _
  rw [show ((j : Int) == 0) = false from by simp; omega]
theorem code1_fault (x : Option Addr) (p : Option Addr) (w : World) (hs : Sents w S a) :
    Calls Tryd.prog 119 #[.iface 161 (.pointer x), .pointer p] w fun e w' => e = .returned (.bool true) ∧ w = w' := by
  go_enter Tryd.func119, Tryd.ntmps119
  repeat' (first | (go_at_call 120; (with_reducible refine (number_fault x S a w hs).mono ?_); rintro _ _ ⟨rfl, rfl⟩; dsimp only) | (with_reducible refine Keep.last ?_) | (with_reducible refine Keep.below (by assumption) ?_) | (with_reducible refine Keep.kept (by assumption) ?_) | (with_reducible refine Keep.alloc ?_) | (with_reducible refine Keep.same ?_) | ((with_reducible refine WpH.here ?_); first | (refine WpH.nil ?_; refine NoP.normal ?_) | (refine WpH.load (by rfl) (by rfl) (by go_simp; rfl) ?_; simp only [Act.put, List.setIfInBounds_toArray, List.set_cons_zero, List.set_cons_succ]) | (refine WpH.loadT (by rfl) (by rfl) (by go_simp; rfl) (by rintro _ _ ⟨⟩; exact ⟨_, _, _, _, _, _, by rfl, by assumption, by assumption⟩) ?_; simp only [Act.put, List.setIfInBounds_toArray, List.set_cons_zero, List.set_cons_succ]) | (refine WpH.pure (by rfl) (fun w_ => by go_simp; (try go_bits); rfl) ?_; simp only [Act.put, List.setIfInBounds_toArray, List.set_cons_zero, List.set_cons_succ]) | (refine WpH.wild1 (by rfl) (fun _ _ => ?_)) | (refine WpH.skip (by rfl) ?_; simp only [Act.put, List.setIfInBounds_toArray, List.set_cons_zero, List.set_cons_succ])) | go_values | go_skip | go_guarded | go_step | go_upon | go_back)
  go_ret
  exact ⟨rfl, rfl⟩
theorem codes1_fault (x : Option Addr) (p : Option Addr) (w : World) (hs : Sents w S a) :
    Calls Tryd.prog 122 #[.iface 161 (.pointer x), .pointer p] w fun e w' => e = .returned (.bool true) ∧ w = w' := by
  go_enter Tryd.func122, Tryd.ntmps122
  repeat' (first | (go_at_call 120; (with_reducible refine (number_fault x S a w hs).mono ?_); rintro _ _ ⟨rfl, rfl⟩; dsimp only) | (with_reducible refine Keep.last ?_) | (with_reducible refine Keep.below (by assumption) ?_) | (with_reducible refine Keep.kept (by assumption) ?_) | (with_reducible refine Keep.alloc ?_) | (with_reducible refine Keep.same ?_) | ((with_reducible refine WpH.here ?_); first | (refine WpH.nil ?_; refine NoP.normal ?_) | (refine WpH.load (by rfl) (by rfl) (by go_simp; rfl) ?_; simp only [Act.put, List.setIfInBounds_toArray, List.set_cons_zero, List.set_cons_succ]) | (refine WpH.loadT (by rfl) (by rfl) (by go_simp; rfl) (by rintro _ _ ⟨⟩; exact ⟨_, _, _, _, _, _, by rfl, by assumption, by assumption⟩) ?_; simp only [Act.put, List.setIfInBounds_toArray, List.set_cons_zero, List.set_cons_succ]) | (refine WpH.pure (by rfl) (fun w_ => by go_simp; (try go_bits); rfl) ?_; simp only [Act.put, List.setIfInBounds_toArray, List.set_cons_zero, List.set_cons_succ]) | (refine WpH.wild1 (by rfl) (fun _ _ => ?_)) | (refine WpH.skip (by rfl) ?_; simp only [Act.put, List.setIfInBounds_toArray, List.set_cons_zero, List.set_cons_succ])) | go_values | go_skip | go_guarded | go_step | go_upon | go_back)
  go_ret
  exact ⟨rfl, rfl⟩
set_option maxRecDepth 20000 in
/-- the closure that Code hands over: a refusal gone through with it -/
theorem through_code (cb : Nat) (x : Int) (code : Nat) : ∀ (ch : List Lk) (v : Value) (w : World), IsErr w S a ch code v → Sents w S a → Blk w cb 3 #[.int .i64 x] →
    Calls Tryd.prog 118 #[v, .func (.func 119) #[] #[.pointer (some ⟨cb, 0, none⟩)]] w fun e w' => e = .returned (.bool false) ∧ w' = w.setCell ⟨cb, 0, none⟩ (.int .i64 code) := by
  intro ch
  induction ch with
  | nil =>
    rintro v w ⟨h1, h2, rfl⟩ hs hc
    go_enter Tryd.func118, Tryd.ntmps118
    repeat' (first | (go_at_call 119; (with_reducible refine (code1_reason code h1 h2 cb x w hs hc).mono ?_); rintro _ _ ⟨rfl, rfl⟩; dsimp only) | (with_reducible refine Keep.last ?_) | (with_reducible refine Keep.below (by assumption) ?_) | (with_reducible refine Keep.kept (by assumption) ?_) | (with_reducible refine Keep.alloc ?_) | (with_reducible refine Keep.same ?_) | ((with_reducible refine WpH.here ?_); first | (refine WpH.nil ?_; refine NoP.normal ?_) | (refine WpH.load (by rfl) (by rfl) (by go_simp; rfl) ?_; simp only [Act.put, List.setIfInBounds_toArray, List.set_cons_zero, List.set_cons_succ]) | (refine WpH.loadT (by rfl) (by rfl) (by go_simp; rfl) (by rintro _ _ ⟨⟩; exact ⟨_, _, _, _, _, _, by rfl, by assumption, by assumption⟩) ?_; simp only [Act.put, List.setIfInBounds_toArray, List.set_cons_zero, List.set_cons_succ]) | (refine WpH.pure (by rfl) (fun w_ => by go_simp; (try go_bits); rfl) ?_; simp only [Act.put, List.setIfInBounds_toArray, List.set_cons_zero, List.set_cons_succ]) | (refine WpH.wild1 (by rfl) (fun _ _ => ?_)) | (refine WpH.skip (by rfl) ?_; simp only [Act.put, List.setIfInBounds_toArray, List.set_cons_zero, List.set_cons_succ])) | go_values | go_skip | go_guarded | go_step | go_upon | go_back)
    go_ret
    exact ⟨rfl, rfl⟩
  | cons l r ih =>
    rintro v w ⟨g, v, rfl, hg, hb, he⟩ hs hc
    have Hih := hid (ih v w he hs hc)
    clear ih
    go_enter Tryd.func118, Tryd.ntmps118
    repeat' (first | (go_at_call 119; (with_reducible refine (code1_fault _ _ w hs).mono ?_); rintro _ _ ⟨rfl, rfl⟩; dsimp only) | (go_at_call 135; (with_reducible refine (unwrap_any l g v w hb).mono ?_); rintro _ _ ⟨rfl, rfl⟩; dsimp only) | (go_at_call 118; (with_reducible refine (Calls.mono Hih.out ?_)); rintro _ _ ⟨rfl, rfl⟩; dsimp only) | (with_reducible refine Keep.last ?_) | (with_reducible refine Keep.below (by assumption) ?_) | (with_reducible refine Keep.kept (by assumption) ?_) | (with_reducible refine Keep.alloc ?_) | (with_reducible refine Keep.same ?_) | ((with_reducible refine WpH.here ?_); first | (refine WpH.nil ?_; refine NoP.normal ?_) | (refine WpH.load (by rfl) (by rfl) (by go_simp; rfl) ?_; simp only [Act.put, List.setIfInBounds_toArray, List.set_cons_zero, List.set_cons_succ]) | (refine WpH.loadT (by rfl) (by rfl) (by go_simp; rfl) (by rintro _ _ ⟨⟩; exact ⟨_, _, _, _, _, _, by rfl, by assumption, by assumption⟩) ?_; simp only [Act.put, List.setIfInBounds_toArray, List.set_cons_zero, List.set_cons_succ]) | (refine WpH.pure (by rfl) (fun w_ => by go_simp; (try go_bits); rfl) ?_; simp only [Act.put, List.setIfInBounds_toArray, List.set_cons_zero, List.set_cons_succ]) | (refine WpH.wild1 (by rfl) (fun _ _ => ?_)) | (refine WpH.skip (by rfl) ?_; simp only [Act.put, List.setIfInBounds_toArray, List.set_cons_zero, List.set_cons_succ])) | go_values | go_skip | go_guarded | go_step | go_upon | go_back)
    go_ret
    exact ⟨rfl, rfl⟩
theorem code_any (ch : List Lk) (code : Nat) (v : Value) (w : World) (h : IsErr w S a ch code v) (hs : Sents w S a) :
    Calls Tryd.prog 79 #[v] w fun e w' => e = .returned (.int .i64 code) ∧ Below w.heap.size w w' := by
  obtain ⟨t, x, hv⟩ := h.notNil
  have hb0 : Below w.heap.size w (w.alloc (.cells #[.int .i64 99] 3)) := (Below.refl _ _).alloc (Nat.le_refl _) _
  have hnb := Blk.new w 3 #[.int .i64 99]
  have HT := hid (through_code w.heap.size 99 code ch v _ (h.step hb0) (hs.step hb0) hnb)
  have hc2 : ((w.alloc (.cells #[.int .i64 99] 3)).setCell ⟨w.heap.size, 0, none⟩ (.int .i64 code)).cell? ⟨w.heap.size, 0, none⟩ = some (.int .i64 code) := (hnb.set_ 0 _).cell 0
  have HC := hid hc2
  clear hnb hc2
  subst hv
  go_enter Tryd.func79, Tryd.ntmps79
  repeat' (first | (go_at_call 118; (with_reducible refine (Calls.mono HT.out ?_)); rintro _ _ ⟨rfl, rfl⟩; have hc3 := HC.out; dsimp only) | (with_reducible refine Keep.last ?_) | (with_reducible refine Keep.below (by assumption) ?_) | (with_reducible refine Keep.kept (by assumption) ?_) | (with_reducible refine Keep.alloc ?_) | (with_reducible refine Keep.same ?_) | ((with_reducible refine WpH.here ?_); first | (refine WpH.nil ?_; refine NoP.normal ?_) | (refine WpH.load (by rfl) (by rfl) (by go_simp; rfl) ?_; simp only [Act.put, List.setIfInBounds_toArray, List.set_cons_zero, List.set_cons_succ]) | (refine WpH.loadT (by rfl) (by rfl) (by go_simp; rfl) (by rintro _ _ ⟨⟩; exact ⟨_, _, _, _, _, _, by rfl, by assumption, by assumption⟩) ?_; simp only [Act.put, List.setIfInBounds_toArray, List.set_cons_zero, List.set_cons_succ]) | (refine WpH.pure (by rfl) (fun w_ => by go_simp; (try go_bits); rfl) ?_; simp only [Act.put, List.setIfInBounds_toArray, List.set_cons_zero, List.set_cons_succ]) | (refine WpH.wild1 (by rfl) (fun _ _ => ?_)) | (refine WpH.skip (by rfl) ?_; simp only [Act.put, List.setIfInBounds_toArray, List.set_cons_zero, List.set_cons_succ])) | go_values | go_skip | go_guarded | go_step | go_upon | go_back)
  go_ret
  exact ⟨rfl, (Below.refl _ _).alloc (Nat.le_refl _) _⟩
end Go.Proofs.YtogkbddniacgiaaDoor
