/- Refusals: where the reasons lie, what a refusal is in memory; made, named, numbered. Conditions: the reasons lie in memory, no two alike. A refusal gone through: its number, its reasons' numbers. Conditions: the refusal and the reasons lie in memory. -/
import Derived.Test.YtfihjajllfihjaaGreatDoorP3
import Derived.LaidEql
namespace Go.Proofs.YtfihjajllfihjaaGreatDoor
set_option linter.unusedSimpArgs false
set_option linter.unusedVariables false
open Go Go.RowKit

/-- the variable that holds the reason of a number -/
def gOf : Nat → Nat
  | 1 => 1
  | 2 => 0
  | 3 => 2
  | 4 => 4
  | 5 => 5
  | 6 => 6
  | 7 => 7
  | 8 => 8
  | 9 => 3
  | 10 => 9
  | 11 => 10
  | 12 => 11
  | 13 => 12
  | _ => 0
abbrev reason (a : Addr) : Value := .iface 199 (.pointer (some a))
/-- the reasons 1 to 13 lie at a; their blocks in S -/
structure Sents (w : World) (S : Nat → Prop) (a : Nat → Addr) : Prop where
  cell : ∀ k, 1 ≤ k → k ≤ 13 → w.cell? ⟨gOf k, 0, none⟩ = some (reason (a k))
  gIn : ∀ k, 1 ≤ k → k ≤ 13 → S (gOf k)
  aIn : ∀ k, 1 ≤ k → k ≤ 13 → S (a k).block
  inj : ∀ j k, 1 ≤ j → j ≤ 13 → 1 ≤ k → k ≤ 13 → a j = a k → j = k
  plain : ∀ k, 1 ≤ k → k ≤ 13 → ∃ cs t, w.heap[(a k).block]? = some (.cells cs t (0, 0))
theorem Sents.keep {w w' : World} {S : Nat → Prop} {a : Nat → Addr} (h : Sents w S a) (hk : Same S w w') : Sents w' S a :=
  ⟨fun k h1 h2 => hk.cell (a := ⟨gOf k, 0, none⟩) (h.gIn k h1 h2) (h.cell k h1 h2), h.gIn, h.aIn, h.inj, fun k h1 h2 => by
    obtain ⟨cs, t, e⟩ := h.plain k h1 h2
    exact ⟨cs, t, (hk _ (h.aIn k h1 h2) (lt_of_heap' e)).trans e⟩⟩
theorem Sents.step {w w' : World} {S : Nat → Prop} {a : Nat → Addr} (h : Sents w S a) (hb : Below w.heap.size w w') : Sents w' S a := h.keep (Same.of_below hb)
theorem Sents.drew {w : World} {S : Nat → Prop} {a : Nat → Addr} (h : Sents w S a) : Sents w.drew S a := h.keep (Same.drew _ _)

/-- a place on a refusal's way -/
structure Lk where
  layer : ByteArray
  call : ByteArray
  at_ : Int
instance : Enc Lk where
  k := 3
  cells l := [.string l.layer, .string l.call, .int .i64 l.at_]
  len _ := rfl
  one := by
    intro a u hu
    simp only [List.mem_cons, List.not_mem_nil, or_false] at hu
    rcases hu with rfl | rfl | rfl <;> rfl
instance : Enc Int where
  k := 1
  cells x := [.int .i64 x]
  len _ := rfl
  one := by
    intro a u hu
    simp only [List.mem_cons, List.not_mem_nil, or_false] at hu
    subst hu
    rfl
/-- a refusal at w: its way, the number of its reason -/
def IsErr (w : World) (S : Nat → Prop) (a : Nat → Addr) : List Lk → Nat → Value → Prop
  | [], code, e => 1 ≤ code ∧ code ≤ 13 ∧ e = reason (a code)
  | l :: r, code, e => ∃ g v, e = .iface 153 (.pointer (some ⟨g, 0, none⟩)) ∧ S g ∧ Blk w g 155 #[.string l.layer, .string l.call, .int .i64 l.at_, v] ∧ IsErr w S a r code v
theorem IsErr.keep {w w' : World} {S : Nat → Prop} {a : Nat → Addr} (hk : Same S w w') : ∀ {ch : List Lk} {code : Nat} {e : Value}, IsErr w S a ch code e → IsErr w' S a ch code e := by
  intro ch
  induction ch with
  | nil => intro code e h; exact h
  | cons l r ih =>
    rintro code e ⟨g, v, rfl, hs, hb, h⟩
    exact ⟨g, v, rfl, hs, hb.keep hs hk, ih h⟩
theorem IsErr.more {w : World} {S S' : Nat → Prop} {a : Nat → Addr} (hs : ∀ b, b < w.heap.size → S b → S' b) : ∀ {ch : List Lk} {code : Nat} {e : Value}, IsErr w S a ch code e → IsErr w S' a ch code e := by
  intro ch
  induction ch with
  | nil => intro code e h; exact h
  | cons l r ih =>
    rintro code e ⟨g, v, rfl, hs', hb, h⟩
    exact ⟨g, v, rfl, hs _ hb.lt hs', hb, ih h⟩
theorem IsErr.step {w w' : World} {S : Nat → Prop} {a : Nat → Addr} {ch : List Lk} {code : Nat} {e : Value} (h : IsErr w S a ch code e) (hb : Below w.heap.size w w') : IsErr w' S a ch code e := h.keep (Same.of_below hb)
theorem IsErr.notNil {w : World} {S : Nat → Prop} {a : Nat → Addr} {ch : List Lk} {code : Nat} {e : Value} (h : IsErr w S a ch code e) : ∃ t x, e = .iface t (.pointer (some x)) := by
  cases ch with
  | nil => exact ⟨_, _, h.2.2⟩
  | cons l r => obtain ⟨g, v, rfl, _⟩ := h; exact ⟨_, _, rfl⟩
theorem new_any (l c : ByteArray) (n : Int) (t : TypeId) (x : Option Addr) (w : World) :
    Calls Tryz.prog 70 #[.string l, .string c, .int .i64 n, .iface t (.pointer x)] w fun e w' => ∃ g, e = .returned (.iface 153 (.pointer (some ⟨g, 0, none⟩))) ∧ w.heap.size ≤ g ∧
      Blk w' g 155 #[.string l, .string c, .int .i64 (if n < -1 then -1 else n), .iface t (.pointer x)] ∧ Below w.heap.size w w' := by
  go_enter Tryz.func70, Tryz.ntmps70
  go_wp2
  all_goals go_ret
  all_goals exact ⟨w.heap.size, rfl, Nat.le_refl _, Blk.new _ _ _, (Below.refl _ _).alloc (Nat.le_refl _) _⟩

theorem named_any (k : Nat) (h1 : 1 ≤ k) (h2 : k ≤ 13) (v : Value) (w : World) (hv : w.cell? ⟨gOf k, 0, none⟩ = some v) :
    Calls Tryz.prog 132 #[.int .i64 k] w fun e w' => e = .returned v ∧ w = w' := by
  rcases (show k = 1 ∨ k = 2 ∨ k = 3 ∨ k = 4 ∨ k = 5 ∨ k = 6 ∨ k = 7 ∨ k = 8 ∨ k = 9 ∨ k = 10 ∨ k = 11 ∨ k = 12 ∨ k = 13 from by omega) with rfl | rfl | rfl | rfl | rfl | rfl | rfl | rfl | rfl | rfl | rfl | rfl | rfl
  all_goals
    simp only [gOf] at hv
    go_enter Tryz.func132, Tryz.ntmps132
    go_wp2
    go_ret
    exact ⟨rfl, rfl⟩
theorem Tryz.compES : (Tryz.prog.info? 199).map (·.comparable) = some true := by kernel_rfl
theorem Tryz.sizeES : (Tryz.prog.info? 213).map (fun i => decide (i.size = 0)) = some false := by kernel_rfl
theorem eq_reason {w : World} {S : Nat → Prop} {a : Nat → Addr} (h : Sents w S a) {j k : Nat} (h1 : 1 ≤ j) (h2 : j ≤ 13) (h3 : 1 ≤ k) (h4 : k ≤ 13) :
    (binOp .eql 52 (reason (a j)) (reason (a k))).run Tryz.prog w = .ok (.bool (decide (j = k))) w := by
  obtain ⟨i, hi, hc⟩ := Option.map_eq_some_iff.1 Tryz.compES
  obtain ⟨m, hm, hz⟩ := Option.map_eq_some_iff.1 Tryz.sizeES
  by_cases e : j = k
  · subst e
    rw [decide_eq_true rfl]
    exact run_eql_iface_ptr_same w (a j) Tryz.underlying52 Tryz.underlying199 hi hc hm
  · rw [decide_eq_false e]
    obtain ⟨cs, t, hb⟩ := h.plain j h1 h2
    obtain ⟨cs', t', hb'⟩ := h.plain k h3 h4
    exact run_eql_iface_ptr_other w Tryz.underlying52 Tryz.underlying199 hi hc hm (of_decide_eq_false hz) (fun e' => e (h.inj j k h1 h2 h3 h4 e')) hb hb'
theorem eq_fault {w : World} (x : Option Addr) (y : Addr) : (binOp .eql 52 (.iface 153 (.pointer x)) (reason y)).run Tryz.prog w = .ok (.bool false) w := by
  have h : ∀ d : Nat, (Op.equalIn (d + 2) 52 (.iface 153 (.pointer x)) (reason y)).run Tryz.prog w = .ok false w := fun d => by
    simp [Op.equalIn, reason, run_underlying Tryz.underlying52]
  simp only [binOp]
  simp [Op.equal, Op.maxDepth, h 9998]
set_option maxRecDepth 20000 in
theorem number_reason (j : Nat) (h1 : 1 ≤ j) (h2 : j ≤ 13) (S : Nat → Prop) (a : Nat → Addr) (w : World) (hs : Sents w S a) :
    Calls Tryz.prog 111 #[reason (a j)] w fun e w' => e = .returned (.int .i64 j) ∧ w = w' := by
  go_enter Tryz.func111, Tryz.ntmps111
  go_wp2
  go_loopw [3] (fun i wr => ∃ k : Nat, i = .int .i64 k ∧ 1 ≤ k ∧ k ≤ j ∧ w = wr) (fun i _ => 14 - (intOf i).toNat)
  case atStart => exact ⟨1, rfl, Nat.le_refl _, h1, rfl⟩
  case round =>
    obtain ⟨k, rfl, hk1, hk2, rfl⟩ := hrel
    have hq := hid (eq_reason hs h1 h2 hk1 (show k ≤ 13 by omega))
    by_cases e : j = k
    · subst e
      repeat' (first | (go_at_call 132; (with_reducible refine (named_any j h1 h2 _ w (hs.cell j h1 h2)).mono ?_); rintro _ _ ⟨rfl, rfl⟩; dsimp only) | (rw [hq.out]) | go_values | go_skip | go_guarded | go_step | go_upon | go_back)
      go_ret
      exact ⟨rfl, rfl⟩
    · repeat' (first | (go_at_call 132; (with_reducible refine (named_any k hk1 (by omega) _ w (hs.cell k hk1 (by omega))).mono ?_); rintro _ _ ⟨rfl, rfl⟩; dsimp only) | (rw [hq.out]) | go_values | go_skip | go_guarded | go_step | go_upon | go_back)
      go_roundw
      case rel => exact ⟨k + 1, by go_num, by omega, by omega, trivial⟩
      case measure => simp [intOf]; omega
set_option maxRecDepth 20000 in
theorem number_fault (x : Option Addr) (S : Nat → Prop) (a : Nat → Addr) (w : World) (hs : Sents w S a) :
    Calls Tryz.prog 111 #[.iface 153 (.pointer x)] w fun e w' => e = .returned (.int .i64 0) ∧ w = w' := by
  go_enter Tryz.func111, Tryz.ntmps111
  go_wp2
  go_loopw [3] (fun i wr => ∃ k : Nat, i = .int .i64 k ∧ 1 ≤ k ∧ k ≤ 14 ∧ w = wr) (fun i _ => 14 - (intOf i).toNat)
  case atStart => exact ⟨1, rfl, Nat.le_refl _, by omega, rfl⟩
  case round =>
    obtain ⟨k, rfl, hk1, hk2, rfl⟩ := hrel
    by_cases e : k ≤ 13
    · have hq := hid (eq_fault (w := w) x (a k))
      repeat' (first | (go_at_call 132; (with_reducible refine (named_any k hk1 (by omega) _ w (hs.cell k hk1 (by omega))).mono ?_); rintro _ _ ⟨rfl, rfl⟩; dsimp only) | (rw [hq.out]) | go_values | go_skip | go_guarded | go_step | go_upon | go_back)
      go_roundw
      case rel => exact ⟨k + 1, by go_num, by omega, by omega, trivial⟩
      case measure => simp [intOf]; omega
    · obtain rfl : k = 14 := by omega
      go_wp2
      go_ret
      exact ⟨rfl, rfl⟩
end Go.Proofs.YtfihjajllfihjaaGreatDoor
namespace Go.Proofs.YtfihjajllfihjaaGreatDoor
set_option linter.unusedSimpArgs false
set_option linter.unusedVariables false
open Go Go.RowKit
variable {S : Nat → Prop} {a : Nat → Addr}

@[go_sem] theorem as_ff (v : Value) (w : World) : (Instr.typeAssert (.iface 153 v) 52 153 true).run Tryz.prog w = .ok (.tuple #[v, .bool true]) w := by kernel_rfl
@[go_sem] theorem as_fm (v : Value) (w : World) : (Instr.typeAssert (.iface 153 v) 52 180 true).run Tryz.prog w = .ok (.tuple #[.pointer none, .bool false]) w := by kernel_rfl
@[go_sem] theorem as_ef (v : Value) (w : World) : (Instr.typeAssert (.iface 199 v) 52 153 true).run Tryz.prog w = .ok (.tuple #[.pointer none, .bool false]) w := by kernel_rfl
@[go_sem] theorem as_em (v : Value) (w : World) : (Instr.typeAssert (.iface 199 v) 52 180 true).run Tryz.prog w = .ok (.tuple #[.pointer none, .bool false]) w := by kernel_rfl
theorem unwrap_any (l : Lk) (g : Nat) (v : Value) (w : World) (hb : Blk w g 155 #[.string l.layer, .string l.call, .int .i64 l.at_, v]) :
    Calls Tryz.prog 130 #[.pointer (some ⟨g, 0, none⟩)] w fun e w' => e = .returned v ∧ w = w' := by
  have h3 : w.cell? ⟨g, 3, none⟩ = some v := hb.cell 3
  go_enter Tryz.func130, Tryz.ntmps130
  go_wp2
  go_ret
  exact ⟨rfl, rfl⟩
theorem code1_reason (j : Nat) (h1 : 1 ≤ j) (h2 : j ≤ 13) (cb : Nat) (x : Int) (w : World) (hs : Sents w S a) (hc : Blk w cb 3 #[.int .i64 x]) :
    Calls Tryz.prog 110 #[reason (a j), .pointer (some ⟨cb, 0, none⟩)] w fun e w' => e = .returned (.bool false) ∧ w' = w.setCell ⟨cb, 0, none⟩ (.int .i64 j) := by
  have c0 : w.cell? ⟨cb, 0, none⟩ = some (.int .i64 x) := hc.cell 0
  have f0 := hc.frozen 0
  go_enter Tryz.func110, Tryz.ntmps110
  repeat' (first | (go_at_call 111; (with_reducible refine (number_reason j h1 h2 S a w hs).mono ?_); rintro _ _ ⟨rfl, rfl⟩; dsimp only) | go_values | go_skip | go_guarded | go_step | go_upon | go_back)
  go_ret
  refine ⟨?_, rfl⟩
  show Ending.returned (.bool ((j : Int) == 0)) = _
  rw [show ((j : Int) == 0) = false from by simp; omega]
theorem code1_fault (x : Option Addr) (p : Option Addr) (w : World) (hs : Sents w S a) :
    Calls Tryz.prog 110 #[.iface 153 (.pointer x), .pointer p] w fun e w' => e = .returned (.bool true) ∧ w = w' := by
  go_enter Tryz.func110, Tryz.ntmps110
  repeat' (first | (go_at_call 111; (with_reducible refine (number_fault x S a w hs).mono ?_); rintro _ _ ⟨rfl, rfl⟩; dsimp only) | go_values | go_skip | go_guarded | go_step | go_upon | go_back)
  go_ret
  exact ⟨rfl, rfl⟩
theorem codes1_fault (x : Option Addr) (p : Option Addr) (w : World) (hs : Sents w S a) :
    Calls Tryz.prog 113 #[.iface 153 (.pointer x), .pointer p] w fun e w' => e = .returned (.bool true) ∧ w = w' := by
  go_enter Tryz.func113, Tryz.ntmps113
  repeat' (first | (go_at_call 111; (with_reducible refine (number_fault x S a w hs).mono ?_); rintro _ _ ⟨rfl, rfl⟩; dsimp only) | go_values | go_skip | go_guarded | go_step | go_upon | go_back)
  go_ret
  exact ⟨rfl, rfl⟩
set_option maxRecDepth 20000 in
/-- the closure that Code hands over: a refusal gone through with it -/
theorem through_code (cb : Nat) (x : Int) (code : Nat) : ∀ (ch : List Lk) (v : Value) (w : World), IsErr w S a ch code v → Sents w S a → Blk w cb 3 #[.int .i64 x] →
    Calls Tryz.prog 109 #[v, .func (.func 110) #[] #[.pointer (some ⟨cb, 0, none⟩)]] w fun e w' => e = .returned (.bool false) ∧ w' = w.setCell ⟨cb, 0, none⟩ (.int .i64 code) := by
  intro ch
  induction ch with
  | nil =>
    rintro v w ⟨h1, h2, rfl⟩ hs hc
    go_enter Tryz.func109, Tryz.ntmps109
    repeat' (first | (go_at_call 110; (with_reducible refine (code1_reason code h1 h2 cb x w hs hc).mono ?_); rintro _ _ ⟨rfl, rfl⟩; dsimp only) | go_values | go_skip | go_guarded | go_step | go_upon | go_back)
    go_ret
    exact ⟨rfl, rfl⟩
  | cons l r ih =>
    rintro v w ⟨g, v, rfl, hg, hb, he⟩ hs hc
    have Hih := hid (ih v w he hs hc)
    clear ih
    go_enter Tryz.func109, Tryz.ntmps109
    repeat' (first | (go_at_call 110; (with_reducible refine (code1_fault _ _ w hs).mono ?_); rintro _ _ ⟨rfl, rfl⟩; dsimp only) | (go_at_call 130; (with_reducible refine (unwrap_any l g v w hb).mono ?_); rintro _ _ ⟨rfl, rfl⟩; dsimp only) | (go_at_call 109; (with_reducible refine (Calls.mono Hih.out ?_)); rintro _ _ ⟨rfl, rfl⟩; dsimp only) | go_values | go_skip | go_guarded | go_step | go_upon | go_back)
    go_ret
    exact ⟨rfl, rfl⟩
theorem code_any (ch : List Lk) (code : Nat) (v : Value) (w : World) (h : IsErr w S a ch code v) (hs : Sents w S a) :
    Calls Tryz.prog 73 #[v] w fun e w' => e = .returned (.int .i64 code) ∧ Below w.heap.size w w' := by
  obtain ⟨t, x, hv⟩ := h.notNil
  have hb0 : Below w.heap.size w (w.alloc (.cells #[.int .i64 99] 3)) := (Below.refl _ _).alloc (Nat.le_refl _) _
  have hnb := Blk.new w 3 #[.int .i64 99]
  have HT := hid (through_code w.heap.size 99 code ch v _ (h.step hb0) (hs.step hb0) hnb)
  have hc2 : ((w.alloc (.cells #[.int .i64 99] 3)).setCell ⟨w.heap.size, 0, none⟩ (.int .i64 code)).cell? ⟨w.heap.size, 0, none⟩ = some (.int .i64 code) := (hnb.set_ 0 _).cell 0
  have HC := hid hc2
  clear hnb hc2
  subst hv
  go_enter Tryz.func73, Tryz.ntmps73
  repeat' (first | (go_at_call 109; (with_reducible refine (Calls.mono HT.out ?_)); rintro _ _ ⟨rfl, rfl⟩; have hc3 := HC.out; dsimp only) | go_values | go_skip | go_guarded | go_step | go_upon | go_back)
  go_ret
  exact ⟨rfl, (Below.refl _ _).alloc (Nat.le_refl _) _⟩
end Go.Proofs.YtfihjajllfihjaaGreatDoor
