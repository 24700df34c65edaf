/- The statements' own helpers of chapter 7: lists held against each other, rows, operations made valid, three replicas. Conditions: lists lie in memory. -/
import Derived.Test.YtogkbddniacgiaaDoorPlain7
import Derived.Test.YtogkbddniacgiaaDoorOpen2
import Derived.Test.YtogkbddniacgiaaDoorBel
namespace Go.Proofs.YtogkbddniacgiaaDoor
set_option linter.unusedSimpArgs false
set_option linter.unusedVariables false
open Go Go.RowKit
theorem ops_eq (A : Option Addr) (n c : Nat) (B : Option Addr) (d : Nat) (ch : List Opn) (S S' : Nat → Prop) (w : World) (h1 : GRow w S A n c ch) (h2 : GRow w S' B n d ch) :
    Calls Tryd.prog 51 #[.slice A n c, .slice B n d] w fun e w' => e = .returned (.bool true) ∧ Below w.heap.size w w' := by
  have hn := h1.len_le
  have hm : maxLen = 9223372036854775807 := rfl
  have hnc := h1.2.1
  have hnd := h2.2.1
  go_enter Tryd.func51, Tryd.ntmps51
  repeat' (first | (with_reducible refine Keep.last ?_) | (with_reducible refine Keep.below (by assumption) ?_) | (with_reducible refine Keep.kept (by assumption) ?_) | (with_reducible refine Keep.alloc ?_) | (with_reducible refine Keep.same ?_) | ((with_reducible refine WpH.here ?_); first | (refine WpH.nil ?_; refine NoP.normal ?_) | (refine WpH.load (by rfl) (by rfl) (by go_simp; rfl) ?_; simp only [Act.put, List.setIfInBounds_toArray, List.set_cons_zero, List.set_cons_succ]) | (refine WpH.loadT (by rfl) (by rfl) (by go_simp; rfl) (by rintro _ _ ⟨⟩; exact ⟨_, _, _, _, _, _, by rfl, by assumption, by assumption⟩) ?_; simp only [Act.put, List.setIfInBounds_toArray, List.set_cons_zero, List.set_cons_succ]) | (refine WpH.pure (by rfl) (fun w_ => by go_simp; (try go_bits); rfl) ?_; simp only [Act.put, List.setIfInBounds_toArray, List.set_cons_zero, List.set_cons_succ]) | (refine WpH.wild1 (by rfl) (fun _ _ => ?_)) | (refine WpH.skip (by rfl) ?_; simp only [Act.put, List.setIfInBounds_toArray, List.set_cons_zero, List.set_cons_succ])) | go_values | go_skip | go_guarded | go_step | go_upon | go_back)
  go_loopw [5] (fun i wr => ∃ k : Nat, i = .int .i64 k ∧ k ≤ n ∧ Below w.heap.size w wr) (fun i _ => n - (intOf i).toNat)
  case atStart => exact ⟨0, rfl, Nat.zero_le _, Below.refl _ _⟩
  case round =>
    obtain ⟨k, rfl, hk, hb⟩ := hrel
    by_cases e : k < n
    · obtain ⟨b1, o1, l1, rfl, _, hlt1, he1, c1⟩ := (h1.step hb).at_ e
      obtain ⟨b2, o2, l2, rfl, _, hlt2, he2, c2⟩ := (h2.step hb).at_ e
      obtain rfl : l1 = l2 := Option.some.inj (he1.symm.trans he2)
      have p0 : wr.drew.cell? ⟨b1, o1 + k * 4, none⟩ = some (.int .i64 l1.kind) := c1 0 _ rfl
      have p1 : wr.drew.cell? ⟨b1, o1 + k * 4 + 1, none⟩ = some (.int .i64 l1.at_) := c1 1 _ rfl
      have p2 : wr.drew.cell? ⟨b1, o1 + k * 4 + 2, none⟩ = some (.int .i32 l1.char) := c1 2 _ rfl
      have p3 : wr.drew.cell? ⟨b1, o1 + k * 4 + 3, none⟩ = some (.int .i64 l1.rep) := c1 3 _ rfl
      have q0 : wr.drew.cell? ⟨b2, o2 + k * 4, none⟩ = some (.int .i64 l1.kind) := c2 0 _ rfl
      have q1 : wr.drew.cell? ⟨b2, o2 + k * 4 + 1, none⟩ = some (.int .i64 l1.at_) := c2 1 _ rfl
      have q2 : wr.drew.cell? ⟨b2, o2 + k * 4 + 2, none⟩ = some (.int .i32 l1.char) := c2 2 _ rfl
      have q3 : wr.drew.cell? ⟨b2, o2 + k * 4 + 3, none⟩ = some (.int .i64 l1.rep) := c2 3 _ rfl
      clear c1 c2
      repeat' (first | ((with_reducible refine region_at 6 ?_); refine wp_region_order [(0, true, false), (1, true, false), (2, true, false), (3, true, false), (4, true, false), (5, true, false), (6, true, false), (7, true, false), (8, true, false)] (by kernel_rfl) (by kernel_rfl) (by kernel_rfl) rfl rfl ?_) | (with_reducible refine Keep.last ?_) | (with_reducible refine Keep.below (by assumption) ?_) | (with_reducible refine Keep.kept (by assumption) ?_) | (with_reducible refine Keep.alloc ?_) | (with_reducible refine Keep.same ?_) | ((with_reducible refine WpH.here ?_); first | (refine WpH.nil ?_; refine NoP.normal ?_) | (refine WpH.load (by rfl) (by rfl) (by go_simp; rfl) ?_; simp only [Act.put, List.setIfInBounds_toArray, List.set_cons_zero, List.set_cons_succ]) | (refine WpH.loadT (by rfl) (by rfl) (by go_simp; rfl) (by rintro _ _ ⟨⟩; exact ⟨_, _, _, _, _, _, by rfl, by assumption, by assumption⟩) ?_; simp only [Act.put, List.setIfInBounds_toArray, List.set_cons_zero, List.set_cons_succ]) | (refine WpH.pure (by rfl) (fun w_ => by go_simp; (try go_bits); rfl) ?_; simp only [Act.put, List.setIfInBounds_toArray, List.set_cons_zero, List.set_cons_succ]) | (refine WpH.wild1 (by rfl) (fun _ _ => ?_)) | (refine WpH.skip (by rfl) ?_; simp only [Act.put, List.setIfInBounds_toArray, List.set_cons_zero, List.set_cons_succ])) | go_values | go_skip | go_guarded | go_step | go_upon | go_back)
      go_roundw
      case rel => exact ⟨k + 1, by go_num, by omega, hb.drew⟩
      case measure => simp [intOf]; omega
    · obtain rfl : k = n := by omega
      go_wp2
      go_ret
      exact ⟨rfl, hb⟩
set_option maxRecDepth 20000 in
set_option maxHeartbeats 2000000 in
theorem fit_any (o : Opn) (n : Nat) (r : Int) (w : World) (hn : n ≤ 1000000) : Calls Tryd.prog 35 #[o.agg, .int .i64 n, .int .i64 r] w fun e w' => e = .returned (.tuple #[(fitOf o n r).1.agg, .bool (fitOf o n r).2]) ∧ Below w.heap.size w w' := by
  have HW1 := hid (fun W => within_any o.kind 3 (by decide) (by decide) W)
  have HW2 := hid (fun W => within_any o.at_ ((n : Int) + 1) (by omega) (by omega) W)
  have HR := hid (fun W => ref5Right_any o.char W)
  unfold Opn.agg
  have b1 : Below w.heap.size w ((w.alloc (.cells #[.int .i64 o.kind, .int .i64 o.at_, .int .i32 o.char, .int .i64 o.rep] 58)).alloc (.cells #[.int .i64 0, .int .i64 0, .int .i32 0, .int .i64 0] 58)) := ((Below.refl _ _).alloc (Nat.le_refl _) _).alloc (by simp) _
  have h3 : 0 ≤ o.kind % 3 ∧ o.kind % 3 < 3 := by omega
  by_cases hk : 1 + o.kind % 3 = 1
  · have e1 : fitOf o n r = (⟨1, o.at_ % ((n : Int) + 1), if rightC o.char then o.char else 99, r⟩, true) := by unfold fitOf; rw [if_pos hk]
    rw [e1]
    cases hc : rightC o.char
    · rw [hc] at HR
      simp only [Bool.false_eq_true, if_false]
      clear e1 hc
      go_enter Tryd.func35, Tryd.ntmps35
      repeat' (first | (go_at_call 23; go_must (first | ((with_reducible refine Calls.mono (HW1.out _) ?_); rintro _ _ ⟨rfl, rfl⟩; dsimp only) | ((with_reducible refine Calls.mono (HW2.out _) ?_); rintro _ _ ⟨rfl, rfl⟩; dsimp only))) | (go_at_call 85; go_must ((with_reducible refine Calls.mono (HR.out _) ?_); rintro _ _ ⟨rfl, rfl⟩; dsimp only)) | (with_reducible refine Keep.last ?_) | (with_reducible refine Keep.below (by assumption) ?_) | (with_reducible refine Keep.kept (by assumption) ?_) | (with_reducible refine Keep.alloc ?_) | (with_reducible refine Keep.same ?_) | ((with_reducible refine WpH.here ?_); first | (refine WpH.nil ?_; refine NoP.normal ?_) | (refine WpH.load (by rfl) (by rfl) (by go_simp; rfl) ?_; simp only [Act.put, List.setIfInBounds_toArray, List.set_cons_zero, List.set_cons_succ]) | (refine WpH.loadT (by rfl) (by rfl) (by go_simp; rfl) (by rintro _ _ ⟨⟩; exact ⟨_, _, _, _, _, _, by rfl, by assumption, by assumption⟩) ?_; simp only [Act.put, List.setIfInBounds_toArray, List.set_cons_zero, List.set_cons_succ]) | (refine WpH.pure (by rfl) (fun w_ => by go_simp; (try go_bits); rfl) ?_; simp only [Act.put, List.setIfInBounds_toArray, List.set_cons_zero, List.set_cons_succ]) | (refine WpH.wild1 (by rfl) (fun _ _ => ?_)) | (refine WpH.skip (by rfl) ?_; simp only [Act.put, List.setIfInBounds_toArray, List.set_cons_zero, List.set_cons_succ])) | go_values | go_skip | go_guarded | go_step | go_upon | go_back)
      refine bodyPost_ret (v := .tuple #[.agg #[.int .i64 1, .int .i64 (o.at_ % ((n : Int) + 1)), .int .i32 99, .int .i64 r], .bool true]) ?_ rfl ⟨rfl, ?_⟩
      · simp [results, Tryd.results35, go_sem]
      · (repeat' (first | (with_reducible exact Below.refl _ _) | (with_reducible assumption) | (with_reducible refine balloc ?_) | (with_reducible refine bdrew ?_) | (with_reducible refine bset ?_ (by (try dsimp only); omega)) | (with_reducible refine bvia ?_ (by assumption))))
    · rw [hc] at HR
      simp only [if_true]
      clear e1 hc
      go_enter Tryd.func35, Tryd.ntmps35
      repeat' (first | (go_at_call 23; go_must (first | ((with_reducible refine Calls.mono (HW1.out _) ?_); rintro _ _ ⟨rfl, rfl⟩; dsimp only) | ((with_reducible refine Calls.mono (HW2.out _) ?_); rintro _ _ ⟨rfl, rfl⟩; dsimp only))) | (go_at_call 85; go_must ((with_reducible refine Calls.mono (HR.out _) ?_); rintro _ _ ⟨rfl, rfl⟩; dsimp only)) | (with_reducible refine Keep.last ?_) | (with_reducible refine Keep.below (by assumption) ?_) | (with_reducible refine Keep.kept (by assumption) ?_) | (with_reducible refine Keep.alloc ?_) | (with_reducible refine Keep.same ?_) | ((with_reducible refine WpH.here ?_); first | (refine WpH.nil ?_; refine NoP.normal ?_) | (refine WpH.load (by rfl) (by rfl) (by go_simp; rfl) ?_; simp only [Act.put, List.setIfInBounds_toArray, List.set_cons_zero, List.set_cons_succ]) | (refine WpH.loadT (by rfl) (by rfl) (by go_simp; rfl) (by rintro _ _ ⟨⟩; exact ⟨_, _, _, _, _, _, by rfl, by assumption, by assumption⟩) ?_; simp only [Act.put, List.setIfInBounds_toArray, List.set_cons_zero, List.set_cons_succ]) | (refine WpH.pure (by rfl) (fun w_ => by go_simp; (try go_bits); rfl) ?_; simp only [Act.put, List.setIfInBounds_toArray, List.set_cons_zero, List.set_cons_succ]) | (refine WpH.wild1 (by rfl) (fun _ _ => ?_)) | (refine WpH.skip (by rfl) ?_; simp only [Act.put, List.setIfInBounds_toArray, List.set_cons_zero, List.set_cons_succ])) | go_values | go_skip | go_guarded | go_step | go_upon | go_back)
      refine bodyPost_ret (v := .tuple #[.agg #[.int .i64 1, .int .i64 (o.at_ % ((n : Int) + 1)), .int .i32 o.char, .int .i64 r], .bool true]) ?_ rfl ⟨rfl, ?_⟩
      · simp [results, Tryd.results35, go_sem]
      · (repeat' (first | (with_reducible exact Below.refl _ _) | (with_reducible assumption) | (with_reducible refine balloc ?_) | (with_reducible refine bdrew ?_) | (with_reducible refine bset ?_ (by (try dsimp only); omega)) | (with_reducible refine bvia ?_ (by assumption))))
  · by_cases hn0 : n = 0
    · have e1 : fitOf o n r = (⟨1 + o.kind % 3, o.at_, 0, r⟩, false) := by unfold fitOf; rw [if_neg hk, if_pos hn0]
      rw [e1]
      subst hn0
      clear e1
      dsimp only
      go_enter Tryd.func35, Tryd.ntmps35
      repeat' (first | (go_at_call 23; go_must (first | ((with_reducible refine Calls.mono (HW1.out _) ?_); rintro _ _ ⟨rfl, rfl⟩; dsimp only) | ((with_reducible refine Calls.mono (HW2.out _) ?_); rintro _ _ ⟨rfl, rfl⟩; dsimp only))) | (go_at_call 85; go_must ((with_reducible refine Calls.mono (HR.out _) ?_); rintro _ _ ⟨rfl, rfl⟩; dsimp only)) | (with_reducible refine Keep.last ?_) | (with_reducible refine Keep.below (by assumption) ?_) | (with_reducible refine Keep.kept (by assumption) ?_) | (with_reducible refine Keep.alloc ?_) | (with_reducible refine Keep.same ?_) | ((with_reducible refine WpH.here ?_); first | (refine WpH.nil ?_; refine NoP.normal ?_) | (refine WpH.load (by rfl) (by rfl) (by go_simp; rfl) ?_; simp only [Act.put, List.setIfInBounds_toArray, List.set_cons_zero, List.set_cons_succ]) | (refine WpH.loadT (by rfl) (by rfl) (by go_simp; rfl) (by rintro _ _ ⟨⟩; exact ⟨_, _, _, _, _, _, by rfl, by assumption, by assumption⟩) ?_; simp only [Act.put, List.setIfInBounds_toArray, List.set_cons_zero, List.set_cons_succ]) | (refine WpH.pure (by rfl) (fun w_ => by go_simp; (try go_bits); rfl) ?_; simp only [Act.put, List.setIfInBounds_toArray, List.set_cons_zero, List.set_cons_succ]) | (refine WpH.wild1 (by rfl) (fun _ _ => ?_)) | (refine WpH.skip (by rfl) ?_; simp only [Act.put, List.setIfInBounds_toArray, List.set_cons_zero, List.set_cons_succ])) | go_values | go_skip | go_guarded | go_step | go_upon | go_back)
      refine bodyPost_ret (v := .tuple #[.agg #[.int .i64 (1 + o.kind % 3), .int .i64 o.at_, .int .i32 0, .int .i64 r], .bool false]) ?_ rfl ⟨rfl, ?_⟩
      · simp [results, Tryd.results35, go_sem]
      · (repeat' (first | (with_reducible exact Below.refl _ _) | (with_reducible assumption) | (with_reducible refine balloc ?_) | (with_reducible refine bdrew ?_) | (with_reducible refine bset ?_ (by (try dsimp only); omega)) | (with_reducible refine bvia ?_ (by assumption))))
    · have e1 : fitOf o n r = (⟨1 + o.kind % 3, o.at_ % n, 0, r⟩, true) := by unfold fitOf; rw [if_neg hk, if_neg hn0]
      rw [e1]
      have HW2 := hid (fun W => within_any o.at_ (n : Int) (by omega) (by omega) W)
      have hn1 : ¬ ((n : Int) = 0) := by omega
      clear e1 hn0
      dsimp only
      go_enter Tryd.func35, Tryd.ntmps35
      repeat' (first | (go_at_call 23; go_must (first | ((with_reducible refine Calls.mono (HW1.out _) ?_); rintro _ _ ⟨rfl, rfl⟩; dsimp only) | ((with_reducible refine Calls.mono (HW2.out _) ?_); rintro _ _ ⟨rfl, rfl⟩; dsimp only))) | (go_at_call 85; go_must ((with_reducible refine Calls.mono (HR.out _) ?_); rintro _ _ ⟨rfl, rfl⟩; dsimp only)) | (with_reducible refine Keep.last ?_) | (with_reducible refine Keep.below (by assumption) ?_) | (with_reducible refine Keep.kept (by assumption) ?_) | (with_reducible refine Keep.alloc ?_) | (with_reducible refine Keep.same ?_) | ((with_reducible refine WpH.here ?_); first | (refine WpH.nil ?_; refine NoP.normal ?_) | (refine WpH.load (by rfl) (by rfl) (by go_simp; rfl) ?_; simp only [Act.put, List.setIfInBounds_toArray, List.set_cons_zero, List.set_cons_succ]) | (refine WpH.loadT (by rfl) (by rfl) (by go_simp; rfl) (by rintro _ _ ⟨⟩; exact ⟨_, _, _, _, _, _, by rfl, by assumption, by assumption⟩) ?_; simp only [Act.put, List.setIfInBounds_toArray, List.set_cons_zero, List.set_cons_succ]) | (refine WpH.pure (by rfl) (fun w_ => by go_simp; (try go_bits); rfl) ?_; simp only [Act.put, List.setIfInBounds_toArray, List.set_cons_zero, List.set_cons_succ]) | (refine WpH.wild1 (by rfl) (fun _ _ => ?_)) | (refine WpH.skip (by rfl) ?_; simp only [Act.put, List.setIfInBounds_toArray, List.set_cons_zero, List.set_cons_succ])) | go_values | go_skip | go_guarded | go_step | go_upon | go_back)
      refine bodyPost_ret (v := .tuple #[.agg #[.int .i64 (1 + o.kind % 3), .int .i64 (o.at_ % n), .int .i32 0, .int .i64 r], .bool true]) ?_ rfl ⟨rfl, ?_⟩
      · simp [results, Tryd.results35, go_sem]
      · (repeat' (first | (with_reducible exact Below.refl _ _) | (with_reducible assumption) | (with_reducible refine balloc ?_) | (with_reducible refine bdrew ?_) | (with_reducible refine bset ?_ (by (try dsimp only); omega)) | (with_reducible refine bvia ?_ (by assumption))))
theorem tdiv_in (x : Int) (m : Int) (hm : 2 ≤ m) (hx : I64 x) : -9223372036854775808 ≤ x.tdiv m ∧ x.tdiv m ≤ 9223372036854775807 := by
  have h1 := hx.1
  have h2 := hx.2
  have h3 : (x.tdiv m).natAbs ≤ x.natAbs / 2 := by
    rw [Int.natAbs_tdiv]
    exact Nat.div_le_div_left (by omega) (by decide)
  omega
def threeStep (a b c : Int) : Int := if c = a ∨ c = b then c + 1 else c
def threeIter (a b c : Int) : Nat → Int
  | 0 => c
  | n + 1 => threeStep a b (threeStep a b (threeIter a b c n))
theorem three_eq (x : Int) : threeOf x = (x % 8, if x % 8 ≤ x.tdiv 8 % 7 then x.tdiv 8 % 7 + 1 else x.tdiv 8 % 7, threeIter (x % 8) (if x % 8 ≤ x.tdiv 8 % 7 then x.tdiv 8 % 7 + 1 else x.tdiv 8 % 7) (x.tdiv 56 % 6) 2) := rfl
theorem threeStep_le (a b c : Int) : c ≤ threeStep a b c ∧ threeStep a b c ≤ c + 1 := by unfold threeStep; split <;> omega
theorem threeIter_le (a b c : Int) (n : Nat) : c ≤ threeIter a b c n ∧ threeIter a b c n ≤ c + 2 * n := by
  induction n with
  | zero => simp [threeIter]
  | succ n ih =>
    have h1 := threeStep_le a b (threeIter a b c n)
    have h2 := threeStep_le a b (threeStep a b (threeIter a b c n))
    simp only [threeIter]
    omega
set_option maxRecDepth 20000 in
set_option maxHeartbeats 2000000 in
theorem three_any (x : Int) (w : World) (hx : I64 x) : Calls Tryd.prog 34 #[.int .i64 x] w fun e w' => e = .returned (.agg #[.int .i64 (threeOf x).1, .int .i64 (threeOf x).2.1, .int .i64 (threeOf x).2.2]) ∧ Below w.heap.size w w' := by
  have HW1 := hid (fun W => within_any x 8 (by decide) (by decide) W)
  have HW2 := hid (fun W => within_any (x.tdiv 8) 7 (by decide) (by decide) W)
  have HW3 := hid (fun W => within_any (x.tdiv 56) 6 (by decide) (by decide) W)
  have w8 : wrap64 (x.tdiv 8) = x.tdiv 8 := IntWalk.wrap64_in _ (tdiv_in x 8 (by decide) hx)
  have w56 : wrap64 (x.tdiv 56) = x.tdiv 56 := IntWalk.wrap64_in _ (tdiv_in x 56 (by decide) hx)
  rw [three_eq]
  have ha : 0 ≤ x % 8 ∧ x % 8 < 8 := by omega
  have hb : 0 ≤ x.tdiv 8 % 7 ∧ x.tdiv 8 % 7 < 7 := by omega
  have hc : 0 ≤ x.tdiv 56 % 6 ∧ x.tdiv 56 % 6 < 6 := by omega
  generalize x % 8 = a at *
  generalize x.tdiv 8 % 7 = b0 at *
  generalize x.tdiv 56 % 6 = c0 at *
  obtain ⟨ha1, ha2⟩ := ha
  obtain ⟨hb1, hb2⟩ := hb
  obtain ⟨hc1, hc2⟩ := hc
  have hbx : ∃ b, (if a ≤ b0 then b0 + 1 else b0) = b ∧ 0 ≤ b ∧ b < 8 := ⟨_, rfl, by split <;> omega, by split <;> omega⟩
  obtain ⟨b, hbe, hb3, hb4⟩ := hbx
  rw [hbe]
  have e1 : Below w.heap.size w (w.alloc (.cells #[.int .i64 0, .int .i64 0, .int .i64 0] 64)) := balloc (Below.refl _ _)
  by_cases hab : a ≤ b0
  · rw [if_pos hab] at hbe
    subst hbe
    go_enter Tryd.func34, Tryd.ntmps34
    repeat' (first | (go_at_call 23; go_must (first | ((with_reducible refine Calls.mono (HW1.out _) ?_); rintro _ _ ⟨rfl, rfl⟩; dsimp only) | ((with_reducible refine Calls.mono (HW2.out _) ?_); rintro _ _ ⟨rfl, rfl⟩; dsimp only) | ((with_reducible refine Calls.mono (HW3.out _) ?_); rintro _ _ ⟨rfl, rfl⟩; dsimp only))) | (with_reducible refine Keep.last ?_) | (with_reducible refine Keep.below (by assumption) ?_) | (with_reducible refine Keep.kept (by assumption) ?_) | (with_reducible refine Keep.alloc ?_) | (with_reducible refine Keep.same ?_) | ((with_reducible refine WpH.here ?_); first | (refine WpH.nil ?_; refine NoP.normal ?_) | (refine WpH.load (by rfl) (by rfl) (by go_simp; rfl) ?_; simp only [Act.put, List.setIfInBounds_toArray, List.set_cons_zero, List.set_cons_succ]) | (refine WpH.loadT (by rfl) (by rfl) (by go_simp; rfl) (by rintro _ _ ⟨⟩; exact ⟨_, _, _, _, _, _, by rfl, by assumption, by assumption⟩) ?_; simp only [Act.put, List.setIfInBounds_toArray, List.set_cons_zero, List.set_cons_succ]) | (refine WpH.pure (by rfl) (fun w_ => by go_simp; (try go_bits); rfl) ?_; simp only [Act.put, List.setIfInBounds_toArray, List.set_cons_zero, List.set_cons_succ]) | (refine WpH.wild1 (by rfl) (fun _ _ => ?_)) | (refine WpH.skip (by rfl) ?_; simp only [Act.put, List.setIfInBounds_toArray, List.set_cons_zero, List.set_cons_succ])) | go_values | go_skip | go_guarded | go_step | go_upon | go_back)
    clear HW1 HW2 HW3 w8 w56 hx
    go_loopw [5, 6] (fun c k wr => ∃ j : Nat, k = .int .i64 j ∧ j ≤ 2 ∧ c = .int .i64 (threeIter a (b0 + 1) c0 j) ∧ wr = w.alloc (.cells #[.int .i64 0, .int .i64 0, .int .i64 0] 64)) (fun _ k _ => 2 - (intOf k).toNat)
    case atStart => exact ⟨0, rfl, by omega, rfl, rfl⟩
    case round =>
      obtain ⟨j, rfl, hj, rfl, rfl⟩ := hrel
      have hle := threeIter_le a (b0 + 1) c0 j
      by_cases hj2 : j < 2
      · have hnx : threeIter a (b0 + 1) c0 (j + 1) = threeStep a (b0 + 1) (threeStep a (b0 + 1) (threeIter a (b0 + 1) c0 j)) := rfl
        obtain ⟨hl1, hl2⟩ := hle
        generalize threeIter a (b0 + 1) c0 j = c at *
        have Hn := hid hnx
        clear hnx
        have hl3 : c ≤ 10 := by omega
        have hl4 : 0 ≤ c := by omega
        have hj' : (j : Int) < 2 := by omega
        clear hl1 hl2
        repeat' (first | (with_reducible refine Keep.last ?_) | (with_reducible refine Keep.below (by assumption) ?_) | (with_reducible refine Keep.kept (by assumption) ?_) | (with_reducible refine Keep.alloc ?_) | (with_reducible refine Keep.same ?_) | ((with_reducible refine WpH.here ?_); first | (refine WpH.nil ?_; refine NoP.normal ?_) | (refine WpH.load (by rfl) (by rfl) (by go_simp; rfl) ?_; simp only [Act.put, List.setIfInBounds_toArray, List.set_cons_zero, List.set_cons_succ]) | (refine WpH.loadT (by rfl) (by rfl) (by go_simp; rfl) (by rintro _ _ ⟨⟩; exact ⟨_, _, _, _, _, _, by rfl, by assumption, by assumption⟩) ?_; simp only [Act.put, List.setIfInBounds_toArray, List.set_cons_zero, List.set_cons_succ]) | (refine WpH.pure (by rfl) (fun w_ => by go_simp; (try go_bits); rfl) ?_; simp only [Act.put, List.setIfInBounds_toArray, List.set_cons_zero, List.set_cons_succ]) | (refine WpH.wild1 (by rfl) (fun _ _ => ?_)) | (refine WpH.skip (by rfl) ?_; simp only [Act.put, List.setIfInBounds_toArray, List.set_cons_zero, List.set_cons_succ])) | go_values | go_skip | go_guarded | go_step | go_upon | go_back)
        all_goals
          refine ⟨⟨j + 1, by go_num, by omega, ?_, by trivial⟩, by simp [intOf]; omega⟩
          rw [Hn.out]
          clear Hn
          congr 1
          unfold threeStep
          try simp only [beq_iff_eq, beq_eq_false_iff_ne, ne_eq] at *
          first
            | (repeat' split) <;> omega
            | (go_goals; fail)
      · obtain rfl : j = 2 := by omega
        repeat' (first | (with_reducible refine Keep.last ?_) | (with_reducible refine Keep.below (by assumption) ?_) | (with_reducible refine Keep.kept (by assumption) ?_) | (with_reducible refine Keep.alloc ?_) | (with_reducible refine Keep.same ?_) | ((with_reducible refine WpH.here ?_); first | (refine WpH.nil ?_; refine NoP.normal ?_) | (refine WpH.load (by rfl) (by rfl) (by go_simp; rfl) ?_; simp only [Act.put, List.setIfInBounds_toArray, List.set_cons_zero, List.set_cons_succ]) | (refine WpH.loadT (by rfl) (by rfl) (by go_simp; rfl) (by rintro _ _ ⟨⟩; exact ⟨_, _, _, _, _, _, by rfl, by assumption, by assumption⟩) ?_; simp only [Act.put, List.setIfInBounds_toArray, List.set_cons_zero, List.set_cons_succ]) | (refine WpH.pure (by rfl) (fun w_ => by go_simp; (try go_bits); rfl) ?_; simp only [Act.put, List.setIfInBounds_toArray, List.set_cons_zero, List.set_cons_succ]) | (refine WpH.wild1 (by rfl) (fun _ _ => ?_)) | (refine WpH.skip (by rfl) ?_; simp only [Act.put, List.setIfInBounds_toArray, List.set_cons_zero, List.set_cons_succ])) | go_values | go_skip | go_guarded | go_step | go_upon | go_back)
        all_goals
          refine bodyPost_ret (v := .agg #[.int .i64 a, .int .i64 (b0 + 1), .int .i64 (threeIter a (b0 + 1) c0 2)]) (by simp [results, Tryd.results34, go_sem]) rfl ⟨rfl, ?_⟩
          exact balloc (Below.refl _ _)
  · rw [if_neg hab] at hbe
    subst hbe
    go_enter Tryd.func34, Tryd.ntmps34
    repeat' (first | (go_at_call 23; go_must (first | ((with_reducible refine Calls.mono (HW1.out _) ?_); rintro _ _ ⟨rfl, rfl⟩; dsimp only) | ((with_reducible refine Calls.mono (HW2.out _) ?_); rintro _ _ ⟨rfl, rfl⟩; dsimp only) | ((with_reducible refine Calls.mono (HW3.out _) ?_); rintro _ _ ⟨rfl, rfl⟩; dsimp only))) | (with_reducible refine Keep.last ?_) | (with_reducible refine Keep.below (by assumption) ?_) | (with_reducible refine Keep.kept (by assumption) ?_) | (with_reducible refine Keep.alloc ?_) | (with_reducible refine Keep.same ?_) | ((with_reducible refine WpH.here ?_); first | (refine WpH.nil ?_; refine NoP.normal ?_) | (refine WpH.load (by rfl) (by rfl) (by go_simp; rfl) ?_; simp only [Act.put, List.setIfInBounds_toArray, List.set_cons_zero, List.set_cons_succ]) | (refine WpH.loadT (by rfl) (by rfl) (by go_simp; rfl) (by rintro _ _ ⟨⟩; exact ⟨_, _, _, _, _, _, by rfl, by assumption, by assumption⟩) ?_; simp only [Act.put, List.setIfInBounds_toArray, List.set_cons_zero, List.set_cons_succ]) | (refine WpH.pure (by rfl) (fun w_ => by go_simp; (try go_bits); rfl) ?_; simp only [Act.put, List.setIfInBounds_toArray, List.set_cons_zero, List.set_cons_succ]) | (refine WpH.wild1 (by rfl) (fun _ _ => ?_)) | (refine WpH.skip (by rfl) ?_; simp only [Act.put, List.setIfInBounds_toArray, List.set_cons_zero, List.set_cons_succ])) | go_values | go_skip | go_guarded | go_step | go_upon | go_back)
    clear HW1 HW2 HW3 w8 w56 hx
    go_loopw [5, 6] (fun c k wr => ∃ j : Nat, k = .int .i64 j ∧ j ≤ 2 ∧ c = .int .i64 (threeIter a (b0) c0 j) ∧ wr = w.alloc (.cells #[.int .i64 0, .int .i64 0, .int .i64 0] 64)) (fun _ k _ => 2 - (intOf k).toNat)
    case atStart => exact ⟨0, rfl, by omega, rfl, rfl⟩
    case round =>
      obtain ⟨j, rfl, hj, rfl, rfl⟩ := hrel
      have hle := threeIter_le a (b0) c0 j
      by_cases hj2 : j < 2
      · have hnx : threeIter a (b0) c0 (j + 1) = threeStep a (b0) (threeStep a (b0) (threeIter a (b0) c0 j)) := rfl
        obtain ⟨hl1, hl2⟩ := hle
        generalize threeIter a (b0) c0 j = c at *
        have Hn := hid hnx
        clear hnx
        have hl3 : c ≤ 10 := by omega
        have hl4 : 0 ≤ c := by omega
        have hj' : (j : Int) < 2 := by omega
        clear hl1 hl2
        repeat' (first | (with_reducible refine Keep.last ?_) | (with_reducible refine Keep.below (by assumption) ?_) | (with_reducible refine Keep.kept (by assumption) ?_) | (with_reducible refine Keep.alloc ?_) | (with_reducible refine Keep.same ?_) | ((with_reducible refine WpH.here ?_); first | (refine WpH.nil ?_; refine NoP.normal ?_) | (refine WpH.load (by rfl) (by rfl) (by go_simp; rfl) ?_; simp only [Act.put, List.setIfInBounds_toArray, List.set_cons_zero, List.set_cons_succ]) | (refine WpH.loadT (by rfl) (by rfl) (by go_simp; rfl) (by rintro _ _ ⟨⟩; exact ⟨_, _, _, _, _, _, by rfl, by assumption, by assumption⟩) ?_; simp only [Act.put, List.setIfInBounds_toArray, List.set_cons_zero, List.set_cons_succ]) | (refine WpH.pure (by rfl) (fun w_ => by go_simp; (try go_bits); rfl) ?_; simp only [Act.put, List.setIfInBounds_toArray, List.set_cons_zero, List.set_cons_succ]) | (refine WpH.wild1 (by rfl) (fun _ _ => ?_)) | (refine WpH.skip (by rfl) ?_; simp only [Act.put, List.setIfInBounds_toArray, List.set_cons_zero, List.set_cons_succ])) | go_values | go_skip | go_guarded | go_step | go_upon | go_back)
        all_goals
          refine ⟨⟨j + 1, by go_num, by omega, ?_, by trivial⟩, by simp [intOf]; omega⟩
          rw [Hn.out]
          clear Hn
          congr 1
          unfold threeStep
          try simp only [beq_iff_eq, beq_eq_false_iff_ne, ne_eq] at *
          first
            | (repeat' split) <;> omega
            | (go_goals; fail)
      · obtain rfl : j = 2 := by omega
        repeat' (first | (with_reducible refine Keep.last ?_) | (with_reducible refine Keep.below (by assumption) ?_) | (with_reducible refine Keep.kept (by assumption) ?_) | (with_reducible refine Keep.alloc ?_) | (with_reducible refine Keep.same ?_) | ((with_reducible refine WpH.here ?_); first | (refine WpH.nil ?_; refine NoP.normal ?_) | (refine WpH.load (by rfl) (by rfl) (by go_simp; rfl) ?_; simp only [Act.put, List.setIfInBounds_toArray, List.set_cons_zero, List.set_cons_succ]) | (refine WpH.loadT (by rfl) (by rfl) (by go_simp; rfl) (by rintro _ _ ⟨⟩; exact ⟨_, _, _, _, _, _, by rfl, by assumption, by assumption⟩) ?_; simp only [Act.put, List.setIfInBounds_toArray, List.set_cons_zero, List.set_cons_succ]) | (refine WpH.pure (by rfl) (fun w_ => by go_simp; (try go_bits); rfl) ?_; simp only [Act.put, List.setIfInBounds_toArray, List.set_cons_zero, List.set_cons_succ]) | (refine WpH.wild1 (by rfl) (fun _ _ => ?_)) | (refine WpH.skip (by rfl) ?_; simp only [Act.put, List.setIfInBounds_toArray, List.set_cons_zero, List.set_cons_succ])) | go_values | go_skip | go_guarded | go_step | go_upon | go_back)
        all_goals
          refine bodyPost_ret (v := .agg #[.int .i64 a, .int .i64 (b0), .int .i64 (threeIter a (b0) c0 2)]) (by simp [results, Tryd.results34, go_sem]) rfl ⟨rfl, ?_⟩
          exact balloc (Below.refl _ _)
set_option maxRecDepth 20000 in
set_option maxHeartbeats 2000000 in
theorem row7_any (w : World) (A : Option Addr) (n c : Nat) (ls : List El) (SB : Nat → Prop) (hr : Row w SB A n c ls) : Calls Tryd.prog 33 #[.slice A n c] w fun e w' => ∃ A' c', e = .returned (.slice A' (row7 (ls.take 60)).length c') ∧ Own w' w.heap.size A' (row7 (ls.take 60)).length c' (row7 (ls.take 60)) ∧ Below w.heap.size w w' := by
  have Hr := hid hr
  have hnl := hr.1
  have hnx := hr.len_le
  unfold maxLen at hnx
  clear hr
  go_enter Tryd.func33, Tryd.ntmps33
  repeat' (first | (with_reducible refine Keep.last ?_) | (with_reducible refine Keep.below (by assumption) ?_) | (with_reducible refine Keep.kept (by assumption) ?_) | (with_reducible refine Keep.alloc ?_) | (with_reducible refine Keep.same ?_) | ((with_reducible refine WpH.here ?_); first | (refine WpH.nil ?_; refine NoP.normal ?_) | (refine WpH.load (by rfl) (by rfl) (by go_simp; rfl) ?_; simp only [Act.put, List.setIfInBounds_toArray, List.set_cons_zero, List.set_cons_succ]) | (refine WpH.loadT (by rfl) (by rfl) (by go_simp; rfl) (by rintro _ _ ⟨⟩; exact ⟨_, _, _, _, _, _, by rfl, by assumption, by assumption⟩) ?_; simp only [Act.put, List.setIfInBounds_toArray, List.set_cons_zero, List.set_cons_succ]) | (refine WpH.pure (by rfl) (fun w_ => by go_simp; (try go_bits); rfl) ?_; simp only [Act.put, List.setIfInBounds_toArray, List.set_cons_zero, List.set_cons_succ]) | (refine WpH.wild1 (by rfl) (fun _ _ => ?_)) | (refine WpH.skip (by rfl) ?_; simp only [Act.put, List.setIfInBounds_toArray, List.set_cons_zero, List.set_cons_succ])) | go_values | go_skip | go_guarded | go_step | go_upon | go_back)
  go_loopw [3, 4] (fun o i wr => ∃ (k : Nat) (A' : Option Addr) (c' : Nat), o = .slice A' (row7 (ls.take k)).length c' ∧ i = .int .i64 k ∧ k ≤ n ∧ k ≤ 60 ∧ Own wr w.heap.size A' (row7 (ls.take k)).length c' (row7 (ls.take k)) ∧ Below w.heap.size w wr) (fun _ i _ => n - (intOf i).toNat)
  case atStart => exact ⟨0, none, 0, rfl, rfl, Nat.zero_le _, Nat.zero_le _, Own.nil _ _, Below.refl _ _⟩
  case round =>
    obtain ⟨k, A', c', rfl, rfl, hk, hk2, hown, hbr⟩ := hrel
    by_cases hlt : k < n ∧ k < 60
    · obtain ⟨hlt1, hlt2⟩ := hlt
      obtain ⟨b, off, e, rfl, hS, he, p0, p1, p2, p3, p4⟩ := ((Hr.out.step hbr)).at_ hlt1
      have hbl := lt_of_cell' p0
      have HR := hid (fun W => ref5Right_any e.char W)
      have HW := hid (fun W => within_any e.hides 5 (by decide) (by decide) W)
      have htk := take_snoc_el he
      have hlk : (ls.take k).length = k := by rw [List.length_take]; omega
      have hsn := row7_snoc (ls.take k) e
      rw [← htk, hlk] at hsn
      have hr60 := row7_length (ls.take k)
      rw [hlk] at hr60
      unfold row7f at hsn
      dsimp only at hsn
      have Hsn := hid hsn
      clear hsn htk hlk he
      by_cases hc : rightC e.char = true
      · rw [hc] at HR
        have eX : Below wr.heap.size wr (wr.alloc (.cells #[.int .i64 3, .int .i64 0, .int .i64 (k + 1), .int .i32 e.char, .int .i64 (e.hides % 5 - 2)] 36)) := (Below.refl _ _).alloc (Nat.le_refl _) _
        have eY := balloc (o := .cells #[.int .i64 3, .int .i64 0, .int .i64 (k + 1), .int .i32 e.char, .int .i64 (e.hides % 5 - 2)] 36) eX
        have hrow1 := Row.one (wr.alloc (.cells #[.int .i64 3, .int .i64 0, .int .i64 (k + 1), .int .i32 e.char, .int .i64 (e.hides % 5 - 2)] 36)) ⟨3, 0, k + 1, e.char, e.hides % 5 - 2⟩
        rw [show (wr.alloc (.cells #[.int .i64 3, .int .i64 0, .int .i64 (k + 1), .int .i32 e.char, .int .i64 (e.hides % 5 - 2)] 36)).heap.size = wr.heap.size + 1 from Array.size_push _] at hrow1
        have hownY := hown.keep (S := fun _ => True) (Same.of_below eY) (fun _ _ => trivial)
        have hsY := Nat.le_trans hbr.size eY.size
        clear hown
        repeat' (first | (go_at_call 85; go_must ((with_reducible refine Calls.mono (HR.out _) ?_); rintro _ _ ⟨rfl, rfl⟩; dsimp only)) | (go_at_call 23; go_must ((with_reducible refine Calls.mono (HW.out _) ?_); rintro _ _ ⟨rfl, rfl⟩; dsimp only)) | ((with_reducible refine append_here ?_); refine wp_append_el w.heap.size A' _ (row7 (ls.take k)).length c' 1 1 (row7 (ls.take k)) [⟨3, 0, k + 1, e.char, e.hides % 5 - 2⟩] (fun _ => True) (by rfl) (by rfl) hownY hrow1 hsY (by omega) ?_; intro A2 c2 w4 hown4 hb4 hsm4 hat4 hz4) | (with_reducible refine Keep.last ?_) | (with_reducible refine Keep.below (by assumption) ?_) | (with_reducible refine Keep.kept (by assumption) ?_) | (with_reducible refine Keep.alloc ?_) | (with_reducible refine Keep.same ?_) | ((with_reducible refine WpH.here ?_); first | (refine WpH.nil ?_; refine NoP.normal ?_) | (refine WpH.load (by rfl) (by rfl) (by go_simp; rfl) ?_; simp only [Act.put, List.setIfInBounds_toArray, List.set_cons_zero, List.set_cons_succ]) | (refine WpH.loadT (by rfl) (by rfl) (by go_simp; rfl) (by rintro _ _ ⟨⟩; exact ⟨_, _, _, _, _, _, by rfl, by assumption, by assumption⟩) ?_; simp only [Act.put, List.setIfInBounds_toArray, List.set_cons_zero, List.set_cons_succ]) | (refine WpH.pure (by rfl) (fun w_ => by go_simp; (try go_bits); rfl) ?_; simp only [Act.put, List.setIfInBounds_toArray, List.set_cons_zero, List.set_cons_succ]) | (refine WpH.wild1 (by rfl) (fun _ _ => ?_)) | (refine WpH.skip (by rfl) ?_; simp only [Act.put, List.setIfInBounds_toArray, List.set_cons_zero, List.set_cons_succ])) | go_values | go_skip | go_guarded | go_step | go_upon | go_back)
        go_roundw
        case rel =>
          refine ⟨k + 1, A2, c2, ?_, by go_num, by omega, by omega, ?_, (hbr.trans (eY.mono hbr.size)).trans hb4⟩
          · rw [Hsn.out, if_pos hc, List.length_append]
            rfl
          · rw [Hsn.out, if_pos hc, List.length_append]
            exact hown4
        case measure => simp [intOf]; omega
      · have hc' : rightC e.char = false := by simpa using hc
        rw [hc'] at HR
        have eX : Below wr.heap.size wr (wr.alloc (.cells #[.int .i64 e.epoch, .int .i64 e.rep, .int .i64 e.num, .int .i32 e.char, .int .i64 e.hides] 36)) := (Below.refl _ _).alloc (Nat.le_refl _) _
        have hownX := hown.keep (S := fun _ => True) (Same.of_below eX) (fun _ _ => trivial)
        clear hown
        repeat' (first | (go_at_call 85; go_must ((with_reducible refine Calls.mono (HR.out _) ?_); rintro _ _ ⟨rfl, rfl⟩; dsimp only)) | (with_reducible refine Keep.last ?_) | (with_reducible refine Keep.below (by assumption) ?_) | (with_reducible refine Keep.kept (by assumption) ?_) | (with_reducible refine Keep.alloc ?_) | (with_reducible refine Keep.same ?_) | ((with_reducible refine WpH.here ?_); first | (refine WpH.nil ?_; refine NoP.normal ?_) | (refine WpH.load (by rfl) (by rfl) (by go_simp; rfl) ?_; simp only [Act.put, List.setIfInBounds_toArray, List.set_cons_zero, List.set_cons_succ]) | (refine WpH.loadT (by rfl) (by rfl) (by go_simp; rfl) (by rintro _ _ ⟨⟩; exact ⟨_, _, _, _, _, _, by rfl, by assumption, by assumption⟩) ?_; simp only [Act.put, List.setIfInBounds_toArray, List.set_cons_zero, List.set_cons_succ]) | (refine WpH.pure (by rfl) (fun w_ => by go_simp; (try go_bits); rfl) ?_; simp only [Act.put, List.setIfInBounds_toArray, List.set_cons_zero, List.set_cons_succ]) | (refine WpH.wild1 (by rfl) (fun _ _ => ?_)) | (refine WpH.skip (by rfl) ?_; simp only [Act.put, List.setIfInBounds_toArray, List.set_cons_zero, List.set_cons_succ])) | go_values | go_skip | go_guarded | go_step | go_upon | go_back)
        have hs : row7 (ls.take (k + 1)) = row7 (ls.take k) := by rw [Hsn.out, hc']; simp
        go_roundw
        case rel =>
          refine ⟨k + 1, A', c', by rw [hs], by go_num, by omega, by omega, by rw [hs]; exact hownX, hbr.trans (eX.mono hbr.size)⟩
        case measure => simp [intOf]; omega
    · have ht : ls.take k = ls.take 60 := by
        by_cases h60 : k = 60
        · rw [h60]
        · rw [List.take_of_length_le (by omega), List.take_of_length_le (by omega)]
      repeat' (first | (with_reducible refine Keep.last ?_) | (with_reducible refine Keep.below (by assumption) ?_) | (with_reducible refine Keep.kept (by assumption) ?_) | (with_reducible refine Keep.alloc ?_) | (with_reducible refine Keep.same ?_) | ((with_reducible refine WpH.here ?_); first | (refine WpH.nil ?_; refine NoP.normal ?_) | (refine WpH.load (by rfl) (by rfl) (by go_simp; rfl) ?_; simp only [Act.put, List.setIfInBounds_toArray, List.set_cons_zero, List.set_cons_succ]) | (refine WpH.loadT (by rfl) (by rfl) (by go_simp; rfl) (by rintro _ _ ⟨⟩; exact ⟨_, _, _, _, _, _, by rfl, by assumption, by assumption⟩) ?_; simp only [Act.put, List.setIfInBounds_toArray, List.set_cons_zero, List.set_cons_succ]) | (refine WpH.pure (by rfl) (fun w_ => by go_simp; (try go_bits); rfl) ?_; simp only [Act.put, List.setIfInBounds_toArray, List.set_cons_zero, List.set_cons_succ]) | (refine WpH.wild1 (by rfl) (fun _ _ => ?_)) | (refine WpH.skip (by rfl) ?_; simp only [Act.put, List.setIfInBounds_toArray, List.set_cons_zero, List.set_cons_succ])) | go_values | go_skip | go_guarded | go_step | go_upon | go_back)
      all_goals
        go_ret
        rw [ht] at hown
        exact ⟨A', c', rfl, hown, hbr⟩
end Go.Proofs.YtogkbddniacgiaaDoor
