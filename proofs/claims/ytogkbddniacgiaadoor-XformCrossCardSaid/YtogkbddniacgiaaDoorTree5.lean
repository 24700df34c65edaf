/- Two trees and a leaf between them, whatever their heights: the walk of join, by induction on the heights. Conditions: as for made. -/
import Derived.Test.YtogkbddniacgiaaDoorTree4
namespace Go.Proofs.YtogkbddniacgiaaDoor
set_option linter.unusedSimpArgs false
set_option linter.unusedVariables false
open Go Go.RowKit

/-- what join is to do, at heights up to k -/
def JoinAt (k : Nat) : Prop := ∀ (l r : Tr) (pl pr : Option Addr) (A : Option Addr) (c : Nat) (row : List El) (S : Nat → Prop) (w : World), l.high + r.high ≤ k → IsTree w S l pl → IsTree w S r pr → Row w S A row.length c row → row ≠ [] →
    l.all.length + row.length + r.all.length ≤ 1099511627776 → Calls Tryd.prog 134 #[.pointer pl, .slice A row.length c, .pointer pr] w (TreeRet w S (Tr.joined l row r))

set_option maxRecDepth 100000 in
set_option maxHeartbeats 2000000 in
theorem join_1 (k : Nat) (ih : JoinAt k) (A : Option Addr) (c : Nat) (row : List El) (S : Nat → Prop) (w : World) (ll lr r : Tr) (lrow : List El) (pl pr : Option Addr) (hk : (Tr.node ll lrow lr).high + r.high ≤ k + 1) (hl : IsTree w S (.node ll lrow lr) pl) (hr : IsTree w S r pr)
    (hrow : Row w S A row.length c row) (hne : row ≠ []) (hbd : (Tr.node ll lrow lr).all.length + row.length + r.all.length ≤ 1099511627776) (c1 : (Tr.node ll lrow lr).high > r.high + 1) :
    Calls Tryd.prog 134 #[.pointer pl, .slice A row.length c, .pointer pr] w (TreeRet w S (Tr.joined (.node ll lrow lr) row r)) := by
  have h7 := hl.high_le
  have h8 := hr.high_le
  replace h7 := Nat.le_trans h7 (show _ ≤ 1099511627776 by omega)
  replace h8 := Nat.le_trans h8 (show _ ≤ 1099511627776 by omega)
  have hlt : lr.high + r.high ≤ k := by simp only [Tr.high] at hk; omega
  have IH := hid (ih lr r)
  clear ih hk
  obtain ⟨lne, lb, lA, ln, lc, lpl, lpr, rfl, lS, lr0, hll, hlr, lc0, lc1, lc2, lc3, lc4, lc5, lc6⟩ := id hl
  obtain rfl : ln = lrow.length := lr0.1.symm
  rw [all_node] at hbd
  go_enter Tryd.func134, Tryd.ntmps134
  repeat' (first | (go_at_call 143; first | ((with_reducible refine (high_any _ _ S _ (by first | exact hl | exact hl.drew | exact hl.drew.drew)).mono ?_); rintro _ _ ⟨rfl, rfl⟩; dsimp only) | ((with_reducible refine (high_any _ _ S _ (by first | exact hr | exact hr.drew | exact hr.drew.drew)).mono ?_); rintro _ _ ⟨rfl, rfl⟩; dsimp only)) | ((with_reducible refine region_at 2 ?_); refine wp_region_order [(0, true, false), (1, true, false), (2, true, false), (3, true, false), (4, true, false), (5, true, false), (6, true, false), (7, true, false), (8, true, false), (9, true, false), (10, true, false), (11, true, false), (12, true, false), (13, true, false), (14, false, false), (15, false, false), (16, true, false)] (by kernel_rfl) (by kernel_rfl) (by kernel_rfl) rfl rfl ?_) | (go_at_call 134; (with_reducible refine (IH.out lpr pr A c row S _ hlt hlr.drew hr.drew hrow.drew hne (by omega)).mono ?_); rintro _ w1 ⟨p1, t1, rfl, ht1, hq1, hb1⟩; have hb1' := undrew hb1; have ht1' : IsTree w1 (Fr w S) _ p1 := ht1; have hq1' := hid hq1; have hal := hid hq1.all; clear hq1; dsimp only) | (go_at_call 144; (with_reducible refine (even_any ll _ lpl p1 lA _ lc lrow (Fr w S) _ (hll.drew.step hb1).fr ht1' (lr0.drew.step hb1).fr lne (by rw [hal.out]; simp only [List.length_append]; omega)).mono ?_); rintro _ w2 ⟨p2, t2, rfl, ht2, hq2, hb2⟩; dsimp only) | (with_reducible refine Keep.last ?_) | (with_reducible refine Keep.below (by assumption) ?_) | (with_reducible refine Keep.kept (by assumption) ?_) | (with_reducible refine Keep.alloc ?_) | (with_reducible refine Keep.same ?_) | ((with_reducible refine WpH.here ?_); first | (refine WpH.nil ?_; refine NoP.normal ?_) | (refine WpH.load (by rfl) (by rfl) (by go_simp; rfl) ?_; simp only [Act.put, List.setIfInBounds_toArray, List.set_cons_zero, List.set_cons_succ]) | (refine WpH.loadT (by rfl) (by rfl) (by go_simp; rfl) (by rintro _ _ ⟨⟩; exact ⟨_, _, _, _, _, _, by rfl, by assumption, by assumption⟩) ?_; simp only [Act.put, List.setIfInBounds_toArray, List.set_cons_zero, List.set_cons_succ]) | (refine WpH.pure (by rfl) (fun w_ => by go_simp; (try go_bits); rfl) ?_; simp only [Act.put, List.setIfInBounds_toArray, List.set_cons_zero, List.set_cons_succ]) | (refine WpH.wild1 (by rfl) (fun _ _ => ?_)) | (refine WpH.skip (by rfl) ?_; simp only [Act.put, List.setIfInBounds_toArray, List.set_cons_zero, List.set_cons_succ])) | go_values | go_skip | go_guarded | go_step | go_upon | go_back)
  go_ret
  refine TreeRet.of (ht2.more fun b _ h => Fr.shrink hb1'.size b h) ?_ (hb1'.trans (hb2.mono hb1'.size))
  have := hq1'.out
  simp only [Tr.joined, Tr.rows] at *
  rw [hq2, this]
  simp

set_option maxRecDepth 100000 in
set_option maxHeartbeats 2000000 in
theorem join_2 (k : Nat) (ih : JoinAt k) (A : Option Addr) (c : Nat) (row : List El) (S : Nat → Prop) (w : World) (l rl rr : Tr) (rrow : List El) (pl pr : Option Addr) (hk : l.high + (Tr.node rl rrow rr).high ≤ k + 1) (hl : IsTree w S l pl) (hr : IsTree w S (.node rl rrow rr) pr)
    (hrow : Row w S A row.length c row) (hne : row ≠ []) (hbd : l.all.length + row.length + (Tr.node rl rrow rr).all.length ≤ 1099511627776) (c1 : ¬ l.high > (Tr.node rl rrow rr).high + 1) (c2 : (Tr.node rl rrow rr).high > l.high + 1) :
    Calls Tryd.prog 134 #[.pointer pl, .slice A row.length c, .pointer pr] w (TreeRet w S (Tr.joined l row (.node rl rrow rr))) := by
  have h7 := hl.high_le
  have h8 := hr.high_le
  replace h7 := Nat.le_trans h7 (show _ ≤ 1099511627776 by omega)
  replace h8 := Nat.le_trans h8 (show _ ≤ 1099511627776 by omega)
  have hlt : l.high + rl.high ≤ k := by simp only [Tr.high] at hk; omega
  have IH := hid (ih l rl)
  clear ih hk
  obtain ⟨lne, lb, lA, ln, lc, lpl, lpr, rfl, lS, lr0, hll, hlr, lc0, lc1, lc2, lc3, lc4, lc5, lc6⟩ := id hr
  obtain rfl : ln = rrow.length := lr0.1.symm
  rw [all_node] at hbd
  go_enter Tryd.func134, Tryd.ntmps134
  repeat' (first | (go_at_call 143; first | ((with_reducible refine (high_any _ _ S _ (by first | exact hl | exact hl.drew | exact hl.drew.drew)).mono ?_); rintro _ _ ⟨rfl, rfl⟩; dsimp only) | ((with_reducible refine (high_any _ _ S _ (by first | exact hr | exact hr.drew | exact hr.drew.drew)).mono ?_); rintro _ _ ⟨rfl, rfl⟩; dsimp only)) | ((with_reducible refine region_at 4 ?_); refine wp_region_order [(0, true, false), (1, true, false), (2, true, false), (3, true, false), (4, true, false), (5, true, false), (7, true, false), (8, true, false), (9, true, false), (10, true, false), (11, true, false), (12, true, false), (13, true, false), (14, true, false), (6, false, false), (15, false, false), (16, true, false)] (by kernel_rfl) (by kernel_rfl) (by kernel_rfl) rfl rfl ?_) | (go_at_call 134; (with_reducible refine (IH.out pl lpl A c row S _ hlt hl.drew hll.drew hrow.drew hne (by omega)).mono ?_); rintro _ w1 ⟨p1, t1, rfl, ht1, hq1, hb1⟩; have hb1' := undrew hb1; have ht1' : IsTree w1 (Fr w S) _ p1 := ht1; have hq1' := hid hq1; have hal := hid hq1.all; clear hq1; dsimp only) | (go_at_call 144; (with_reducible refine (even_any _ rr p1 lpr lA _ lc rrow (Fr w S) _ ht1' (hlr.drew.step hb1).fr (lr0.drew.step hb1).fr lne (by rw [hal.out]; simp only [List.length_append]; omega)).mono ?_); rintro _ w2 ⟨p2, t2, rfl, ht2, hq2, hb2⟩; dsimp only) | (with_reducible refine Keep.last ?_) | (with_reducible refine Keep.below (by assumption) ?_) | (with_reducible refine Keep.kept (by assumption) ?_) | (with_reducible refine Keep.alloc ?_) | (with_reducible refine Keep.same ?_) | ((with_reducible refine WpH.here ?_); first | (refine WpH.nil ?_; refine NoP.normal ?_) | (refine WpH.load (by rfl) (by rfl) (by go_simp; rfl) ?_; simp only [Act.put, List.setIfInBounds_toArray, List.set_cons_zero, List.set_cons_succ]) | (refine WpH.loadT (by rfl) (by rfl) (by go_simp; rfl) (by rintro _ _ ⟨⟩; exact ⟨_, _, _, _, _, _, by rfl, by assumption, by assumption⟩) ?_; simp only [Act.put, List.setIfInBounds_toArray, List.set_cons_zero, List.set_cons_succ]) | (refine WpH.pure (by rfl) (fun w_ => by go_simp; (try go_bits); rfl) ?_; simp only [Act.put, List.setIfInBounds_toArray, List.set_cons_zero, List.set_cons_succ]) | (refine WpH.wild1 (by rfl) (fun _ _ => ?_)) | (refine WpH.skip (by rfl) ?_; simp only [Act.put, List.setIfInBounds_toArray, List.set_cons_zero, List.set_cons_succ])) | go_values | go_skip | go_guarded | go_step | go_upon | go_back)
  go_ret
  refine TreeRet.of (ht2.more fun b _ h => Fr.shrink hb1'.size b h) ?_ (hb1'.trans (hb2.mono hb1'.size))
  have := hq1'.out
  simp only [Tr.joined, Tr.rows] at *
  rw [hq2, this]
  simp

set_option maxRecDepth 100000 in
set_option maxHeartbeats 2000000 in
theorem join_3 (A : Option Addr) (c : Nat) (row : List El) (S : Nat → Prop) (w : World) (l r : Tr) (pl pr : Option Addr) (hl : IsTree w S l pl) (hr : IsTree w S r pr) (hrow : Row w S A row.length c row) (hne : row ≠ [])
    (hbd : l.all.length + row.length + r.all.length ≤ 1099511627776) (c1 : ¬ l.high > r.high + 1) (c2 : ¬ r.high > l.high + 1) :
    Calls Tryd.prog 134 #[.pointer pl, .slice A row.length c, .pointer pr] w (TreeRet w S (Tr.joined l row r)) := by
  have h7 := hl.high_le
  have h8 := hr.high_le
  go_enter Tryd.func134, Tryd.ntmps134
  repeat' (first | (go_at_call 143; first | ((with_reducible refine (high_any _ _ S _ (by first | exact hl | exact hl.drew | exact hl.drew.drew)).mono ?_); rintro _ _ ⟨rfl, rfl⟩; dsimp only) | ((with_reducible refine (high_any _ _ S _ (by first | exact hr | exact hr.drew | exact hr.drew.drew)).mono ?_); rintro _ _ ⟨rfl, rfl⟩; dsimp only)) | (go_at_call 139; ((with_reducible refine (made_any l r pl pr A _ c row S _ hl hr hrow hne (by omega)).mono ?_); rintro _ w1 ⟨p1, t1, rfl, ht1, rfl, hb1⟩; dsimp only)) | (with_reducible refine Keep.last ?_) | (with_reducible refine Keep.below (by assumption) ?_) | (with_reducible refine Keep.kept (by assumption) ?_) | (with_reducible refine Keep.alloc ?_) | (with_reducible refine Keep.same ?_) | ((with_reducible refine WpH.here ?_); first | (refine WpH.nil ?_; refine NoP.normal ?_) | (refine WpH.load (by rfl) (by rfl) (by go_simp; rfl) ?_; simp only [Act.put, List.setIfInBounds_toArray, List.set_cons_zero, List.set_cons_succ]) | (refine WpH.loadT (by rfl) (by rfl) (by go_simp; rfl) (by rintro _ _ ⟨⟩; exact ⟨_, _, _, _, _, _, by rfl, by assumption, by assumption⟩) ?_; simp only [Act.put, List.setIfInBounds_toArray, List.set_cons_zero, List.set_cons_succ]) | (refine WpH.pure (by rfl) (fun w_ => by go_simp; (try go_bits); rfl) ?_; simp only [Act.put, List.setIfInBounds_toArray, List.set_cons_zero, List.set_cons_succ]) | (refine WpH.wild1 (by rfl) (fun _ _ => ?_)) | (refine WpH.skip (by rfl) ?_; simp only [Act.put, List.setIfInBounds_toArray, List.set_cons_zero, List.set_cons_succ])) | go_values | go_skip | go_guarded | go_step | go_upon | go_back)
  go_ret
  exact TreeRet.of ht1 (by simp [Tr.joined, Tr.rows]) hb1

theorem joinAt : ∀ k, JoinAt k := by
  intro k
  induction k with
  | zero =>
    intro l r pl pr A c row S w hk hl hr hrow hne hbd
    exact join_3 A c row S w l r pl pr hl hr hrow hne hbd (by omega) (by omega)
  | succ k ih =>
    intro l r pl pr A c row S w hk hl hr hrow hne hbd
    by_cases c1 : l.high > r.high + 1
    · cases l with
      | nil => simp [Tr.high] at c1
      | node ll lrow lr => exact join_1 k ih A c row S w ll lr r lrow pl pr hk hl hr hrow hne hbd c1
    · by_cases c2 : r.high > l.high + 1
      · cases r with
        | nil => simp [Tr.high] at c2
        | node rl rrow rr => exact join_2 k ih A c row S w l rl rr rrow pl pr hk hl hr hrow hne hbd c1 c2
      · exact join_3 A c row S w l r pl pr hl hr hrow hne hbd c1 c2

/-- **join** -/
theorem join_any (l r : Tr) (pl pr : Option Addr) (A : Option Addr) (n c : Nat) (row : List El) (S : Nat → Prop) (w : World) (hl : IsTree w S l pl) (hr : IsTree w S r pr) (hrow : Row w S A n c row) (hne : row ≠ [])
    (hbd : l.all.length + row.length + r.all.length ≤ 1099511627776) :
    Calls Tryd.prog 134 #[.pointer pl, .slice A n c, .pointer pr] w (TreeRet w S (Tr.joined l row r)) := by
  obtain rfl : n = row.length := hrow.1.symm
  exact joinAt _ l r pl pr A c row S w (Nat.le_refl _) hl hr hrow hne hbd
end Go.Proofs.YtogkbddniacgiaaDoor
