/- Two trees and a leaf between them, whatever their heights: the walk of join, by induction on the heights. Conditions: as for made. The last and the first leaf taken off, and two trees laid together: walks of last, first, both, by induction on the tree. Conditions: the tree lies in memory and has fewer than 2^40 elements. A tree parted at an element: the walk of parted, by induction on the tree. Conditions: the tree lies in memory, fewer than 2^40 elements; the number is none that lies below 0. -/
import Derived.Test.YtnpbbidiloahdaaDoorSTree4
namespace Go.Proofs.YtnpbbidiloahdaaDoor
set_option linter.unusedSimpArgs false
set_option linter.unusedVariables false
open Go Go.RowKit

/-- what join is to do, at heights up to k -/
def JoinAt (k : Nat) : Prop := ∀ (l r : Tr) (pl pr : Option Addr) (A : Option Addr) (c : Nat) (row : List El) (S : Nat → Prop) (w : World), l.high + r.high ≤ k → IsTree w S l pl → IsTree w S r pr → Row w S A row.length c row → row ≠ [] →
    l.all.length + row.length + r.all.length ≤ 1099511627776 → Calls Tryd.prog 87 #[.pointer pl, .slice A row.length c, .pointer pr] w (TreeRet w S (Tr.joined l row r))

set_option maxRecDepth 100000 in
set_option maxHeartbeats 2000000 in
theorem join_1 (k : Nat) (ih : JoinAt k) (A : Option Addr) (c : Nat) (row : List El) (S : Nat → Prop) (w : World) (ll lr r : Tr) (lrow : List El) (pl pr : Option Addr) (hk : (Tr.node ll lrow lr).high + r.high ≤ k + 1) (hl : IsTree w S (.node ll lrow lr) pl) (hr : IsTree w S r pr)
    (hrow : Row w S A row.length c row) (hne : row ≠ []) (hbd : (Tr.node ll lrow lr).all.length + row.length + r.all.length ≤ 1099511627776) (c1 : (Tr.node ll lrow lr).high > r.high + 1) :
    Calls Tryd.prog 87 #[.pointer pl, .slice A row.length c, .pointer pr] w (TreeRet w S (Tr.joined (.node ll lrow lr) row r)) := by
  have h7 := hl.high_le
  have h8 := hr.high_le
  replace h7 := Nat.le_trans h7 (show _ ≤ 1099511627776 by omega)
  replace h8 := Nat.le_trans h8 (show _ ≤ 1099511627776 by omega)
  have hlt : lr.high + r.high ≤ k := by simp only [Tr.high] at hk; omega
  have IH := hid (ih lr r)
  clear ih hk
  obtain ⟨lne, lb, lA, ln, lc, lpl, lpr, rfl, lS, lr0, hll, hlr, lc0, lc1, lc2, lc3, lc4, lc5, lc6⟩ := id hl
  obtain rfl : ln = lrow.length := lr0.1.symm
  rw [all_node] at hbd
  go_enter Tryd.func87, Tryd.ntmps87
  repeat' (first | (go_at_call 91; first | ((with_reducible refine (high_any _ _ S _ (by first | exact hl | exact hl.drew | exact hl.drew.drew)).mono ?_); rintro _ _ ⟨rfl, rfl⟩; dsimp only) | ((with_reducible refine (high_any _ _ S _ (by first | exact hr | exact hr.drew | exact hr.drew.drew)).mono ?_); rintro _ _ ⟨rfl, rfl⟩; dsimp only)) | ((with_reducible refine region_at 2 ?_); refine wp_region_order [(0, true, false), (1, true, false), (2, true, false), (3, true, false), (4, true, false), (5, true, false), (6, true, false), (7, true, false), (8, true, false), (9, true, false), (10, true, false), (11, true, false), (12, true, false), (13, true, false), (14, false, false), (15, false, false), (16, true, false)] (by kernel_rfl) (by kernel_rfl) (by kernel_rfl) rfl rfl ?_) | (go_at_call 87; (with_reducible refine (IH.out lpr pr A c row S _ hlt hlr.drew hr.drew hrow.drew hne (by omega)).mono ?_); rintro _ w1 ⟨p1, t1, rfl, ht1, hq1, hb1⟩; have hb1' := undrew hb1; have ht1' : IsTree w1 (Fr w S) _ p1 := ht1; have hq1' := hid hq1; have hal := hid hq1.all; clear hq1; dsimp only) | (go_at_call 92; (with_reducible refine (even_any ll _ lpl p1 lA _ lc lrow (Fr w S) _ (hll.drew.step hb1).fr ht1' (lr0.drew.step hb1).fr lne (by rw [hal.out]; simp only [List.length_append]; omega)).mono ?_); rintro _ w2 ⟨p2, t2, rfl, ht2, hq2, hb2⟩; dsimp only) | (with_reducible refine Keep.last ?_) | (with_reducible refine Keep.below (by assumption) ?_) | (with_reducible refine Keep.kept (by assumption) ?_) | (with_reducible refine Keep.alloc ?_) | (with_reducible refine Keep.same ?_) | ((with_reducible refine WpH.here ?_); first | (refine WpH.nil ?_; refine NoP.normal ?_) | (refine WpH.load (by rfl) (by rfl) (by go_simp; rfl) ?_; simp only [Act.put, List.setIfInBounds_toArray, List.set_cons_zero, List.set_cons_succ]) | (refine WpH.loadT (by rfl) (by rfl) (by go_simp; rfl) (by rintro _ _ ⟨⟩; exact ⟨_, _, _, _, _, _, by rfl, by assumption, by assumption⟩) ?_; simp only [Act.put, List.setIfInBounds_toArray, List.set_cons_zero, List.set_cons_succ]) | (refine WpH.pure (by rfl) (fun w_ => by go_simp; (try go_bits); rfl) ?_; simp only [Act.put, List.setIfInBounds_toArray, List.set_cons_zero, List.set_cons_succ]) | (refine WpH.wild1 (by rfl) (fun _ _ => ?_)) | (refine WpH.skip (by rfl) ?_; simp only [Act.put, List.setIfInBounds_toArray, List.set_cons_zero, List.set_cons_succ])) | go_values | go_skip | go_guarded | go_step | go_upon | go_back)
  go_ret
  refine TreeRet.of (ht2.more fun b _ h => Fr.shrink hb1'.size b h) ?_ (hb1'.trans (hb2.mono hb1'.size))
  have := hq1'.out
  simp only [Tr.joined, Tr.rows] at *
  rw [hq2, this]
  simp

set_option maxRecDepth 100000 in
set_option maxHeartbeats 2000000 in
theorem join_2 (k : Nat) (ih : JoinAt k) (A : Option Addr) (c : Nat) (row : List El) (S : Nat → Prop) (w : World) (l rl rr : Tr) (rrow : List El) (pl pr : Option Addr) (hk : l.high + (Tr.node rl rrow rr).high ≤ k + 1) (hl : IsTree w S l pl) (hr : IsTree w S (.node rl rrow rr) pr)
    (hrow : Row w S A row.length c row) (hne : row ≠ []) (hbd : l.all.length + row.length + (Tr.node rl rrow rr).all.length ≤ 1099511627776) (c1 : ¬ l.high > (Tr.node rl rrow rr).high + 1) (c2 : (Tr.node rl rrow rr).high > l.high + 1) :
    Calls Tryd.prog 87 #[.pointer pl, .slice A row.length c, .pointer pr] w (TreeRet w S (Tr.joined l row (.node rl rrow rr))) := by
  have h7 := hl.high_le
  have h8 := hr.high_le
  replace h7 := Nat.le_trans h7 (show _ ≤ 1099511627776 by omega)
  replace h8 := Nat.le_trans h8 (show _ ≤ 1099511627776 by omega)
  have hlt : l.high + rl.high ≤ k := by simp only [Tr.high] at hk; omega
  have IH := hid (ih l rl)
  clear ih hk
  obtain ⟨lne, lb, lA, ln, lc, lpl, lpr, rfl, lS, lr0, hll, hlr, lc0, lc1, lc2, lc3, lc4, lc5, lc6⟩ := id hr
  obtain rfl : ln = rrow.length := lr0.1.symm
  rw [all_node] at hbd
  go_enter Tryd.func87, Tryd.ntmps87
  repeat' (first | (go_at_call 91; first | ((with_reducible refine (high_any _ _ S _ (by first | exact hl | exact hl.drew | exact hl.drew.drew)).mono ?_); rintro _ _ ⟨rfl, rfl⟩; dsimp only) | ((with_reducible refine (high_any _ _ S _ (by first | exact hr | exact hr.drew | exact hr.drew.drew)).mono ?_); rintro _ _ ⟨rfl, rfl⟩; dsimp only)) | ((with_reducible refine region_at 4 ?_); refine wp_region_order [(0, true, false), (1, true, false), (2, true, false), (3, true, false), (4, true, false), (5, true, false), (7, true, false), (8, true, false), (9, true, false), (10, true, false), (11, true, false), (12, true, false), (13, true, false), (14, true, false), (6, false, false), (15, false, false), (16, true, false)] (by kernel_rfl) (by kernel_rfl) (by kernel_rfl) rfl rfl ?_) | (go_at_call 87; (with_reducible refine (IH.out pl lpl A c row S _ hlt hl.drew hll.drew hrow.drew hne (by omega)).mono ?_); rintro _ w1 ⟨p1, t1, rfl, ht1, hq1, hb1⟩; have hb1' := undrew hb1; have ht1' : IsTree w1 (Fr w S) _ p1 := ht1; have hq1' := hid hq1; have hal := hid hq1.all; clear hq1; dsimp only) | (go_at_call 92; (with_reducible refine (even_any _ rr p1 lpr lA _ lc rrow (Fr w S) _ ht1' (hlr.drew.step hb1).fr (lr0.drew.step hb1).fr lne (by rw [hal.out]; simp only [List.length_append]; omega)).mono ?_); rintro _ w2 ⟨p2, t2, rfl, ht2, hq2, hb2⟩; dsimp only) | (with_reducible refine Keep.last ?_) | (with_reducible refine Keep.below (by assumption) ?_) | (with_reducible refine Keep.kept (by assumption) ?_) | (with_reducible refine Keep.alloc ?_) | (with_reducible refine Keep.same ?_) | ((with_reducible refine WpH.here ?_); first | (refine WpH.nil ?_; refine NoP.normal ?_) | (refine WpH.load (by rfl) (by rfl) (by go_simp; rfl) ?_; simp only [Act.put, List.setIfInBounds_toArray, List.set_cons_zero, List.set_cons_succ]) | (refine WpH.loadT (by rfl) (by rfl) (by go_simp; rfl) (by rintro _ _ ⟨⟩; exact ⟨_, _, _, _, _, _, by rfl, by assumption, by assumption⟩) ?_; simp only [Act.put, List.setIfInBounds_toArray, List.set_cons_zero, List.set_cons_succ]) | (refine WpH.pure (by rfl) (fun w_ => by go_simp; (try go_bits); rfl) ?_; simp only [Act.put, List.setIfInBounds_toArray, List.set_cons_zero, List.set_cons_succ]) | (refine WpH.wild1 (by rfl) (fun _ _ => ?_)) | (refine WpH.skip (by rfl) ?_; simp only [Act.put, List.setIfInBounds_toArray, List.set_cons_zero, List.set_cons_succ])) | go_values | go_skip | go_guarded | go_step | go_upon | go_back)
  go_ret
  refine TreeRet.of (ht2.more fun b _ h => Fr.shrink hb1'.size b h) ?_ (hb1'.trans (hb2.mono hb1'.size))
  have := hq1'.out
  simp only [Tr.joined, Tr.rows] at *
  rw [hq2, this]
  simp

set_option maxRecDepth 100000 in
set_option maxHeartbeats 2000000 in
theorem join_3 (A : Option Addr) (c : Nat) (row : List El) (S : Nat → Prop) (w : World) (l r : Tr) (pl pr : Option Addr) (hl : IsTree w S l pl) (hr : IsTree w S r pr) (hrow : Row w S A row.length c row) (hne : row ≠ [])
    (hbd : l.all.length + row.length + r.all.length ≤ 1099511627776) (c1 : ¬ l.high > r.high + 1) (c2 : ¬ r.high > l.high + 1) :
    Calls Tryd.prog 87 #[.pointer pl, .slice A row.length c, .pointer pr] w (TreeRet w S (Tr.joined l row r)) := by
  have h7 := hl.high_le
  have h8 := hr.high_le
  go_enter Tryd.func87, Tryd.ntmps87
  repeat' (first | (go_at_call 91; first | ((with_reducible refine (high_any _ _ S _ (by first | exact hl | exact hl.drew | exact hl.drew.drew)).mono ?_); rintro _ _ ⟨rfl, rfl⟩; dsimp only) | ((with_reducible refine (high_any _ _ S _ (by first | exact hr | exact hr.drew | exact hr.drew.drew)).mono ?_); rintro _ _ ⟨rfl, rfl⟩; dsimp only)) | (go_at_call 93; ((with_reducible refine (made_any l r pl pr A _ c row S _ hl hr hrow hne (by omega)).mono ?_); rintro _ w1 ⟨p1, t1, rfl, ht1, rfl, hb1⟩; dsimp only)) | go_values | go_skip | go_guarded | go_step | go_upon | go_back)
  go_ret
  exact TreeRet.of ht1 (by simp [Tr.joined, Tr.rows]) hb1

theorem joinAt : ∀ k, JoinAt k := by
  intro k
  induction k with
  | zero =>
    intro l r pl pr A c row S w hk hl hr hrow hne hbd
    exact join_3 A c row S w l r pl pr hl hr hrow hne hbd (by omega) (by omega)
  | succ k ih =>
    intro l r pl pr A c row S w hk hl hr hrow hne hbd
    by_cases c1 : l.high > r.high + 1
    · cases l with
      | nil => simp [Tr.high] at c1
      | node ll lrow lr => exact join_1 k ih A c row S w ll lr r lrow pl pr hk hl hr hrow hne hbd c1
    · by_cases c2 : r.high > l.high + 1
      · cases r with
        | nil => simp [Tr.high] at c2
        | node rl rrow rr => exact join_2 k ih A c row S w l rl rr rrow pl pr hk hl hr hrow hne hbd c1 c2
      · exact join_3 A c row S w l r pl pr hl hr hrow hne hbd c1 c2

/-- **join** -/
theorem join_any (l r : Tr) (pl pr : Option Addr) (A : Option Addr) (n c : Nat) (row : List El) (S : Nat → Prop) (w : World) (hl : IsTree w S l pl) (hr : IsTree w S r pr) (hrow : Row w S A n c row) (hne : row ≠ [])
    (hbd : l.all.length + row.length + r.all.length ≤ 1099511627776) :
    Calls Tryd.prog 87 #[.pointer pl, .slice A n c, .pointer pr] w (TreeRet w S (Tr.joined l row r)) := by
  obtain rfl : n = row.length := hrow.1.symm
  exact joinAt _ l r pl pr A c row S w (Nat.le_refl _) hl hr hrow hne hbd
end Go.Proofs.YtnpbbidiloahdaaDoor
namespace Go.Proofs.YtnpbbidiloahdaaDoor
set_option linter.unusedSimpArgs false
set_option linter.unusedVariables false
open Go Go.RowKit

/-- a tree and a leaf are handed back; R says how they stand to what there was -/
def LeafRet (w : World) (S : Nat → Prop) (R : Tr → List El → Prop) (e : Ending) (w' : World) : Prop :=
  ∃ p t A n c row, e = .returned (.tuple #[.pointer p, .slice A n c]) ∧ IsTree w' (Fr w S) t p ∧ Row w' (Fr w S) A n c row ∧ row ≠ [] ∧ R t row ∧ Below w.heap.size w w'
theorem LeafRet.of {w : World} {S : Nat → Prop} {R : Tr → List El → Prop} {p : Option Addr} {t : Tr} {A : Option Addr} {n c : Nat} {row : List El} {w' : World} (ht : IsTree w' (Fr w S) t p) (hr : Row w' (Fr w S) A n c row) (hne : row ≠ []) (hR : R t row)
    (hb : Below w.heap.size w w') : LeafRet w S R (.returned (.tuple #[.pointer p, .slice A n c])) w' := ⟨p, t, A, n, c, row, rfl, ht, hr, hne, hR, hb⟩
theorem all_of_snoc {t t' : Tr} {row : List El} (h : t.rows = t'.rows ++ [row]) : t.all = t'.all ++ row := by rw [Tr.all_eq, h, Tr.all_eq]; simp
theorem all_of_cons {t t' : Tr} {row : List El} (h : t.rows = row :: t'.rows) : t.all = row ++ t'.all := by rw [Tr.all_eq, h, Tr.all_eq]; simp
theorem all_of_rows {t : Tr} {a b : Tr} (h : t.rows = a.rows ++ b.rows) : t.all = a.all ++ b.all := by rw [Tr.all_eq, h, Tr.all_eq, Tr.all_eq]; simp

set_option maxRecDepth 100000 in
set_option maxHeartbeats 2000000 in
theorem last_any (l r : Tr) (row : List El) : ∀ (p : Option Addr) (S : Nat → Prop) (w : World), IsTree w S (.node l row r) p → (Tr.node l row r).all.length ≤ 1099511627776 →
    Calls Tryd.prog 71 #[.pointer p] w (LeafRet w S (fun t x => (Tr.node l row r).rows = t.rows ++ [x])) := by
  induction r generalizing l row with
  | nil =>
    intro p S w h hbd
    obtain ⟨ne, b, A, n, c, pl, pr, rfl, bS, hrow, hl, hr, c0, c1, c2, c3, c4, c5, c6⟩ := h
    obtain rfl := hr
    clear c3 c4 c5 c6
    go_enter Tryd.func71, Tryd.ntmps71
    repeat' (first | ((with_reducible refine region_at 2 ?_); refine wp_region_order [(0, true, false), (1, true, false), (2, true, false), (3, true, false), (4, true, false), (5, true, false), (6, true, false), (7, true, false), (8, true, false), (9, true, false)] (by kernel_rfl) (by kernel_rfl) (by kernel_rfl) rfl rfl ?_) | (with_reducible refine Keep.last ?_) | (with_reducible refine Keep.below (by assumption) ?_) | (with_reducible refine Keep.kept (by assumption) ?_) | (with_reducible refine Keep.alloc ?_) | (with_reducible refine Keep.same ?_) | ((with_reducible refine WpH.here ?_); first | (refine WpH.nil ?_; refine NoP.normal ?_) | (refine WpH.load (by rfl) (by rfl) (by go_simp; rfl) ?_; simp only [Act.put, List.setIfInBounds_toArray, List.set_cons_zero, List.set_cons_succ]) | (refine WpH.loadT (by rfl) (by rfl) (by go_simp; rfl) (by rintro _ _ ⟨⟩; exact ⟨_, _, _, _, _, _, by rfl, by assumption, by assumption⟩) ?_; simp only [Act.put, List.setIfInBounds_toArray, List.set_cons_zero, List.set_cons_succ]) | (refine WpH.pure (by rfl) (fun w_ => by go_simp; (try go_bits); rfl) ?_; simp only [Act.put, List.setIfInBounds_toArray, List.set_cons_zero, List.set_cons_succ]) | (refine WpH.wild1 (by rfl) (fun _ _ => ?_)) | (refine WpH.skip (by rfl) ?_; simp only [Act.put, List.setIfInBounds_toArray, List.set_cons_zero, List.set_cons_succ])) | go_values | go_skip | go_guarded | go_step | go_upon | go_back)
    go_ret2
    exact LeafRet.of hl.drew.fr hrow.drew.fr ne (by simp [Tr.rows]) (Below.refl _ _).drew
  | node rl rrow rr _ ih =>
    intro p S w h hbd
    obtain ⟨ne, b, A, n, c, pl, pr, rfl, bS, hrow, hl, hr, c0, c1, c2, c3, c4, c5, c6⟩ := h
    obtain ⟨b', hpr⟩ : ∃ b', pr = some ⟨b', 0, none⟩ := by obtain ⟨_, b', _, _, _, _, _, e, _⟩ := id hr; exact ⟨b', e⟩
    subst hpr
    rw [all_node] at hbd
    have IH := hid (ih rl rrow (some ⟨b', 0, none⟩) S w hr (by omega))
    clear ih c3 c4 c5 c6
    have hbl : b < w.heap.size := lt_of_cell' c0
    go_enter Tryd.func71, Tryd.ntmps71
    repeat' (first | (go_at_call 71; (with_reducible refine (Calls.mono IH.out ?_)); rintro _ w1 ⟨p1, t1, A1, n1, c1', x, rfl, ht1, hr1, hne1, hq1, hb1⟩; have hq1' := hid hq1; have hal := hid (all_of_snoc hq1); clear hq1; obtain ⟨hc1, hg1⟩ := bcell hb1; dsimp only) | ((with_reducible refine region_at 4 ?_); refine wp_region_order [(0, true, false), (1, true, false), (2, true, false), (3, true, false), (4, true, false), (5, true, false), (6, true, false), (7, true, false), (8, true, false), (10, true, false), (9, false, false), (11, true, false), (12, true, false)] (by kernel_rfl) (by kernel_rfl) (by kernel_rfl) rfl rfl ?_) | (go_at_call 87; (with_reducible refine (join_any l t1 pl p1 A n c row (Fr w S) _ (hl.step hb1).fr.drew ht1.drew (hrow.step hb1).fr.drew ne (by have := congrArg List.length hal.out; simp only [List.length_append] at this; omega)).mono ?_); rintro _ w2 ⟨p2, t2, rfl, ht2, hq2, hb2⟩; dsimp only) | (with_reducible refine Keep.last ?_) | (with_reducible refine Keep.below (by assumption) ?_) | (with_reducible refine Keep.kept (by assumption) ?_) | (with_reducible refine Keep.alloc ?_) | (with_reducible refine Keep.same ?_) | ((with_reducible refine WpH.here ?_); first | (refine WpH.nil ?_; refine NoP.normal ?_) | (refine WpH.load (by rfl) (by rfl) (by go_simp; rfl) ?_; simp only [Act.put, List.setIfInBounds_toArray, List.set_cons_zero, List.set_cons_succ]) | (refine WpH.loadT (by rfl) (by rfl) (by go_simp; rfl) (by rintro _ _ ⟨⟩; exact ⟨_, _, _, _, _, _, by rfl, by assumption, by assumption⟩) ?_; simp only [Act.put, List.setIfInBounds_toArray, List.set_cons_zero, List.set_cons_succ]) | (refine WpH.pure (by rfl) (fun w_ => by go_simp; (try go_bits); rfl) ?_; simp only [Act.put, List.setIfInBounds_toArray, List.set_cons_zero, List.set_cons_succ]) | (refine WpH.wild1 (by rfl) (fun _ _ => ?_)) | (refine WpH.skip (by rfl) ?_; simp only [Act.put, List.setIfInBounds_toArray, List.set_cons_zero, List.set_cons_succ])) | go_values | go_skip | go_guarded | go_step | go_upon | go_back)
    go_ret2
    have hb2' := undrew hb2
    refine LeafRet.of (ht2.more fun b _ h => Fr.shrink hb1.size b h) (hr1.drew.step hb2) hne1 ?_ (hb1.trans (hb2'.mono hb1.size))
    have := hq1'.out
    simp only [Tr.joined, Tr.rows] at *
    rw [hq2, this]
    simp

set_option maxRecDepth 100000 in
set_option maxHeartbeats 2000000 in
theorem first_any (l r : Tr) (row : List El) : ∀ (p : Option Addr) (S : Nat → Prop) (w : World), IsTree w S (.node l row r) p → (Tr.node l row r).all.length ≤ 1099511627776 →
    Calls Tryd.prog 72 #[.pointer p] w (LeafRet w S (fun t x => (Tr.node l row r).rows = x :: t.rows)) := by
  induction l generalizing r row with
  | nil =>
    intro p S w h hbd
    obtain ⟨ne, b, A, n, c, pl, pr, rfl, bS, hrow, hl, hr, c0, c1, c2, c3, c4, c5, c6⟩ := h
    obtain rfl := hl
    clear c3 c4 c5 c6
    go_enter Tryd.func72, Tryd.ntmps72
    repeat' (first | ((with_reducible refine region_at 2 ?_); refine wp_region_order [(0, true, false), (1, true, false), (2, true, false), (3, true, false), (4, true, false), (5, true, false), (6, true, false), (7, true, false), (8, true, false), (9, true, false)] (by kernel_rfl) (by kernel_rfl) (by kernel_rfl) rfl rfl ?_) | (with_reducible refine Keep.last ?_) | (with_reducible refine Keep.below (by assumption) ?_) | (with_reducible refine Keep.kept (by assumption) ?_) | (with_reducible refine Keep.alloc ?_) | (with_reducible refine Keep.same ?_) | ((with_reducible refine WpH.here ?_); first | (refine WpH.nil ?_; refine NoP.normal ?_) | (refine WpH.load (by rfl) (by rfl) (by go_simp; rfl) ?_; simp only [Act.put, List.setIfInBounds_toArray, List.set_cons_zero, List.set_cons_succ]) | (refine WpH.loadT (by rfl) (by rfl) (by go_simp; rfl) (by rintro _ _ ⟨⟩; exact ⟨_, _, _, _, _, _, by rfl, by assumption, by assumption⟩) ?_; simp only [Act.put, List.setIfInBounds_toArray, List.set_cons_zero, List.set_cons_succ]) | (refine WpH.pure (by rfl) (fun w_ => by go_simp; (try go_bits); rfl) ?_; simp only [Act.put, List.setIfInBounds_toArray, List.set_cons_zero, List.set_cons_succ]) | (refine WpH.wild1 (by rfl) (fun _ _ => ?_)) | (refine WpH.skip (by rfl) ?_; simp only [Act.put, List.setIfInBounds_toArray, List.set_cons_zero, List.set_cons_succ])) | go_values | go_skip | go_guarded | go_step | go_upon | go_back)
    go_ret2
    exact LeafRet.of hr.drew.fr hrow.drew.fr ne (by simp [Tr.rows]) (Below.refl _ _).drew
  | node ll lrow lr ih _ =>
    intro p S w h hbd
    obtain ⟨ne, b, A, n, c, pl, pr, rfl, bS, hrow, hl, hr, c0, c1, c2, c3, c4, c5, c6⟩ := h
    obtain ⟨b', hpl⟩ : ∃ b', pl = some ⟨b', 0, none⟩ := by obtain ⟨_, b', _, _, _, _, _, e, _⟩ := id hl; exact ⟨b', e⟩
    subst hpl
    rw [all_node] at hbd
    have IH := hid (ih lr lrow (some ⟨b', 0, none⟩) S w hl (by omega))
    clear ih c3 c4 c5 c6
    have hbl : b < w.heap.size := lt_of_cell' c0
    go_enter Tryd.func72, Tryd.ntmps72
    repeat' (first | (go_at_call 72; (with_reducible refine (Calls.mono IH.out ?_)); rintro _ w1 ⟨p1, t1, A1, n1, c1', x, rfl, ht1, hr1, hne1, hq1, hb1⟩; have hq1' := hid hq1; have hal := hid (all_of_cons hq1); clear hq1; obtain ⟨hc1, hg1⟩ := bcell hb1; dsimp only) | ((with_reducible refine region_at 4 ?_); refine wp_region_order [(0, true, false), (1, true, false), (2, true, false), (3, true, false), (4, true, false), (5, true, false), (6, true, false), (7, true, false), (8, true, false), (10, true, false), (9, false, false), (11, true, false), (12, true, false)] (by kernel_rfl) (by kernel_rfl) (by kernel_rfl) rfl rfl ?_) | (go_at_call 87; (with_reducible refine (join_any t1 r p1 pr A n c row (Fr w S) _ ht1.drew (hr.step hb1).fr.drew (hrow.step hb1).fr.drew ne (by have := congrArg List.length hal.out; simp only [List.length_append] at this; omega)).mono ?_); rintro _ w2 ⟨p2, t2, rfl, ht2, hq2, hb2⟩; dsimp only) | (with_reducible refine Keep.last ?_) | (with_reducible refine Keep.below (by assumption) ?_) | (with_reducible refine Keep.kept (by assumption) ?_) | (with_reducible refine Keep.alloc ?_) | (with_reducible refine Keep.same ?_) | ((with_reducible refine WpH.here ?_); first | (refine WpH.nil ?_; refine NoP.normal ?_) | (refine WpH.load (by rfl) (by rfl) (by go_simp; rfl) ?_; simp only [Act.put, List.setIfInBounds_toArray, List.set_cons_zero, List.set_cons_succ]) | (refine WpH.loadT (by rfl) (by rfl) (by go_simp; rfl) (by rintro _ _ ⟨⟩; exact ⟨_, _, _, _, _, _, by rfl, by assumption, by assumption⟩) ?_; simp only [Act.put, List.setIfInBounds_toArray, List.set_cons_zero, List.set_cons_succ]) | (refine WpH.pure (by rfl) (fun w_ => by go_simp; (try go_bits); rfl) ?_; simp only [Act.put, List.setIfInBounds_toArray, List.set_cons_zero, List.set_cons_succ]) | (refine WpH.wild1 (by rfl) (fun _ _ => ?_)) | (refine WpH.skip (by rfl) ?_; simp only [Act.put, List.setIfInBounds_toArray, List.set_cons_zero, List.set_cons_succ])) | go_values | go_skip | go_guarded | go_step | go_upon | go_back)
    go_ret2
    have hb2' := undrew hb2
    refine LeafRet.of (ht2.more fun b _ h => Fr.shrink hb1.size b h) (hr1.drew.step hb2) hne1 ?_ (hb1.trans (hb2'.mono hb1.size))
    have := hq1'.out
    simp only [Tr.joined, Tr.rows] at *
    rw [hq2, this]
    rfl

set_option maxRecDepth 100000 in
set_option maxHeartbeats 2000000 in
/-- **both** -/
theorem both_any (l r : Tr) (pl pr : Option Addr) (S : Nat → Prop) (w : World) (hl : IsTree w S l pl) (hr : IsTree w S r pr) (hbd : l.all.length + r.all.length ≤ 1099511627776) :
    Calls Tryd.prog 73 #[.pointer pl, .pointer pr] w (TreeRet w S (fun t => t.rows = l.rows ++ r.rows)) := by
  cases l with
  | nil =>
    obtain rfl := hl
    go_enter Tryd.func73, Tryd.ntmps73
    repeat' (first | go_values | go_skip | go_guarded | go_step | go_upon | go_back)
    go_ret
    exact TreeRet.of hr.fr (by simp [Tr.rows]) (Below.refl _ _)
  | node ll lrow lr =>
    obtain ⟨b', hpl⟩ : ∃ b', pl = some ⟨b', 0, none⟩ := by obtain ⟨_, b', _, _, _, _, _, e, _⟩ := id hl; exact ⟨b', e⟩
    subst hpl
    have IH := hid (last_any ll lr lrow (some ⟨b', 0, none⟩) S w hl (by omega))
    go_enter Tryd.func73, Tryd.ntmps73
    repeat' (first | (go_at_call 71; (with_reducible refine (Calls.mono IH.out ?_)); rintro _ w1 ⟨p1, t1, A1, n1, c1', x, rfl, ht1, hr1, hne1, hq1, hb1⟩; have hq1' := hid hq1; have hal := hid (all_of_snoc hq1); clear hq1; dsimp only) | (go_at_call 87; (with_reducible refine (join_any t1 r p1 pr A1 n1 c1' x (Fr w S) _ ht1 (hr.step hb1).fr hr1 hne1 (by have := congrArg List.length hal.out; simp only [List.length_append] at this; omega)).mono ?_); rintro _ w2 ⟨p2, t2, rfl, ht2, hq2, hb2⟩; dsimp only) | go_values | go_skip | go_guarded | go_step | go_upon | go_back)
    go_ret
    refine TreeRet.of (ht2.more fun b _ h => Fr.shrink hb1.size b h) ?_ (hb1.trans (hb2.mono hb1.size))
    have := hq1'.out
    simp only [Tr.joined] at *
    rw [hq2, this]
    simp
end Go.Proofs.YtnpbbidiloahdaaDoor
namespace Go.Proofs.YtnpbbidiloahdaaDoor
set_option linter.unusedSimpArgs false
set_option linter.unusedVariables false
open Go Go.RowKit
/-- how what is handed back stands to the tree: the leaf that holds element i, or (i behind the end) none -/
def Parted (t : Tr) (i : Nat) (l : Tr) (row : List El) (r : Tr) : Prop :=
  (i < t.all.length ∧ row ≠ [] ∧ t.rows = l.rows ++ row :: r.rows ∧ l.all.length ≤ i ∧ i < l.all.length + row.length) ∨ (t.all.length ≤ i ∧ row = [] ∧ l.rows = t.rows ∧ r.rows = [])
/-- two trees and a leaf between are handed back -/
def PartRet (w : World) (S : Nat → Prop) (t : Tr) (i : Nat) (e : Ending) (w' : World) : Prop :=
  ∃ pl l A n c row pr r, e = .returned (.tuple #[.pointer pl, .slice A n c, .pointer pr]) ∧ IsTree w' (Fr w S) l pl ∧ Row w' (Fr w S) A n c row ∧ IsTree w' (Fr w S) r pr ∧ Parted t i l row r ∧ Below w.heap.size w w'
theorem PartRet.of {w : World} {S : Nat → Prop} {t : Tr} {i : Nat} {pl : Option Addr} {l : Tr} {A : Option Addr} {n c : Nat} {row : List El} {pr : Option Addr} {r : Tr} {w' : World} (hl : IsTree w' (Fr w S) l pl) (hrow : Row w' (Fr w S) A n c row) (hr : IsTree w' (Fr w S) r pr)
    (hp : Parted t i l row r) (hb : Below w.heap.size w w') : PartRet w S t i (.returned (.tuple #[.pointer pl, .slice A n c, .pointer pr])) w' := ⟨pl, l, A, n, c, row, pr, r, rfl, hl, hrow, hr, hp, hb⟩
theorem all_of_mid {t l r : Tr} {row : List El} (h : t.rows = l.rows ++ row :: r.rows) : t.all.length = l.all.length + row.length + r.all.length := by rw [Tr.all_eq, h, Tr.all_eq, Tr.all_eq]; simp; omega
theorem all_of_eq {t l : Tr} (h : l.rows = t.rows) : l.all = t.all := by rw [Tr.all_eq, h, Tr.all_eq]
theorem all_of_none {r : Tr} (h : r.rows = []) : r.all = [] := by rw [Tr.all_eq, h]; rfl
theorem Parted.len {t l r : Tr} {i : Nat} {row : List El} (h : Parted t i l row r) : t.all.length = l.all.length + row.length + r.all.length := by
  rcases h with ⟨_, _, h, _⟩ | ⟨_, rfl, h, hr⟩
  · exact all_of_mid h
  · rw [all_of_eq h, all_of_none hr]; simp

set_option maxRecDepth 100000 in
set_option maxHeartbeats 4000000 in
theorem parted_any (t : Tr) : ∀ (i : Nat) (p : Option Addr) (S : Nat → Prop) (w : World), IsTree w S t p → t.all.length ≤ 1099511627776 → i ≤ 1099511627776 →
    Calls Tryd.prog 70 #[.pointer p, .int .i64 i] w (PartRet w S t i) := by
  induction t with
  | nil =>
    intro i p S w h hbd hi
    obtain rfl := h
    go_enter Tryd.func70, Tryd.ntmps70
    repeat' (first | go_values | go_skip | go_guarded | go_step | go_upon | go_back)
    go_ret3
    exact PartRet.of (l := .nil) (r := .nil) (row := []) rfl (Row.nil _ _ _ _ (by simp [maxLen])) rfl (.inr ⟨Nat.zero_le _, rfl, rfl, rfl⟩) (Below.refl _ _)
  | node l row r ihl ihr =>
    intro i p S w h hbd hi
    obtain ⟨ne, b, A, n, c, pl, pr, rfl, bS, hrow, hl, hr, c0, c1, c2, c3, c4, c5, c6⟩ := h
    obtain rfl : n = row.length := hrow.1.symm
    rw [all_node] at hbd
    clear c3 c4 c5 c6
    have hbl : b < w.heap.size := lt_of_cell' c0
    by_cases h1 : i < l.all.length
    · have IH := hid (ihl i pl S w hl (by omega) hi)
      clear ihl ihr
      go_enter Tryd.func70, Tryd.ntmps70
      repeat' (first | (go_at_call 69; (with_reducible refine (size_any l pl S _ hl).mono ?_); rintro _ _ ⟨rfl, rfl⟩; dsimp only) | (go_at_call 70; (with_reducible refine (Calls.mono IH.out ?_)); rintro _ w1 ⟨p1, t1, A1, n1, c1', x, p2, t2, rfl, ht1, hr1, ht2, hq1, hb1⟩; have hq1' := hid hq1; have hal := hid hq1.len; clear hq1; obtain ⟨hc1, hg1⟩ := bcell hb1; dsimp only) | ((with_reducible refine region_at 6 ?_); refine wp_region_order [(0, true, false), (1, true, false), (2, true, false), (3, true, false), (4, true, false), (5, true, false), (6, true, false), (7, true, false), (8, true, false), (9, true, false), (10, true, false), (11, false, false), (12, true, false), (13, true, false), (14, true, false)] (by kernel_rfl) (by kernel_rfl) (by kernel_rfl) rfl rfl ?_) | (go_at_call 87; (with_reducible refine (join_any t2 r p2 pr A _ c row (Fr w S) _ ht2.drew (hr.step hb1).fr.drew (hrow.step hb1).fr.drew ne (by have := hal.out; omega)).mono ?_); rintro _ w2 ⟨p3, t3, rfl, ht3, hq2, hb2⟩; dsimp only) | (with_reducible refine Keep.last ?_) | (with_reducible refine Keep.below (by assumption) ?_) | (with_reducible refine Keep.kept (by assumption) ?_) | (with_reducible refine Keep.alloc ?_) | (with_reducible refine Keep.same ?_) | ((with_reducible refine WpH.here ?_); first | (refine WpH.nil ?_; refine NoP.normal ?_) | (refine WpH.load (by rfl) (by rfl) (by go_simp; rfl) ?_; simp only [Act.put, List.setIfInBounds_toArray, List.set_cons_zero, List.set_cons_succ]) | (refine WpH.loadT (by rfl) (by rfl) (by go_simp; rfl) (by rintro _ _ ⟨⟩; exact ⟨_, _, _, _, _, _, by rfl, by assumption, by assumption⟩) ?_; simp only [Act.put, List.setIfInBounds_toArray, List.set_cons_zero, List.set_cons_succ]) | (refine WpH.pure (by rfl) (fun w_ => by go_simp; (try go_bits); rfl) ?_; simp only [Act.put, List.setIfInBounds_toArray, List.set_cons_zero, List.set_cons_succ]) | (refine WpH.wild1 (by rfl) (fun _ _ => ?_)) | (refine WpH.skip (by rfl) ?_; simp only [Act.put, List.setIfInBounds_toArray, List.set_cons_zero, List.set_cons_succ])) | go_values | go_skip | go_guarded | go_step | go_upon | go_back)
      go_ret3
      have hb2' := undrew hb2
      refine PartRet.of ((ht1.drew.step hb2)) (hr1.drew.step hb2) (ht3.more fun b _ h => Fr.shrink hb1.size b h) ?_ (hb1.trans (hb2'.mono hb1.size))
      rcases hq1'.out with ⟨g1, g2, g3, g4, g5⟩ | ⟨g1, _⟩
      · refine .inl ⟨by rw [all_node]; omega, g2, ?_, g4, g5⟩
        simp only [Tr.joined, Tr.rows] at *
        rw [hq2, g3]
        simp
      · omega
    · by_cases h2 : i < l.all.length + row.length
      · clear ihl ihr
        go_enter Tryd.func70, Tryd.ntmps70
        repeat' (first | (go_at_call 69; (with_reducible refine (size_any l pl S _ hl).mono ?_); rintro _ _ ⟨rfl, rfl⟩; dsimp only) | ((with_reducible refine region_at 8 ?_); refine wp_region_order [(0, true, false), (1, true, false), (2, true, false), (3, true, false), (4, true, false), (5, true, false), (6, true, false), (7, true, false), (8, true, false), (9, true, false), (10, true, false), (11, true, false), (12, true, false), (13, true, false), (14, true, false)] (by kernel_rfl) (by kernel_rfl) (by kernel_rfl) rfl rfl ?_) | (with_reducible refine Keep.last ?_) | (with_reducible refine Keep.below (by assumption) ?_) | (with_reducible refine Keep.kept (by assumption) ?_) | (with_reducible refine Keep.alloc ?_) | (with_reducible refine Keep.same ?_) | ((with_reducible refine WpH.here ?_); first | (refine WpH.nil ?_; refine NoP.normal ?_) | (refine WpH.load (by rfl) (by rfl) (by go_simp; rfl) ?_; simp only [Act.put, List.setIfInBounds_toArray, List.set_cons_zero, List.set_cons_succ]) | (refine WpH.loadT (by rfl) (by rfl) (by go_simp; rfl) (by rintro _ _ ⟨⟩; exact ⟨_, _, _, _, _, _, by rfl, by assumption, by assumption⟩) ?_; simp only [Act.put, List.setIfInBounds_toArray, List.set_cons_zero, List.set_cons_succ]) | (refine WpH.pure (by rfl) (fun w_ => by go_simp; (try go_bits); rfl) ?_; simp only [Act.put, List.setIfInBounds_toArray, List.set_cons_zero, List.set_cons_succ]) | (refine WpH.wild1 (by rfl) (fun _ _ => ?_)) | (refine WpH.skip (by rfl) ?_; simp only [Act.put, List.setIfInBounds_toArray, List.set_cons_zero, List.set_cons_succ])) | go_values | go_skip | go_guarded | go_step | go_upon | go_back)
        go_ret3
        exact PartRet.of hl.drew.fr hrow.drew.fr hr.drew.fr (.inl ⟨by rw [all_node]; omega, ne, rfl, by omega, h2⟩) (Below.refl _ _).drew
      · have hcast : ((i : Int) - l.all.length - row.length) = ((i - l.all.length - row.length : Nat) : Int) := by omega
        have IH := hid (ihr (i - l.all.length - row.length) pr S w.drew hr.drew (by omega) (by omega))
        rw [← hcast] at IH
        clear ihl ihr hcast
        go_enter Tryd.func70, Tryd.ntmps70
        repeat' (first | (go_at_call 69; (with_reducible refine (size_any l pl S _ hl).mono ?_); rintro _ _ ⟨rfl, rfl⟩; dsimp only) | (go_at_call 70; (with_reducible refine (Calls.mono IH.out ?_)); rintro _ w1 ⟨p1, t1, A1, n1, c1', x, p2, t2, rfl, ht1, hr1, ht2, hq1, hb1⟩; have hq1' := hid hq1; have hal := hid hq1.len; clear hq1; obtain ⟨hc1, hg1⟩ := bcell (undrew hb1); replace ht1 : IsTree w1 (Fr w S) t1 p1 := ht1; replace ht2 : IsTree w1 (Fr w S) t2 p2 := ht2; replace hr1 : Row w1 (Fr w S) A1 n1 c1' x := hr1; dsimp only) | ((with_reducible refine region_at 9 ?_); refine wp_region_order [(0, true, false), (1, true, false), (2, true, false), (3, true, false), (4, true, false), (5, true, false), (6, true, false), (7, true, false), (8, true, false), (9, true, false), (10, true, false), (11, true, false), (12, true, false), (13, false, false), (14, true, false), (15, true, false), (16, true, false), (17, true, false), (18, true, false), (19, true, false), (20, true, false)] (by kernel_rfl) (by kernel_rfl) (by kernel_rfl) rfl rfl ?_) | ((with_reducible refine region_at 10 ?_); refine wp_region_order [(0, true, false), (1, true, false), (2, true, false), (3, true, false), (4, true, false), (5, true, false), (6, true, false), (7, true, false), (8, true, false), (10, true, false), (11, true, false), (9, false, false), (12, true, false), (13, true, false), (14, true, false)] (by kernel_rfl) (by kernel_rfl) (by kernel_rfl) rfl rfl ?_) | (go_at_call 87; (with_reducible refine (join_any l t1 pl p1 A _ c row (Fr w S) _ (hl.drew.step hb1).fr.drew ht1.drew (hrow.drew.step hb1).fr.drew ne (by have := hal.out; omega)).mono ?_); rintro _ w2 ⟨p3, t3, rfl, ht3, hq2, hb2⟩; dsimp only) | (with_reducible refine Keep.last ?_) | (with_reducible refine Keep.below (by assumption) ?_) | (with_reducible refine Keep.kept (by assumption) ?_) | (with_reducible refine Keep.alloc ?_) | (with_reducible refine Keep.same ?_) | ((with_reducible refine WpH.here ?_); first | (refine WpH.nil ?_; refine NoP.normal ?_) | (refine WpH.load (by rfl) (by rfl) (by go_simp; rfl) ?_; simp only [Act.put, List.setIfInBounds_toArray, List.set_cons_zero, List.set_cons_succ]) | (refine WpH.loadT (by rfl) (by rfl) (by go_simp; rfl) (by rintro _ _ ⟨⟩; exact ⟨_, _, _, _, _, _, by rfl, by assumption, by assumption⟩) ?_; simp only [Act.put, List.setIfInBounds_toArray, List.set_cons_zero, List.set_cons_succ]) | (refine WpH.pure (by rfl) (fun w_ => by go_simp; (try go_bits); rfl) ?_; simp only [Act.put, List.setIfInBounds_toArray, List.set_cons_zero, List.set_cons_succ]) | (refine WpH.wild1 (by rfl) (fun _ _ => ?_)) | (refine WpH.skip (by rfl) ?_; simp only [Act.put, List.setIfInBounds_toArray, List.set_cons_zero, List.set_cons_succ])) | go_values | go_skip | go_guarded | go_step | go_upon | go_back)
        go_ret3
        have hb1' := undrew hb1
        have hb2' := undrew hb2
        refine PartRet.of (ht3.more fun b _ h => Fr.shrink hb1'.size b h) (hr1.drew.step hb2) (ht2.drew.step hb2) ?_ (hb1'.trans (hb2'.mono hb1'.size))
        rcases hq1'.out with ⟨g1, g2, g3, g4, g5⟩ | ⟨g1, g2, g3, g4⟩
        · refine .inl ⟨by rw [all_node]; omega, g2, ?_, by rw [hq2.all]; simp only [List.length_append]; omega, by rw [hq2.all]; simp only [List.length_append]; omega⟩
          simp only [Tr.joined, Tr.rows] at *
          rw [hq2, g3]
          simp
        · refine .inr ⟨by rw [all_node]; omega, g2, ?_, g4⟩
          simp only [Tr.joined, Tr.rows] at *
          rw [hq2, g3]
end Go.Proofs.YtnpbbidiloahdaaDoor
