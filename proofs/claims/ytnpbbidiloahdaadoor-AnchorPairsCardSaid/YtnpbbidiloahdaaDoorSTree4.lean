/- A node of which one side may be higher by two: the walk of even. Conditions: as for made. -/
import Derived.Test.YtnpbbidiloahdaaDoorP4
namespace Go.Proofs.YtnpbbidiloahdaaDoor
set_option linter.unusedSimpArgs false
set_option linter.unusedVariables false
open Go Go.RowKit

theorem all_node (l r : Tr) (row : List El) : (Tr.node l row r).all.length = l.all.length + row.length + r.all.length := by simp [Tr.all]; omega
theorem TreeRet.made {l r : Tr} {row : List El} {w : World} {S : Nat → Prop} {e : Ending} {w' : World} (h : TreeRet w S (· = .node l row r) e w') : TreeRet w S (Tr.joined l row r) e w' :=
  h.mono fun t ht => by subst ht; rfl

set_option maxRecDepth 100000 in
set_option maxHeartbeats 2000000 in
theorem even_1a (A : Option Addr) (c : Nat) (row : List El) (S : Nat → Prop) (w : World) (ll lr r : Tr) (lrow : List El) (pl pr : Option Addr) (hl : IsTree w S (.node ll lrow lr) pl) (hr : IsTree w S r pr) (hrow : Row w S A row.length c row) (hne : row ≠ [])
    (hbd : (Tr.node ll lrow lr).all.length + row.length + r.all.length ≤ 1099511627776) (c1 : (Tr.node ll lrow lr).high > r.high + 1) (c2 : ll.high ≥ lr.high) :
    Calls Tryd.prog 92 #[.pointer pl, .slice A row.length c, .pointer pr] w (TreeRet w S (Tr.joined (.node ll lrow lr) row r)) := by
  have h7 := hl.high_le
  have h8 := hr.high_le
  replace h7 := Nat.le_trans h7 (show _ ≤ 1099511627776 by omega)
  replace h8 := Nat.le_trans h8 (show _ ≤ 1099511627776 by omega)
  obtain ⟨lne, lb, lA, ln, lc, lpl, lpr, rfl, lS, lr0, hll, hlr, lc0, lc1, lc2, lc3, lc4, lc5, lc6⟩ := id hl
  obtain rfl : ln = lrow.length := lr0.1.symm
  rw [all_node] at hbd
  go_enter Tryd.func92, Tryd.ntmps92
  repeat' (first | (go_at_call 91; first | ((with_reducible refine (high_any _ _ S _ (by first | exact hl | exact hl.drew | exact hl.drew.drew)).mono ?_); rintro _ _ ⟨rfl, rfl⟩; dsimp only) | ((with_reducible refine (high_any _ _ S _ (by first | exact hr | exact hr.drew | exact hr.drew.drew)).mono ?_); rintro _ _ ⟨rfl, rfl⟩; dsimp only) | ((with_reducible refine (high_any _ _ S _ (by first | exact hll | exact hll.drew | exact hll.drew.drew)).mono ?_); rintro _ _ ⟨rfl, rfl⟩; dsimp only) | ((with_reducible refine (high_any _ _ S _ (by first | exact hlr | exact hlr.drew | exact hlr.drew.drew)).mono ?_); rintro _ _ ⟨rfl, rfl⟩; dsimp only)) | ((with_reducible refine region_at 2 ?_); refine wp_region_order [(0, true, false), (1, true, false), (2, true, false), (3, true, false), (5, true, false), (6, true, false), (7, true, false), (8, true, false), (4, false, false), (9, false, false), (10, true, false)] (by kernel_rfl) (by kernel_rfl) (by kernel_rfl) rfl rfl ?_) | ((with_reducible refine region_at 3 ?_); refine wp_region_order [(0, true, false), (1, true, false), (2, true, false), (3, true, false), (4, true, false), (5, true, false), (6, true, false), (7, true, false), (8, true, false), (9, true, false), (10, true, false), (11, true, false), (12, true, false), (13, true, false), (14, false, false), (15, false, false), (16, true, false)] (by kernel_rfl) (by kernel_rfl) (by kernel_rfl) rfl rfl ?_) | (go_at_call 93; first | ((with_reducible refine (made_any lr r lpr pr A _ c row S _ hlr.drew.drew hr.drew.drew hrow.drew.drew hne (by omega)).mono ?_); rintro _ w1 ⟨p1, t1, rfl, ht1, rfl, hb1⟩; have hb1' := undrew2 hb1; have ht1' : IsTree w1 (Fr w S) _ p1 := ht1; dsimp only) | ((with_reducible refine (made_any ll _ lpl p1 lA _ lc lrow (Fr w S) _ (hll.drew.drew.step hb1).fr ht1' (lr0.drew.drew.step hb1).fr lne (by rw [all_node]; omega)).mono ?_); rintro _ w2 ⟨p2, t2, rfl, ht2, rfl, hb2⟩; dsimp only)) | (with_reducible refine Keep.last ?_) | (with_reducible refine Keep.below (by assumption) ?_) | (with_reducible refine Keep.kept (by assumption) ?_) | (with_reducible refine Keep.alloc ?_) | (with_reducible refine Keep.same ?_) | ((with_reducible refine WpH.here ?_); first | (refine WpH.nil ?_; refine NoP.normal ?_) | (refine WpH.load (by rfl) (by rfl) (by go_simp; rfl) ?_; simp only [Act.put, List.setIfInBounds_toArray, List.set_cons_zero, List.set_cons_succ]) | (refine WpH.loadT (by rfl) (by rfl) (by go_simp; rfl) (by rintro _ _ ⟨⟩; exact ⟨_, _, _, _, _, _, by rfl, by assumption, by assumption⟩) ?_; simp only [Act.put, List.setIfInBounds_toArray, List.set_cons_zero, List.set_cons_succ]) | (refine WpH.pure (by rfl) (fun w_ => by go_simp; (try go_bits); rfl) ?_; simp only [Act.put, List.setIfInBounds_toArray, List.set_cons_zero, List.set_cons_succ]) | (refine WpH.wild1 (by rfl) (fun _ _ => ?_)) | (refine WpH.skip (by rfl) ?_; simp only [Act.put, List.setIfInBounds_toArray, List.set_cons_zero, List.set_cons_succ])) | go_values | go_skip | go_guarded | go_step | go_upon | go_back)
  go_ret
  exact TreeRet.of (ht2.more fun b _ h => Fr.shrink hb1'.size b h) (by simp [Tr.joined, Tr.rows]) (hb1'.trans (hb2.mono hb1'.size))

set_option maxRecDepth 100000 in
set_option maxHeartbeats 2000000 in
theorem even_1b (A : Option Addr) (c : Nat) (row : List El) (S : Nat → Prop) (w : World) (ll la lb' r : Tr) (lrow mrow : List El) (pl pr : Option Addr) (hl : IsTree w S (.node ll lrow (.node la mrow lb')) pl) (hr : IsTree w S r pr) (hrow : Row w S A row.length c row) (hne : row ≠ [])
    (hbd : (Tr.node ll lrow (.node la mrow lb')).all.length + row.length + r.all.length ≤ 1099511627776) (c1 : (Tr.node ll lrow (.node la mrow lb')).high > r.high + 1) (c2 : ¬ ll.high ≥ (Tr.node la mrow lb').high) :
    Calls Tryd.prog 92 #[.pointer pl, .slice A row.length c, .pointer pr] w (TreeRet w S (Tr.joined (.node ll lrow (.node la mrow lb')) row r)) := by
  have h7 := hl.high_le
  have h8 := hr.high_le
  replace h7 := Nat.le_trans h7 (show _ ≤ 1099511627776 by omega)
  replace h8 := Nat.le_trans h8 (show _ ≤ 1099511627776 by omega)
  obtain ⟨lne, lb, lA, ln, lc, lpl, lpr, rfl, lS, lr0, hll, hlr, lc0, lc1, lc2, lc3, lc4, lc5, lc6⟩ := id hl
  obtain rfl : ln = lrow.length := lr0.1.symm
  obtain ⟨mne, mb, mA, mn, mc, mpl, mpr, rfl, mS, mr0, hma, hmb, mc0, mc1, mc2, mc3, mc4, mc5, mc6⟩ := id hlr
  obtain rfl : mn = mrow.length := mr0.1.symm
  rw [all_node, all_node] at hbd
  go_enter Tryd.func92, Tryd.ntmps92
  repeat' (first | (go_at_call 91; first | ((with_reducible refine (high_any _ _ S _ (by first | exact hl | exact hl.drew | exact hl.drew.drew)).mono ?_); rintro _ _ ⟨rfl, rfl⟩; dsimp only) | ((with_reducible refine (high_any _ _ S _ (by first | exact hr | exact hr.drew | exact hr.drew.drew)).mono ?_); rintro _ _ ⟨rfl, rfl⟩; dsimp only) | ((with_reducible refine (high_any _ _ S _ (by first | exact hll | exact hll.drew | exact hll.drew.drew)).mono ?_); rintro _ _ ⟨rfl, rfl⟩; dsimp only) | ((with_reducible refine (high_any _ _ S _ (by first | exact hlr | exact hlr.drew | exact hlr.drew.drew)).mono ?_); rintro _ _ ⟨rfl, rfl⟩; dsimp only)) | ((with_reducible refine region_at 2 ?_); refine wp_region_order [(0, true, false), (1, true, false), (2, true, false), (3, true, false), (5, true, false), (6, true, false), (7, true, false), (8, true, false), (4, false, false), (9, false, false), (10, true, false)] (by kernel_rfl) (by kernel_rfl) (by kernel_rfl) rfl rfl ?_) | ((with_reducible refine region_at 5 ?_); refine wp_region_order [(0, true, false), (1, true, false), (2, true, false), (3, true, false), (4, true, false), (5, true, false), (6, true, false), (7, true, false), (8, true, false), (9, true, false), (10, true, false), (11, true, false), (13, true, false), (14, true, false), (15, true, false), (16, true, false), (17, true, false), (18, true, false), (19, true, false), (20, true, false), (21, true, false), (22, true, false), (12, false, false), (23, false, false), (24, false, false), (25, true, false)] (by kernel_rfl) (by kernel_rfl) (by kernel_rfl) rfl rfl ?_) | (go_at_call 93; first | ((with_reducible refine (made_any ll la lpl mpl lA _ lc lrow S _ hll.drew.drew hma.drew.drew lr0.drew.drew lne (by omega)).mono ?_); rintro _ w1 ⟨p1, t1, rfl, ht1, rfl, hb1⟩; have hb1' := undrew2 hb1; have ht1' : IsTree w1 (Fr w S) _ p1 := ht1; obtain ⟨hc1, hg1⟩ := bcell hb1; dsimp only) | ((with_reducible refine (made_any lb' r mpr pr A _ c row (Fr w S) _ (hmb.drew.drew.step hb1).fr (hr.drew.drew.step hb1).fr (hrow.drew.drew.step hb1).fr hne (by omega)).mono ?_); rintro _ w2 ⟨p2, t2, rfl, ht2, rfl, hb2⟩; have ht2' : IsTree w2 (Fr w S) _ p2 := ht2.more (fun b _ h => Fr.shrink hb1'.size b h); dsimp only) | ((with_reducible refine (made_any _ _ p1 p2 mA _ mc mrow (Fr w S) _ (ht1'.step hb2) ht2' ((mr0.drew.drew.step hb1).step hb2).fr mne (by rw [all_node, all_node]; omega)).mono ?_); rintro _ w3 ⟨p3, t3, rfl, ht3, rfl, hb3⟩; dsimp only)) | (with_reducible refine Keep.last ?_) | (with_reducible refine Keep.below (by assumption) ?_) | (with_reducible refine Keep.kept (by assumption) ?_) | (with_reducible refine Keep.alloc ?_) | (with_reducible refine Keep.same ?_) | ((with_reducible refine WpH.here ?_); first | (refine WpH.nil ?_; refine NoP.normal ?_) | (refine WpH.load (by rfl) (by rfl) (by go_simp; rfl) ?_; simp only [Act.put, List.setIfInBounds_toArray, List.set_cons_zero, List.set_cons_succ]) | (refine WpH.loadT (by rfl) (by rfl) (by go_simp; rfl) (by rintro _ _ ⟨⟩; exact ⟨_, _, _, _, _, _, by rfl, by assumption, by assumption⟩) ?_; simp only [Act.put, List.setIfInBounds_toArray, List.set_cons_zero, List.set_cons_succ]) | (refine WpH.pure (by rfl) (fun w_ => by go_simp; (try go_bits); rfl) ?_; simp only [Act.put, List.setIfInBounds_toArray, List.set_cons_zero, List.set_cons_succ]) | (refine WpH.wild1 (by rfl) (fun _ _ => ?_)) | (refine WpH.skip (by rfl) ?_; simp only [Act.put, List.setIfInBounds_toArray, List.set_cons_zero, List.set_cons_succ])) | go_values | go_skip | go_guarded | go_step | go_upon | go_back)
  go_ret
  have hb2' : Below w.heap.size w w2 := hb1'.trans (hb2.mono hb1'.size)
  exact TreeRet.of (ht3.more fun b _ h => Fr.shrink hb2'.size b h) (by simp [Tr.joined, Tr.rows]) (hb2'.trans (hb3.mono hb2'.size))

set_option maxRecDepth 100000 in
set_option maxHeartbeats 2000000 in
theorem even_2a (A : Option Addr) (c : Nat) (row : List El) (S : Nat → Prop) (w : World) (l rl rr : Tr) (rrow : List El) (pl pr : Option Addr) (hl : IsTree w S l pl) (hr : IsTree w S (.node rl rrow rr) pr) (hrow : Row w S A row.length c row) (hne : row ≠ [])
    (hbd : l.all.length + row.length + (Tr.node rl rrow rr).all.length ≤ 1099511627776) (c1 : ¬ l.high > (Tr.node rl rrow rr).high + 1) (c2 : (Tr.node rl rrow rr).high > l.high + 1) (c3 : rr.high ≥ rl.high) :
    Calls Tryd.prog 92 #[.pointer pl, .slice A row.length c, .pointer pr] w (TreeRet w S (Tr.joined l row (.node rl rrow rr))) := by
  have h7 := hl.high_le
  have h8 := hr.high_le
  replace h7 := Nat.le_trans h7 (show _ ≤ 1099511627776 by omega)
  replace h8 := Nat.le_trans h8 (show _ ≤ 1099511627776 by omega)
  obtain ⟨lne, lb, lA, ln, lc, lpl, lpr, rfl, lS, lr0, hll, hlr, lc0, lc1, lc2, lc3, lc4, lc5, lc6⟩ := id hr
  obtain rfl : ln = rrow.length := lr0.1.symm
  rw [all_node] at hbd
  go_enter Tryd.func92, Tryd.ntmps92
  repeat' (first | (go_at_call 91; first | ((with_reducible refine (high_any _ _ S _ (by first | exact hl | exact hl.drew | exact hl.drew.drew)).mono ?_); rintro _ _ ⟨rfl, rfl⟩; dsimp only) | ((with_reducible refine (high_any _ _ S _ (by first | exact hr | exact hr.drew | exact hr.drew.drew)).mono ?_); rintro _ _ ⟨rfl, rfl⟩; dsimp only) | ((with_reducible refine (high_any _ _ S _ (by first | exact hll | exact hll.drew | exact hll.drew.drew)).mono ?_); rintro _ _ ⟨rfl, rfl⟩; dsimp only) | ((with_reducible refine (high_any _ _ S _ (by first | exact hlr | exact hlr.drew | exact hlr.drew.drew)).mono ?_); rintro _ _ ⟨rfl, rfl⟩; dsimp only)) | ((with_reducible refine region_at 7 ?_); refine wp_region_order [(0, true, false), (1, true, false), (2, true, false), (3, true, false), (5, true, false), (6, true, false), (7, true, false), (8, true, false), (4, false, false), (9, false, false), (10, true, false)] (by kernel_rfl) (by kernel_rfl) (by kernel_rfl) rfl rfl ?_) | ((with_reducible refine region_at 8 ?_); refine wp_region_order [(0, true, false), (1, true, false), (2, true, false), (3, true, false), (4, true, false), (5, true, false), (7, true, false), (8, true, false), (9, true, false), (10, true, false), (11, true, false), (12, true, false), (13, true, false), (14, true, false), (6, false, false), (15, false, false), (16, true, false)] (by kernel_rfl) (by kernel_rfl) (by kernel_rfl) rfl rfl ?_) | (go_at_call 93; first | ((with_reducible refine (made_any l rl pl lpl A _ c row S _ hl.drew.drew hll.drew.drew hrow.drew.drew hne (by omega)).mono ?_); rintro _ w1 ⟨p1, t1, rfl, ht1, rfl, hb1⟩; have hb1' := undrew2 hb1; have ht1' : IsTree w1 (Fr w S) _ p1 := ht1; dsimp only) | ((with_reducible refine (made_any _ rr p1 lpr lA _ lc rrow (Fr w S) _ ht1' (hlr.drew.drew.step hb1).fr (lr0.drew.drew.step hb1).fr lne (by rw [all_node]; omega)).mono ?_); rintro _ w2 ⟨p2, t2, rfl, ht2, rfl, hb2⟩; dsimp only)) | (with_reducible refine Keep.last ?_) | (with_reducible refine Keep.below (by assumption) ?_) | (with_reducible refine Keep.kept (by assumption) ?_) | (with_reducible refine Keep.alloc ?_) | (with_reducible refine Keep.same ?_) | ((with_reducible refine WpH.here ?_); first | (refine WpH.nil ?_; refine NoP.normal ?_) | (refine WpH.load (by rfl) (by rfl) (by go_simp; rfl) ?_; simp only [Act.put, List.setIfInBounds_toArray, List.set_cons_zero, List.set_cons_succ]) | (refine WpH.loadT (by rfl) (by rfl) (by go_simp; rfl) (by rintro _ _ ⟨⟩; exact ⟨_, _, _, _, _, _, by rfl, by assumption, by assumption⟩) ?_; simp only [Act.put, List.setIfInBounds_toArray, List.set_cons_zero, List.set_cons_succ]) | (refine WpH.pure (by rfl) (fun w_ => by go_simp; (try go_bits); rfl) ?_; simp only [Act.put, List.setIfInBounds_toArray, List.set_cons_zero, List.set_cons_succ]) | (refine WpH.wild1 (by rfl) (fun _ _ => ?_)) | (refine WpH.skip (by rfl) ?_; simp only [Act.put, List.setIfInBounds_toArray, List.set_cons_zero, List.set_cons_succ])) | go_values | go_skip | go_guarded | go_step | go_upon | go_back)
  go_ret
  exact TreeRet.of (ht2.more fun b _ h => Fr.shrink hb1'.size b h) (by simp [Tr.joined, Tr.rows]) (hb1'.trans (hb2.mono hb1'.size))

set_option maxRecDepth 100000 in
set_option maxHeartbeats 2000000 in
theorem even_2b (A : Option Addr) (c : Nat) (row : List El) (S : Nat → Prop) (w : World) (l ra rb rr : Tr) (rrow mrow : List El) (pl pr : Option Addr) (hl : IsTree w S l pl) (hr : IsTree w S (.node (.node ra mrow rb) rrow rr) pr) (hrow : Row w S A row.length c row) (hne : row ≠ [])
    (hbd : l.all.length + row.length + (Tr.node (.node ra mrow rb) rrow rr).all.length ≤ 1099511627776) (c1 : ¬ l.high > (Tr.node (.node ra mrow rb) rrow rr).high + 1) (c2 : (Tr.node (.node ra mrow rb) rrow rr).high > l.high + 1) (c3 : ¬ rr.high ≥ (Tr.node ra mrow rb).high) :
    Calls Tryd.prog 92 #[.pointer pl, .slice A row.length c, .pointer pr] w (TreeRet w S (Tr.joined l row (.node (.node ra mrow rb) rrow rr))) := by
  have h7 := hl.high_le
  have h8 := hr.high_le
  replace h7 := Nat.le_trans h7 (show _ ≤ 1099511627776 by omega)
  replace h8 := Nat.le_trans h8 (show _ ≤ 1099511627776 by omega)
  obtain ⟨lne, lb, lA, ln, lc, lpl, lpr, rfl, lS, lr0, hll, hlr, lc0, lc1, lc2, lc3, lc4, lc5, lc6⟩ := id hr
  obtain rfl : ln = rrow.length := lr0.1.symm
  obtain ⟨mne, mb, mA, mn, mc, mpl, mpr, rfl, mS, mr0, hma, hmb, mc0, mc1, mc2, mc3, mc4, mc5, mc6⟩ := id hll
  obtain rfl : mn = mrow.length := mr0.1.symm
  rw [all_node, all_node] at hbd
  go_enter Tryd.func92, Tryd.ntmps92
  repeat' (first | (go_at_call 91; first | ((with_reducible refine (high_any _ _ S _ (by first | exact hl | exact hl.drew | exact hl.drew.drew)).mono ?_); rintro _ _ ⟨rfl, rfl⟩; dsimp only) | ((with_reducible refine (high_any _ _ S _ (by first | exact hr | exact hr.drew | exact hr.drew.drew)).mono ?_); rintro _ _ ⟨rfl, rfl⟩; dsimp only) | ((with_reducible refine (high_any _ _ S _ (by first | exact hll | exact hll.drew | exact hll.drew.drew)).mono ?_); rintro _ _ ⟨rfl, rfl⟩; dsimp only) | ((with_reducible refine (high_any _ _ S _ (by first | exact hlr | exact hlr.drew | exact hlr.drew.drew)).mono ?_); rintro _ _ ⟨rfl, rfl⟩; dsimp only)) | ((with_reducible refine region_at 7 ?_); refine wp_region_order [(0, true, false), (1, true, false), (2, true, false), (3, true, false), (5, true, false), (6, true, false), (7, true, false), (8, true, false), (4, false, false), (9, false, false), (10, true, false)] (by kernel_rfl) (by kernel_rfl) (by kernel_rfl) rfl rfl ?_) | ((with_reducible refine region_at 10 ?_); refine wp_region_order [(0, true, false), (1, true, false), (2, true, false), (3, true, false), (4, true, false), (5, true, false), (7, true, false), (8, true, false), (9, true, false), (10, true, false), (11, true, false), (12, true, false), (13, true, false), (14, true, false), (15, true, false), (16, true, false), (17, true, false), (18, true, false), (19, true, false), (20, true, false), (21, true, false), (22, true, false), (6, false, false), (23, false, false), (24, false, false), (25, true, false)] (by kernel_rfl) (by kernel_rfl) (by kernel_rfl) rfl rfl ?_) | (go_at_call 93; first | ((with_reducible refine (made_any l ra pl mpl A _ c row S _ hl.drew.drew hma.drew.drew hrow.drew.drew hne (by omega)).mono ?_); rintro _ w1 ⟨p1, t1, rfl, ht1, rfl, hb1⟩; have hb1' := undrew2 hb1; have ht1' : IsTree w1 (Fr w S) _ p1 := ht1; dsimp only) | ((with_reducible refine (made_any rb rr mpr lpr lA _ lc rrow (Fr w S) _ (hmb.drew.drew.step hb1).fr (hlr.drew.drew.step hb1).fr (lr0.drew.drew.step hb1).fr lne (by omega)).mono ?_); rintro _ w2 ⟨p2, t2, rfl, ht2, rfl, hb2⟩; have ht2' : IsTree w2 (Fr w S) _ p2 := ht2.more (fun b _ h => Fr.shrink hb1'.size b h); dsimp only) | ((with_reducible refine (made_any _ _ p1 p2 mA _ mc mrow (Fr w S) _ (ht1'.step hb2) ht2' ((mr0.drew.drew.step hb1).step hb2).fr mne (by rw [all_node, all_node]; omega)).mono ?_); rintro _ w3 ⟨p3, t3, rfl, ht3, rfl, hb3⟩; dsimp only)) | (with_reducible refine Keep.last ?_) | (with_reducible refine Keep.below (by assumption) ?_) | (with_reducible refine Keep.kept (by assumption) ?_) | (with_reducible refine Keep.alloc ?_) | (with_reducible refine Keep.same ?_) | ((with_reducible refine WpH.here ?_); first | (refine WpH.nil ?_; refine NoP.normal ?_) | (refine WpH.load (by rfl) (by rfl) (by go_simp; rfl) ?_; simp only [Act.put, List.setIfInBounds_toArray, List.set_cons_zero, List.set_cons_succ]) | (refine WpH.loadT (by rfl) (by rfl) (by go_simp; rfl) (by rintro _ _ ⟨⟩; exact ⟨_, _, _, _, _, _, by rfl, by assumption, by assumption⟩) ?_; simp only [Act.put, List.setIfInBounds_toArray, List.set_cons_zero, List.set_cons_succ]) | (refine WpH.pure (by rfl) (fun w_ => by go_simp; (try go_bits); rfl) ?_; simp only [Act.put, List.setIfInBounds_toArray, List.set_cons_zero, List.set_cons_succ]) | (refine WpH.wild1 (by rfl) (fun _ _ => ?_)) | (refine WpH.skip (by rfl) ?_; simp only [Act.put, List.setIfInBounds_toArray, List.set_cons_zero, List.set_cons_succ])) | go_values | go_skip | go_guarded | go_step | go_upon | go_back)
  go_ret
  have hb2' : Below w.heap.size w w2 := hb1'.trans (hb2.mono hb1'.size)
  exact TreeRet.of (ht3.more fun b _ h => Fr.shrink hb2'.size b h) (by simp [Tr.joined, Tr.rows]) (hb2'.trans (hb3.mono hb2'.size))

set_option maxRecDepth 100000 in
set_option maxHeartbeats 2000000 in
theorem even_3 (A : Option Addr) (c : Nat) (row : List El) (S : Nat → Prop) (w : World) (l r : Tr) (pl pr : Option Addr) (hl : IsTree w S l pl) (hr : IsTree w S r pr) (hrow : Row w S A row.length c row) (hne : row ≠ [])
    (hbd : l.all.length + row.length + r.all.length ≤ 1099511627776) (c1 : ¬ l.high > r.high + 1) (c2 : ¬ r.high > l.high + 1) :
    Calls Tryd.prog 92 #[.pointer pl, .slice A row.length c, .pointer pr] w (TreeRet w S (Tr.joined l row r)) := by
  have h7 := hl.high_le
  have h8 := hr.high_le
  go_enter Tryd.func92, Tryd.ntmps92
  repeat' (first | (go_at_call 91; first | ((with_reducible refine (high_any _ _ S _ (by first | exact hl | exact hl.drew | exact hl.drew.drew)).mono ?_); rintro _ _ ⟨rfl, rfl⟩; dsimp only) | ((with_reducible refine (high_any _ _ S _ (by first | exact hr | exact hr.drew | exact hr.drew.drew)).mono ?_); rintro _ _ ⟨rfl, rfl⟩; dsimp only)) | (go_at_call 93; ((with_reducible refine (made_any l r pl pr A _ c row S _ hl hr hrow hne (by omega)).mono ?_); rintro _ w1 ⟨p1, t1, rfl, ht1, rfl, hb1⟩; dsimp only)) | go_values | go_skip | go_guarded | go_step | go_upon | go_back)
  go_ret
  exact TreeRet.of ht1 (by simp [Tr.joined, Tr.rows]) hb1

/-- the node, whatever the sides' heights -/
theorem even_any (l r : Tr) (pl pr : Option Addr) (A : Option Addr) (n c : Nat) (row : List El) (S : Nat → Prop) (w : World) (hl : IsTree w S l pl) (hr : IsTree w S r pr) (hrow : Row w S A n c row) (hne : row ≠ [])
    (hbd : l.all.length + row.length + r.all.length ≤ 1099511627776) :
    Calls Tryd.prog 92 #[.pointer pl, .slice A n c, .pointer pr] w (TreeRet w S (Tr.joined l row r)) := by
  obtain rfl : n = row.length := hrow.1.symm
  by_cases c1 : l.high > r.high + 1
  · cases l with
    | nil => simp [Tr.high] at c1
    | node ll lrow lr =>
      by_cases c2 : ll.high ≥ lr.high
      · exact even_1a A c row S w ll lr r lrow pl pr hl hr hrow hne hbd c1 c2
      · cases lr with
        | nil => simp [Tr.high] at c2
        | node a m b => exact even_1b A c row S w ll a b r lrow m pl pr hl hr hrow hne hbd c1 c2
  · by_cases c2 : r.high > l.high + 1
    · cases r with
      | nil => simp [Tr.high] at c2
      | node rl rrow rr =>
        by_cases c3 : rr.high ≥ rl.high
        · exact even_2a A c row S w l rl rr rrow pl pr hl hr hrow hne hbd c1 c2 c3
        · cases rl with
          | nil => simp [Tr.high] at c3
          | node a m b => exact even_2b A c row S w l a b rr rrow m pl pr hl hr hrow hne hbd c1 c2 c3
    · exact even_3 A c row S w l r pl pr hl hr hrow hne hbd c1 c2
end Go.Proofs.YtnpbbidiloahdaaDoor
