/- Part of a proof: what functions of the program compute. Conditions: as each theorem says. -/
import Derived.Maps.RangeWalk
import Derived.Test.YteggpddlkkjmjaaGreatDoorQ0
set_option linter.unusedSimpArgs false
set_option linter.unusedVariables false
set_option maxHeartbeats 4000000
set_option maxRecDepth 100000
namespace Go.Proofs.YteggpddlkkjmjaaGreatDoor
open Go Go.RowKit
theorem all_node (l r : Tr) (row : List El) : (Tr.node l row r).all.length = l.all.length + row.length + r.all.length := by simp [Tr.all]; omega
theorem even_1a (A : Option Addr) (c : Nat) (row : List El) (S : Nat → Prop) (w : World) (ll lr r : Tr) (lrow : List El) (pl pr : Option Addr) (hl : IsTree w S (.node ll lrow lr) pl) (hr : IsTree w S r pr) (hrow : Row w S A row.length c row) (hne : row ≠ [])
 (hbd : (Tr.node ll lrow lr).all.length + row.length + r.all.length ≤ 1099511627776) (c1 : (Tr.node ll lrow lr).high > r.high + 1) (c2 : ll.high ≥ lr.high) :
 Calls Tryz.prog 162 #[.pointer pl, .slice A row.length c, .pointer pr] w (TreeRet w S (Tr.joined (.node ll lrow lr) row r)) := by
 have h7 := hl.high_le
 have h8 := hr.high_le
 replace h7 := Nat.le_trans h7 (show _ ≤ 1099511627776 by omega)
 replace h8 := Nat.le_trans h8 (show _ ≤ 1099511627776 by omega)
 obtain ⟨lne, lb, lA, ln, lc, lpl, lpr, rfl, lS, lr0, hll, hlr, lc0, lc1, lc2, lc3, lc4, lc5, lc6⟩ := id hl
 obtain rfl : ln = lrow.length := lr0.1.symm
 rw [all_node] at hbd
 go_enter Tryz.func162, Tryz.ntmps162
 repeat' (first | (go_at_call 161; first | ((with_reducible refine (high_any _ _ S _ (by first | exact hl)).mono ?_); rintro _ _ ⟨rfl, rfl⟩; dsimp only) | ((with_reducible refine (high_any _ _ S _ (by first | exact hr)).mono ?_); rintro _ _ ⟨rfl, rfl⟩; dsimp only) | ((with_reducible refine (high_any _ _ S _ (by first | exact hll.drew)).mono ?_); rintro _ _ ⟨rfl, rfl⟩; dsimp only) | ((with_reducible refine (high_any _ _ S _ (by first | exact hlr.drew)).mono ?_); rintro _ _ ⟨rfl, rfl⟩; dsimp only)) | ((with_reducible refine region_at 2 ?_); refine wp_region_order (rgl [0,4,8,12,20,24,28,32,17,37,40]) (by kernel_rfl) (by kernel_rfl) (by kernel_rfl) rfl rfl ?_) | ((with_reducible refine region_at 3 ?_); refine wp_region_order (rgl [0,4,8,12,16,20,24,28,32,36,40,44,48,52,57,61,64]) (by kernel_rfl) (by kernel_rfl) (by kernel_rfl) rfl rfl ?_) | (go_at_call 163; first | ((with_reducible refine (made_any lr r lpr pr A _ c row S _ hlr.drew.drew hr.drew.drew hrow.drew.drew hne (by omega)).mono ?_); rintro _ w1 ⟨p1, t1, rfl, ht1, rfl, hb1⟩; have hb1' := undrew2 hb1; have ht1' : IsTree w1 (Fr w S) _ p1 := ht1; dsimp only) | ((with_reducible refine (made_any ll _ lpl p1 lA _ lc lrow (Fr w S) _ (hll.drew.drew.step hb1).fr ht1' (lr0.drew.drew.step hb1).fr lne (by rw [all_node]; omega)).mono ?_); rintro _ w2 ⟨p2, t2, rfl, ht2, rfl, hb2⟩; dsimp only)) | (with_reducible first | refine Keep.below (by assumption) ?_ | refine Keep.same ?_) | ((with_reducible refine WpH.here ?_); first | (refine WpH.nil ?_; refine NoP.normal ?_) | ((first | refine WpH.load (by rfl) (by rfl) (by go_simp; rfl) ?_ | refine WpH.pure (by rfl) (fun w_ => by go_simp; (try go_bits); rfl) ?_); go_frame) | (refine WpH.wild1 (by rfl) (fun _ _ => ?_))) | go_step)
 go_ret
 exact TreeRet.of (ht2.more fun b _ h => Fr.shrink hb1'.size b h) (by simp [Tr.joined, Tr.rows]) (hb1'.trans (hb2.mono hb1'.size))
theorem even_1b (A : Option Addr) (c : Nat) (row : List El) (S : Nat → Prop) (w : World) (ll la lb' r : Tr) (lrow mrow : List El) (pl pr : Option Addr) (hl : IsTree w S (.node ll lrow (.node la mrow lb')) pl) (hr : IsTree w S r pr) (hrow : Row w S A row.length c row) (hne : row ≠ [])
 (hbd : (Tr.node ll lrow (.node la mrow lb')).all.length + row.length + r.all.length ≤ 1099511627776) (c1 : (Tr.node ll lrow (.node la mrow lb')).high > r.high + 1) (c2 : ¬ ll.high ≥ (Tr.node la mrow lb').high) :
 Calls Tryz.prog 162 #[.pointer pl, .slice A row.length c, .pointer pr] w (TreeRet w S (Tr.joined (.node ll lrow (.node la mrow lb')) row r)) := by
 have h7 := hl.high_le
 have h8 := hr.high_le
 replace h7 := Nat.le_trans h7 (show _ ≤ 1099511627776 by omega)
 replace h8 := Nat.le_trans h8 (show _ ≤ 1099511627776 by omega)
 obtain ⟨lne, lb, lA, ln, lc, lpl, lpr, rfl, lS, lr0, hll, hlr, lc0, lc1, lc2, lc3, lc4, lc5, lc6⟩ := id hl
 obtain rfl : ln = lrow.length := lr0.1.symm
 obtain ⟨mne, mb, mA, mn, mc, mpl, mpr, rfl, mS, mr0, hma, hmb, mc0, mc1, mc2, mc3, mc4, mc5, mc6⟩ := id hlr
 obtain rfl : mn = mrow.length := mr0.1.symm
 rw [all_node, all_node] at hbd
 go_enter Tryz.func162, Tryz.ntmps162
 repeat' (first | (go_at_call 161; first | ((with_reducible refine (high_any _ _ S _ (by first | exact hl)).mono ?_); rintro _ _ ⟨rfl, rfl⟩; dsimp only) | ((with_reducible refine (high_any _ _ S _ (by first | exact hr)).mono ?_); rintro _ _ ⟨rfl, rfl⟩; dsimp only) | ((with_reducible refine (high_any _ _ S _ (by first | exact hll.drew)).mono ?_); rintro _ _ ⟨rfl, rfl⟩; dsimp only) | ((with_reducible refine (high_any _ _ S _ (by first | exact hlr.drew)).mono ?_); rintro _ _ ⟨rfl, rfl⟩; dsimp only)) | ((with_reducible refine region_at 2 ?_); refine wp_region_order (rgl [0,4,8,12,20,24,28,32,17,37,40]) (by kernel_rfl) (by kernel_rfl) (by kernel_rfl) rfl rfl ?_) | ((with_reducible refine region_at 5 ?_); refine wp_region_order (rgl [0,4,8,12,16,20,24,28,32,36,40,44,52,56,60,64,68,72,76,80,84,88,49,93,97,100]) (by kernel_rfl) (by kernel_rfl) (by kernel_rfl) rfl rfl ?_) | (go_at_call 163; first | ((with_reducible refine (made_any ll la lpl mpl lA _ lc lrow S _ hll.drew.drew hma.drew.drew lr0.drew.drew lne (by omega)).mono ?_); rintro _ w1 ⟨p1, t1, rfl, ht1, rfl, hb1⟩; have hb1' := undrew2 hb1; have ht1' : IsTree w1 (Fr w S) _ p1 := ht1; obtain ⟨hc1, hg1⟩ := bcell hb1; dsimp only) | ((with_reducible refine (made_any lb' r mpr pr A _ c row (Fr w S) _ (hmb.drew.drew.step hb1).fr (hr.drew.drew.step hb1).fr (hrow.drew.drew.step hb1).fr hne (by omega)).mono ?_); rintro _ w2 ⟨p2, t2, rfl, ht2, rfl, hb2⟩; have ht2' : IsTree w2 (Fr w S) _ p2 := ht2.more (fun b _ h => Fr.shrink hb1'.size b h); dsimp only) | ((with_reducible refine (made_any _ _ p1 p2 mA _ mc mrow (Fr w S) _ (ht1'.step hb2) ht2' ((mr0.drew.drew.step hb1).step hb2).fr mne (by rw [all_node, all_node]; omega)).mono ?_); rintro _ w3 ⟨p3, t3, rfl, ht3, rfl, hb3⟩; dsimp only)) | (with_reducible first | refine Keep.below (by assumption) ?_ | refine Keep.same ?_) | ((with_reducible refine WpH.here ?_); first | (refine WpH.nil ?_; refine NoP.normal ?_) | ((first | refine WpH.load (by rfl) (by rfl) (by go_simp; rfl) ?_ | refine WpH.pure (by rfl) (fun w_ => by go_simp; (try go_bits); rfl) ?_); go_frame) | (refine WpH.wild1 (by rfl) (fun _ _ => ?_))) | go_step)
 go_ret
 have hb2' : Below w.heap.size w w2 := hb1'.trans (hb2.mono hb1'.size)
 exact TreeRet.of (ht3.more fun b _ h => Fr.shrink hb2'.size b h) (by simp [Tr.joined, Tr.rows]) (hb2'.trans (hb3.mono hb2'.size))
theorem even_2a (A : Option Addr) (c : Nat) (row : List El) (S : Nat → Prop) (w : World) (l rl rr : Tr) (rrow : List El) (pl pr : Option Addr) (hl : IsTree w S l pl) (hr : IsTree w S (.node rl rrow rr) pr) (hrow : Row w S A row.length c row) (hne : row ≠ [])
 (hbd : l.all.length + row.length + (Tr.node rl rrow rr).all.length ≤ 1099511627776) (c1 : ¬ l.high > (Tr.node rl rrow rr).high + 1) (c2 : (Tr.node rl rrow rr).high > l.high + 1) (c3 : rr.high ≥ rl.high) :
 Calls Tryz.prog 162 #[.pointer pl, .slice A row.length c, .pointer pr] w (TreeRet w S (Tr.joined l row (.node rl rrow rr))) := by
 have h7 := hl.high_le
 have h8 := hr.high_le
 replace h7 := Nat.le_trans h7 (show _ ≤ 1099511627776 by omega)
 replace h8 := Nat.le_trans h8 (show _ ≤ 1099511627776 by omega)
 obtain ⟨lne, lb, lA, ln, lc, lpl, lpr, rfl, lS, lr0, hll, hlr, lc0, lc1, lc2, lc3, lc4, lc5, lc6⟩ := id hr
 obtain rfl : ln = rrow.length := lr0.1.symm
 rw [all_node] at hbd
 go_enter Tryz.func162, Tryz.ntmps162
 repeat' (first | (go_at_call 161; first | ((with_reducible refine (high_any _ _ S _ (by first | exact hl)).mono ?_); rintro _ _ ⟨rfl, rfl⟩; dsimp only) | ((with_reducible refine (high_any _ _ S _ (by first | exact hr)).mono ?_); rintro _ _ ⟨rfl, rfl⟩; dsimp only) | ((with_reducible refine (high_any _ _ S _ (by first | exact hll.drew)).mono ?_); rintro _ _ ⟨rfl, rfl⟩; dsimp only) | ((with_reducible refine (high_any _ _ S _ (by first | exact hlr.drew)).mono ?_); rintro _ _ ⟨rfl, rfl⟩; dsimp only)) | ((with_reducible refine region_at 7 ?_); refine wp_region_order (rgl [0,4,8,12,20,24,28,32,17,37,40]) (by kernel_rfl) (by kernel_rfl) (by kernel_rfl) rfl rfl ?_) | ((with_reducible refine region_at 8 ?_); refine wp_region_order (rgl [0,4,8,12,16,20,28,32,36,40,44,48,52,56,25,61,64]) (by kernel_rfl) (by kernel_rfl) (by kernel_rfl) rfl rfl ?_) | (go_at_call 163; first | ((with_reducible refine (made_any l rl pl lpl A _ c row S _ hl.drew.drew hll.drew.drew hrow.drew.drew hne (by omega)).mono ?_); rintro _ w1 ⟨p1, t1, rfl, ht1, rfl, hb1⟩; have hb1' := undrew2 hb1; have ht1' : IsTree w1 (Fr w S) _ p1 := ht1; dsimp only) | ((with_reducible refine (made_any _ rr p1 lpr lA _ lc rrow (Fr w S) _ ht1' (hlr.drew.drew.step hb1).fr (lr0.drew.drew.step hb1).fr lne (by rw [all_node]; omega)).mono ?_); rintro _ w2 ⟨p2, t2, rfl, ht2, rfl, hb2⟩; dsimp only)) | (with_reducible first | refine Keep.below (by assumption) ?_ | refine Keep.same ?_) | ((with_reducible refine WpH.here ?_); first | (refine WpH.nil ?_; refine NoP.normal ?_) | ((first | refine WpH.load (by rfl) (by rfl) (by go_simp; rfl) ?_ | refine WpH.pure (by rfl) (fun w_ => by go_simp; (try go_bits); rfl) ?_); go_frame) | (refine WpH.wild1 (by rfl) (fun _ _ => ?_))) | go_step)
 go_ret
 exact TreeRet.of (ht2.more fun b _ h => Fr.shrink hb1'.size b h) (by simp [Tr.joined, Tr.rows]) (hb1'.trans (hb2.mono hb1'.size))
theorem even_2b (A : Option Addr) (c : Nat) (row : List El) (S : Nat → Prop) (w : World) (l ra rb rr : Tr) (rrow mrow : List El) (pl pr : Option Addr) (hl : IsTree w S l pl) (hr : IsTree w S (.node (.node ra mrow rb) rrow rr) pr) (hrow : Row w S A row.length c row) (hne : row ≠ [])
 (hbd : l.all.length + row.length + (Tr.node (.node ra mrow rb) rrow rr).all.length ≤ 1099511627776) (c1 : ¬ l.high > (Tr.node (.node ra mrow rb) rrow rr).high + 1) (c2 : (Tr.node (.node ra mrow rb) rrow rr).high > l.high + 1) (c3 : ¬ rr.high ≥ (Tr.node ra mrow rb).high) :
 Calls Tryz.prog 162 #[.pointer pl, .slice A row.length c, .pointer pr] w (TreeRet w S (Tr.joined l row (.node (.node ra mrow rb) rrow rr))) := by
 have h7 := hl.high_le
 have h8 := hr.high_le
 replace h7 := Nat.le_trans h7 (show _ ≤ 1099511627776 by omega)
 replace h8 := Nat.le_trans h8 (show _ ≤ 1099511627776 by omega)
 obtain ⟨lne, lb, lA, ln, lc, lpl, lpr, rfl, lS, lr0, hll, hlr, lc0, lc1, lc2, lc3, lc4, lc5, lc6⟩ := id hr
 obtain rfl : ln = rrow.length := lr0.1.symm
 obtain ⟨mne, mb, mA, mn, mc, mpl, mpr, rfl, mS, mr0, hma, hmb, mc0, mc1, mc2, mc3, mc4, mc5, mc6⟩ := id hll
 obtain rfl : mn = mrow.length := mr0.1.symm
 rw [all_node, all_node] at hbd
 go_enter Tryz.func162, Tryz.ntmps162
 repeat' (first | (go_at_call 161; first | ((with_reducible refine (high_any _ _ S _ (by first | exact hl)).mono ?_); rintro _ _ ⟨rfl, rfl⟩; dsimp only) | ((with_reducible refine (high_any _ _ S _ (by first | exact hr)).mono ?_); rintro _ _ ⟨rfl, rfl⟩; dsimp only) | ((with_reducible refine (high_any _ _ S _ (by first | exact hll.drew)).mono ?_); rintro _ _ ⟨rfl, rfl⟩; dsimp only) | ((with_reducible refine (high_any _ _ S _ (by first | exact hlr.drew)).mono ?_); rintro _ _ ⟨rfl, rfl⟩; dsimp only)) | ((with_reducible refine region_at 7 ?_); refine wp_region_order (rgl [0,4,8,12,20,24,28,32,17,37,40]) (by kernel_rfl) (by kernel_rfl) (by kernel_rfl) rfl rfl ?_) | ((with_reducible refine region_at 10 ?_); refine wp_region_order (rgl [0,4,8,12,16,20,28,32,36,40,44,48,52,56,60,64,68,72,76,80,84,88,25,93,97,100]) (by kernel_rfl) (by kernel_rfl) (by kernel_rfl) rfl rfl ?_) | (go_at_call 163; first | ((with_reducible refine (made_any l ra pl mpl A _ c row S _ hl.drew.drew hma.drew.drew hrow.drew.drew hne (by omega)).mono ?_); rintro _ w1 ⟨p1, t1, rfl, ht1, rfl, hb1⟩; have hb1' := undrew2 hb1; have ht1' : IsTree w1 (Fr w S) _ p1 := ht1; dsimp only) | ((with_reducible refine (made_any rb rr mpr lpr lA _ lc rrow (Fr w S) _ (hmb.drew.drew.step hb1).fr (hlr.drew.drew.step hb1).fr (lr0.drew.drew.step hb1).fr lne (by omega)).mono ?_); rintro _ w2 ⟨p2, t2, rfl, ht2, rfl, hb2⟩; have ht2' : IsTree w2 (Fr w S) _ p2 := ht2.more (fun b _ h => Fr.shrink hb1'.size b h); dsimp only) | ((with_reducible refine (made_any _ _ p1 p2 mA _ mc mrow (Fr w S) _ (ht1'.step hb2) ht2' ((mr0.drew.drew.step hb1).step hb2).fr mne (by rw [all_node, all_node]; omega)).mono ?_); rintro _ w3 ⟨p3, t3, rfl, ht3, rfl, hb3⟩; dsimp only)) | (with_reducible first | refine Keep.below (by assumption) ?_ | refine Keep.same ?_) | ((with_reducible refine WpH.here ?_); first | (refine WpH.nil ?_; refine NoP.normal ?_) | ((first | refine WpH.load (by rfl) (by rfl) (by go_simp; rfl) ?_ | refine WpH.pure (by rfl) (fun w_ => by go_simp; (try go_bits); rfl) ?_); go_frame) | (refine WpH.wild1 (by rfl) (fun _ _ => ?_))) | go_step)
 go_ret
 have hb2' : Below w.heap.size w w2 := hb1'.trans (hb2.mono hb1'.size)
 exact TreeRet.of (ht3.more fun b _ h => Fr.shrink hb2'.size b h) (by simp [Tr.joined, Tr.rows]) (hb2'.trans (hb3.mono hb2'.size))
theorem even_3 (A : Option Addr) (c : Nat) (row : List El) (S : Nat → Prop) (w : World) (l r : Tr) (pl pr : Option Addr) (hl : IsTree w S l pl) (hr : IsTree w S r pr) (hrow : Row w S A row.length c row) (hne : row ≠ [])
 (hbd : l.all.length + row.length + r.all.length ≤ 1099511627776) (c1 : ¬ l.high > r.high + 1) (c2 : ¬ r.high > l.high + 1) :
 Calls Tryz.prog 162 #[.pointer pl, .slice A row.length c, .pointer pr] w (TreeRet w S (Tr.joined l row r)) := by
 have h7 := hl.high_le
 have h8 := hr.high_le
 go_enter Tryz.func162, Tryz.ntmps162
 repeat' (first | (go_at_call 161; first | ((with_reducible refine (high_any _ _ S _ (by first | exact hl)).mono ?_); rintro _ _ ⟨rfl, rfl⟩; dsimp only) | ((with_reducible refine (high_any _ _ S _ (by first | exact hr)).mono ?_); rintro _ _ ⟨rfl, rfl⟩; dsimp only)) | (go_at_call 163; ((with_reducible refine (made_any l r pl pr A _ c row S _ hl hr hrow hne (by omega)).mono ?_); rintro _ w1 ⟨p1, t1, rfl, ht1, rfl, hb1⟩; dsimp only)) | go_step)
 go_ret
 exact TreeRet.of ht1 (by simp [Tr.joined, Tr.rows]) hb1
theorem even_any (l r : Tr) (pl pr : Option Addr) (A : Option Addr) (n c : Nat) (row : List El) (S : Nat → Prop) (w : World) (hl : IsTree w S l pl) (hr : IsTree w S r pr) (hrow : Row w S A n c row) (hne : row ≠ [])
 (hbd : l.all.length + row.length + r.all.length ≤ 1099511627776) :
 Calls Tryz.prog 162 #[.pointer pl, .slice A n c, .pointer pr] w (TreeRet w S (Tr.joined l row r)) := by
 obtain rfl : n = row.length := hrow.1.symm
 by_cases c1 : l.high > r.high + 1
 · cases l with
   | nil => simp [Tr.high] at c1
   | node ll lrow lr =>
    by_cases c2 : ll.high ≥ lr.high
    · exact even_1a A c row S w ll lr r lrow pl pr hl hr hrow hne hbd c1 c2
    · cases lr with
      | nil => simp [Tr.high] at c2
      | node a m b => exact even_1b A c row S w ll a b r lrow m pl pr hl hr hrow hne hbd c1 c2
 · by_cases c2 : r.high > l.high + 1
   · cases r with
     | nil => simp [Tr.high] at c2
     | node rl rrow rr =>
      by_cases c3 : rr.high ≥ rl.high
      · exact even_2a A c row S w l rl rr rrow pl pr hl hr hrow hne hbd c1 c2 c3
      · cases rl with
        | nil => simp [Tr.high] at c3
        | node a m b => exact even_2b A c row S w l a b rr rrow m pl pr hl hr hrow hne hbd c1 c2 c3
   · exact even_3 A c row S w l r pl pr hl hr hrow hne hbd c1 c2
def JoinAt (k : Nat) : Prop := ∀ (l r : Tr) (pl pr : Option Addr) (A : Option Addr) (c : Nat) (row : List El) (S : Nat → Prop) (w : World), l.high + r.high ≤ k → IsTree w S l pl → IsTree w S r pr → Row w S A row.length c row → row ≠ [] →
 l.all.length + row.length + r.all.length ≤ 1099511627776 → Calls Tryz.prog 157 #[.pointer pl, .slice A row.length c, .pointer pr] w (TreeRet w S (Tr.joined l row r))
theorem join_1 (k : Nat) (ih : JoinAt k) (A : Option Addr) (c : Nat) (row : List El) (S : Nat → Prop) (w : World) (ll lr r : Tr) (lrow : List El) (pl pr : Option Addr) (hk : (Tr.node ll lrow lr).high + r.high ≤ k + 1) (hl : IsTree w S (.node ll lrow lr) pl) (hr : IsTree w S r pr)
 (hrow : Row w S A row.length c row) (hne : row ≠ []) (hbd : (Tr.node ll lrow lr).all.length + row.length + r.all.length ≤ 1099511627776) (c1 : (Tr.node ll lrow lr).high > r.high + 1) :
 Calls Tryz.prog 157 #[.pointer pl, .slice A row.length c, .pointer pr] w (TreeRet w S (Tr.joined (.node ll lrow lr) row r)) := by
 have h7 := hl.high_le
 have h8 := hr.high_le
 replace h7 := Nat.le_trans h7 (show _ ≤ 1099511627776 by omega)
 replace h8 := Nat.le_trans h8 (show _ ≤ 1099511627776 by omega)
 have hlt : lr.high + r.high ≤ k := by simp only [Tr.high] at hk; omega
 have IH := hid (ih lr r)
 clear ih hk
 obtain ⟨lne, lb, lA, ln, lc, lpl, lpr, rfl, lS, lr0, hll, hlr, lc0, lc1, lc2, lc3, lc4, lc5, lc6⟩ := id hl
 obtain rfl : ln = lrow.length := lr0.1.symm
 rw [all_node] at hbd
 go_enter Tryz.func157, Tryz.ntmps157
 repeat' (first | (go_at_call 161; first | ((with_reducible refine (high_any _ _ S _ (by first | exact hl)).mono ?_); rintro _ _ ⟨rfl, rfl⟩; dsimp only) | ((with_reducible refine (high_any _ _ S _ (by first | exact hr)).mono ?_); rintro _ _ ⟨rfl, rfl⟩; dsimp only)) | ((with_reducible refine region_at 2 ?_); refine wp_region_order (rgl [0,4,8,12,16,20,24,28,32,36,40,44,48,52,57,61,64]) (by kernel_rfl) (by kernel_rfl) (by kernel_rfl) rfl rfl ?_) | (go_at_call 157; (with_reducible refine (IH.out lpr pr A c row S _ hlt hlr.drew hr.drew hrow.drew hne (by omega)).mono ?_); rintro _ w1 ⟨p1, t1, rfl, ht1, hq1, hb1⟩; have hb1' := undrew hb1; have ht1' : IsTree w1 (Fr w S) _ p1 := ht1; have hq1' := hid hq1; have hal := hid hq1.all; clear hq1; dsimp only) | (go_at_call 162; (with_reducible refine (even_any ll _ lpl p1 lA _ lc lrow (Fr w S) _ (hll.drew.step hb1).fr ht1' (lr0.drew.step hb1).fr lne (by rw [hal.out]; simp only [List.length_append]; omega)).mono ?_); rintro _ w2 ⟨p2, t2, rfl, ht2, hq2, hb2⟩; dsimp only) | (with_reducible refine Keep.below (by assumption) ?_) | ((with_reducible refine WpH.here ?_); first | (refine WpH.nil ?_; refine NoP.normal ?_) | ((first | refine WpH.load (by rfl) (by rfl) (by go_simp; rfl) ?_ | refine WpH.pure (by rfl) (fun w_ => by go_simp; (try go_bits); rfl) ?_); go_frame) | (refine WpH.wild1 (by rfl) (fun _ _ => ?_))) | go_step)
 go_ret
 refine TreeRet.of (ht2.more fun b _ h => Fr.shrink hb1'.size b h) ?_ (hb1'.trans (hb2.mono hb1'.size))
 have := hq1'.out
 simp only [Tr.joined, Tr.rows] at *
 rw [hq2, this]
 simp
theorem join_2 (k : Nat) (ih : JoinAt k) (A : Option Addr) (c : Nat) (row : List El) (S : Nat → Prop) (w : World) (l rl rr : Tr) (rrow : List El) (pl pr : Option Addr) (hk : l.high + (Tr.node rl rrow rr).high ≤ k + 1) (hl : IsTree w S l pl) (hr : IsTree w S (.node rl rrow rr) pr)
 (hrow : Row w S A row.length c row) (hne : row ≠ []) (hbd : l.all.length + row.length + (Tr.node rl rrow rr).all.length ≤ 1099511627776) (c1 : ¬ l.high > (Tr.node rl rrow rr).high + 1) (c2 : (Tr.node rl rrow rr).high > l.high + 1) :
 Calls Tryz.prog 157 #[.pointer pl, .slice A row.length c, .pointer pr] w (TreeRet w S (Tr.joined l row (.node rl rrow rr))) := by
 have h7 := hl.high_le
 have h8 := hr.high_le
 replace h7 := Nat.le_trans h7 (show _ ≤ 1099511627776 by omega)
 replace h8 := Nat.le_trans h8 (show _ ≤ 1099511627776 by omega)
 have hlt : l.high + rl.high ≤ k := by simp only [Tr.high] at hk; omega
 have IH := hid (ih l rl)
 clear ih hk
 obtain ⟨lne, lb, lA, ln, lc, lpl, lpr, rfl, lS, lr0, hll, hlr, lc0, lc1, lc2, lc3, lc4, lc5, lc6⟩ := id hr
 obtain rfl : ln = rrow.length := lr0.1.symm
 rw [all_node] at hbd
 go_enter Tryz.func157, Tryz.ntmps157
 repeat' (first | (go_at_call 161; first | ((with_reducible refine (high_any _ _ S _ (by first | exact hl)).mono ?_); rintro _ _ ⟨rfl, rfl⟩; dsimp only) | ((with_reducible refine (high_any _ _ S _ (by first | exact hr)).mono ?_); rintro _ _ ⟨rfl, rfl⟩; dsimp only)) | ((with_reducible refine region_at 4 ?_); refine wp_region_order (rgl [0,4,8,12,16,20,28,32,36,40,44,48,52,56,25,61,64]) (by kernel_rfl) (by kernel_rfl) (by kernel_rfl) rfl rfl ?_) | (go_at_call 157; (with_reducible refine (IH.out pl lpl A c row S _ hlt hl.drew hll.drew hrow.drew hne (by omega)).mono ?_); rintro _ w1 ⟨p1, t1, rfl, ht1, hq1, hb1⟩; have hb1' := undrew hb1; have ht1' : IsTree w1 (Fr w S) _ p1 := ht1; have hq1' := hid hq1; have hal := hid hq1.all; clear hq1; dsimp only) | (go_at_call 162; (with_reducible refine (even_any _ rr p1 lpr lA _ lc rrow (Fr w S) _ ht1' (hlr.drew.step hb1).fr (lr0.drew.step hb1).fr lne (by rw [hal.out]; simp only [List.length_append]; omega)).mono ?_); rintro _ w2 ⟨p2, t2, rfl, ht2, hq2, hb2⟩; dsimp only) | (with_reducible refine Keep.below (by assumption) ?_) | ((with_reducible refine WpH.here ?_); first | (refine WpH.nil ?_; refine NoP.normal ?_) | ((first | refine WpH.load (by rfl) (by rfl) (by go_simp; rfl) ?_ | refine WpH.pure (by rfl) (fun w_ => by go_simp; (try go_bits); rfl) ?_); go_frame) | (refine WpH.wild1 (by rfl) (fun _ _ => ?_))) | go_step)
 go_ret
 refine TreeRet.of (ht2.more fun b _ h => Fr.shrink hb1'.size b h) ?_ (hb1'.trans (hb2.mono hb1'.size))
 have := hq1'.out
 simp only [Tr.joined, Tr.rows] at *
 rw [hq2, this]
 simp
theorem join_3 (A : Option Addr) (c : Nat) (row : List El) (S : Nat → Prop) (w : World) (l r : Tr) (pl pr : Option Addr) (hl : IsTree w S l pl) (hr : IsTree w S r pr) (hrow : Row w S A row.length c row) (hne : row ≠ [])
 (hbd : l.all.length + row.length + r.all.length ≤ 1099511627776) (c1 : ¬ l.high > r.high + 1) (c2 : ¬ r.high > l.high + 1) :
 Calls Tryz.prog 157 #[.pointer pl, .slice A row.length c, .pointer pr] w (TreeRet w S (Tr.joined l row r)) := by
 have h7 := hl.high_le
 have h8 := hr.high_le
 go_enter Tryz.func157, Tryz.ntmps157
 repeat' (first | (go_at_call 161; first | ((with_reducible refine (high_any _ _ S _ (by first | exact hl)).mono ?_); rintro _ _ ⟨rfl, rfl⟩; dsimp only) | ((with_reducible refine (high_any _ _ S _ (by first | exact hr)).mono ?_); rintro _ _ ⟨rfl, rfl⟩; dsimp only)) | (go_at_call 163; ((with_reducible refine (made_any l r pl pr A _ c row S _ hl hr hrow hne (by omega)).mono ?_); rintro _ w1 ⟨p1, t1, rfl, ht1, rfl, hb1⟩; dsimp only)) | go_step)
 go_ret
 exact TreeRet.of ht1 (by simp [Tr.joined, Tr.rows]) hb1
theorem joinAt : ∀ k, JoinAt k := by
 intro k
 induction k with
 | zero =>
  intro l r pl pr A c row S w hk hl hr hrow hne hbd
  exact join_3 A c row S w l r pl pr hl hr hrow hne hbd (by omega) (by omega)
 | succ k ih =>
  intro l r pl pr A c row S w hk hl hr hrow hne hbd
  by_cases c1 : l.high > r.high + 1
  · cases l with
    | nil => simp [Tr.high] at c1
    | node ll lrow lr => exact join_1 k ih A c row S w ll lr r lrow pl pr hk hl hr hrow hne hbd c1
  · by_cases c2 : r.high > l.high + 1
    · cases r with
      | nil => simp [Tr.high] at c2
      | node rl rrow rr => exact join_2 k ih A c row S w l rl rr rrow pl pr hk hl hr hrow hne hbd c1 c2
    · exact join_3 A c row S w l r pl pr hl hr hrow hne hbd c1 c2
theorem join_any (l r : Tr) (pl pr : Option Addr) (A : Option Addr) (n c : Nat) (row : List El) (S : Nat → Prop) (w : World) (hl : IsTree w S l pl) (hr : IsTree w S r pr) (hrow : Row w S A n c row) (hne : row ≠ [])
 (hbd : l.all.length + row.length + r.all.length ≤ 1099511627776) :
 Calls Tryz.prog 157 #[.pointer pl, .slice A n c, .pointer pr] w (TreeRet w S (Tr.joined l row r)) := by
 obtain rfl : n = row.length := hrow.1.symm
 exact joinAt _ l r pl pr A c row S w (Nat.le_refl _) hl hr hrow hne hbd
def LeafRet (w : World) (S : Nat → Prop) (R : Tr → List El → Prop) (e : Ending) (w' : World) : Prop :=
 ∃ p t A n c row, e = .returned (.tuple #[.pointer p, .slice A n c]) ∧ IsTree w' (Fr w S) t p ∧ Row w' (Fr w S) A n c row ∧ row ≠ [] ∧ R t row ∧ Below w.heap.size w w'
theorem LeafRet.of {w : World} {S : Nat → Prop} {R : Tr → List El → Prop} {p : Option Addr} {t : Tr} {A : Option Addr} {n c : Nat} {row : List El} {w' : World} (ht : IsTree w' (Fr w S) t p) (hr : Row w' (Fr w S) A n c row) (hne : row ≠ []) (hR : R t row)
 (hb : Below w.heap.size w w') : LeafRet w S R (.returned (.tuple #[.pointer p, .slice A n c])) w' := ⟨p, t, A, n, c, row, rfl, ht, hr, hne, hR, hb⟩
theorem all_of_snoc {t t' : Tr} {row : List El} (h : t.rows = t'.rows ++ [row]) : t.all = t'.all ++ row := by rw [Tr.all_eq, h, Tr.all_eq]; simp
theorem all_of_cons {t t' : Tr} {row : List El} (h : t.rows = row :: t'.rows) : t.all = row ++ t'.all := by rw [Tr.all_eq, h, Tr.all_eq]; simp
theorem all_of_rows {t : Tr} {a b : Tr} (h : t.rows = a.rows ++ b.rows) : t.all = a.all ++ b.all := by rw [Tr.all_eq, h, Tr.all_eq, Tr.all_eq]; simp
theorem last_any (l r : Tr) (row : List El) : ∀ (p : Option Addr) (S : Nat → Prop) (w : World), IsTree w S (.node l row r) p → (Tr.node l row r).all.length ≤ 1099511627776 →
 Calls Tryz.prog 146 #[.pointer p] w (LeafRet w S (fun t x => (Tr.node l row r).rows = t.rows ++ [x])) := by
 induction r generalizing l row with
 | nil =>
  intro p S w h hbd
  obtain ⟨ne, b, A, n, c, pl, pr, rfl, bS, hrow, hl, hr, c0, c1, c2, c3, c4, c5, c6⟩ := h
  obtain rfl := hr
  clear c3 c4 c5 c6
  go_enter Tryz.func146, Tryz.ntmps146
  repeat' (first | ((with_reducible refine region_at 2 ?_); refine wp_region_order (rgl [0,4,8,12,16,20,24,28,32,36]) (by kernel_rfl) (by kernel_rfl) (by kernel_rfl) rfl rfl ?_) | ((with_reducible refine WpH.here ?_); first | (refine WpH.nil ?_; refine NoP.normal ?_) | ((first | refine WpH.load (by rfl) (by rfl) (by go_simp; rfl) ?_ | refine WpH.pure (by rfl) (fun w_ => by go_simp; (try go_bits); rfl) ?_); go_frame)) | go_step)
  go_ret2
  exact LeafRet.of hl.drew.fr hrow.drew.fr ne (by simp [Tr.rows]) (Below.refl _ _).drew
 | node rl rrow rr _ ih =>
  intro p S w h hbd
  obtain ⟨ne, b, A, n, c, pl, pr, rfl, bS, hrow, hl, hr, c0, c1, c2, c3, c4, c5, c6⟩ := h
  obtain ⟨b', hpr⟩ : ∃ b', pr = some ⟨b', 0, none⟩ := by obtain ⟨_, b', _, _, _, _, _, e, _⟩ := id hr; exact ⟨b', e⟩
  subst hpr
  rw [all_node] at hbd
  have IH := hid (ih rl rrow (some ⟨b', 0, none⟩) S w hr (by omega))
  clear ih c3 c4 c5 c6
  have hbl : b < w.heap.size := lt_of_cell' c0
  go_enter Tryz.func146, Tryz.ntmps146
  repeat' (first | (go_at_call 146; (with_reducible refine (Calls.mono IH.out ?_)); rintro _ w1 ⟨p1, t1, A1, n1, c1', x, rfl, ht1, hr1, hne1, hq1, hb1⟩; have hq1' := hid hq1; have hal := hid (all_of_snoc hq1); clear hq1; obtain ⟨hc1, hg1⟩ := bcell hb1; dsimp only) | ((with_reducible refine region_at 4 ?_); refine wp_region_order (rgl [0,4,8,12,16,20,24,28,32,40,37,44,48]) (by kernel_rfl) (by kernel_rfl) (by kernel_rfl) rfl rfl ?_) | (go_at_call 157; (with_reducible refine (join_any l t1 pl p1 A n c row (Fr w S) _ (hl.step hb1).fr.drew ht1.drew (hrow.step hb1).fr.drew ne (by have := congrArg List.length hal.out; simp only [List.length_append] at this; omega)).mono ?_); rintro _ w2 ⟨p2, t2, rfl, ht2, hq2, hb2⟩; dsimp only) | (with_reducible refine Keep.below (by assumption) ?_) | ((with_reducible refine WpH.here ?_); first | (refine WpH.nil ?_; refine NoP.normal ?_) | ((first | refine WpH.load (by rfl) (by rfl) (by go_simp; rfl) ?_ | refine WpH.pure (by rfl) (fun w_ => by go_simp; (try go_bits); rfl) ?_); go_frame) | (refine WpH.wild1 (by rfl) (fun _ _ => ?_))) | go_step)
  go_ret2
  have hb2' := undrew hb2
  refine LeafRet.of (ht2.more fun b _ h => Fr.shrink hb1.size b h) (hr1.drew.step hb2) hne1 ?_ (hb1.trans (hb2'.mono hb1.size))
  have := hq1'.out
  simp only [Tr.joined, Tr.rows] at *
  rw [hq2, this]
  simp
theorem first_any (l r : Tr) (row : List El) : ∀ (p : Option Addr) (S : Nat → Prop) (w : World), IsTree w S (.node l row r) p → (Tr.node l row r).all.length ≤ 1099511627776 →
 Calls Tryz.prog 147 #[.pointer p] w (LeafRet w S (fun t x => (Tr.node l row r).rows = x :: t.rows)) := by
 induction l generalizing r row with
 | nil =>
  intro p S w h hbd
  obtain ⟨ne, b, A, n, c, pl, pr, rfl, bS, hrow, hl, hr, c0, c1, c2, c3, c4, c5, c6⟩ := h
  obtain rfl := hl
  clear c3 c4 c5 c6
  go_enter Tryz.func147, Tryz.ntmps147
  repeat' (first | ((with_reducible refine region_at 2 ?_); refine wp_region_order (rgl [0,4,8,12,16,20,24,28,32,36]) (by kernel_rfl) (by kernel_rfl) (by kernel_rfl) rfl rfl ?_) | ((with_reducible refine WpH.here ?_); first | (refine WpH.nil ?_; refine NoP.normal ?_) | ((first | refine WpH.load (by rfl) (by rfl) (by go_simp; rfl) ?_ | refine WpH.pure (by rfl) (fun w_ => by go_simp; (try go_bits); rfl) ?_); go_frame)) | go_step)
  go_ret2
  exact LeafRet.of hr.drew.fr hrow.drew.fr ne (by simp [Tr.rows]) (Below.refl _ _).drew
 | node ll lrow lr ih _ =>
  intro p S w h hbd
  obtain ⟨ne, b, A, n, c, pl, pr, rfl, bS, hrow, hl, hr, c0, c1, c2, c3, c4, c5, c6⟩ := h
  obtain ⟨b', hpl⟩ : ∃ b', pl = some ⟨b', 0, none⟩ := by obtain ⟨_, b', _, _, _, _, _, e, _⟩ := id hl; exact ⟨b', e⟩
  subst hpl
  rw [all_node] at hbd
  have IH := hid (ih lr lrow (some ⟨b', 0, none⟩) S w hl (by omega))
  clear ih c3 c4 c5 c6
  have hbl : b < w.heap.size := lt_of_cell' c0
  go_enter Tryz.func147, Tryz.ntmps147
  repeat' (first | (go_at_call 147; (with_reducible refine (Calls.mono IH.out ?_)); rintro _ w1 ⟨p1, t1, A1, n1, c1', x, rfl, ht1, hr1, hne1, hq1, hb1⟩; have hq1' := hid hq1; have hal := hid (all_of_cons hq1); clear hq1; obtain ⟨hc1, hg1⟩ := bcell hb1; dsimp only) | ((with_reducible refine region_at 4 ?_); refine wp_region_order (rgl [0,4,8,12,16,20,24,28,32,40,37,44,48]) (by kernel_rfl) (by kernel_rfl) (by kernel_rfl) rfl rfl ?_) | (go_at_call 157; (with_reducible refine (join_any t1 r p1 pr A n c row (Fr w S) _ ht1.drew (hr.step hb1).fr.drew (hrow.step hb1).fr.drew ne (by have := congrArg List.length hal.out; simp only [List.length_append] at this; omega)).mono ?_); rintro _ w2 ⟨p2, t2, rfl, ht2, hq2, hb2⟩; dsimp only) | (with_reducible refine Keep.below (by assumption) ?_) | ((with_reducible refine WpH.here ?_); first | (refine WpH.nil ?_; refine NoP.normal ?_) | ((first | refine WpH.load (by rfl) (by rfl) (by go_simp; rfl) ?_ | refine WpH.pure (by rfl) (fun w_ => by go_simp; (try go_bits); rfl) ?_); go_frame) | (refine WpH.wild1 (by rfl) (fun _ _ => ?_))) | go_step)
  go_ret2
  have hb2' := undrew hb2
  refine LeafRet.of (ht2.more fun b _ h => Fr.shrink hb1.size b h) (hr1.drew.step hb2) hne1 ?_ (hb1.trans (hb2'.mono hb1.size))
  have := hq1'.out
  simp only [Tr.joined, Tr.rows] at *
  rw [hq2, this]
  rfl
theorem both_any (l r : Tr) (pl pr : Option Addr) (S : Nat → Prop) (w : World) (hl : IsTree w S l pl) (hr : IsTree w S r pr) (hbd : l.all.length + r.all.length ≤ 1099511627776) :
 Calls Tryz.prog 148 #[.pointer pl, .pointer pr] w (TreeRet w S (fun t => t.rows = l.rows ++ r.rows)) := by
 cases l with
 | nil =>
  obtain rfl := hl
  go_enter Tryz.func148, Tryz.ntmps148
  repeat' (first | go_step)
  go_ret
  exact TreeRet.of hr.fr (by simp [Tr.rows]) (Below.refl _ _)
 | node ll lrow lr =>
  obtain ⟨b', hpl⟩ : ∃ b', pl = some ⟨b', 0, none⟩ := by obtain ⟨_, b', _, _, _, _, _, e, _⟩ := id hl; exact ⟨b', e⟩
  subst hpl
  have IH := hid (last_any ll lr lrow (some ⟨b', 0, none⟩) S w hl (by omega))
  go_enter Tryz.func148, Tryz.ntmps148
  repeat' (first | (go_at_call 146; (with_reducible refine (Calls.mono IH.out ?_)); rintro _ w1 ⟨p1, t1, A1, n1, c1', x, rfl, ht1, hr1, hne1, hq1, hb1⟩; have hq1' := hid hq1; have hal := hid (all_of_snoc hq1); clear hq1; dsimp only) | (go_at_call 157; (with_reducible refine (join_any t1 r p1 pr A1 n1 c1' x (Fr w S) _ ht1 (hr.step hb1).fr hr1 hne1 (by have := congrArg List.length hal.out; simp only [List.length_append] at this; omega)).mono ?_); rintro _ w2 ⟨p2, t2, rfl, ht2, hq2, hb2⟩; dsimp only) | go_step)
  go_ret
  refine TreeRet.of (ht2.more fun b _ h => Fr.shrink hb1.size b h) ?_ (hb1.trans (hb2.mono hb1.size))
  have := hq1'.out
  simp only [Tr.joined] at *
  rw [hq2, this]
  simp
def Own (w : World) (base : Nat) (A : Option Addr) (n c : Nat) (es : List El) : Prop := es.length = n ∧ w.ownsRow base 113 5 (.slice A n c) n (cellsOf es)
section
variable {w w' : World} {base : Nat} {A : Option Addr} {n c : Nat} {es : List El}
theorem Own.nil (w : World) (base : Nat) : Own w base none 0 0 [] := ⟨rfl, World.ownsRow_nil w base _ 5⟩
theorem Own.row (h : Own w base A n c es) {S : Nat → Prop} (hS : ∀ b, base ≤ b → b < w.heap.size → S b) : Row w S A n c es := by
 obtain ⟨hl, h⟩ := h
 have h0 : Row w (fun b => base ≤ b ∧ b < w.heap.size) A n c es := by
  rcases h.2 with ⟨e, h0⟩ | ⟨g, cap, cur, e, hbg, hh, hn, hm, _, _⟩
  · injection e with e1 e2 e3
    subst e3
    exact ⟨hl, by omega, by unfold maxLen; omega, fun h' => by omega⟩
  · injection e with e1 e2 e3
    subst e1 e3
    refine ⟨hl, hn, hm, fun h0 => ⟨g, 0, rfl, ⟨hbg, lt_of_heap' hh⟩, fun j u hu => ?_⟩⟩
    have := h.cells (g := g) rfl j u hu
    rw [show ((⟨g, 0, none⟩ : Addr).add j) = ⟨g, 0 + j, none⟩ from by unfold Addr.add; split <;> simp_all] at this
    exact this
 exact h0.more fun b _ h => hS b h.1 h.2
theorem Own.block (h : Own w base A n c es) : ∀ a, A = some a → base ≤ a.block ∧ a.block < w.heap.size := by
 intro a ha
 exact h.2.lt a.block (by rw [ha]; rfl)
theorem Own.head {a : Addr} (h : Own w base (some a) n c es) : ∃ g, a = ⟨g, 0, none⟩ := by
 rcases h.2.2 with ⟨e, _⟩ | ⟨g, cap, cur, e, _⟩
 · injection e with e1 e2 e3
   cases e1
 · injection e with e1 e2 e3
   injection e1 with e1
   exact ⟨g, e1⟩
theorem Own.keep {S : Nat → Prop} (h : Own w base A n c es) (hk : Same S w w') (hS : ∀ a, A = some a → S a.block) : Own w' base A n c es := by
 refine ⟨h.1, h.2.1, ?_⟩
 rcases h.2.2 with h0 | ⟨g, cap, cur, e, hbg, hh, r⟩
 · exact .inl h0
 · refine .inr ⟨g, cap, cur, e, hbg, ?_, r⟩
   have hA : A = some ⟨g, 0, none⟩ := by injection e
   exact (hk g (hS _ hA) (lt_of_heap' hh)).trans hh
theorem Own.mono {base' : Nat} (h : Own w base A n c es) (hb : base' ≤ base) : Own w base' A n c es := by
 refine ⟨h.1, h.2.1, ?_⟩
 rcases h.2.2 with h0 | ⟨g, cap, cur, e, hbg, hh, r⟩
 · exact .inl h0
 · exact .inr ⟨g, cap, cur, e, by omega, hh, r⟩
theorem Own.cap_le (h : Own w base A n c es) : n ≤ c ∧ c ≤ maxLen := by
 rcases h.2.2 with ⟨e, h0⟩ | ⟨g, cap, cur, e, hbg, hh, hn, hm, _⟩
 · injection e with e1 e2 e3
   subst e3
   exact ⟨by omega, by unfold maxLen; omega⟩
 · injection e with e1 e2 e3
   subst e3
   exact ⟨hn, hm⟩
end
theorem Tryz.infoEl : (Tryz.prog.info? 113).map (fun i => (i.zero, i.size, i.bytes)) = some (some (.agg #[.int .i64 0, .int .i64 0, .int .i64 0, .int .i32 0, .int .i64 0]), 5, 40) := by kernel_rfl
theorem run_append_el (w : World) (ty : TypeId) (base : Nat) (A B : Option Addr) (n c m d : Nat) (es fs : List El) (S : Nat → Prop) (hown : Own w base A n c es) (hrow : Row w S B m d fs) (hb : base ≤ w.heap.size) (hbd : n + m ≤ 1099511627776) :
 ∃ A' c' w', (Builtin.append_ #[51, 51] ty #[.slice A n c, .slice B m d]).run Tryz.prog w = .ok (.slice A' (n + m) c') w' ∧ Own w' base A' (n + m) c' (es ++ fs) ∧ w.grownBy w' (A.map (·.block)) ∧
  (A' = A ∨ ∃ g, A' = some ⟨g, 0, none⟩ ∧ w.heap.size ≤ g) := by
 obtain ⟨i0, hi0, hz0, hz1, hz2⟩ := info_parts Tryz.infoEl
 rcases Nat.eq_zero_or_pos m with h0 | h0
 · subst h0
   have hfs : fs = [] := List.eq_nil_of_length_eq_zero hrow.1
   subst hfs
   refine ⟨A, c, w, ?_, by simpa using hown, ⟨rfl, rfl, rfl, Nat.le_refl _, fun _ _ _ => rfl⟩, .inl rfl⟩
   have hc := hown.cap_le.1
   rcases A with _ | a <;> rcases B with _ | b <;>
    simp [Builtin.append_, run_underlying Tryz.underlying51, sizeOf, typeInfo, hi0, Builtin.lenOf, Builtin.firstCells, loadCells, loadCellsFrom, storeCells, hc]
 · obtain ⟨b, off, rfl, _, hcell⟩ := hrow.2.2.2 h0
   have hcells : ∀ j u, (cellsOf fs)[j]? = some u → w.cell? ((⟨b, off, none⟩ : Addr).add j) = some u := fun j u hu => by
    rw [show ((⟨b, off, none⟩ : Addr).add j) = ⟨b, off + j, none⟩ from by unfold Addr.add; split <;> simp_all]
    exact hcell j u hu
   have hmx : n + m ≤ maxLen := by have : maxLen = 9223372036854775807 := rfl; omega
   have hby : (n + m) * 40 ≤ 140737488355328 := by omega
   obtain ⟨v', w', hrun, h2, h3, h4, h5⟩ := run_append_own_at (P := Tryz.prog) w base _ ty _ i0 _ 5 40 Tryz.underlying51 hi0 hz0 hz1 hz2 rfl (by omega) _ n (cellsOf es) hown.2 ⟨b, off, none⟩ m d (cellsOf fs) (by rw [cellsOf_length, hrow.1]) hcells (cellsOf_oneCell fs)
    hmx hby hb
   have hform : ∃ g cap, v' = .slice (some ⟨g, 0, none⟩) (n + m) cap := by
    rcases h2.2 with ⟨_, h⟩ | ⟨g, cap, cur, hv, _⟩
    · omega
    · exact ⟨g, cap, hv⟩
   obtain ⟨g, cap, rfl⟩ := hform
   have hob : (Value.slice A n c).ownBlock = A.map (·.block) := by cases A <;> rfl
   refine ⟨_, cap, w', hrun, ⟨by simp [hown.1, hrow.1], by rw [cellsOf_append]; exact h2⟩, by rw [← hob]; exact h3, ?_⟩
   rcases h5 with h5 | h5
   · cases A with
     | none => simp [Value.ownBlock] at h5
     | some a =>
      left
      obtain ⟨g', rfl⟩ := hown.head
      have : g = g' := by simpa [Value.ownBlock] using h5
      rw [this]
   · right
     have : g = w.heap.size := by simpa [Value.ownBlock] using h5
     exact ⟨g, rfl, by omega⟩
theorem wp_append_el {a : Act} {K : Act → World → Prop} {Q : Exit → Act → World → Prop} {w : World} {dst : Option Tmp} {s x : Operand} {ty : TypeId} {pos : String} {after : Array Edge} {guard : Option (Nat × Bool)}
 (base : Nat) (A B : Option Addr) (n c m d : Nat) (es fs : List El) (S : Nat → Prop) (hs : a.eval s = .slice A n c) (hx : a.eval x = .slice B m d) (hown : Own w base A n c es) (hrow : Row w S B m d fs) (hb : base ≤ w.heap.size) (hbd : n + m ≤ 1099511627776)
 (h : ∀ A' c' w', Own w' base A' (n + m) c' (es ++ fs) → Below base w w' → Same (fun k => ∀ g, A = some g → g.block ≠ k) w w' → (A' = A ∨ ∃ g, A' = some ⟨g, 0, none⟩ ∧ w.heap.size ≤ g) → w.heap.size ≤ w'.heap.size → K (a.put dst (.slice A' (n + m) c')) w') :
 Oper.wp Tryz.prog ⟨dst, .call ⟨.builtin .append, #[s, x], #[51, 51]⟩, ty, pos, after, guard⟩ a w K Q := by
 obtain ⟨A', c', w', hrun, h2, h3, h4⟩ := run_append_el w ty base A B n c m d es fs S hown hrow hb hbd
 unfold Oper.wp execOp
 simp only [resolve, invoke, builtin, Sem.run_bind, Sem.run_pure, Result.andThen_ok, List.map_toArray, List.map_cons, List.map_nil, hs, hx, hrun]
 refine h A' c' w' h2 ?_ ?_ h4 h3.size
 · refine (Below.refl _ _).grown h3 hb fun k hk => ?_
   cases A with
   | none => cases hk
   | some a =>
    have := hown.block a rfl
    have : a.block = k := by simpa using hk
    omega
 · intro k hk hl
   refine h3.block k hl fun e => ?_
   cases A with
   | none => cases e
   | some a => exact hk a rfl (by simpa using e.symm)
theorem wp_append_nil {a : Act} {K : Act → World → Prop} {Q : Exit → Act → World → Prop} {w : World} {dst : Option Tmp} {s x : Operand} {ty : TypeId} {pos : String} {after : Array Edge} {guard : Option (Nat × Bool)}
 (B : Option Addr) (m d : Nat) (fs : List El) (S : Nat → Prop) (hs : a.eval s = .slice none 0 0) (hx : a.eval x = .slice B m d) (hrow : Row w S B m d fs) (hbd : m ≤ 1099511627776)
 (h : ∀ A' c' w', Own w' w.heap.size A' m c' fs → Below w.heap.size w w' → K (a.put dst (.slice A' m c')) w') :
 Oper.wp Tryz.prog ⟨dst, .call ⟨.builtin .append, #[s, x], #[51, 51]⟩, ty, pos, after, guard⟩ a w K Q := by
 refine wp_append_el w.heap.size none B 0 0 m d [] fs S hs hx (Own.nil _ _) hrow (Nat.le_refl _) (by omega) ?_
 intro A' c' w' h1 h2 _ _ _
 rw [Nat.zero_add, List.nil_append] at *
 exact h A' c' w' h1 h2
theorem append_here {a : Act} {K : Act → World → Prop} {Q : Exit → Act → World → Prop} {w : World} {dst : Option Tmp} {s x : Operand} {ty : TypeId} {pos : String} {after : Array Edge} {guard : Option (Nat × Bool)}
 (h : Oper.wp Tryz.prog ⟨dst, .call ⟨.builtin .append, #[s, x], #[51, 51]⟩, ty, pos, after, guard⟩ a w K Q) : Oper.wp Tryz.prog ⟨dst, .call ⟨.builtin .append, #[s, x], #[51, 51]⟩, ty, pos, after, guard⟩ a w K Q := h
def Away (A : Option Addr) (b : Nat) : Prop := ∀ a, A = some a → a.block ≠ b
theorem IsTree.apart {w w' : World} {ST : Nat → Prop} {A A' : Option Addr} {t : Tr} {p : Option Addr} (h : IsTree w ST t p) (hS : ∀ b, ST b → Away A b) (hs : Same (fun k => ∀ g, A = some g → g.block ≠ k) w w') (hat : A' = A ∨ ∃ g, A' = some ⟨g, 0, none⟩ ∧ w.heap.size ≤ g) :
 IsTree w' (fun b => ST b ∧ Away A' b) t p := by
 have h1 : IsTree w (fun b => ST b ∧ Away A' b) t p := h.more fun b hb hst => ⟨hst, by
  rcases hat with rfl | ⟨g, rfl, hg⟩
  · exact hS b hst
  · intro a ha
    injection ha with ha
    subst ha
    show g ≠ b
    omega⟩
 exact h1.keep (hs.sub fun b hb => hS b hb.1)
theorem Row.apart {w w' : World} {ST : Nat → Prop} {A A' : Option Addr} {B : Option Addr} {n c : Nat} {es : List El} (h : Row w ST B n c es) (hS : ∀ b, ST b → Away A b) (hs : Same (fun k => ∀ g, A = some g → g.block ≠ k) w w') (hat : A' = A ∨ ∃ g, A' = some ⟨g, 0, none⟩ ∧ w.heap.size ≤ g) :
 Row w' (fun b => ST b ∧ Away A' b) B n c es := by
 have h1 : Row w (fun b => ST b ∧ Away A' b) B n c es := h.more fun b hb hst => ⟨hst, by
  rcases hat with rfl | ⟨g, rfl, hg⟩
  · exact hS b hst
  · intro a ha
    injection ha with ha
    subst ha
    show g ≠ b
    omega⟩
 exact h1.keep (hs.sub fun b hb => hS b hb.1)
theorem IsTree.before {w w' : World} {ST : Nat → Prop} {A : Option Addr} {n c : Nat} {es : List El} {t : Tr} {p : Option Addr} (h : IsTree w ST t p) (hb : Below w.heap.size w w') (ho : Own w' w.heap.size A n c es) : IsTree w' (fun b => ST b ∧ Away A b) t p :=
 (h.more (S' := fun b => ST b ∧ Away A b) fun b hl hst => ⟨hst, fun a ha => by have := (ho.block a ha).1; omega⟩).step hb
theorem Row.before {w w' : World} {ST : Nat → Prop} {A B : Option Addr} {n c m d : Nat} {es fs : List El} (h : Row w ST B m d fs) (hb : Below w.heap.size w w') (ho : Own w' w.heap.size A n c es) : Row w' (fun b => ST b ∧ Away A b) B m d fs :=
 (h.more (S' := fun b => ST b ∧ Away A b) fun b hl hst => ⟨hst, fun a ha => by have := (ho.block a ha).1; omega⟩).step hb
theorem Away.fr {w : World} {ST : Nat → Prop} {base : Nat} {A : Option Addr} {n c : Nat} {es : List El} (ho : Own w base A n c es) (hS : ∀ b, ST b → Away A b) : ∀ b, Fr w ST b → Away A b := by
 intro b hb a ha
 rcases hb with hb | hb
 · exact hS b hb a ha
 · have := (ho.block a ha).2
   omega
theorem stop_append {a : Act} {K : Act → World → Prop} {Q : Exit → Act → World → Prop} {w : World} {dst : Option Tmp} {s x : Operand} {ty : TypeId} {pos : String} {after : Array Edge} {guard : Option (Nat × Bool)}
 (h : Stop (Oper.wp Tryz.prog ⟨dst, .call ⟨.builtin .append, #[s, x], #[51, 51]⟩, ty, pos, after, guard⟩ a w K Q)) : Oper.wp Tryz.prog ⟨dst, .call ⟨.builtin .append, #[s, x], #[51, 51]⟩, ty, pos, after, guard⟩ a w K Q := by unfold Stop at h; exact h
theorem isTree_nil (w : World) (S : Nat → Prop) : IsTree w S .nil none := rfl
def pieceOf (es : List El) (m k : Nat) : List El := (es.take ((k + 1) * es.length / m)).drop (k * es.length / m)
def cutNo (chunk n : Nat) : Nat := (n + chunk - 1) / chunk
def cutRows (chunk : Nat) (es : List El) : List (List El) := (List.range (cutNo chunk es.length)).map (pieceOf es (cutNo chunk es.length))
def cutUpto (chunk : Nat) (es : List El) (k : Nat) : List (List El) := (List.range k).map (pieceOf es (cutNo chunk es.length))
theorem cutUpto_succ (chunk : Nat) (es : List El) (k : Nat) : cutUpto chunk es (k + 1) = cutUpto chunk es k ++ [pieceOf es (cutNo chunk es.length) k] := by
 simp [cutUpto, List.range_succ]
theorem cutNo_le (chunk n : Nat) (h : 2 ≤ chunk) : cutNo chunk n ≤ n := by
 unfold cutNo
 cases n with
 | zero => rw [Nat.div_eq_of_lt (by omega)]; exact Nat.le_refl _
 | succ n =>
  refine Nat.div_le_of_le_mul ?_
  have : n ≤ chunk * n := Nat.le_mul_of_pos_left _ (by omega)
  rw [Nat.mul_succ]
  omega
theorem cut_lt (n m k : Nat) (hm : m ≤ n) (hk : k < m) : k * n / m < (k + 1) * n / m := by
 have h1 : k * n / m + 1 = (k * n + m) / m := by rw [Nat.add_div_right _ (by omega)]
 have h2 : (k * n + m) / m ≤ (k + 1) * n / m := Nat.div_le_div_right (by rw [Nat.succ_mul]; omega)
 omega
theorem cut_le (n m k : Nat) (hk : k < m) : (k + 1) * n / m ≤ n := by
 refine Nat.div_le_of_le_mul ?_
 exact Nat.mul_le_mul_right _ hk
theorem cutUpto_flat (chunk : Nat) (es : List El) (k : Nat) (hk : k ≤ cutNo chunk es.length) (hc : 2 ≤ chunk) : (cutUpto chunk es k).flatten = es.take (k * es.length / cutNo chunk es.length) := by
 induction k with
 | zero => simp [cutUpto]
 | succ k ih =>
  rw [cutUpto_succ, List.flatten_append, ih (by omega)]
  have h := cut_lt es.length (cutNo chunk es.length) k (cutNo_le chunk _ hc) (by omega)
  simp only [List.flatten_cons, List.flatten_nil, List.append_nil, pieceOf]
  conv => rhs; rw [← List.take_append_drop (k * es.length / cutNo chunk es.length) (es.take ((k + 1) * es.length / cutNo chunk es.length))]
  rw [List.take_take, Nat.min_eq_left (by omega)]
theorem cut_any (A : Option Addr) (n c chunk : Nat) (es : List El) (S : Nat → Prop) (w : World) (hrow : Row w S A n c es) (hn : n ≤ 1073741824) (hc2 : 2 ≤ chunk) (hc64 : chunk ≤ 64) :
 Calls Tryz.prog 149 #[.slice A n c, .int .i64 chunk] w (TreeRet w S (fun t => t.rows = cutRows chunk es)) := by
 obtain ⟨m, hm⟩ : ∃ m, m = cutNo chunk n := ⟨_, rfl⟩
 have hquo : ((n : Int) + chunk - 1) / chunk = (m : Int) := by
  subst hm
  rw [show ((n : Int) + chunk - 1) = ((n + chunk - 1 : Nat) : Int) from by omega]
  rfl
 have Hquo := hid hquo
 have hmn : m ≤ n := by subst hm; exact cutNo_le _ _ hc2
 have Hrow := hid hrow
 have Hlen := hid hrow.1
 have Hm := hid hm
 have hcn := hrow.2.1
 clear hrow hm hquo
 go_enter Tryz.func149, Tryz.ntmps149
 repeat' (first | go_step)
 rw [Hquo.out]
 go_loopw [6, 16] (fun t i wr => ∃ k : Nat, i = .int .i64 k ∧ k ≤ m ∧ (∃ p T, t = .pointer p ∧ IsTree wr (Fr w S) T p ∧ T.rows = cutUpto chunk es k) ∧ Below w.heap.size w wr) (fun _ i _ => m - (intOf i).toNat)
 case atStart => exact ⟨0, rfl, Nat.zero_le _, ⟨none, .nil, rfl, rfl, rfl⟩, Below.refl _ _⟩
 case round =>
  obtain ⟨k, rfl, hk, ⟨p, T, rfl, hT, hTr⟩, hbel⟩ := hrel
  by_cases hlt : k < m
  · obtain ⟨lo, hlo⟩ : ∃ lo, lo = k * n / m := ⟨_, rfl⟩
    obtain ⟨hi, hhi⟩ : ∃ hi, hi = (k + 1) * n / m := ⟨_, rfl⟩
    have hlt1 : lo < hi := by rw [hlo, hhi]; exact cut_lt n m k hmn hlt
    have hle : hi ≤ n := by rw [hhi]; exact cut_le n m k hlt
    have i1 : (0 : Int) ≤ lo := Int.natCast_nonneg _
    have i2 : (lo : Int) ≤ hi := by omega
    have i3 : (hi : Int) ≤ c := by omega
    have i4 : (0 : Int) ≤ hi := Int.natCast_nonneg _
    have hkn : k * n ≤ 1073741824 * 1073741824 := Nat.mul_le_mul (by omega) hn
    have hkn' : (k + 1) * n ≤ 1073741824 * 1073741824 := Nat.mul_le_mul (by omega) hn
    have w1 : IntKind.i64.wrap ((k : Int) * n) = (k : Int) * n := by
     rw [show ((k : Int) * n) = ((k * n : Nat) : Int) from by simp]
     exact IntWalk.i64_in _ (by omega)
    have w2 : IntKind.i64.wrap (((k : Int) + 1) * n) = ((k : Int) + 1) * n := by
     rw [show (((k : Int) + 1) * n) = (((k + 1) * n : Nat) : Int) from by simp]
     exact IntWalk.i64_in _ (by omega)
    have p1 : (0 : Int) ≤ (k : Int) * n := by rw [show ((k : Int) * n) = ((k * n : Nat) : Int) from by simp]; exact Int.natCast_nonneg _
    have p2 : (0 : Int) ≤ ((k : Int) + 1) * n := by rw [show (((k : Int) + 1) * n) = (((k + 1) * n : Nat) : Int) from by simp]; exact Int.natCast_nonneg _
    have q1 : wrap64 (((k : Int) * n).tdiv m) = lo := by
     rw [Int.tdiv_eq_ediv_of_nonneg p1, show ((k : Int) * n) / m = lo from by rw [hlo]; simp]
     exact IntWalk.wrap64_in _ ⟨by omega, by omega⟩
    have q2 : wrap64 ((((k : Int) + 1) * n).tdiv m) = hi := by
     rw [Int.tdiv_eq_ediv_of_nonneg p2, show (((k : Int) + 1) * n) / m = hi from by rw [hhi]; simp]
     exact IntWalk.wrap64_in _ ⟨by omega, by omega⟩
    have hm0 : ¬ m = 0 := by omega
    have Hq := hid (And.intro q1 q2)
    clear p1 p2 q1 q2
    have Hlo := hid hlo
    have Hhi := hid hhi
    have HTr := hid hTr
    clear hlo hhi hTr hkn hkn'
    repeat' (first | ((with_reducible refine region_at 6 ?_); refine wp_region_order (rgl [0,4,8,12,16,20,24,28,32,36,40,44,48,52,56,60,65,69,72]) (by kernel_rfl) (by kernel_rfl) (by kernel_rfl) rfl rfl ?_) | ((with_reducible refine WpH.here ?_); (refine WpH.pure (by rfl) (fun w_ => by go_simp; (try go_bits); rfl) ?_; go_frame)) | go_step)
    rw [Hq.out.1, Hq.out.2]
    have hpc : (es.take hi).drop lo = pieceOf es m k := by
     unfold pieceOf
     rw [Hlen.out, ← Hlo.out, ← Hhi.out]
    have hpiece : Row wr.drew S (if c = lo then A else A.map (·.add (lo * 5))) (hi - lo) (c - lo) (pieceOf es m k) := by
     have h := (((Hrow.out.step hbel).drew).take_ hle).drop_ (k := lo) (by omega)
     rw [hpc] at h
     exact h
    have hTl : T.all.length ≤ n := by
     rw [Tr.all_eq, HTr.out, cutUpto_flat chunk es k (by rw [Hlen.out, ← Hm.out]; omega) hc2]
     have := Hlen.out
     rw [List.length_take]
     omega
    have hpl := hpiece.1
    have hpne : pieceOf es m k ≠ [] := by
     intro h0
     rw [h0] at hpl
     simp at hpl
     omega
    have Hpl := hid hpl
    have hsz := hbel.size
    clear hpl hpc
    repeat' (first | ((with_reducible refine append_here ?_); refine wp_append_nil _ _ _ (pieceOf es m k) S (by rfl) (by rfl) hpiece (by omega) ?_; intro A1 c1 w1 hown1 hb1; have hrow1 : Row w1 (Fr w S) A1 (hi - lo) c1 (pieceOf es m k) := hown1.row (fun b h _ => .inr (Nat.le_trans hsz h))) | (go_at_call 157; (with_reducible refine (join_any T .nil p none A1 _ c1 (pieceOf es m k) (Fr w S) w1 (hT.drew.step hb1) (isTree_nil _ _) hrow1 hpne (by rw [Hpl.out]; simp only [Tr.all, List.length_nil]; omega)).mono ?_); rintro _ w2 ⟨p2, t2, rfl, ht2, hq2, hb2⟩; have Hq2 := hid hq2; clear hq2; dsimp only) | (with_reducible refine Keep.below (by assumption) ?_) | ((with_reducible refine WpH.here ?_); first | (refine WpH.nil ?_; refine NoP.normal ?_) | (refine WpH.pure (by rfl) (fun w_ => by go_simp; (try go_bits); rfl) ?_; go_frame) | (refine WpH.wild1 (by rfl) (fun _ _ => ?_))) | go_step)
    go_roundw
    case rel =>
     refine ⟨k + 1, by go_num, by omega, ⟨p2, t2, rfl, ?_, ?_⟩, ?_⟩
     · exact ht2.more fun b _ h => Fr.shrink (Nat.le_trans hsz hb1.size) b h
     · rw [cutUpto_succ, Hlen.out, ← Hm.out, ← HTr.out, Hq2.out]
       rfl
     · exact hbel.drew.trans ((hb1.mono hsz).trans (hb2.mono (Nat.le_trans hsz hb1.size)))
    case measure => simp [intOf]; omega
  · obtain rfl : k = m := by omega
    have HTr := hid hTr
    clear hTr
    go_wp2
    go_ret
    refine TreeRet.of hT ?_ hbel
    rw [HTr.out]
    unfold cutUpto cutRows
    rw [Hlen.out, ← Hm.out]
def Parted (t : Tr) (i : Nat) (l : Tr) (row : List El) (r : Tr) : Prop :=
 (i < t.all.length ∧ row ≠ [] ∧ t.rows = l.rows ++ row :: r.rows ∧ l.all.length ≤ i ∧ i < l.all.length + row.length) ∨ (t.all.length ≤ i ∧ row = [] ∧ l.rows = t.rows ∧ r.rows = [])
def PartRet (w : World) (S : Nat → Prop) (t : Tr) (i : Nat) (e : Ending) (w' : World) : Prop :=
 ∃ pl l A n c row pr r, e = .returned (.tuple #[.pointer pl, .slice A n c, .pointer pr]) ∧ IsTree w' (Fr w S) l pl ∧ Row w' (Fr w S) A n c row ∧ IsTree w' (Fr w S) r pr ∧ Parted t i l row r ∧ Below w.heap.size w w'
theorem PartRet.of {w : World} {S : Nat → Prop} {t : Tr} {i : Nat} {pl : Option Addr} {l : Tr} {A : Option Addr} {n c : Nat} {row : List El} {pr : Option Addr} {r : Tr} {w' : World} (hl : IsTree w' (Fr w S) l pl) (hrow : Row w' (Fr w S) A n c row) (hr : IsTree w' (Fr w S) r pr)
 (hp : Parted t i l row r) (hb : Below w.heap.size w w') : PartRet w S t i (.returned (.tuple #[.pointer pl, .slice A n c, .pointer pr])) w' := ⟨pl, l, A, n, c, row, pr, r, rfl, hl, hrow, hr, hp, hb⟩
theorem all_of_mid {t l r : Tr} {row : List El} (h : t.rows = l.rows ++ row :: r.rows) : t.all.length = l.all.length + row.length + r.all.length := by rw [Tr.all_eq, h, Tr.all_eq, Tr.all_eq]; simp; omega
theorem all_of_eq {t l : Tr} (h : l.rows = t.rows) : l.all = t.all := by rw [Tr.all_eq, h, Tr.all_eq]
theorem all_of_none {r : Tr} (h : r.rows = []) : r.all = [] := by rw [Tr.all_eq, h]; rfl
theorem Parted.len {t l r : Tr} {i : Nat} {row : List El} (h : Parted t i l row r) : t.all.length = l.all.length + row.length + r.all.length := by
 rcases h with ⟨_, _, h, _⟩ | ⟨_, rfl, h, hr⟩
 · exact all_of_mid h
 · rw [all_of_eq h, all_of_none hr]; simp
theorem parted_any (t : Tr) : ∀ (i : Nat) (p : Option Addr) (S : Nat → Prop) (w : World), IsTree w S t p → t.all.length ≤ 1099511627776 → i ≤ 1099511627776 →
 Calls Tryz.prog 145 #[.pointer p, .int .i64 i] w (PartRet w S t i) := by
 induction t with
 | nil =>
  intro i p S w h hbd hi
  obtain rfl := h
  go_enter Tryz.func145, Tryz.ntmps145
  repeat' (first | go_step)
  go_ret3
  exact PartRet.of (l := .nil) (r := .nil) (row := []) rfl (Row.nil _ _ _ _ (by simp [maxLen])) rfl (.inr ⟨Nat.zero_le _, rfl, rfl, rfl⟩) (Below.refl _ _)
 | node l row r ihl ihr =>
  intro i p S w h hbd hi
  obtain ⟨ne, b, A, n, c, pl, pr, rfl, bS, hrow, hl, hr, c0, c1, c2, c3, c4, c5, c6⟩ := h
  obtain rfl : n = row.length := hrow.1.symm
  rw [all_node] at hbd
  clear c3 c4 c5 c6
  have hbl : b < w.heap.size := lt_of_cell' c0
  by_cases h1 : i < l.all.length
  · have IH := hid (ihl i pl S w hl (by omega) hi)
    clear ihl ihr
    go_enter Tryz.func145, Tryz.ntmps145
    repeat' (first | (go_at_call 117; (with_reducible refine (size_any l pl S _ hl).mono ?_); rintro _ _ ⟨rfl, rfl⟩; dsimp only) | (go_at_call 145; (with_reducible refine (Calls.mono IH.out ?_)); rintro _ w1 ⟨p1, t1, A1, n1, c1', x, p2, t2, rfl, ht1, hr1, ht2, hq1, hb1⟩; have hq1' := hid hq1; have hal := hid hq1.len; clear hq1; obtain ⟨hc1, hg1⟩ := bcell hb1; dsimp only) | ((with_reducible refine region_at 6 ?_); refine wp_region_order (rgl [0,4,8,12,16,20,24,28,32,36,40,45,48,52,56]) (by kernel_rfl) (by kernel_rfl) (by kernel_rfl) rfl rfl ?_) | (go_at_call 157; (with_reducible refine (join_any t2 r p2 pr A _ c row (Fr w S) _ ht2.drew (hr.step hb1).fr.drew (hrow.step hb1).fr.drew ne (by have := hal.out; omega)).mono ?_); rintro _ w2 ⟨p3, t3, rfl, ht3, hq2, hb2⟩; dsimp only) | (with_reducible refine Keep.below (by assumption) ?_) | ((with_reducible refine WpH.here ?_); first | (refine WpH.nil ?_; refine NoP.normal ?_) | ((first | refine WpH.load (by rfl) (by rfl) (by go_simp; rfl) ?_ | refine WpH.pure (by rfl) (fun w_ => by go_simp; (try go_bits); rfl) ?_); go_frame) | (refine WpH.wild1 (by rfl) (fun _ _ => ?_))) | go_step)
    go_ret3
    have hb2' := undrew hb2
    refine PartRet.of ((ht1.drew.step hb2)) (hr1.drew.step hb2) (ht3.more fun b _ h => Fr.shrink hb1.size b h) ?_ (hb1.trans (hb2'.mono hb1.size))
    rcases hq1'.out with ⟨g1, g2, g3, g4, g5⟩ | ⟨g1, _⟩
    · refine .inl ⟨by rw [all_node]; omega, g2, ?_, g4, g5⟩
      simp only [Tr.joined, Tr.rows] at *
      rw [hq2, g3]
      simp
    · omega
  · by_cases h2 : i < l.all.length + row.length
    · clear ihl ihr
      go_enter Tryz.func145, Tryz.ntmps145
      repeat' (first | (go_at_call 117; (with_reducible refine (size_any l pl S _ hl).mono ?_); rintro _ _ ⟨rfl, rfl⟩; dsimp only) | ((with_reducible refine region_at 8 ?_); refine wp_region_order (rgl [0,4,8,12,16,20,24,28,32,36,40,44,48,52,56]) (by kernel_rfl) (by kernel_rfl) (by kernel_rfl) rfl rfl ?_) | ((with_reducible refine WpH.here ?_); first | (refine WpH.nil ?_; refine NoP.normal ?_) | ((first | refine WpH.load (by rfl) (by rfl) (by go_simp; rfl) ?_ | refine WpH.pure (by rfl) (fun w_ => by go_simp; (try go_bits); rfl) ?_); go_frame)) | go_step)
      go_ret3
      exact PartRet.of hl.drew.fr hrow.drew.fr hr.drew.fr (.inl ⟨by rw [all_node]; omega, ne, rfl, by omega, h2⟩) (Below.refl _ _).drew
    · have hcast : ((i : Int) - l.all.length - row.length) = ((i - l.all.length - row.length : Nat) : Int) := by omega
      have IH := hid (ihr (i - l.all.length - row.length) pr S w.drew hr.drew (by omega) (by omega))
      rw [← hcast] at IH
      clear ihl ihr hcast
      go_enter Tryz.func145, Tryz.ntmps145
      repeat' (first | (go_at_call 117; (with_reducible refine (size_any l pl S _ hl).mono ?_); rintro _ _ ⟨rfl, rfl⟩; dsimp only) | (go_at_call 145; (with_reducible refine (Calls.mono IH.out ?_)); rintro _ w1 ⟨p1, t1, A1, n1, c1', x, p2, t2, rfl, ht1, hr1, ht2, hq1, hb1⟩; have hq1' := hid hq1; have hal := hid hq1.len; clear hq1; obtain ⟨hc1, hg1⟩ := bcell (undrew hb1); replace ht1 : IsTree w1 (Fr w S) t1 p1 := ht1; replace ht2 : IsTree w1 (Fr w S) t2 p2 := ht2; replace hr1 : Row w1 (Fr w S) A1 n1 c1' x := hr1; dsimp only) | ((with_reducible refine region_at 9 ?_); refine wp_region_order (rgl [0,4,8,12,16,20,24,28,32,36,40,44,48,53,56,60,64,68,72,76,80]) (by kernel_rfl) (by kernel_rfl) (by kernel_rfl) rfl rfl ?_) | ((with_reducible refine region_at 10 ?_); refine wp_region_order (rgl [0,4,8,12,16,20,24,28,32,40,44,37,48,52,56]) (by kernel_rfl) (by kernel_rfl) (by kernel_rfl) rfl rfl ?_) | (go_at_call 157; (with_reducible refine (join_any l t1 pl p1 A _ c row (Fr w S) _ (hl.drew.step hb1).fr.drew ht1.drew (hrow.drew.step hb1).fr.drew ne (by have := hal.out; omega)).mono ?_); rintro _ w2 ⟨p3, t3, rfl, ht3, hq2, hb2⟩; dsimp only) | (with_reducible refine Keep.below (by assumption) ?_) | ((with_reducible refine WpH.here ?_); first | (refine WpH.nil ?_; refine NoP.normal ?_) | ((first | refine WpH.load (by rfl) (by rfl) (by go_simp; rfl) ?_ | refine WpH.pure (by rfl) (fun w_ => by go_simp; (try go_bits); rfl) ?_); go_frame) | (refine WpH.wild1 (by rfl) (fun _ _ => ?_))) | go_step)
      go_ret3
      have hb1' := undrew hb1
      have hb2' := undrew hb2
      refine PartRet.of (ht3.more fun b _ h => Fr.shrink hb1'.size b h) (hr1.drew.step hb2) (ht2.drew.step hb2) ?_ (hb1'.trans (hb2'.mono hb1'.size))
      rcases hq1'.out with ⟨g1, g2, g3, g4, g5⟩ | ⟨g1, g2, g3, g4⟩
      · refine .inl ⟨by rw [all_node]; omega, g2, ?_, by rw [hq2.all]; simp only [List.length_append]; omega, by rw [hq2.all]; simp only [List.length_append]; omega⟩
        simp only [Tr.joined, Tr.rows] at *
        rw [hq2, g3]
        simp
      · refine .inr ⟨by rw [all_node]; omega, g2, ?_, g4⟩
        simp only [Tr.joined, Tr.rows] at *
        rw [hq2, g3]
class Enc (α : Type) where
 k : Nat
 cells : α → List Value
 len : ∀ a, (cells a).length = k
 one : ∀ a, ∀ u ∈ cells a, u.oneCell' = true
variable {α : Type} [Enc α]
def gcells (l : List α) : List Value := l.flatMap Enc.cells
theorem gcells_cons (e : α) (l : List α) : gcells (e :: l) = Enc.cells e ++ gcells l := by simp [gcells]
theorem gcells_append (a b : List α) : gcells (a ++ b) = gcells a ++ gcells b := by simp [gcells]
theorem gcells_length (l : List α) : (gcells l).length = l.length * Enc.k α := by
 induction l with
 | nil => simp [gcells]
 | cons e l ih => rw [gcells_cons, List.length_append, ih, Enc.len, List.length_cons, Nat.succ_mul]; omega
theorem gcells_take (l : List α) (k : Nat) : (gcells l).take (k * Enc.k α) = gcells (l.take k) := by
 induction l generalizing k with
 | nil => simp [gcells]
 | cons e l ih =>
  cases k with
  | zero => simp [gcells]
  | succ k =>
   have hm : (k + 1) * Enc.k α = k * Enc.k α + Enc.k α := Nat.succ_mul _ _
   rw [List.take_succ_cons, gcells_cons, gcells_cons, List.take_append, Enc.len, List.take_of_length_le (by rw [Enc.len]; omega)]
   rw [show (k + 1) * Enc.k α - Enc.k α = k * Enc.k α from by omega, ih]
theorem gcells_drop (l : List α) (k : Nat) : (gcells l).drop (k * Enc.k α) = gcells (l.drop k) := by
 induction l generalizing k with
 | nil => simp [gcells]
 | cons e l ih =>
  cases k with
  | zero => simp
  | succ k =>
   have hm : (k + 1) * Enc.k α = k * Enc.k α + Enc.k α := Nat.succ_mul _ _
   rw [List.drop_succ_cons, gcells_cons, List.drop_append, Enc.len, List.drop_of_length_le (by rw [Enc.len]; omega)]
   rw [show (k + 1) * Enc.k α - Enc.k α = k * Enc.k α from by omega, ih, List.nil_append]
theorem gcells_at {l : List α} {i : Nat} {e : α} (h : l[i]? = some e) {j : Nat} (hj : j < Enc.k α) : (gcells l)[i * Enc.k α + j]? = (Enc.cells e)[j]? := by
 have h1 : ((gcells l).drop (i * Enc.k α))[j]? = (Enc.cells e)[j]? := by
  rw [gcells_drop]
  have hlt : i < l.length := (List.getElem?_eq_some_iff.1 h).1
  have he : l[i] = e := (List.getElem?_eq_some_iff.1 h).2
  rw [List.drop_eq_getElem_cons hlt, he, gcells_cons, List.getElem?_append_left (by rw [Enc.len]; exact hj)]
 rw [← h1, List.getElem?_drop]
theorem gcells_oneCell (l : List α) : ∀ u ∈ gcells l, u.oneCell' = true := by
 intro u hu
 obtain ⟨e, _, hu⟩ := List.mem_flatMap.1 hu
 exact Enc.one e u hu
def GRow (w : World) (S : Nat → Prop) (A : Option Addr) (n c : Nat) (es : List α) : Prop :=
 es.length = n ∧ n ≤ c ∧ c ≤ maxLen ∧ (0 < n → ∃ b off, A = some ⟨b, off, none⟩ ∧ S b ∧ b < w.heap.size ∧ ∀ j u, (gcells es)[j]? = some u → w.cell? ⟨b, off + j, none⟩ = some u)
section
variable {w w' : World} {S S' : Nat → Prop} {A : Option Addr} {n c : Nat} {es : List α}
theorem GRow.keep (h : GRow w S A n c es) (hsz : w.heap.size ≤ w'.heap.size) (hk : Same S w w') : GRow w' S A n c es := by
 refine ⟨h.1, h.2.1, h.2.2.1, fun hn => ?_⟩
 obtain ⟨b, off, e, hs, hb, hc⟩ := h.2.2.2 hn
 exact ⟨b, off, e, hs, Nat.lt_of_lt_of_le hb hsz, fun j u hu => hk.cell (a := ⟨b, off + j, none⟩) hs (hc j u hu)⟩
theorem GRow.more (h : GRow w S A n c es) (hs : ∀ b, b < w.heap.size → S b → S' b) : GRow w S' A n c es := by
 refine ⟨h.1, h.2.1, h.2.2.1, fun hn => ?_⟩
 obtain ⟨b, off, e, hs', hb, hc⟩ := h.2.2.2 hn
 exact ⟨b, off, e, hs b hb hs', hb, hc⟩
theorem GRow.nil (w : World) (S : Nat → Prop) (A : Option Addr) (c : Nat) (hc : c ≤ maxLen) : GRow w S A 0 c ([] : List α) := ⟨rfl, Nat.zero_le _, hc, fun h => absurd h (by omega)⟩
theorem GRow.len_le (h : GRow w S A n c es) : n ≤ maxLen := Nat.le_trans h.2.1 h.2.2.1
theorem GRow.step (h : GRow w S A n c es) (hb : Below w.heap.size w w') : GRow w' S A n c es := h.keep hb.size (Same.of_below hb)
theorem GRow.drew (h : GRow w S A n c es) : GRow w.drew S A n c es := h.keep (Nat.le_refl _) (Same.drew _ _)
theorem GRow.at_ (h : GRow w S A n c es) {i : Nat} (hi : i < n) : ∃ b off e, A = some ⟨b, off, none⟩ ∧ S b ∧ b < w.heap.size ∧ es[i]? = some e ∧ ∀ j u, (Enc.cells e)[j]? = some u → w.cell? ⟨b, off + i * Enc.k α + j, none⟩ = some u := by
 obtain ⟨hl, hc, hm, hr⟩ := h
 obtain ⟨b, off, hA, hs, hb, hcell⟩ := hr (by omega)
 have hi' : i < es.length := by omega
 have he : es[i]? = some es[i] := List.getElem?_eq_getElem hi'
 refine ⟨b, off, es[i], hA, hs, hb, he, fun j u hu => ?_⟩
 have hj : j < Enc.k α := by
  have := (List.getElem?_eq_some_iff.1 hu).1
  rw [Enc.len] at this
  exact this
 rw [Nat.add_assoc]
 exact hcell _ _ (by rw [gcells_at he hj]; exact hu)
end
def GOwn (t : TypeId) (w : World) (base : Nat) (A : Option Addr) (n c : Nat) (es : List α) : Prop := es.length = n ∧ w.ownsRow base t (Enc.k α) (.slice A n c) n (gcells es)
section
variable {t : TypeId} {w w' : World} {base : Nat} {A : Option Addr} {n c : Nat} {es : List α}
theorem GOwn.nil (t : TypeId) (w : World) (base : Nat) : GOwn t w base none 0 0 ([] : List α) := ⟨rfl, World.ownsRow_nil w base _ _⟩
theorem GOwn.row (h : GOwn t w base A n c es) {S : Nat → Prop} (hS : ∀ b, base ≤ b → b < w.heap.size → S b) : GRow w S A n c es := by
 obtain ⟨hl, h⟩ := h
 have h0 : GRow w (fun b => base ≤ b ∧ b < w.heap.size) A n c es := by
  rcases h.2 with ⟨e, h0⟩ | ⟨g, cap, cur, e, hbg, hh, hn, hm, _, _⟩
  · injection e with e1 e2 e3
    subst e3
    exact ⟨hl, by omega, by unfold maxLen; omega, fun h' => by omega⟩
  · injection e with e1 e2 e3
    subst e1 e3
    refine ⟨hl, hn, hm, fun h0 => ⟨g, 0, rfl, ⟨hbg, lt_of_heap' hh⟩, lt_of_heap' hh, fun j u hu => ?_⟩⟩
    have := h.cells (g := g) rfl j u hu
    rw [show ((⟨g, 0, none⟩ : Addr).add j) = ⟨g, 0 + j, none⟩ from by unfold Addr.add; split <;> simp_all] at this
    exact this
 exact h0.more fun b _ h => hS b h.1 h.2
theorem GOwn.block (h : GOwn t w base A n c es) : ∀ a, A = some a → base ≤ a.block ∧ a.block < w.heap.size := by
 intro a ha
 exact h.2.lt a.block (by rw [ha]; rfl)
theorem GOwn.head {a : Addr} (h : GOwn t w base (some a) n c es) : ∃ g, a = ⟨g, 0, none⟩ := by
 rcases h.2.2 with ⟨e, _⟩ | ⟨g, cap, cur, e, _⟩
 · injection e with e1 e2 e3
   cases e1
 · injection e with e1 e2 e3
   injection e1 with e1
   exact ⟨g, e1⟩
theorem GOwn.keep {S : Nat → Prop} (h : GOwn t w base A n c es) (hk : Same S w w') (hS : ∀ a, A = some a → S a.block) : GOwn t w' base A n c es := by
 refine ⟨h.1, h.2.1, ?_⟩
 rcases h.2.2 with h0 | ⟨g, cap, cur, e, hbg, hh, r⟩
 · exact .inl h0
 · refine .inr ⟨g, cap, cur, e, hbg, ?_, r⟩
   have hA : A = some ⟨g, 0, none⟩ := by injection e
   exact (hk g (hS _ hA) (lt_of_heap' hh)).trans hh
theorem GOwn.step (h : GOwn t w base A n c es) (hb : Below w.heap.size w w') : GOwn t w' base A n c es := h.keep (Same.of_below (S := fun _ => True) hb) fun _ _ => trivial
theorem GOwn.cap_le (h : GOwn t w base A n c es) : n ≤ c ∧ c ≤ maxLen := by
 rcases h.2.2 with ⟨e, h0⟩ | ⟨g, cap, cur, e, hbg, hh, hn, hm, _⟩
 · injection e with e1 e2 e3
   subst e3
   exact ⟨by omega, by unfold maxLen; omega⟩
 · injection e with e1 e2 e3
   subst e3
   exact ⟨hn, hm⟩
end
theorem GOwn.mono {t : TypeId} {w : World} {base base' : Nat} {A : Option Addr} {n c : Nat} {es : List α} (h : GOwn t w base A n c es) (hb : base' ≤ base) : GOwn t w base' A n c es := by
 refine ⟨h.1, h.2.1, ?_⟩
 rcases h.2.2 with h0 | ⟨g, cap, cur, e, hbg, hh, r⟩
 · exact .inl h0
 · exact .inr ⟨g, cap, cur, e, by omega, hh, r⟩
theorem GOwn.lit {t : TypeId} (w : World) (cs : Array Value) (es : List α) (base : Nat) (hb : base ≤ w.heap.size) (hm : es.length ≤ maxLen) (hc : cs.toList = gcells es) : GOwn t (w.alloc (.cells cs t)) base (some ⟨w.heap.size, 0, none⟩) es.length es.length es := by
 refine ⟨rfl, ?_⟩
 rw [← hc]
 refine World.ownsRow_lit w cs es.length hb hm ?_
 rw [← Array.length_toList, hc, gcells_length]
theorem run_append_g (P : Program) (ts t : TypeId) (nm : String) (i0 : TypeInfo) (z : Value) (by_ : Nat) (hu : P.underlying ts = some (.slice t)) (hi0 : P.info? t = some i0) (hz0 : i0.zero = some z) (hz1 : i0.size = Enc.k α) (hz2 : i0.bytes = by_) (hzc : z.cells.size = Enc.k α) (hk0 : 0 < Enc.k α) (hb0 : 0 < by_) (hbb : by_ ≤ 100)
 (w : World) (ty : TypeId) (base : Nat) (A B : Option Addr) (n c m d : Nat) (es fs : List α) (S : Nat → Prop) (hown : GOwn t w base A n c es) (hrow : GRow w S B m d fs) (hb : base ≤ w.heap.size) (hbd : n + m ≤ 1099511627776) :
 ∃ A' c' w', (Builtin.append_ #[ts, ts] ty #[.slice A n c, .slice B m d]).run P w = .ok (.slice A' (n + m) c') w' ∧ GOwn t w' base A' (n + m) c' (es ++ fs) ∧ w.grownBy w' (A.map (·.block)) ∧
  (A' = A ∨ ∃ g, A' = some ⟨g, 0, none⟩ ∧ w.heap.size ≤ g) := by
 rcases Nat.eq_zero_or_pos m with h0 | h0
 · subst h0
   have hfs : fs = [] := List.eq_nil_of_length_eq_zero hrow.1
   subst hfs
   refine ⟨A, c, w, ?_, by simpa using hown, ⟨rfl, rfl, rfl, Nat.le_refl _, fun _ _ _ => rfl⟩, .inl rfl⟩
   have hc := hown.cap_le.1
   rcases A with _ | a <;> rcases B with _ | b <;>
    simp [Builtin.append_, run_underlying hu, sizeOf, typeInfo, hi0, Builtin.lenOf, Builtin.firstCells, loadCells, loadCellsFrom, storeCells, hc]
 · obtain ⟨b, off, rfl, _, _, hcell⟩ := hrow.2.2.2 h0
   have hcells : ∀ j u, (gcells fs)[j]? = some u → w.cell? ((⟨b, off, none⟩ : Addr).add j) = some u := fun j u hu => by
    rw [show ((⟨b, off, none⟩ : Addr).add j) = ⟨b, off + j, none⟩ from by unfold Addr.add; split <;> simp_all]
    exact hcell j u hu
   have hmx : n + m ≤ maxLen := by have : maxLen = 9223372036854775807 := rfl; omega
   have hby : (n + m) * by_ ≤ 140737488355328 := Nat.le_trans (Nat.mul_le_mul hbd hbb) (by decide)
   obtain ⟨v', w', hrun, h2, h3, h4, h5⟩ := run_append_own_at (P := P) w base ts ty t i0 z (Enc.k α) by_ hu hi0 hz0 hz1 hz2 hzc hk0 _ n (gcells es) hown.2 ⟨b, off, none⟩ m d (gcells fs) (by rw [gcells_length, hrow.1]) hcells (gcells_oneCell fs)
    hmx hby hb
   have hform : ∃ g cap, v' = .slice (some ⟨g, 0, none⟩) (n + m) cap := by
    rcases h2.2 with ⟨_, h⟩ | ⟨g, cap, cur, hv, _⟩
    · omega
    · exact ⟨g, cap, hv⟩
   obtain ⟨g, cap, rfl⟩ := hform
   have hob : (Value.slice A n c).ownBlock = A.map (·.block) := by cases A <;> rfl
   refine ⟨_, cap, w', hrun, ⟨by simp [hown.1, hrow.1], by rw [gcells_append]; exact h2⟩, by rw [← hob]; exact h3, ?_⟩
   rcases h5 with h5 | h5
   · cases A with
     | none => simp [Value.ownBlock] at h5
     | some a =>
      left
      obtain ⟨g', rfl⟩ := hown.head
      have : g = g' := by simpa [Value.ownBlock] using h5
      rw [this]
   · right
     have : g = w.heap.size := by simpa [Value.ownBlock] using h5
     exact ⟨g, rfl, by omega⟩
end Go.Proofs.YteggpddlkkjmjaaGreatDoor
