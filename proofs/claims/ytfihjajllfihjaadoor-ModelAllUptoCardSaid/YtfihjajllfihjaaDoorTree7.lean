/- A tree parted at an element: the walk of parted, by induction on the tree. Conditions: the tree lies in memory, fewer than 2^40 elements; the number is none that lies below 0. -/
import Derived.Test.YtfihjajllfihjaaDoorTree5
namespace Go.Proofs.YtfihjajllfihjaaDoor
set_option linter.unusedSimpArgs false
set_option linter.unusedVariables false
open Go Go.RowKit
/-- how what is handed back stands to the tree: the leaf that holds element i, or (i behind the end) none -/
def Parted (t : Tr) (i : Nat) (l : Tr) (row : List El) (r : Tr) : Prop :=
  (i < t.all.length ∧ row ≠ [] ∧ t.rows = l.rows ++ row :: r.rows ∧ l.all.length ≤ i ∧ i < l.all.length + row.length) ∨ (t.all.length ≤ i ∧ row = [] ∧ l.rows = t.rows ∧ r.rows = [])
/-- two trees and a leaf between are handed back -/
def PartRet (w : World) (S : Nat → Prop) (t : Tr) (i : Nat) (e : Ending) (w' : World) : Prop :=
  ∃ pl l A n c row pr r, e = .returned (.tuple #[.pointer pl, .slice A n c, .pointer pr]) ∧ IsTree w' (Fr w S) l pl ∧ Row w' (Fr w S) A n c row ∧ IsTree w' (Fr w S) r pr ∧ Parted t i l row r ∧ Below w.heap.size w w'
theorem PartRet.of {w : World} {S : Nat → Prop} {t : Tr} {i : Nat} {pl : Option Addr} {l : Tr} {A : Option Addr} {n c : Nat} {row : List El} {pr : Option Addr} {r : Tr} {w' : World} (hl : IsTree w' (Fr w S) l pl) (hrow : Row w' (Fr w S) A n c row) (hr : IsTree w' (Fr w S) r pr)
    (hp : Parted t i l row r) (hb : Below w.heap.size w w') : PartRet w S t i (.returned (.tuple #[.pointer pl, .slice A n c, .pointer pr])) w' := ⟨pl, l, A, n, c, row, pr, r, rfl, hl, hrow, hr, hp, hb⟩
theorem all_of_mid {t l r : Tr} {row : List El} (h : t.rows = l.rows ++ row :: r.rows) : t.all.length = l.all.length + row.length + r.all.length := by rw [Tr.all_eq, h, Tr.all_eq, Tr.all_eq]; simp; omega
theorem all_of_eq {t l : Tr} (h : l.rows = t.rows) : l.all = t.all := by rw [Tr.all_eq, h, Tr.all_eq]
theorem all_of_none {r : Tr} (h : r.rows = []) : r.all = [] := by rw [Tr.all_eq, h]; rfl
theorem Parted.len {t l r : Tr} {i : Nat} {row : List El} (h : Parted t i l row r) : t.all.length = l.all.length + row.length + r.all.length := by
  rcases h with ⟨_, _, h, _⟩ | ⟨_, rfl, h, hr⟩
  · exact all_of_mid h
  · rw [all_of_eq h, all_of_none hr]; simp

set_option maxRecDepth 100000 in
set_option maxHeartbeats 4000000 in
theorem parted_any (t : Tr) : ∀ (i : Nat) (p : Option Addr) (S : Nat → Prop) (w : World), IsTree w S t p → t.all.length ≤ 1099511627776 → i ≤ 1099511627776 →
    Calls Tryd.prog 151 #[.pointer p, .int .i64 i] w (PartRet w S t i) := by
  induction t with
  | nil =>
    intro i p S w h hbd hi
    obtain rfl := h
    go_enter Tryd.func151, Tryd.ntmps151
    repeat' (first | (with_reducible refine Keep.last ?_) | (with_reducible refine Keep.below (by assumption) ?_) | (with_reducible refine Keep.kept (by assumption) ?_) | (with_reducible refine Keep.alloc ?_) | (with_reducible refine Keep.same ?_) | ((with_reducible refine WpH.here ?_); first | (refine WpH.nil ?_; refine NoP.normal ?_) | (refine WpH.load (by rfl) (by rfl) (by go_simp; rfl) ?_; simp only [Act.put, List.setIfInBounds_toArray, List.set_cons_zero, List.set_cons_succ]) | (refine WpH.loadT (by rfl) (by rfl) (by go_simp; rfl) (by rintro _ _ ⟨⟩; exact ⟨_, _, _, _, _, _, by rfl, by assumption, by assumption⟩) ?_; simp only [Act.put, List.setIfInBounds_toArray, List.set_cons_zero, List.set_cons_succ]) | (refine WpH.pure (by rfl) (fun w_ => by go_simp; (try go_bits); rfl) ?_; simp only [Act.put, List.setIfInBounds_toArray, List.set_cons_zero, List.set_cons_succ]) | (refine WpH.wild1 (by rfl) (fun _ _ => ?_)) | (refine WpH.skip (by rfl) ?_; simp only [Act.put, List.setIfInBounds_toArray, List.set_cons_zero, List.set_cons_succ])) | go_values | go_skip | go_guarded | go_step | go_upon | go_back)
    go_ret3
    exact PartRet.of (l := .nil) (r := .nil) (row := []) rfl (Row.nil _ _ _ _ (by simp [maxLen])) rfl (.inr ⟨Nat.zero_le _, rfl, rfl, rfl⟩) (Below.refl _ _)
  | node l row r ihl ihr =>
    intro i p S w h hbd hi
    obtain ⟨ne, b, A, n, c, pl, pr, rfl, bS, hrow, hl, hr, c0, c1, c2, c3, c4, c5, c6⟩ := h
    obtain rfl : n = row.length := hrow.1.symm
    rw [all_node] at hbd
    clear c3 c4 c5 c6
    have hbl : b < w.heap.size := lt_of_cell' c0
    by_cases h1 : i < l.all.length
    · have IH := hid (ihl i pl S w hl (by omega) hi)
      clear ihl ihr
      go_enter Tryd.func151, Tryd.ntmps151
      repeat' (first | (go_at_call 128; (with_reducible refine (size_any l pl S _ hl).mono ?_); rintro _ _ ⟨rfl, rfl⟩; dsimp only) | (go_at_call 151; (with_reducible refine (Calls.mono IH.out ?_)); rintro _ w1 ⟨p1, t1, A1, n1, c1', x, p2, t2, rfl, ht1, hr1, ht2, hq1, hb1⟩; have hq1' := hid hq1; have hal := hid hq1.len; clear hq1; obtain ⟨hc1, hg1⟩ := bcell hb1; dsimp only) | ((with_reducible refine region_at 6 ?_); refine wp_region_order [(0, true, false), (1, true, false), (2, true, false), (3, true, false), (4, true, false), (5, true, false), (6, true, false), (7, true, false), (8, true, false), (9, true, false), (10, true, false), (11, false, false), (12, true, false), (13, true, false), (14, true, false)] (by kernel_rfl) (by kernel_rfl) (by kernel_rfl) rfl rfl ?_) | (go_at_call 167; (with_reducible refine (join_any t2 r p2 pr A _ c row (Fr w S) _ ht2.drew (hr.step hb1).fr.drew (hrow.step hb1).fr.drew ne (by have := hal.out; omega)).mono ?_); rintro _ w2 ⟨p3, t3, rfl, ht3, hq2, hb2⟩; dsimp only) | (with_reducible refine Keep.last ?_) | (with_reducible refine Keep.below (by assumption) ?_) | (with_reducible refine Keep.kept (by assumption) ?_) | (with_reducible refine Keep.alloc ?_) | (with_reducible refine Keep.same ?_) | ((with_reducible refine WpH.here ?_); first | (refine WpH.nil ?_; refine NoP.normal ?_) | (refine WpH.load (by rfl) (by rfl) (by go_simp; rfl) ?_; simp only [Act.put, List.setIfInBounds_toArray, List.set_cons_zero, List.set_cons_succ]) | (refine WpH.loadT (by rfl) (by rfl) (by go_simp; rfl) (by rintro _ _ ⟨⟩; exact ⟨_, _, _, _, _, _, by rfl, by assumption, by assumption⟩) ?_; simp only [Act.put, List.setIfInBounds_toArray, List.set_cons_zero, List.set_cons_succ]) | (refine WpH.pure (by rfl) (fun w_ => by go_simp; (try go_bits); rfl) ?_; simp only [Act.put, List.setIfInBounds_toArray, List.set_cons_zero, List.set_cons_succ]) | (refine WpH.wild1 (by rfl) (fun _ _ => ?_)) | (refine WpH.skip (by rfl) ?_; simp only [Act.put, List.setIfInBounds_toArray, List.set_cons_zero, List.set_cons_succ])) | go_values | go_skip | go_guarded | go_step | go_upon | go_back)
      go_ret3
      have hb2' := undrew hb2
      refine PartRet.of ((ht1.drew.step hb2)) (hr1.drew.step hb2) (ht3.more fun b _ h => Fr.shrink hb1.size b h) ?_ (hb1.trans (hb2'.mono hb1.size))
      rcases hq1'.out with ⟨g1, g2, g3, g4, g5⟩ | ⟨g1, _⟩
      · refine .inl ⟨by rw [all_node]; omega, g2, ?_, g4, g5⟩
        simp only [Tr.joined, Tr.rows] at *
        rw [hq2, g3]
        simp
      · omega
    · by_cases h2 : i < l.all.length + row.length
      · clear ihl ihr
        go_enter Tryd.func151, Tryd.ntmps151
        repeat' (first | (go_at_call 128; (with_reducible refine (size_any l pl S _ hl).mono ?_); rintro _ _ ⟨rfl, rfl⟩; dsimp only) | ((with_reducible refine region_at 8 ?_); refine wp_region_order [(0, true, false), (1, true, false), (2, true, false), (3, true, false), (4, true, false), (5, true, false), (6, true, false), (7, true, false), (8, true, false), (9, true, false), (10, true, false), (11, true, false), (12, true, false), (13, true, false), (14, true, false)] (by kernel_rfl) (by kernel_rfl) (by kernel_rfl) rfl rfl ?_) | (with_reducible refine Keep.last ?_) | (with_reducible refine Keep.below (by assumption) ?_) | (with_reducible refine Keep.kept (by assumption) ?_) | (with_reducible refine Keep.alloc ?_) | (with_reducible refine Keep.same ?_) | ((with_reducible refine WpH.here ?_); first | (refine WpH.nil ?_; refine NoP.normal ?_) | (refine WpH.load (by rfl) (by rfl) (by go_simp; rfl) ?_; simp only [Act.put, List.setIfInBounds_toArray, List.set_cons_zero, List.set_cons_succ]) | (refine WpH.loadT (by rfl) (by rfl) (by go_simp; rfl) (by rintro _ _ ⟨⟩; exact ⟨_, _, _, _, _, _, by rfl, by assumption, by assumption⟩) ?_; simp only [Act.put, List.setIfInBounds_toArray, List.set_cons_zero, List.set_cons_succ]) | (refine WpH.pure (by rfl) (fun w_ => by go_simp; (try go_bits); rfl) ?_; simp only [Act.put, List.setIfInBounds_toArray, List.set_cons_zero, List.set_cons_succ]) | (refine WpH.wild1 (by rfl) (fun _ _ => ?_)) | (refine WpH.skip (by rfl) ?_; simp only [Act.put, List.setIfInBounds_toArray, List.set_cons_zero, List.set_cons_succ])) | go_values | go_skip | go_guarded | go_step | go_upon | go_back)
        go_ret3
        exact PartRet.of hl.drew.fr hrow.drew.fr hr.drew.fr (.inl ⟨by rw [all_node]; omega, ne, rfl, by omega, h2⟩) (Below.refl _ _).drew
      · have hcast : ((i : Int) - l.all.length - row.length) = ((i - l.all.length - row.length : Nat) : Int) := by omega
        have IH := hid (ihr (i - l.all.length - row.length) pr S w.drew hr.drew (by omega) (by omega))
        rw [← hcast] at IH
        clear ihl ihr hcast
        go_enter Tryd.func151, Tryd.ntmps151
        repeat' (first | (go_at_call 128; (with_reducible refine (size_any l pl S _ hl).mono ?_); rintro _ _ ⟨rfl, rfl⟩; dsimp only) | (go_at_call 151; (with_reducible refine (Calls.mono IH.out ?_)); rintro _ w1 ⟨p1, t1, A1, n1, c1', x, p2, t2, rfl, ht1, hr1, ht2, hq1, hb1⟩; have hq1' := hid hq1; have hal := hid hq1.len; clear hq1; obtain ⟨hc1, hg1⟩ := bcell (undrew hb1); replace ht1 : IsTree w1 (Fr w S) t1 p1 := ht1; replace ht2 : IsTree w1 (Fr w S) t2 p2 := ht2; replace hr1 : Row w1 (Fr w S) A1 n1 c1' x := hr1; dsimp only) | ((with_reducible refine region_at 9 ?_); refine wp_region_order [(0, true, false), (1, true, false), (2, true, false), (3, true, false), (4, true, false), (5, true, false), (6, true, false), (7, true, false), (8, true, false), (9, true, false), (10, true, false), (11, true, false), (12, true, false), (13, false, false), (14, true, false), (15, true, false), (16, true, false), (17, true, false), (18, true, false), (19, true, false), (20, true, false)] (by kernel_rfl) (by kernel_rfl) (by kernel_rfl) rfl rfl ?_) | ((with_reducible refine region_at 10 ?_); refine wp_region_order [(0, true, false), (1, true, false), (2, true, false), (3, true, false), (4, true, false), (5, true, false), (6, true, false), (7, true, false), (8, true, false), (10, true, false), (11, true, false), (9, false, false), (12, true, false), (13, true, false), (14, true, false)] (by kernel_rfl) (by kernel_rfl) (by kernel_rfl) rfl rfl ?_) | (go_at_call 167; (with_reducible refine (join_any l t1 pl p1 A _ c row (Fr w S) _ (hl.drew.step hb1).fr.drew ht1.drew (hrow.drew.step hb1).fr.drew ne (by have := hal.out; omega)).mono ?_); rintro _ w2 ⟨p3, t3, rfl, ht3, hq2, hb2⟩; dsimp only) | (with_reducible refine Keep.last ?_) | (with_reducible refine Keep.below (by assumption) ?_) | (with_reducible refine Keep.kept (by assumption) ?_) | (with_reducible refine Keep.alloc ?_) | (with_reducible refine Keep.same ?_) | ((with_reducible refine WpH.here ?_); first | (refine WpH.nil ?_; refine NoP.normal ?_) | (refine WpH.load (by rfl) (by rfl) (by go_simp; rfl) ?_; simp only [Act.put, List.setIfInBounds_toArray, List.set_cons_zero, List.set_cons_succ]) | (refine WpH.loadT (by rfl) (by rfl) (by go_simp; rfl) (by rintro _ _ ⟨⟩; exact ⟨_, _, _, _, _, _, by rfl, by assumption, by assumption⟩) ?_; simp only [Act.put, List.setIfInBounds_toArray, List.set_cons_zero, List.set_cons_succ]) | (refine WpH.pure (by rfl) (fun w_ => by go_simp; (try go_bits); rfl) ?_; simp only [Act.put, List.setIfInBounds_toArray, List.set_cons_zero, List.set_cons_succ]) | (refine WpH.wild1 (by rfl) (fun _ _ => ?_)) | (refine WpH.skip (by rfl) ?_; simp only [Act.put, List.setIfInBounds_toArray, List.set_cons_zero, List.set_cons_succ])) | go_values | go_skip | go_guarded | go_step | go_upon | go_back)
        go_ret3
        have hb1' := undrew hb1
        have hb2' := undrew hb2
        refine PartRet.of (ht3.more fun b _ h => Fr.shrink hb1'.size b h) (hr1.drew.step hb2) (ht2.drew.step hb2) ?_ (hb1'.trans (hb2'.mono hb1'.size))
        rcases hq1'.out with ⟨g1, g2, g3, g4, g5⟩ | ⟨g1, g2, g3, g4⟩
        · refine .inl ⟨by rw [all_node]; omega, g2, ?_, by rw [hq2.all]; simp only [List.length_append]; omega, by rw [hq2.all]; simp only [List.length_append]; omega⟩
          simp only [Tr.joined, Tr.rows] at *
          rw [hq2, g3]
          simp
        · refine .inr ⟨by rw [all_node]; omega, g2, ?_, g4⟩
          simp only [Tr.joined, Tr.rows] at *
          rw [hq2, g3]
end Go.Proofs.YtfihjajllfihjaaDoor
