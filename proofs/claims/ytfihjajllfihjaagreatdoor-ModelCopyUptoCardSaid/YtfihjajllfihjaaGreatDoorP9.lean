/- A tree parted at an element: the walk of parted, by induction on the tree. Conditions: the tree lies in memory, fewer than 2^40 elements; the number is none that lies below 0. Elements cut into leaves of about one length: the walk of cut. Conditions: the row lies in memory, fewer than 2^30 elements, chunk 2 to 64. -/
import Derived.Test.YtfihjajllfihjaaGreatDoorSTree5
import Derived.Test.YtfihjajllfihjaaGreatDoorP3
namespace Go.Proofs.YtfihjajllfihjaaGreatDoor
set_option linter.unusedSimpArgs false
set_option linter.unusedVariables false
open Go Go.RowKit
/-- how what is handed back stands to the tree: the leaf that holds element i, or (i behind the end) none -/
def Parted (t : Tr) (i : Nat) (l : Tr) (row : List El) (r : Tr) : Prop :=
  (i < t.all.length ∧ row ≠ [] ∧ t.rows = l.rows ++ row :: r.rows ∧ l.all.length ≤ i ∧ i < l.all.length + row.length) ∨ (t.all.length ≤ i ∧ row = [] ∧ l.rows = t.rows ∧ r.rows = [])
/-- two trees and a leaf between are handed back -/
def PartRet (w : World) (S : Nat → Prop) (t : Tr) (i : Nat) (e : Ending) (w' : World) : Prop :=
  ∃ pl l A n c row pr r, e = .returned (.tuple #[.pointer pl, .slice A n c, .pointer pr]) ∧ IsTree w' (Fr w S) l pl ∧ Row w' (Fr w S) A n c row ∧ IsTree w' (Fr w S) r pr ∧ Parted t i l row r ∧ Below w.heap.size w w'
theorem PartRet.of {w : World} {S : Nat → Prop} {t : Tr} {i : Nat} {pl : Option Addr} {l : Tr} {A : Option Addr} {n c : Nat} {row : List El} {pr : Option Addr} {r : Tr} {w' : World} (hl : IsTree w' (Fr w S) l pl) (hrow : Row w' (Fr w S) A n c row) (hr : IsTree w' (Fr w S) r pr)
    (hp : Parted t i l row r) (hb : Below w.heap.size w w') : PartRet w S t i (.returned (.tuple #[.pointer pl, .slice A n c, .pointer pr])) w' := ⟨pl, l, A, n, c, row, pr, r, rfl, hl, hrow, hr, hp, hb⟩
theorem all_of_mid {t l r : Tr} {row : List El} (h : t.rows = l.rows ++ row :: r.rows) : t.all.length = l.all.length + row.length + r.all.length := by rw [Tr.all_eq, h, Tr.all_eq, Tr.all_eq]; simp; omega
theorem all_of_eq {t l : Tr} (h : l.rows = t.rows) : l.all = t.all := by rw [Tr.all_eq, h, Tr.all_eq]
theorem all_of_none {r : Tr} (h : r.rows = []) : r.all = [] := by rw [Tr.all_eq, h]; rfl
theorem Parted.len {t l r : Tr} {i : Nat} {row : List El} (h : Parted t i l row r) : t.all.length = l.all.length + row.length + r.all.length := by
  rcases h with ⟨_, _, h, _⟩ | ⟨_, rfl, h, hr⟩
  · exact all_of_mid h
  · rw [all_of_eq h, all_of_none hr]; simp

set_option maxRecDepth 100000 in
set_option maxHeartbeats 4000000 in
theorem parted_any (t : Tr) : ∀ (i : Nat) (p : Option Addr) (S : Nat → Prop) (w : World), IsTree w S t p → t.all.length ≤ 1099511627776 → i ≤ 1099511627776 →
    Calls Tryz.prog 125 #[.pointer p, .int .i64 i] w (PartRet w S t i) := by
  induction t with
  | nil =>
    intro i p S w h hbd hi
    obtain rfl := h
    go_enter Tryz.func125, Tryz.ntmps125
    repeat' (first | go_values | go_skip | go_guarded | go_step | go_upon | go_back)
    go_ret3
    exact PartRet.of (l := .nil) (r := .nil) (row := []) rfl (Row.nil _ _ _ _ (by simp [maxLen])) rfl (.inr ⟨Nat.zero_le _, rfl, rfl, rfl⟩) (Below.refl _ _)
  | node l row r ihl ihr =>
    intro i p S w h hbd hi
    obtain ⟨ne, b, A, n, c, pl, pr, rfl, bS, hrow, hl, hr, c0, c1, c2, c3, c4, c5, c6⟩ := h
    obtain rfl : n = row.length := hrow.1.symm
    rw [all_node] at hbd
    clear c3 c4 c5 c6
    have hbl : b < w.heap.size := lt_of_cell' c0
    by_cases h1 : i < l.all.length
    · have IH := hid (ihl i pl S w hl (by omega) hi)
      clear ihl ihr
      go_enter Tryz.func125, Tryz.ntmps125
      repeat' (first | (go_at_call 96; (with_reducible refine (size_any l pl S _ hl).mono ?_); rintro _ _ ⟨rfl, rfl⟩; dsimp only) | (go_at_call 125; (with_reducible refine (Calls.mono IH.out ?_)); rintro _ w1 ⟨p1, t1, A1, n1, c1', x, p2, t2, rfl, ht1, hr1, ht2, hq1, hb1⟩; have hq1' := hid hq1; have hal := hid hq1.len; clear hq1; obtain ⟨hc1, hg1⟩ := bcell hb1; dsimp only) | ((with_reducible refine region_at 6 ?_); refine wp_region_order [(0, true, false), (1, true, false), (2, true, false), (3, true, false), (4, true, false), (5, true, false), (6, true, false), (7, true, false), (8, true, false), (9, true, false), (10, true, false), (11, false, false), (12, true, false), (13, true, false), (14, true, false)] (by kernel_rfl) (by kernel_rfl) (by kernel_rfl) rfl rfl ?_) | (go_at_call 139; (with_reducible refine (join_any t2 r p2 pr A _ c row (Fr w S) _ ht2.drew (hr.step hb1).fr.drew (hrow.step hb1).fr.drew ne (by have := hal.out; omega)).mono ?_); rintro _ w2 ⟨p3, t3, rfl, ht3, hq2, hb2⟩; dsimp only) | (with_reducible refine Keep.last ?_) | (with_reducible refine Keep.below (by assumption) ?_) | (with_reducible refine Keep.kept (by assumption) ?_) | (with_reducible refine Keep.alloc ?_) | (with_reducible refine Keep.same ?_) | ((with_reducible refine WpH.here ?_); first | (refine WpH.nil ?_; refine NoP.normal ?_) | (refine WpH.load (by rfl) (by rfl) (by go_simp; rfl) ?_; simp only [Act.put, List.setIfInBounds_toArray, List.set_cons_zero, List.set_cons_succ]) | (refine WpH.loadT (by rfl) (by rfl) (by go_simp; rfl) (by rintro _ _ ⟨⟩; exact ⟨_, _, _, _, _, _, by rfl, by assumption, by assumption⟩) ?_; simp only [Act.put, List.setIfInBounds_toArray, List.set_cons_zero, List.set_cons_succ]) | (refine WpH.pure (by rfl) (fun w_ => by go_simp; (try go_bits); rfl) ?_; simp only [Act.put, List.setIfInBounds_toArray, List.set_cons_zero, List.set_cons_succ]) | (refine WpH.wild1 (by rfl) (fun _ _ => ?_)) | (refine WpH.skip (by rfl) ?_; simp only [Act.put, List.setIfInBounds_toArray, List.set_cons_zero, List.set_cons_succ])) | go_values | go_skip | go_guarded | go_step | go_upon | go_back)
      go_ret3
      have hb2' := undrew hb2
      refine PartRet.of ((ht1.drew.step hb2)) (hr1.drew.step hb2) (ht3.more fun b _ h => Fr.shrink hb1.size b h) ?_ (hb1.trans (hb2'.mono hb1.size))
      rcases hq1'.out with ⟨g1, g2, g3, g4, g5⟩ | ⟨g1, _⟩
      · refine .inl ⟨by rw [all_node]; omega, g2, ?_, g4, g5⟩
        simp only [Tr.joined, Tr.rows] at *
        rw [hq2, g3]
        simp
      · omega
    · by_cases h2 : i < l.all.length + row.length
      · clear ihl ihr
        go_enter Tryz.func125, Tryz.ntmps125
        repeat' (first | (go_at_call 96; (with_reducible refine (size_any l pl S _ hl).mono ?_); rintro _ _ ⟨rfl, rfl⟩; dsimp only) | ((with_reducible refine region_at 8 ?_); refine wp_region_order [(0, true, false), (1, true, false), (2, true, false), (3, true, false), (4, true, false), (5, true, false), (6, true, false), (7, true, false), (8, true, false), (9, true, false), (10, true, false), (11, true, false), (12, true, false), (13, true, false), (14, true, false)] (by kernel_rfl) (by kernel_rfl) (by kernel_rfl) rfl rfl ?_) | (with_reducible refine Keep.last ?_) | (with_reducible refine Keep.below (by assumption) ?_) | (with_reducible refine Keep.kept (by assumption) ?_) | (with_reducible refine Keep.alloc ?_) | (with_reducible refine Keep.same ?_) | ((with_reducible refine WpH.here ?_); first | (refine WpH.nil ?_; refine NoP.normal ?_) | (refine WpH.load (by rfl) (by rfl) (by go_simp; rfl) ?_; simp only [Act.put, List.setIfInBounds_toArray, List.set_cons_zero, List.set_cons_succ]) | (refine WpH.loadT (by rfl) (by rfl) (by go_simp; rfl) (by rintro _ _ ⟨⟩; exact ⟨_, _, _, _, _, _, by rfl, by assumption, by assumption⟩) ?_; simp only [Act.put, List.setIfInBounds_toArray, List.set_cons_zero, List.set_cons_succ]) | (refine WpH.pure (by rfl) (fun w_ => by go_simp; (try go_bits); rfl) ?_; simp only [Act.put, List.setIfInBounds_toArray, List.set_cons_zero, List.set_cons_succ]) | (refine WpH.wild1 (by rfl) (fun _ _ => ?_)) | (refine WpH.skip (by rfl) ?_; simp only [Act.put, List.setIfInBounds_toArray, List.set_cons_zero, List.set_cons_succ])) | go_values | go_skip | go_guarded | go_step | go_upon | go_back)
        go_ret3
        exact PartRet.of hl.drew.fr hrow.drew.fr hr.drew.fr (.inl ⟨by rw [all_node]; omega, ne, rfl, by omega, h2⟩) (Below.refl _ _).drew
      · have hcast : ((i : Int) - l.all.length - row.length) = ((i - l.all.length - row.length : Nat) : Int) := by omega
        have IH := hid (ihr (i - l.all.length - row.length) pr S w.drew hr.drew (by omega) (by omega))
        rw [← hcast] at IH
        clear ihl ihr hcast
        go_enter Tryz.func125, Tryz.ntmps125
        repeat' (first | (go_at_call 96; (with_reducible refine (size_any l pl S _ hl).mono ?_); rintro _ _ ⟨rfl, rfl⟩; dsimp only) | (go_at_call 125; (with_reducible refine (Calls.mono IH.out ?_)); rintro _ w1 ⟨p1, t1, A1, n1, c1', x, p2, t2, rfl, ht1, hr1, ht2, hq1, hb1⟩; have hq1' := hid hq1; have hal := hid hq1.len; clear hq1; obtain ⟨hc1, hg1⟩ := bcell (undrew hb1); replace ht1 : IsTree w1 (Fr w S) t1 p1 := ht1; replace ht2 : IsTree w1 (Fr w S) t2 p2 := ht2; replace hr1 : Row w1 (Fr w S) A1 n1 c1' x := hr1; dsimp only) | ((with_reducible refine region_at 9 ?_); refine wp_region_order [(0, true, false), (1, true, false), (2, true, false), (3, true, false), (4, true, false), (5, true, false), (6, true, false), (7, true, false), (8, true, false), (9, true, false), (10, true, false), (11, true, false), (12, true, false), (13, false, false), (14, true, false), (15, true, false), (16, true, false), (17, true, false), (18, true, false), (19, true, false), (20, true, false)] (by kernel_rfl) (by kernel_rfl) (by kernel_rfl) rfl rfl ?_) | ((with_reducible refine region_at 10 ?_); refine wp_region_order [(0, true, false), (1, true, false), (2, true, false), (3, true, false), (4, true, false), (5, true, false), (6, true, false), (7, true, false), (8, true, false), (10, true, false), (11, true, false), (9, false, false), (12, true, false), (13, true, false), (14, true, false)] (by kernel_rfl) (by kernel_rfl) (by kernel_rfl) rfl rfl ?_) | (go_at_call 139; (with_reducible refine (join_any l t1 pl p1 A _ c row (Fr w S) _ (hl.drew.step hb1).fr.drew ht1.drew (hrow.drew.step hb1).fr.drew ne (by have := hal.out; omega)).mono ?_); rintro _ w2 ⟨p3, t3, rfl, ht3, hq2, hb2⟩; dsimp only) | (with_reducible refine Keep.last ?_) | (with_reducible refine Keep.below (by assumption) ?_) | (with_reducible refine Keep.kept (by assumption) ?_) | (with_reducible refine Keep.alloc ?_) | (with_reducible refine Keep.same ?_) | ((with_reducible refine WpH.here ?_); first | (refine WpH.nil ?_; refine NoP.normal ?_) | (refine WpH.load (by rfl) (by rfl) (by go_simp; rfl) ?_; simp only [Act.put, List.setIfInBounds_toArray, List.set_cons_zero, List.set_cons_succ]) | (refine WpH.loadT (by rfl) (by rfl) (by go_simp; rfl) (by rintro _ _ ⟨⟩; exact ⟨_, _, _, _, _, _, by rfl, by assumption, by assumption⟩) ?_; simp only [Act.put, List.setIfInBounds_toArray, List.set_cons_zero, List.set_cons_succ]) | (refine WpH.pure (by rfl) (fun w_ => by go_simp; (try go_bits); rfl) ?_; simp only [Act.put, List.setIfInBounds_toArray, List.set_cons_zero, List.set_cons_succ]) | (refine WpH.wild1 (by rfl) (fun _ _ => ?_)) | (refine WpH.skip (by rfl) ?_; simp only [Act.put, List.setIfInBounds_toArray, List.set_cons_zero, List.set_cons_succ])) | go_values | go_skip | go_guarded | go_step | go_upon | go_back)
        go_ret3
        have hb1' := undrew hb1
        have hb2' := undrew hb2
        refine PartRet.of (ht3.more fun b _ h => Fr.shrink hb1'.size b h) (hr1.drew.step hb2) (ht2.drew.step hb2) ?_ (hb1'.trans (hb2'.mono hb1'.size))
        rcases hq1'.out with ⟨g1, g2, g3, g4, g5⟩ | ⟨g1, g2, g3, g4⟩
        · refine .inl ⟨by rw [all_node]; omega, g2, ?_, by rw [hq2.all]; simp only [List.length_append]; omega, by rw [hq2.all]; simp only [List.length_append]; omega⟩
          simp only [Tr.joined, Tr.rows] at *
          rw [hq2, g3]
          simp
        · refine .inr ⟨by rw [all_node]; omega, g2, ?_, g4⟩
          simp only [Tr.joined, Tr.rows] at *
          rw [hq2, g3]
end Go.Proofs.YtfihjajllfihjaaGreatDoor
namespace Go.Proofs.YtfihjajllfihjaaGreatDoor
set_option linter.unusedSimpArgs false
set_option linter.unusedVariables false
open Go Go.RowKit
theorem isTree_nil (w : World) (S : Nat → Prop) : IsTree w S .nil none := rfl
/-- piece k of m -/
def pieceOf (es : List El) (m k : Nat) : List El := (es.take ((k + 1) * es.length / m)).drop (k * es.length / m)
/-- how many pieces -/
def cutNo (chunk n : Nat) : Nat := (n + chunk - 1) / chunk
def cutRows (chunk : Nat) (es : List El) : List (List El) := (List.range (cutNo chunk es.length)).map (pieceOf es (cutNo chunk es.length))
/-- the first k pieces -/
def cutUpto (chunk : Nat) (es : List El) (k : Nat) : List (List El) := (List.range k).map (pieceOf es (cutNo chunk es.length))
theorem cutUpto_succ (chunk : Nat) (es : List El) (k : Nat) : cutUpto chunk es (k + 1) = cutUpto chunk es k ++ [pieceOf es (cutNo chunk es.length) k] := by
  simp [cutUpto, List.range_succ]
theorem cutNo_le (chunk n : Nat) (h : 2 ≤ chunk) : cutNo chunk n ≤ n := by
  unfold cutNo
  cases n with
  | zero => rw [Nat.div_eq_of_lt (by omega)]; exact Nat.le_refl _
  | succ n =>
    refine Nat.div_le_of_le_mul ?_
    have : n ≤ chunk * n := Nat.le_mul_of_pos_left _ (by omega)
    rw [Nat.mul_succ]
    omega
theorem cut_lt (n m k : Nat) (hm : m ≤ n) (hk : k < m) : k * n / m < (k + 1) * n / m := by
  have h1 : k * n / m + 1 = (k * n + m) / m := by rw [Nat.add_div_right _ (by omega)]
  have h2 : (k * n + m) / m ≤ (k + 1) * n / m := Nat.div_le_div_right (by rw [Nat.succ_mul]; omega)
  omega
theorem cut_le (n m k : Nat) (hk : k < m) : (k + 1) * n / m ≤ n := by
  refine Nat.div_le_of_le_mul ?_
  exact Nat.mul_le_mul_right _ hk
/-- all pieces together -/
theorem cutUpto_flat (chunk : Nat) (es : List El) (k : Nat) (hk : k ≤ cutNo chunk es.length) (hc : 2 ≤ chunk) : (cutUpto chunk es k).flatten = es.take (k * es.length / cutNo chunk es.length) := by
  induction k with
  | zero => simp [cutUpto]
  | succ k ih =>
    rw [cutUpto_succ, List.flatten_append, ih (by omega)]
    have h := cut_lt es.length (cutNo chunk es.length) k (cutNo_le chunk _ hc) (by omega)
    simp only [List.flatten_cons, List.flatten_nil, List.append_nil, pieceOf]
    conv => rhs; rw [← List.take_append_drop (k * es.length / cutNo chunk es.length) (es.take ((k + 1) * es.length / cutNo chunk es.length))]
    rw [List.take_take, Nat.min_eq_left (by omega)]

set_option maxRecDepth 100000 in
set_option maxHeartbeats 4000000 in
theorem cut_any (A : Option Addr) (n c chunk : Nat) (es : List El) (S : Nat → Prop) (w : World) (hrow : Row w S A n c es) (hn : n ≤ 1073741824) (hc2 : 2 ≤ chunk) (hc64 : chunk ≤ 64) :
    Calls Tryz.prog 129 #[.slice A n c, .int .i64 chunk] w (TreeRet w S (fun t => t.rows = cutRows chunk es)) := by
  obtain ⟨m, hm⟩ : ∃ m, m = cutNo chunk n := ⟨_, rfl⟩
  have hquo : ((n : Int) + chunk - 1) / chunk = (m : Int) := by
    subst hm
    rw [show ((n : Int) + chunk - 1) = ((n + chunk - 1 : Nat) : Int) from by omega]
    rfl
  have Hquo := hid hquo
  have hmn : m ≤ n := by subst hm; exact cutNo_le _ _ hc2
  have Hrow := hid hrow
  have Hlen := hid hrow.1
  have Hm := hid hm
  have hcn := hrow.2.1
  clear hrow hm hquo
  go_enter Tryz.func129, Tryz.ntmps129
  repeat' (first | go_values | go_skip | go_guarded | go_step | go_upon | go_back)
  rw [Hquo.out]
  go_loopw [6, 16] (fun t i wr => ∃ k : Nat, i = .int .i64 k ∧ k ≤ m ∧ (∃ p T, t = .pointer p ∧ IsTree wr (Fr w S) T p ∧ T.rows = cutUpto chunk es k) ∧ Below w.heap.size w wr) (fun _ i _ => m - (intOf i).toNat)
  case atStart => exact ⟨0, rfl, Nat.zero_le _, ⟨none, .nil, rfl, rfl, rfl⟩, Below.refl _ _⟩
  case round =>
    obtain ⟨k, rfl, hk, ⟨p, T, rfl, hT, hTr⟩, hbel⟩ := hrel
    by_cases hlt : k < m
    · obtain ⟨lo, hlo⟩ : ∃ lo, lo = k * n / m := ⟨_, rfl⟩
      obtain ⟨hi, hhi⟩ : ∃ hi, hi = (k + 1) * n / m := ⟨_, rfl⟩
      have hlt1 : lo < hi := by rw [hlo, hhi]; exact cut_lt n m k hmn hlt
      have hle : hi ≤ n := by rw [hhi]; exact cut_le n m k hlt
      have i1 : (0 : Int) ≤ lo := Int.natCast_nonneg _
      have i2 : (lo : Int) ≤ hi := by omega
      have i3 : (hi : Int) ≤ c := by omega
      have i4 : (0 : Int) ≤ hi := Int.natCast_nonneg _
      have hkn : k * n ≤ 1073741824 * 1073741824 := Nat.mul_le_mul (by omega) hn
      have hkn' : (k + 1) * n ≤ 1073741824 * 1073741824 := Nat.mul_le_mul (by omega) hn
      have w1 : IntKind.i64.wrap ((k : Int) * n) = (k : Int) * n := by
        rw [show ((k : Int) * n) = ((k * n : Nat) : Int) from by simp]
        exact IntWalk.i64_in _ (by omega)
      have w2 : IntKind.i64.wrap (((k : Int) + 1) * n) = ((k : Int) + 1) * n := by
        rw [show (((k : Int) + 1) * n) = (((k + 1) * n : Nat) : Int) from by simp]
        exact IntWalk.i64_in _ (by omega)
      have p1 : (0 : Int) ≤ (k : Int) * n := by rw [show ((k : Int) * n) = ((k * n : Nat) : Int) from by simp]; exact Int.natCast_nonneg _
      have p2 : (0 : Int) ≤ ((k : Int) + 1) * n := by rw [show (((k : Int) + 1) * n) = (((k + 1) * n : Nat) : Int) from by simp]; exact Int.natCast_nonneg _
      have q1 : wrap64 (((k : Int) * n).tdiv m) = lo := by
        rw [Int.tdiv_eq_ediv_of_nonneg p1, show ((k : Int) * n) / m = lo from by rw [hlo]; simp]
        exact IntWalk.wrap64_in _ ⟨by omega, by omega⟩
      have q2 : wrap64 ((((k : Int) + 1) * n).tdiv m) = hi := by
        rw [Int.tdiv_eq_ediv_of_nonneg p2, show (((k : Int) + 1) * n) / m = hi from by rw [hhi]; simp]
        exact IntWalk.wrap64_in _ ⟨by omega, by omega⟩
      have hm0 : ¬ m = 0 := by omega
      have Hq := hid (And.intro q1 q2)
      clear p1 p2 q1 q2
      have Hlo := hid hlo
      have Hhi := hid hhi
      have HTr := hid hTr
      clear hlo hhi hTr hkn hkn'
      repeat' (first | ((with_reducible refine region_at 6 ?_); refine wp_region_order [(0, true, false), (1, true, false), (2, true, false), (3, true, false), (4, true, false), (5, true, false), (6, true, false), (7, true, false), (8, true, false), (9, true, false), (10, true, false), (11, true, false), (12, true, false), (13, true, false), (14, true, false), (15, true, false), (16, false, false), (17, false, false), (18, true, false)] (by kernel_rfl) (by kernel_rfl) (by kernel_rfl) rfl rfl ?_) | (with_reducible refine Keep.last ?_) | (with_reducible refine Keep.below (by assumption) ?_) | (with_reducible refine Keep.kept (by assumption) ?_) | (with_reducible refine Keep.alloc ?_) | (with_reducible refine Keep.same ?_) | ((with_reducible refine WpH.here ?_); first | (refine WpH.nil ?_; refine NoP.normal ?_) | (refine WpH.load (by rfl) (by rfl) (by go_simp; rfl) ?_; simp only [Act.put, List.setIfInBounds_toArray, List.set_cons_zero, List.set_cons_succ]) | (refine WpH.loadT (by rfl) (by rfl) (by go_simp; rfl) (by rintro _ _ ⟨⟩; exact ⟨_, _, _, _, _, _, by rfl, by assumption, by assumption⟩) ?_; simp only [Act.put, List.setIfInBounds_toArray, List.set_cons_zero, List.set_cons_succ]) | (refine WpH.pure (by rfl) (fun w_ => by go_simp; (try go_bits); rfl) ?_; simp only [Act.put, List.setIfInBounds_toArray, List.set_cons_zero, List.set_cons_succ]) | (refine WpH.wild1 (by rfl) (fun _ _ => ?_)) | (refine WpH.skip (by rfl) ?_; simp only [Act.put, List.setIfInBounds_toArray, List.set_cons_zero, List.set_cons_succ])) | go_values | go_skip | go_guarded | go_step | go_upon | go_back)
      rw [Hq.out.1, Hq.out.2]
      have hpc : (es.take hi).drop lo = pieceOf es m k := by
        unfold pieceOf
        rw [Hlen.out, ← Hlo.out, ← Hhi.out]
      have hpiece : Row wr.drew S (if c = lo then A else A.map (·.add (lo * 5))) (hi - lo) (c - lo) (pieceOf es m k) := by
        have h := (((Hrow.out.step hbel).drew).take_ hle).drop_ (k := lo) (by omega)
        rw [hpc] at h
        exact h
      have hTl : T.all.length ≤ n := by
        rw [Tr.all_eq, HTr.out, cutUpto_flat chunk es k (by rw [Hlen.out, ← Hm.out]; omega) hc2]
        have := Hlen.out
        rw [List.length_take]
        omega
      have hpl := hpiece.1
      have hpne : pieceOf es m k ≠ [] := by
        intro h0
        rw [h0] at hpl
        simp at hpl
        omega
      have Hpl := hid hpl
      have hsz := hbel.size
      clear hpl hpc
      repeat' (first | ((with_reducible refine append_here ?_); refine wp_append_nil _ _ _ (pieceOf es m k) S (by rfl) (by rfl) hpiece (by omega) ?_; intro A1 c1 w1 hown1 hb1; have hrow1 : Row w1 (Fr w S) A1 (hi - lo) c1 (pieceOf es m k) := hown1.row (fun b h _ => .inr (Nat.le_trans hsz h))) | (go_at_call 139; (with_reducible refine (join_any T .nil p none A1 _ c1 (pieceOf es m k) (Fr w S) w1 (hT.drew.step hb1) (isTree_nil _ _) hrow1 hpne (by rw [Hpl.out]; simp only [Tr.all, List.length_nil]; omega)).mono ?_); rintro _ w2 ⟨p2, t2, rfl, ht2, hq2, hb2⟩; have Hq2 := hid hq2; clear hq2; dsimp only) | (with_reducible refine Keep.last ?_) | (with_reducible refine Keep.below (by assumption) ?_) | (with_reducible refine Keep.kept (by assumption) ?_) | (with_reducible refine Keep.alloc ?_) | (with_reducible refine Keep.same ?_) | ((with_reducible refine WpH.here ?_); first | (refine WpH.nil ?_; refine NoP.normal ?_) | (refine WpH.load (by rfl) (by rfl) (by go_simp; rfl) ?_; simp only [Act.put, List.setIfInBounds_toArray, List.set_cons_zero, List.set_cons_succ]) | (refine WpH.loadT (by rfl) (by rfl) (by go_simp; rfl) (by rintro _ _ ⟨⟩; exact ⟨_, _, _, _, _, _, by rfl, by assumption, by assumption⟩) ?_; simp only [Act.put, List.setIfInBounds_toArray, List.set_cons_zero, List.set_cons_succ]) | (refine WpH.pure (by rfl) (fun w_ => by go_simp; (try go_bits); rfl) ?_; simp only [Act.put, List.setIfInBounds_toArray, List.set_cons_zero, List.set_cons_succ]) | (refine WpH.wild1 (by rfl) (fun _ _ => ?_)) | (refine WpH.skip (by rfl) ?_; simp only [Act.put, List.setIfInBounds_toArray, List.set_cons_zero, List.set_cons_succ])) | go_values | go_skip | go_guarded | go_step | go_upon | go_back)
      go_roundw
      case rel =>
        refine ⟨k + 1, by go_num, by omega, ⟨p2, t2, rfl, ?_, ?_⟩, ?_⟩
        · exact ht2.more fun b _ h => Fr.shrink (Nat.le_trans hsz hb1.size) b h
        · rw [cutUpto_succ, Hlen.out, ← Hm.out, ← HTr.out, Hq2.out]
          rfl
        · exact hbel.drew.trans ((hb1.mono hsz).trans (hb2.mono (Nat.le_trans hsz hb1.size)))
      case measure => simp [intOf]; omega
    · obtain rfl : k = m := by omega
      have HTr := hid hTr
      clear hTr
      go_wp2
      go_ret
      refine TreeRet.of hT ?_ hbel
      rw [HTr.out]
      unfold cutUpto cutRows
      rw [Hlen.out, ← Hm.out]
end Go.Proofs.YtfihjajllfihjaaGreatDoor
