/- Elements cut into leaves of about one length: the walk of cut. Conditions: the row lies in memory, fewer than 2^30 elements, chunk 2 to 64. Elements put in the place of some: the walk of change. Conditions: the tree lies in memory apart from its header, all together fewer than 2^30 elements, the place is in it. -/
import Derived.Test.YtnpbbidiloahdaaDoorP6
import Derived.Test.YtnpbbidiloahdaaDoorP2
import Derived.Deep.DeepCutAuto
namespace Go.Proofs.YtnpbbidiloahdaaDoor
set_option linter.unusedSimpArgs false
set_option linter.unusedVariables false
open Go Go.RowKit
theorem isTree_nil (w : World) (S : Nat → Prop) : IsTree w S .nil none := rfl
/-- piece k of m -/
def pieceOf (es : List El) (m k : Nat) : List El := (es.take ((k + 1) * es.length / m)).drop (k * es.length / m)
/-- how many pieces -/
def cutNo (chunk n : Nat) : Nat := (n + chunk - 1) / chunk
def cutRows (chunk : Nat) (es : List El) : List (List El) := (List.range (cutNo chunk es.length)).map (pieceOf es (cutNo chunk es.length))
/-- the first k pieces -/
def cutUpto (chunk : Nat) (es : List El) (k : Nat) : List (List El) := (List.range k).map (pieceOf es (cutNo chunk es.length))
theorem cutUpto_succ (chunk : Nat) (es : List El) (k : Nat) : cutUpto chunk es (k + 1) = cutUpto chunk es k ++ [pieceOf es (cutNo chunk es.length) k] := by
  simp [cutUpto, List.range_succ]
theorem cutNo_le (chunk n : Nat) (h : 2 ≤ chunk) : cutNo chunk n ≤ n := by
  unfold cutNo
  cases n with
  | zero => rw [Nat.div_eq_of_lt (by omega)]; exact Nat.le_refl _
  | succ n =>
    refine Nat.div_le_of_le_mul ?_
    have : n ≤ chunk * n := Nat.le_mul_of_pos_left _ (by omega)
    rw [Nat.mul_succ]
    omega
theorem cut_lt (n m k : Nat) (hm : m ≤ n) (hk : k < m) : k * n / m < (k + 1) * n / m := by
  have h1 : k * n / m + 1 = (k * n + m) / m := by rw [Nat.add_div_right _ (by omega)]
  have h2 : (k * n + m) / m ≤ (k + 1) * n / m := Nat.div_le_div_right (by rw [Nat.succ_mul]; omega)
  omega
theorem cut_le (n m k : Nat) (hk : k < m) : (k + 1) * n / m ≤ n := by
  refine Nat.div_le_of_le_mul ?_
  exact Nat.mul_le_mul_right _ hk
/-- all pieces together -/
theorem cutUpto_flat (chunk : Nat) (es : List El) (k : Nat) (hk : k ≤ cutNo chunk es.length) (hc : 2 ≤ chunk) : (cutUpto chunk es k).flatten = es.take (k * es.length / cutNo chunk es.length) := by
  induction k with
  | zero => simp [cutUpto]
  | succ k ih =>
    rw [cutUpto_succ, List.flatten_append, ih (by omega)]
    have h := cut_lt es.length (cutNo chunk es.length) k (cutNo_le chunk _ hc) (by omega)
    simp only [List.flatten_cons, List.flatten_nil, List.append_nil, pieceOf]
    conv => rhs; rw [← List.take_append_drop (k * es.length / cutNo chunk es.length) (es.take ((k + 1) * es.length / cutNo chunk es.length))]
    rw [List.take_take, Nat.min_eq_left (by omega)]

set_option maxRecDepth 100000 in
set_option maxHeartbeats 4000000 in
theorem cut_any (A : Option Addr) (n c chunk : Nat) (es : List El) (S : Nat → Prop) (w : World) (hrow : Row w S A n c es) (hn : n ≤ 1073741824) (hc2 : 2 ≤ chunk) (hc64 : chunk ≤ 64) :
    Calls Tryd.prog 74 #[.slice A n c, .int .i64 chunk] w (TreeRet w S (fun t => t.rows = cutRows chunk es)) := by
  obtain ⟨m, hm⟩ : ∃ m, m = cutNo chunk n := ⟨_, rfl⟩
  have hquo : ((n : Int) + chunk - 1) / chunk = (m : Int) := by
    subst hm
    rw [show ((n : Int) + chunk - 1) = ((n + chunk - 1 : Nat) : Int) from by omega]
    rfl
  have Hquo := hid hquo
  have hmn : m ≤ n := by subst hm; exact cutNo_le _ _ hc2
  have Hrow := hid hrow
  have Hlen := hid hrow.1
  have Hm := hid hm
  have hcn := hrow.2.1
  clear hrow hm hquo
  go_enter Tryd.func74, Tryd.ntmps74
  repeat' (first | go_values | go_skip | go_guarded | go_step | go_upon | go_back)
  rw [Hquo.out]
  go_loopw [6, 16] (fun t i wr => ∃ k : Nat, i = .int .i64 k ∧ k ≤ m ∧ (∃ p T, t = .pointer p ∧ IsTree wr (Fr w S) T p ∧ T.rows = cutUpto chunk es k) ∧ Below w.heap.size w wr) (fun _ i _ => m - (intOf i).toNat)
  case atStart => exact ⟨0, rfl, Nat.zero_le _, ⟨none, .nil, rfl, rfl, rfl⟩, Below.refl _ _⟩
  case round =>
    obtain ⟨k, rfl, hk, ⟨p, T, rfl, hT, hTr⟩, hbel⟩ := hrel
    by_cases hlt : k < m
    · obtain ⟨lo, hlo⟩ : ∃ lo, lo = k * n / m := ⟨_, rfl⟩
      obtain ⟨hi, hhi⟩ : ∃ hi, hi = (k + 1) * n / m := ⟨_, rfl⟩
      have hlt1 : lo < hi := by rw [hlo, hhi]; exact cut_lt n m k hmn hlt
      have hle : hi ≤ n := by rw [hhi]; exact cut_le n m k hlt
      have i1 : (0 : Int) ≤ lo := Int.natCast_nonneg _
      have i2 : (lo : Int) ≤ hi := by omega
      have i3 : (hi : Int) ≤ c := by omega
      have i4 : (0 : Int) ≤ hi := Int.natCast_nonneg _
      have hkn : k * n ≤ 1073741824 * 1073741824 := Nat.mul_le_mul (by omega) hn
      have hkn' : (k + 1) * n ≤ 1073741824 * 1073741824 := Nat.mul_le_mul (by omega) hn
      have w1 : IntKind.i64.wrap ((k : Int) * n) = (k : Int) * n := by
        rw [show ((k : Int) * n) = ((k * n : Nat) : Int) from by simp]
        exact IntWalk.i64_in _ (by omega)
      have w2 : IntKind.i64.wrap (((k : Int) + 1) * n) = ((k : Int) + 1) * n := by
        rw [show (((k : Int) + 1) * n) = (((k + 1) * n : Nat) : Int) from by simp]
        exact IntWalk.i64_in _ (by omega)
      have p1 : (0 : Int) ≤ (k : Int) * n := by rw [show ((k : Int) * n) = ((k * n : Nat) : Int) from by simp]; exact Int.natCast_nonneg _
      have p2 : (0 : Int) ≤ ((k : Int) + 1) * n := by rw [show (((k : Int) + 1) * n) = (((k + 1) * n : Nat) : Int) from by simp]; exact Int.natCast_nonneg _
      have q1 : wrap64 (((k : Int) * n).tdiv m) = lo := by
        rw [Int.tdiv_eq_ediv_of_nonneg p1, show ((k : Int) * n) / m = lo from by rw [hlo]; simp]
        exact IntWalk.wrap64_in _ ⟨by omega, by omega⟩
      have q2 : wrap64 ((((k : Int) + 1) * n).tdiv m) = hi := by
        rw [Int.tdiv_eq_ediv_of_nonneg p2, show (((k : Int) + 1) * n) / m = hi from by rw [hhi]; simp]
        exact IntWalk.wrap64_in _ ⟨by omega, by omega⟩
      have hm0 : ¬ m = 0 := by omega
      have Hq := hid (And.intro q1 q2)
      clear p1 p2 q1 q2
      have Hlo := hid hlo
      have Hhi := hid hhi
      have HTr := hid hTr
      clear hlo hhi hTr hkn hkn'
      repeat' (first | ((with_reducible refine region_at 6 ?_); refine wp_region_order [(0, true, false), (1, true, false), (2, true, false), (3, true, false), (4, true, false), (5, true, false), (6, true, false), (7, true, false), (8, true, false), (9, true, false), (10, true, false), (11, true, false), (12, true, false), (13, true, false), (14, true, false), (15, true, false), (16, false, false), (17, false, false), (18, true, false)] (by kernel_rfl) (by kernel_rfl) (by kernel_rfl) rfl rfl ?_) | (with_reducible refine Keep.last ?_) | (with_reducible refine Keep.below (by assumption) ?_) | (with_reducible refine Keep.kept (by assumption) ?_) | (with_reducible refine Keep.alloc ?_) | (with_reducible refine Keep.same ?_) | ((with_reducible refine WpH.here ?_); first | (refine WpH.nil ?_; refine NoP.normal ?_) | (refine WpH.load (by rfl) (by rfl) (by go_simp; rfl) ?_; simp only [Act.put, List.setIfInBounds_toArray, List.set_cons_zero, List.set_cons_succ]) | (refine WpH.loadT (by rfl) (by rfl) (by go_simp; rfl) (by rintro _ _ ⟨⟩; exact ⟨_, _, _, _, _, _, by rfl, by assumption, by assumption⟩) ?_; simp only [Act.put, List.setIfInBounds_toArray, List.set_cons_zero, List.set_cons_succ]) | (refine WpH.pure (by rfl) (fun w_ => by go_simp; (try go_bits); rfl) ?_; simp only [Act.put, List.setIfInBounds_toArray, List.set_cons_zero, List.set_cons_succ]) | (refine WpH.wild1 (by rfl) (fun _ _ => ?_)) | (refine WpH.skip (by rfl) ?_; simp only [Act.put, List.setIfInBounds_toArray, List.set_cons_zero, List.set_cons_succ])) | go_values | go_skip | go_guarded | go_step | go_upon | go_back)
      rw [Hq.out.1, Hq.out.2]
      have hpc : (es.take hi).drop lo = pieceOf es m k := by
        unfold pieceOf
        rw [Hlen.out, ← Hlo.out, ← Hhi.out]
      have hpiece : Row wr.drew S (if c = lo then A else A.map (·.add (lo * 5))) (hi - lo) (c - lo) (pieceOf es m k) := by
        have h := (((Hrow.out.step hbel).drew).take_ hle).drop_ (k := lo) (by omega)
        rw [hpc] at h
        exact h
      have hTl : T.all.length ≤ n := by
        rw [Tr.all_eq, HTr.out, cutUpto_flat chunk es k (by rw [Hlen.out, ← Hm.out]; omega) hc2]
        have := Hlen.out
        rw [List.length_take]
        omega
      have hpl := hpiece.1
      have hpne : pieceOf es m k ≠ [] := by
        intro h0
        rw [h0] at hpl
        simp at hpl
        omega
      have Hpl := hid hpl
      have hsz := hbel.size
      clear hpl hpc
      repeat' (first | ((with_reducible refine append_here ?_); refine wp_append_nil _ _ _ (pieceOf es m k) S (by rfl) (by rfl) hpiece (by omega) ?_; intro A1 c1 w1 hown1 hb1; have hrow1 : Row w1 (Fr w S) A1 (hi - lo) c1 (pieceOf es m k) := hown1.row (fun b h _ => .inr (Nat.le_trans hsz h))) | (go_at_call 87; (with_reducible refine (join_any T .nil p none A1 _ c1 (pieceOf es m k) (Fr w S) w1 (hT.drew.step hb1) (isTree_nil _ _) hrow1 hpne (by rw [Hpl.out]; simp only [Tr.all, List.length_nil]; omega)).mono ?_); rintro _ w2 ⟨p2, t2, rfl, ht2, hq2, hb2⟩; have Hq2 := hid hq2; clear hq2; dsimp only) | (with_reducible refine Keep.last ?_) | (with_reducible refine Keep.below (by assumption) ?_) | (with_reducible refine Keep.kept (by assumption) ?_) | (with_reducible refine Keep.alloc ?_) | (with_reducible refine Keep.same ?_) | ((with_reducible refine WpH.here ?_); first | (refine WpH.nil ?_; refine NoP.normal ?_) | (refine WpH.load (by rfl) (by rfl) (by go_simp; rfl) ?_; simp only [Act.put, List.setIfInBounds_toArray, List.set_cons_zero, List.set_cons_succ]) | (refine WpH.loadT (by rfl) (by rfl) (by go_simp; rfl) (by rintro _ _ ⟨⟩; exact ⟨_, _, _, _, _, _, by rfl, by assumption, by assumption⟩) ?_; simp only [Act.put, List.setIfInBounds_toArray, List.set_cons_zero, List.set_cons_succ]) | (refine WpH.pure (by rfl) (fun w_ => by go_simp; (try go_bits); rfl) ?_; simp only [Act.put, List.setIfInBounds_toArray, List.set_cons_zero, List.set_cons_succ]) | (refine WpH.wild1 (by rfl) (fun _ _ => ?_)) | (refine WpH.skip (by rfl) ?_; simp only [Act.put, List.setIfInBounds_toArray, List.set_cons_zero, List.set_cons_succ])) | go_values | go_skip | go_guarded | go_step | go_upon | go_back)
      go_roundw
      case rel =>
        refine ⟨k + 1, by go_num, by omega, ⟨p2, t2, rfl, ?_, ?_⟩, ?_⟩
        · exact ht2.more fun b _ h => Fr.shrink (Nat.le_trans hsz hb1.size) b h
        · rw [cutUpto_succ, Hlen.out, ← Hm.out, ← HTr.out, Hq2.out]
          rfl
        · exact hbel.drew.trans ((hb1.mono hsz).trans (hb2.mono (Nat.le_trans hsz hb1.size)))
      case measure => simp [intOf]; omega
    · obtain rfl : k = m := by omega
      have HTr := hid hTr
      clear hTr
      go_wp2
      go_ret
      refine TreeRet.of hT ?_ hbel
      rw [HTr.out]
      unfold cutUpto cutRows
      rw [Hlen.out, ← Hm.out]
end Go.Proofs.YtnpbbidiloahdaaDoor
namespace Go.Proofs.YtnpbbidiloahdaaDoor
set_option linter.unusedSimpArgs false
set_option linter.unusedVariables false
open Go Go.RowKit

theorem Parted.le {t l r : Tr} {i : Nat} {row : List El} (h : Parted t i l row r) (hi : i ≤ t.all.length) : l.all.length ≤ i ∧ i ≤ l.all.length + row.length := by
  have hl := h.len
  rcases h with ⟨_, _, _, h4, h5⟩ | ⟨h1, rfl, h3, _⟩
  · exact ⟨h4, by omega⟩
  · rw [all_of_eq h3]; simp; omega
/-- behind the first two copies and the choice between the leaf's rest and the next leaf's: what stands ahead, what is fresh, what is left -/
def Mid (T : Tr) (i n : Nat) (ls : List El) (ta : Tr) (fs : List El) (tr : Tr) : Prop :=
  (∃ M, T.rows = ta.rows ++ M ++ tr.rows) ∧ ta.all ++ fs ++ tr.all = T.all.take i ++ ls ++ T.all.drop (i + n)
theorem Parted.all {t l r : Tr} {i : Nat} {row : List El} (h : Parted t i l row r) : t.all = l.all ++ row ++ r.all := by
  rcases h with ⟨_, _, h, _⟩ | ⟨_, rfl, h, hr⟩
  · rw [Tr.all_eq, h, Tr.all_eq, Tr.all_eq]; simp
  · rw [all_of_none hr, all_of_eq h]; simp
theorem Parted.mid {t l r : Tr} {i : Nat} {row : List El} (h : Parted t i l row r) : ∃ M, t.rows = l.rows ++ M ++ r.rows := by
  rcases h with ⟨_, _, h, _⟩ | ⟨_, rfl, h, hr⟩
  · exact ⟨[row], by rw [h]; simp⟩
  · exact ⟨[], by rw [h, hr]; simp⟩
theorem take_in (a b c : List El) (q : Nat) (h : q ≤ b.length) : (a ++ b ++ c).take (a.length + q) = a ++ b.take q := by
  rw [List.append_assoc, List.take_append, List.take_of_length_le (by omega)]
  congr 1
  rw [show a.length + q - a.length = q from by omega, List.take_append, show q - b.length = 0 from by omega]
  simp
theorem drop_in (a b c : List El) (q : Nat) (h : q ≤ b.length) : (a ++ b ++ c).drop (a.length + q) = b.drop q ++ c := by
  rw [List.append_assoc, List.drop_append, List.drop_of_length_le (by omega)]
  rw [show a.length + q - a.length = q from by omega, List.drop_append, show q - b.length = 0 from by omega]
  simp
theorem Mid.one {T ta tr : Tr} {q n : Nat} {x ls : List El} (h : Parted T (ta.all.length + q) ta x tr) (h1 : q + n ≤ x.length) : Mid T (ta.all.length + q) n ls ta (x.take q ++ ls ++ x.drop (q + n)) tr := by
  refine ⟨h.mid, ?_⟩
  rw [h.all, take_in _ _ _ _ (by omega), Nat.add_assoc, drop_in _ _ _ _ h1]
  simp
theorem Mid.two {T ta tr tg tr' : Tr} {q n r : Nat} {x y ls : List El} (h : Parted T (ta.all.length + q) ta x tr) (hq : q ≤ x.length) (h' : Parted tr (tg.all.length + r) tg y tr') (h2 : r ≤ y.length) (he : q + n = x.length + (tg.all.length + r)) :
    Mid T (ta.all.length + q) n ls ta (x.take q ++ ls ++ y.drop r) tr' := by
  obtain ⟨M, hM⟩ := h.mid
  obtain ⟨M', hM'⟩ := h'.mid
  refine ⟨⟨M ++ tg.rows ++ M', by rw [hM, hM']; simp⟩, ?_⟩
  have hd : (ta.all ++ x ++ tr.all).drop (ta.all.length + q + n) = tr.all.drop (tg.all.length + r) := by
    rw [show ta.all.length + q + n = (ta.all ++ x).length + (tg.all.length + r) from by simp; omega, List.drop_append, List.drop_of_length_le (by omega)]
    rw [show (ta.all ++ x).length + (tg.all.length + r) - (ta.all ++ x).length = tg.all.length + r from by omega]
    simp
  rw [h.all, take_in _ _ _ _ hq, hd, h'.all, drop_in _ _ _ _ h2]
  simp
theorem cutRows_flat (chunk : Nat) (es : List El) (h : 2 ≤ chunk) : (cutRows chunk es).flatten = es := by
  have h1 := cutUpto_flat chunk es (cutNo chunk es.length) (Nat.le_refl _) h
  show (cutUpto chunk es (cutNo chunk es.length)).flatten = es
  rw [h1]
  refine List.take_of_length_le ?_
  rcases Nat.eq_zero_or_pos es.length with h0 | h0
  · rw [h0]; exact Nat.zero_le _
  · have : 0 < cutNo chunk es.length := Nat.div_pos (by omega) (by omega)
    rw [Nat.mul_div_cancel_left _ this]
    exact Nat.le_refl _
/-- behind the leaf ahead: it is fresh, if there is one -/
def Mid2 (T : Tr) (i n : Nat) (ls : List El) (ta : Tr) (fs : List El) (tr : Tr) : Prop :=
  (∃ M, T.rows = ta.rows ++ M ++ tr.rows ∧ (ta.rows ≠ [] → ∃ x M', M = x :: M' ∧ x.length ≤ fs.length)) ∧ ta.all ++ fs ++ tr.all = T.all.take i ++ ls ++ T.all.drop (i + n)
/-- behind the leaf that follows, too -/
def Mid3 (T : Tr) (i n : Nat) (ls : List El) (ta : Tr) (fs : List El) (tr : Tr) : Prop :=
  (∃ M, T.rows = ta.rows ++ M ++ tr.rows ∧ (ta.rows ≠ [] → ∃ x M', M = x :: M' ∧ x.length ≤ fs.length) ∧ (tr.rows ≠ [] → ∃ y M', M = M' ++ [y] ∧ y.length ≤ fs.length)) ∧ ta.all ++ fs ++ tr.all = T.all.take i ++ ls ++ T.all.drop (i + n)
theorem Mid.none2 {T tr : Tr} {i n : Nat} {ls fs : List El} (h : Mid T i n ls .nil fs tr) : Mid2 T i n ls .nil fs tr := by
  obtain ⟨⟨M, hM⟩, he⟩ := h
  exact ⟨⟨M, hM, fun h => absurd rfl h⟩, he⟩
theorem Mid.last2 {T ta t tr : Tr} {i n : Nat} {ls fs x : List El} (h : Mid T i n ls ta fs tr) (hl : ta.rows = t.rows ++ [x]) : Mid2 T i n ls t (x ++ fs) tr := by
  obtain ⟨⟨M, hM⟩, he⟩ := h
  refine ⟨⟨x :: M, by rw [hM, hl]; simp, fun _ => ⟨x, M, rfl, by simp⟩⟩, ?_⟩
  rw [← he, all_of_snoc hl]
  simp
theorem Mid2.none3 {T ta : Tr} {i n : Nat} {ls fs : List El} (h : Mid2 T i n ls ta fs .nil) : Mid3 T i n ls ta fs .nil := by
  obtain ⟨⟨M, hM, hx⟩, he⟩ := h
  exact ⟨⟨M, hM, hx, fun h => absurd rfl h⟩, he⟩
theorem Mid2.first3 {T ta t tr : Tr} {i n : Nat} {ls fs x : List El} (h : Mid2 T i n ls ta fs tr) (hl : tr.rows = x :: t.rows) : Mid3 T i n ls ta (fs ++ x) t := by
  obtain ⟨⟨M, hM, hx⟩, he⟩ := h
  refine ⟨⟨M ++ [x], by rw [hM, hl]; simp, fun h0 => ?_, fun _ => ⟨x, M, rfl, by simp⟩⟩, ?_⟩
  · obtain ⟨x', M', rfl, hle⟩ := hx h0
    exact ⟨x', M' ++ [x], by simp, by simp; omega⟩
  · rw [← he, all_of_cons hl]
    simp
/-- what the rows are behind the change -/
def Changed (chunk : Nat) (T : Tr) (i n : Nat) (ls : List El) (T' : Tr) : Prop :=
  ∃ (X Y M : List (List El)) (fs : List El), T.rows = X ++ M ++ Y ∧ T'.rows = X ++ cutRows chunk fs ++ Y ∧ (X ≠ [] → ∃ x M', M = x :: M' ∧ x.length ≤ fs.length) ∧ (Y ≠ [] → ∃ y M', M = M' ++ [y] ∧ y.length ≤ fs.length) ∧
    X.flatten ++ fs ++ Y.flatten = T.all.take i ++ ls ++ T.all.drop (i + n)
theorem Mid3.changed {chunk : Nat} {T ta tr t t2 t3 : Tr} {i n : Nat} {ls fs : List El} (h : Mid3 T i n ls ta fs tr) (h1 : t.rows = cutRows chunk fs) (h2 : t2.rows = ta.rows ++ t.rows) (h3 : t3.rows = t2.rows ++ tr.rows) : Changed chunk T i n ls t3 := by
  obtain ⟨⟨M, hM, hx, hy⟩, he⟩ := h
  exact ⟨ta.rows, tr.rows, M, fs, hM, by rw [h3, h2, h1], hx, hy, by rw [← Tr.all_eq, ← Tr.all_eq]; exact he⟩
/-- all but block bt stands -/
structure But (bt : Nat) (w w' : World) : Prop where
  os : w'.os = w.os
  tape : w'.tape = w.tape
  output : w'.output = w.output
  size : w.heap.size ≤ w'.heap.size
  block : ∀ k, k < w.heap.size → k ≠ bt → w'.heap[k]? = w.heap[k]?
theorem But.of_below {bt : Nat} {w w' : World} (h : Below w.heap.size w w') : But bt w w' := ⟨h.os, h.tape, h.output, h.size, fun k hk _ => h.block k hk⟩
theorem But.setCell {bt : Nat} {w w' : World} (h : But bt w w') (i : Nat) (v : Value) : But bt w (w'.setCell ⟨bt, i, none⟩ v) :=
  ⟨h.os, h.tape, h.output, by simp [World.setCell]; exact h.size, fun k hk hne => (Below.heap_setCell w' _ _ _ hne).trans (h.block k hk hne)⟩
theorem But.trans {bt : Nat} {a b c : World} (h : But bt a b) (k : But bt b c) : But bt a c :=
  ⟨k.os.trans h.os, k.tape.trans h.tape, k.output.trans h.output, Nat.le_trans h.size k.size, fun i hi hne => (k.block i (Nat.lt_of_lt_of_le hi h.size) hne).trans (h.block i hi hne)⟩
theorem But.same {bt : Nat} {w w' : World} (h : But bt w w') : Same (· ≠ bt) w w' := fun b hb hl => h.block b hl hb
def ChangeRet (w : World) (S : Nat → Prop) (bt chunk : Nat) (R : Tr → Prop) (e : Ending) (w' : World) : Prop :=
  ∃ p' T', e = .returned (.tuple #[]) ∧ IsTree w' (Fr w S) T' p' ∧ Blk w' bt 127 #[.int .i64 chunk, .pointer p'] ∧ R T' ∧ But bt w w'
def C1 (w : World) (S : Nat → Prop) (R : Tr → List El → Tr → Prop) (s8 s10 s12 : Value) (wx : World) : Prop :=
  ∃ pa ta pr tr A n c fs ST, s8 = .pointer pa ∧ s10 = .pointer pr ∧ s12 = .slice A n c ∧ IsTree wx ST ta pa ∧ IsTree wx ST tr pr ∧ (∀ b, ST b → Fr w S b) ∧ (∀ b, ST b → Away A b) ∧ Own wx w.heap.size A n c fs ∧ Below w.heap.size w wx ∧ R ta fs tr

set_option maxRecDepth 100000 in
set_option maxHeartbeats 4000000 in
theorem change_any (T : Tr) (p : Option Addr) (bt chunk i n : Nat) (B : Option Addr) (m d : Nat) (ls : List El) (S SB : Nat → Prop) (w : World) (hblk : Blk w bt 127 #[.int .i64 chunk, .pointer p]) (hT : IsTree w S T p) (hbt : ¬ S bt)
    (hls : Row w SB B m d ls) (hbd : T.all.length + m ≤ 1073741824) (hi : i + n ≤ T.all.length) (hc2 : 2 ≤ chunk) (hc64 : chunk ≤ 64) :
    Calls Tryd.prog 53 #[.pointer (some ⟨bt, 0, none⟩), .int .i64 i, .int .i64 n, .slice B m d] w (ChangeRet w S bt chunk (Changed chunk T i n ls)) := by
  obtain ⟨hz0, hz1, hf0, hf1⟩ := hblk.two
  have hsz := hblk.lt
  have hlm : ls.length ≤ m := Nat.le_of_eq hls.1
  have HT := hid (parted_any T i p S w hT (by omega) (by omega))
  go_enter Tryd.func53, Tryd.ntmps53
  repeat' (first | (with_reducible refine stop_if 47 ?_) | (go_at_call 70; (with_reducible refine (Calls.mono HT.out ?_)); rintro _ w1 ⟨pa, ta, A1, n1, c1, x, pr, tr, rfl, hta, hrx, htr, hq1, hb1⟩; have Hq := hid hq1; have hq1' := trivial; have hal := hid hq1.len; obtain ⟨hle1, hle2⟩ := hq1.le (by omega); obtain ⟨q, rfl⟩ := Nat.exists_eq_add_of_le hle1; clear hq1; have hn1 := hrx.1; have hcap := hrx.2.1; obtain rfl : x.length = n1 := hn1; dsimp only) | (go_at_call 69; (with_reducible refine (size_any ta pa (Fr w S) _ hta).mono ?_); rintro _ _ ⟨rfl, rfl⟩; dsimp only) | ((with_reducible refine append_here ?_); (try simp only [Nat.add_sub_cancel_left]); first | (refine wp_append_nil A1 q c1 (x.take q) (Fr w S) (by rfl) (by rfl) (hrx.take_ (by omega)) (by omega) ?_; intro A2 c2 w2 hown2 hb2; have hm2 := hown2.mono hb1.size; have hs2 := Nat.le_trans hb1.size hb2.size) | (refine wp_append_el w.heap.size A2 B q c2 m d (x.take q) ls SB (by rfl) (by rfl) hm2 ((hls.step hb1).step hb2) hs2 (by omega) ?_; intro A3 c3 w3 hown3 hb3 hsm3 hat3 hz3)) | go_values | go_skip | go_guarded | go_step | go_upon | go_back)
  refine Stop.go ?_
  have hta2 := hta.before hb2 hown2
  have htr2 := htr.before hb2 hown2
  have hrx2 := hrx.before hb2 hown2
  have hta3 := hta2.apart (fun b h => h.2) hsm3 hat3
  have htr3 := htr2.apart (fun b h => h.2) hsm3 hat3
  have hrx3 := hrx2.apart (fun b h => h.2) hsm3 hat3
  have hs3 := Nat.le_trans hs2 hz3
  have hB3 : Below w.heap.size w w3 := hb1.trans ((hb2.mono hb1.size).trans hb3)
  rw [show ((ta.all.length : Int) + q + n - ta.all.length) = q + n from by omega]
  go_cut [8, 10, 12] (C1 w S (Mid T (ta.all.length + q) n ls))
  case first =>
    by_cases h1 : q + n ≤ x.length
    · have i1 : (q : Int) + n ≤ x.length := by omega
      repeat' (first | ((with_reducible refine append_here ?_); refine wp_append_el w.heap.size A3 _ (q + m) c3 _ _ (x.take q ++ ls) (x.drop (q + n)) (fun b => (Fr w S b ∧ Away A2 b) ∧ Away A3 b) (by rfl) (by rfl) hown3 (hrx3.drop_ h1) hs3 (by have := hal.out; omega) ?_; intro A4 c4 w4 hown4 hb4 hsm4 hat4 hz4) | go_values | go_skip | go_guarded | go_step | go_upon | go_back)
      go_meet
      case rel =>
        refine ⟨pa, ta, pr, tr, A4, _, c4, _, _, rfl, rfl, rfl, hta3.apart (fun b h => h.2) hsm4 hat4, htr3.apart (fun b h => h.2) hsm4 hat4, fun b h => h.1.1.1, fun b h => h.2, hown4, hB3.trans hb4, ?_⟩
        exact Mid.one Hq.out h1
    · obtain ⟨E, hE⟩ : ∃ E, q + n = x.length + E := ⟨q + n - x.length, by omega⟩
      have hcast : ((x.length : Int) + E - x.length) = ((E : Nat) : Int) := by omega
      have HP := hid (parted_any tr E pr _ w3 htr3 (by have := hal.out; omega) (by have := hal.out; omega))
      rw [← hcast] at HP
      have i1 : (x.length : Int) < x.length + E := by omega
      have hx30 : x.length ≤ 1073741824 := by have := hal.out; omega
      have hE30 : E ≤ 1073741824 := by have := hal.out; omega
      have hEl : E ≤ tr.all.length := by have := hal.out; omega
      rw [show ((q : Int) + n) = x.length + E from by omega]
      have HE := hid hE
      clear hE hcast
      repeat' (first | (with_reducible refine stop_append ?_) | (go_at_call 70; (with_reducible refine (Calls.mono HP.out ?_)); rintro _ w4 ⟨pg, tg, A5, n5, c5, y, pr', tr', rfl, htg, hry, htr4, hq4, hb4⟩; have Hq4 := hid hq4; have hal4 := hid hq4.len; obtain ⟨hle4, hle5⟩ := hq4.le hEl; obtain ⟨r, rfl⟩ := Nat.exists_eq_add_of_le hle4; clear hq4; have hcap5 := hry.2.1; obtain rfl : y.length = n5 := hry.1; dsimp only) | (go_at_call 69; (with_reducible refine (size_any tg pg _ _ htg).mono ?_); rintro _ _ ⟨rfl, rfl⟩; dsimp only) | go_values | go_skip | go_guarded | go_step | go_upon | go_back)
      · refine Stop.go ?_
        simp only [Nat.add_sub_cancel_left]
        have hown4 := hown3.keep (S := fun _ => True) (Same.of_below hb4) (fun _ _ => trivial)
        have hs4 := Nat.le_trans hs3 hb4.size
        have haw := Away.fr hown3 (ST := fun b => (Fr w S b ∧ Away A2 b) ∧ Away A3 b) (fun b h => h.2)
        refine wp_append_el w.heap.size A3 _ (q + m) c3 _ _ (x.take q ++ ls) (y.drop r) _ (by rfl) (by rfl) hown4 (hry.drop_ (k := r) (by omega)) hs4 (by have := hal.out; have := hal4.out; omega) ?_
        intro A6 c6 w6 hown6 hb6 hsm6 hat6 hz6
        repeat' (first | go_values | go_skip | go_guarded | go_step | go_upon | go_back)
        go_meet
        case rel =>
          refine ⟨pa, ta, pr', tr', A6, _, c6, _, _, rfl, rfl, rfl, (hta3.step hb4).fr.apart haw hsm6 hat6, htr4.apart haw hsm6 hat6, ?_, fun b h => h.2, hown6, (hB3.trans (hb4.mono hs3)).trans hb6, ?_⟩
          · rintro b ⟨h | h, _⟩
            · exact h.1.1
            · exact .inr (by omega)
          · exact Mid.two Hq.out (by omega) Hq4.out (by omega) HE.out
      · go_meet
        case rel =>
          have hy0 : y = [] := List.eq_nil_of_length_eq_zero (by omega)
          have haw := Away.fr hown3 (ST := fun b => (Fr w S b ∧ Away A2 b) ∧ Away A3 b) (fun b h => h.2)
          refine ⟨pa, ta, pr', tr', A3, _, c3, _, _, rfl, rfl, rfl, (hta3.step hb4).fr, htr4, ?_, haw, hown3.keep (S := fun _ => True) (Same.of_below hb4) (fun _ _ => trivial), hB3.trans (hb4.mono hs3), ?_⟩
          · rintro b (h | h)
            · exact h.1.1
            · exact .inr (by omega)
          · have h := Mid.two (ls := ls) Hq.out (by omega) Hq4.out (by omega) HE.out
            rw [hy0] at h
            simpa using h
  case rest =>
    clear hb1 hb2 hm2 hs2 hown3 hb3 hsm3 hat3 hz3 hta2 htr2 hrx2 hta3 htr3 hrx3 hs3 hB3 hown2 hta htr hrx hcap hT HT hls
    obtain ⟨pa, ta1, pr, tr1, A, k, c, fs, ST, rfl, rfl, rfl, hta, htr, hST, haw, hown, hB, hmid⟩ := hcut
    have hel := congrArg List.length hmid.2
    have Hmid := hid hmid
    clear hmid
    simp only [List.length_append, List.length_take, List.length_drop] at hel
    repeat' (first | (with_reducible refine stop_if 76 ?_) | go_values | go_skip | go_guarded | go_step | go_upon | go_back)
    refine Stop.go ?_
    go_cut [8, 12] (fun s8 s12 wx => C1 w S (Mid2 T (ta.all.length + q) n ls) s8 (.pointer pr) s12 wx)
    case first =>
      cases ta1 with
      | nil =>
        obtain rfl := hta
        repeat' (first | go_values | go_skip | go_guarded | go_step | go_upon | go_back)
        go_meet
        case rel => exact ⟨none, .nil, pr, tr1, A, _, c, fs, ST, rfl, rfl, rfl, rfl, htr, hST, haw, hown, hB, Mid.none2 Hmid.out⟩
      | node ll lrow lr =>
        obtain ⟨b', hpa⟩ : ∃ b', pa = some ⟨b', 0, none⟩ := by obtain ⟨_, b', _, _, _, _, _, e, _⟩ := id hta; exact ⟨b', e⟩
        subst hpa
        have IH := hid (last_any ll lr lrow (some ⟨b', 0, none⟩) ST wc hta (by omega))
        repeat' (first | (go_at_call 71; (with_reducible refine (Calls.mono IH.out ?_)); rintro _ w5 ⟨p5, t5, A5, n5, c5, x5, rfl, ht5, hr5, hne5, hq5, hb5⟩; have Hq5 := hid hq5; have hal := hid (all_of_snoc hq5); clear hq5; obtain rfl : x5.length = n5 := hr5.1; have hs5 := Nat.le_trans hB.size hb5.size; have hown5 := hown.keep (S := fun _ => True) (Same.of_below hb5) (fun _ _ => trivial); dsimp only) | ((with_reducible refine append_here ?_); first | (refine wp_append_nil A5 _ c5 x5 (Fr wc ST) (by rfl) (by rfl) hr5 (by have := congrArg List.length hal.out; simp only [List.length_append] at this; omega) ?_; intro A6 c6 w6 hown6 hb6; have hm6 := hown6.mono hs5; have hs6 := Nat.le_trans hs5 hb6.size; have hfr6 := (hown5.keep (S := fun _ => True) (Same.of_below hb6) (fun _ _ => trivial)).row (S := fun _ => True) (fun _ _ _ => trivial)) | (refine wp_append_el w.heap.size A6 A x5.length c6 k c x5 fs (fun _ => True) (by rfl) (by rfl) hm6 hfr6 hs6 (by have := congrArg List.length hal.out; simp only [List.length_append] at this; have := hown.1; omega) ?_; intro A7 c7 w7 hown7 hb7 hsm7 hat7 hz7)) | go_values | go_skip | go_guarded | go_step | go_upon | go_back)
        go_meet
        case rel =>
          refine ⟨p5, t5, pr, tr1, A7, _, c7, _, _, rfl, rfl, rfl, (ht5.before hb6 hown6).apart (fun b h => h.2) hsm7 hat7, ((htr.step hb5).fr.before hb6 hown6).apart (fun b h => h.2) hsm7 hat7, ?_, fun b h => h.2, hown7, (hB.trans ((hb5.mono hB.size).trans (hb6.mono hs5))).trans hb7, Mid.last2 Hmid.out Hq5.out⟩
          rintro b ⟨⟨h | h, _⟩, _⟩
          · exact hST b h
          · exact .inr (Nat.le_trans hB.size h)
    case rest =>
      clear hta htr hST haw hown hB hel Hmid
      obtain ⟨pa, ta1, pr, tr1, A, k, c, fs, ST, rfl, e1, rfl, hta, htr, hST, haw, hown, hB, hmid⟩ := hcut
      injection e1 with e1
      subst e1
      have hel := congrArg List.length hmid.2
      have Hmid := hid hmid
      clear hmid
      simp only [List.length_append, List.length_take, List.length_drop] at hel
      have hfl := hown.1
      repeat' (first | (with_reducible refine stop_if 87 ?_) | go_values | go_skip | go_guarded | go_step | go_upon | go_back)
      refine Stop.go ?_
      go_cut [10, 12] (fun s10 s12 wx => C1 w S (Mid3 T (ta.all.length + q) n ls) (.pointer pa) s10 s12 wx)
      case first =>
        cases tr1 with
        | nil =>
          obtain rfl := htr
          repeat' (first | go_values | go_skip | go_guarded | go_step | go_upon | go_back)
          go_meet
          case rel => exact ⟨pa, ta1, none, .nil, A, _, c, fs, ST, rfl, rfl, rfl, hta, rfl, hST, haw, hown, hB, Mid2.none3 Hmid.out⟩
        | node ll lrow lr =>
          obtain ⟨b', hpa⟩ : ∃ b', pr = some ⟨b', 0, none⟩ := by obtain ⟨_, b', _, _, _, _, _, e, _⟩ := id htr; exact ⟨b', e⟩
          subst hpa
          have IH := hid (first_any ll lr lrow (some ⟨b', 0, none⟩) ST wc htr (by omega))
          repeat' (first | (go_at_call 72; (with_reducible refine (Calls.mono IH.out ?_)); rintro _ w5 ⟨p5, t5, A5, n5, c5, x5, rfl, ht5, hr5, hne5, hq5, hb5⟩; have Hq5 := hid hq5; have hal := hid (all_of_cons hq5); clear hq5; obtain rfl : x5.length = n5 := hr5.1; have hs5 := Nat.le_trans hB.size hb5.size; have hown5 := hown.keep (S := fun _ => True) (Same.of_below hb5) (fun _ _ => trivial); dsimp only) | ((with_reducible refine append_here ?_); refine wp_append_el w.heap.size A A5 k c x5.length c5 fs x5 (Fr wc ST) (by rfl) (by rfl) hown5 hr5 hs5 (by have := congrArg List.length hal.out; simp only [List.length_append] at this; have := hown.1; omega) ?_; intro A7 c7 w7 hown7 hb7 hsm7 hat7 hz7) | go_values | go_skip | go_guarded | go_step | go_upon | go_back)
          go_meet
          case rel =>
            have haw5 := Away.fr hown haw
            refine ⟨pa, ta1, p5, t5, A7, _, c7, _, _, rfl, rfl, rfl, (hta.step hb5).fr.apart haw5 hsm7 hat7, ht5.apart haw5 hsm7 hat7, ?_, fun b h => h.2, hown7, (hB.trans (hb5.mono hB.size)).trans hb7, Mid2.first3 Hmid.out Hq5.out⟩
            rintro b ⟨h | h, _⟩
            · exact hST b h
            · exact .inr (Nat.le_trans hB.size h)
      case rest =>
        clear hta htr hST haw hown hB hel Hmid hfl
        obtain ⟨pa, ta1, pr, tr1, A, k, c, fs, ST, e1, rfl, rfl, hta, htr, hST, haw, hown, hB, hmid⟩ := hcut
        injection e1 with e1
        subst e1
        have hel := congrArg List.length hmid.2
        have Hmid := hid hmid
        clear hmid
        simp only [List.length_append, List.length_take, List.length_drop] at hel
        have hfl := hown.1
        have hblk8 := hblk.below hB hsz
        obtain ⟨hz0, hz1, hf0, hf1⟩ := hblk8.two
        have hsz8 := hblk8.lt
        have hrf : Row wc (fun b => w.heap.size ≤ b ∧ b < wc.heap.size) A k c fs := hown.row (fun b h1 h2 => ⟨h1, h2⟩)
        have hBs := hB.size
        repeat' (first | (go_at_call 74; (with_reducible refine (cut_any A k c chunk fs _ wc hrf (by omega) hc2 hc64).mono ?_); rintro _ w5 ⟨p5, t5, rfl, ht5, hq5, hb5⟩; have Hq5 := hid hq5; have h5l : t5.all.length ≤ fs.length := (by rw [Tr.all_eq, hq5, cutRows_flat _ _ hc2]; exact Nat.le_refl _); clear hq5; have ht5' : IsTree w5 (Fr w S) t5 p5 := ht5.more (fun b _ h => .inr (by rcases h with h | h; exact h.1; omega)); have hta5 : IsTree w5 (Fr w S) ta1 pa := (hta.step hb5).more (fun b _ h => hST b h); dsimp only) | (go_at_call 73; first | ((with_reducible refine (both_any ta1 t5 pa p5 (Fr w S) _ hta5 ht5' (by omega)).mono ?_); rintro _ w6 ⟨p6, t6, rfl, ht6, hq6, hb6⟩; have Hq6 := hid hq6; have h6l : t6.all.length ≤ ta1.all.length + t5.all.length := (by rw [all_of_rows hq6, List.length_append]; exact Nat.le_refl _); clear hq6; have hs6 := Nat.le_trans hBs hb5.size; have ht6' : IsTree w6 (Fr w S) t6 p6 := ht6.more (fun b _ h => Fr.shrink hs6 b h); have htr6 : IsTree w6 (Fr w S) tr1 pr := ((htr.step hb5).step hb6).more (fun b _ h => hST b h); dsimp only) | ((with_reducible refine (both_any t6 tr1 p6 pr (Fr w S) _ ht6' htr6 (by omega)).mono ?_); rintro _ w7 ⟨p7, t7, rfl, ht7, hq7, hb7⟩; have Hq7 := hid hq7; clear hq7; have hb58 := hb5.trans ((hb6.mono hb5.size).trans (hb7.mono (Nat.le_trans hb5.size hb6.size))); obtain ⟨hc7, hg7⟩ := bcell hb58; dsimp only)) | go_values | go_skip | go_guarded | go_step | go_upon | go_back)
        go_end0
        have hnb : ¬ Fr w S bt := by rintro (h | h); exact hbt h; omega
        have ht7' : IsTree w7 (Fr w S) t7 p7 := ht7.more (fun b _ h => Fr.shrink (Nat.le_trans hs6 hb6.size) b h)
        refine ⟨p7, t7, rfl, ht7'.keep (Same.setCell _ hnb _), ((hblk8.below hb58 hsz8).set_ 1 _), Mid3.changed Hmid.out Hq5.out Hq6.out Hq7.out, ?_⟩
        exact ((But.of_below hB).trans (But.of_below hb58)).setCell _ _
end Go.Proofs.YtnpbbidiloahdaaDoor
