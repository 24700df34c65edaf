/- The last and the first leaf taken off, and two trees laid together: walks of last, first, both, by induction on the tree. Conditions: the tree lies in memory and has fewer than 2^40 elements. -/
import Derived.Test.YtogkbddniacgiaaDoorTree5
namespace Go.Proofs.YtogkbddniacgiaaDoor
set_option linter.unusedSimpArgs false
set_option linter.unusedVariables false
open Go Go.RowKit

/-- a tree and a leaf are handed back; R says how they stand to what there was -/
def LeafRet (w : World) (S : Nat → Prop) (R : Tr → List El → Prop) (e : Ending) (w' : World) : Prop :=
  ∃ p t A n c row, e = .returned (.tuple #[.pointer p, .slice A n c]) ∧ IsTree w' (Fr w S) t p ∧ Row w' (Fr w S) A n c row ∧ row ≠ [] ∧ R t row ∧ Below w.heap.size w w'
theorem LeafRet.of {w : World} {S : Nat → Prop} {R : Tr → List El → Prop} {p : Option Addr} {t : Tr} {A : Option Addr} {n c : Nat} {row : List El} {w' : World} (ht : IsTree w' (Fr w S) t p) (hr : Row w' (Fr w S) A n c row) (hne : row ≠ []) (hR : R t row)
    (hb : Below w.heap.size w w') : LeafRet w S R (.returned (.tuple #[.pointer p, .slice A n c])) w' := ⟨p, t, A, n, c, row, rfl, ht, hr, hne, hR, hb⟩
theorem all_of_snoc {t t' : Tr} {row : List El} (h : t.rows = t'.rows ++ [row]) : t.all = t'.all ++ row := by rw [Tr.all_eq, h, Tr.all_eq]; simp
theorem all_of_cons {t t' : Tr} {row : List El} (h : t.rows = row :: t'.rows) : t.all = row ++ t'.all := by rw [Tr.all_eq, h, Tr.all_eq]; simp
theorem all_of_rows {t : Tr} {a b : Tr} (h : t.rows = a.rows ++ b.rows) : t.all = a.all ++ b.all := by rw [Tr.all_eq, h, Tr.all_eq, Tr.all_eq]; simp

set_option maxRecDepth 100000 in
set_option maxHeartbeats 2000000 in
theorem last_any (l r : Tr) (row : List El) : ∀ (p : Option Addr) (S : Nat → Prop) (w : World), IsTree w S (.node l row r) p → (Tr.node l row r).all.length ≤ 1099511627776 →
    Calls Tryd.prog 114 #[.pointer p] w (LeafRet w S (fun t x => (Tr.node l row r).rows = t.rows ++ [x])) := by
  induction r generalizing l row with
  | nil =>
    intro p S w h hbd
    obtain ⟨ne, b, A, n, c, pl, pr, rfl, bS, hrow, hl, hr, c0, c1, c2, c3, c4, c5, c6⟩ := h
    obtain rfl := hr
    clear c3 c4 c5 c6
    go_enter Tryd.func114, Tryd.ntmps114
    repeat' (first | ((with_reducible refine region_at 2 ?_); refine wp_region_order [(0, true, false), (1, true, false), (2, true, false), (3, true, false), (4, true, false), (5, true, false), (6, true, false), (7, true, false), (8, true, false), (9, true, false)] (by kernel_rfl) (by kernel_rfl) (by kernel_rfl) rfl rfl ?_) | (with_reducible refine Keep.last ?_) | (with_reducible refine Keep.below (by assumption) ?_) | (with_reducible refine Keep.kept (by assumption) ?_) | (with_reducible refine Keep.alloc ?_) | (with_reducible refine Keep.same ?_) | ((with_reducible refine WpH.here ?_); first | (refine WpH.nil ?_; refine NoP.normal ?_) | (refine WpH.load (by rfl) (by rfl) (by go_simp; rfl) ?_; simp only [Act.put, List.setIfInBounds_toArray, List.set_cons_zero, List.set_cons_succ]) | (refine WpH.loadT (by rfl) (by rfl) (by go_simp; rfl) (by rintro _ _ ⟨⟩; exact ⟨_, _, _, _, _, _, by rfl, by assumption, by assumption⟩) ?_; simp only [Act.put, List.setIfInBounds_toArray, List.set_cons_zero, List.set_cons_succ]) | (refine WpH.pure (by rfl) (fun w_ => by go_simp; (try go_bits); rfl) ?_; simp only [Act.put, List.setIfInBounds_toArray, List.set_cons_zero, List.set_cons_succ]) | (refine WpH.wild1 (by rfl) (fun _ _ => ?_)) | (refine WpH.skip (by rfl) ?_; simp only [Act.put, List.setIfInBounds_toArray, List.set_cons_zero, List.set_cons_succ])) | go_values | go_skip | go_guarded | go_step | go_upon | go_back)
    go_ret2
    exact LeafRet.of hl.drew.fr hrow.drew.fr ne (by simp [Tr.rows]) (Below.refl _ _).drew
  | node rl rrow rr _ ih =>
    intro p S w h hbd
    obtain ⟨ne, b, A, n, c, pl, pr, rfl, bS, hrow, hl, hr, c0, c1, c2, c3, c4, c5, c6⟩ := h
    obtain ⟨b', hpr⟩ : ∃ b', pr = some ⟨b', 0, none⟩ := by obtain ⟨_, b', _, _, _, _, _, e, _⟩ := id hr; exact ⟨b', e⟩
    subst hpr
    rw [all_node] at hbd
    have IH := hid (ih rl rrow (some ⟨b', 0, none⟩) S w hr (by omega))
    clear ih c3 c4 c5 c6
    have hbl : b < w.heap.size := lt_of_cell' c0
    go_enter Tryd.func114, Tryd.ntmps114
    repeat' (first | (go_at_call 114; (with_reducible refine (Calls.mono IH.out ?_)); rintro _ w1 ⟨p1, t1, A1, n1, c1', x, rfl, ht1, hr1, hne1, hq1, hb1⟩; have hq1' := hid hq1; have hal := hid (all_of_snoc hq1); clear hq1; obtain ⟨hc1, hg1⟩ := bcell hb1; dsimp only) | ((with_reducible refine region_at 4 ?_); refine wp_region_order [(0, true, false), (1, true, false), (2, true, false), (3, true, false), (4, true, false), (5, true, false), (6, true, false), (7, true, false), (8, true, false), (10, true, false), (9, false, false), (11, true, false), (12, true, false)] (by kernel_rfl) (by kernel_rfl) (by kernel_rfl) rfl rfl ?_) | (go_at_call 134; (with_reducible refine (join_any l t1 pl p1 A n c row (Fr w S) _ (hl.step hb1).fr.drew ht1.drew (hrow.step hb1).fr.drew ne (by have := congrArg List.length hal.out; simp only [List.length_append] at this; omega)).mono ?_); rintro _ w2 ⟨p2, t2, rfl, ht2, hq2, hb2⟩; dsimp only) | (with_reducible refine Keep.last ?_) | (with_reducible refine Keep.below (by assumption) ?_) | (with_reducible refine Keep.kept (by assumption) ?_) | (with_reducible refine Keep.alloc ?_) | (with_reducible refine Keep.same ?_) | ((with_reducible refine WpH.here ?_); first | (refine WpH.nil ?_; refine NoP.normal ?_) | (refine WpH.load (by rfl) (by rfl) (by go_simp; rfl) ?_; simp only [Act.put, List.setIfInBounds_toArray, List.set_cons_zero, List.set_cons_succ]) | (refine WpH.loadT (by rfl) (by rfl) (by go_simp; rfl) (by rintro _ _ ⟨⟩; exact ⟨_, _, _, _, _, _, by rfl, by assumption, by assumption⟩) ?_; simp only [Act.put, List.setIfInBounds_toArray, List.set_cons_zero, List.set_cons_succ]) | (refine WpH.pure (by rfl) (fun w_ => by go_simp; (try go_bits); rfl) ?_; simp only [Act.put, List.setIfInBounds_toArray, List.set_cons_zero, List.set_cons_succ]) | (refine WpH.wild1 (by rfl) (fun _ _ => ?_)) | (refine WpH.skip (by rfl) ?_; simp only [Act.put, List.setIfInBounds_toArray, List.set_cons_zero, List.set_cons_succ])) | go_values | go_skip | go_guarded | go_step | go_upon | go_back)
    go_ret2
    have hb2' := undrew hb2
    refine LeafRet.of (ht2.more fun b _ h => Fr.shrink hb1.size b h) (hr1.drew.step hb2) hne1 ?_ (hb1.trans (hb2'.mono hb1.size))
    have := hq1'.out
    simp only [Tr.joined, Tr.rows] at *
    rw [hq2, this]
    simp

set_option maxRecDepth 100000 in
set_option maxHeartbeats 2000000 in
theorem first_any (l r : Tr) (row : List El) : ∀ (p : Option Addr) (S : Nat → Prop) (w : World), IsTree w S (.node l row r) p → (Tr.node l row r).all.length ≤ 1099511627776 →
    Calls Tryd.prog 115 #[.pointer p] w (LeafRet w S (fun t x => (Tr.node l row r).rows = x :: t.rows)) := by
  induction l generalizing r row with
  | nil =>
    intro p S w h hbd
    obtain ⟨ne, b, A, n, c, pl, pr, rfl, bS, hrow, hl, hr, c0, c1, c2, c3, c4, c5, c6⟩ := h
    obtain rfl := hl
    clear c3 c4 c5 c6
    go_enter Tryd.func115, Tryd.ntmps115
    repeat' (first | ((with_reducible refine region_at 2 ?_); refine wp_region_order [(0, true, false), (1, true, false), (2, true, false), (3, true, false), (4, true, false), (5, true, false), (6, true, false), (7, true, false), (8, true, false), (9, true, false)] (by kernel_rfl) (by kernel_rfl) (by kernel_rfl) rfl rfl ?_) | (with_reducible refine Keep.last ?_) | (with_reducible refine Keep.below (by assumption) ?_) | (with_reducible refine Keep.kept (by assumption) ?_) | (with_reducible refine Keep.alloc ?_) | (with_reducible refine Keep.same ?_) | ((with_reducible refine WpH.here ?_); first | (refine WpH.nil ?_; refine NoP.normal ?_) | (refine WpH.load (by rfl) (by rfl) (by go_simp; rfl) ?_; simp only [Act.put, List.setIfInBounds_toArray, List.set_cons_zero, List.set_cons_succ]) | (refine WpH.loadT (by rfl) (by rfl) (by go_simp; rfl) (by rintro _ _ ⟨⟩; exact ⟨_, _, _, _, _, _, by rfl, by assumption, by assumption⟩) ?_; simp only [Act.put, List.setIfInBounds_toArray, List.set_cons_zero, List.set_cons_succ]) | (refine WpH.pure (by rfl) (fun w_ => by go_simp; (try go_bits); rfl) ?_; simp only [Act.put, List.setIfInBounds_toArray, List.set_cons_zero, List.set_cons_succ]) | (refine WpH.wild1 (by rfl) (fun _ _ => ?_)) | (refine WpH.skip (by rfl) ?_; simp only [Act.put, List.setIfInBounds_toArray, List.set_cons_zero, List.set_cons_succ])) | go_values | go_skip | go_guarded | go_step | go_upon | go_back)
    go_ret2
    exact LeafRet.of hr.drew.fr hrow.drew.fr ne (by simp [Tr.rows]) (Below.refl _ _).drew
  | node ll lrow lr ih _ =>
    intro p S w h hbd
    obtain ⟨ne, b, A, n, c, pl, pr, rfl, bS, hrow, hl, hr, c0, c1, c2, c3, c4, c5, c6⟩ := h
    obtain ⟨b', hpl⟩ : ∃ b', pl = some ⟨b', 0, none⟩ := by obtain ⟨_, b', _, _, _, _, _, e, _⟩ := id hl; exact ⟨b', e⟩
    subst hpl
    rw [all_node] at hbd
    have IH := hid (ih lr lrow (some ⟨b', 0, none⟩) S w hl (by omega))
    clear ih c3 c4 c5 c6
    have hbl : b < w.heap.size := lt_of_cell' c0
    go_enter Tryd.func115, Tryd.ntmps115
    repeat' (first | (go_at_call 115; (with_reducible refine (Calls.mono IH.out ?_)); rintro _ w1 ⟨p1, t1, A1, n1, c1', x, rfl, ht1, hr1, hne1, hq1, hb1⟩; have hq1' := hid hq1; have hal := hid (all_of_cons hq1); clear hq1; obtain ⟨hc1, hg1⟩ := bcell hb1; dsimp only) | ((with_reducible refine region_at 4 ?_); refine wp_region_order [(0, true, false), (1, true, false), (2, true, false), (3, true, false), (4, true, false), (5, true, false), (6, true, false), (7, true, false), (8, true, false), (10, true, false), (9, false, false), (11, true, false), (12, true, false)] (by kernel_rfl) (by kernel_rfl) (by kernel_rfl) rfl rfl ?_) | (go_at_call 134; (with_reducible refine (join_any t1 r p1 pr A n c row (Fr w S) _ ht1.drew (hr.step hb1).fr.drew (hrow.step hb1).fr.drew ne (by have := congrArg List.length hal.out; simp only [List.length_append] at this; omega)).mono ?_); rintro _ w2 ⟨p2, t2, rfl, ht2, hq2, hb2⟩; dsimp only) | (with_reducible refine Keep.last ?_) | (with_reducible refine Keep.below (by assumption) ?_) | (with_reducible refine Keep.kept (by assumption) ?_) | (with_reducible refine Keep.alloc ?_) | (with_reducible refine Keep.same ?_) | ((with_reducible refine WpH.here ?_); first | (refine WpH.nil ?_; refine NoP.normal ?_) | (refine WpH.load (by rfl) (by rfl) (by go_simp; rfl) ?_; simp only [Act.put, List.setIfInBounds_toArray, List.set_cons_zero, List.set_cons_succ]) | (refine WpH.loadT (by rfl) (by rfl) (by go_simp; rfl) (by rintro _ _ ⟨⟩; exact ⟨_, _, _, _, _, _, by rfl, by assumption, by assumption⟩) ?_; simp only [Act.put, List.setIfInBounds_toArray, List.set_cons_zero, List.set_cons_succ]) | (refine WpH.pure (by rfl) (fun w_ => by go_simp; (try go_bits); rfl) ?_; simp only [Act.put, List.setIfInBounds_toArray, List.set_cons_zero, List.set_cons_succ]) | (refine WpH.wild1 (by rfl) (fun _ _ => ?_)) | (refine WpH.skip (by rfl) ?_; simp only [Act.put, List.setIfInBounds_toArray, List.set_cons_zero, List.set_cons_succ])) | go_values | go_skip | go_guarded | go_step | go_upon | go_back)
    go_ret2
    have hb2' := undrew hb2
    refine LeafRet.of (ht2.more fun b _ h => Fr.shrink hb1.size b h) (hr1.drew.step hb2) hne1 ?_ (hb1.trans (hb2'.mono hb1.size))
    have := hq1'.out
    simp only [Tr.joined, Tr.rows] at *
    rw [hq2, this]
    rfl

set_option maxRecDepth 100000 in
set_option maxHeartbeats 2000000 in
/-- **both** -/
theorem both_any (l r : Tr) (pl pr : Option Addr) (S : Nat → Prop) (w : World) (hl : IsTree w S l pl) (hr : IsTree w S r pr) (hbd : l.all.length + r.all.length ≤ 1099511627776) :
    Calls Tryd.prog 116 #[.pointer pl, .pointer pr] w (TreeRet w S (fun t => t.rows = l.rows ++ r.rows)) := by
  cases l with
  | nil =>
    obtain rfl := hl
    go_enter Tryd.func116, Tryd.ntmps116
    repeat' (first | (with_reducible refine Keep.last ?_) | (with_reducible refine Keep.below (by assumption) ?_) | (with_reducible refine Keep.kept (by assumption) ?_) | (with_reducible refine Keep.alloc ?_) | (with_reducible refine Keep.same ?_) | ((with_reducible refine WpH.here ?_); first | (refine WpH.nil ?_; refine NoP.normal ?_) | (refine WpH.load (by rfl) (by rfl) (by go_simp; rfl) ?_; simp only [Act.put, List.setIfInBounds_toArray, List.set_cons_zero, List.set_cons_succ]) | (refine WpH.loadT (by rfl) (by rfl) (by go_simp; rfl) (by rintro _ _ ⟨⟩; exact ⟨_, _, _, _, _, _, by rfl, by assumption, by assumption⟩) ?_; simp only [Act.put, List.setIfInBounds_toArray, List.set_cons_zero, List.set_cons_succ]) | (refine WpH.pure (by rfl) (fun w_ => by go_simp; (try go_bits); rfl) ?_; simp only [Act.put, List.setIfInBounds_toArray, List.set_cons_zero, List.set_cons_succ]) | (refine WpH.wild1 (by rfl) (fun _ _ => ?_)) | (refine WpH.skip (by rfl) ?_; simp only [Act.put, List.setIfInBounds_toArray, List.set_cons_zero, List.set_cons_succ])) | go_values | go_skip | go_guarded | go_step | go_upon | go_back)
    go_ret
    exact TreeRet.of hr.fr (by simp [Tr.rows]) (Below.refl _ _)
  | node ll lrow lr =>
    obtain ⟨b', hpl⟩ : ∃ b', pl = some ⟨b', 0, none⟩ := by obtain ⟨_, b', _, _, _, _, _, e, _⟩ := id hl; exact ⟨b', e⟩
    subst hpl
    have IH := hid (last_any ll lr lrow (some ⟨b', 0, none⟩) S w hl (by omega))
    go_enter Tryd.func116, Tryd.ntmps116
    repeat' (first | (go_at_call 114; (with_reducible refine (Calls.mono IH.out ?_)); rintro _ w1 ⟨p1, t1, A1, n1, c1', x, rfl, ht1, hr1, hne1, hq1, hb1⟩; have hq1' := hid hq1; have hal := hid (all_of_snoc hq1); clear hq1; dsimp only) | (go_at_call 134; (with_reducible refine (join_any t1 r p1 pr A1 n1 c1' x (Fr w S) _ ht1 (hr.step hb1).fr hr1 hne1 (by have := congrArg List.length hal.out; simp only [List.length_append] at this; omega)).mono ?_); rintro _ w2 ⟨p2, t2, rfl, ht2, hq2, hb2⟩; dsimp only) | (with_reducible refine Keep.last ?_) | (with_reducible refine Keep.below (by assumption) ?_) | (with_reducible refine Keep.kept (by assumption) ?_) | (with_reducible refine Keep.alloc ?_) | (with_reducible refine Keep.same ?_) | ((with_reducible refine WpH.here ?_); first | (refine WpH.nil ?_; refine NoP.normal ?_) | (refine WpH.load (by rfl) (by rfl) (by go_simp; rfl) ?_; simp only [Act.put, List.setIfInBounds_toArray, List.set_cons_zero, List.set_cons_succ]) | (refine WpH.loadT (by rfl) (by rfl) (by go_simp; rfl) (by rintro _ _ ⟨⟩; exact ⟨_, _, _, _, _, _, by rfl, by assumption, by assumption⟩) ?_; simp only [Act.put, List.setIfInBounds_toArray, List.set_cons_zero, List.set_cons_succ]) | (refine WpH.pure (by rfl) (fun w_ => by go_simp; (try go_bits); rfl) ?_; simp only [Act.put, List.setIfInBounds_toArray, List.set_cons_zero, List.set_cons_succ]) | (refine WpH.wild1 (by rfl) (fun _ _ => ?_)) | (refine WpH.skip (by rfl) ?_; simp only [Act.put, List.setIfInBounds_toArray, List.set_cons_zero, List.set_cons_succ])) | go_values | go_skip | go_guarded | go_step | go_upon | go_back)
    go_ret
    refine TreeRet.of (ht2.more fun b _ h => Fr.shrink hb1.size b h) ?_ (hb1.trans (hb2.mono hb1.size))
    have := hq1'.out
    simp only [Tr.joined] at *
    rw [hq2, this]
    simp
end Go.Proofs.YtogkbddniacgiaaDoor
