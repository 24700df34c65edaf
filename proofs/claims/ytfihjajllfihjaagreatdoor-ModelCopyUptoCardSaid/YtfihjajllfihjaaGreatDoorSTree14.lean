/- An element put in another one's place: the walks of with and Set. Conditions: the tree lies in memory apart from its header, fewer than 2^30 elements; the place is in it. -/
import Derived.Test.YtfihjajllfihjaaGreatDoorSTurn
namespace Go.Proofs.YtfihjajllfihjaaGreatDoor
set_option linter.unusedSimpArgs false
set_option linter.unusedVariables false
open Go Go.RowKit
theorem cellsOf_set (es : List El) (i : Nat) (e : El) (hi : i < es.length) : cellsOf (es.set i e) = (((((cellsOf es).set (i * 5) (.int .i64 e.epoch)).set (i * 5 + 1) (.int .i64 e.rep)).set (i * 5 + 2) (.int .i64 e.num)).set (i * 5 + 3) (.int .i32 e.char)).set (i * 5 + 4) (.int .i64 e.hides) := by
  induction es generalizing i with
  | nil => simp at hi
  | cons x es ih =>
    cases i with
    | zero =>
      simp only [List.set_cons_zero, cellsOf_cons, El.cells, Nat.zero_mul, Nat.zero_add, List.cons_append, List.nil_append]
      rfl
    | succ i =>
      have hi' : i < es.length := by simpa using hi
      simp only [List.set_cons_succ, cellsOf_cons]
      rw [ih i hi']
      simp only [El.cells, List.cons_append, List.nil_append]
      rw [show (i + 1) * 5 = i * 5 + 1 + 1 + 1 + 1 + 1 from by omega]
      rw [show i * 5 + 1 + 1 + 1 + 1 + 1 + 1 = (i * 5 + 1) + 1 + 1 + 1 + 1 + 1 from by omega, show i * 5 + 1 + 1 + 1 + 1 + 1 + 2 = (i * 5 + 2) + 1 + 1 + 1 + 1 + 1 from by omega, show i * 5 + 1 + 1 + 1 + 1 + 1 + 3 = (i * 5 + 3) + 1 + 1 + 1 + 1 + 1 from by omega, show i * 5 + 1 + 1 + 1 + 1 + 1 + 4 = (i * 5 + 4) + 1 + 1 + 1 + 1 + 1 from by omega]
      simp only [List.set_cons_succ]
theorem own_at {w : World} {base : Nat} {A : Option Addr} {n c : Nat} {es : List El} (h : Own w base A n c es) (hn : 0 < n) : ∃ g cur, A = some ⟨g, 0, none⟩ ∧ base ≤ g ∧ Blk w g 32 cur ∧ cur.size = c * 5 ∧ n ≤ c ∧ cur.toList.take (n * 5) = cellsOf es := by
  rcases h.2.2 with ⟨_, h0⟩ | ⟨g, cap, cur, e, hbg, hh, h1, h2, h3, h4⟩
  · omega
  · injection e with e1 e2 e3
    subst e3
    exact ⟨g, cur, e1, hbg, hh, h3, h1, h4⟩
/-- a slice of the call's own, an element of it written -/
theorem Own.set5 {w : World} {base g n c i : Nat} {es : List El} (h : Own w base (some ⟨g, 0, none⟩) n c es) (e : El) (hi : i < n) :
    Own (((((w.setCell ⟨g, i * 5, none⟩ (.int .i64 e.epoch)).setCell ⟨g, i * 5 + 1, none⟩ (.int .i64 e.rep)).setCell ⟨g, i * 5 + 2, none⟩ (.int .i64 e.num)).setCell ⟨g, i * 5 + 3, none⟩ (.int .i32 e.char)).setCell ⟨g, i * 5 + 4, none⟩ (.int .i64 e.hides)) base (some ⟨g, 0, none⟩) n c (es.set i e) := by
  have hc := h.cap_le
  obtain ⟨g', cur, e1, hbg, hb, hs, hnc, ht⟩ := own_at h (by omega)
  injection e1 with e1
  injection e1 with e1
  subst e1
  have hb' := ((((hb.set_ (i * 5) (.int .i64 e.epoch)).set_ (i * 5 + 1) (.int .i64 e.rep)).set_ (i * 5 + 2) (.int .i64 e.num)).set_ (i * 5 + 3) (.int .i32 e.char)).set_ (i * 5 + 4) (.int .i64 e.hides)
  refine ⟨by simpa using h.1, by rw [cellsOf_length, List.length_set, h.1], .inr ⟨g, c, _, rfl, hbg, hb', hnc, hc.2, by simp [hs], ?_⟩⟩
  rw [cellsOf_set es i e (by rw [h.1]; exact hi), ← ht]
  simp only [Array.toList_setIfInBounds, List.take_set]
set_option maxRecDepth 100000 in
set_option maxHeartbeats 4000000 in
theorem with_any (e : El) (t : Tr) : ∀ (i : Nat) (p : Option Addr) (S : Nat → Prop) (w : World), IsTree w S t p → t.all.length ≤ 1099511627776 → i < t.all.length →
    Calls Tryz.prog 116 #[.pointer p, .int .i64 i, .agg #[.int .i64 e.epoch, .int .i64 e.rep, .int .i64 e.num, .int .i32 e.char, .int .i64 e.hides]] w (TreeRet w S (fun t' => t'.all = t.all.set i e ∧ t'.rows.map List.length = t.rows.map List.length)) := by
  induction t with
  | nil => intro i p S w _ _ hi; simp [Tr.all] at hi
  | node l row r ihl ihr =>
    intro i p S w h hbd hi
    obtain ⟨ne, b, A, n, c, pl, pr, rfl, bS, hrow, hl, hr, c0, c1, c2, c3, c4, c5, c6⟩ := h
    obtain rfl : n = row.length := hrow.1.symm
    rw [all_node] at hbd hi
    have b1 : Below w.heap.size w (w.alloc (.cells #[.int .i64 e.epoch, .int .i64 e.rep, .int .i64 e.num, .int .i32 e.char, .int .i64 e.hides] 32)) := (Below.refl _ _).alloc (Nat.le_refl _) _
    have hx := Blk.new w 32 #[.int .i64 e.epoch, .int .i64 e.rep, .int .i64 e.num, .int .i32 e.char, .int .i64 e.hides]
    clear c3 c4 c5 c6
    have hbl : b < w.heap.size := lt_of_cell' c0
    have bD := b1.drew
    by_cases h1 : i < l.all.length
    · have j1 : (i : Int) < l.all.length := by omega
      have IH := hid (ihl i pl S _ ((hl.step b1).drew) (by omega) h1)
      clear ihl ihr
      have hrow1 := (hrow.step b1).drew
      have hr1 := (hr.step b1).drew
      go_enter Tryz.func116, Tryz.ntmps116
      repeat' (first | (go_at_call 96; (with_reducible refine (size_any l pl S _ (hl.step b1)).mono ?_); rintro _ _ ⟨rfl, rfl⟩; dsimp only) | (go_at_call 116; go_must ((with_reducible refine Calls.mono IH.out ?_); rintro _ w2 ⟨p2, t2, rfl, ht2, ⟨hq2, hs2⟩, hb2⟩; have hal := hid hq2; have hsl := hid hs2; clear hq2 hs2; dsimp only)) | ((with_reducible refine region_at 3 ?_); refine wp_region_order [(0, true, false), (1, true, false), (2, true, false), (3, true, false), (4, true, false), (5, true, false), (7, true, false), (8, true, false), (9, true, false), (10, true, false), (11, true, false), (12, true, false), (13, true, false), (14, true, false), (6, false, false), (15, false, false), (16, true, false)] (by kernel_rfl) (by kernel_rfl) (by kernel_rfl) rfl rfl ?_) | (go_at_call 134; go_must ((with_reducible refine (made_any t2 r p2 pr A _ c row (Fr _ S) w2 ht2 (hr1.step hb2).fr (hrow1.step hb2).fr ne (by rw [hal.out]; simp only [List.length_set]; omega)).mono ?_); rintro _ w3 ⟨p3, t3, rfl, ht3, rfl, hb3⟩; dsimp only)) | (with_reducible refine Keep.last ?_) | (with_reducible refine Keep.below (by assumption) ?_) | (with_reducible refine Keep.kept (by assumption) ?_) | (with_reducible refine Keep.alloc ?_) | (with_reducible refine Keep.same ?_) | ((with_reducible refine WpH.here ?_); first | (refine WpH.nil ?_; refine NoP.normal ?_) | (refine WpH.load (by rfl) (by rfl) (by go_simp; rfl) ?_; simp only [Act.put, List.setIfInBounds_toArray, List.set_cons_zero, List.set_cons_succ]) | (refine WpH.loadT (by rfl) (by rfl) (by go_simp; rfl) (by rintro _ _ ⟨⟩; exact ⟨_, _, _, _, _, _, by rfl, by assumption, by assumption⟩) ?_; simp only [Act.put, List.setIfInBounds_toArray, List.set_cons_zero, List.set_cons_succ]) | (refine WpH.pure (by rfl) (fun w_ => by go_simp; (try go_bits); rfl) ?_; simp only [Act.put, List.setIfInBounds_toArray, List.set_cons_zero, List.set_cons_succ]) | (refine WpH.wild1 (by rfl) (fun _ _ => ?_)) | (refine WpH.skip (by rfl) ?_; simp only [Act.put, List.setIfInBounds_toArray, List.set_cons_zero, List.set_cons_succ])) | go_values | go_skip | go_guarded | go_step | go_upon | go_back)
      go_ret
      have hb2' := bD.trans (hb2.mono bD.size)
      refine TreeRet.of (ht3.more fun b _ h => ?_) ⟨?_, ?_⟩ (hb2'.trans (hb3.mono hb2'.size))
      · rcases h with (h | h) | h
        · exact .inl h
        · exact .inr (Nat.le_trans bD.size h)
        · exact .inr (Nat.le_trans hb2'.size h)
      · simp only [Tr.all]
        rw [hal.out, List.append_assoc, List.append_assoc, List.set_append_left _ _ h1]
      · simp only [Tr.rows, List.map_append, List.map_cons]
        rw [hsl.out]
    · by_cases h2 : i < l.all.length + row.length
      · have j1 : ¬ (i : Int) < l.all.length := by omega
        have j2 : (i : Int) < l.all.length + row.length := by omega
        obtain ⟨q, hq⟩ := Nat.exists_eq_add_of_le (Nat.le_of_not_lt h1)
        subst hq
        have hqr : q < row.length := by omega
        have j3 : ((l.all.length + q : Nat) : Int) - l.all.length = q := by omega
        clear ihl ihr
        have hrow1 := hrow.step b1
        go_enter Tryz.func116, Tryz.ntmps116
        repeat' (first | (go_at_call 96; (with_reducible refine (size_any l pl S _ (hl.step b1)).mono ?_); rintro _ _ ⟨rfl, rfl⟩; dsimp only) | ((with_reducible refine append_here ?_); refine wp_append_nil A row.length c row S (by rfl) (by rfl) hrow1 (by omega) ?_; intro A' c' w2 hown2 hb2) | (with_reducible refine stop_region 6 ?_) | (with_reducible refine Keep.last ?_) | (with_reducible refine Keep.below (by assumption) ?_) | (with_reducible refine Keep.kept (by assumption) ?_) | (with_reducible refine Keep.alloc ?_) | (with_reducible refine Keep.same ?_) | ((with_reducible refine WpH.here ?_); first | (refine WpH.nil ?_; refine NoP.normal ?_) | (refine WpH.load (by rfl) (by rfl) (by go_simp; rfl) ?_; simp only [Act.put, List.setIfInBounds_toArray, List.set_cons_zero, List.set_cons_succ]) | (refine WpH.loadT (by rfl) (by rfl) (by go_simp; rfl) (by rintro _ _ ⟨⟩; exact ⟨_, _, _, _, _, _, by rfl, by assumption, by assumption⟩) ?_; simp only [Act.put, List.setIfInBounds_toArray, List.set_cons_zero, List.set_cons_succ]) | (refine WpH.pure (by rfl) (fun w_ => by go_simp; (try go_bits); rfl) ?_; simp only [Act.put, List.setIfInBounds_toArray, List.set_cons_zero, List.set_cons_succ]) | (refine WpH.wild1 (by rfl) (fun _ _ => ?_)) | (refine WpH.skip (by rfl) ?_; simp only [Act.put, List.setIfInBounds_toArray, List.set_cons_zero, List.set_cons_succ])) | go_values | go_skip | go_guarded | go_step | go_upon | go_back)
        refine Stop.go ?_
        obtain ⟨g, cur, rfl, hgb, hgk, hcs, hnc, _⟩ := own_at hown2 (by omega)
        have kc : ∀ k, k < 5 → ∃ u, w2.cell? ⟨g, q * 5 + k, none⟩ = some u := fun k hk => ⟨_, (hgk.cell _).trans (Array.getElem?_eq_getElem (by omega))⟩
        obtain ⟨u0, g0⟩ := kc 0 (by omega)
        obtain ⟨u1, g1⟩ := kc 1 (by omega)
        obtain ⟨u2, g2⟩ := kc 2 (by omega)
        obtain ⟨u3, g3⟩ := kc 3 (by omega)
        obtain ⟨u4, g4⟩ := kc 4 (by omega)
        have f0 := hgk.frozen (q * 5)
        have f1 := hgk.frozen (q * 5 + 1)
        have f2 := hgk.frozen (q * 5 + 2)
        have f3 := hgk.frozen (q * 5 + 3)
        have f4 := hgk.frozen (q * 5 + 4)
        have hx2 := hx.step hb2
        have x0 := hx2.cell 0
        have x1 := hx2.cell 1
        have x2 := hx2.cell 2
        have x3 := hx2.cell 3
        have x4 := hx2.cell 4
        rw [Nat.add_zero] at g0
        simp at x0 x1 x2 x3 x4
        have ho3 := hown2.set5 e hqr
        have hgl := hgk.lt
        have Hb2 := hid (And.intro hb2 (And.intro ho3 hgb))
        clear ho3 kc hown2 hgk hcs hnc
        repeat' (first | (with_reducible refine stop_region 7 ?_) | go_values | go_skip | go_guarded | go_step | go_upon | go_back)
        refine Stop.go ?_
        obtain ⟨hb2', ho3, hgb'⟩ := Hb2.out
        have hsm : ∀ k, k ≠ g → (((((w2.setCell ⟨g, q * 5, none⟩ (.int .i64 e.epoch)).setCell ⟨g, q * 5 + 1, none⟩ (.int .i64 e.rep)).setCell ⟨g, q * 5 + 2, none⟩ (.int .i64 e.num)).setCell ⟨g, q * 5 + 3, none⟩ (.int .i32 e.char)).setCell ⟨g, q * 5 + 4, none⟩ (.int .i64 e.hides)).heap[k]? = w2.heap[k]? := fun k hk => by
          rw [Below.heap_setCell _ _ _ _ hk, Below.heap_setCell _ _ _ _ hk, Below.heap_setCell _ _ _ _ hk, Below.heap_setCell _ _ _ _ hk, Below.heap_setCell _ _ _ _ hk]
        have hbw : Below w.heap.size w (((((w2.setCell ⟨g, q * 5, none⟩ (.int .i64 e.epoch)).setCell ⟨g, q * 5 + 1, none⟩ (.int .i64 e.rep)).setCell ⟨g, q * 5 + 2, none⟩ (.int .i64 e.num)).setCell ⟨g, q * 5 + 3, none⟩ (.int .i32 e.char)).setCell ⟨g, q * 5 + 4, none⟩ (.int .i64 e.hides)) := by
          have hh := b1.trans (hb2'.mono b1.size)
          have hg' : w.heap.size ≤ g := Nat.le_trans b1.size hgb'
          exact ((((hh.setCell hg' _).setCell hg' _).setCell hg' _).setCell hg' _).setCell hg' _
        generalize ((((w2.setCell ⟨g, q * 5, none⟩ (.int .i64 e.epoch)).setCell ⟨g, q * 5 + 1, none⟩ (.int .i64 e.rep)).setCell ⟨g, q * 5 + 2, none⟩ (.int .i64 e.num)).setCell ⟨g, q * 5 + 3, none⟩ (.int .i32 e.char)).setCell ⟨g, q * 5 + 4, none⟩ (.int .i64 e.hides) = w3 at *
        have hl3 := hl.step hbw
        have hr3 := hr.step hbw
        have c13 := kc hbw c1
        have c23 := kc hbw c2
        have hbl3 := lt_of_cell' c13
        have hrow3 : Row w3 (Fr w S) (some ⟨g, 0, none⟩) row.length c' (row.set q e) := ho3.row fun b h _ => .inr (Nat.le_trans b1.size h)
        have hne3 : row.set q e ≠ [] := by
          intro h0
          have := congrArg List.length h0
          simp at this
          exact ne this
        have Hf := hid hbw
        clear hsm hb2' ho3 g0 g1 g2 g3 g4 f0 f1 f2 f3 f4 hx2 x0 x1 x2 x3 x4 hbw
        repeat' (first | ((with_reducible refine region_at 7 ?_); refine wp_region_order [(0, true, false), (1, true, false), (2, true, false), (3, true, false), (4, true, false), (5, true, false), (6, true, false), (7, true, false), (8, true, false), (9, false, false), (10, true, false)] (by kernel_rfl) (by kernel_rfl) (by kernel_rfl) rfl rfl ?_) | (go_at_call 134; go_must ((with_reducible refine (made_any l r pl pr (some ⟨g, 0, none⟩) _ c' (row.set q e) (Fr w S) w3.drew hl3.drew.fr hr3.drew.fr hrow3.drew hne3 (by simp only [List.length_set]; omega)).mono ?_); rintro _ w4 ⟨p4, t4, rfl, ht4, rfl, hb4⟩; dsimp only)) | (with_reducible refine Keep.last ?_) | (with_reducible refine Keep.below (by assumption) ?_) | (with_reducible refine Keep.kept (by assumption) ?_) | (with_reducible refine Keep.alloc ?_) | (with_reducible refine Keep.same ?_) | ((with_reducible refine WpH.here ?_); first | (refine WpH.nil ?_; refine NoP.normal ?_) | (refine WpH.load (by rfl) (by rfl) (by go_simp; rfl) ?_; simp only [Act.put, List.setIfInBounds_toArray, List.set_cons_zero, List.set_cons_succ]) | (refine WpH.loadT (by rfl) (by rfl) (by go_simp; rfl) (by rintro _ _ ⟨⟩; exact ⟨_, _, _, _, _, _, by rfl, by assumption, by assumption⟩) ?_; simp only [Act.put, List.setIfInBounds_toArray, List.set_cons_zero, List.set_cons_succ]) | (refine WpH.pure (by rfl) (fun w_ => by go_simp; (try go_bits); rfl) ?_; simp only [Act.put, List.setIfInBounds_toArray, List.set_cons_zero, List.set_cons_succ]) | (refine WpH.wild1 (by rfl) (fun _ _ => ?_)) | (refine WpH.skip (by rfl) ?_; simp only [Act.put, List.setIfInBounds_toArray, List.set_cons_zero, List.set_cons_succ])) | go_values | go_skip | go_guarded | go_step | go_upon | go_back)
        go_ret
        have hB := Hf.out.drew
        refine TreeRet.of (ht4.more fun b _ h => Fr.shrink hB.size b h) ⟨?_, ?_⟩ (hB.trans (hb4.mono hB.size))
        · simp only [Tr.all]
          rw [List.append_assoc, List.append_assoc, List.set_append_right _ _ (by omega), show l.all.length + q - l.all.length = q from by omega, List.set_append_left _ _ hqr]
        · simp [Tr.rows]
      · have j1 : ¬ (i : Int) < l.all.length := by omega
        have j2 : ¬ (i : Int) < l.all.length + row.length := by omega
        have hcast : ((i : Int) - l.all.length - row.length) = ((i - l.all.length - row.length : Nat) : Int) := by omega
        have IH := hid (ihr (i - l.all.length - row.length) pr S _ ((hr.step b1).drew) (by omega) (by omega))
        rw [← hcast] at IH
        clear ihl ihr hcast
        have hrow1 := (hrow.step b1).drew
        have hl1 := (hl.step b1).drew
        go_enter Tryz.func116, Tryz.ntmps116
        repeat' (first | (go_at_call 96; (with_reducible refine (size_any l pl S _ (hl.step b1)).mono ?_); rintro _ _ ⟨rfl, rfl⟩; dsimp only) | (go_at_call 116; go_must ((with_reducible refine Calls.mono IH.out ?_); rintro _ w2 ⟨p2, t2, rfl, ht2, ⟨hq2, hs2⟩, hb2⟩; have hal := hid hq2; have hsl := hid hs2; clear hq2 hs2; dsimp only)) | ((with_reducible refine region_at 8 ?_); refine wp_region_order [(0, true, false), (1, true, false), (2, true, false), (3, true, false), (4, true, false), (5, true, false), (6, true, false), (7, true, false), (8, true, false), (9, true, false), (10, true, false), (11, true, false), (12, true, false), (13, true, false), (14, true, false), (15, true, false), (16, true, false), (17, true, false), (18, true, false), (19, true, false), (20, true, false), (21, true, false), (22, false, false), (23, false, false), (24, true, false)] (by kernel_rfl) (by kernel_rfl) (by kernel_rfl) rfl rfl ?_) | (go_at_call 134; go_must ((with_reducible refine (made_any l t2 pl p2 A _ c row (Fr _ S) w2 (hl1.step hb2).fr ht2 (hrow1.step hb2).fr ne (by rw [hal.out]; simp only [List.length_set]; omega)).mono ?_); rintro _ w3 ⟨p3, t3, rfl, ht3, rfl, hb3⟩; dsimp only)) | (with_reducible refine Keep.last ?_) | (with_reducible refine Keep.below (by assumption) ?_) | (with_reducible refine Keep.kept (by assumption) ?_) | (with_reducible refine Keep.alloc ?_) | (with_reducible refine Keep.same ?_) | ((with_reducible refine WpH.here ?_); first | (refine WpH.nil ?_; refine NoP.normal ?_) | (refine WpH.load (by rfl) (by rfl) (by go_simp; rfl) ?_; simp only [Act.put, List.setIfInBounds_toArray, List.set_cons_zero, List.set_cons_succ]) | (refine WpH.loadT (by rfl) (by rfl) (by go_simp; rfl) (by rintro _ _ ⟨⟩; exact ⟨_, _, _, _, _, _, by rfl, by assumption, by assumption⟩) ?_; simp only [Act.put, List.setIfInBounds_toArray, List.set_cons_zero, List.set_cons_succ]) | (refine WpH.pure (by rfl) (fun w_ => by go_simp; (try go_bits); rfl) ?_; simp only [Act.put, List.setIfInBounds_toArray, List.set_cons_zero, List.set_cons_succ]) | (refine WpH.wild1 (by rfl) (fun _ _ => ?_)) | (refine WpH.skip (by rfl) ?_; simp only [Act.put, List.setIfInBounds_toArray, List.set_cons_zero, List.set_cons_succ])) | go_values | go_skip | go_guarded | go_step | go_upon | go_back)
        go_ret
        have hb2' := bD.trans (hb2.mono bD.size)
        refine TreeRet.of (ht3.more fun b _ h => ?_) ⟨?_, ?_⟩ (hb2'.trans (hb3.mono hb2'.size))
        · rcases h with (h | h) | h
          · exact .inl h
          · exact .inr (Nat.le_trans bD.size h)
          · exact .inr (Nat.le_trans hb2'.size h)
        · simp only [Tr.all]
          rw [hal.out, List.set_append_right _ _ (by simp; omega)]
          congr 2
          simp
          omega
        · simp only [Tr.rows, List.map_append, List.map_cons]
          rw [hsl.out]
set_option maxRecDepth 20000 in
set_option maxHeartbeats 2000000 in
theorem tset_ok (T : Tr) (p : Option Addr) (bt chunk i : Nat) (e : El) (S : Nat → Prop) (w : World) (hblk : Blk w bt 142 #[.int .i64 chunk, .pointer p]) (hT : IsTree w S T p) (hbt : ¬ S bt) (hbd : T.all.length ≤ 1073741824) (hi : i < T.all.length) :
    Calls Tryz.prog 86 #[.pointer (some ⟨bt, 0, none⟩), .int .i64 i, .agg #[.int .i64 e.epoch, .int .i64 e.rep, .int .i64 e.num, .int .i32 e.char, .int .i64 e.hides]] w (SetRet w S bt chunk (fun T' => T'.all = T.all.set i e ∧ T'.rows.map List.length = T.rows.map List.length) .nilIface) := by
  have j1 : ¬ (i : Int) ≥ T.all.length := by omega
  have b1 : Below w.heap.size w (w.alloc (.cells #[.int .i64 e.epoch, .int .i64 e.rep, .int .i64 e.num, .int .i32 e.char, .int .i64 e.hides] 32)) := (Below.refl _ _).alloc (Nat.le_refl _) _
  have hx := Blk.new w 32 #[.int .i64 e.epoch, .int .i64 e.rep, .int .i64 e.num, .int .i32 e.char, .int .i64 e.hides]
  have hb1 := hblk.step b1
  have c1 := hb1.cell 1
  simp at c1
  have HL := hid (tlen_any T p bt chunk _ hb1 (hT.step b1))
  have HW := hid (with_any e T i p S _ (hT.step b1).drew (by omega) hi)
  have hbl := hblk.lt
  have hbl1 := hb1.lt
  go_enter Tryz.func86, Tryz.ntmps86
  repeat' (first | (go_at_call 45; go_must ((with_reducible refine Calls.mono HL.out ?_); rintro _ _ ⟨rfl, rfl⟩; dsimp only)) | ((with_reducible refine region_at 3 ?_); refine wp_region_order [(0, true, false), (1, true, false), (2, true, false), (3, true, false), (4, true, false), (5, true, false), (6, true, false), (7, false, false), (8, true, false), (9, true, false), (10, false, true)] (by kernel_rfl) (by kernel_rfl) (by kernel_rfl) rfl rfl ?_) | (go_at_call 116; go_must ((with_reducible refine Calls.mono HW.out ?_); rintro _ w2 ⟨p2, t2, rfl, ht2, ⟨hq2, hs2⟩, hb2⟩; have hbk2 := hb1.drew.step hb2; have d1 := hbk2.cell 1; have df := hbk2.frozen 1; simp at d1; have dl := hbk2.lt; have H2 := hid (And.intro hq2 hs2); clear hq2 hs2; dsimp only)) | (with_reducible refine Keep.last ?_) | (with_reducible refine Keep.below (by assumption) ?_) | (with_reducible refine Keep.kept (by assumption) ?_) | (with_reducible refine Keep.alloc ?_) | (with_reducible refine Keep.same ?_) | ((with_reducible refine WpH.here ?_); first | (refine WpH.nil ?_; refine NoP.normal ?_) | (refine WpH.load (by rfl) (by rfl) (by go_simp; rfl) ?_; simp only [Act.put, List.setIfInBounds_toArray, List.set_cons_zero, List.set_cons_succ]) | (refine WpH.loadT (by rfl) (by rfl) (by go_simp; rfl) (by rintro _ _ ⟨⟩; exact ⟨_, _, _, _, _, _, by rfl, by assumption, by assumption⟩) ?_; simp only [Act.put, List.setIfInBounds_toArray, List.set_cons_zero, List.set_cons_succ]) | (refine WpH.pure (by rfl) (fun w_ => by go_simp; (try go_bits); rfl) ?_; simp only [Act.put, List.setIfInBounds_toArray, List.set_cons_zero, List.set_cons_succ]) | (refine WpH.wild1 (by rfl) (fun _ _ => ?_)) | (refine WpH.skip (by rfl) ?_; simp only [Act.put, List.setIfInBounds_toArray, List.set_cons_zero, List.set_cons_succ])) | go_values | go_skip | go_guarded | go_step | go_upon | go_back)
  go_ret
  have hB := b1.drew.trans (hb2.mono b1.size)
  have ht2' : IsTree w2 (Fr w S) t2 p2 := ht2.more fun b _ h => by
    rcases h with h | h
    · exact .inl h
    · exact .inr (Nat.le_trans b1.size h)
  refine ⟨p2, t2, rfl, ht2'.keep (Same.setCell _ (fun h => ?_) _), hbk2.set_ 1 _, H2.out, (But.of_below hB).setCell _ _⟩
  rcases h with h | h
  · exact hbt h
  · have h' : w.heap.size ≤ bt := h
    omega
end Go.Proofs.YtfihjajllfihjaaGreatDoor
