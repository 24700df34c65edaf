/- What stands ahead of an element weighs so much: the walk of Before. Conditions: the tree lies in memory, fewer than 2^30 elements. -/
import Derived.Test.YtfihjajllfihjaaGreatDoorP21
namespace Go.Proofs.YtfihjajllfihjaaGreatDoor
set_option linter.unusedSimpArgs false
set_option linter.unusedVariables false
open Go Go.RowKit
theorem weight_set {w : World} {g : Nat} {t : TypeId} {x y x' y' : Value} (h : Blk w g t #[x, y]) : Blk ((w.setCell ⟨g, 0, none⟩ x').setCell ⟨g, 1, none⟩ y') g t #[x', y'] := by simpa using h.set2
set_option maxRecDepth 200000 in
set_option maxHeartbeats 4000000 in
theorem before_ok (T : Tr) (p : Option Addr) (bt chunk i : Nat) (S : Nat → Prop) (w : World) (hblk : Blk w bt 142 #[.int .i64 chunk, .pointer p]) (hT : IsTree w S T p) (hbd : T.all.length ≤ 1073741824) (hi : i ≤ T.all.length) :
    Calls Tryz.prog 104 #[.pointer (some ⟨bt, 0, none⟩), .int .i64 i] w fun e w' => e = .returned (.tuple #[.agg #[.int .i64 (liveOf (T.all.take i)), .int .i64 (linesOf (T.all.take i))], .nilIface]) ∧ Below w.heap.size w w' := by
  obtain ⟨hR, hW, hb0⟩ := boxes2 w 40 40 #[.int .i64 0, .int .i64 0] #[.int .i64 0, .int .i64 0]
  have b1 : Below w.heap.size w (w.alloc (.cells #[.int .i64 0, .int .i64 0] 40)) := balloc (Below.refl _ _)
  have HL := hid (tlen_any T p bt chunk _ (hblk.step b1) (hT.step b1))
  have hk2 := hblk.step hb0
  have hT2 := (hT.more (S' := fun b => S b ∧ b < w.heap.size) fun b h1 h2 => ⟨h2, h1⟩).step hb0
  have c1 := hk2.cell 1
  simp at c1
  have hbl := hblk.lt
  have n1 : ¬ (i : Int) > T.all.length := by omega
  clear hT hblk b1
  go_enter Tryz.func104, Tryz.ntmps104
  repeat' (first | (go_at_call 45; go_must ((with_reducible refine Calls.mono HL.out ?_); rintro _ _ ⟨rfl, rfl⟩; dsimp only)) | go_values | go_skip | go_guarded | go_step | go_upon | go_back)
  clear hk2 c1 HL n1
  generalize (w.alloc (.cells #[.int .i64 0, .int .i64 0] 40)).alloc (.cells #[.int .i64 0, .int .i64 0] 40) = W0 at *
  go_loopw [1, 7] (fun r n wr => ∃ (t : Tr) (q : Option Addr) (X Y : List El) (rest : Nat), r = .int .i64 rest ∧ n = .pointer q ∧ IsTree wr (fun b => S b ∧ b < w.heap.size) t q ∧ T.all = X ++ t.all ++ Y ∧ X.length + rest = i ∧ rest ≤ t.all.length ∧ Blk wr w.heap.size 40 #[.int .i64 0, .int .i64 0] ∧ Blk wr (w.heap.size + 1) 40 #[.int .i64 (liveOf X), .int .i64 (linesOf X)] ∧ Below w.heap.size w wr) (fun _ n wr => highAt n wr)
  case atStart => exact ⟨T, p, [], [], i, rfl, rfl, hT2, by simp, by simp, hi, hR, hW, hb0⟩
  case round =>
    clear hT2 hR hW hb0
    obtain ⟨t, q, X, Y, rest, rfl, rfl, ht, hall, hsum, hle, hR, hW, hbel⟩ := hrel
    have hhi := highAt_tree ht
    have hXl := congrArg List.length hall
    simp only [List.length_append] at hXl
    have hX1 := liveOf_le X
    have hX2 := linesOf_le X
    obtain ⟨r0, r1, rf0, rf1⟩ := hR.two
    obtain ⟨s0, s1, sf0, sf1⟩ := hW.two
    have hRl := hR.lt
    have hWl := hW.lt
    cases t with
    | nil =>
      obtain rfl := ht
      have h0 : rest = 0 := by simp [Tr.all] at hle; exact hle
      subst h0
      have hx : T.all.take i = X := by
        rw [hall, ← hsum]
        simp [Tr.all]
      have Hx := hid hx
      clear hx hall
      repeat' (first | go_values | go_skip | go_guarded | go_step | go_upon | go_back)
      have hx := Hx.out
      exact bodyPost_ret (v := .tuple #[.agg #[.int .i64 (liveOf X), .int .i64 (linesOf X)], .nilIface]) (by simp [results, Tryz.results104, go_sem, r0, r1, hRl, size_set]) rfl ⟨by rw [hx], by (repeat' (first | (with_reducible exact Below.refl _ _) | (with_reducible assumption) | (with_reducible refine balloc ?_) | (with_reducible refine bdrew ?_) | (with_reducible refine bset ?_ (by (try dsimp only); omega)) | (with_reducible refine bvia ?_ (by assumption))))⟩
    | node l row r =>
      simp only [Tr.all, List.length_append] at hXl hle
      obtain ⟨hne, b, A, n, c, pl, pr, rfl, hsb, hrow, hl, hr, c0, c1, c2, c3, c4, c5, c6⟩ := ht
      have hbl' := lt_of_cell' c0
      have Hall := hid hall
      have Hhi := hid hhi
      have hnl := hrow.1
      have hnc := hrow.2.1
      have hcm := hrow.2.2.1
      unfold maxLen at hcm
      have hqb : b ≠ w.heap.size + 1 := by have := hsb.2; omega
      have Hr := hid (And.intro hR (And.intro hW (And.intro hrow hr)))
      have hl1 := liveOf_le l.all
      have hl2 := linesOf_le l.all
      have hl3 := liveOf_le row
      have hl4 := linesOf_le row
      have hX3 := liveOf_append X l.all
      have hX4 := linesOf_append X l.all
      have Hx := hid (And.intro hX3 hX4)
      clear hX3 hX4
      clear hall hhi hrow hR hW c3 c4 c5 c6 hr
      have hbwl : w.heap.size ≤ wr.heap.size := hbel.size
      by_cases hcase : rest < l.all.length
      · have i1 : (rest : Int) < l.all.length := by omega
        clear r0 r1 rf0 rf1 s0 s1 sf0 sf1
        repeat' (first | (go_at_call 96; go_must ((with_reducible refine (size_any l pl _ _ hl).mono ?_); rintro _ _ ⟨rfl, rfl⟩; dsimp only)) | go_values | go_skip | go_guarded | go_step | go_upon | go_back)
        go_roundw
        case rel => exact ⟨l, pl, X, row ++ (r.all ++ Y), rest, rfl, rfl, hl, by rw [Hall.out]; simp [Tr.all], hsum, Nat.le_of_lt hcase, Hr.out.1, Hr.out.2.1, hbel⟩
        case measure => rw [highAt_tree hl, Hhi.out]; simp only [Tr.high]; omega
      · obtain ⟨k1, rfl⟩ := Nat.exists_eq_add_of_le (Nat.le_of_not_lt hcase)
        have i1 : ¬ (((l.all.length + k1 : Nat) : Int) < l.all.length) := by omega
        have i2 : ((l.all.length + k1 : Nat) : Int) - l.all.length = (k1 : Nat) := by omega
        have i3 : (l.all.length : Int) + (k1 : Int) - l.all.length = (k1 : Int) := by omega
        have HG := hid (fun W (h : Below wr.heap.size wr W) => weighs_any l pl _ W (hl.step h))
        have HP := hid (fun W => plus_in (liveOf X) (linesOf X) (liveOf l.all) (linesOf l.all) W (by omega) (by omega) (by omega) (by omega) (by omega) (by omega))
        repeat' (first | (with_reducible refine stop_region 11 ?_) | (go_at_call 96; go_must ((with_reducible refine (size_any l pl _ _ hl).mono ?_); rintro _ _ ⟨rfl, rfl⟩; dsimp only)) | ((with_reducible refine region_at 10 ?_); refine wp_region_order [(0, true, false), (1, true, false), (2, true, false), (3, true, false), (4, true, false), (5, false, false), (6, false, false), (7, false, true)] (by kernel_rfl) (by kernel_rfl) (by kernel_rfl) rfl rfl ?_) | (go_at_call 97; go_must ((with_reducible refine Calls.mono (HG.out _ (Below.refl _ _).drew) ?_); rintro _ w3 ⟨rfl, hb3⟩; dsimp only)) | (go_at_call 120; go_must ((with_reducible refine Calls.mono (HP.out _) ?_); rintro _ w4 ⟨rfl, hb4⟩; have hW4 := (Hr.out.2.1.drew.step hb3).step hb4; have hW4l := hW4.lt; obtain ⟨s0, s1, sf0, sf1⟩ := hW4.two; dsimp only)) | (with_reducible refine Keep.last ?_) | (with_reducible refine Keep.below (by assumption) ?_) | (with_reducible refine Keep.kept (by assumption) ?_) | (with_reducible refine Keep.alloc ?_) | (with_reducible refine Keep.same ?_) | ((with_reducible refine WpH.here ?_); first | (refine WpH.nil ?_; refine NoP.normal ?_) | (refine WpH.load (by rfl) (by rfl) (by go_simp; rfl) ?_; simp only [Act.put, List.setIfInBounds_toArray, List.set_cons_zero, List.set_cons_succ]) | (refine WpH.loadT (by rfl) (by rfl) (by go_simp; rfl) (by rintro _ _ ⟨⟩; exact ⟨_, _, _, _, _, _, by rfl, by assumption, by assumption⟩) ?_; simp only [Act.put, List.setIfInBounds_toArray, List.set_cons_zero, List.set_cons_succ]) | (refine WpH.pure (by rfl) (fun w_ => by go_simp; (try go_bits); rfl) ?_; simp only [Act.put, List.setIfInBounds_toArray, List.set_cons_zero, List.set_cons_succ]) | (refine WpH.wild1 (by rfl) (fun _ _ => ?_)) | (refine WpH.skip (by rfl) ?_; simp only [Act.put, List.setIfInBounds_toArray, List.set_cons_zero, List.set_cons_succ])) | go_values | go_skip | go_guarded | go_step | go_upon | go_back)
        refine Stop.go ?_
        have eV : Below wr.heap.size wr w4 := bvia (bdrew (Below.refl _ _)) hb3 |>.trans (hb4.mono (by have := hb3.size; exact this))
        have hb4' := bvia hbel eV
        have hXX1 := Hx.out.1
        have hXX2 := Hx.out.2
        have hWV : Blk ((w4.setCell ⟨w.heap.size + 1, 0, none⟩ (.int .i64 ((liveOf X : Int) + liveOf l.all))).setCell ⟨w.heap.size + 1, 1, none⟩ (.int .i64 ((linesOf X : Int) + linesOf l.all))) (w.heap.size + 1) 40 #[.int .i64 (liveOf (X ++ l.all)), .int .i64 (linesOf (X ++ l.all))] := by
          rw [hXX1, hXX2, Int.natCast_add, Int.natCast_add]
          exact weight_set hW4
        have hRV := ((Hr.out.1.step eV).far (p := ⟨w.heap.size + 1, 0, none⟩) (by show w.heap.size ≠ w.heap.size + 1; omega) (.int .i64 ((liveOf X : Int) + liveOf l.all))).far (p := ⟨w.heap.size + 1, 1, none⟩) (by show w.heap.size ≠ w.heap.size + 1; omega) (.int .i64 ((linesOf X : Int) + linesOf l.all))
        have sm : Same (fun b => S b ∧ b < w.heap.size) w4 ((w4.setCell ⟨w.heap.size + 1, 0, none⟩ (.int .i64 ((liveOf X : Int) + liveOf l.all))).setCell ⟨w.heap.size + 1, 1, none⟩ (.int .i64 ((linesOf X : Int) + linesOf l.all))) := (Same.setCell _ (fun h => by have h' : w.heap.size + 1 < w.heap.size := h.2; omega) _).trans (by simp [World.setCell]) (Same.setCell _ (fun h => by have h' : w.heap.size + 1 < w.heap.size := h.2; omega) _)
        have hrowV := (Hr.out.2.2.1.step eV).keep sm
        have hrV := (Hr.out.2.2.2.step eV).keep sm
        have c0V := sm.cell (a := ⟨b, 0, none⟩) hsb (kc eV c0)
        have c2V := sm.cell (a := ⟨b, 2, none⟩) hsb (kc eV c2)
        have hbV : Below w.heap.size w ((w4.setCell ⟨w.heap.size + 1, 0, none⟩ (.int .i64 ((liveOf X : Int) + liveOf l.all))).setCell ⟨w.heap.size + 1, 1, none⟩ (.int .i64 ((linesOf X : Int) + linesOf l.all))) := bset (bset hb4' (Nat.le_succ _)) (Nat.le_succ _)
        clear s0 s1 sf0 sf1 hW4 hb3 hb4 eV hb4' HG HP hXX1 hXX2 c0 c1 c2 r0 r1 rf0 rf1 Hr hl i1 i2 i3 hW4l sm hbel hbwl hbl'
        generalize (w4.setCell ⟨w.heap.size + 1, 0, none⟩ (.int .i64 ((liveOf X : Int) + liveOf l.all))).setCell ⟨w.heap.size + 1, 1, none⟩ (.int .i64 ((linesOf X : Int) + linesOf l.all)) = V at *
        have hbl' := lt_of_cell' c0V
        dsimp only at hbl'
        have hVl := hWV.lt
        obtain ⟨r0, r1, rf0, rf1⟩ := hRV.two
        obtain ⟨s0, s1, sf0, sf1⟩ := hWV.two
        have hY1 := liveOf_le (X ++ l.all)
        have hY2 := linesOf_le (X ++ l.all)
        simp only [List.length_append] at hY1 hY2
        generalize hXl' : X ++ l.all = X' at *
        have hXlen : X'.length = X.length + l.all.length := by rw [← hXl', List.length_append]
        by_cases hin : k1 ≤ n
        · have i5 : (k1 : Int) ≤ n := by omega
          have hkc : k1 ≤ c := by omega
          have htk := hrowV.take_ hin
          have ht1 := liveOf_le (row.take k1)
          have ht2 := linesOf_le (row.take k1)
          rw [List.length_take] at ht1 ht2
          have HE := hid (fun W (h : Below V.heap.size V W) => weigh_any A k1 c (row.take k1) _ W (htk.step h) (by omega))
          have HQ := hid (fun W => plus_in (liveOf X') (linesOf X') (liveOf (row.take k1)) (linesOf (row.take k1)) W (by omega) (by omega) (by omega) (by omega) (by omega) (by omega))
          have hans : T.all.take i = X' ++ row.take k1 := by
            rw [Hall.out, ← hsum]
            simp only [Tr.all]
            rw [show X ++ (l.all ++ row ++ r.all) ++ Y = X' ++ (row ++ (r.all ++ Y)) from by rw [← hXl']; simp [List.append_assoc], show X.length + (l.all.length + k1) = X'.length + k1 from by omega, List.take_length_add_append, List.take_append_of_le_length (by omega)]
          have Hans := hid hans
          clear hans htk
          repeat' (first | ((with_reducible refine region_at 12 ?_); refine wp_region_order [(0, true, false), (1, true, false), (2, true, false), (3, true, false), (4, true, false), (5, true, false), (6, true, false), (7, false, false), (8, false, false), (9, false, true), (10, true, false)] (by kernel_rfl) (by kernel_rfl) (by kernel_rfl) rfl rfl ?_) | (go_at_call 121; go_must ((with_reducible refine Calls.mono (HE.out _ (Below.refl _ _).drew) ?_); rintro _ w5 ⟨rfl, hb5⟩; dsimp only)) | (go_at_call 120; go_must ((with_reducible refine Calls.mono (HQ.out _) ?_); rintro _ w6 ⟨rfl, hb6⟩; have hR6 := (hRV.drew.step hb5).step hb6; have hR6l := hR6.lt; obtain ⟨r0, r1, rf0, rf1⟩ := hR6.two; dsimp only)) | (with_reducible refine Keep.last ?_) | (with_reducible refine Keep.below (by assumption) ?_) | (with_reducible refine Keep.kept (by assumption) ?_) | (with_reducible refine Keep.alloc ?_) | (with_reducible refine Keep.same ?_) | ((with_reducible refine WpH.here ?_); first | (refine WpH.nil ?_; refine NoP.normal ?_) | (refine WpH.load (by rfl) (by rfl) (by go_simp; rfl) ?_; simp only [Act.put, List.setIfInBounds_toArray, List.set_cons_zero, List.set_cons_succ]) | (refine WpH.loadT (by rfl) (by rfl) (by go_simp; rfl) (by rintro _ _ ⟨⟩; exact ⟨_, _, _, _, _, _, by rfl, by assumption, by assumption⟩) ?_; simp only [Act.put, List.setIfInBounds_toArray, List.set_cons_zero, List.set_cons_succ]) | (refine WpH.pure (by rfl) (fun w_ => by go_simp; (try go_bits); rfl) ?_; simp only [Act.put, List.setIfInBounds_toArray, List.set_cons_zero, List.set_cons_succ]) | (refine WpH.wild1 (by rfl) (fun _ _ => ?_)) | (refine WpH.skip (by rfl) ?_; simp only [Act.put, List.setIfInBounds_toArray, List.set_cons_zero, List.set_cons_succ])) | go_values | go_skip | go_guarded | go_step | go_upon | go_back)
          skip
          have hans := Hans.out
          refine bodyPost_ret (v := .tuple #[.agg #[.int .i64 ((liveOf X' : Int) + liveOf (row.take k1)), .int .i64 ((linesOf X' : Int) + linesOf (row.take k1))], .nilIface]) (by simp [results, Tryz.results104, go_sem, r0, r1, hR6l, size_set]) rfl ⟨?_, by (repeat' (first | (with_reducible exact Below.refl _ _) | (with_reducible assumption) | (with_reducible refine balloc ?_) | (with_reducible refine bdrew ?_) | (with_reducible refine bset ?_ (by (try dsimp only); omega)) | (with_reducible refine bvia ?_ (by assumption))))⟩
          rw [hans, liveOf_append, linesOf_append, Int.natCast_add, Int.natCast_add]
        · have i5 : ¬ ((k1 : Int) ≤ n) := by omega
          have HE := hid (fun W (h : Below V.heap.size V W) => weigh_any A n c row _ W (hrowV.step h) (by omega))
          have HQ := hid (fun W => plus_in (liveOf X') (linesOf X') (liveOf row) (linesOf row) W (by omega) (by omega) (by omega) (by omega) (by omega) (by omega))
          obtain ⟨k2, rfl⟩ := Nat.exists_eq_add_of_le (show n ≤ k1 by omega)
          have i6 : (n : Int) + (k2 : Int) - n = (k2 : Int) := by omega
          repeat' (first | (with_reducible refine stop_region 15 ?_) | ((with_reducible refine region_at 14 ?_); refine wp_region_order [(0, true, false), (1, true, false), (2, true, false), (3, true, false), (4, true, false), (5, false, false), (6, false, false), (7, false, true)] (by kernel_rfl) (by kernel_rfl) (by kernel_rfl) rfl rfl ?_) | (go_at_call 121; go_must ((with_reducible refine Calls.mono (HE.out _ (Below.refl _ _).drew) ?_); rintro _ w5 ⟨rfl, hb5⟩; dsimp only)) | (go_at_call 120; go_must ((with_reducible refine Calls.mono (HQ.out _) ?_); rintro _ w6 ⟨rfl, hb6⟩; have hW6 := (hWV.drew.step hb5).step hb6; have hW6l := hW6.lt; obtain ⟨s0, s1, sf0, sf1⟩ := hW6.two; dsimp only)) | (with_reducible refine Keep.last ?_) | (with_reducible refine Keep.below (by assumption) ?_) | (with_reducible refine Keep.kept (by assumption) ?_) | (with_reducible refine Keep.alloc ?_) | (with_reducible refine Keep.same ?_) | ((with_reducible refine WpH.here ?_); first | (refine WpH.nil ?_; refine NoP.normal ?_) | (refine WpH.load (by rfl) (by rfl) (by go_simp; rfl) ?_; simp only [Act.put, List.setIfInBounds_toArray, List.set_cons_zero, List.set_cons_succ]) | (refine WpH.loadT (by rfl) (by rfl) (by go_simp; rfl) (by rintro _ _ ⟨⟩; exact ⟨_, _, _, _, _, _, by rfl, by assumption, by assumption⟩) ?_; simp only [Act.put, List.setIfInBounds_toArray, List.set_cons_zero, List.set_cons_succ]) | (refine WpH.pure (by rfl) (fun w_ => by go_simp; (try go_bits); rfl) ?_; simp only [Act.put, List.setIfInBounds_toArray, List.set_cons_zero, List.set_cons_succ]) | (refine WpH.wild1 (by rfl) (fun _ _ => ?_)) | (refine WpH.skip (by rfl) ?_; simp only [Act.put, List.setIfInBounds_toArray, List.set_cons_zero, List.set_cons_succ])) | go_values | go_skip | go_guarded | go_step | go_upon | go_back)
          refine Stop.go ?_
          have eV : Below V.heap.size V w6 := bvia (bdrew (Below.refl _ _)) hb5 |>.trans (hb6.mono (by have := hb5.size; exact this))
          have hWZ : Blk ((w6.setCell ⟨w.heap.size + 1, 0, none⟩ (.int .i64 ((liveOf X' : Int) + liveOf row))).setCell ⟨w.heap.size + 1, 1, none⟩ (.int .i64 ((linesOf X' : Int) + linesOf row))) (w.heap.size + 1) 40 #[.int .i64 (liveOf (X' ++ row)), .int .i64 (linesOf (X' ++ row))] := by
            rw [liveOf_append, linesOf_append, Int.natCast_add, Int.natCast_add]
            exact weight_set hW6
          have hRZ := ((hRV.step eV).far (p := ⟨w.heap.size + 1, 0, none⟩) (by show w.heap.size ≠ w.heap.size + 1; omega) (.int .i64 ((liveOf X' : Int) + liveOf row))).far (p := ⟨w.heap.size + 1, 1, none⟩) (by show w.heap.size ≠ w.heap.size + 1; omega) (.int .i64 ((linesOf X' : Int) + linesOf row))
          have sm : Same (fun b => S b ∧ b < w.heap.size) w6 ((w6.setCell ⟨w.heap.size + 1, 0, none⟩ (.int .i64 ((liveOf X' : Int) + liveOf row))).setCell ⟨w.heap.size + 1, 1, none⟩ (.int .i64 ((linesOf X' : Int) + linesOf row))) := (Same.setCell _ (fun h => by have h' : w.heap.size + 1 < w.heap.size := h.2; omega) _).trans (by simp [World.setCell]) (Same.setCell _ (fun h => by have h' : w.heap.size + 1 < w.heap.size := h.2; omega) _)
          have hrZ := (hrV.step eV).keep sm
          have c2Z := sm.cell (a := ⟨b, 2, none⟩) hsb (kc eV c2V)
          have hbZ : Below w.heap.size w ((w6.setCell ⟨w.heap.size + 1, 0, none⟩ (.int .i64 ((liveOf X' : Int) + liveOf row))).setCell ⟨w.heap.size + 1, 1, none⟩ (.int .i64 ((linesOf X' : Int) + linesOf row))) := bset (bset (bvia hbV eV) (Nat.le_succ _)) (Nat.le_succ _)
          clear s0 s1 sf0 sf1 r0 r1 rf0 rf1 c0V c2V
          generalize (w6.setCell ⟨w.heap.size + 1, 0, none⟩ (.int .i64 ((liveOf X' : Int) + liveOf row))).setCell ⟨w.heap.size + 1, 1, none⟩ (.int .i64 ((linesOf X' : Int) + linesOf row)) = Z at *
          repeat' (first | go_values | go_skip | go_guarded | go_step | go_upon | go_back)
          go_roundw
          case rel => exact ⟨r, pr, X' ++ row, Y, k2, rfl, rfl, hrZ, by rw [Hall.out]; simp only [Tr.all]; rw [← hXl']; simp [List.append_assoc], by rw [List.length_append]; omega, by omega, hRZ, hWZ, hbZ⟩
          case measure => rw [highAt_tree hrZ, Hhi.out]; simp only [Tr.high]; omega
theorem live_mono (l : List El) : ∀ {a b : Nat}, a ≤ b → liveOf (l.take a) ≤ liveOf (l.take b) := by
  intro a b h
  have e : l.take b = l.take a ++ (l.take b).drop a := by
    conv => lhs; rw [← List.take_append_drop a (l.take b)]
    rw [List.take_take, Nat.min_eq_left h]
  rw [e, liveOf_append]
  omega
theorem live_same {l : List El} {m k : Nat} {x y : El} (hx : l[m]? = some x) (hy : l[k]? = some y) (h1 : x.live = 1) (h2 : y.live = 1) (h : liveOf (l.take m) = liveOf (l.take k)) : m = k := by
  have s1 := liveOf_snoc hx
  have s2 := liveOf_snoc hy
  rcases Nat.lt_trichotomy m k with h3 | h3 | h3
  · have := live_mono l (show m + 1 ≤ k from h3)
    omega
  · exact h3
  · have := live_mono l (show k + 1 ≤ m from h3)
    omega
theorem lines_mono (l : List El) : ∀ {a b : Nat}, a ≤ b → linesOf (l.take a) ≤ linesOf (l.take b) := by
  intro a b h
  have e : l.take b = l.take a ++ (l.take b).drop a := by
    conv => lhs; rw [← List.take_append_drop a (l.take b)]
    rw [List.take_take, Nat.min_eq_left h]
  rw [e, linesOf_append]
  omega
theorem lines_same {l : List El} {m k : Nat} {x y : El} (hx : l[m]? = some x) (hy : l[k]? = some y) (h1 : x.lines = 1) (h2 : y.lines = 1) (h : linesOf (l.take m) = linesOf (l.take k)) : m = k := by
  have s1 := linesOf_snoc hx
  have s2 := linesOf_snoc hy
  rcases Nat.lt_trichotomy m k with h3 | h3 | h3
  · have := lines_mono l (show m + 1 ≤ k from h3)
    omega
  · exact h3
  · have := lines_mono l (show k + 1 ≤ m from h3)
    omega
end Go.Proofs.YtfihjajllfihjaaGreatDoor
