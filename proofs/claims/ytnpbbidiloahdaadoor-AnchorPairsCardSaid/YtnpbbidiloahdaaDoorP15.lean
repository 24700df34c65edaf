/- What stands ahead of an element weighs so much: the walk of Before. Conditions: the tree lies in memory, fewer than 2^30 elements. Anchors over a row: plain. No condition. No program in sight. Arguments opened: rows of numbers, of anchors; a change of chapter 13, rows of them. No condition. A strings.Builder of a call's own: how the library's bodies lie in this program; a rune written. Condition: the builder lies in memory, at most 2^47 bytes. The text of a model's live elements. Conditions: the model lies in memory, fewer than 2^29 elements. What a Purge leaves: plain; the document's Purge: the walk. Conditions: the row lies in memory, fewer than 2^30 elements. Rows of anchors and of numbers, grown; gaps behind a purge: plain. Conditions: fewer than 2^40. -/
import Derived.Test.YtnpbbidiloahdaaDoorP10
import Derived.Test.YtnpbbidiloahdaaDoorP14
import Derived.Test.YtnpbbidiloahdaaDoorP4
import Derived.Test.YtnpbbidiloahdaaDoorSErr3
import Derived.Test.YtnpbbidiloahdaaDoorP13
import Derived.Shelf.Strings.BuilderRune
import Derived.Shelf.Strings.BuilderK
import Derived.Laws.Externs
namespace Go.Proofs.YtnpbbidiloahdaaDoor
set_option linter.unusedSimpArgs false
set_option linter.unusedVariables false
open Go Go.RowKit
theorem weight_set {w : World} {g : Nat} {t : TypeId} {x y x' y' : Value} (h : Blk w g t #[x, y]) : Blk ((w.setCell ⟨g, 0, none⟩ x').setCell ⟨g, 1, none⟩ y') g t #[x', y'] := by simpa using h.set2
set_option maxRecDepth 200000 in
set_option maxHeartbeats 4000000 in
theorem before_ok (T : Tr) (p : Option Addr) (bt chunk i : Nat) (S : Nat → Prop) (w : World) (hblk : Blk w bt 127 #[.int .i64 chunk, .pointer p]) (hT : IsTree w S T p) (hbd : T.all.length ≤ 1073741824) (hi : i ≤ T.all.length) :
    Calls Tryd.prog 56 #[.pointer (some ⟨bt, 0, none⟩), .int .i64 i] w fun e w' => e = .returned (.tuple #[.agg #[.int .i64 (liveOf (T.all.take i)), .int .i64 (linesOf (T.all.take i))], .nilIface]) ∧ Below w.heap.size w w' := by
  obtain ⟨hR, hW, hb0⟩ := boxes2 w 55 55 #[.int .i64 0, .int .i64 0] #[.int .i64 0, .int .i64 0]
  have b1 : Below w.heap.size w (w.alloc (.cells #[.int .i64 0, .int .i64 0] 55)) := balloc (Below.refl _ _)
  have HL := hid (tlen_any T p bt chunk _ (hblk.step b1) (hT.step b1))
  have hk2 := hblk.step hb0
  have hT2 := (hT.more (S' := fun b => S b ∧ b < w.heap.size) fun b h1 h2 => ⟨h2, h1⟩).step hb0
  have c1 := hk2.cell 1
  simp at c1
  have hbl := hblk.lt
  have n1 : ¬ (i : Int) > T.all.length := by omega
  clear hT hblk b1
  go_enter Tryd.func56, Tryd.ntmps56
  repeat' (first | (go_at_call 52; go_must ((with_reducible refine Calls.mono HL.out ?_); rintro _ _ ⟨rfl, rfl⟩; dsimp only)) | go_values | go_skip | go_guarded | go_step | go_upon | go_back)
  clear hk2 c1 HL n1
  generalize (w.alloc (.cells #[.int .i64 0, .int .i64 0] 55)).alloc (.cells #[.int .i64 0, .int .i64 0] 55) = W0 at *
  go_loopw [1, 7] (fun r n wr => ∃ (t : Tr) (q : Option Addr) (X Y : List El) (rest : Nat), r = .int .i64 rest ∧ n = .pointer q ∧ IsTree wr (fun b => S b ∧ b < w.heap.size) t q ∧ T.all = X ++ t.all ++ Y ∧ X.length + rest = i ∧ rest ≤ t.all.length ∧ Blk wr w.heap.size 55 #[.int .i64 0, .int .i64 0] ∧ Blk wr (w.heap.size + 1) 55 #[.int .i64 (liveOf X), .int .i64 (linesOf X)] ∧ Below w.heap.size w wr) (fun _ n wr => highAt n wr)
  case atStart => exact ⟨T, p, [], [], i, rfl, rfl, hT2, by simp, by simp, hi, hR, hW, hb0⟩
  case round =>
    clear hT2 hR hW hb0
    obtain ⟨t, q, X, Y, rest, rfl, rfl, ht, hall, hsum, hle, hR, hW, hbel⟩ := hrel
    have hhi := highAt_tree ht
    have hXl := congrArg List.length hall
    simp only [List.length_append] at hXl
    have hX1 := liveOf_le X
    have hX2 := linesOf_le X
    obtain ⟨r0, r1, rf0, rf1⟩ := hR.two
    obtain ⟨s0, s1, sf0, sf1⟩ := hW.two
    have hRl := hR.lt
    have hWl := hW.lt
    cases t with
    | nil =>
      obtain rfl := ht
      have h0 : rest = 0 := by simp [Tr.all] at hle; exact hle
      subst h0
      have hx : T.all.take i = X := by
        rw [hall, ← hsum]
        simp [Tr.all]
      have Hx := hid hx
      clear hx hall
      repeat' (first | go_values | go_skip | go_guarded | go_step | go_upon | go_back)
      have hx := Hx.out
      exact bodyPost_ret (v := .tuple #[.agg #[.int .i64 (liveOf X), .int .i64 (linesOf X)], .nilIface]) (by simp [results, Tryd.results56, go_sem, r0, r1, hRl, size_set]) rfl ⟨by rw [hx], by (repeat' (first | (with_reducible exact Below.refl _ _) | (with_reducible assumption) | (with_reducible refine balloc ?_) | (with_reducible refine bdrew ?_) | (with_reducible refine bset ?_ (by (try dsimp only); omega)) | (with_reducible refine bvia ?_ (by assumption))))⟩
    | node l row r =>
      simp only [Tr.all, List.length_append] at hXl hle
      obtain ⟨hne, b, A, n, c, pl, pr, rfl, hsb, hrow, hl, hr, c0, c1, c2, c3, c4, c5, c6⟩ := ht
      have hbl' := lt_of_cell' c0
      have Hall := hid hall
      have Hhi := hid hhi
      have hnl := hrow.1
      have hnc := hrow.2.1
      have hcm := hrow.2.2.1
      unfold maxLen at hcm
      have hqb : b ≠ w.heap.size + 1 := by have := hsb.2; omega
      have Hr := hid (And.intro hR (And.intro hW (And.intro hrow hr)))
      have hl1 := liveOf_le l.all
      have hl2 := linesOf_le l.all
      have hl3 := liveOf_le row
      have hl4 := linesOf_le row
      have hX3 := liveOf_append X l.all
      have hX4 := linesOf_append X l.all
      have Hx := hid (And.intro hX3 hX4)
      clear hX3 hX4
      clear hall hhi hrow hR hW c3 c4 c5 c6 hr
      have hbwl : w.heap.size ≤ wr.heap.size := hbel.size
      by_cases hcase : rest < l.all.length
      · have i1 : (rest : Int) < l.all.length := by omega
        clear r0 r1 rf0 rf1 s0 s1 sf0 sf1
        repeat' (first | (go_at_call 69; go_must ((with_reducible refine (size_any l pl _ _ hl).mono ?_); rintro _ _ ⟨rfl, rfl⟩; dsimp only)) | go_values | go_skip | go_guarded | go_step | go_upon | go_back)
        go_roundw
        case rel => exact ⟨l, pl, X, row ++ (r.all ++ Y), rest, rfl, rfl, hl, by rw [Hall.out]; simp [Tr.all], hsum, Nat.le_of_lt hcase, Hr.out.1, Hr.out.2.1, hbel⟩
        case measure => rw [highAt_tree hl, Hhi.out]; simp only [Tr.high]; omega
      · obtain ⟨k1, rfl⟩ := Nat.exists_eq_add_of_le (Nat.le_of_not_lt hcase)
        have i1 : ¬ (((l.all.length + k1 : Nat) : Int) < l.all.length) := by omega
        have i2 : ((l.all.length + k1 : Nat) : Int) - l.all.length = (k1 : Nat) := by omega
        have i3 : (l.all.length : Int) + (k1 : Int) - l.all.length = (k1 : Int) := by omega
        have HG := hid (fun W (h : Below wr.heap.size wr W) => weighs_any l pl _ W (hl.step h))
        have HP := hid (fun W => plus_in (liveOf X) (linesOf X) (liveOf l.all) (linesOf l.all) W (by omega) (by omega) (by omega) (by omega) (by omega) (by omega))
        repeat' (first | (with_reducible refine stop_region 11 ?_) | (go_at_call 69; go_must ((with_reducible refine (size_any l pl _ _ hl).mono ?_); rintro _ _ ⟨rfl, rfl⟩; dsimp only)) | ((with_reducible refine region_at 10 ?_); refine wp_region_order [(0, true, false), (1, true, false), (2, true, false), (3, true, false), (4, true, false), (5, false, false), (6, false, false), (7, false, true)] (by kernel_rfl) (by kernel_rfl) (by kernel_rfl) rfl rfl ?_) | (go_at_call 79; go_must ((with_reducible refine Calls.mono (HG.out _ (Below.refl _ _).drew) ?_); rintro _ w3 ⟨rfl, hb3⟩; dsimp only)) | (go_at_call 78; go_must ((with_reducible refine Calls.mono (HP.out _) ?_); rintro _ w4 ⟨rfl, hb4⟩; have hW4 := (Hr.out.2.1.drew.step hb3).step hb4; have hW4l := hW4.lt; obtain ⟨s0, s1, sf0, sf1⟩ := hW4.two; dsimp only)) | (with_reducible refine Keep.last ?_) | (with_reducible refine Keep.below (by assumption) ?_) | (with_reducible refine Keep.kept (by assumption) ?_) | (with_reducible refine Keep.alloc ?_) | (with_reducible refine Keep.same ?_) | ((with_reducible refine WpH.here ?_); first | (refine WpH.nil ?_; refine NoP.normal ?_) | (refine WpH.load (by rfl) (by rfl) (by go_simp; rfl) ?_; simp only [Act.put, List.setIfInBounds_toArray, List.set_cons_zero, List.set_cons_succ]) | (refine WpH.loadT (by rfl) (by rfl) (by go_simp; rfl) (by rintro _ _ ⟨⟩; exact ⟨_, _, _, _, _, _, by rfl, by assumption, by assumption⟩) ?_; simp only [Act.put, List.setIfInBounds_toArray, List.set_cons_zero, List.set_cons_succ]) | (refine WpH.pure (by rfl) (fun w_ => by go_simp; (try go_bits); rfl) ?_; simp only [Act.put, List.setIfInBounds_toArray, List.set_cons_zero, List.set_cons_succ]) | (refine WpH.wild1 (by rfl) (fun _ _ => ?_)) | (refine WpH.skip (by rfl) ?_; simp only [Act.put, List.setIfInBounds_toArray, List.set_cons_zero, List.set_cons_succ])) | go_values | go_skip | go_guarded | go_step | go_upon | go_back)
        refine Stop.go ?_
        have eV : Below wr.heap.size wr w4 := bvia (bdrew (Below.refl _ _)) hb3 |>.trans (hb4.mono (by have := hb3.size; exact this))
        have hb4' := bvia hbel eV
        have hXX1 := Hx.out.1
        have hXX2 := Hx.out.2
        have hWV : Blk ((w4.setCell ⟨w.heap.size + 1, 0, none⟩ (.int .i64 ((liveOf X : Int) + liveOf l.all))).setCell ⟨w.heap.size + 1, 1, none⟩ (.int .i64 ((linesOf X : Int) + linesOf l.all))) (w.heap.size + 1) 55 #[.int .i64 (liveOf (X ++ l.all)), .int .i64 (linesOf (X ++ l.all))] := by
          rw [hXX1, hXX2, Int.natCast_add, Int.natCast_add]
          exact weight_set hW4
        have hRV := ((Hr.out.1.step eV).far (p := ⟨w.heap.size + 1, 0, none⟩) (by show w.heap.size ≠ w.heap.size + 1; omega) (.int .i64 ((liveOf X : Int) + liveOf l.all))).far (p := ⟨w.heap.size + 1, 1, none⟩) (by show w.heap.size ≠ w.heap.size + 1; omega) (.int .i64 ((linesOf X : Int) + linesOf l.all))
        have sm : Same (fun b => S b ∧ b < w.heap.size) w4 ((w4.setCell ⟨w.heap.size + 1, 0, none⟩ (.int .i64 ((liveOf X : Int) + liveOf l.all))).setCell ⟨w.heap.size + 1, 1, none⟩ (.int .i64 ((linesOf X : Int) + linesOf l.all))) := (Same.setCell _ (fun h => by have h' : w.heap.size + 1 < w.heap.size := h.2; omega) _).trans (by simp [World.setCell]) (Same.setCell _ (fun h => by have h' : w.heap.size + 1 < w.heap.size := h.2; omega) _)
        have hrowV := (Hr.out.2.2.1.step eV).keep sm
        have hrV := (Hr.out.2.2.2.step eV).keep sm
        have c0V := sm.cell (a := ⟨b, 0, none⟩) hsb (kc eV c0)
        have c2V := sm.cell (a := ⟨b, 2, none⟩) hsb (kc eV c2)
        have hbV : Below w.heap.size w ((w4.setCell ⟨w.heap.size + 1, 0, none⟩ (.int .i64 ((liveOf X : Int) + liveOf l.all))).setCell ⟨w.heap.size + 1, 1, none⟩ (.int .i64 ((linesOf X : Int) + linesOf l.all))) := bset (bset hb4' (Nat.le_succ _)) (Nat.le_succ _)
        clear s0 s1 sf0 sf1 hW4 hb3 hb4 eV hb4' HG HP hXX1 hXX2 c0 c1 c2 r0 r1 rf0 rf1 Hr hl i1 i2 i3 hW4l sm hbel hbwl hbl'
        generalize (w4.setCell ⟨w.heap.size + 1, 0, none⟩ (.int .i64 ((liveOf X : Int) + liveOf l.all))).setCell ⟨w.heap.size + 1, 1, none⟩ (.int .i64 ((linesOf X : Int) + linesOf l.all)) = V at *
        have hbl' := lt_of_cell' c0V
        dsimp only at hbl'
        have hVl := hWV.lt
        obtain ⟨r0, r1, rf0, rf1⟩ := hRV.two
        obtain ⟨s0, s1, sf0, sf1⟩ := hWV.two
        have hY1 := liveOf_le (X ++ l.all)
        have hY2 := linesOf_le (X ++ l.all)
        simp only [List.length_append] at hY1 hY2
        generalize hXl' : X ++ l.all = X' at *
        have hXlen : X'.length = X.length + l.all.length := by rw [← hXl', List.length_append]
        by_cases hin : k1 ≤ n
        · have i5 : (k1 : Int) ≤ n := by omega
          have hkc : k1 ≤ c := by omega
          have htk := hrowV.take_ hin
          have ht1 := liveOf_le (row.take k1)
          have ht2 := linesOf_le (row.take k1)
          rw [List.length_take] at ht1 ht2
          have HE := hid (fun W (h : Below V.heap.size V W) => weigh_any A k1 c (row.take k1) _ W (htk.step h) (by omega))
          have HQ := hid (fun W => plus_in (liveOf X') (linesOf X') (liveOf (row.take k1)) (linesOf (row.take k1)) W (by omega) (by omega) (by omega) (by omega) (by omega) (by omega))
          have hans : T.all.take i = X' ++ row.take k1 := by
            rw [Hall.out, ← hsum]
            simp only [Tr.all]
            rw [show X ++ (l.all ++ row ++ r.all) ++ Y = X' ++ (row ++ (r.all ++ Y)) from by rw [← hXl']; simp [List.append_assoc], show X.length + (l.all.length + k1) = X'.length + k1 from by omega, List.take_length_add_append, List.take_append_of_le_length (by omega)]
          have Hans := hid hans
          clear hans htk
          repeat' (first | ((with_reducible refine region_at 12 ?_); refine wp_region_order [(0, true, false), (1, true, false), (2, true, false), (3, true, false), (4, true, false), (5, true, false), (6, true, false), (7, false, false), (8, false, false), (9, false, true), (10, true, false)] (by kernel_rfl) (by kernel_rfl) (by kernel_rfl) rfl rfl ?_) | (go_at_call 80; go_must ((with_reducible refine Calls.mono (HE.out _ (Below.refl _ _).drew) ?_); rintro _ w5 ⟨rfl, hb5⟩; dsimp only)) | (go_at_call 78; go_must ((with_reducible refine Calls.mono (HQ.out _) ?_); rintro _ w6 ⟨rfl, hb6⟩; have hR6 := (hRV.drew.step hb5).step hb6; have hR6l := hR6.lt; obtain ⟨r0, r1, rf0, rf1⟩ := hR6.two; dsimp only)) | (with_reducible refine Keep.last ?_) | (with_reducible refine Keep.below (by assumption) ?_) | (with_reducible refine Keep.kept (by assumption) ?_) | (with_reducible refine Keep.alloc ?_) | (with_reducible refine Keep.same ?_) | ((with_reducible refine WpH.here ?_); first | (refine WpH.nil ?_; refine NoP.normal ?_) | (refine WpH.load (by rfl) (by rfl) (by go_simp; rfl) ?_; simp only [Act.put, List.setIfInBounds_toArray, List.set_cons_zero, List.set_cons_succ]) | (refine WpH.loadT (by rfl) (by rfl) (by go_simp; rfl) (by rintro _ _ ⟨⟩; exact ⟨_, _, _, _, _, _, by rfl, by assumption, by assumption⟩) ?_; simp only [Act.put, List.setIfInBounds_toArray, List.set_cons_zero, List.set_cons_succ]) | (refine WpH.pure (by rfl) (fun w_ => by go_simp; (try go_bits); rfl) ?_; simp only [Act.put, List.setIfInBounds_toArray, List.set_cons_zero, List.set_cons_succ]) | (refine WpH.wild1 (by rfl) (fun _ _ => ?_)) | (refine WpH.skip (by rfl) ?_; simp only [Act.put, List.setIfInBounds_toArray, List.set_cons_zero, List.set_cons_succ])) | go_values | go_skip | go_guarded | go_step | go_upon | go_back)
          skip
          have hans := Hans.out
          refine bodyPost_ret (v := .tuple #[.agg #[.int .i64 ((liveOf X' : Int) + liveOf (row.take k1)), .int .i64 ((linesOf X' : Int) + linesOf (row.take k1))], .nilIface]) (by simp [results, Tryd.results56, go_sem, r0, r1, hR6l, size_set]) rfl ⟨?_, by (repeat' (first | (with_reducible exact Below.refl _ _) | (with_reducible assumption) | (with_reducible refine balloc ?_) | (with_reducible refine bdrew ?_) | (with_reducible refine bset ?_ (by (try dsimp only); omega)) | (with_reducible refine bvia ?_ (by assumption))))⟩
          rw [hans, liveOf_append, linesOf_append, Int.natCast_add, Int.natCast_add]
        · have i5 : ¬ ((k1 : Int) ≤ n) := by omega
          have HE := hid (fun W (h : Below V.heap.size V W) => weigh_any A n c row _ W (hrowV.step h) (by omega))
          have HQ := hid (fun W => plus_in (liveOf X') (linesOf X') (liveOf row) (linesOf row) W (by omega) (by omega) (by omega) (by omega) (by omega) (by omega))
          obtain ⟨k2, rfl⟩ := Nat.exists_eq_add_of_le (show n ≤ k1 by omega)
          have i6 : (n : Int) + (k2 : Int) - n = (k2 : Int) := by omega
          repeat' (first | (with_reducible refine stop_region 15 ?_) | ((with_reducible refine region_at 14 ?_); refine wp_region_order [(0, true, false), (1, true, false), (2, true, false), (3, true, false), (4, true, false), (5, false, false), (6, false, false), (7, false, true)] (by kernel_rfl) (by kernel_rfl) (by kernel_rfl) rfl rfl ?_) | (go_at_call 80; go_must ((with_reducible refine Calls.mono (HE.out _ (Below.refl _ _).drew) ?_); rintro _ w5 ⟨rfl, hb5⟩; dsimp only)) | (go_at_call 78; go_must ((with_reducible refine Calls.mono (HQ.out _) ?_); rintro _ w6 ⟨rfl, hb6⟩; have hW6 := (hWV.drew.step hb5).step hb6; have hW6l := hW6.lt; obtain ⟨s0, s1, sf0, sf1⟩ := hW6.two; dsimp only)) | (with_reducible refine Keep.last ?_) | (with_reducible refine Keep.below (by assumption) ?_) | (with_reducible refine Keep.kept (by assumption) ?_) | (with_reducible refine Keep.alloc ?_) | (with_reducible refine Keep.same ?_) | ((with_reducible refine WpH.here ?_); first | (refine WpH.nil ?_; refine NoP.normal ?_) | (refine WpH.load (by rfl) (by rfl) (by go_simp; rfl) ?_; simp only [Act.put, List.setIfInBounds_toArray, List.set_cons_zero, List.set_cons_succ]) | (refine WpH.loadT (by rfl) (by rfl) (by go_simp; rfl) (by rintro _ _ ⟨⟩; exact ⟨_, _, _, _, _, _, by rfl, by assumption, by assumption⟩) ?_; simp only [Act.put, List.setIfInBounds_toArray, List.set_cons_zero, List.set_cons_succ]) | (refine WpH.pure (by rfl) (fun w_ => by go_simp; (try go_bits); rfl) ?_; simp only [Act.put, List.setIfInBounds_toArray, List.set_cons_zero, List.set_cons_succ]) | (refine WpH.wild1 (by rfl) (fun _ _ => ?_)) | (refine WpH.skip (by rfl) ?_; simp only [Act.put, List.setIfInBounds_toArray, List.set_cons_zero, List.set_cons_succ])) | go_values | go_skip | go_guarded | go_step | go_upon | go_back)
          refine Stop.go ?_
          have eV : Below V.heap.size V w6 := bvia (bdrew (Below.refl _ _)) hb5 |>.trans (hb6.mono (by have := hb5.size; exact this))
          have hWZ : Blk ((w6.setCell ⟨w.heap.size + 1, 0, none⟩ (.int .i64 ((liveOf X' : Int) + liveOf row))).setCell ⟨w.heap.size + 1, 1, none⟩ (.int .i64 ((linesOf X' : Int) + linesOf row))) (w.heap.size + 1) 55 #[.int .i64 (liveOf (X' ++ row)), .int .i64 (linesOf (X' ++ row))] := by
            rw [liveOf_append, linesOf_append, Int.natCast_add, Int.natCast_add]
            exact weight_set hW6
          have hRZ := ((hRV.step eV).far (p := ⟨w.heap.size + 1, 0, none⟩) (by show w.heap.size ≠ w.heap.size + 1; omega) (.int .i64 ((liveOf X' : Int) + liveOf row))).far (p := ⟨w.heap.size + 1, 1, none⟩) (by show w.heap.size ≠ w.heap.size + 1; omega) (.int .i64 ((linesOf X' : Int) + linesOf row))
          have sm : Same (fun b => S b ∧ b < w.heap.size) w6 ((w6.setCell ⟨w.heap.size + 1, 0, none⟩ (.int .i64 ((liveOf X' : Int) + liveOf row))).setCell ⟨w.heap.size + 1, 1, none⟩ (.int .i64 ((linesOf X' : Int) + linesOf row))) := (Same.setCell _ (fun h => by have h' : w.heap.size + 1 < w.heap.size := h.2; omega) _).trans (by simp [World.setCell]) (Same.setCell _ (fun h => by have h' : w.heap.size + 1 < w.heap.size := h.2; omega) _)
          have hrZ := (hrV.step eV).keep sm
          have c2Z := sm.cell (a := ⟨b, 2, none⟩) hsb (kc eV c2V)
          have hbZ : Below w.heap.size w ((w6.setCell ⟨w.heap.size + 1, 0, none⟩ (.int .i64 ((liveOf X' : Int) + liveOf row))).setCell ⟨w.heap.size + 1, 1, none⟩ (.int .i64 ((linesOf X' : Int) + linesOf row))) := bset (bset (bvia hbV eV) (Nat.le_succ _)) (Nat.le_succ _)
          clear s0 s1 sf0 sf1 r0 r1 rf0 rf1 c0V c2V
          generalize (w6.setCell ⟨w.heap.size + 1, 0, none⟩ (.int .i64 ((liveOf X' : Int) + liveOf row))).setCell ⟨w.heap.size + 1, 1, none⟩ (.int .i64 ((linesOf X' : Int) + linesOf row)) = Z at *
          repeat' (first | go_values | go_skip | go_guarded | go_step | go_upon | go_back)
          go_roundw
          case rel => exact ⟨r, pr, X' ++ row, Y, k2, rfl, rfl, hrZ, by rw [Hall.out]; simp only [Tr.all]; rw [← hXl']; simp [List.append_assoc], by rw [List.length_append]; omega, by omega, hRZ, hWZ, hbZ⟩
          case measure => rw [highAt_tree hrZ, Hhi.out]; simp only [Tr.high]; omega
theorem live_mono (l : List El) : ∀ {a b : Nat}, a ≤ b → liveOf (l.take a) ≤ liveOf (l.take b) := by
  intro a b h
  have e : l.take b = l.take a ++ (l.take b).drop a := by
    conv => lhs; rw [← List.take_append_drop a (l.take b)]
    rw [List.take_take, Nat.min_eq_left h]
  rw [e, liveOf_append]
  omega
end Go.Proofs.YtnpbbidiloahdaaDoor
namespace Go.Proofs.YtnpbbidiloahdaaDoor
set_option linter.unusedSimpArgs false
set_option linter.unusedVariables false
open Go Go.RowKit
/-- an anchor: the front, or an element's name -/
structure Anc where
  front : Bool
  id : Nm
def Anc.cells (x : Anc) : List Value := [.bool x.front, .int .i64 x.id.epoch, .int .i64 x.id.rep, .int .i64 x.id.num]
/-- where a name stands first -/
def ixOf (l : List El) (id : Nm) : Option Nat := l.findIdx? fun e => decide (e.nm = id)
theorem ixOf_some {l : List El} {id : Nm} {k : Nat} {x : El} (hx : l[k]? = some x) (hn : x.nm = id) (hf : id ∉ (l.take k).map El.nm) : ixOf l id = some k := by
  unfold ixOf
  rw [List.findIdx?_eq_some_iff_getElem]
  obtain ⟨hk, rfl⟩ := List.getElem?_eq_some_iff.1 hx
  refine ⟨hk, by simpa using hn, fun j hj => ?_⟩
  simp only [decide_eq_true_eq]
  intro h
  exact hf (List.mem_map.2 ⟨l[j], List.mem_of_getElem? (show (l.take k)[j]? = some l[j] by rw [List.getElem?_take, if_pos hj]; exact List.getElem?_eq_getElem _), h⟩)
theorem ixOf_none {l : List El} {id : Nm} (h : id ∉ l.map El.nm) : ixOf l id = none := by
  unfold ixOf
  rw [List.findIdx?_eq_none_iff]
  intro x hx
  simp only [decide_eq_false_iff_not]
  intro e
  exact h (List.mem_map.2 ⟨x, hx, e⟩)
theorem ixOf_get {l : List El} {id : Nm} {k : Nat} (h : ixOf l id = some k) : ∃ x, l[k]? = some x ∧ x.nm = id ∧ id ∉ (l.take k).map El.nm := by
  unfold ixOf at h
  rw [List.findIdx?_eq_some_iff_getElem] at h
  obtain ⟨hk, h1, h2⟩ := h
  refine ⟨l[k], List.getElem?_eq_getElem hk, by simpa using h1, fun hm => ?_⟩
  obtain ⟨x, hx, hn⟩ := List.mem_map.1 hm
  obtain ⟨j, hj, rfl⟩ := List.getElem_of_mem hx
  rw [List.length_take] at hj
  have := h2 j (by omega)
  rw [List.getElem_take] at hn
  simp [hn] at this
theorem ixOf_mem {l : List El} {id : Nm} (h : id ∈ l.map El.nm) : ∃ k, ixOf l id = some k := by
  cases hk : ixOf l id with
  | some k => exact ⟨k, rfl⟩
  | none =>
    unfold ixOf at hk
    rw [List.findIdx?_eq_none_iff] at hk
    obtain ⟨x, hx, hn⟩ := List.mem_map.1 h
    have := hk x hx
    simp [hn] at this
/-- the gap of an anchor -/
def whereOf (l : List El) (x : Anc) : Nat × Bool := if x.front = true then (0, true) else match ixOf l x.id with
  | some k => (liveOf (l.take (k + 1)), true)
  | none => (0, false)
theorem whereOf_front {l : List El} {x : Anc} (h : x.front = true) : whereOf l x = (0, true) := if_pos h
theorem whereOf_some {l : List El} {x : Anc} {k : Nat} (h : x.front = false) (hk : ixOf l x.id = some k) : whereOf l x = (liveOf (l.take (k + 1)), true) := by
  unfold whereOf
  rw [if_neg (by simp [h]), hk]
theorem whereOf_none {l : List El} {x : Anc} (h : x.front = false) (hk : ixOf l x.id = none) : whereOf l x = (0, false) := by
  unfold whereOf
  rw [if_neg (by simp [h]), hk]
/-- the element in which the q-th live one stands -/
def liveAt (l : List El) (q : Nat) : Option El := (l.filter fun e => decide (e.live = 1))[q]?
theorem live_filter (l : List El) : (l.filter fun e => decide (e.live = 1)).length = liveOf l := by
  induction l with
  | nil => rfl
  | cons e l ih =>
    rw [liveOf_cons, ← ih]
    have := e.live_le
    by_cases h : e.live = 1
    · rw [List.filter_cons_of_pos (by simpa using h), List.length_cons, h]; omega
    · rw [List.filter_cons_of_neg (by simpa using h)]; omega
theorem liveAt_of {l : List El} {m : Nat} {e : El} (he : l[m]? = some e) (h1 : e.live = 1) : liveAt l (liveOf (l.take m)) = some e := by
  have key : ∀ (a b : List El) (x : El), x.live = 1 → ((a ++ x :: b).filter fun e => decide (e.live = 1))[liveOf a]? = some x := by
    intro a b x hx
    rw [List.filter_append, List.getElem?_append_right (by rw [live_filter]; exact Nat.le_refl _), live_filter, Nat.sub_self, List.filter_cons_of_pos (by simpa using hx)]
    rfl
  obtain ⟨hm, rfl⟩ := List.getElem?_eq_some_iff.1 he
  have hl : l.take m ++ l[m] :: l.drop (m + 1) = l := by rw [← List.drop_eq_getElem_cons hm, List.take_append_drop]
  have := key (l.take m) (l.drop (m + 1)) l[m] h1
  rw [hl] at this
  exact this
/-- the anchor of a gap -/
def gapOf (l : List El) (p : Nat) : Anc := if p = 0 then ⟨true, ⟨0, 0, 0⟩⟩ else match liveAt l (p - 1) with
  | some e => ⟨false, e.nm⟩
  | none => ⟨false, ⟨0, 0, 0⟩⟩
theorem gapOf_live {l : List El} {m q : Nat} {e : El} (he : l[m]? = some e) (h1 : e.live = 1) (hq : liveOf (l.take m) = q) : gapOf l (q + 1) = ⟨false, e.nm⟩ := by
  unfold gapOf
  rw [if_neg (by omega), Nat.add_sub_cancel, ← hq, liveAt_of he h1]
end Go.Proofs.YtnpbbidiloahdaaDoor
namespace Go.Proofs.YtnpbbidiloahdaaDoor
set_option linter.unusedSimpArgs false
set_option linter.unusedVariables false
open Go Go.RowKit Go.ChangeShapes Go.WideShapes Go.ChangeAt Go.Deep
instance : Enc Anc where
  k := 4
  cells := Anc.cells
  len _ := rfl
  one := by
    intro a u hu
    simp only [Anc.cells, List.mem_cons, List.not_mem_nil, or_false] at hu
    rcases hu with rfl | rfl | rfl | rfl <;> rfl
instance : Inhabited Anc := ⟨⟨false, ⟨0, 0, 0⟩⟩⟩
set_option maxRecDepth 20000 in
theorem anc_of_trod {H : Type} {enc : TypeId × Value → H} {w : World} {base : Nat} {spare : Nat → Bool} {held : Bool} {fuel : Nat} {cs : List Value} {x : DataW H × List MemPlace} (hl : cs.length = 4) (h : DataW.trod enc Tryd.prog w base spare held fuel 32 cs = some x) : ∃ o : Anc, cs = o.cells ∧ o.id.In := by
  obtain ⟨xs, n, _, _, _, hxl, hf⟩ := DataW.trod_struct Tryd.underlying32 h
  match cs, hl with
  | [v0, v1, v2, v3], _ =>
    have c34 : Tryd.prog.cellsOf 30 = 3 := by kernel_rfl
    have c3 : Tryd.prog.cellsOf 3 = 1 := by kernel_rfl
    have c4 : Tryd.prog.cellsOf 4 = 1 := by kernel_rfl
    match xs, hxl with
    | [y0, y1], _ =>
      have g0 := hf 0 _ rfl
      have g1 := hf 1 _ rfl
      simp [c34, c3, c4] at g0 g1
      obtain ⟨zs, m, _, _, _, hzl, hz⟩ := DataW.trod_struct Tryd.underlying30 g1
      match zs, hzl with
      | [z0, z1, z2], _ =>
        have k0 := hz 0 _ rfl
        have k1 := hz 1 _ rfl
        have k2 := hz 2 _ rfl
        simp [c3] at k0 k1 k2
        obtain ⟨n0, e0, q0⟩ := one_of_trod Tryd.underlying3 k0 rfl
        obtain ⟨n1, e1, q1⟩ := one_of_trod Tryd.underlying3 k1 rfl
        obtain ⟨n2, e2, q2⟩ := one_of_trod Tryd.underlying3 k2 rfl
        obtain ⟨b, e3, q3⟩ := DataW.trod_bool Tryd.underlying4 g0
        injection e0 with e0
        injection e1 with e1
        injection e2 with e2
        injection e3 with e3
        subst e0 e1 e2 e3
        exact ⟨⟨b, ⟨n0, n1, n2⟩⟩, rfl, wf_i64 q0, wf_i64 q1, wf_i64 q2⟩
set_option maxRecDepth 20000 in
theorem ancs_of_trod {H : Type} {enc : TypeId × Value → H} {W : World} {v : Value} {d : DataW H} {p : List MemPlace} {r : Reach} {b0 : Nat} (hv : Value.okWide Tryd.prog W r b0 23 v) (h : DataW.Trod enc Tryd.prog W 0 (fun _ => true) true 23 v d p) :
    ∃ A n c, ∃ es : List Anc, v = .slice A n c ∧ GRow W (fun b => b < W.heap.size) A n c es ∧ ∀ e ∈ es, e.id.In :=
  grow_of_trod (α := Anc) (t := 32) Tryd.underlying23 (by kernel_rfl) (by decide) (fun e => e.id.In) (fun fuel cs x hl h => anc_of_trod hl h) hv h
end Go.Proofs.YtnpbbidiloahdaaDoor
namespace Go.Proofs.YtnpbbidiloahdaaDoor
set_option linter.unusedSimpArgs false
set_option linter.unusedVariables false
open Go Go.RowKit Go.Shelf
end Go.Proofs.YtnpbbidiloahdaaDoor
namespace Go.Proofs.YtnpbbidiloahdaaDoor
set_option linter.unusedSimpArgs false
set_option linter.unusedVariables false
open Go Go.RowKit
section
variable {B b : Nat} {p : Value} {bs : List Value} {w w' : World}
end
theorem below_turn {w A B : World} {base c : Nat} {t : TypeId} (g : Below base w A) (hT : Turn t c A B) (hc : base ≤ c) (hz : base ≤ w.heap.size) : Below base w B :=
  ⟨hT.os.trans g.os, hT.tape.trans g.tape, hT.output.trans g.output, Nat.le_trans g.size hT.size, fun k hk => (hT.low k (by have := g.size; omega) (by omega)).trans (g.block k hk)⟩
theorem below_begun {w A B : World} {base l : Nat} (h : Below base w A) (hB : Begun l A B) (hl : base ≤ l) : Below base w B :=
  ⟨hB.os.trans h.os, hB.tape.trans h.tape, hB.output.trans h.output, by rw [hB.size]; exact h.size, fun k hk => (hB.block k (by omega)).trans (h.block k hk)⟩
end Go.Proofs.YtnpbbidiloahdaaDoor
namespace Go.Proofs.YtnpbbidiloahdaaDoor
set_option linter.unusedSimpArgs false
set_option linter.unusedVariables false
open Go Go.RowKit
/-- the live ones, as they stood -/
def purgeOf (l : List El) : List El := l.filter fun e => decide (e.hides ≤ 0)
/-- the others -/
def deadOf (l : List El) : List El := l.filter fun e => decide (0 < e.hides)
end Go.Proofs.YtnpbbidiloahdaaDoor
namespace Go.Proofs.YtnpbbidiloahdaaDoor
set_option linter.unusedSimpArgs false
set_option linter.unusedVariables false
open Go Go.RowKit
theorem Tryd.infoAnc : (Tryd.prog.info? 32).map (fun i => (i.zero, i.size, i.bytes)) = some (some (.agg #[.bool false, .int .i64 0, .int .i64 0, .int .i64 0]), 4, 32) := by kernel_rfl
theorem wp_append_ancs {ac : Act} {K : Act → World → Prop} {Q : Exit → Act → World → Prop} {w : World} {dst : Option Tmp} {s x : Operand} {ty : TypeId} {pos : String} {after : Array Edge} {guard : Option (Nat × Bool)}
    (base : Nat) (A B : Option Addr) (n c m d : Nat) (es fs : List Anc) (S : Nat → Prop) (hs : ac.eval s = .slice A n c) (hx : ac.eval x = .slice B m d) (hown : GOwn 32 w base A n c es) (hrow : GRow w S B m d fs) (hb : base ≤ w.heap.size) (hbd : n + m ≤ 1099511627776)
    (h : ∀ A' c' w', GOwn 32 w' base A' (n + m) c' (es ++ fs) → Below base w w' → Same (fun k => ∀ g, A = some g → g.block ≠ k) w w' → (A' = A ∨ ∃ g, A' = some ⟨g, 0, none⟩ ∧ w.heap.size ≤ g) → w.heap.size ≤ w'.heap.size → K (ac.put dst (.slice A' (n + m) c')) w') :
    Oper.wp Tryd.prog ⟨dst, .call ⟨.builtin .append, #[s, x], #[23, 23]⟩, ty, pos, after, guard⟩ ac w K Q :=
  wp_append_g (α := Anc) 23 32 _ 32 Tryd.underlying23 Tryd.infoAnc rfl (by decide) (by decide) (by decide) base A B n c m d es fs S hs hx hown hrow hb hbd h
theorem wp_append_ancs0 {ac : Act} {K : Act → World → Prop} {Q : Exit → Act → World → Prop} {w : World} {dst : Option Tmp} {s x : Operand} {ty : TypeId} {pos : String} {after : Array Edge} {guard : Option (Nat × Bool)}
    (base : Nat) (A B : Option Addr) (c m d : Nat) (fs : List Anc) (S : Nat → Prop) (hs : ac.eval s = .slice A 0 c) (hx : ac.eval x = .slice B m d) (hown : GOwn 32 w base A 0 c ([] : List Anc)) (hrow : GRow w S B m d fs) (hb : base ≤ w.heap.size) (hbd : m ≤ 1099511627776)
    (h : ∀ A' c' w', GOwn 32 w' base A' m c' fs → Below base w w' → Same (fun k => ∀ g, A = some g → g.block ≠ k) w w' → w.heap.size ≤ w'.heap.size → K (ac.put dst (.slice A' m c')) w') :
    Oper.wp Tryd.prog ⟨dst, .call ⟨.builtin .append, #[s, x], #[23, 23]⟩, ty, pos, after, guard⟩ ac w K Q := by
  refine wp_append_ancs base A B 0 c m d [] fs S hs hx hown hrow hb (by omega) ?_
  intro A' c' w' h1 h2 h3 _ h5
  rw [Nat.zero_add, List.nil_append] at h1
  rw [Nat.zero_add]
  exact h A' c' w' h1 h2 h3 h5
theorem app_ancs_here {ac : Act} {K : Act → World → Prop} {Q : Exit → Act → World → Prop} {w : World} {dst : Option Tmp} {s x : Operand} {ty : TypeId} {pos : String} {after : Array Edge} {guard : Option (Nat × Bool)}
    (h : Oper.wp Tryd.prog ⟨dst, .call ⟨.builtin .append, #[s, x], #[23, 23]⟩, ty, pos, after, guard⟩ ac w K Q) : Oper.wp Tryd.prog ⟨dst, .call ⟨.builtin .append, #[s, x], #[23, 23]⟩, ty, pos, after, guard⟩ ac w K Q := h
/-- an own row behind an append to an own row of another kind -/
theorem GOwn.apart {α β : Type} [Enc α] [Enc β] {t u : TypeId} {w w' : World} {base base' n c m d : Nat} {A B : Option Addr} {es : List α} {fs : List β} (htu : t ≠ u) (h : GOwn t w base A n c es) (k : GOwn u w base' B m d fs) (hs : Same (fun k => ∀ g, B = some g → g.block ≠ k) w w') : GOwn t w' base A n c es := by
  refine h.keep hs fun a ha g hg e => ?_
  subst ha hg
  obtain ⟨a', rfl⟩ := h.head
  obtain ⟨g', rfl⟩ := k.head
  have e' : g' = a' := e
  subst e'
  rcases h.2.2 with ⟨h0, _⟩ | ⟨g1, cap, cur, h1, _, hh, _⟩
  · injection h0 with h0; cases h0
  · rcases k.2.2 with ⟨k0, _⟩ | ⟨g2, cap2, cur2, k1, _, kk, _⟩
    · injection k0 with k0; cases k0
    · injection h1 with h1; injection h1 with h1; injection h1 with h1
      injection k1 with k1; injection k1 with k1; injection k1 with k1
      subst h1
      subst k1
      rw [hh] at kk
      injection kk with kk
      injection kk with _ kk
      exact htu kk
theorem gown_empty (t : TypeId) (W : World) : GOwn t (W.alloc (.cells #[] t)) W.heap.size (some ⟨W.heap.size, 0, none⟩) 0 0 ([] : List Anc) := GOwn.lit W #[] [] W.heap.size (Nat.le_refl _) (Nat.zero_le _) rfl
theorem grow_one (W : World) (x : Anc) : GRow (W.alloc (.cells #[.bool x.front, .int .i64 x.id.epoch, .int .i64 x.id.rep, .int .i64 x.id.num] 32)) (fun _ => True) (some ⟨W.heap.size, 0, none⟩) 1 1 [x] :=
  (GOwn.lit (t := 32) W #[.bool x.front, .int .i64 x.id.epoch, .int .i64 x.id.rep, .int .i64 x.id.num] [x] W.heap.size (Nat.le_refl _) (by show 1 ≤ maxLen; decide) rfl).row fun _ _ _ => trivial
end Go.Proofs.YtnpbbidiloahdaaDoor
