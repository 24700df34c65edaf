/- Where the k-th live element, the k-th line end stands: the walks of found, Find, FindLine. Conditions: the tree lies in memory, fewer than 2^30 elements; for a refusal: the reasons lie in memory. An element of a tree: the walk of At; Find and FindLine by found. Conditions: the tree lies in memory, fewer than 2^30 elements; the place is in it. The statements' own Within; literal rows; parts of a weight. No condition but room for the numbers. What a call leaves as it was, said step by step; two rows of elements held against each other. Condition: the rows lie in memory. The document's rows of elements: weighed, copied, put, cut, found: the walks. Conditions: the rows lie in memory, fewer than 2^30 elements. -/
import Derived.Test.YtnpbbidiloahdaaDoorP9
namespace Go.Proofs.YtnpbbidiloahdaaDoor
set_option linter.unusedSimpArgs false
set_option linter.unusedVariables false
open Go Go.RowKit
variable {S : Nat → Prop} {a : Nat → Addr}
theorem kc {w w' : World} (hb : Below w.heap.size w w') {x : Addr} {v : Value} (h : w.cell? x = some v) : w'.cell? x = some v := (Same.of_below (S := fun _ => True) hb).cell trivial h
/-- how high the node stands that a value points to -/
def highAt (v : Value) (w : World) : Nat :=
  match v with
  | .pointer (some x) => match w.cell? ⟨x.block, 4, none⟩ with
    | some (.int _ h) => h.toNat
    | _ => 0
  | _ => 0
theorem highAt_tree {w : World} {t : Tr} {p : Option Addr} (h : IsTree w S t p) : highAt (.pointer p) w = t.high := by
  cases t with
  | nil => obtain rfl := h; rfl
  | node l row r =>
    obtain ⟨_, b, A, n, c, pl, pr, rfl, _, _, _, _, _, _, _, _, c4, _⟩ := h
    simp only [highAt, c4]
    exact Int.toNat_natCast _
theorem at_mid (X L R Q Y : List El) (j : Nat) (h : j < R.length) : (X ++ (L ++ R ++ Q) ++ Y)[X.length + L.length + j]? = R[j]? := by
  rw [List.getElem?_append_left (by simp; omega), List.getElem?_append_right (by omega), List.getElem?_append_left (by simp; omega), List.getElem?_append_right (by omega)]
  congr 1
  omega
theorem take_mid (X L R Q Y : List El) (j : Nat) (h : j ≤ R.length) : (X ++ (L ++ R ++ Q) ++ Y).take (X.length + L.length + j) = X ++ (L ++ R.take j) := by
  rw [List.append_assoc, List.take_append, List.take_of_length_le (by omega)]
  congr 1
  rw [show X.length + L.length + j - X.length = L.length + j from by omega, List.append_assoc, List.append_assoc, List.take_append, List.take_of_length_le (by omega)]
  congr 1
  rw [show L.length + j - L.length = j from by omega, List.take_append, show j - R.length = 0 from by omega]
  simp
theorem find1 (x y : Nat) (w : World) : Calls Tryd.prog 90 #[.agg #[.int .i64 x, .int .i64 y]] w fun e w' => e = .returned (.int .i64 x) ∧ Below w.heap.size w w' := by
  go_enter Tryd.func90, Tryd.ntmps90
  go_wp2
  go_ret
  exact ⟨rfl, (Below.refl _ _).alloc (Nat.le_refl _) _⟩
theorem found_live_le (e : El) : e.live ≤ 1 := by unfold El.live; split <;> (try split) <;> omega
set_option maxRecDepth 200000 in
set_option maxHeartbeats 4000000 in
theorem found_live (T : Tr) (p : Option Addr) (bt chunk k : Nat) (call : ByteArray) (S : Nat → Prop) (w : World) (hblk : Blk w bt 127 #[.int .i64 chunk, .pointer p]) (hT : IsTree w S T p) (hbd : T.all.length ≤ 1073741824) (hk : k < liveOf T.all) :
    Calls Tryd.prog 89 #[.pointer (some ⟨bt, 0, none⟩), .string call, .int .i64 k, .func (.func 90) #[] #[]] w fun e w' => (∃ m e0, e = .returned (.tuple #[.int .i64 (m : Nat), .nilIface]) ∧ T.all[m]? = some e0 ∧ e0.live = 1 ∧ liveOf (T.all.take m) = k) ∧ Below w.heap.size w w' := by
  have methW := method_weight
  have c1 := hblk.cell 1
  simp at c1
  have i1 : (k : Int) < liveOf T.all := by omega
  go_enter Tryd.func89, Tryd.ntmps89
  repeat' (first | (go_at_call 61; go_must ((with_reducible refine (tweight_any T p bt chunk w hblk hT).mono ?_); rintro _ w1 ⟨rfl, hb1⟩; have hblk1 := hblk.step hb1; have hT1 := hT.step hb1; dsimp only)) | (go_at_call 90; go_must ((with_reducible refine (find1 _ _ w1).mono ?_); rintro _ w2 ⟨rfl, hb2⟩; have hblk2 := hblk1.step hb2; have hT2 := hT1.step hb2; have d1 := hblk2.cell 1; simp at d1; dsimp only)) | go_values | go_skip | go_guarded | go_step | go_upon | go_back)
  have HB := hid hb2
  have hsz1 := hb1.size
  have hbb := hb1.trans (hb2.mono hsz1)
  clear hb1 hb2 hblk1 hT1 hblk2 d1 c1 i1 hblk
  go_loopw [10, 11, 12] (fun r at_ n wr => ∃ (t : Tr) (q : Option Addr) (X Y : List El) (rest : Nat), r = .int .i64 rest ∧ at_ = .int .i64 X.length ∧ n = .pointer q ∧ IsTree wr S t q ∧ T.all = X ++ t.all ++ Y ∧ rest + liveOf X = k ∧ rest < liveOf t.all ∧ Below w.heap.size w wr) (fun _ _ n wr => highAt n wr)
  case atStart => exact ⟨T, p, [], [], k, rfl, rfl, rfl, hT2, by simp, rfl, hk, hbb⟩
  case round =>
    obtain ⟨t, q, X, Y, rest, rfl, rfl, rfl, ht, hall, hsum, hlt, hbel⟩ := hrel
    have hhi := highAt_tree ht
    cases t with
    | nil => exact absurd hlt (by simp [Tr.all, liveOf])
    | node l row r =>
      have hlen := congrArg List.length hall
      simp only [Tr.all, List.length_append] at hlen
      have hS1 := liveOf_append l.all row
      have hS2 := liveOf_append (l.all ++ row) r.all
      simp only [Tr.all] at hlt
      rw [hS2, hS1] at hlt
      have hlS := liveOf_le l.all
      have hlR := liveOf_le row
      have hlr := liveOf_le r.all
      obtain ⟨hne, b, A, n, c, pl, pr, rfl, hsb, hrow, hl, hr, c0, c1, c2, c3, c4, c5, c6⟩ := ht
      have hbl := lt_of_cell' c0
      have Hall := hid hall
      have Hhi := hid hhi
      have Hrow := hid hrow
      have hnl := hrow.1
      clear hall hhi hrow c3 c4 c5 c6
      by_cases hcase : rest < liveOf l.all
      · have i1 : (rest : Int) < liveOf l.all := by omega
        repeat' (first | (go_at_call 79; go_must ((with_reducible refine (weighs_any l pl S _ hl).mono ?_); rintro _ w3 ⟨rfl, hb3⟩; have c1' := kc hb3 c1; dsimp only)) | (go_at_call 90; go_must ((with_reducible refine (find1 _ _ w3).mono ?_); rintro _ w4 ⟨rfl, hb4⟩; have c1'' := kc hb4 c1'; dsimp only)) | go_values | go_skip | go_guarded | go_step | go_upon | go_back)
        have hs3 := hb3.size
        have hb5 := hb3.trans (hb4.mono hs3)
        have hl4 := hl.step hb5
        have hs5 := hbel.size
        go_roundw
        case rel => exact ⟨l, pl, X, row ++ (r.all ++ Y), rest, rfl, rfl, rfl, hl4, by rw [Hall.out]; simp [Tr.all], hsum, hcase, hbel.trans (hb5.mono hs5)⟩
        case measure => rw [highAt_tree hl4, Hhi.out]; simp only [Tr.high]; omega
      · obtain ⟨r1, rfl⟩ := Nat.exists_eq_add_of_le (Nat.le_of_not_lt hcase)
        have i1 : ¬ (((liveOf l.all + r1 : Nat) : Int) < liveOf l.all) := by omega
        have i2 : ((liveOf l.all + r1 : Nat) : Int) - liveOf l.all = (r1 : Nat) := by omega
        repeat' (first | (go_at_call 79; go_must (first | ((with_reducible refine (weighs_any l pl S w4 hl4).mono ?_); rintro _ w5 ⟨rfl, hb5⟩; have c0e := kc hb5 c0d; have c1e := kc hb5 c1d; have c2e := kc hb5 c2d; have hl5 := hl4.step hb5) | ((with_reducible refine (weighs_any l pl S _ hl).mono ?_); rintro _ w3 ⟨rfl, hb3⟩; have c0c := kc hb3 c0; have c1c := kc hb3 c1; have c2c := kc hb3 c2; have hl3 := hl.step hb3)); dsimp only) | (go_at_call 90; go_must (first | ((with_reducible refine (find1 _ _ w5).mono ?_); rintro _ w6 ⟨rfl, hb6⟩; have c0f := kc hb6 c0e; have c1f := kc hb6 c1e; have c2f := kc hb6 c2e; have hl6 := hl5.step hb6) | ((with_reducible refine (find1 _ _ w3).mono ?_); rintro _ w4 ⟨rfl, hb4⟩; have c0d := kc hb4 c0c; have c1d := kc hb4 c1c; have c2d := kc hb4 c2c; have hl4 := hl3.step hb4)); dsimp only) | (go_at_call 69; go_must ((with_reducible refine (size_any l pl S w6 hl6).mono ?_); rintro _ _ ⟨rfl, rfl⟩); dsimp only) | go_values | go_skip | go_guarded | go_step | go_upon | go_back)
        have hs3 := hb3.size
        have B4 := hb3.trans (hb4.mono hs3)
        have B5 := B4.trans (hb5.mono B4.size)
        have B6 := B5.trans (hb6.mono B5.size)
        have hbel6 := hbel.trans (B6.mono hbel.size)
        have HB6 := hid B6
        clear hb3 hb4 hb5 hb6 B4 B5 B6 hs3 c0 c1 c0c c1c c2c c0d c1d c2d c0e c1e c2e c0f c1f hl3 hl4 hl5 hl hl6 c2
        go_loopw [10, 11, 67] (fun r at_ j wq => ∃ (jj r2 : Nat), r = .int .i64 r2 ∧ at_ = .int .i64 ((X.length : Int) + l.all.length + jj) ∧ j = .int .i64 jj ∧ jj ≤ n ∧ r2 + liveOf (row.take jj) = r1 ∧ Below w6.heap.size w6 wq) (fun _ _ j _ => n - (intOf j).toNat)
        case atStart => exact ⟨0, r1, congrArg _ (by omega), by simp, rfl, Nat.zero_le _, by simp [liveOf], Below.refl _ _⟩
        case round =>
          obtain ⟨jj, r2, rfl, rfl, rfl, hj, hr2, hq⟩ := hrel
          have HBQ := hid (HB6.out.trans (hq.mono HB6.out.size))
          have hbelq := hbel.trans (HBQ.out.mono hbel.size)
          by_cases hlt2 : jj < n
          · obtain ⟨b1, off, e, rfl, hS, he, e0, e1, e2, e3, e4⟩ := ((Hrow.out.step HBQ.out)).at_ hlt2
            have hq1 := lt_of_cell' e0
            have hsn := liveOf_snoc he
            have hel := found_live_le e
            have hlq := e.live_le
            have hlp := e.lines_le
            have HH := hid (And.intro hsn he)
            clear hsn he
            by_cases hc2 : r2 < e.live
            · have i5 : (r2 : Int) < e.live := by omega
              repeat' (first | (go_at_call 58; go_must ((with_reducible refine (weight_any e _).mono ?_); rintro _ w7 ⟨rfl, hb7⟩; dsimp only)) | (go_at_call 90; go_must ((with_reducible refine (find1 _ _ w7).mono ?_); rintro _ w8 ⟨rfl, hb8⟩; dsimp only)) | go_values | go_skip | go_guarded | go_step | go_upon | go_back)
              obtain ⟨hsn, he⟩ := HH.out
              have B7 : Below w.heap.size w w7 := (hbelq.alloc hbelq.size _).trans (hb7.mono (Nat.le_trans hbelq.size (Nat.le_of_lt (by simp))))
              have hjr := (List.getElem?_eq_some_iff.1 he).1
              go_ret2
              refine ⟨⟨X.length + l.all.length + jj, e, by simp [Int.natCast_add], ?_, by omega, ?_⟩, B7.trans (hb8.mono B7.size)⟩
              · rw [Hall.out]; exact (at_mid X l.all row r.all Y jj hjr).trans he
              · rw [Hall.out, show Tr.all (.node l row r) = l.all ++ row ++ r.all from rfl, take_mid X l.all row r.all Y jj (Nat.le_of_lt hjr), liveOf_append, liveOf_append]; omega
            · have i5 : ¬ (r2 : Int) < e.live := by omega
              repeat' (first | (go_at_call 58; go_must ((with_reducible refine (weight_any e _).mono ?_); rintro _ w7 ⟨rfl, hb7⟩; dsimp only)) | (go_at_call 90; go_must ((with_reducible refine (find1 _ _ w7).mono ?_); rintro _ w8 ⟨rfl, hb8⟩; dsimp only)) | go_values | go_skip | go_guarded | go_step | go_upon | go_back)
              obtain ⟨hsn, he⟩ := HH.out
              have B7 : Below w6.heap.size w6 w7 := (hq.alloc hq.size _).trans (hb7.mono (Nat.le_trans hq.size (Nat.le_of_lt (by simp))))
              go_roundw
              case rel => exact ⟨jj + 1, r2 - e.live, congrArg _ (by omega), congrArg _ (by omega), by go_num, hlt2, by omega, B7.trans (hb8.mono B7.size)⟩
              case measure => simp [intOf]; omega
          · obtain rfl : jj = n := by omega
            have c2q := kc hq c2f
            have hrq := hr.step HBQ.out
            have hnl' := hnl
            have hrl : row.take jj = row := List.take_of_length_le (by omega)
            rw [hrl] at hr2
            go_wp2
            go_roundw
            case rel => exact ⟨r, pr, X ++ (l.all ++ row), Y, r2, rfl, congrArg _ (by simp; omega), rfl, hrq, by rw [Hall.out]; simp [Tr.all], by rw [liveOf_append, liveOf_append]; omega, by omega, hbelq⟩
            case measure => rw [highAt_tree hrq, Hhi.out]; simp only [Tr.high]; omega
end Go.Proofs.YtnpbbidiloahdaaDoor
namespace Go.Proofs.YtnpbbidiloahdaaDoor
set_option linter.unusedSimpArgs false
set_option linter.unusedVariables false
open Go Go.RowKit
variable {S : Nat → Prop} {a : Nat → Addr}
def El.agg (e : El) : Value := .agg #[.int .i64 e.epoch, .int .i64 e.rep, .int .i64 e.num, .int .i32 e.char, .int .i64 e.hides]
theorem find_ok (T : Tr) (p : Option Addr) (bt chunk k : Nat) (S : Nat → Prop) (w : World) (hblk : Blk w bt 127 #[.int .i64 chunk, .pointer p]) (hT : IsTree w S T p) (hbd : T.all.length ≤ 1073741824) (hk : k < liveOf T.all) :
    Calls Tryd.prog 82 #[.pointer (some ⟨bt, 0, none⟩), .int .i64 k] w fun e w' => (∃ m e0, e = .returned (.tuple #[.int .i64 (m : Nat), .nilIface]) ∧ T.all[m]? = some e0 ∧ e0.live = 1 ∧ liveOf (T.all.take m) = k) ∧ Below w.heap.size w w' := by
  go_enter Tryd.func82, Tryd.ntmps82
  repeat' (first | (go_at_call 89; go_must ((with_reducible refine (found_live T p bt chunk k _ S w hblk hT hbd hk).mono ?_); rintro _ w1 ⟨⟨m, e0, rfl, h1, h2, h3⟩, hb1⟩; dsimp only)) | go_values | go_skip | go_guarded | go_step | go_upon | go_back)
  go_ret2
  exact ⟨⟨m, e0, rfl, h1, h2, h3⟩, hb1⟩
set_option maxRecDepth 200000 in
set_option maxHeartbeats 4000000 in
theorem at_ok (T : Tr) (p : Option Addr) (bt chunk k : Nat) (S : Nat → Prop) (w : World) (hblk : Blk w bt 127 #[.int .i64 chunk, .pointer p]) (hT : IsTree w S T p) (hbd : T.all.length ≤ 1073741824) (hk : k < T.all.length) :
    Calls Tryd.prog 57 #[.pointer (some ⟨bt, 0, none⟩), .int .i64 k] w fun e w' => (∃ e0, e = .returned (.tuple #[e0.agg, .nilIface]) ∧ T.all[k]? = some e0) ∧ Below w.heap.size w w' := by
  have b1 : Below w.heap.size w (w.alloc (.cells #[.int .i64 0, .int .i64 0, .int .i64 0, .int .i32 0, .int .i64 0] 48)) := (Below.refl _ _).alloc (Nat.le_refl _) _
  have b2 := b1.alloc b1.size (.cells #[.int .i64 0, .int .i64 0, .int .i64 0, .int .i32 0, .int .i64 0] 48)
  have hblk1 := hblk.step b2
  have hT1 := hT.step b2
  have c1 := hblk1.cell 1
  simp at c1
  have hB := (Blk.new w 48 #[.int .i64 0, .int .i64 0, .int .i64 0, .int .i32 0, .int .i64 0]).alloc (.cells #[.int .i64 0, .int .i64 0, .int .i64 0, .int .i32 0, .int .i64 0] 48)
  have i1 : ¬ (k : Int) ≥ T.all.length := by omega
  go_enter Tryd.func57, Tryd.ntmps57
  repeat' (first | (go_at_call 52; go_must ((with_reducible refine (tlen_any T p bt chunk _ hblk1 hT1).mono ?_); rintro _ _ ⟨rfl, rfl⟩; dsimp only)) | go_values | go_skip | go_guarded | go_step | go_upon | go_back)
  clear c1 i1 hblk hblk1 b1 hT
  go_loopw [1, 7] (fun i n wr => ∃ (t : Tr) (q : Option Addr) (X Y : List El) (ii : Nat), i = .int .i64 ii ∧ n = .pointer q ∧ IsTree wr S t q ∧ T.all = X ++ t.all ++ Y ∧ X.length + ii = k ∧ ii < t.all.length ∧ Blk wr w.heap.size 48 #[.int .i64 0, .int .i64 0, .int .i64 0, .int .i32 0, .int .i64 0] ∧ Below w.heap.size w wr) (fun _ n wr => highAt n wr)
  case atStart => exact ⟨T, p, [], [], k, rfl, rfl, hT1, by simp, by simp, hk, hB, b2⟩
  case round =>
    obtain ⟨t, q, X, Y, ii, rfl, rfl, ht, hall, hsum, hlt, hblkr, hbel⟩ := hrel
    have hhi := highAt_tree ht
    cases t with
    | nil => exact absurd hlt (by simp [Tr.all])
    | node l row r =>
      have hlen := congrArg List.length hall
      simp only [Tr.all, List.length_append] at hlen hlt
      obtain ⟨hne, b, A, n, c, pl, pr, rfl, hsb, hrow, hl, hr, c0, c1, c2, c3, c4, c5, c6⟩ := ht
      have hbl := lt_of_cell' c0
      have Hall := hid hall
      have Hhi := hid hhi
      have hnl := hrow.1
      have hrlen := hlt
      clear hall hhi c3 c4 c5 c6
      by_cases hc1 : ii < l.all.length
      · have j1 : (ii : Int) < l.all.length := by omega
        repeat' (first | (go_at_call 69; go_must ((with_reducible refine (size_any l pl S _ hl).mono ?_); rintro _ _ ⟨rfl, rfl⟩; dsimp only)) | go_values | go_skip | go_guarded | go_step | go_upon | go_back)
        go_roundw
        case rel => exact ⟨l, pl, X, row ++ (r.all ++ Y), ii, rfl, rfl, hl, by rw [Hall.out]; simp [Tr.all], hsum, hc1, hblkr, hbel⟩
        case measure => rw [highAt_tree hl, Hhi.out]; simp only [Tr.high]; omega
      · obtain ⟨j, rfl⟩ := Nat.exists_eq_add_of_le (Nat.le_of_not_lt hc1)
        by_cases hc2 : j < n
        · have j1 : ¬ (l.all.length : Int) + j < l.all.length := by omega
          have j2 : (l.all.length : Int) + j < l.all.length + n := by omega
          obtain ⟨b1, off, e, rfl, hS, he, e0, e1, e2, e3, e4⟩ := hrow.at_ hc2
          have He := hid he
          clear he
          have g0 := hblkr.cell 0
          have g1 := hblkr.cell 1
          have g2 := hblkr.cell 2
          have g3 := hblkr.cell 3
          have g4 := hblkr.cell 4
          have f0 := hblkr.frozen 0
          have f1 := hblkr.frozen 1
          have f2 := hblkr.frozen 2
          have f3 := hblkr.frozen 3
          have f4 := hblkr.frozen 4
          repeat' (first | (go_at_call 69; go_must ((with_reducible refine (size_any l pl S _ hl).mono ?_); rintro _ _ ⟨rfl, rfl⟩; dsimp only)) | go_values | go_skip | go_guarded | go_step | go_upon | go_back)
          refine bodyPost_ret (v := .tuple #[.agg #[.int .i64 e.epoch, .int .i64 e.rep, .int .i64 e.num, .int .i32 e.char, .int .i64 e.hides], .nilIface]) (by simp [results, Tryd.results57, go_sem, g0, g1, g2, g3, g4]) rfl ⟨⟨e, rfl, ?_⟩, ?_⟩
          · rw [Hall.out, ← hsum, ← Nat.add_assoc]; exact (at_mid X l.all row r.all Y j (by omega)).trans He.out
          · exact ((((hbel.setCell (Nat.le_refl _) _).setCell (Nat.le_refl _) _).setCell (Nat.le_refl _) _).setCell (Nat.le_refl _) _).setCell (Nat.le_refl _) _
        · obtain ⟨j', rfl⟩ := Nat.exists_eq_add_of_le (Nat.le_of_not_lt hc2)
          have j1 : ¬ (l.all.length : Int) + (n + j') < l.all.length := by omega
          have j2 : ¬ (l.all.length : Int) + (n + j') < l.all.length + n := by omega
          repeat' (first | (go_at_call 69; go_must ((with_reducible refine (size_any l pl S _ hl).mono ?_); rintro _ _ ⟨rfl, rfl⟩; dsimp only)) | go_values | go_skip | go_guarded | go_step | go_upon | go_back)
          go_roundw
          case rel => exact ⟨r, pr, X ++ (l.all ++ row), Y, j', congrArg _ (by omega), rfl, hr, by rw [Hall.out]; simp [Tr.all], by simp; omega, by omega, hblkr, hbel⟩
          case measure => rw [highAt_tree hr, Hhi.out]; simp only [Tr.high]; omega
end Go.Proofs.YtnpbbidiloahdaaDoor
namespace Go.Proofs.YtnpbbidiloahdaaDoor
set_option linter.unusedSimpArgs false
set_option linter.unusedVariables false
open Go Go.RowKit
theorem Row.lit (w : World) (cs : Array Value) (es : List El) (n : Nat) (S : Nat → Prop) (hS : S w.heap.size) (hn : es.length = n) (hm : n ≤ maxLen) (hc : cs.toList = cellsOf es) : Row (w.alloc (.cells cs 48)) S (some ⟨w.heap.size, 0, none⟩) n n es := by
  refine ⟨hn, Nat.le_refl _, hm, fun _ => ⟨w.heap.size, 0, rfl, hS, fun j u hu => ?_⟩⟩
  rw [Nat.zero_add, (Blk.new w 48 cs).cell j, ← hu, ← hc]
  simp
@[go_sem] theorem field_w0 (x y : Value) (w : World) : (Instr.field 55 (.agg #[x, y]) 0).run Tryd.prog w = .ok x w := by kernel_rfl
@[go_sem] theorem field_w1 (x y : Value) (w : World) : (Instr.field 55 (.agg #[x, y]) 1).run Tryd.prog w = .ok y w := by kernel_rfl
theorem But.blk {w w' : World} {bt g : Nat} {t : TypeId} {cs : Array Value} (h : But bt w w') (hb : Blk w g t cs) (hne : g ≠ bt) : Blk w' g t cs := (h.block g hb.lt hne).trans hb
end Go.Proofs.YtnpbbidiloahdaaDoor
namespace Go.Proofs.YtnpbbidiloahdaaDoor
set_option linter.unusedSimpArgs false
set_option linter.unusedVariables false
open Go Go.RowKit
theorem bvia {w w0 w1 : World} (h : Below w.heap.size w w0) (k : Below w0.heap.size w0 w1) : Below w.heap.size w w1 := h.trans (k.mono h.size)
theorem balloc {w w0 : World} {o : Obj} (h : Below w.heap.size w w0) : Below w.heap.size w (w0.alloc o) := h.alloc h.size _
theorem bset {w w0 : World} {p : Addr} {u : Value} (h : Below w.heap.size w w0) (hp : w.heap.size ≤ p.block) : Below w.heap.size w (w0.setCell p u) := h.setCell hp _
theorem bdrew {w w0 : World} (h : Below w.heap.size w w0) : Below w.heap.size w w0.drew := h.drew
theorem Own.step {w w' : World} {base : Nat} {A : Option Addr} {n c : Nat} {es : List El} (h : Own w base A n c es) (hb : Below w.heap.size w w') : Own w' base A n c es := h.keep (S := fun _ => True) (Same.of_below hb) fun _ _ => trivial
theorem Row.one (w : World) (e : El) : Row (w.alloc (.cells #[.int .i64 e.epoch, .int .i64 e.rep, .int .i64 e.num, .int .i32 e.char, .int .i64 e.hides] 48)) (fun _ => True) (some ⟨w.heap.size, 0, none⟩) 1 1 [e] := Row.lit w _ [e] 1 _ trivial rfl (by decide) rfl
end Go.Proofs.YtnpbbidiloahdaaDoor
namespace Go.Proofs.YtnpbbidiloahdaaDoor
set_option linter.unusedSimpArgs false
set_option linter.unusedVariables false
open Go Go.RowKit
/-- two boxes -/
theorem boxes2 (w : World) (t u : TypeId) (x y : Array Value) : let W := (w.alloc (.cells x t)).alloc (.cells y u)
    Blk W w.heap.size t x ∧ Blk W (w.heap.size + 1) u y ∧ Below w.heap.size w W := by
  intro W
  refine ⟨(Blk.new w t x).alloc _, ?_, balloc (balloc (Below.refl _ _))⟩
  have := Blk.new (w.alloc (.cells x t)) u y
  rw [show (w.alloc (.cells x t)).heap.size = w.heap.size + 1 from Array.size_push _] at this
  exact this
theorem Blk.five {w : World} {g : Nat} {t : TypeId} {x y z u v : Value} (h : Blk w g t #[x, y, z, u, v]) : w.cell? ⟨g, 0, none⟩ = some x ∧ w.cell? ⟨g, 1, none⟩ = some y ∧ w.cell? ⟨g, 2, none⟩ = some z ∧ w.cell? ⟨g, 3, none⟩ = some u ∧ w.cell? ⟨g, 4, none⟩ = some v ∧ g < w.heap.size :=
  ⟨h.cell 0, h.cell 1, h.cell 2, h.cell 3, h.cell 4, h.lt⟩
theorem size_set (w : World) (p : Addr) (u : Value) : (w.setCell p u).heap.size = w.heap.size := by simp [World.setCell]
theorem refLive_any (e : El) (w : World) : Calls Tryd.prog 54 #[.agg #[.int .i64 e.epoch, .int .i64 e.rep, .int .i64 e.num, .int .i32 e.char, .int .i64 e.hides]] w fun r w' => r = .returned (.bool (decide (e.hides ≤ 0))) ∧ Below w.heap.size w w' := by
  go_enter Tryd.func54, Tryd.ntmps54
  repeat' (first | go_values | go_skip | go_guarded | go_step | go_upon | go_back)
  go_ret
  exact ⟨rfl, balloc (Below.refl _ _)⟩
set_option maxRecDepth 20000 in
theorem refWeigh_any (e : El) (w : World) : Calls Tryd.prog 30 #[.agg #[.int .i64 e.epoch, .int .i64 e.rep, .int .i64 e.num, .int .i32 e.char, .int .i64 e.hides]] w fun r w' => r = .returned (.agg #[.int .i64 e.live, .int .i64 e.lines]) ∧ Below w.heap.size w w' := by
  have HL := hid (fun W => refLive_any e W)
  obtain ⟨hX, hR, hb⟩ := boxes2 w 48 55 #[.int .i64 e.epoch, .int .i64 e.rep, .int .i64 e.num, .int .i32 e.char, .int .i64 e.hides] #[.int .i64 0, .int .i64 0]
  by_cases hh : e.hides ≤ 0
  · simp only [hh, decide_true] at HL
    have h1 : e.live = 1 := by unfold El.live; rw [if_neg (by omega)]
    rw [h1]
    clear h1
    go_enter Tryd.func30, Tryd.ntmps30
    repeat' (first | (go_at_call 54; go_must ((with_reducible refine Calls.mono (HL.out _) ?_); rintro _ w1 ⟨rfl, hb1⟩; obtain ⟨x0, x1, x2, x3, x4, xl⟩ := (hX.step hb1).five; obtain ⟨r0, r1, rf0, rf1⟩ := (hR.step hb1).two; have hl1 := (hR.step hb1).lt; dsimp only)) | go_values | go_skip | go_guarded | go_step | go_upon | go_back)
    · have hc : (e.char == 10) = true := by assumption
      have h2 : e.lines = 1 := by unfold El.lines; rw [if_neg (by omega), if_pos (by simpa using hc)]
      exact bodyPost_ret (v := .agg #[.int .i64 1, .int .i64 1]) (by simp [results, Tryd.results30, go_sem, r0, r1, hl1, size_set]) rfl ⟨by rw [h2]; rfl, by (repeat' (first | (with_reducible exact Below.refl _ _) | (with_reducible assumption) | (with_reducible refine balloc ?_) | (with_reducible refine bdrew ?_) | (with_reducible refine bset ?_ (by (try dsimp only); omega)) | (with_reducible refine bvia ?_ (by assumption))))⟩
    · have hc : (e.char == 10) = false := by assumption
      have h2 : e.lines = 0 := by unfold El.lines; rw [if_neg (by omega), if_neg (by simpa using hc)]
      exact bodyPost_ret (v := .agg #[.int .i64 1, .int .i64 0]) (by simp [results, Tryd.results30, go_sem, r0, r1, hl1, size_set]) rfl ⟨by rw [h2]; rfl, by (repeat' (first | (with_reducible exact Below.refl _ _) | (with_reducible assumption) | (with_reducible refine balloc ?_) | (with_reducible refine bdrew ?_) | (with_reducible refine bset ?_ (by (try dsimp only); omega)) | (with_reducible refine bvia ?_ (by assumption))))⟩
  · have h1 : e.live = 0 := by unfold El.live; rw [if_pos (by omega)]
    have h2 : e.lines = 0 := by unfold El.lines; rw [if_pos (by omega)]
    simp only [hh, decide_false] at HL
    rw [h1, h2]
    clear h1 h2
    go_enter Tryd.func30, Tryd.ntmps30
    repeat' (first | (go_at_call 54; go_must ((with_reducible refine Calls.mono (HL.out _) ?_); rintro _ w1 ⟨rfl, hb1⟩; obtain ⟨x0, x1, x2, x3, x4, xl⟩ := (hX.step hb1).five; obtain ⟨r0, r1, rf0, rf1⟩ := (hR.step hb1).two; have hl1 := (hR.step hb1).lt; dsimp only)) | go_values | go_skip | go_guarded | go_step | go_upon | go_back)
    exact bodyPost_ret (v := .agg #[.int .i64 0, .int .i64 0]) (by simp [results, Tryd.results30, go_sem, r0, r1, hl1, size_set]) rfl ⟨rfl, by (repeat' (first | (with_reducible exact Below.refl _ _) | (with_reducible assumption) | (with_reducible refine balloc ?_) | (with_reducible refine bdrew ?_) | (with_reducible refine bset ?_ (by (try dsimp only); omega)) | (with_reducible refine bvia ?_ (by assumption))))⟩
set_option maxRecDepth 20000 in
set_option maxHeartbeats 1000000 in
theorem refSum_any (A : Option Addr) (n c : Nat) (es : List El) (S : Nat → Prop) (w : World) (h : Row w S A n c es) (hn : n ≤ 1099511627776) :
    Calls Tryd.prog 15 #[.slice A n c] w fun e w' => e = .returned (.agg #[.int .i64 (liveOf es), .int .i64 (linesOf es)]) ∧ Below w.heap.size w w' := by
  have Hr := hid h
  clear h
  obtain ⟨hX, hR, hb⟩ := boxes2 w 55 55 #[.int .i64 0, .int .i64 0] #[.int .i64 0, .int .i64 0]
  go_enter Tryd.func15, Tryd.ntmps15
  repeat' (first | go_values | go_skip | go_guarded | go_step | go_upon | go_back)
  go_loopw [4] (fun i wr => ∃ k : Nat, i = .int .i64 k ∧ k ≤ n ∧ Blk wr (w.heap.size + 1) 55 #[.int .i64 (liveOf (es.take k)), .int .i64 (linesOf (es.take k))] ∧ Blk wr w.heap.size 55 #[.int .i64 0, .int .i64 0] ∧ Below w.heap.size w wr) (fun i wr => n - (intOf i).toNat)
  case atStart => exact ⟨0, rfl, by omega, hR, hX, hb⟩
  case round =>
    obtain ⟨k, rfl, hk, hblk, hres, hbel⟩ := hrel
    have hl1 := liveOf_le (es.take k)
    have hl2 := linesOf_le (es.take k)
    have hl3 : (es.take k).length ≤ k := List.length_take_le _ _
    by_cases hlt : k < n
    · obtain ⟨b, off, e, rfl, hS, he, c0, c1, c2, c3, c4⟩ := (Hr.out.step hbel).at_ hlt
      have hls := liveOf_snoc he
      have hns := linesOf_snoc he
      have hel := e.live_le
      have hen := e.lines_le
      have HH := hid (And.intro hls (And.intro hns he))
      have HW := hid (fun W => refWeigh_any e W)
      clear hls hns he
      have HB := hid (And.intro hblk hres)
      clear hblk hres hX hR
      repeat' (first | (go_at_call 30; go_must ((with_reducible refine Calls.mono (HW.out _) ?_); rintro _ w1 ⟨rfl, hb1⟩; dsimp only)) | (with_reducible refine stop_region 6 ?_) | go_values | go_skip | go_guarded | go_step | go_upon | go_back)
      refine Stop.go ?_
      have eX : Below w1.heap.size w1 (w1.alloc (.cells #[.int .i64 e.live, .int .i64 e.lines] 55)) := balloc (Below.refl _ _)
      have hZ := Blk.new w1 55 #[.int .i64 e.live, .int .i64 e.lines]
      have hblk := (HB.out.1.step hb1).step eX
      have hres := (HB.out.2.step hb1).step eX
      have hbX := bvia (bvia hbel hb1) eX
      have hne : w1.heap.size ≠ w.heap.size + 1 := by have := (HB.out.1.step hb1).lt; omega
      clear c0 c1 c2 c3 c4
      generalize w1.alloc (.cells #[.int .i64 e.live, .int .i64 e.lines] 55) = X at *
      obtain ⟨z0, z1, zf0, zf1⟩ := hZ.two
      obtain ⟨s0, s1, sf0, sf1⟩ := hblk.two
      have hzl := hZ.lt
      have hsl := hblk.lt
      repeat' (first | go_values | go_skip | go_guarded | go_step | go_upon | go_back)
      go_roundw
      case rel =>
        obtain ⟨h1, h2, _⟩ := HH.out
        refine ⟨k + 1, by go_num, by omega, ?_, (hres.far (by show w.heap.size ≠ w.heap.size + 1; omega) _).far (by show w.heap.size ≠ w.heap.size + 1; omega) _, by (repeat' (first | (with_reducible exact Below.refl _ _) | (with_reducible assumption) | (with_reducible refine balloc ?_) | (with_reducible refine bdrew ?_) | (with_reducible refine bset ?_ (by (try dsimp only); omega)) | (with_reducible refine bvia ?_ (by assumption))))⟩
        rw [h1, h2]
        simpa using hblk.set2
      case measure => simp [intOf]; omega
    · obtain rfl : k = n := by omega
      have hl : es.take k = es := List.take_of_length_le (by rw [Hr.out.1]; omega)
      rw [hl] at hblk
      clear hl
      obtain ⟨s0, s1, sf0, sf1⟩ := hblk.two
      obtain ⟨r0, r1, rf0, rf1⟩ := hres.two
      have hrl := hres.lt
      repeat' (first | go_values | go_skip | go_guarded | go_step | go_upon | go_back)
      exact bodyPost_ret (v := .agg #[.int .i64 (liveOf es), .int .i64 (linesOf es)]) (by simp [results, Tryd.results15, go_sem, r0, r1, hrl, size_set]) rfl ⟨rfl, by (repeat' (first | (with_reducible exact Below.refl _ _) | (with_reducible assumption) | (with_reducible refine balloc ?_) | (with_reducible refine bdrew ?_) | (with_reducible refine bset ?_ (by (try dsimp only); omega)) | (with_reducible refine bvia ?_ (by assumption))))⟩
theorem Own.lit {w : World} (cs : Array Value) (es : List El) (base : Nat) (hb : base ≤ w.heap.size) (hm : es.length ≤ maxLen) (hc : cs.toList = cellsOf es) : Own (w.alloc (.cells cs 48)) base (some ⟨w.heap.size, 0, none⟩) es.length es.length es := by
  refine ⟨rfl, ?_⟩
  rw [← hc]
  refine World.ownsRow_lit w cs es.length hb hm ?_
  rw [← Array.length_toList, hc, cellsOf_length]
theorem refCopy_any (A : Option Addr) (n c : Nat) (es : List El) (S : Nat → Prop) (w : World) (h : Row w S A n c es) (hn : n ≤ 1099511627776) :
    Calls Tryd.prog 48 #[.slice A n c] w fun e w' => ∃ A' c', e = .returned (.slice A' n c') ∧ Own w' w.heap.size A' n c' es ∧ Below w.heap.size w w' := by
  have hE := Own.lit (w := w) #[] [] w.heap.size (Nat.le_refl _) (Nat.zero_le _) rfl
  have eE : Below w.heap.size w (w.alloc (.cells #[] 48)) := balloc (Below.refl _ _)
  have h1 := h.step eE
  go_enter Tryd.func48, Tryd.ntmps48
  repeat' (first | ((with_reducible refine append_here ?_); refine wp_append_el w.heap.size _ A 0 0 n c [] es S (by rfl) (by rfl) hE h1 eE.size (by omega) ?_; intro A' c' w1 hA hb1 hsm1 hat1 hz1) | go_values | go_skip | go_guarded | go_step | go_upon | go_back)
  go_ret
  rw [Nat.zero_add, List.nil_append] at *
  exact ⟨A', c', rfl, hA, eE.trans hb1⟩
set_option maxRecDepth 20000 in
set_option maxHeartbeats 1000000 in
theorem refPut_any (A : Option Addr) (n c i : Nat) (B : Option Addr) (m d : Nat) (es fs : List El) (S S' : Nat → Prop) (w : World) (h : Row w S A n c es) (h' : Row w S' B m d fs) (hn : n + m ≤ 1099511627776) (hi : i ≤ n) :
    Calls Tryd.prog 25 #[.slice A n c, .int .i64 i, .slice B m d] w fun e w' => ∃ A' c', e = .returned (.slice A' (n + m) c') ∧ Own w' w.heap.size A' (n + m) c' (es.take i ++ fs ++ es.drop i) ∧ Below w.heap.size w w' := by
  have hT := h.take_ hi
  have hD := (h.drop_ hi).more (S' := fun b => b < w.heap.size) fun b hb _ => hb
  have hF := h'.more (S' := fun b => b < w.heap.size) fun b hb _ => hb
  have HC := hid (refCopy_any A i c _ S w hT (by omega))
  have hic := h.2.1
  have hin := h.len_le
  have hcm := h.2.2.1
  unfold maxLen at hin hcm
  clear hT
  go_enter Tryd.func25, Tryd.ntmps25
  repeat' (first | (go_at_call 48; go_must ((with_reducible refine Calls.mono HC.out ?_); rintro _ w1 ⟨A1, c1, rfl, hA1, hb1⟩; have hF1 := hF.step hb1; have hD1 := hD.step hb1; have hz1 := hb1.size; dsimp only)) | ((with_reducible refine append_here ?_); first | (refine wp_append_el w.heap.size A1 B i c1 m d _ fs _ (by rfl) (by rfl) hA1 hF1 hz1 (by omega) ?_; intro A2 c2 w2 hA2 hb2 hsm2 hat2 hz2; have hD2 := hD1.keep (w' := w2) (fun b hb _ => hb2.block b hb); have hz2' := Nat.le_trans hz1 hz2) | (refine wp_append_el w.heap.size A2 _ (i + m) c2 (n - i) (c - i) _ (es.drop i) _ (by rfl) (by rfl) hA2 hD2 hz2' (by omega) ?_; intro A3 c3 w3 hA3 hb3 hsm3 hat3 hz3)) | go_values | go_skip | go_guarded | go_step | go_upon | go_back)
  skip
  go_ret
  rw [show i + m + (n - i) = n + m from by omega] at hA3 ⊢
  exact ⟨A3, c3, rfl, hA3, (hb1.trans hb2).trans hb3⟩
end Go.Proofs.YtnpbbidiloahdaaDoor
