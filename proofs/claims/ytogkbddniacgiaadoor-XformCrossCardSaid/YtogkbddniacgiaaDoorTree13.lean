/- An element of a tree: the walk of At; Find and FindLine by found. Conditions: the tree lies in memory, fewer than 2^30 elements; the place is in it. -/
import Derived.Test.YtogkbddniacgiaaDoorTree12
namespace Go.Proofs.YtogkbddniacgiaaDoor
set_option linter.unusedSimpArgs false
set_option linter.unusedVariables false
open Go Go.RowKit
variable {S : Nat → Prop} {a : Nat → Addr}
def El.agg (e : El) : Value := .agg #[.int .i64 e.epoch, .int .i64 e.rep, .int .i64 e.num, .int .i32 e.char, .int .i64 e.hides]
theorem find_ok (T : Tr) (p : Option Addr) (bt chunk k : Nat) (S : Nat → Prop) (w : World) (hblk : Blk w bt 121 #[.int .i64 chunk, .pointer p]) (hT : IsTree w S T p) (hbd : T.all.length ≤ 1073741824) (hk : k < liveOf T.all) :
    Calls Tryd.prog 58 #[.pointer (some ⟨bt, 0, none⟩), .int .i64 k] w fun e w' => (∃ m e0, e = .returned (.tuple #[.int .i64 (m : Nat), .nilIface]) ∧ T.all[m]? = some e0 ∧ e0.live = 1 ∧ liveOf (T.all.take m) = k) ∧ Below w.heap.size w w' := by
  go_enter Tryd.func58, Tryd.ntmps58
  repeat' (first | (go_at_call 98; go_must ((with_reducible refine (found_live T p bt chunk k _ S w hblk hT hbd hk).mono ?_); rintro _ w1 ⟨⟨m, e0, rfl, h1, h2, h3⟩, hb1⟩; dsimp only)) | (with_reducible refine Keep.last ?_) | (with_reducible refine Keep.below (by assumption) ?_) | (with_reducible refine Keep.kept (by assumption) ?_) | (with_reducible refine Keep.alloc ?_) | (with_reducible refine Keep.same ?_) | ((with_reducible refine WpH.here ?_); first | (refine WpH.nil ?_; refine NoP.normal ?_) | (refine WpH.load (by rfl) (by rfl) (by go_simp; rfl) ?_; simp only [Act.put, List.setIfInBounds_toArray, List.set_cons_zero, List.set_cons_succ]) | (refine WpH.loadT (by rfl) (by rfl) (by go_simp; rfl) (by rintro _ _ ⟨⟩; exact ⟨_, _, _, _, _, _, by rfl, by assumption, by assumption⟩) ?_; simp only [Act.put, List.setIfInBounds_toArray, List.set_cons_zero, List.set_cons_succ]) | (refine WpH.pure (by rfl) (fun w_ => by go_simp; (try go_bits); rfl) ?_; simp only [Act.put, List.setIfInBounds_toArray, List.set_cons_zero, List.set_cons_succ]) | (refine WpH.wild1 (by rfl) (fun _ _ => ?_)) | (refine WpH.skip (by rfl) ?_; simp only [Act.put, List.setIfInBounds_toArray, List.set_cons_zero, List.set_cons_succ])) | go_values | go_skip | go_guarded | go_step | go_upon | go_back)
  go_ret2
  exact ⟨⟨m, e0, rfl, h1, h2, h3⟩, hb1⟩
theorem findLine_ok (T : Tr) (p : Option Addr) (bt chunk k : Nat) (S : Nat → Prop) (w : World) (hblk : Blk w bt 121 #[.int .i64 chunk, .pointer p]) (hT : IsTree w S T p) (hbd : T.all.length ≤ 1073741824) (hk : k < linesOf T.all) :
    Calls Tryd.prog 59 #[.pointer (some ⟨bt, 0, none⟩), .int .i64 k] w fun e w' => (∃ m e0, e = .returned (.tuple #[.int .i64 (m : Nat), .nilIface]) ∧ T.all[m]? = some e0 ∧ e0.lines = 1 ∧ linesOf (T.all.take m) = k) ∧ Below w.heap.size w w' := by
  go_enter Tryd.func59, Tryd.ntmps59
  repeat' (first | (go_at_call 98; go_must ((with_reducible refine (found_line T p bt chunk k _ S w hblk hT hbd hk).mono ?_); rintro _ w1 ⟨⟨m, e0, rfl, h1, h2, h3⟩, hb1⟩; dsimp only)) | (with_reducible refine Keep.last ?_) | (with_reducible refine Keep.below (by assumption) ?_) | (with_reducible refine Keep.kept (by assumption) ?_) | (with_reducible refine Keep.alloc ?_) | (with_reducible refine Keep.same ?_) | ((with_reducible refine WpH.here ?_); first | (refine WpH.nil ?_; refine NoP.normal ?_) | (refine WpH.load (by rfl) (by rfl) (by go_simp; rfl) ?_; simp only [Act.put, List.setIfInBounds_toArray, List.set_cons_zero, List.set_cons_succ]) | (refine WpH.loadT (by rfl) (by rfl) (by go_simp; rfl) (by rintro _ _ ⟨⟩; exact ⟨_, _, _, _, _, _, by rfl, by assumption, by assumption⟩) ?_; simp only [Act.put, List.setIfInBounds_toArray, List.set_cons_zero, List.set_cons_succ]) | (refine WpH.pure (by rfl) (fun w_ => by go_simp; (try go_bits); rfl) ?_; simp only [Act.put, List.setIfInBounds_toArray, List.set_cons_zero, List.set_cons_succ]) | (refine WpH.wild1 (by rfl) (fun _ _ => ?_)) | (refine WpH.skip (by rfl) ?_; simp only [Act.put, List.setIfInBounds_toArray, List.set_cons_zero, List.set_cons_succ])) | go_values | go_skip | go_guarded | go_step | go_upon | go_back)
  go_ret2
  exact ⟨⟨m, e0, rfl, h1, h2, h3⟩, hb1⟩
set_option maxRecDepth 200000 in
set_option maxHeartbeats 4000000 in
theorem at_ok (T : Tr) (p : Option Addr) (bt chunk k : Nat) (S : Nat → Prop) (w : World) (hblk : Blk w bt 121 #[.int .i64 chunk, .pointer p]) (hT : IsTree w S T p) (hbd : T.all.length ≤ 1073741824) (hk : k < T.all.length) :
    Calls Tryd.prog 29 #[.pointer (some ⟨bt, 0, none⟩), .int .i64 k] w fun e w' => (∃ e0, e = .returned (.tuple #[e0.agg, .nilIface]) ∧ T.all[k]? = some e0) ∧ Below w.heap.size w w' := by
  have b1 : Below w.heap.size w (w.alloc (.cells #[.int .i64 0, .int .i64 0, .int .i64 0, .int .i32 0, .int .i64 0] 36)) := (Below.refl _ _).alloc (Nat.le_refl _) _
  have b2 := b1.alloc b1.size (.cells #[.int .i64 0, .int .i64 0, .int .i64 0, .int .i32 0, .int .i64 0] 36)
  have hblk1 := hblk.step b2
  have hT1 := hT.step b2
  have c1 := hblk1.cell 1
  simp at c1
  have hB := (Blk.new w 36 #[.int .i64 0, .int .i64 0, .int .i64 0, .int .i32 0, .int .i64 0]).alloc (.cells #[.int .i64 0, .int .i64 0, .int .i64 0, .int .i32 0, .int .i64 0] 36)
  have i1 : ¬ (k : Int) ≥ T.all.length := by omega
  go_enter Tryd.func29, Tryd.ntmps29
  repeat' (first | (go_at_call 22; go_must ((with_reducible refine (tlen_any T p bt chunk _ hblk1 hT1).mono ?_); rintro _ _ ⟨rfl, rfl⟩; dsimp only)) | (with_reducible refine Keep.last ?_) | (with_reducible refine Keep.below (by assumption) ?_) | (with_reducible refine Keep.kept (by assumption) ?_) | (with_reducible refine Keep.alloc ?_) | (with_reducible refine Keep.same ?_) | ((with_reducible refine WpH.here ?_); first | (refine WpH.nil ?_; refine NoP.normal ?_) | (refine WpH.load (by rfl) (by rfl) (by go_simp; rfl) ?_; simp only [Act.put, List.setIfInBounds_toArray, List.set_cons_zero, List.set_cons_succ]) | (refine WpH.loadT (by rfl) (by rfl) (by go_simp; rfl) (by rintro _ _ ⟨⟩; exact ⟨_, _, _, _, _, _, by rfl, by assumption, by assumption⟩) ?_; simp only [Act.put, List.setIfInBounds_toArray, List.set_cons_zero, List.set_cons_succ]) | (refine WpH.pure (by rfl) (fun w_ => by go_simp; (try go_bits); rfl) ?_; simp only [Act.put, List.setIfInBounds_toArray, List.set_cons_zero, List.set_cons_succ]) | (refine WpH.wild1 (by rfl) (fun _ _ => ?_)) | (refine WpH.skip (by rfl) ?_; simp only [Act.put, List.setIfInBounds_toArray, List.set_cons_zero, List.set_cons_succ])) | go_values | go_skip | go_guarded | go_step | go_upon | go_back)
  clear c1 i1 hblk hblk1 b1 hT
  go_loopw [1, 7] (fun i n wr => ∃ (t : Tr) (q : Option Addr) (X Y : List El) (ii : Nat), i = .int .i64 ii ∧ n = .pointer q ∧ IsTree wr S t q ∧ T.all = X ++ t.all ++ Y ∧ X.length + ii = k ∧ ii < t.all.length ∧ Blk wr w.heap.size 36 #[.int .i64 0, .int .i64 0, .int .i64 0, .int .i32 0, .int .i64 0] ∧ Below w.heap.size w wr) (fun _ n wr => highAt n wr)
  case atStart => exact ⟨T, p, [], [], k, rfl, rfl, hT1, by simp, by simp, hk, hB, b2⟩
  case round =>
    obtain ⟨t, q, X, Y, ii, rfl, rfl, ht, hall, hsum, hlt, hblkr, hbel⟩ := hrel
    have hhi := highAt_tree ht
    cases t with
    | nil => exact absurd hlt (by simp [Tr.all])
    | node l row r =>
      have hlen := congrArg List.length hall
      simp only [Tr.all, List.length_append] at hlen hlt
      obtain ⟨hne, b, A, n, c, pl, pr, rfl, hsb, hrow, hl, hr, c0, c1, c2, c3, c4, c5, c6⟩ := ht
      have hbl := lt_of_cell' c0
      have Hall := hid hall
      have Hhi := hid hhi
      have hnl := hrow.1
      have hrlen := hlt
      clear hall hhi c3 c4 c5 c6
      by_cases hc1 : ii < l.all.length
      · have j1 : (ii : Int) < l.all.length := by omega
        repeat' (first | (go_at_call 77; go_must ((with_reducible refine (size_any l pl S _ hl).mono ?_); rintro _ _ ⟨rfl, rfl⟩; dsimp only)) | (with_reducible refine Keep.last ?_) | (with_reducible refine Keep.below (by assumption) ?_) | (with_reducible refine Keep.kept (by assumption) ?_) | (with_reducible refine Keep.alloc ?_) | (with_reducible refine Keep.same ?_) | ((with_reducible refine WpH.here ?_); first | (refine WpH.nil ?_; refine NoP.normal ?_) | (refine WpH.load (by rfl) (by rfl) (by go_simp; rfl) ?_; simp only [Act.put, List.setIfInBounds_toArray, List.set_cons_zero, List.set_cons_succ]) | (refine WpH.loadT (by rfl) (by rfl) (by go_simp; rfl) (by rintro _ _ ⟨⟩; exact ⟨_, _, _, _, _, _, by rfl, by assumption, by assumption⟩) ?_; simp only [Act.put, List.setIfInBounds_toArray, List.set_cons_zero, List.set_cons_succ]) | (refine WpH.pure (by rfl) (fun w_ => by go_simp; (try go_bits); rfl) ?_; simp only [Act.put, List.setIfInBounds_toArray, List.set_cons_zero, List.set_cons_succ]) | (refine WpH.wild1 (by rfl) (fun _ _ => ?_)) | (refine WpH.skip (by rfl) ?_; simp only [Act.put, List.setIfInBounds_toArray, List.set_cons_zero, List.set_cons_succ])) | go_values | go_skip | go_guarded | go_step | go_upon | go_back)
        go_roundw
        case rel => exact ⟨l, pl, X, row ++ (r.all ++ Y), ii, rfl, rfl, hl, by rw [Hall.out]; simp [Tr.all], hsum, hc1, hblkr, hbel⟩
        case measure => rw [highAt_tree hl, Hhi.out]; simp only [Tr.high]; omega
      · obtain ⟨j, rfl⟩ := Nat.exists_eq_add_of_le (Nat.le_of_not_lt hc1)
        by_cases hc2 : j < n
        · have j1 : ¬ (l.all.length : Int) + j < l.all.length := by omega
          have j2 : (l.all.length : Int) + j < l.all.length + n := by omega
          obtain ⟨b1, off, e, rfl, hS, he, e0, e1, e2, e3, e4⟩ := hrow.at_ hc2
          have He := hid he
          clear he
          have g0 := hblkr.cell 0
          have g1 := hblkr.cell 1
          have g2 := hblkr.cell 2
          have g3 := hblkr.cell 3
          have g4 := hblkr.cell 4
          have f0 := hblkr.frozen 0
          have f1 := hblkr.frozen 1
          have f2 := hblkr.frozen 2
          have f3 := hblkr.frozen 3
          have f4 := hblkr.frozen 4
          repeat' (first | (go_at_call 77; go_must ((with_reducible refine (size_any l pl S _ hl).mono ?_); rintro _ _ ⟨rfl, rfl⟩; dsimp only)) | (with_reducible refine Keep.last ?_) | (with_reducible refine Keep.below (by assumption) ?_) | (with_reducible refine Keep.kept (by assumption) ?_) | (with_reducible refine Keep.alloc ?_) | (with_reducible refine Keep.same ?_) | ((with_reducible refine WpH.here ?_); first | (refine WpH.nil ?_; refine NoP.normal ?_) | (refine WpH.load (by rfl) (by rfl) (by go_simp; rfl) ?_; simp only [Act.put, List.setIfInBounds_toArray, List.set_cons_zero, List.set_cons_succ]) | (refine WpH.loadT (by rfl) (by rfl) (by go_simp; rfl) (by rintro _ _ ⟨⟩; exact ⟨_, _, _, _, _, _, by rfl, by assumption, by assumption⟩) ?_; simp only [Act.put, List.setIfInBounds_toArray, List.set_cons_zero, List.set_cons_succ]) | (refine WpH.pure (by rfl) (fun w_ => by go_simp; (try go_bits); rfl) ?_; simp only [Act.put, List.setIfInBounds_toArray, List.set_cons_zero, List.set_cons_succ]) | (refine WpH.wild1 (by rfl) (fun _ _ => ?_)) | (refine WpH.skip (by rfl) ?_; simp only [Act.put, List.setIfInBounds_toArray, List.set_cons_zero, List.set_cons_succ])) | go_values | go_skip | go_guarded | go_step | go_upon | go_back)
          refine bodyPost_ret (v := .tuple #[.agg #[.int .i64 e.epoch, .int .i64 e.rep, .int .i64 e.num, .int .i32 e.char, .int .i64 e.hides], .nilIface]) (by simp [results, Tryd.results29, go_sem, g0, g1, g2, g3, g4]) rfl ⟨⟨e, rfl, ?_⟩, ?_⟩
          · rw [Hall.out, ← hsum, ← Nat.add_assoc]; exact (at_mid X l.all row r.all Y j (by omega)).trans He.out
          · exact ((((hbel.setCell (Nat.le_refl _) _).setCell (Nat.le_refl _) _).setCell (Nat.le_refl _) _).setCell (Nat.le_refl _) _).setCell (Nat.le_refl _) _
        · obtain ⟨j', rfl⟩ := Nat.exists_eq_add_of_le (Nat.le_of_not_lt hc2)
          have j1 : ¬ (l.all.length : Int) + (n + j') < l.all.length := by omega
          have j2 : ¬ (l.all.length : Int) + (n + j') < l.all.length + n := by omega
          repeat' (first | (go_at_call 77; go_must ((with_reducible refine (size_any l pl S _ hl).mono ?_); rintro _ _ ⟨rfl, rfl⟩; dsimp only)) | (with_reducible refine Keep.last ?_) | (with_reducible refine Keep.below (by assumption) ?_) | (with_reducible refine Keep.kept (by assumption) ?_) | (with_reducible refine Keep.alloc ?_) | (with_reducible refine Keep.same ?_) | ((with_reducible refine WpH.here ?_); first | (refine WpH.nil ?_; refine NoP.normal ?_) | (refine WpH.load (by rfl) (by rfl) (by go_simp; rfl) ?_; simp only [Act.put, List.setIfInBounds_toArray, List.set_cons_zero, List.set_cons_succ]) | (refine WpH.loadT (by rfl) (by rfl) (by go_simp; rfl) (by rintro _ _ ⟨⟩; exact ⟨_, _, _, _, _, _, by rfl, by assumption, by assumption⟩) ?_; simp only [Act.put, List.setIfInBounds_toArray, List.set_cons_zero, List.set_cons_succ]) | (refine WpH.pure (by rfl) (fun w_ => by go_simp; (try go_bits); rfl) ?_; simp only [Act.put, List.setIfInBounds_toArray, List.set_cons_zero, List.set_cons_succ]) | (refine WpH.wild1 (by rfl) (fun _ _ => ?_)) | (refine WpH.skip (by rfl) ?_; simp only [Act.put, List.setIfInBounds_toArray, List.set_cons_zero, List.set_cons_succ])) | go_values | go_skip | go_guarded | go_step | go_upon | go_back)
          go_roundw
          case rel => exact ⟨r, pr, X ++ (l.all ++ row), Y, j', congrArg _ (by omega), rfl, hr, by rw [Hall.out]; simp [Tr.all], by simp; omega, by omega, hblkr, hbel⟩
          case measure => rw [highAt_tree hr, Hhi.out]; simp only [Tr.high]; omega
end Go.Proofs.YtogkbddniacgiaaDoor
