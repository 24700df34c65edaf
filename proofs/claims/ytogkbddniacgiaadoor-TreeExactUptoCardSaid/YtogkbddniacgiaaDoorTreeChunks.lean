/- barrowlaw04.TreeChunks: the walk: it returns true, old memory stands. Conditions: the calls lie in memory, the numbers fit their kinds. -/
import Derived.Test.YtogkbddniacgiaaDoorChunks
namespace Go.Proofs.YtogkbddniacgiaaDoor
set_option linter.unusedSimpArgs false
set_option linter.unusedVariables false
open Go Go.RowKit
/-- a call: what it does, where, how many, which elements -/
structure Cl where
  do_ : Int
  i : Int
  n : Int
  b : Option Addr
  m : Nat
  d : Nat
def Cl.cells (o : Cl) : Array Value := #[.int .i64 o.do_, .int .i64 o.i, .int .i64 o.n, .slice o.b o.m o.d]
/-- the calls lie in memory below base, each one's elements too -/
def ClRow (w : World) (base : Nat) (A : Option Addr) (n c : Nat) : Prop :=
  n ≤ c ∧ c ≤ maxLen ∧ ∀ k, k < n → ∃ (b off : Nat) (o : Cl) (ls : List El), A = some ⟨b, off, none⟩ ∧ b < base ∧ w.cell? ⟨b, off + k * 4, none⟩ = some (.int .i64 o.do_) ∧ w.cell? ⟨b, off + k * 4 + 1, none⟩ = some (.int .i64 o.i) ∧ w.cell? ⟨b, off + k * 4 + 2, none⟩ = some (.int .i64 o.n) ∧
    w.cell? ⟨b, off + k * 4 + 3, none⟩ = some (.slice o.b o.m o.d) ∧ Row w (fun b => b < base) o.b o.m o.d ls ∧ W64 o.do_ ∧ W64 o.i ∧ W64 o.n
theorem ClRow.keep {w w' : World} {base : Nat} {A : Option Addr} {n c : Nat} (h : ClRow w base A n c) (hb : Below base w w') : ClRow w' base A n c := by
  refine ⟨h.1, h.2.1, fun k hk => ?_⟩
  obtain ⟨b, off, o, ls, h1, h2, h3, h4, h5, h6, h7, h8⟩ := h.2.2 k hk
  have sm : Same (fun b => b < base) w w' := fun b hb' _ => hb.block b hb'
  exact ⟨b, off, o, ls, h1, h2, sm.cell (a := ⟨b, _, none⟩) h2 h3, sm.cell (a := ⟨b, _, none⟩) h2 h4, sm.cell (a := ⟨b, _, none⟩) h2 h5, sm.cell (a := ⟨b, _, none⟩) h2 h6, h7.keep sm, h8⟩
set_option maxRecDepth 100000 in
set_option maxHeartbeats 4000000 in
/-- where too many would stand: nothing is done -/
theorem chgInsert_much (w : World) (pb gt ck base : Nat) (T : Tr) (do_ i n : Int) (B : Option Addr) (m d : Nat) (ls : List El) (hls : Row w (fun b => b < base) B m d ls) (h : PairAt w pb gt ck T base) (hd : do_ % 8 = 0) (hl : T.all.length ≤ 600) (hb : base ≤ w.heap.size) (hm : ¬ T.all.length + min m 60 ≤ 600) :
    Calls Tryd.prog 38 #[.pointer (some ⟨pb, 0, none⟩), .agg #[.int .i64 do_, .int .i64 i, .int .i64 n, .slice B m d]] w (ChgRet pb gt ck base T (fun T' => T' = T) w) := by
  have hmx := hls.len_le
  unfold maxLen at hmx
  have hmd := hls.2.1
  have Hh := hid h
  obtain ⟨⟨hlp, hlg⟩, ⟨A, c, hp, hr⟩, p, hg, hT⟩ := h
  have b1 : Below w.heap.size w (w.alloc (.cells #[.int .i64 do_, .int .i64 i, .int .i64 n, .slice B m d] 76)) := balloc (Below.refl _ _)
  have hx1 := Blk.new w 76 #[.int .i64 do_, .int .i64 i, .int .i64 n, .slice B m d]
  have hp1 := hp.step b1
  have HW := hid (fun W => within_any do_ 8 (by decide) (by decide) W)
  rw [hd] at HW
  have hgl := hg.lt
  clear hp hg hT hr hd hls
  by_cases hm60 : m ≤ 60
  · rw [Nat.min_eq_left hm60] at hm
    have n1 : (T.all.length : Int) + m > 600 := by omega
    go_enter Tryd.func38, Tryd.ntmps38
    repeat' (first | (with_reducible refine stop_region 1 ?_) | (with_reducible refine Keep.last ?_) | (with_reducible refine Keep.below (by assumption) ?_) | (with_reducible refine Keep.kept (by assumption) ?_) | (with_reducible refine Keep.alloc ?_) | (with_reducible refine Keep.same ?_) | ((with_reducible refine WpH.here ?_); first | (refine WpH.nil ?_; refine NoP.normal ?_) | (refine WpH.load (by rfl) (by rfl) (by go_simp; rfl) ?_; simp only [Act.put, List.setIfInBounds_toArray, List.set_cons_zero, List.set_cons_succ]) | (refine WpH.loadT (by rfl) (by rfl) (by go_simp; rfl) (by rintro _ _ ⟨⟩; exact ⟨_, _, _, _, _, _, by rfl, by assumption, by assumption⟩) ?_; simp only [Act.put, List.setIfInBounds_toArray, List.set_cons_zero, List.set_cons_succ]) | (refine WpH.pure (by rfl) (fun w_ => by go_simp; (try go_bits); rfl) ?_; simp only [Act.put, List.setIfInBounds_toArray, List.set_cons_zero, List.set_cons_succ]) | (refine WpH.wild1 (by rfl) (fun _ _ => ?_)) | (refine WpH.skip (by rfl) ?_; simp only [Act.put, List.setIfInBounds_toArray, List.set_cons_zero, List.set_cons_succ])) | go_values | go_skip | go_guarded | go_step | go_upon | go_back)
    refine Stop.go ?_
    generalize w.alloc (.cells #[.int .i64 do_, .int .i64 i, .int .i64 n, .slice B m d] 76) = W1 at *
    obtain ⟨p0, p1, p2, pl⟩ := hp1.three'
    obtain ⟨x0, x1, x2, x3, -, -, -, -, xl⟩ := hx1.four
    repeat' (first | (go_at_call 23; go_must ((with_reducible refine Calls.mono (HW.out _) ?_); rintro _ _ ⟨rfl, rfl⟩; dsimp only)) | (with_reducible refine Keep.last ?_) | (with_reducible refine Keep.below (by assumption) ?_) | (with_reducible refine Keep.kept (by assumption) ?_) | (with_reducible refine Keep.alloc ?_) | (with_reducible refine Keep.same ?_) | ((with_reducible refine WpH.here ?_); first | (refine WpH.nil ?_; refine NoP.normal ?_) | (refine WpH.load (by rfl) (by rfl) (by go_simp; rfl) ?_; simp only [Act.put, List.setIfInBounds_toArray, List.set_cons_zero, List.set_cons_succ]) | (refine WpH.loadT (by rfl) (by rfl) (by go_simp; rfl) (by rintro _ _ ⟨⟩; exact ⟨_, _, _, _, _, _, by rfl, by assumption, by assumption⟩) ?_; simp only [Act.put, List.setIfInBounds_toArray, List.set_cons_zero, List.set_cons_succ]) | (refine WpH.pure (by rfl) (fun w_ => by go_simp; (try go_bits); rfl) ?_; simp only [Act.put, List.setIfInBounds_toArray, List.set_cons_zero, List.set_cons_succ]) | (refine WpH.wild1 (by rfl) (fun _ _ => ?_)) | (refine WpH.skip (by rfl) ?_; simp only [Act.put, List.setIfInBounds_toArray, List.set_cons_zero, List.set_cons_succ])) | go_values | go_skip | go_guarded | go_step | go_upon | go_back)
    go_ret
    exact ⟨T, rfl, Hh.out.step b1, b1.mono hb, hl, id, rfl⟩
  · rw [Nat.min_eq_right (by omega)] at hm
    have hd60 : 60 ≤ d := by omega
    have n1 : (T.all.length : Int) + 60 > 600 := by omega
    go_enter Tryd.func38, Tryd.ntmps38
    repeat' (first | (with_reducible refine stop_region 1 ?_) | (with_reducible refine Keep.last ?_) | (with_reducible refine Keep.below (by assumption) ?_) | (with_reducible refine Keep.kept (by assumption) ?_) | (with_reducible refine Keep.alloc ?_) | (with_reducible refine Keep.same ?_) | ((with_reducible refine WpH.here ?_); first | (refine WpH.nil ?_; refine NoP.normal ?_) | (refine WpH.load (by rfl) (by rfl) (by go_simp; rfl) ?_; simp only [Act.put, List.setIfInBounds_toArray, List.set_cons_zero, List.set_cons_succ]) | (refine WpH.loadT (by rfl) (by rfl) (by go_simp; rfl) (by rintro _ _ ⟨⟩; exact ⟨_, _, _, _, _, _, by rfl, by assumption, by assumption⟩) ?_; simp only [Act.put, List.setIfInBounds_toArray, List.set_cons_zero, List.set_cons_succ]) | (refine WpH.pure (by rfl) (fun w_ => by go_simp; (try go_bits); rfl) ?_; simp only [Act.put, List.setIfInBounds_toArray, List.set_cons_zero, List.set_cons_succ]) | (refine WpH.wild1 (by rfl) (fun _ _ => ?_)) | (refine WpH.skip (by rfl) ?_; simp only [Act.put, List.setIfInBounds_toArray, List.set_cons_zero, List.set_cons_succ])) | go_values | go_skip | go_guarded | go_step | go_upon | go_back)
    refine Stop.go ?_
    generalize w.alloc (.cells #[.int .i64 do_, .int .i64 i, .int .i64 n, .slice B m d] 76) = W1 at *
    obtain ⟨p0, p1, p2, pl⟩ := hp1.three'
    obtain ⟨x0, x1, x2, x3, -, -, -, -, xl⟩ := hx1.four
    repeat' (first | (go_at_call 23; go_must ((with_reducible refine Calls.mono (HW.out _) ?_); rintro _ _ ⟨rfl, rfl⟩; dsimp only)) | (with_reducible refine Keep.last ?_) | (with_reducible refine Keep.below (by assumption) ?_) | (with_reducible refine Keep.kept (by assumption) ?_) | (with_reducible refine Keep.alloc ?_) | (with_reducible refine Keep.same ?_) | ((with_reducible refine WpH.here ?_); first | (refine WpH.nil ?_; refine NoP.normal ?_) | (refine WpH.load (by rfl) (by rfl) (by go_simp; rfl) ?_; simp only [Act.put, List.setIfInBounds_toArray, List.set_cons_zero, List.set_cons_succ]) | (refine WpH.loadT (by rfl) (by rfl) (by go_simp; rfl) (by rintro _ _ ⟨⟩; exact ⟨_, _, _, _, _, _, by rfl, by assumption, by assumption⟩) ?_; simp only [Act.put, List.setIfInBounds_toArray, List.set_cons_zero, List.set_cons_succ]) | (refine WpH.pure (by rfl) (fun w_ => by go_simp; (try go_bits); rfl) ?_; simp only [Act.put, List.setIfInBounds_toArray, List.set_cons_zero, List.set_cons_succ]) | (refine WpH.wild1 (by rfl) (fun _ _ => ?_)) | (refine WpH.skip (by rfl) ?_; simp only [Act.put, List.setIfInBounds_toArray, List.set_cons_zero, List.set_cons_succ])) | go_values | go_skip | go_guarded | go_step | go_upon | go_back)
    go_ret
    exact ⟨T, rfl, Hh.out.step b1, b1.mono hb, hl, id, rfl⟩
/-- changes by an insert or a removal that is in range -/
theorem chg_any (w : World) (pb gt ck base : Nat) (T : Tr) (do_ n : Int) (i : Nat) (B : Option Addr) (m d : Nat) (ls : List El) (hls : Row w (fun b => b < base) B m d ls) (h : PairAt w pb gt ck T base) (hd : do_ = 0 ∨ do_ = 1 ∧ 0 ≤ n ∧ i + n ≤ T.all.length) (hl : T.all.length ≤ 600) (hi : i ≤ T.all.length) (hb : base ≤ w.heap.size) (hc2 : 2 ≤ ck) (hc64 : ck ≤ 64) :
    Calls Tryd.prog 38 #[.pointer (some ⟨pb, 0, none⟩), .agg #[.int .i64 do_, .int .i64 i, .int .i64 n, .slice B m d]] w (ChgRet pb gt ck base T (fun _ => True) w) := by
  have weak : ∀ {R : Tr → Prop} e w', ChgRet pb gt ck base T R w e w' → ChgRet pb gt ck base T (fun _ => True) w e w' := fun e w' ⟨T', h1, h2, h3, h4, h5, _⟩ => ⟨T', h1, h2, h3, h4, h5, trivial⟩
  rcases hd with rfl | ⟨rfl, h0, hin⟩
  · by_cases hm : T.all.length + min m 60 ≤ 600
    · exact (chgInsert w pb gt ck base T 0 n i B m d ls hls h (by decide) hl hi hb hc2 hc64 hm).mono weak
    · exact (chgInsert_much w pb gt ck base T 0 i n B m d ls hls h (by decide) hl hb hm).mono weak
  · obtain ⟨k, rfl⟩ := Int.eq_ofNat_of_zero_le h0
    exact (chgRemove w pb gt ck base T 1 i k _ h (by decide) hl (by omega) hb hc2 hc64).mono weak
theorem PairAt.begun {w : World} {g gt base : Nat} {ck : Nat} (hg : base ≤ g) (hgt : base ≤ gt) (h1 : Blk w gt 121 #[.int .i64 ck, .pointer none]) (h2 : Blk w g 31 #[.pointer (some ⟨gt, 0, none⟩), .slice none 0 0, .int .i64 ck]) : PairAt w g gt ck .nil base :=
  ⟨⟨hg, hgt⟩, ⟨none, 0, h2, Row.nil _ _ _ _ (Nat.zero_le _)⟩, none, h1, rfl⟩
set_option maxRecDepth 100000 in
set_option maxHeartbeats 4000000 in
theorem tch_true (w : World) (chunk : Int) (A : Option Addr) (n c : Nat) (hA : ClRow w w.heap.size A n c) :
    Calls Tryd.prog 9 #[.int .i64 chunk, .slice A n c] w fun e w' => e = .returned (.bool true) ∧ Below w.heap.size w w' := by
  have HK := hid wakes4_any
  have HG := hid (fun W => begun_any chunk W)
  obtain ⟨ck, hck⟩ : ∃ ck, ck = 2 + (chunk % 63).toNat := ⟨_, rfl⟩
  have hck2 : 2 ≤ ck ∧ ck ≤ 64 := by
    have h1 := Int.emod_nonneg chunk (show (63 : Int) ≠ 0 by decide)
    have h2 := Int.emod_lt_of_pos chunk (show (0 : Int) < 63 by decide)
    omega
  rw [← hck] at HG
  clear hck
  have hnc := hA.1
  have hcm := hA.2.1
  unfold maxLen at hcm
  have Ha := hid hA
  clear hA
  go_enter Tryd.func9, Tryd.ntmps9
  repeat' (first | (go_at_call 19; go_must ((with_reducible refine Calls.mono (HG.out _) ?_); rintro _ w1 ⟨g, gt, rfl, hgt, hg, hne, hbt, hbg, hb1⟩; dsimp only)) | (with_reducible refine Keep.last ?_) | (with_reducible refine Keep.below (by assumption) ?_) | (with_reducible refine Keep.kept (by assumption) ?_) | (with_reducible refine Keep.alloc ?_) | (with_reducible refine Keep.same ?_) | ((with_reducible refine WpH.here ?_); first | (refine WpH.nil ?_; refine NoP.normal ?_) | (refine WpH.load (by rfl) (by rfl) (by go_simp; rfl) ?_; simp only [Act.put, List.setIfInBounds_toArray, List.set_cons_zero, List.set_cons_succ]) | (refine WpH.loadT (by rfl) (by rfl) (by go_simp; rfl) (by rintro _ _ ⟨⟩; exact ⟨_, _, _, _, _, _, by rfl, by assumption, by assumption⟩) ?_; simp only [Act.put, List.setIfInBounds_toArray, List.set_cons_zero, List.set_cons_succ]) | (refine WpH.pure (by rfl) (fun w_ => by go_simp; (try go_bits); rfl) ?_; simp only [Act.put, List.setIfInBounds_toArray, List.set_cons_zero, List.set_cons_succ]) | (refine WpH.wild1 (by rfl) (fun _ _ => ?_)) | (refine WpH.skip (by rfl) ?_; simp only [Act.put, List.setIfInBounds_toArray, List.set_cons_zero, List.set_cons_succ])) | go_values | go_skip | go_guarded | go_step | go_upon | go_back)
  have hP1 := PairAt.begun hg hgt hbt hbg
  clear hbt hbg HG
  go_loopw [6] (fun i wr => ∃ (k : Nat) (T : Tr), i = .int .i64 k ∧ k ≤ n ∧ PairAt wr g gt ck T w.heap.size ∧ Good ck T.rows ∧ T.all.length ≤ 600 ∧ Below w.heap.size w wr) (fun i _ => n - (intOf i).toNat)
  case atStart => exact ⟨0, .nil, rfl, Nat.zero_le _, hP1, Good.nil _, Nat.zero_le _, hb1⟩
  case round =>
    clear hP1 hb1
    obtain ⟨k, T, rfl, hk, hP, hGd, hl, hbr⟩ := hrel
    by_cases hlt : k < n ∧ k < 200
    · obtain ⟨hlt1, hlt2⟩ := hlt
      obtain ⟨b, off, o, ls, rfl, hbb, d0, d1, d2, d3, hrow, i1, i2, i3⟩ := (Ha.out.keep hbr).2.2 k hlt1
      have hbl := lt_of_cell' d0
      dsimp only at hbl
      have HW0 := hid (fun W => within_any o.do_ 2 (by decide) (by decide) W)
      obtain ⟨i', hi'⟩ : ∃ i' : Nat, o.i % ((T.all.length : Int) + 1) = i' := ⟨(o.i % ((T.all.length : Int) + 1)).toNat, by have := Int.emod_nonneg o.i (show ((T.all.length : Int) + 1) ≠ 0 by omega); omega⟩
      have hil : i' ≤ T.all.length := by have := Int.emod_lt_of_pos o.i (show (0 : Int) < (T.all.length : Int) + 1 by omega); omega
      have HW1 := hid (fun W => within_any o.i ((T.all.length : Int) + 1) (by omega) (by omega) W)
      rw [hi'] at HW1
      clear hi'
      obtain ⟨n', hn', hn0, hnl⟩ : ∃ n' : Nat, o.n % ((T.all.length : Int) - i' + 1) = n' ∧ 0 ≤ (n' : Int) ∧ i' + n' ≤ T.all.length := ⟨(o.n % ((T.all.length : Int) - i' + 1)).toNat, by have := Int.emod_nonneg o.n (show ((T.all.length : Int) - i' + 1) ≠ 0 by omega); omega, by omega, by have := Int.emod_lt_of_pos o.n (show (0 : Int) < (T.all.length : Int) - i' + 1 by omega); omega⟩
      have HW2 := hid (fun W => within_any o.n ((T.all.length : Int) - i' + 1) (by omega) (by omega) W)
      rw [hn'] at HW2
      clear hn'
      have hsub : (i' : Int) ≤ T.all.length := by omega
      repeat' (first | (with_reducible refine stop_region 8 ?_) | (with_reducible refine Keep.last ?_) | (with_reducible refine Keep.below (by assumption) ?_) | (with_reducible refine Keep.kept (by assumption) ?_) | (with_reducible refine Keep.alloc ?_) | (with_reducible refine Keep.same ?_) | ((with_reducible refine WpH.here ?_); first | (refine WpH.nil ?_; refine NoP.normal ?_) | (refine WpH.load (by rfl) (by rfl) (by go_simp; rfl) ?_; simp only [Act.put, List.setIfInBounds_toArray, List.set_cons_zero, List.set_cons_succ]) | (refine WpH.loadT (by rfl) (by rfl) (by go_simp; rfl) (by rintro _ _ ⟨⟩; exact ⟨_, _, _, _, _, _, by rfl, by assumption, by assumption⟩) ?_; simp only [Act.put, List.setIfInBounds_toArray, List.set_cons_zero, List.set_cons_succ]) | (refine WpH.pure (by rfl) (fun w_ => by go_simp; (try go_bits); rfl) ?_; simp only [Act.put, List.setIfInBounds_toArray, List.set_cons_zero, List.set_cons_succ]) | (refine WpH.wild1 (by rfl) (fun _ _ => ?_)) | (refine WpH.skip (by rfl) ?_; simp only [Act.put, List.setIfInBounds_toArray, List.set_cons_zero, List.set_cons_succ])) | go_values | go_skip | go_guarded | go_step | go_upon | go_back)
      refine Stop.go ?_
      have hqz : w.heap.size ≤ wr.heap.size := hbr.size
      have eX : Below wr.heap.size wr (wr.alloc (.cells #[.int .i64 o.do_, .int .i64 o.i, .int .i64 o.n, .slice o.b o.m o.d] 76)) := balloc (Below.refl _ _)
      have hX := Blk.new wr 76 #[.int .i64 o.do_, .int .i64 o.i, .int .i64 o.n, .slice o.b o.m o.d]
      clear d0 d1 d2 d3
      generalize wr.alloc (.cells #[.int .i64 o.do_, .int .i64 o.i, .int .i64 o.n, .slice o.b o.m o.d] 76) = X at *
      obtain ⟨x0, x1, x2, x3, xf0, xf1, xf2, xf3, xl⟩ := hX.four
      repeat' (first | (with_reducible refine stop_region 9 ?_) | (go_at_call 23; go_must ((with_reducible refine Calls.mono (HW0.out _) ?_); rintro _ _ ⟨rfl, rfl⟩; dsimp only)) | (with_reducible refine Keep.last ?_) | (with_reducible refine Keep.below (by assumption) ?_) | (with_reducible refine Keep.kept (by assumption) ?_) | (with_reducible refine Keep.alloc ?_) | (with_reducible refine Keep.same ?_) | ((with_reducible refine WpH.here ?_); first | (refine WpH.nil ?_; refine NoP.normal ?_) | (refine WpH.load (by rfl) (by rfl) (by go_simp; rfl) ?_; simp only [Act.put, List.setIfInBounds_toArray, List.set_cons_zero, List.set_cons_succ]) | (refine WpH.loadT (by rfl) (by rfl) (by go_simp; rfl) (by rintro _ _ ⟨⟩; exact ⟨_, _, _, _, _, _, by rfl, by assumption, by assumption⟩) ?_; simp only [Act.put, List.setIfInBounds_toArray, List.set_cons_zero, List.set_cons_succ]) | (refine WpH.pure (by rfl) (fun w_ => by go_simp; (try go_bits); rfl) ?_; simp only [Act.put, List.setIfInBounds_toArray, List.set_cons_zero, List.set_cons_succ]) | (refine WpH.wild1 (by rfl) (fun _ _ => ?_)) | (refine WpH.skip (by rfl) ?_; simp only [Act.put, List.setIfInBounds_toArray, List.set_cons_zero, List.set_cons_succ])) | go_values | go_skip | go_guarded | go_step | go_upon | go_back)
      refine Stop.go ?_
      obtain ⟨f2, hf2, hf01⟩ : ∃ f2, o.do_ % 2 = f2 ∧ (f2 = 0 ∨ f2 = 1) := ⟨_, rfl, by omega⟩
      rw [hf2]
      have hX2 := hX.set_ 0 (.int .i64 f2)
      have e2 : Below wr.heap.size wr (X.setCell ⟨wr.heap.size, 0, none⟩ (.int .i64 f2)) := bset eX (Nat.le_refl _)
      clear x0 x1 x2 x3 xf0 xf1 xf2 xf3 xl hX eX hf2 HW0
      generalize X.setCell ⟨wr.heap.size, 0, none⟩ (.int .i64 f2) = X2 at *
      obtain ⟨x0, x1, x2, x3, xf0, xf1, xf2, xf3, xl⟩ := Blk.four hX2
      obtain ⟨A5, c5, hp5⟩ := (hP.step e2).pair
      obtain ⟨p0, p1, p2, pl⟩ := hp5.1.three'
      repeat' (first | (with_reducible refine stop_region 10 ?_) | ((with_reducible refine region_at 9 ?_); refine wp_region_order [(0, true, false), (1, true, false), (2, true, false), (3, true, false), (4, true, false), (5, true, false), (6, true, false), (7, true, false), (8, false, false), (9, true, false), (10, false, true)] (by kernel_rfl) (by kernel_rfl) (by kernel_rfl) rfl rfl ?_) | (go_at_call 23; go_must ((with_reducible refine Calls.mono (HW1.out _) ?_); rintro _ _ ⟨rfl, rfl⟩; dsimp only)) | (with_reducible refine Keep.last ?_) | (with_reducible refine Keep.below (by assumption) ?_) | (with_reducible refine Keep.kept (by assumption) ?_) | (with_reducible refine Keep.alloc ?_) | (with_reducible refine Keep.same ?_) | ((with_reducible refine WpH.here ?_); first | (refine WpH.nil ?_; refine NoP.normal ?_) | (refine WpH.load (by rfl) (by rfl) (by go_simp; rfl) ?_; simp only [Act.put, List.setIfInBounds_toArray, List.set_cons_zero, List.set_cons_succ]) | (refine WpH.loadT (by rfl) (by rfl) (by go_simp; rfl) (by rintro _ _ ⟨⟩; exact ⟨_, _, _, _, _, _, by rfl, by assumption, by assumption⟩) ?_; simp only [Act.put, List.setIfInBounds_toArray, List.set_cons_zero, List.set_cons_succ]) | (refine WpH.pure (by rfl) (fun w_ => by go_simp; (try go_bits); rfl) ?_; simp only [Act.put, List.setIfInBounds_toArray, List.set_cons_zero, List.set_cons_succ]) | (refine WpH.wild1 (by rfl) (fun _ _ => ?_)) | (refine WpH.skip (by rfl) ?_; simp only [Act.put, List.setIfInBounds_toArray, List.set_cons_zero, List.set_cons_succ])) | go_values | go_skip | go_guarded | go_step | go_upon | go_back)
      refine Stop.go ?_
      have hX3 := (hX2.set_ 1 (.int .i64 i')).drew
      have e3 : Below wr.heap.size wr (X2.setCell ⟨wr.heap.size, 1, none⟩ (.int .i64 i')).drew := (bset e2 (Nat.le_refl _)).drew
      clear x0 x1 x2 x3 xf0 xf1 xf2 xf3 xl hX2 e2 p0 p1 p2 pl hp5 HW1
      generalize (X2.setCell ⟨wr.heap.size, 1, none⟩ (.int .i64 i')).drew = X3 at *
      obtain ⟨x0, x1, x2, x3, xf0, xf1, xf2, xf3, xl⟩ := Blk.four hX3
      rcases hf01 with rfl | rfl
      · have hP3 := hP.step e3
        have hb3 := bvia hbr e3
        have HC := hid (chg_any X3 g gt ck w.heap.size T 0 o.n i' o.b o.m o.d ls (hrow.keep (fun b hb _ => e3.block b (Nat.lt_of_lt_of_le hb hqz))) hP3 (.inl rfl) hl hil hb3.size hck2.1 hck2.2)
        repeat' (first | (go_at_call 38; go_must ((with_reducible refine Calls.mono HC.out ?_); rintro _ w5 ⟨T5, rfl, hP5, hb5, hl5, hg5, -⟩; have hG5 := hid (hg5 hGd); have HN := hid (pchunks_any w5 g gt ck w.heap.size T5 hP5 hG5.out hl5 hck2.2); dsimp only)) | (go_at_call 39; go_must ((with_reducible refine Calls.mono HN.out ?_); rintro _ w6 ⟨rfl, hb6⟩; dsimp only)) | (with_reducible refine Keep.last ?_) | (with_reducible refine Keep.below (by assumption) ?_) | (with_reducible refine Keep.kept (by assumption) ?_) | (with_reducible refine Keep.alloc ?_) | (with_reducible refine Keep.same ?_) | ((with_reducible refine WpH.here ?_); first | (refine WpH.nil ?_; refine NoP.normal ?_) | (refine WpH.load (by rfl) (by rfl) (by go_simp; rfl) ?_; simp only [Act.put, List.setIfInBounds_toArray, List.set_cons_zero, List.set_cons_succ]) | (refine WpH.loadT (by rfl) (by rfl) (by go_simp; rfl) (by rintro _ _ ⟨⟩; exact ⟨_, _, _, _, _, _, by rfl, by assumption, by assumption⟩) ?_; simp only [Act.put, List.setIfInBounds_toArray, List.set_cons_zero, List.set_cons_succ]) | (refine WpH.pure (by rfl) (fun w_ => by go_simp; (try go_bits); rfl) ?_; simp only [Act.put, List.setIfInBounds_toArray, List.set_cons_zero, List.set_cons_succ]) | (refine WpH.wild1 (by rfl) (fun _ _ => ?_)) | (refine WpH.skip (by rfl) ?_; simp only [Act.put, List.setIfInBounds_toArray, List.set_cons_zero, List.set_cons_succ])) | go_values | go_skip | go_guarded | go_step | go_upon | go_back)
        go_roundw
        case rel => exact ⟨k + 1, T5, by go_num, by omega, hP5.step hb6, hG5.out, hl5, bvia (hb3.trans hb5) hb6⟩
        case measure => simp [intOf]; omega
      · obtain ⟨A6, c6, hp6⟩ := (hP.step e3).pair
        obtain ⟨p0, p1, p2, pl⟩ := hp6.1.three'
        repeat' (first | (with_reducible refine stop_region 12 ?_) | ((with_reducible refine region_at 11 ?_); refine wp_region_order [(0, true, false), (1, true, false), (2, true, false), (3, true, false), (4, true, false), (5, true, false), (6, true, false), (7, true, false), (8, true, false), (9, true, false), (10, true, false), (11, false, false), (12, true, false), (13, false, true)] (by kernel_rfl) (by kernel_rfl) (by kernel_rfl) rfl rfl ?_) | (go_at_call 23; go_must ((with_reducible refine Calls.mono (HW2.out _) ?_); rintro _ _ ⟨rfl, rfl⟩; dsimp only)) | (with_reducible refine Keep.last ?_) | (with_reducible refine Keep.below (by assumption) ?_) | (with_reducible refine Keep.kept (by assumption) ?_) | (with_reducible refine Keep.alloc ?_) | (with_reducible refine Keep.same ?_) | ((with_reducible refine WpH.here ?_); first | (refine WpH.nil ?_; refine NoP.normal ?_) | (refine WpH.load (by rfl) (by rfl) (by go_simp; rfl) ?_; simp only [Act.put, List.setIfInBounds_toArray, List.set_cons_zero, List.set_cons_succ]) | (refine WpH.loadT (by rfl) (by rfl) (by go_simp; rfl) (by rintro _ _ ⟨⟩; exact ⟨_, _, _, _, _, _, by rfl, by assumption, by assumption⟩) ?_; simp only [Act.put, List.setIfInBounds_toArray, List.set_cons_zero, List.set_cons_succ]) | (refine WpH.pure (by rfl) (fun w_ => by go_simp; (try go_bits); rfl) ?_; simp only [Act.put, List.setIfInBounds_toArray, List.set_cons_zero, List.set_cons_succ]) | (refine WpH.wild1 (by rfl) (fun _ _ => ?_)) | (refine WpH.skip (by rfl) ?_; simp only [Act.put, List.setIfInBounds_toArray, List.set_cons_zero, List.set_cons_succ])) | go_values | go_skip | go_guarded | go_step | go_upon | go_back)
        refine Stop.go ?_
        have hX4 := (hX3.set_ 2 (.int .i64 n')).drew
        have e4 : Below wr.heap.size wr (X3.setCell ⟨wr.heap.size, 2, none⟩ (.int .i64 n')).drew := (bset e3 (Nat.le_refl _)).drew
        clear x0 x1 x2 x3 xf0 xf1 xf2 xf3 xl hX3 e3 p0 p1 p2 pl hp6 HW2
        generalize (X3.setCell ⟨wr.heap.size, 2, none⟩ (.int .i64 n')).drew = X4 at *
        obtain ⟨x0, x1, x2, x3, xf0, xf1, xf2, xf3, xl⟩ := Blk.four hX4
        have hP3 := hP.step e4
        have hb3 := bvia hbr e4
        have HC := hid (chg_any X4 g gt ck w.heap.size T 1 n' i' o.b o.m o.d ls (hrow.keep (fun b hb _ => e4.block b (Nat.lt_of_lt_of_le hb hqz))) hP3 (.inr ⟨rfl, hn0, by omega⟩) hl hil hb3.size hck2.1 hck2.2)
        repeat' (first | (go_at_call 38; go_must ((with_reducible refine Calls.mono HC.out ?_); rintro _ w5 ⟨T5, rfl, hP5, hb5, hl5, hg5, -⟩; have hG5 := hid (hg5 hGd); have HN := hid (pchunks_any w5 g gt ck w.heap.size T5 hP5 hG5.out hl5 hck2.2); dsimp only)) | (go_at_call 39; go_must ((with_reducible refine Calls.mono HN.out ?_); rintro _ w6 ⟨rfl, hb6⟩; dsimp only)) | (with_reducible refine Keep.last ?_) | (with_reducible refine Keep.below (by assumption) ?_) | (with_reducible refine Keep.kept (by assumption) ?_) | (with_reducible refine Keep.alloc ?_) | (with_reducible refine Keep.same ?_) | ((with_reducible refine WpH.here ?_); first | (refine WpH.nil ?_; refine NoP.normal ?_) | (refine WpH.load (by rfl) (by rfl) (by go_simp; rfl) ?_; simp only [Act.put, List.setIfInBounds_toArray, List.set_cons_zero, List.set_cons_succ]) | (refine WpH.loadT (by rfl) (by rfl) (by go_simp; rfl) (by rintro _ _ ⟨⟩; exact ⟨_, _, _, _, _, _, by rfl, by assumption, by assumption⟩) ?_; simp only [Act.put, List.setIfInBounds_toArray, List.set_cons_zero, List.set_cons_succ]) | (refine WpH.pure (by rfl) (fun w_ => by go_simp; (try go_bits); rfl) ?_; simp only [Act.put, List.setIfInBounds_toArray, List.set_cons_zero, List.set_cons_succ]) | (refine WpH.wild1 (by rfl) (fun _ _ => ?_)) | (refine WpH.skip (by rfl) ?_; simp only [Act.put, List.setIfInBounds_toArray, List.set_cons_zero, List.set_cons_succ])) | go_values | go_skip | go_guarded | go_step | go_upon | go_back)
        go_roundw
        case rel => exact ⟨k + 1, T5, by go_num, by omega, hP5.step hb6, hG5.out, hl5, bvia (hb3.trans hb5) hb6⟩
        case measure => simp [intOf]; omega
    · repeat' (first | (go_at_call 25; go_must ((with_reducible refine Calls.mono (HK.out _) ?_); rintro _ w6 ⟨rfl, hb6⟩; dsimp only)) | (with_reducible refine Keep.last ?_) | (with_reducible refine Keep.below (by assumption) ?_) | (with_reducible refine Keep.kept (by assumption) ?_) | (with_reducible refine Keep.alloc ?_) | (with_reducible refine Keep.same ?_) | ((with_reducible refine WpH.here ?_); first | (refine WpH.nil ?_; refine NoP.normal ?_) | (refine WpH.load (by rfl) (by rfl) (by go_simp; rfl) ?_; simp only [Act.put, List.setIfInBounds_toArray, List.set_cons_zero, List.set_cons_succ]) | (refine WpH.loadT (by rfl) (by rfl) (by go_simp; rfl) (by rintro _ _ ⟨⟩; exact ⟨_, _, _, _, _, _, by rfl, by assumption, by assumption⟩) ?_; simp only [Act.put, List.setIfInBounds_toArray, List.set_cons_zero, List.set_cons_succ]) | (refine WpH.pure (by rfl) (fun w_ => by go_simp; (try go_bits); rfl) ?_; simp only [Act.put, List.setIfInBounds_toArray, List.set_cons_zero, List.set_cons_succ]) | (refine WpH.wild1 (by rfl) (fun _ _ => ?_)) | (refine WpH.skip (by rfl) ?_; simp only [Act.put, List.setIfInBounds_toArray, List.set_cons_zero, List.set_cons_succ])) | go_values | go_skip | go_guarded | go_step | go_upon | go_back)
      all_goals
        go_ret
        exact ⟨rfl, bvia hbr hb6⟩
end Go.Proofs.YtogkbddniacgiaaDoor
