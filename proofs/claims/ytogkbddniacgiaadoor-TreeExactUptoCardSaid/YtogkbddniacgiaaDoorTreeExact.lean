/- barrowlaw04.TreeExact: the walk: it returns true, old memory stands. Conditions: the calls and the reasons lie in memory, the numbers fit their kinds. -/
import Derived.Test.YtogkbddniacgiaaDoorExact5
import Derived.Test.YtogkbddniacgiaaDoorExact6
namespace Go.Proofs.YtogkbddniacgiaaDoor
set_option linter.unusedSimpArgs false
set_option linter.unusedVariables false
open Go Go.RowKit
variable {a : Nat → Addr}
/-- changes, whatever is asked -/
theorem chg_all (w : World) (pb gt ck base : Nat) (T : Tr) (do_ i n : Int) (B : Option Addr) (m d : Nat) (ls : List El) (hls : Row w (fun b => b < base) B m d ls) (h : PairAt w pb gt ck T base) (hd : do_ % 8 ≤ 2) (hl : T.all.length ≤ 600) (hb : base ≤ w.heap.size) (hc2 : 2 ≤ ck) (hc64 : ck ≤ 64) (hs : Sents w (fun b => b < base) a) :
    Calls Tryd.prog 38 #[.pointer (some ⟨pb, 0, none⟩), .agg #[.int .i64 do_, .int .i64 i, .int .i64 n, .slice B m d]] w (ChgRet pb gt ck base T (fun _ => True) w) := by
  have weak : ∀ {R : Tr → Prop} e w', ChgRet pb gt ck base T R w e w' → ChgRet pb gt ck base T (fun _ => True) w e w' := fun e w' ⟨T', h1, h2, h3, h4, h5, _⟩ => ⟨T', h1, h2, h3, h4, h5, trivial⟩
  rcases (show do_ % 8 = 0 ∨ do_ % 8 = 1 ∨ do_ % 8 = 2 from by omega) with hd | hd | hd
  · by_cases hm : T.all.length + min m 60 ≤ 600
    · by_cases hi : i < 0 ∨ T.all.length < i
      · exact (chgInsert_out w pb gt ck base T do_ i n B m d ls hls h hd hl hi hb hm hs).mono weak
      · obtain ⟨k, rfl⟩ := Int.eq_ofNat_of_zero_le (show 0 ≤ i by omega)
        exact (chgInsert w pb gt ck base T do_ n k B m d ls hls h hd hl (by omega) hb hc2 hc64 hm).mono weak
    · exact (chgInsert_much w pb gt ck base T do_ i n B m d ls hls h hd hl hb hm).mono weak
  · by_cases hi : i < 0 ∨ T.all.length < i ∨ n < 0 ∨ (T.all.length : Int) - i < n
    · exact (chgRemove_out w pb gt ck base T do_ i n _ h hd hl hi hb hs).mono weak
    · obtain ⟨k, rfl⟩ := Int.eq_ofNat_of_zero_le (show 0 ≤ i by omega)
      obtain ⟨q, rfl⟩ := Int.eq_ofNat_of_zero_le (show 0 ≤ n by omega)
      exact (chgRemove w pb gt ck base T do_ k q _ h hd hl (by omega) hb hc2 hc64).mono weak
  · by_cases hi : i < 0 ∨ (T.all.length : Int) ≤ i
    · exact (chgSet_out w pb gt ck base T do_ i n B m d ls hls h hd hl hi hb hs).mono weak
    · obtain ⟨k, rfl⟩ := Int.eq_ofNat_of_zero_le (show 0 ≤ i by omega)
      exact (chgSet w pb gt ck base T do_ n k B m d ls hls h hd hl (by omega) hb hc2 hc64).mono weak
/-- what is asked, whatever it is -/
theorem asks_all (w : World) (pb gt ck base : Nat) (T : Tr) (q i : Int) (h : PairAt w pb gt ck T base) (hq : 3 ≤ q ∧ q ≤ 6) (hl : T.all.length ≤ 600) (hs : Sents w (fun b => b < base) a) :
    Calls Tryd.prog 64 #[.pointer (some ⟨pb, 0, none⟩), .int .i64 q, .int .i64 i] w fun e w' => e = .returned (.bool true) ∧ Below w.heap.size w w' := by
  rcases (show q = 3 ∨ q = 4 ∨ q = 5 ∨ q = 6 from by omega) with rfl | rfl | rfl | rfl
  · by_cases hi : i < 0 ∨ (T.all.length : Int) ≤ i
    · exact asksAt_out w pb gt ck base T i h hi hs
    · obtain ⟨k, rfl⟩ := Int.eq_ofNat_of_zero_le (show 0 ≤ i by omega)
      exact asksAt w pb gt ck base T k h hl (by omega)
  · by_cases hi : i < 0 ∨ (T.all.length : Int) < i
    · exact asksBefore_out w pb gt ck base T i h hi hs
    · obtain ⟨k, rfl⟩ := Int.eq_ofNat_of_zero_le (show 0 ≤ i by omega)
      exact asksBefore w pb gt ck base T k h hl (by omega)
  · by_cases hi : i < 0 ∨ (liveOf T.all : Int) ≤ i
    · exact asksFind_out w pb gt ck base T i h hl hi hs
    · obtain ⟨k, rfl⟩ := Int.eq_ofNat_of_zero_le (show 0 ≤ i by omega)
      exact asksFind w pb gt ck base T k h hl (by omega)
  · by_cases hi : i < 0 ∨ (linesOf T.all : Int) ≤ i
    · exact asksFindLine_out w pb gt ck base T i h hl hi hs
    · obtain ⟨k, rfl⟩ := Int.eq_ofNat_of_zero_le (show 0 ≤ i by omega)
      exact asksFindLine w pb gt ck base T k h hl (by omega)
set_option maxRecDepth 100000 in
set_option maxHeartbeats 8000000 in
theorem tex_true (w : World) (chunk : Int) (A : Option Addr) (n c : Nat) (hA : ClRow w w.heap.size A n c) (hs : Sents w (fun b => b < w.heap.size) a) :
    Calls Tryd.prog 16 #[.int .i64 chunk, .slice A n c] w fun e w' => e = .returned (.bool true) ∧ Below w.heap.size w w' := by
  have HK := hid wakes4_any
  have HG := hid (fun W => begun_any chunk W)
  obtain ⟨ck, hck⟩ : ∃ ck, ck = 2 + (chunk % 63).toNat := ⟨_, rfl⟩
  have hck2 : 2 ≤ ck ∧ ck ≤ 64 := by
    have h1 := Int.emod_nonneg chunk (show (63 : Int) ≠ 0 by decide)
    have h2 := Int.emod_lt_of_pos chunk (show (0 : Int) < 63 by decide)
    omega
  rw [← hck] at HG
  clear hck
  have hnc := hA.1
  have hcm := hA.2.1
  unfold maxLen at hcm
  have Ha := hid hA
  have Hs := hid hs
  clear hA hs
  go_enter Tryd.func16, Tryd.ntmps16
  repeat' (first | (go_at_call 19; go_must ((with_reducible refine Calls.mono (HG.out _) ?_); rintro _ w1 ⟨g, gt, rfl, hgt, hg, hne, hbt, hbg, hb1⟩; dsimp only)) | (with_reducible refine Keep.last ?_) | (with_reducible refine Keep.below (by assumption) ?_) | (with_reducible refine Keep.kept (by assumption) ?_) | (with_reducible refine Keep.alloc ?_) | (with_reducible refine Keep.same ?_) | ((with_reducible refine WpH.here ?_); first | (refine WpH.nil ?_; refine NoP.normal ?_) | (refine WpH.load (by rfl) (by rfl) (by go_simp; rfl) ?_; simp only [Act.put, List.setIfInBounds_toArray, List.set_cons_zero, List.set_cons_succ]) | (refine WpH.loadT (by rfl) (by rfl) (by go_simp; rfl) (by rintro _ _ ⟨⟩; exact ⟨_, _, _, _, _, _, by rfl, by assumption, by assumption⟩) ?_; simp only [Act.put, List.setIfInBounds_toArray, List.set_cons_zero, List.set_cons_succ]) | (refine WpH.pure (by rfl) (fun w_ => by go_simp; (try go_bits); rfl) ?_; simp only [Act.put, List.setIfInBounds_toArray, List.set_cons_zero, List.set_cons_succ]) | (refine WpH.wild1 (by rfl) (fun _ _ => ?_)) | (refine WpH.skip (by rfl) ?_; simp only [Act.put, List.setIfInBounds_toArray, List.set_cons_zero, List.set_cons_succ])) | go_values | go_skip | go_guarded | go_step | go_upon | go_back)
  have hP1 := PairAt.begun hg hgt hbt hbg
  clear hbt hbg HG
  go_loopw [6] (fun i wr => ∃ (k : Nat) (T : Tr), i = .int .i64 k ∧ k ≤ n ∧ PairAt wr g gt ck T w.heap.size ∧ Good ck T.rows ∧ T.all.length ≤ 600 ∧ Below w.heap.size w wr) (fun i _ => n - (intOf i).toNat)
  case atStart => exact ⟨0, .nil, rfl, Nat.zero_le _, hP1, Good.nil _, Nat.zero_le _, hb1⟩
  case round =>
    clear hP1 hb1
    obtain ⟨k, T, rfl, hk, hP, hGd, hl, hbr⟩ := hrel
    by_cases hlt : k < n ∧ k < 200
    · obtain ⟨hlt1, hlt2⟩ := hlt
      have hlt2' : (k : Int) < 200 := by omega
      obtain ⟨b, off, o, ls, rfl, hbb, d0, d1, d2, d3, hrow, i1, i2, i3⟩ := (Ha.out.keep hbr).2.2 k hlt1
      have hbl := lt_of_cell' d0
      dsimp only at hbl
      obtain ⟨q, hq, hq0, hq8⟩ : ∃ q, o.do_ % 8 = q ∧ 0 ≤ q ∧ q < 8 := ⟨_, rfl, by omega, by omega⟩
      have HW := hid (fun W => within_any o.do_ 8 (by decide) (by decide) W)
      rw [hq] at HW
      have hz := hbr.size
      by_cases c1 : q ≤ 2
      · have HC := hid (chg_all wr g gt ck w.heap.size T o.do_ o.i o.n o.b o.m o.d ls hrow hP (by omega) hl hz hck2.1 hck2.2 (Hs.out.step hbr))
        have HG0 := hid hGd
        clear hP hq hGd
        repeat' (first | (with_reducible refine stop_region 14 ?_) | (go_at_call 23; go_must ((with_reducible refine Calls.mono (HW.out _) ?_); rintro _ _ ⟨rfl, rfl⟩; dsimp only)) | (go_at_call 38; go_must ((with_reducible refine Calls.mono HC.out ?_); rintro _ w5 ⟨T5, rfl, hP5, hb5, hl5, hg5, -⟩; dsimp only)) | (with_reducible refine Keep.last ?_) | (with_reducible refine Keep.below (by assumption) ?_) | (with_reducible refine Keep.kept (by assumption) ?_) | (with_reducible refine Keep.alloc ?_) | (with_reducible refine Keep.same ?_) | ((with_reducible refine WpH.here ?_); first | (refine WpH.nil ?_; refine NoP.normal ?_) | (refine WpH.load (by rfl) (by rfl) (by go_simp; rfl) ?_; simp only [Act.put, List.setIfInBounds_toArray, List.set_cons_zero, List.set_cons_succ]) | (refine WpH.loadT (by rfl) (by rfl) (by go_simp; rfl) (by rintro _ _ ⟨⟩; exact ⟨_, _, _, _, _, _, by rfl, by assumption, by assumption⟩) ?_; simp only [Act.put, List.setIfInBounds_toArray, List.set_cons_zero, List.set_cons_succ]) | (refine WpH.pure (by rfl) (fun w_ => by go_simp; (try go_bits); rfl) ?_; simp only [Act.put, List.setIfInBounds_toArray, List.set_cons_zero, List.set_cons_succ]) | (refine WpH.wild1 (by rfl) (fun _ _ => ?_)) | (refine WpH.skip (by rfl) ?_; simp only [Act.put, List.setIfInBounds_toArray, List.set_cons_zero, List.set_cons_succ])) | go_values | go_skip | go_guarded | go_step | go_upon | go_back)
        refine Stop.go ?_
        have hG5 := hg5 HG0.out
        have hbw5 := hbr.trans hb5
        clear hg5
        obtain ⟨A6, c6, hp6⟩ := (hP5).pair
        obtain ⟨p0, p1, p2, pl⟩ := hp6.1.three'
        obtain ⟨p6, hg6, hT6⟩ := (hP5).tree
        have HL6 := hid (tlen_any T5 p6 gt ck w5.drew hg6.drew hT6.drew)
        repeat' (first | ((with_reducible refine region_at 14 ?_); refine wp_region_order [(0, true, false), (1, true, false), (2, true, false), (3, true, false), (4, true, false), (5, true, false), (6, true, false), (8, true, false), (9, true, false), (10, true, false), (11, true, false), (12, true, false), (7, false, false), (13, true, false), (14, true, false)] (by kernel_rfl) (by kernel_rfl) (by kernel_rfl) rfl rfl ?_) | ((with_reducible refine WpH.here ?_); refine WpH.wild2 (by rfl) (fun _ _ => ?_)) | (go_at_call 22; go_must ((with_reducible refine Calls.mono HL6.out ?_); rintro _ _ ⟨rfl, rfl⟩; dsimp only)) | (with_reducible refine Keep.last ?_) | (with_reducible refine Keep.below (by assumption) ?_) | (with_reducible refine Keep.kept (by assumption) ?_) | (with_reducible refine Keep.alloc ?_) | (with_reducible refine Keep.same ?_) | ((with_reducible refine WpH.here ?_); first | (refine WpH.nil ?_; refine NoP.normal ?_) | (refine WpH.load (by rfl) (by rfl) (by go_simp; rfl) ?_; simp only [Act.put, List.setIfInBounds_toArray, List.set_cons_zero, List.set_cons_succ]) | (refine WpH.loadT (by rfl) (by rfl) (by go_simp; rfl) (by rintro _ _ ⟨⟩; exact ⟨_, _, _, _, _, _, by rfl, by assumption, by assumption⟩) ?_; simp only [Act.put, List.setIfInBounds_toArray, List.set_cons_zero, List.set_cons_succ]) | (refine WpH.pure (by rfl) (fun w_ => by go_simp; (try go_bits); rfl) ?_; simp only [Act.put, List.setIfInBounds_toArray, List.set_cons_zero, List.set_cons_succ]) | (refine WpH.wild1 (by rfl) (fun _ _ => ?_)) | (refine WpH.skip (by rfl) ?_; simp only [Act.put, List.setIfInBounds_toArray, List.set_cons_zero, List.set_cons_succ])) | go_values | go_skip | go_guarded | go_step | go_upon | go_back)
        skip
        go_roundw
        case rel => exact ⟨k + 1, T5, by go_num, by omega, (hP5).drew, hG5, hl5, (hbw5).drew⟩
        case measure => simp [intOf]; omega
      · by_cases c2 : q = 7
        · subst c2
          have HC := hid (same_any wr g gt ck w.heap.size T hP hGd hl hck2.2)
          clear c1
          repeat' (first | (with_reducible refine stop_region 14 ?_) | (go_at_call 23; go_must ((with_reducible refine Calls.mono (HW.out _) ?_); rintro _ _ ⟨rfl, rfl⟩; dsimp only)) | (go_at_call 63; go_must ((with_reducible refine Calls.mono HC.out ?_); rintro _ w5 ⟨rfl, hb5⟩; dsimp only)) | (with_reducible refine Keep.last ?_) | (with_reducible refine Keep.below (by assumption) ?_) | (with_reducible refine Keep.kept (by assumption) ?_) | (with_reducible refine Keep.alloc ?_) | (with_reducible refine Keep.same ?_) | ((with_reducible refine WpH.here ?_); first | (refine WpH.nil ?_; refine NoP.normal ?_) | (refine WpH.load (by rfl) (by rfl) (by go_simp; rfl) ?_; simp only [Act.put, List.setIfInBounds_toArray, List.set_cons_zero, List.set_cons_succ]) | (refine WpH.loadT (by rfl) (by rfl) (by go_simp; rfl) (by rintro _ _ ⟨⟩; exact ⟨_, _, _, _, _, _, by rfl, by assumption, by assumption⟩) ?_; simp only [Act.put, List.setIfInBounds_toArray, List.set_cons_zero, List.set_cons_succ]) | (refine WpH.pure (by rfl) (fun w_ => by go_simp; (try go_bits); rfl) ?_; simp only [Act.put, List.setIfInBounds_toArray, List.set_cons_zero, List.set_cons_succ]) | (refine WpH.wild1 (by rfl) (fun _ _ => ?_)) | (refine WpH.skip (by rfl) ?_; simp only [Act.put, List.setIfInBounds_toArray, List.set_cons_zero, List.set_cons_succ])) | go_values | go_skip | go_guarded | go_step | go_upon | go_back)
          refine Stop.go ?_
          have hP5 := hP.step hb5
          have hbw5 := bvia hbr hb5
          obtain ⟨A6, c6, hp6⟩ := (hP5).pair
          obtain ⟨p0, p1, p2, pl⟩ := hp6.1.three'
          obtain ⟨p6, hg6, hT6⟩ := (hP5).tree
          have HL6 := hid (tlen_any T p6 gt ck w5.drew hg6.drew hT6.drew)
          repeat' (first | ((with_reducible refine region_at 14 ?_); refine wp_region_order [(0, true, false), (1, true, false), (2, true, false), (3, true, false), (4, true, false), (5, true, false), (6, true, false), (8, true, false), (9, true, false), (10, true, false), (11, true, false), (12, true, false), (7, false, false), (13, true, false), (14, true, false)] (by kernel_rfl) (by kernel_rfl) (by kernel_rfl) rfl rfl ?_) | ((with_reducible refine WpH.here ?_); refine WpH.wild2 (by rfl) (fun _ _ => ?_)) | (go_at_call 22; go_must ((with_reducible refine Calls.mono HL6.out ?_); rintro _ _ ⟨rfl, rfl⟩; dsimp only)) | (with_reducible refine Keep.last ?_) | (with_reducible refine Keep.below (by assumption) ?_) | (with_reducible refine Keep.kept (by assumption) ?_) | (with_reducible refine Keep.alloc ?_) | (with_reducible refine Keep.same ?_) | ((with_reducible refine WpH.here ?_); first | (refine WpH.nil ?_; refine NoP.normal ?_) | (refine WpH.load (by rfl) (by rfl) (by go_simp; rfl) ?_; simp only [Act.put, List.setIfInBounds_toArray, List.set_cons_zero, List.set_cons_succ]) | (refine WpH.loadT (by rfl) (by rfl) (by go_simp; rfl) (by rintro _ _ ⟨⟩; exact ⟨_, _, _, _, _, _, by rfl, by assumption, by assumption⟩) ?_; simp only [Act.put, List.setIfInBounds_toArray, List.set_cons_zero, List.set_cons_succ]) | (refine WpH.pure (by rfl) (fun w_ => by go_simp; (try go_bits); rfl) ?_; simp only [Act.put, List.setIfInBounds_toArray, List.set_cons_zero, List.set_cons_succ]) | (refine WpH.wild1 (by rfl) (fun _ _ => ?_)) | (refine WpH.skip (by rfl) ?_; simp only [Act.put, List.setIfInBounds_toArray, List.set_cons_zero, List.set_cons_succ])) | go_values | go_skip | go_guarded | go_step | go_upon | go_back)
          skip
          go_roundw
          case rel => exact ⟨k + 1, T, by go_num, by omega, (hP5).drew, hGd, hl, (hbw5).drew⟩
          case measure => simp [intOf]; omega
        · have HC := hid (asks_all wr g gt ck w.heap.size T q o.i hP (by omega) hl (Hs.out.step hbr))
          clear hq
          repeat' (first | (with_reducible refine stop_region 14 ?_) | (go_at_call 23; go_must ((with_reducible refine Calls.mono (HW.out _) ?_); rintro _ _ ⟨rfl, rfl⟩; dsimp only)) | (go_at_call 64; go_must ((with_reducible refine Calls.mono HC.out ?_); rintro _ w5 ⟨rfl, hb5⟩; dsimp only)) | (with_reducible refine Keep.last ?_) | (with_reducible refine Keep.below (by assumption) ?_) | (with_reducible refine Keep.kept (by assumption) ?_) | (with_reducible refine Keep.alloc ?_) | (with_reducible refine Keep.same ?_) | ((with_reducible refine WpH.here ?_); first | (refine WpH.nil ?_; refine NoP.normal ?_) | (refine WpH.load (by rfl) (by rfl) (by go_simp; rfl) ?_; simp only [Act.put, List.setIfInBounds_toArray, List.set_cons_zero, List.set_cons_succ]) | (refine WpH.loadT (by rfl) (by rfl) (by go_simp; rfl) (by rintro _ _ ⟨⟩; exact ⟨_, _, _, _, _, _, by rfl, by assumption, by assumption⟩) ?_; simp only [Act.put, List.setIfInBounds_toArray, List.set_cons_zero, List.set_cons_succ]) | (refine WpH.pure (by rfl) (fun w_ => by go_simp; (try go_bits); rfl) ?_; simp only [Act.put, List.setIfInBounds_toArray, List.set_cons_zero, List.set_cons_succ]) | (refine WpH.wild1 (by rfl) (fun _ _ => ?_)) | (refine WpH.skip (by rfl) ?_; simp only [Act.put, List.setIfInBounds_toArray, List.set_cons_zero, List.set_cons_succ])) | go_values | go_skip | go_guarded | go_step | go_upon | go_back)
          refine Stop.go ?_
          have hP5 := hP.step hb5
          have hbw5 := bvia hbr hb5
          obtain ⟨A6, c6, hp6⟩ := (hP5).pair
          obtain ⟨p0, p1, p2, pl⟩ := hp6.1.three'
          obtain ⟨p6, hg6, hT6⟩ := (hP5).tree
          have HL6 := hid (tlen_any T p6 gt ck w5.drew hg6.drew hT6.drew)
          repeat' (first | ((with_reducible refine region_at 14 ?_); refine wp_region_order [(0, true, false), (1, true, false), (2, true, false), (3, true, false), (4, true, false), (5, true, false), (6, true, false), (8, true, false), (9, true, false), (10, true, false), (11, true, false), (12, true, false), (7, false, false), (13, true, false), (14, true, false)] (by kernel_rfl) (by kernel_rfl) (by kernel_rfl) rfl rfl ?_) | ((with_reducible refine WpH.here ?_); refine WpH.wild2 (by rfl) (fun _ _ => ?_)) | (go_at_call 22; go_must ((with_reducible refine Calls.mono HL6.out ?_); rintro _ _ ⟨rfl, rfl⟩; dsimp only)) | (with_reducible refine Keep.last ?_) | (with_reducible refine Keep.below (by assumption) ?_) | (with_reducible refine Keep.kept (by assumption) ?_) | (with_reducible refine Keep.alloc ?_) | (with_reducible refine Keep.same ?_) | ((with_reducible refine WpH.here ?_); first | (refine WpH.nil ?_; refine NoP.normal ?_) | (refine WpH.load (by rfl) (by rfl) (by go_simp; rfl) ?_; simp only [Act.put, List.setIfInBounds_toArray, List.set_cons_zero, List.set_cons_succ]) | (refine WpH.loadT (by rfl) (by rfl) (by go_simp; rfl) (by rintro _ _ ⟨⟩; exact ⟨_, _, _, _, _, _, by rfl, by assumption, by assumption⟩) ?_; simp only [Act.put, List.setIfInBounds_toArray, List.set_cons_zero, List.set_cons_succ]) | (refine WpH.pure (by rfl) (fun w_ => by go_simp; (try go_bits); rfl) ?_; simp only [Act.put, List.setIfInBounds_toArray, List.set_cons_zero, List.set_cons_succ]) | (refine WpH.wild1 (by rfl) (fun _ _ => ?_)) | (refine WpH.skip (by rfl) ?_; simp only [Act.put, List.setIfInBounds_toArray, List.set_cons_zero, List.set_cons_succ])) | go_values | go_skip | go_guarded | go_step | go_upon | go_back)
          skip
          go_roundw
          case rel => exact ⟨k + 1, T, by go_num, by omega, (hP5).drew, hGd, hl, (hbw5).drew⟩
          case measure => simp [intOf]; omega
    · have HC := hid (same_any wr g gt ck w.heap.size T hP hGd hl hck2.2)
      repeat' (first | (go_at_call 63; go_must ((with_reducible refine Calls.mono HC.out ?_); rintro _ w5 ⟨rfl, hb5⟩; dsimp only)) | (go_at_call 25; go_must ((with_reducible refine Calls.mono (HK.out _) ?_); rintro _ w6 ⟨rfl, hb6⟩; dsimp only)) | (with_reducible refine Keep.last ?_) | (with_reducible refine Keep.below (by assumption) ?_) | (with_reducible refine Keep.kept (by assumption) ?_) | (with_reducible refine Keep.alloc ?_) | (with_reducible refine Keep.same ?_) | ((with_reducible refine WpH.here ?_); first | (refine WpH.nil ?_; refine NoP.normal ?_) | (refine WpH.load (by rfl) (by rfl) (by go_simp; rfl) ?_; simp only [Act.put, List.setIfInBounds_toArray, List.set_cons_zero, List.set_cons_succ]) | (refine WpH.loadT (by rfl) (by rfl) (by go_simp; rfl) (by rintro _ _ ⟨⟩; exact ⟨_, _, _, _, _, _, by rfl, by assumption, by assumption⟩) ?_; simp only [Act.put, List.setIfInBounds_toArray, List.set_cons_zero, List.set_cons_succ]) | (refine WpH.pure (by rfl) (fun w_ => by go_simp; (try go_bits); rfl) ?_; simp only [Act.put, List.setIfInBounds_toArray, List.set_cons_zero, List.set_cons_succ]) | (refine WpH.wild1 (by rfl) (fun _ _ => ?_)) | (refine WpH.skip (by rfl) ?_; simp only [Act.put, List.setIfInBounds_toArray, List.set_cons_zero, List.set_cons_succ])) | go_values | go_skip | go_guarded | go_step | go_upon | go_back)
      all_goals
        go_ret
        exact ⟨rfl, bvia (bvia hbr hb5) hb6⟩
end Go.Proofs.YtogkbddniacgiaaDoor
