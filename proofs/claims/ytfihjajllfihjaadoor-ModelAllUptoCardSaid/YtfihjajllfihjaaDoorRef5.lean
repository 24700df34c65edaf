/- The document's rows of elements: weighed, copied, put, cut, found: the walks. Conditions: the rows lie in memory, fewer than 2^30 elements. -/
import Derived.Test.YtfihjajllfihjaaDoorBel
namespace Go.Proofs.YtfihjajllfihjaaDoor
set_option linter.unusedSimpArgs false
set_option linter.unusedVariables false
open Go Go.RowKit
/-- two boxes -/
theorem boxes2 (w : World) (t u : TypeId) (x y : Array Value) : let W := (w.alloc (.cells x t)).alloc (.cells y u)
    Blk W w.heap.size t x ∧ Blk W (w.heap.size + 1) u y ∧ Below w.heap.size w W := by
  intro W
  refine ⟨(Blk.new w t x).alloc _, ?_, balloc (balloc (Below.refl _ _))⟩
  have := Blk.new (w.alloc (.cells x t)) u y
  rw [show (w.alloc (.cells x t)).heap.size = w.heap.size + 1 from Array.size_push _] at this
  exact this
theorem Blk.five {w : World} {g : Nat} {t : TypeId} {x y z u v : Value} (h : Blk w g t #[x, y, z, u, v]) : w.cell? ⟨g, 0, none⟩ = some x ∧ w.cell? ⟨g, 1, none⟩ = some y ∧ w.cell? ⟨g, 2, none⟩ = some z ∧ w.cell? ⟨g, 3, none⟩ = some u ∧ w.cell? ⟨g, 4, none⟩ = some v ∧ g < w.heap.size :=
  ⟨h.cell 0, h.cell 1, h.cell 2, h.cell 3, h.cell 4, h.lt⟩
theorem size_set (w : World) (p : Addr) (u : Value) : (w.setCell p u).heap.size = w.heap.size := by simp [World.setCell]
theorem refLive_any (e : El) (w : World) : Calls Tryd.prog 47 #[.agg #[.int .i64 e.epoch, .int .i64 e.rep, .int .i64 e.num, .int .i32 e.char, .int .i64 e.hides]] w fun r w' => r = .returned (.bool (decide (e.hides ≤ 0))) ∧ Below w.heap.size w w' := by
  go_enter Tryd.func47, Tryd.ntmps47
  repeat' (first | (with_reducible refine Keep.last ?_) | (with_reducible refine Keep.below (by assumption) ?_) | (with_reducible refine Keep.kept (by assumption) ?_) | (with_reducible refine Keep.alloc ?_) | (with_reducible refine Keep.same ?_) | ((with_reducible refine WpH.here ?_); first | (refine WpH.nil ?_; refine NoP.normal ?_) | (refine WpH.load (by rfl) (by rfl) (by go_simp; rfl) ?_; simp only [Act.put, List.setIfInBounds_toArray, List.set_cons_zero, List.set_cons_succ]) | (refine WpH.loadT (by rfl) (by rfl) (by go_simp; rfl) (by rintro _ _ ⟨⟩; exact ⟨_, _, _, _, _, _, by rfl, by assumption, by assumption⟩) ?_; simp only [Act.put, List.setIfInBounds_toArray, List.set_cons_zero, List.set_cons_succ]) | (refine WpH.pure (by rfl) (fun w_ => by go_simp; (try go_bits); rfl) ?_; simp only [Act.put, List.setIfInBounds_toArray, List.set_cons_zero, List.set_cons_succ]) | (refine WpH.wild1 (by rfl) (fun _ _ => ?_)) | (refine WpH.skip (by rfl) ?_; simp only [Act.put, List.setIfInBounds_toArray, List.set_cons_zero, List.set_cons_succ])) | go_values | go_skip | go_guarded | go_step | go_upon | go_back)
  go_ret
  exact ⟨rfl, balloc (Below.refl _ _)⟩
set_option maxRecDepth 20000 in
theorem refWeigh_any (e : El) (w : World) : Calls Tryd.prog 49 #[.agg #[.int .i64 e.epoch, .int .i64 e.rep, .int .i64 e.num, .int .i32 e.char, .int .i64 e.hides]] w fun r w' => r = .returned (.agg #[.int .i64 e.live, .int .i64 e.lines]) ∧ Below w.heap.size w w' := by
  have HL := hid (fun W => refLive_any e W)
  obtain ⟨hX, hR, hb⟩ := boxes2 w 42 54 #[.int .i64 e.epoch, .int .i64 e.rep, .int .i64 e.num, .int .i32 e.char, .int .i64 e.hides] #[.int .i64 0, .int .i64 0]
  by_cases hh : e.hides ≤ 0
  · simp only [hh, decide_true] at HL
    have h1 : e.live = 1 := by unfold El.live; rw [if_neg (by omega)]
    rw [h1]
    clear h1
    go_enter Tryd.func49, Tryd.ntmps49
    repeat' (first | (go_at_call 47; go_must ((with_reducible refine Calls.mono (HL.out _) ?_); rintro _ w1 ⟨rfl, hb1⟩; obtain ⟨x0, x1, x2, x3, x4, xl⟩ := (hX.step hb1).five; obtain ⟨r0, r1, rf0, rf1⟩ := (hR.step hb1).two; have hl1 := (hR.step hb1).lt; dsimp only)) | (with_reducible refine Keep.last ?_) | (with_reducible refine Keep.below (by assumption) ?_) | (with_reducible refine Keep.kept (by assumption) ?_) | (with_reducible refine Keep.alloc ?_) | (with_reducible refine Keep.same ?_) | ((with_reducible refine WpH.here ?_); first | (refine WpH.nil ?_; refine NoP.normal ?_) | (refine WpH.load (by rfl) (by rfl) (by go_simp; rfl) ?_; simp only [Act.put, List.setIfInBounds_toArray, List.set_cons_zero, List.set_cons_succ]) | (refine WpH.loadT (by rfl) (by rfl) (by go_simp; rfl) (by rintro _ _ ⟨⟩; exact ⟨_, _, _, _, _, _, by rfl, by assumption, by assumption⟩) ?_; simp only [Act.put, List.setIfInBounds_toArray, List.set_cons_zero, List.set_cons_succ]) | (refine WpH.pure (by rfl) (fun w_ => by go_simp; (try go_bits); rfl) ?_; simp only [Act.put, List.setIfInBounds_toArray, List.set_cons_zero, List.set_cons_succ]) | (refine WpH.wild1 (by rfl) (fun _ _ => ?_)) | (refine WpH.skip (by rfl) ?_; simp only [Act.put, List.setIfInBounds_toArray, List.set_cons_zero, List.set_cons_succ])) | go_values | go_skip | go_guarded | go_step | go_upon | go_back)
    · have hc : (e.char == 10) = true := by assumption
      have h2 : e.lines = 1 := by unfold El.lines; rw [if_neg (by omega), if_pos (by simpa using hc)]
      exact bodyPost_ret (v := .agg #[.int .i64 1, .int .i64 1]) (by simp [results, Tryd.results49, go_sem, r0, r1, hl1, size_set]) rfl ⟨by rw [h2]; rfl, by (repeat' (first | (with_reducible exact Below.refl _ _) | (with_reducible assumption) | (with_reducible refine balloc ?_) | (with_reducible refine bdrew ?_) | (with_reducible refine bset ?_ (by (try dsimp only); omega)) | (with_reducible refine bvia ?_ (by assumption))))⟩
    · have hc : (e.char == 10) = false := by assumption
      have h2 : e.lines = 0 := by unfold El.lines; rw [if_neg (by omega), if_neg (by simpa using hc)]
      exact bodyPost_ret (v := .agg #[.int .i64 1, .int .i64 0]) (by simp [results, Tryd.results49, go_sem, r0, r1, hl1, size_set]) rfl ⟨by rw [h2]; rfl, by (repeat' (first | (with_reducible exact Below.refl _ _) | (with_reducible assumption) | (with_reducible refine balloc ?_) | (with_reducible refine bdrew ?_) | (with_reducible refine bset ?_ (by (try dsimp only); omega)) | (with_reducible refine bvia ?_ (by assumption))))⟩
  · have h1 : e.live = 0 := by unfold El.live; rw [if_pos (by omega)]
    have h2 : e.lines = 0 := by unfold El.lines; rw [if_pos (by omega)]
    simp only [hh, decide_false] at HL
    rw [h1, h2]
    clear h1 h2
    go_enter Tryd.func49, Tryd.ntmps49
    repeat' (first | (go_at_call 47; go_must ((with_reducible refine Calls.mono (HL.out _) ?_); rintro _ w1 ⟨rfl, hb1⟩; obtain ⟨x0, x1, x2, x3, x4, xl⟩ := (hX.step hb1).five; obtain ⟨r0, r1, rf0, rf1⟩ := (hR.step hb1).two; have hl1 := (hR.step hb1).lt; dsimp only)) | (with_reducible refine Keep.last ?_) | (with_reducible refine Keep.below (by assumption) ?_) | (with_reducible refine Keep.kept (by assumption) ?_) | (with_reducible refine Keep.alloc ?_) | (with_reducible refine Keep.same ?_) | ((with_reducible refine WpH.here ?_); first | (refine WpH.nil ?_; refine NoP.normal ?_) | (refine WpH.load (by rfl) (by rfl) (by go_simp; rfl) ?_; simp only [Act.put, List.setIfInBounds_toArray, List.set_cons_zero, List.set_cons_succ]) | (refine WpH.loadT (by rfl) (by rfl) (by go_simp; rfl) (by rintro _ _ ⟨⟩; exact ⟨_, _, _, _, _, _, by rfl, by assumption, by assumption⟩) ?_; simp only [Act.put, List.setIfInBounds_toArray, List.set_cons_zero, List.set_cons_succ]) | (refine WpH.pure (by rfl) (fun w_ => by go_simp; (try go_bits); rfl) ?_; simp only [Act.put, List.setIfInBounds_toArray, List.set_cons_zero, List.set_cons_succ]) | (refine WpH.wild1 (by rfl) (fun _ _ => ?_)) | (refine WpH.skip (by rfl) ?_; simp only [Act.put, List.setIfInBounds_toArray, List.set_cons_zero, List.set_cons_succ])) | go_values | go_skip | go_guarded | go_step | go_upon | go_back)
    exact bodyPost_ret (v := .agg #[.int .i64 0, .int .i64 0]) (by simp [results, Tryd.results49, go_sem, r0, r1, hl1, size_set]) rfl ⟨rfl, by (repeat' (first | (with_reducible exact Below.refl _ _) | (with_reducible assumption) | (with_reducible refine balloc ?_) | (with_reducible refine bdrew ?_) | (with_reducible refine bset ?_ (by (try dsimp only); omega)) | (with_reducible refine bvia ?_ (by assumption))))⟩
set_option maxRecDepth 20000 in
set_option maxHeartbeats 1000000 in
theorem refSum_any (A : Option Addr) (n c : Nat) (es : List El) (S : Nat → Prop) (w : World) (h : Row w S A n c es) (hn : n ≤ 1099511627776) :
    Calls Tryd.prog 31 #[.slice A n c] w fun e w' => e = .returned (.agg #[.int .i64 (liveOf es), .int .i64 (linesOf es)]) ∧ Below w.heap.size w w' := by
  have Hr := hid h
  clear h
  obtain ⟨hX, hR, hb⟩ := boxes2 w 54 54 #[.int .i64 0, .int .i64 0] #[.int .i64 0, .int .i64 0]
  go_enter Tryd.func31, Tryd.ntmps31
  repeat' (first | (with_reducible refine Keep.last ?_) | (with_reducible refine Keep.below (by assumption) ?_) | (with_reducible refine Keep.kept (by assumption) ?_) | (with_reducible refine Keep.alloc ?_) | (with_reducible refine Keep.same ?_) | ((with_reducible refine WpH.here ?_); first | (refine WpH.nil ?_; refine NoP.normal ?_) | (refine WpH.load (by rfl) (by rfl) (by go_simp; rfl) ?_; simp only [Act.put, List.setIfInBounds_toArray, List.set_cons_zero, List.set_cons_succ]) | (refine WpH.loadT (by rfl) (by rfl) (by go_simp; rfl) (by rintro _ _ ⟨⟩; exact ⟨_, _, _, _, _, _, by rfl, by assumption, by assumption⟩) ?_; simp only [Act.put, List.setIfInBounds_toArray, List.set_cons_zero, List.set_cons_succ]) | (refine WpH.pure (by rfl) (fun w_ => by go_simp; (try go_bits); rfl) ?_; simp only [Act.put, List.setIfInBounds_toArray, List.set_cons_zero, List.set_cons_succ]) | (refine WpH.wild1 (by rfl) (fun _ _ => ?_)) | (refine WpH.skip (by rfl) ?_; simp only [Act.put, List.setIfInBounds_toArray, List.set_cons_zero, List.set_cons_succ])) | go_values | go_skip | go_guarded | go_step | go_upon | go_back)
  go_loopw [4] (fun i wr => ∃ k : Nat, i = .int .i64 k ∧ k ≤ n ∧ Blk wr (w.heap.size + 1) 54 #[.int .i64 (liveOf (es.take k)), .int .i64 (linesOf (es.take k))] ∧ Blk wr w.heap.size 54 #[.int .i64 0, .int .i64 0] ∧ Below w.heap.size w wr) (fun i wr => n - (intOf i).toNat)
  case atStart => exact ⟨0, rfl, by omega, hR, hX, hb⟩
  case round =>
    obtain ⟨k, rfl, hk, hblk, hres, hbel⟩ := hrel
    have hl1 := liveOf_le (es.take k)
    have hl2 := linesOf_le (es.take k)
    have hl3 : (es.take k).length ≤ k := List.length_take_le _ _
    by_cases hlt : k < n
    · obtain ⟨b, off, e, rfl, hS, he, c0, c1, c2, c3, c4⟩ := (Hr.out.step hbel).at_ hlt
      have hls := liveOf_snoc he
      have hns := linesOf_snoc he
      have hel := e.live_le
      have hen := e.lines_le
      have HH := hid (And.intro hls (And.intro hns he))
      have HW := hid (fun W => refWeigh_any e W)
      clear hls hns he
      have HB := hid (And.intro hblk hres)
      clear hblk hres hX hR
      repeat' (first | (go_at_call 49; go_must ((with_reducible refine Calls.mono (HW.out _) ?_); rintro _ w1 ⟨rfl, hb1⟩; dsimp only)) | (with_reducible refine stop_region 6 ?_) | (with_reducible refine Keep.last ?_) | (with_reducible refine Keep.below (by assumption) ?_) | (with_reducible refine Keep.kept (by assumption) ?_) | (with_reducible refine Keep.alloc ?_) | (with_reducible refine Keep.same ?_) | ((with_reducible refine WpH.here ?_); first | (refine WpH.nil ?_; refine NoP.normal ?_) | (refine WpH.load (by rfl) (by rfl) (by go_simp; rfl) ?_; simp only [Act.put, List.setIfInBounds_toArray, List.set_cons_zero, List.set_cons_succ]) | (refine WpH.loadT (by rfl) (by rfl) (by go_simp; rfl) (by rintro _ _ ⟨⟩; exact ⟨_, _, _, _, _, _, by rfl, by assumption, by assumption⟩) ?_; simp only [Act.put, List.setIfInBounds_toArray, List.set_cons_zero, List.set_cons_succ]) | (refine WpH.pure (by rfl) (fun w_ => by go_simp; (try go_bits); rfl) ?_; simp only [Act.put, List.setIfInBounds_toArray, List.set_cons_zero, List.set_cons_succ]) | (refine WpH.wild1 (by rfl) (fun _ _ => ?_)) | (refine WpH.skip (by rfl) ?_; simp only [Act.put, List.setIfInBounds_toArray, List.set_cons_zero, List.set_cons_succ])) | go_values | go_skip | go_guarded | go_step | go_upon | go_back)
      refine Stop.go ?_
      have eX : Below w1.heap.size w1 (w1.alloc (.cells #[.int .i64 e.live, .int .i64 e.lines] 54)) := balloc (Below.refl _ _)
      have hZ := Blk.new w1 54 #[.int .i64 e.live, .int .i64 e.lines]
      have hblk := (HB.out.1.step hb1).step eX
      have hres := (HB.out.2.step hb1).step eX
      have hbX := bvia (bvia hbel hb1) eX
      have hne : w1.heap.size ≠ w.heap.size + 1 := by have := (HB.out.1.step hb1).lt; omega
      clear c0 c1 c2 c3 c4
      generalize w1.alloc (.cells #[.int .i64 e.live, .int .i64 e.lines] 54) = X at *
      obtain ⟨z0, z1, zf0, zf1⟩ := hZ.two
      obtain ⟨s0, s1, sf0, sf1⟩ := hblk.two
      have hzl := hZ.lt
      have hsl := hblk.lt
      repeat' (first | (with_reducible refine Keep.last ?_) | (with_reducible refine Keep.below (by assumption) ?_) | (with_reducible refine Keep.kept (by assumption) ?_) | (with_reducible refine Keep.alloc ?_) | (with_reducible refine Keep.same ?_) | ((with_reducible refine WpH.here ?_); first | (refine WpH.nil ?_; refine NoP.normal ?_) | (refine WpH.load (by rfl) (by rfl) (by go_simp; rfl) ?_; simp only [Act.put, List.setIfInBounds_toArray, List.set_cons_zero, List.set_cons_succ]) | (refine WpH.loadT (by rfl) (by rfl) (by go_simp; rfl) (by rintro _ _ ⟨⟩; exact ⟨_, _, _, _, _, _, by rfl, by assumption, by assumption⟩) ?_; simp only [Act.put, List.setIfInBounds_toArray, List.set_cons_zero, List.set_cons_succ]) | (refine WpH.pure (by rfl) (fun w_ => by go_simp; (try go_bits); rfl) ?_; simp only [Act.put, List.setIfInBounds_toArray, List.set_cons_zero, List.set_cons_succ]) | (refine WpH.wild1 (by rfl) (fun _ _ => ?_)) | (refine WpH.skip (by rfl) ?_; simp only [Act.put, List.setIfInBounds_toArray, List.set_cons_zero, List.set_cons_succ])) | go_values | go_skip | go_guarded | go_step | go_upon | go_back)
      go_roundw
      case rel =>
        obtain ⟨h1, h2, _⟩ := HH.out
        refine ⟨k + 1, by go_num, by omega, ?_, (hres.far (by show w.heap.size ≠ w.heap.size + 1; omega) _).far (by show w.heap.size ≠ w.heap.size + 1; omega) _, by (repeat' (first | (with_reducible exact Below.refl _ _) | (with_reducible assumption) | (with_reducible refine balloc ?_) | (with_reducible refine bdrew ?_) | (with_reducible refine bset ?_ (by (try dsimp only); omega)) | (with_reducible refine bvia ?_ (by assumption))))⟩
        rw [h1, h2]
        simpa using hblk.set2
      case measure => simp [intOf]; omega
    · obtain rfl : k = n := by omega
      have hl : es.take k = es := List.take_of_length_le (by rw [Hr.out.1]; omega)
      rw [hl] at hblk
      clear hl
      obtain ⟨s0, s1, sf0, sf1⟩ := hblk.two
      obtain ⟨r0, r1, rf0, rf1⟩ := hres.two
      have hrl := hres.lt
      repeat' (first | (with_reducible refine Keep.last ?_) | (with_reducible refine Keep.below (by assumption) ?_) | (with_reducible refine Keep.kept (by assumption) ?_) | (with_reducible refine Keep.alloc ?_) | (with_reducible refine Keep.same ?_) | ((with_reducible refine WpH.here ?_); first | (refine WpH.nil ?_; refine NoP.normal ?_) | (refine WpH.load (by rfl) (by rfl) (by go_simp; rfl) ?_; simp only [Act.put, List.setIfInBounds_toArray, List.set_cons_zero, List.set_cons_succ]) | (refine WpH.loadT (by rfl) (by rfl) (by go_simp; rfl) (by rintro _ _ ⟨⟩; exact ⟨_, _, _, _, _, _, by rfl, by assumption, by assumption⟩) ?_; simp only [Act.put, List.setIfInBounds_toArray, List.set_cons_zero, List.set_cons_succ]) | (refine WpH.pure (by rfl) (fun w_ => by go_simp; (try go_bits); rfl) ?_; simp only [Act.put, List.setIfInBounds_toArray, List.set_cons_zero, List.set_cons_succ]) | (refine WpH.wild1 (by rfl) (fun _ _ => ?_)) | (refine WpH.skip (by rfl) ?_; simp only [Act.put, List.setIfInBounds_toArray, List.set_cons_zero, List.set_cons_succ])) | go_values | go_skip | go_guarded | go_step | go_upon | go_back)
      exact bodyPost_ret (v := .agg #[.int .i64 (liveOf es), .int .i64 (linesOf es)]) (by simp [results, Tryd.results31, go_sem, r0, r1, hrl, size_set]) rfl ⟨rfl, by (repeat' (first | (with_reducible exact Below.refl _ _) | (with_reducible assumption) | (with_reducible refine balloc ?_) | (with_reducible refine bdrew ?_) | (with_reducible refine bset ?_ (by (try dsimp only); omega)) | (with_reducible refine bvia ?_ (by assumption))))⟩
theorem Own.lit {w : World} (cs : Array Value) (es : List El) (base : Nat) (hb : base ≤ w.heap.size) (hm : es.length ≤ maxLen) (hc : cs.toList = cellsOf es) : Own (w.alloc (.cells cs 42)) base (some ⟨w.heap.size, 0, none⟩) es.length es.length es := by
  refine ⟨rfl, ?_⟩
  rw [← hc]
  refine World.ownsRow_lit w cs es.length hb hm ?_
  rw [← Array.length_toList, hc, cellsOf_length]
theorem refCopy_any (A : Option Addr) (n c : Nat) (es : List El) (S : Nat → Prop) (w : World) (h : Row w S A n c es) (hn : n ≤ 1099511627776) :
    Calls Tryd.prog 92 #[.slice A n c] w fun e w' => ∃ A' c', e = .returned (.slice A' n c') ∧ Own w' w.heap.size A' n c' es ∧ Below w.heap.size w w' := by
  have hE := Own.lit (w := w) #[] [] w.heap.size (Nat.le_refl _) (Nat.zero_le _) rfl
  have eE : Below w.heap.size w (w.alloc (.cells #[] 42)) := balloc (Below.refl _ _)
  have h1 := h.step eE
  go_enter Tryd.func92, Tryd.ntmps92
  repeat' (first | ((with_reducible refine append_here ?_); refine wp_append_el w.heap.size _ A 0 0 n c [] es S (by rfl) (by rfl) hE h1 eE.size (by omega) ?_; intro A' c' w1 hA hb1 hsm1 hat1 hz1) | (with_reducible refine Keep.last ?_) | (with_reducible refine Keep.below (by assumption) ?_) | (with_reducible refine Keep.kept (by assumption) ?_) | (with_reducible refine Keep.alloc ?_) | (with_reducible refine Keep.same ?_) | ((with_reducible refine WpH.here ?_); first | (refine WpH.nil ?_; refine NoP.normal ?_) | (refine WpH.load (by rfl) (by rfl) (by go_simp; rfl) ?_; simp only [Act.put, List.setIfInBounds_toArray, List.set_cons_zero, List.set_cons_succ]) | (refine WpH.loadT (by rfl) (by rfl) (by go_simp; rfl) (by rintro _ _ ⟨⟩; exact ⟨_, _, _, _, _, _, by rfl, by assumption, by assumption⟩) ?_; simp only [Act.put, List.setIfInBounds_toArray, List.set_cons_zero, List.set_cons_succ]) | (refine WpH.pure (by rfl) (fun w_ => by go_simp; (try go_bits); rfl) ?_; simp only [Act.put, List.setIfInBounds_toArray, List.set_cons_zero, List.set_cons_succ]) | (refine WpH.wild1 (by rfl) (fun _ _ => ?_)) | (refine WpH.skip (by rfl) ?_; simp only [Act.put, List.setIfInBounds_toArray, List.set_cons_zero, List.set_cons_succ])) | go_values | go_skip | go_guarded | go_step | go_upon | go_back)
  go_ret
  rw [Nat.zero_add, List.nil_append] at *
  exact ⟨A', c', rfl, hA, eE.trans hb1⟩
set_option maxRecDepth 20000 in
set_option maxHeartbeats 1000000 in
theorem refPut_any (A : Option Addr) (n c i : Nat) (B : Option Addr) (m d : Nat) (es fs : List El) (S S' : Nat → Prop) (w : World) (h : Row w S A n c es) (h' : Row w S' B m d fs) (hn : n + m ≤ 1099511627776) (hi : i ≤ n) :
    Calls Tryd.prog 102 #[.slice A n c, .int .i64 i, .slice B m d] w fun e w' => ∃ A' c', e = .returned (.slice A' (n + m) c') ∧ Own w' w.heap.size A' (n + m) c' (es.take i ++ fs ++ es.drop i) ∧ Below w.heap.size w w' := by
  have hT := h.take_ hi
  have hD := (h.drop_ hi).more (S' := fun b => b < w.heap.size) fun b hb _ => hb
  have hF := h'.more (S' := fun b => b < w.heap.size) fun b hb _ => hb
  have HC := hid (refCopy_any A i c _ S w hT (by omega))
  have hic := h.2.1
  have hin := h.len_le
  have hcm := h.2.2.1
  unfold maxLen at hin hcm
  clear hT
  go_enter Tryd.func102, Tryd.ntmps102
  repeat' (first | (go_at_call 92; go_must ((with_reducible refine Calls.mono HC.out ?_); rintro _ w1 ⟨A1, c1, rfl, hA1, hb1⟩; have hF1 := hF.step hb1; have hD1 := hD.step hb1; have hz1 := hb1.size; dsimp only)) | ((with_reducible refine append_here ?_); first | (refine wp_append_el w.heap.size A1 B i c1 m d _ fs _ (by rfl) (by rfl) hA1 hF1 hz1 (by omega) ?_; intro A2 c2 w2 hA2 hb2 hsm2 hat2 hz2; have hD2 := hD1.keep (w' := w2) (fun b hb _ => hb2.block b hb); have hz2' := Nat.le_trans hz1 hz2) | (refine wp_append_el w.heap.size A2 _ (i + m) c2 (n - i) (c - i) _ (es.drop i) _ (by rfl) (by rfl) hA2 hD2 hz2' (by omega) ?_; intro A3 c3 w3 hA3 hb3 hsm3 hat3 hz3)) | (with_reducible refine Keep.last ?_) | (with_reducible refine Keep.below (by assumption) ?_) | (with_reducible refine Keep.kept (by assumption) ?_) | (with_reducible refine Keep.alloc ?_) | (with_reducible refine Keep.same ?_) | ((with_reducible refine WpH.here ?_); first | (refine WpH.nil ?_; refine NoP.normal ?_) | (refine WpH.load (by rfl) (by rfl) (by go_simp; rfl) ?_; simp only [Act.put, List.setIfInBounds_toArray, List.set_cons_zero, List.set_cons_succ]) | (refine WpH.loadT (by rfl) (by rfl) (by go_simp; rfl) (by rintro _ _ ⟨⟩; exact ⟨_, _, _, _, _, _, by rfl, by assumption, by assumption⟩) ?_; simp only [Act.put, List.setIfInBounds_toArray, List.set_cons_zero, List.set_cons_succ]) | (refine WpH.pure (by rfl) (fun w_ => by go_simp; (try go_bits); rfl) ?_; simp only [Act.put, List.setIfInBounds_toArray, List.set_cons_zero, List.set_cons_succ]) | (refine WpH.wild1 (by rfl) (fun _ _ => ?_)) | (refine WpH.skip (by rfl) ?_; simp only [Act.put, List.setIfInBounds_toArray, List.set_cons_zero, List.set_cons_succ])) | go_values | go_skip | go_guarded | go_step | go_upon | go_back)
  skip
  go_ret
  rw [show i + m + (n - i) = n + m from by omega] at hA3 ⊢
  exact ⟨A3, c3, rfl, hA3, (hb1.trans hb2).trans hb3⟩
set_option maxRecDepth 20000 in
set_option maxHeartbeats 1000000 in
theorem refCut_any (A : Option Addr) (n c i k : Nat) (es : List El) (S : Nat → Prop) (w : World) (h : Row w S A n c es) (hn : n ≤ 1099511627776) (hi : i + k ≤ n) :
    Calls Tryd.prog 39 #[.slice A n c, .int .i64 i, .int .i64 k] w fun e w' => ∃ A' c', e = .returned (.slice A' (n - k) c') ∧ Own w' w.heap.size A' (n - k) c' (es.take i ++ es.drop (i + k)) ∧ Below w.heap.size w w' := by
  obtain ⟨q, hq⟩ : ∃ q, q = i + k := ⟨_, rfl⟩
  have hqi : (i : Int) + (k : Int) = (q : Int) := by omega
  have hqn : q ≤ n := by omega
  have hT := h.take_ (show i ≤ n by omega)
  have hD := (h.drop_ hqn).more (S' := fun b => b < w.heap.size) fun b hb _ => hb
  have HC := hid (refCopy_any A i c _ S w.drew hT.drew (by omega))
  have hic := h.2.1
  have hin := h.len_le
  have hcm := h.2.2.1
  unfold maxLen at hin hcm
  have hik : i ≤ n := by omega
  have hic1 : i ≤ c := by omega
  have hic2 : q ≤ c := by omega
  have Hq := hid hq
  clear hT hq hi
  go_enter Tryd.func39, Tryd.ntmps39
  repeat' (first | ((with_reducible refine region_at 1 ?_); refine wp_region_orderT (fun b => b < w.heap.size) [(0, true, false), (1, true, false), (2, true, false), (4, true, false), (5, true, false), (6, true, false), (7, true, false), (8, true, false), (3, false, false), (9, false, false), (10, true, false)] (by kernel_rfl) (by kernel_rfl) (by kernel_rfl) rfl rfl ?_) | (go_at_call 92; go_must ((with_reducible refine Calls.mono HC.out ?_); rintro _ w1 ⟨A1, c1, rfl, hA1, hb1⟩; have hD1 := hD.drew.step hb1; have hz1 : w.heap.size ≤ w1.heap.size := hb1.size; have hk1 : KeepT (fun b => b < w.heap.size) w.drew w1 := ⟨hb1.size, fun b _ h => hb1.block b h⟩; dsimp only)) | ((with_reducible refine append_here ?_); (refine wp_append_el w.heap.size A1 _ i c1 (n - q) (c - q) _ (es.drop q) _ (by rfl) (by rfl) hA1 hD1 hz1 (by omega) ?_; intro A3 c3 w3 hA3 hb3 hsm3 hat3 hz3; have hk3 : KeepT (fun b => b < w.heap.size) w1 w3 := ⟨hz3, fun b _ h => hb3.block b h⟩)) | (with_reducible refine Keep.last ?_) | (with_reducible refine Keep.below (by assumption) ?_) | (with_reducible refine Keep.kept (by assumption) ?_) | (with_reducible refine Keep.alloc ?_) | (with_reducible refine Keep.same ?_) | ((with_reducible refine WpH.here ?_); first | (refine WpH.nil ?_; refine NoP.normal ?_) | (refine WpH.load (by rfl) (by rfl) (by go_simp; rfl) ?_; simp only [Act.put, List.setIfInBounds_toArray, List.set_cons_zero, List.set_cons_succ]) | (refine WpH.loadT (by rfl) (by rfl) (by go_simp; rfl) (by rintro _ _ ⟨⟩; exact ⟨_, _, _, _, _, _, by rfl, by assumption, by assumption⟩) ?_; simp only [Act.put, List.setIfInBounds_toArray, List.set_cons_zero, List.set_cons_succ]) | (refine WpH.pure (by rfl) (fun w_ => by go_simp; (try go_bits); rfl) ?_; simp only [Act.put, List.setIfInBounds_toArray, List.set_cons_zero, List.set_cons_succ]) | (refine WpH.wild1 (by rfl) (fun _ _ => ?_)) | (refine WpH.skip (by rfl) ?_; simp only [Act.put, List.setIfInBounds_toArray, List.set_cons_zero, List.set_cons_succ])) | go_values | go_skip | go_guarded | go_step | go_upon | go_back)
  skip
  go_ret
  have hq := Hq.out
  rw [show i + (n - q) = n - k from by omega] at hA3 ⊢
  rw [hq] at hA3
  exact ⟨A3, c3, rfl, hA3, (undrew hb1).trans hb3⟩
end Go.Proofs.YtfihjajllfihjaaDoor
