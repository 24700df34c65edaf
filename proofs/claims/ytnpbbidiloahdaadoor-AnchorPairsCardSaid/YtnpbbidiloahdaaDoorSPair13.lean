/- anchor.Span, Same and Sort without a model, barrowkeep.Anchors, the document's Sort: the walks. Conditions: the model and the rows lie in memory. -/
import Derived.Test.YtnpbbidiloahdaaDoorP23
namespace Go.Proofs.YtnpbbidiloahdaaDoor
set_option linter.unusedSimpArgs false
set_option linter.unusedVariables false
open Go Go.RowKit
set_option maxRecDepth 50000 in
set_option maxHeartbeats 2000000 in
theorem asort_nil (w : World) (S' : Nat → Prop) (n c : Nat) (A : Option Addr) (as_ : List Anc) (ha : GRow w S' A n c as_) (hn : n ≤ 30) :
    Calls Tryd.prog 8 #[.pointer none, .slice A n c] w fun e w' => e = .returned (.slice none 0 0) ∧ Below w.heap.size w w' := by
  have HA := hid ha
  have HS := hid (fun W => sortStable_none W none 0)
  have hcap := ha.2.1
  have hcb := ha.2.2.1
  unfold maxLen at hcb
  clear ha
  go_enter Tryd.func8, Tryd.ntmps8
  repeat' (first | go_values | go_skip | go_guarded | go_step | go_upon | go_back)
  go_loopw [5, 15] (fun th i wr => ∃ (k : Nat), i = .int .i64 k ∧ th = .slice none 0 0 ∧ k ≤ n ∧ Below w.heap.size w wr) (fun _ i _ => n - (intOf i).toNat)
  case atStart => exact ⟨0, rfl, rfl, Nat.zero_le _, Below.refl _ _⟩
  case round =>
    obtain ⟨k, rfl, rfl, hk, hbr⟩ := hrel
    by_cases hlt : k < n
    · obtain ⟨b, off, x, rfl, hSb, hbl, hxk, hcell⟩ := (HA.out.step hbr).at_ hlt
      have c0 : wr.cell? ⟨b, off + k * 4, none⟩ = some (.bool x.front) := hcell 0 _ rfl
      have c1 : wr.cell? ⟨b, off + k * 4 + 1, none⟩ = some (.int .i64 x.id.epoch) := hcell 1 _ rfl
      have c2 : wr.cell? ⟨b, off + k * 4 + 2, none⟩ = some (.int .i64 x.id.rep) := hcell 2 _ rfl
      have c3 : wr.cell? ⟨b, off + k * 4 + 3, none⟩ = some (.int .i64 x.id.num) := hcell 3 _ rfl
      have hkI : (k : Int) < n := by omega
      have e1 := balloc (o := .cells #[.bool x.front, .int .i64 x.id.epoch, .int .i64 x.id.rep, .int .i64 x.id.num] 32) (Below.refl _ wr)
      have HW := hid (awhere_nil (wr.alloc (.cells #[.bool x.front, .int .i64 x.id.epoch, .int .i64 x.id.rep, .int .i64 x.id.num] 32)) x)
      clear hcell hxk
      repeat' (first | (go_at_call 16; go_must ((with_reducible refine Calls.mono HW.out ?_); rintro _ w2 ⟨rfl, hb2⟩; dsimp only)) | go_values | go_skip | go_guarded | go_step | go_upon | go_back)
      skip
      go_roundw
      case rel => exact ⟨k + 1, by go_num, rfl, by omega, bvia (bvia hbr e1) hb2⟩
      case measure => simp [intOf]; omega
    · obtain rfl : k = n := by omega
      clear HA hcap hcb hk hlt
      repeat' (first | (go_at_call 17; go_must ((with_reducible refine Calls.mono (HS.out _) ?_); rintro _ w2 ⟨rfl, rfl⟩; dsimp only)) | go_values | go_skip | go_guarded | go_step | go_upon | go_back)
      skip
      go_loopw [10, 37] (fun o i wq => o = .slice none 0 0 ∧ i = .int .i64 0 ∧ wq = w2) (fun _ _ _ => 0)
      case atStart => exact ⟨rfl, rfl, rfl⟩
      case round =>
        obtain ⟨rfl, rfl, rfl⟩ := hrel
        repeat' (first | go_values | go_skip | go_guarded | go_step | go_upon | go_back)
        skip
        go_ret
        exact ⟨rfl, hbr⟩
def spanOf (l : List El) (x y : Anc) : Nat × Nat × Bool := if (whereOf l x).2 = true ∧ (whereOf l y).2 = true then (min (whereOf l x).1 (whereOf l y).1, max (whereOf l x).1 (whereOf l y).1, true) else (0, 0, false)
def sameOf (l : List El) (x y : Anc) : Bool := (whereOf l x).2 && (whereOf l y).2 && decide ((whereOf l x).1 = (whereOf l y).1)
set_option maxRecDepth 50000 in
set_option maxHeartbeats 2000000 in
theorem span_any (w : World) (S : Nat → Prop) (mb : Nat) (l : List El) (K : Nat) (x y : Anc) (h : Mdl w S mb l K) (hl : l.length ≤ 536870912) (hx : x.id.In) (hy : y.id.In) :
    Calls Tryd.prog 6 #[.pointer (some ⟨mb, 0, none⟩), .agg #[.bool x.front, .int .i64 x.id.epoch, .int .i64 x.id.rep, .int .i64 x.id.num], .agg #[.bool y.front, .int .i64 y.id.epoch, .int .i64 y.id.rep, .int .i64 y.id.num]] w fun e w' => e = .returned (.tuple #[.int .i64 (spanOf l x y).1, .int .i64 (spanOf l x y).2.1, .bool (spanOf l x y).2.2]) ∧ Below w.heap.size w w' := by
  have e1 := balloc (o := .cells #[.bool x.front, .int .i64 x.id.epoch, .int .i64 x.id.rep, .int .i64 x.id.num] 32) (Below.refl _ w)
  have e2 := balloc (o := .cells #[.bool y.front, .int .i64 y.id.epoch, .int .i64 y.id.rep, .int .i64 y.id.num] 32) e1
  have hX := (Blk.new w 32 #[.bool x.front, .int .i64 x.id.epoch, .int .i64 x.id.rep, .int .i64 x.id.num]).step (balloc (o := .cells #[.bool y.front, .int .i64 y.id.epoch, .int .i64 y.id.rep, .int .i64 y.id.num] 32) (Below.refl _ _))
  have hY := Blk.new (w.alloc (.cells #[.bool x.front, .int .i64 x.id.epoch, .int .i64 x.id.rep, .int .i64 x.id.num] 32)) 32 #[.bool y.front, .int .i64 y.id.epoch, .int .i64 y.id.rep, .int .i64 y.id.num]
  rw [boxSz] at hY
  have HW1 := hid (awhere_any _ _ mb l K x (h.step e2) hl hx)
  have HW2 := hid (fun W (hb : Below w.heap.size w W) => awhere_any W _ mb l K y (h.step hb) hl hy)
  unfold spanOf
  generalize whereOf l x = wx at *
  generalize whereOf l y = wy at *
  obtain ⟨p, is⟩ := wx
  obtain ⟨q, it⟩ := wy
  dsimp only at HW1 HW2 ⊢
  clear h
  have hmi : ((min p q : Nat) : Int) = min (p : Int) q := by omega
  have hma : ((max p q : Nat) : Int) = max (p : Int) q := by omega
  have Hm := hid (And.intro hmi hma)
  clear hmi hma
  cases is <;> cases it
  · skip
    go_enter Tryd.func6, Tryd.ntmps6
    repeat' (first | (go_at_call 16; go_must (first | ((with_reducible refine Calls.mono HW1.out ?_); rintro _ w1 ⟨rfl, hb1⟩; have B1 := bvia e2 hb1; have hY1 := hY.step hb1; have hX1 := hX.step hb1; have x0 := hX1.cell 0; have x1 := hX1.cell 1; have x2 := hX1.cell 2; have x3 := hX1.cell 3; have xl := hX1.lt; have y0 := hY1.cell 0; have y1 := hY1.cell 1; have y2 := hY1.cell 2; have y3 := hY1.cell 3; have yl := hY1.lt; simp at x0 x1 x2 x3 y0 y1 y2 y3; dsimp only) | ((with_reducible refine Calls.mono (HW2.out _ B1) ?_); rintro _ w2 ⟨rfl, hb2⟩; dsimp only))) | go_values | go_skip | go_guarded | go_step | go_upon | go_back)
    skip
    refine bodyPost_ret (v := .tuple #[.int .i64 0, .int .i64 0, .bool false]) (by simp [results, Tryd.results6, go_sem]) rfl ⟨by simp, bvia B1 hb2⟩
  · skip
    go_enter Tryd.func6, Tryd.ntmps6
    repeat' (first | (go_at_call 16; go_must (first | ((with_reducible refine Calls.mono HW1.out ?_); rintro _ w1 ⟨rfl, hb1⟩; have B1 := bvia e2 hb1; have hY1 := hY.step hb1; have hX1 := hX.step hb1; have x0 := hX1.cell 0; have x1 := hX1.cell 1; have x2 := hX1.cell 2; have x3 := hX1.cell 3; have xl := hX1.lt; have y0 := hY1.cell 0; have y1 := hY1.cell 1; have y2 := hY1.cell 2; have y3 := hY1.cell 3; have yl := hY1.lt; simp at x0 x1 x2 x3 y0 y1 y2 y3; dsimp only) | ((with_reducible refine Calls.mono (HW2.out _ B1) ?_); rintro _ w2 ⟨rfl, hb2⟩; dsimp only))) | go_values | go_skip | go_guarded | go_step | go_upon | go_back)
    skip
    refine bodyPost_ret (v := .tuple #[.int .i64 0, .int .i64 0, .bool false]) (by simp [results, Tryd.results6, go_sem]) rfl ⟨by simp, bvia B1 hb2⟩
  · skip
    go_enter Tryd.func6, Tryd.ntmps6
    repeat' (first | (go_at_call 16; go_must (first | ((with_reducible refine Calls.mono HW1.out ?_); rintro _ w1 ⟨rfl, hb1⟩; have B1 := bvia e2 hb1; have hY1 := hY.step hb1; have hX1 := hX.step hb1; have x0 := hX1.cell 0; have x1 := hX1.cell 1; have x2 := hX1.cell 2; have x3 := hX1.cell 3; have xl := hX1.lt; have y0 := hY1.cell 0; have y1 := hY1.cell 1; have y2 := hY1.cell 2; have y3 := hY1.cell 3; have yl := hY1.lt; simp at x0 x1 x2 x3 y0 y1 y2 y3; dsimp only) | ((with_reducible refine Calls.mono (HW2.out _ B1) ?_); rintro _ w2 ⟨rfl, hb2⟩; dsimp only))) | go_values | go_skip | go_guarded | go_step | go_upon | go_back)
    skip
    refine bodyPost_ret (v := .tuple #[.int .i64 0, .int .i64 0, .bool false]) (by simp [results, Tryd.results6, go_sem]) rfl ⟨by simp, bvia B1 hb2⟩
  · skip
    go_enter Tryd.func6, Tryd.ntmps6
    repeat' (first | (go_at_call 16; go_must (first | ((with_reducible refine Calls.mono HW1.out ?_); rintro _ w1 ⟨rfl, hb1⟩; have B1 := bvia e2 hb1; have hY1 := hY.step hb1; have hX1 := hX.step hb1; have x0 := hX1.cell 0; have x1 := hX1.cell 1; have x2 := hX1.cell 2; have x3 := hX1.cell 3; have xl := hX1.lt; have y0 := hY1.cell 0; have y1 := hY1.cell 1; have y2 := hY1.cell 2; have y3 := hY1.cell 3; have yl := hY1.lt; simp at x0 x1 x2 x3 y0 y1 y2 y3; dsimp only) | ((with_reducible refine Calls.mono (HW2.out _ B1) ?_); rintro _ w2 ⟨rfl, hb2⟩; dsimp only))) | go_values | go_skip | go_guarded | go_step | go_upon | go_back)
    skip
    refine bodyPost_ret (v := .tuple #[.int .i64 (min (p : Int) q), .int .i64 (max (p : Int) q), .bool true]) (by simp [results, Tryd.results6, go_sem]) rfl ⟨by simp [Hm.out.1, Hm.out.2], bvia B1 hb2⟩
theorem beq_int (p q : Nat) : ((p : Int) == (q : Int)) = decide (p = q) := by
  by_cases h : p = q
  · simp [h]
  · have : ¬ (p : Int) = q := by omega
    simp [h, this]
set_option maxRecDepth 50000 in
set_option maxHeartbeats 2000000 in
theorem same_any (w : World) (S : Nat → Prop) (mb : Nat) (l : List El) (K : Nat) (x y : Anc) (h : Mdl w S mb l K) (hl : l.length ≤ 536870912) (hx : x.id.In) (hy : y.id.In) :
    Calls Tryd.prog 7 #[.pointer (some ⟨mb, 0, none⟩), .agg #[.bool x.front, .int .i64 x.id.epoch, .int .i64 x.id.rep, .int .i64 x.id.num], .agg #[.bool y.front, .int .i64 y.id.epoch, .int .i64 y.id.rep, .int .i64 y.id.num]] w fun e w' => e = .returned (.bool (sameOf l x y)) ∧ Below w.heap.size w w' := by
  by_cases hxy : x = y
  · subst hxy
    have hs : sameOf l x x = (whereOf l x).2 := by simp [sameOf]
    rw [hs]
    have hy := hx
    have e1 := balloc (o := .cells #[.bool x.front, .int .i64 x.id.epoch, .int .i64 x.id.rep, .int .i64 x.id.num] 32) (Below.refl _ w)
    have e2 := balloc (o := .cells #[.bool x.front, .int .i64 x.id.epoch, .int .i64 x.id.rep, .int .i64 x.id.num] 32) e1
    have hX := (Blk.new w 32 #[.bool x.front, .int .i64 x.id.epoch, .int .i64 x.id.rep, .int .i64 x.id.num]).step (balloc (o := .cells #[.bool x.front, .int .i64 x.id.epoch, .int .i64 x.id.rep, .int .i64 x.id.num] 32) (Below.refl _ _))
    have hY := Blk.new (w.alloc (.cells #[.bool x.front, .int .i64 x.id.epoch, .int .i64 x.id.rep, .int .i64 x.id.num] 32)) 32 #[.bool x.front, .int .i64 x.id.epoch, .int .i64 x.id.rep, .int .i64 x.id.num]
    rw [boxSz] at hY
    have HW1 := hid (awhere_any _ _ mb l K x (h.step e2) hl hx)
    have HW2 := hid (fun W (hb : Below w.heap.size w W) => awhere_any W _ mb l K x (h.step hb) hl hy)
    clear h hs
    go_enter Tryd.func7, Tryd.ntmps7
    repeat' (first | (go_at_call 16; go_must (first | ((with_reducible refine Calls.mono HW1.out ?_); rintro _ w1 ⟨rfl, hb1⟩; have B1 := bvia e2 hb1; have hY1 := hY.step hb1; have hX1 := hX.step hb1; have x0 := hX1.cell 0; have x1 := hX1.cell 1; have x2 := hX1.cell 2; have x3 := hX1.cell 3; have xl := hX1.lt; have y0 := hY1.cell 0; have y1 := hY1.cell 1; have y2 := hY1.cell 2; have y3 := hY1.cell 3; have yl := hY1.lt; simp at x0 x1 x2 x3 y0 y1 y2 y3; dsimp only) | ((with_reducible refine Calls.mono (HW2.out _ B1) ?_); rintro _ w2 ⟨rfl, hb2⟩; dsimp only))) | go_values | go_skip | go_guarded | go_step | go_upon | go_back)
    skip
    go_ret
    exact ⟨rfl, B1⟩
  · have hxy2 : ¬ (x.front = y.front ∧ x.id.epoch = y.id.epoch ∧ x.id.rep = y.id.rep ∧ x.id.num = y.id.num) := by
      rintro ⟨h1, h2, h3, h4⟩
      obtain ⟨xf, xe, xr, xn⟩ := x
      obtain ⟨yf, ye, yr, yn⟩ := y
      dsimp only at h1 h2 h3 h4
      subst h1 h2 h3 h4
      exact hxy rfl
    have e1 := balloc (o := .cells #[.bool x.front, .int .i64 x.id.epoch, .int .i64 x.id.rep, .int .i64 x.id.num] 32) (Below.refl _ w)
    have e2 := balloc (o := .cells #[.bool y.front, .int .i64 y.id.epoch, .int .i64 y.id.rep, .int .i64 y.id.num] 32) e1
    have hX := (Blk.new w 32 #[.bool x.front, .int .i64 x.id.epoch, .int .i64 x.id.rep, .int .i64 x.id.num]).step (balloc (o := .cells #[.bool y.front, .int .i64 y.id.epoch, .int .i64 y.id.rep, .int .i64 y.id.num] 32) (Below.refl _ _))
    have hY := Blk.new (w.alloc (.cells #[.bool x.front, .int .i64 x.id.epoch, .int .i64 x.id.rep, .int .i64 x.id.num] 32)) 32 #[.bool y.front, .int .i64 y.id.epoch, .int .i64 y.id.rep, .int .i64 y.id.num]
    rw [boxSz] at hY
    have HW1 := hid (awhere_any _ _ mb l K x (h.step e2) hl hx)
    have HW2 := hid (fun W (hb : Below w.heap.size w W) => awhere_any W _ mb l K y (h.step hb) hl hy)
    unfold sameOf
    generalize whereOf l x = wx at *
    generalize whereOf l y = wy at *
    obtain ⟨p, is⟩ := wx
    obtain ⟨q, it⟩ := wy
    dsimp only at HW1 HW2 ⊢
    clear h hxy
    go_enter Tryd.func7, Tryd.ntmps7
    repeat' (first | (go_at_call 16; go_must (first | ((with_reducible refine Calls.mono HW1.out ?_); rintro _ w1 ⟨rfl, hb1⟩; have B1 := bvia e2 hb1; have hY1 := hY.step hb1; have hX1 := hX.step hb1; have x0 := hX1.cell 0; have x1 := hX1.cell 1; have x2 := hX1.cell 2; have x3 := hX1.cell 3; have xl := hX1.lt; have y0 := hY1.cell 0; have y1 := hY1.cell 1; have y2 := hY1.cell 2; have y3 := hY1.cell 3; have yl := hY1.lt; simp at x0 x1 x2 x3 y0 y1 y2 y3; dsimp only) | ((with_reducible refine Calls.mono (HW2.out _ B1) ?_); rintro _ w2 ⟨rfl, hb2⟩; dsimp only))) | go_values | go_skip | go_guarded | go_step | go_upon | go_back)
    all_goals first
      | (go_ret; refine ⟨?_, bvia B1 hb2⟩; first | (show Ending.returned (.bool false) = _; simp [*]; done) | (show Ending.returned (.bool ((p : Int) == (q : Int))) = _; rw [beq_int]; simp [*]; done))
      | (exfalso; simp_all; done)
set_option maxRecDepth 50000 in
set_option maxHeartbeats 2000000 in
theorem anchors_eq (w : World) (S S' : Nat → Prop) (A B : Option Addr) (n c d : Nat) (es : List Anc) (h : GRow w S A n c es) (h' : GRow w S' B n d es) :
    Calls Tryd.prog 9 #[.slice A n c, .slice B n d] w fun e w' => e = .returned (.bool true) ∧ Below w.heap.size w w' := by
  have HA := hid h
  have HB := hid h'
  have hcap := h.2.1
  have hcb := h.2.2.1
  have hcap' := h'.2.1
  unfold maxLen at hcb
  clear h h'
  go_enter Tryd.func9, Tryd.ntmps9
  repeat' (first | go_values | go_skip | go_guarded | go_step | go_upon | go_back)
  go_loopw [5] (fun i wr => ∃ (k : Nat), i = .int .i64 k ∧ k ≤ n ∧ Below w.heap.size w wr) (fun i _ => n - (intOf i).toNat)
  case atStart => exact ⟨0, rfl, Nat.zero_le _, Below.refl _ _⟩
  case round =>
    obtain ⟨k, rfl, hk, hbr⟩ := hrel
    by_cases hlt : k < n
    · obtain ⟨b, off, x, rfl, hSb, hbl, hxk, hcell⟩ := ((HA.out.step hbr).step (Below.refl _ _).drew).at_ hlt
      obtain ⟨b', off', x', rfl, hSb', hbl', hxk', hcell'⟩ := ((HB.out.step hbr).step (Below.refl _ _).drew).at_ hlt
      obtain rfl : x' = x := by rw [hxk] at hxk'; injection hxk' with h; exact h.symm
      have c0 : wr.drew.cell? ⟨b, off + k * 4, none⟩ = some (.bool x'.front) := hcell 0 _ rfl
      have c1 : wr.drew.cell? ⟨b, off + k * 4 + 1, none⟩ = some (.int .i64 x'.id.epoch) := hcell 1 _ rfl
      have c2 : wr.drew.cell? ⟨b, off + k * 4 + 2, none⟩ = some (.int .i64 x'.id.rep) := hcell 2 _ rfl
      have c3 : wr.drew.cell? ⟨b, off + k * 4 + 3, none⟩ = some (.int .i64 x'.id.num) := hcell 3 _ rfl
      have d0 : wr.drew.cell? ⟨b', off' + k * 4, none⟩ = some (.bool x'.front) := hcell' 0 _ rfl
      have d1 : wr.drew.cell? ⟨b', off' + k * 4 + 1, none⟩ = some (.int .i64 x'.id.epoch) := hcell' 1 _ rfl
      have d2 : wr.drew.cell? ⟨b', off' + k * 4 + 2, none⟩ = some (.int .i64 x'.id.rep) := hcell' 2 _ rfl
      have d3 : wr.drew.cell? ⟨b', off' + k * 4 + 3, none⟩ = some (.int .i64 x'.id.num) := hcell' 3 _ rfl
      have hkI : (k : Int) < n := by omega
      clear hcell hcell' hxk hxk'
      repeat' (first | ((with_reducible refine region_at 6 ?_); refine wp_region_order [(0, true, false), (1, true, false), (2, true, false), (3, true, false), (4, true, false), (5, true, false), (6, true, false), (7, true, false), (8, true, false)] (by kernel_rfl) (by kernel_rfl) (by kernel_rfl) rfl rfl ?_) | (with_reducible refine Keep.last ?_) | (with_reducible refine Keep.below (by assumption) ?_) | (with_reducible refine Keep.kept (by assumption) ?_) | (with_reducible refine Keep.alloc ?_) | (with_reducible refine Keep.same ?_) | ((with_reducible refine WpH.here ?_); first | (refine WpH.nil ?_; refine NoP.normal ?_) | (refine WpH.load (by rfl) (by rfl) (by go_simp; rfl) ?_; simp only [Act.put, List.setIfInBounds_toArray, List.set_cons_zero, List.set_cons_succ]) | (refine WpH.loadT (by rfl) (by rfl) (by go_simp; rfl) (by rintro _ _ ⟨⟩; exact ⟨_, _, _, _, _, _, by rfl, by assumption, by assumption⟩) ?_; simp only [Act.put, List.setIfInBounds_toArray, List.set_cons_zero, List.set_cons_succ]) | (refine WpH.pure (by rfl) (fun w_ => by go_simp; (try go_bits); rfl) ?_; simp only [Act.put, List.setIfInBounds_toArray, List.set_cons_zero, List.set_cons_succ]) | (refine WpH.wild1 (by rfl) (fun _ _ => ?_)) | (refine WpH.skip (by rfl) ?_; simp only [Act.put, List.setIfInBounds_toArray, List.set_cons_zero, List.set_cons_succ])) | go_values | go_skip | go_guarded | go_step | go_upon | go_back)
      skip
      go_roundw
      case rel => exact ⟨k + 1, by go_num, by omega, hbr.drew⟩
      case measure => simp [intOf]; omega
    · obtain rfl : k = n := by omega
      repeat' (first | (with_reducible refine Keep.last ?_) | (with_reducible refine Keep.below (by assumption) ?_) | (with_reducible refine Keep.kept (by assumption) ?_) | (with_reducible refine Keep.alloc ?_) | (with_reducible refine Keep.same ?_) | ((with_reducible refine WpH.here ?_); first | (refine WpH.nil ?_; refine NoP.normal ?_) | (refine WpH.load (by rfl) (by rfl) (by go_simp; rfl) ?_; simp only [Act.put, List.setIfInBounds_toArray, List.set_cons_zero, List.set_cons_succ]) | (refine WpH.loadT (by rfl) (by rfl) (by go_simp; rfl) (by rintro _ _ ⟨⟩; exact ⟨_, _, _, _, _, _, by rfl, by assumption, by assumption⟩) ?_; simp only [Act.put, List.setIfInBounds_toArray, List.set_cons_zero, List.set_cons_succ]) | (refine WpH.pure (by rfl) (fun w_ => by go_simp; (try go_bits); rfl) ?_; simp only [Act.put, List.setIfInBounds_toArray, List.set_cons_zero, List.set_cons_succ]) | (refine WpH.wild1 (by rfl) (fun _ _ => ?_)) | (refine WpH.skip (by rfl) ?_; simp only [Act.put, List.setIfInBounds_toArray, List.set_cons_zero, List.set_cons_succ])) | go_values | go_skip | go_guarded | go_step | go_upon | go_back)
      go_ret
      exact ⟨rfl, hbr⟩
/-- the document's order: gap by gap -/
def srtOf (l : List El) (as_ : List Anc) (k : Nat) : List Anc := (List.range k).flatMap fun j => as_.filter fun x => decide (whereOf l x = (j, true))
theorem srt_next {l : List El} {as_ : List Anc} {k : Nat} : srtOf l as_ (k + 1) = srtOf l as_ k ++ as_.filter fun x => decide (whereOf l x = (k, true)) := by
  unfold srtOf
  rw [List.range_succ, List.flatMap_append]
  simp
set_option maxRecDepth 50000 in
set_option maxHeartbeats 4000000 in
theorem r13sort_any (w : World) (S S' : Nat → Prop) (A B : Option Addr) (n c m d : Nat) (l : List El) (as_ : List Anc) (h : Row w S A n c l) (hn : n ≤ 1048576) (ha : GRow w S' B m d as_) (hm : m ≤ 30) :
    Calls Tryd.prog 10 #[.slice A n c, .slice B m d] w fun e w' => (∃ O q, e = .returned (.slice O (srtOf l as_ (n + 1)).length q) ∧ GOwn 32 w' w.heap.size O (srtOf l as_ (n + 1)).length q (srtOf l as_ (n + 1))) ∧ Below w.heap.size w w' := by
  have HR := hid h
  have HA := hid ha
  have hal := ha.1
  have hcap := ha.2.1
  have hcb := ha.2.2.1
  have hcap' := h.2.1
  unfold maxLen at hcb
  have hcm := h.2.2.1
  unfold maxLen at hcm
  clear h ha
  go_enter Tryd.func10, Tryd.ntmps10
  repeat' (first | go_values | go_skip | go_guarded | go_step | go_upon | go_back)
  go_loopw [5, 6] (fun o i wr => ∃ (k : Nat) (O : Option Addr) (q : Nat), i = .int .i64 k ∧ o = .slice O (srtOf l as_ k).length q ∧ k ≤ n + 1 ∧ (srtOf l as_ k).length ≤ 30 * k ∧ GOwn 32 wr w.heap.size O (srtOf l as_ k).length q (srtOf l as_ k) ∧ Below w.heap.size w wr) (fun _ i _ => n + 1 - (intOf i).toNat)
  case atStart => exact ⟨0, none, 0, rfl, rfl, Nat.zero_le _, Nat.le_refl _, GOwn.nil _ _ _, Below.refl _ _⟩
  case round =>
    obtain ⟨k, O, q, rfl, rfl, hk, hlen, hown, hbr⟩ := hrel
    by_cases hlt : k ≤ n
    · have hkI : (k : Int) ≤ n := by omega
      repeat' (first | go_values | go_skip | go_guarded | go_step | go_upon | go_back)
      go_loopw [5, 7] (fun o i wq => ∃ (j : Nat) (T : List Anc) (O : Option Addr) (q : Nat), i = .int .i64 j ∧ o = .slice O T.length q ∧ T = srtOf l as_ k ++ ((as_.take j).filter fun x => decide (whereOf l x = (k, true))) ∧ j ≤ m ∧ T.length ≤ 30 * k + j ∧ GOwn 32 wq w.heap.size O T.length q T ∧ Below w.heap.size w wq) (fun _ i _ => m - (intOf i).toNat)
      case atStart => exact ⟨0, srtOf l as_ k, O, q, rfl, rfl, by simp, Nat.zero_le _, hlen, hown, hbr⟩
      case round =>
        clear hown hbr
        obtain ⟨j, T, O, q, rfl, rfl, hT, hj, hTl, hown, hbr⟩ := hrel
        by_cases hlt2 : j < m
        · obtain ⟨b, off, x, rfl, hSb, hbl, hxk, hcell⟩ := (HA.out.step hbr).at_ hlt2
          have c0 : wr.cell? ⟨b, off + j * 4, none⟩ = some (.bool x.front) := hcell 0 _ rfl
          have c1 : wr.cell? ⟨b, off + j * 4 + 1, none⟩ = some (.int .i64 x.id.epoch) := hcell 1 _ rfl
          have c2 : wr.cell? ⟨b, off + j * 4 + 2, none⟩ = some (.int .i64 x.id.rep) := hcell 2 _ rfl
          have c3 : wr.cell? ⟨b, off + j * 4 + 3, none⟩ = some (.int .i64 x.id.num) := hcell 3 _ rfl
          have hjI : (j : Int) < m := by omega
          have HW := hid (r13where_any A n c l S wr x (HR.out.step hbr) (by omega))
          have Hown := hid hown
          have hstep : (as_.take (j + 1)).filter (fun x => decide (whereOf l x = (k, true))) = (as_.take j).filter (fun x => decide (whereOf l x = (k, true))) ++ (if whereOf l x = (k, true) then [x] else []) := by
            rw [take_at hxk, List.filter_append]
            by_cases hw : whereOf l x = (k, true) <;> simp [hw]
          generalize hwo : whereOf l x = wo at *
          obtain ⟨p, is⟩ := wo
          dsimp only at HW
          by_cases hpk : p = k ∧ is = true
          · obtain ⟨rfl, rfl⟩ := hpk
            rw [if_pos rfl] at hstep
            have Hx := hid (And.intro hstep hT)
            clear hcell hxk hown hwo hstep hT
            repeat' (first | (go_at_call 5; go_must ((with_reducible refine Calls.mono HW.out ?_); rintro _ w2 ⟨rfl, hb2⟩; have c0 := kc hb2 c0; have c1 := kc hb2 c1; have c2 := kc hb2 c2; have c3 := kc hb2 c3; have hbl := Nat.lt_of_lt_of_le hbl hb2.size; dsimp only)) | ((with_reducible refine app_ancs_here ?_); go_must (have e3 := balloc (o := .cells #[.bool x.front, .int .i64 x.id.epoch, .int .i64 x.id.rep, .int .i64 x.id.num] 32) (Below.refl _ w2); refine wp_append_ancs w.heap.size O _ T.length q 1 1 T [x] (fun _ => True) (by rfl) (by rfl) ((Hown.out.step hb2).step e3) (grow_anc w2 x) (Nat.le_trans hbr.size (Nat.le_trans hb2.size e3.size)) (by omega) ?_; intro A4 c4 w4 hown4 hb4 hsm4 hat4 hz4)) | go_values | go_skip | go_guarded | go_step | go_upon | go_back)
            skip
            go_roundw
            case rel => exact ⟨j + 1, T ++ [x], A4, c4, by go_num, by simp, by rw [Hx.out.1, Hx.out.2, List.append_assoc], by omega, by simp; omega, by simpa using hown4, (bvia (bvia hbr hb2) e3).trans hb4⟩
            case measure => simp [intOf]; omega
          · have hne : ¬ (p, is) = (k, true) := fun e => by injection e with e1 e2; exact hpk ⟨e1, e2⟩
            rw [if_neg hne, List.append_nil] at hstep
            have Hx := hid (And.intro hstep hT)
            clear hcell hxk hown hwo hstep hT hne
            cases is
            · repeat' (first | (go_at_call 5; go_must ((with_reducible refine Calls.mono HW.out ?_); rintro _ w2 ⟨rfl, hb2⟩; dsimp only)) | go_values | go_skip | go_guarded | go_step | go_upon | go_back)
              skip
              go_roundw
              case rel => exact ⟨j + 1, T, O, q, by go_num, rfl, by rw [Hx.out.1]; exact Hx.out.2, by omega, by omega, Hown.out.step hb2, bvia hbr hb2⟩
              case measure => simp [intOf]; omega
            · have hpk2 : ¬ (p : Int) = k := fun e => hpk ⟨by omega, rfl⟩
              clear hpk
              repeat' (first | (go_at_call 5; go_must ((with_reducible refine Calls.mono HW.out ?_); rintro _ w2 ⟨rfl, hb2⟩; dsimp only)) | go_values | go_skip | go_guarded | go_step | go_upon | go_back)
              skip
              go_roundw
              case rel => exact ⟨j + 1, T, O, q, by go_num, rfl, by rw [Hx.out.1]; exact Hx.out.2, by omega, by omega, Hown.out.step hb2, bvia hbr hb2⟩
              case measure => simp [intOf]; omega
        · obtain rfl : j = m := by omega
          have hT2 : T = srtOf l as_ (k + 1) := by rw [hT, srt_next, List.take_of_length_le (by omega)]
          subst hT2
          clear hT
          have Hown := hid hown
          clear hown
          repeat' (first | go_values | go_skip | go_guarded | go_step | go_upon | go_back)
          skip
          go_roundw
          case rel => exact ⟨k + 1, O, q, by go_num, rfl, by omega, by omega, Hown.out, hbr⟩
          case measure => simp [intOf]; omega
    · obtain rfl : k = n + 1 := by omega
      have hkI : ¬ ((n + 1 : Nat) : Int) ≤ n := by omega
      have Hown := hid hown
      clear hown
      repeat' (first | go_values | go_skip | go_guarded | go_step | go_upon | go_back)
      skip
      go_ret
      exact ⟨⟨O, q, rfl, Hown.out⟩, hbr⟩
end Go.Proofs.YtnpbbidiloahdaaDoor
