/- Rows of operations: the walks of Swap, Along, Cross and of the document's. Conditions: the rows lie in memory, the numbers fit their kinds. -/
import Derived.Test.YtogkbddniacgiaaDoorOps
namespace Go.Proofs.YtogkbddniacgiaaDoor
set_option linter.unusedSimpArgs false
set_option linter.unusedVariables false
open Go Go.RowKit
theorem four_boxes (w : World) (t : TypeId) (x y z u : Array Value) : let W := (((w.alloc (.cells x t)).alloc (.cells y t)).alloc (.cells z t)).alloc (.cells u t)
    Blk W w.heap.size t x ∧ Blk W (w.heap.size + 1) t y ∧ Blk W (w.heap.size + 1 + 1) t z ∧ Blk W (w.heap.size + 1 + 1 + 1) t u ∧ Below w.heap.size w W := by
  intro W
  obtain ⟨h1, h2, h3, h4⟩ := three_boxes w t x y z
  refine ⟨h1.alloc _, h2.alloc _, h3.alloc _, ?_, h4.alloc h4.size _⟩
  have s1 : (w.alloc (.cells x t)).heap.size = w.heap.size + 1 := Array.size_push _
  have s2 : ((w.alloc (.cells x t)).alloc (.cells y t)).heap.size = w.heap.size + 1 + 1 := by rw [← s1]; exact Array.size_push _
  have s3 : (((w.alloc (.cells x t)).alloc (.cells y t)).alloc (.cells z t)).heap.size = w.heap.size + 1 + 1 + 1 := by rw [← s2]; exact Array.size_push _
  have := Blk.new (((w.alloc (.cells x t)).alloc (.cells y t)).alloc (.cells z t)) t u
  rw [s3] at this
  exact this
theorem KeepT.set {T : Nat → Prop} {w w' : World} {p : Addr} {u : Value} (h : KeepT T w w') (hp : ¬ T p.block) : KeepT T w (w'.setCell p u) :=
  ⟨by rw [size_setCell]; exact h.size, fun b hb ht => (Below.heap_setCell _ _ _ _ (fun e => hp (e ▸ ht))).trans (h.block b hb ht)⟩
theorem Keep.set4 {T : Nat → Prop} {t : Bool} {w : World} {X : Prop} {b : Nat} {x y z u : Value} (hp : ¬ T b) (h : X) : Keep T t w ((((w.setCell ⟨b, 0, none⟩ x).setCell ⟨b, 1, none⟩ y).setCell ⟨b, 2, none⟩ z).setCell ⟨b, 3, none⟩ u) X :=
  Keep.kept (((((KeepT.refl T w).set hp).set hp).set hp).set hp) h
theorem Keep.set4D {T : Nat → Prop} {t : Bool} {w : World} {X : Prop} {b : Nat} {x y z u : Value} (hp : ¬ T b) (h : X) : Keep T t w.drew ((((w.setCell ⟨b, 0, none⟩ x).setCell ⟨b, 1, none⟩ y).setCell ⟨b, 2, none⟩ z).setCell ⟨b, 3, none⟩ u).drew X :=
  Keep.set4 (w := w.drew) hp h
set_option maxRecDepth 20000 in
set_option maxHeartbeats 2000000 in
theorem swap_any (a b : Opn) (w : World) (ha : a.In) (hb : b.In) (h0 : 0 ≤ b.at_) : Calls Tryd.prog 61 #[a.agg, b.agg] w fun e w' => e = .returned (.tuple (if (backOf b a).2 then #[(backOf b a).1.agg, (Tof a (backOf b a).1).agg, .bool true] else #[a.agg, b.agg, .bool false])) ∧ Below w.heap.size w w' := by
  obtain ⟨hA, hB, hZ, hY, hW⟩ := four_boxes w 58 (opCells a) (opCells b) #[.int .i64 0, .int .i64 0, .int .i32 0, .int .i64 0] #[.int .i64 0, .int .i64 0, .int .i32 0, .int .i64 0]
  have HB := hid (fun W => back_any b a W hb h0)
  generalize hf : backOf b a = f at *
  obtain ⟨x, ok⟩ := f
  have HT := hid (fun W => T_any a x W ha)
  generalize hy : Tof a x = y at *
  have hs := hW.size
  have hnT := hid (show ¬ (fun b => b ≠ w.heap.size + 1 + 1) (w.heap.size + 1 + 1) from fun h => h rfl)
  have n1 : w.heap.size ≠ w.heap.size + 1 + 1 := by omega
  have n2 : w.heap.size + 1 ≠ w.heap.size + 1 + 1 := by omega
  clear hf hy
  unfold Opn.agg at HB HT ⊢
  unfold opCells at hA hB hW hZ hY hs
  cases ok
  · simp only [Bool.false_eq_true, if_false]
    go_enter Tryd.func61, Tryd.ntmps61
    obtain ⟨a0, a1, a2, a3, f0, f1, f2, f3, fl⟩ := hA.four
    obtain ⟨p0, p1, p2, p3, -, -, -, -, pl⟩ := hB.four
    repeat' (first | (with_reducible refine stop_region 3 ?_) | (go_at_call 41; go_must ((with_reducible refine Calls.mono (HB.out _) ?_); rintro _ W2 ⟨rfl, hb2⟩; have eX := balloc (o := .cells #[.int .i64 x.kind, .int .i64 x.at_, .int .i32 x.char, .int .i64 x.rep] 58) (Below.refl _ W2); have hA2 := ((hA.step hb2).step eX).drew; have hB2 := ((hB.step hb2).step eX).drew; have hZ2 := ((hZ.step hb2).step eX).drew; have hY2 := ((hY.step hb2).step eX).drew; obtain ⟨b0, b1, b2, b3, -, -, -, -, bl⟩ := (hA.step hb2).four; obtain ⟨q0, q1, q2, q3, -, -, -, -, ql⟩ := (hB.step hb2).four; obtain ⟨z0, z1, z2, z3, g0, g1, g2, g3, gl⟩ := (hZ.step hb2).four; obtain ⟨y0, y1, y2, y3, h0, h1, h2, h3, hl⟩ := (hY.step hb2).four; have vA := hA2; unfold Blk at vA; have vB := hB2; unfold Blk at vB; dsimp only)) | (with_reducible refine Keep.last ?_) | (with_reducible refine Keep.below (by assumption) ?_) | (with_reducible refine Keep.kept (by assumption) ?_) | (with_reducible refine Keep.alloc ?_) | (with_reducible refine Keep.same ?_) | ((with_reducible refine WpH.here ?_); first | (refine WpH.nil ?_; refine NoP.normal ?_) | (refine WpH.load (by rfl) (by rfl) (by go_simp; rfl) ?_; simp only [Act.put, List.setIfInBounds_toArray, List.set_cons_zero, List.set_cons_succ]) | (refine WpH.loadT (by rfl) (by rfl) (by go_simp; rfl) (by rintro _ _ ⟨⟩; exact ⟨_, _, _, _, _, _, by rfl, by assumption, by assumption⟩) ?_; simp only [Act.put, List.setIfInBounds_toArray, List.set_cons_zero, List.set_cons_succ]) | (refine WpH.pure (by rfl) (fun w_ => by go_simp; (try go_bits); rfl) ?_; simp only [Act.put, List.setIfInBounds_toArray, List.set_cons_zero, List.set_cons_succ]) | (refine WpH.wild1 (by rfl) (fun _ _ => ?_)) | (refine WpH.skip (by rfl) ?_; simp only [Act.put, List.setIfInBounds_toArray, List.set_cons_zero, List.set_cons_succ])) | go_values | go_skip | go_guarded | go_step | go_upon | go_back)
    refine Stop.go ?_
    have hX := bvia hW hb2
    have hX := balloc (o := .cells #[.int .i64 x.kind, .int .i64 x.at_, .int .i32 x.char, .int .i64 x.rep] 58) hX
    generalize W2.alloc (.cells #[.int .i64 x.kind, .int .i64 x.at_, .int .i32 x.char, .int .i64 x.rep] 58) = X at *
    obtain ⟨b0, b1, b2, b3, -, -, -, -, bl⟩ := Blk.four (w := X) hA2
    obtain ⟨q0, q1, q2, q3, -, -, -, -, ql⟩ := Blk.four (w := X) hB2
    obtain ⟨z0, z1, z2, z3, g0, g1, g2, g3, gl⟩ := Blk.four (w := X) hZ2
    obtain ⟨y0, y1, y2, y3, h0, h1, h2, h3, hl⟩ := Blk.four (w := X) hY2
    repeat' (first | ((with_reducible refine region_at 3 ?_); refine wp_region_orderT (fun b => b ≠ w.heap.size + 1 + 1) [(0, true, false), (1, true, false), (2, false, false), (3, false, true), (4, true, false)] (by kernel_rfl) (by kernel_rfl) (by kernel_rfl) rfl rfl ?_) | (with_reducible refine Keep.last ?_) | (with_reducible refine Keep.set4 (T := fun b => b ≠ w.heap.size + 1 + 1) hnT.out ?_) | (with_reducible refine Keep.set4D (T := fun b => b ≠ w.heap.size + 1 + 1) hnT.out ?_) | (with_reducible refine Keep.last ?_) | (with_reducible refine Keep.below (by assumption) ?_) | (with_reducible refine Keep.kept (by assumption) ?_) | (with_reducible refine Keep.alloc ?_) | (with_reducible refine Keep.same ?_) | ((with_reducible refine WpH.here ?_); first | (refine WpH.nil ?_; refine NoP.normal ?_) | (refine WpH.load (by rfl) (by rfl) (by go_simp; rfl) ?_; simp only [Act.put, List.setIfInBounds_toArray, List.set_cons_zero, List.set_cons_succ]) | (refine WpH.loadT (by rfl) (by rfl) (by go_simp; rfl) (by rintro _ _ ⟨⟩; exact ⟨_, _, _, _, _, _, by rfl, by assumption, by assumption⟩) ?_; simp only [Act.put, List.setIfInBounds_toArray, List.set_cons_zero, List.set_cons_succ]) | (refine WpH.pure (by rfl) (fun w_ => by go_simp; (try go_bits); rfl) ?_; simp only [Act.put, List.setIfInBounds_toArray, List.set_cons_zero, List.set_cons_succ]) | (refine WpH.wild1 (by rfl) (fun _ _ => ?_)) | (refine WpH.skip (by rfl) ?_; simp only [Act.put, List.setIfInBounds_toArray, List.set_cons_zero, List.set_cons_succ])) | go_values | go_skip | go_guarded | go_step | go_upon | go_back)
    skip
    refine bodyPost_ret (v := .tuple #[.agg #[.int .i64 a.kind, .int .i64 a.at_, .int .i32 a.char, .int .i64 a.rep], .agg #[.int .i64 b.kind, .int .i64 b.at_, .int .i32 b.char, .int .i64 b.rep], .bool false]) (by simp [results, Tryd.results61, go_sem, z0, z1, z2, z3, y0, y1, y2, y3, gl, hl, size_setCell]) rfl ⟨rfl, ?_⟩
    (repeat' (first | (with_reducible exact Below.refl _ _) | (with_reducible assumption) | (with_reducible refine balloc ?_) | (with_reducible refine bdrew ?_) | (with_reducible refine bset ?_ (by (try dsimp only); omega)) | (with_reducible refine bvia ?_ (by assumption))))
  · simp only [if_true]
    go_enter Tryd.func61, Tryd.ntmps61
    obtain ⟨a0, a1, a2, a3, f0, f1, f2, f3, fl⟩ := hA.four
    obtain ⟨p0, p1, p2, p3, -, -, -, -, pl⟩ := hB.four
    repeat' (first | ((with_reducible refine region_at 4 ?_); refine wp_region_orderT (fun b => b ≠ w.heap.size + 1 + 1) [(0, true, false), (1, true, false), (2, true, false), (3, false, false), (4, false, false), (5, false, true), (6, true, false)] (by kernel_rfl) (by kernel_rfl) (by kernel_rfl) rfl rfl ?_) | (with_reducible refine Keep.last ?_) | (with_reducible refine Keep.set4 (T := fun b => b ≠ w.heap.size + 1 + 1) hnT.out ?_) | (with_reducible refine Keep.set4D (T := fun b => b ≠ w.heap.size + 1 + 1) hnT.out ?_) | (go_at_call 41; go_must ((with_reducible refine Calls.mono (HB.out _) ?_); rintro _ W2 ⟨rfl, hb2⟩; have eX := balloc (o := .cells #[.int .i64 x.kind, .int .i64 x.at_, .int .i32 x.char, .int .i64 x.rep] 58) (Below.refl _ W2); have hA2 := ((hA.step hb2).step eX).drew; have hX2 := (Blk.new W2 58 #[.int .i64 x.kind, .int .i64 x.at_, .int .i32 x.char, .int .i64 x.rep]).drew; have hZ2 := ((hZ.step hb2).step eX).drew; have hY2 := ((hY.step hb2).step eX).drew; obtain ⟨b0, b1, b2, b3, -, -, -, -, bl⟩ := (hA.step hb2).four; have vA := hA2; unfold Blk at vA; have vX := hX2; unfold Blk at vX; have hyl := (hY.step hb2).lt; have nX : W2.heap.size ≠ w.heap.size + 1 + 1 := (by omega); dsimp only)) | (go_at_call 30; go_must ((with_reducible refine Calls.mono (HT.out _) ?_); rintro _ W3 ⟨rfl, hb3⟩; obtain ⟨c0, c1, c2, c3, -, -, -, -, cl⟩ := (hA2.step hb3).four; obtain ⟨x0, x1, x2, x3, -, -, -, -, xl⟩ := (hX2.step hb3).four; obtain ⟨z0, z1, z2, z3, g0, g1, g2, g3, gl⟩ := (hZ2.step hb3).four; obtain ⟨y0, y1, y2, y3, h0, h1, h2, h3, hl⟩ := (hY2.step hb3).four; dsimp only)) | (with_reducible refine Keep.last ?_) | (with_reducible refine Keep.below (by assumption) ?_) | (with_reducible refine Keep.kept (by assumption) ?_) | (with_reducible refine Keep.alloc ?_) | (with_reducible refine Keep.same ?_) | ((with_reducible refine WpH.here ?_); first | (refine WpH.nil ?_; refine NoP.normal ?_) | (refine WpH.load (by rfl) (by rfl) (by go_simp; rfl) ?_; simp only [Act.put, List.setIfInBounds_toArray, List.set_cons_zero, List.set_cons_succ]) | (refine WpH.loadT (by rfl) (by rfl) (by go_simp; rfl) (by rintro _ _ ⟨⟩; exact ⟨_, _, _, _, _, _, by rfl, by assumption, by assumption⟩) ?_; simp only [Act.put, List.setIfInBounds_toArray, List.set_cons_zero, List.set_cons_succ]) | (refine WpH.pure (by rfl) (fun w_ => by go_simp; (try go_bits); rfl) ?_; simp only [Act.put, List.setIfInBounds_toArray, List.set_cons_zero, List.set_cons_succ]) | (refine WpH.wild1 (by rfl) (fun _ _ => ?_)) | (refine WpH.skip (by rfl) ?_; simp only [Act.put, List.setIfInBounds_toArray, List.set_cons_zero, List.set_cons_succ])) | go_values | go_skip | go_guarded | go_step | go_upon | go_back)
    skip
    refine bodyPost_ret (v := .tuple #[.agg #[.int .i64 x.kind, .int .i64 x.at_, .int .i32 x.char, .int .i64 x.rep], .agg #[.int .i64 y.kind, .int .i64 y.at_, .int .i32 y.char, .int .i64 y.rep], .bool true]) (by simp [results, Tryd.results61, go_sem, z0, z1, z2, z3, y0, y1, y2, y3, gl, hl, size_setCell]) rfl ⟨rfl, ?_⟩
    (repeat' (first | (with_reducible exact Below.refl _ _) | (with_reducible assumption) | (with_reducible refine balloc ?_) | (with_reducible refine bdrew ?_) | (with_reducible refine bset ?_ (by (try dsimp only); omega)) | (with_reducible refine bvia ?_ (by assumption))))
set_option maxRecDepth 20000 in
set_option maxHeartbeats 2000000 in
theorem refSwap_any (a b : Opn) (w : World) (ha : a.In) (hb : b.In) (h0 : 0 ≤ b.at_) : Calls Tryd.prog 62 #[a.agg, b.agg] w fun e w' => e = .returned (.tuple (if (refBackOf b a).2 then #[(refBackOf b a).1.agg, (Tof a (refBackOf b a).1).agg, .bool true] else #[a.agg, b.agg, .bool false])) ∧ Below w.heap.size w w' := by
  obtain ⟨hA, hB, hZ, hY, hW⟩ := four_boxes w 58 (opCells a) (opCells b) #[.int .i64 0, .int .i64 0, .int .i32 0, .int .i64 0] #[.int .i64 0, .int .i64 0, .int .i32 0, .int .i64 0]
  have HB := hid (fun W => refBack_any b a W hb h0)
  generalize hf : refBackOf b a = f at *
  obtain ⟨x, ok⟩ := f
  have HT := hid (fun W => refT_any a x W ha)
  generalize hy : Tof a x = y at *
  have hs := hW.size
  have hnT := hid (show ¬ (fun b => b ≠ w.heap.size + 1 + 1) (w.heap.size + 1 + 1) from fun h => h rfl)
  have n1 : w.heap.size ≠ w.heap.size + 1 + 1 := by omega
  have n2 : w.heap.size + 1 ≠ w.heap.size + 1 + 1 := by omega
  clear hf hy
  unfold Opn.agg at HB HT ⊢
  unfold opCells at hA hB hW hZ hY hs
  cases ok
  · simp only [Bool.false_eq_true, if_false]
    go_enter Tryd.func62, Tryd.ntmps62
    obtain ⟨a0, a1, a2, a3, f0, f1, f2, f3, fl⟩ := hA.four
    obtain ⟨p0, p1, p2, p3, -, -, -, -, pl⟩ := hB.four
    repeat' (first | (with_reducible refine stop_region 3 ?_) | (go_at_call 42; go_must ((with_reducible refine Calls.mono (HB.out _) ?_); rintro _ W2 ⟨rfl, hb2⟩; have eX := balloc (o := .cells #[.int .i64 x.kind, .int .i64 x.at_, .int .i32 x.char, .int .i64 x.rep] 58) (Below.refl _ W2); have hA2 := ((hA.step hb2).step eX).drew; have hB2 := ((hB.step hb2).step eX).drew; have hZ2 := ((hZ.step hb2).step eX).drew; have hY2 := ((hY.step hb2).step eX).drew; obtain ⟨b0, b1, b2, b3, -, -, -, -, bl⟩ := (hA.step hb2).four; obtain ⟨q0, q1, q2, q3, -, -, -, -, ql⟩ := (hB.step hb2).four; obtain ⟨z0, z1, z2, z3, g0, g1, g2, g3, gl⟩ := (hZ.step hb2).four; obtain ⟨y0, y1, y2, y3, h0, h1, h2, h3, hl⟩ := (hY.step hb2).four; have vA := hA2; unfold Blk at vA; have vB := hB2; unfold Blk at vB; dsimp only)) | (with_reducible refine Keep.last ?_) | (with_reducible refine Keep.below (by assumption) ?_) | (with_reducible refine Keep.kept (by assumption) ?_) | (with_reducible refine Keep.alloc ?_) | (with_reducible refine Keep.same ?_) | ((with_reducible refine WpH.here ?_); first | (refine WpH.nil ?_; refine NoP.normal ?_) | (refine WpH.load (by rfl) (by rfl) (by go_simp; rfl) ?_; simp only [Act.put, List.setIfInBounds_toArray, List.set_cons_zero, List.set_cons_succ]) | (refine WpH.loadT (by rfl) (by rfl) (by go_simp; rfl) (by rintro _ _ ⟨⟩; exact ⟨_, _, _, _, _, _, by rfl, by assumption, by assumption⟩) ?_; simp only [Act.put, List.setIfInBounds_toArray, List.set_cons_zero, List.set_cons_succ]) | (refine WpH.pure (by rfl) (fun w_ => by go_simp; (try go_bits); rfl) ?_; simp only [Act.put, List.setIfInBounds_toArray, List.set_cons_zero, List.set_cons_succ]) | (refine WpH.wild1 (by rfl) (fun _ _ => ?_)) | (refine WpH.skip (by rfl) ?_; simp only [Act.put, List.setIfInBounds_toArray, List.set_cons_zero, List.set_cons_succ])) | go_values | go_skip | go_guarded | go_step | go_upon | go_back)
    refine Stop.go ?_
    have hX := bvia hW hb2
    have hX := balloc (o := .cells #[.int .i64 x.kind, .int .i64 x.at_, .int .i32 x.char, .int .i64 x.rep] 58) hX
    generalize W2.alloc (.cells #[.int .i64 x.kind, .int .i64 x.at_, .int .i32 x.char, .int .i64 x.rep] 58) = X at *
    obtain ⟨b0, b1, b2, b3, -, -, -, -, bl⟩ := Blk.four (w := X) hA2
    obtain ⟨q0, q1, q2, q3, -, -, -, -, ql⟩ := Blk.four (w := X) hB2
    obtain ⟨z0, z1, z2, z3, g0, g1, g2, g3, gl⟩ := Blk.four (w := X) hZ2
    obtain ⟨y0, y1, y2, y3, h0, h1, h2, h3, hl⟩ := Blk.four (w := X) hY2
    repeat' (first | ((with_reducible refine region_at 3 ?_); refine wp_region_orderT (fun b => b ≠ w.heap.size + 1 + 1) [(0, true, false), (1, true, false), (2, false, false), (3, false, true), (4, true, false)] (by kernel_rfl) (by kernel_rfl) (by kernel_rfl) rfl rfl ?_) | (with_reducible refine Keep.last ?_) | (with_reducible refine Keep.set4 (T := fun b => b ≠ w.heap.size + 1 + 1) hnT.out ?_) | (with_reducible refine Keep.set4D (T := fun b => b ≠ w.heap.size + 1 + 1) hnT.out ?_) | (with_reducible refine Keep.last ?_) | (with_reducible refine Keep.below (by assumption) ?_) | (with_reducible refine Keep.kept (by assumption) ?_) | (with_reducible refine Keep.alloc ?_) | (with_reducible refine Keep.same ?_) | ((with_reducible refine WpH.here ?_); first | (refine WpH.nil ?_; refine NoP.normal ?_) | (refine WpH.load (by rfl) (by rfl) (by go_simp; rfl) ?_; simp only [Act.put, List.setIfInBounds_toArray, List.set_cons_zero, List.set_cons_succ]) | (refine WpH.loadT (by rfl) (by rfl) (by go_simp; rfl) (by rintro _ _ ⟨⟩; exact ⟨_, _, _, _, _, _, by rfl, by assumption, by assumption⟩) ?_; simp only [Act.put, List.setIfInBounds_toArray, List.set_cons_zero, List.set_cons_succ]) | (refine WpH.pure (by rfl) (fun w_ => by go_simp; (try go_bits); rfl) ?_; simp only [Act.put, List.setIfInBounds_toArray, List.set_cons_zero, List.set_cons_succ]) | (refine WpH.wild1 (by rfl) (fun _ _ => ?_)) | (refine WpH.skip (by rfl) ?_; simp only [Act.put, List.setIfInBounds_toArray, List.set_cons_zero, List.set_cons_succ])) | go_values | go_skip | go_guarded | go_step | go_upon | go_back)
    skip
    refine bodyPost_ret (v := .tuple #[.agg #[.int .i64 a.kind, .int .i64 a.at_, .int .i32 a.char, .int .i64 a.rep], .agg #[.int .i64 b.kind, .int .i64 b.at_, .int .i32 b.char, .int .i64 b.rep], .bool false]) (by simp [results, Tryd.results62, go_sem, z0, z1, z2, z3, y0, y1, y2, y3, gl, hl, size_setCell]) rfl ⟨rfl, ?_⟩
    (repeat' (first | (with_reducible exact Below.refl _ _) | (with_reducible assumption) | (with_reducible refine balloc ?_) | (with_reducible refine bdrew ?_) | (with_reducible refine bset ?_ (by (try dsimp only); omega)) | (with_reducible refine bvia ?_ (by assumption))))
  · simp only [if_true]
    go_enter Tryd.func62, Tryd.ntmps62
    obtain ⟨a0, a1, a2, a3, f0, f1, f2, f3, fl⟩ := hA.four
    obtain ⟨p0, p1, p2, p3, -, -, -, -, pl⟩ := hB.four
    repeat' (first | ((with_reducible refine region_at 4 ?_); refine wp_region_orderT (fun b => b ≠ w.heap.size + 1 + 1) [(0, true, false), (1, true, false), (2, true, false), (3, false, false), (4, false, false), (5, false, true), (6, true, false)] (by kernel_rfl) (by kernel_rfl) (by kernel_rfl) rfl rfl ?_) | (with_reducible refine Keep.last ?_) | (with_reducible refine Keep.set4 (T := fun b => b ≠ w.heap.size + 1 + 1) hnT.out ?_) | (with_reducible refine Keep.set4D (T := fun b => b ≠ w.heap.size + 1 + 1) hnT.out ?_) | (go_at_call 42; go_must ((with_reducible refine Calls.mono (HB.out _) ?_); rintro _ W2 ⟨rfl, hb2⟩; have eX := balloc (o := .cells #[.int .i64 x.kind, .int .i64 x.at_, .int .i32 x.char, .int .i64 x.rep] 58) (Below.refl _ W2); have hA2 := ((hA.step hb2).step eX).drew; have hX2 := (Blk.new W2 58 #[.int .i64 x.kind, .int .i64 x.at_, .int .i32 x.char, .int .i64 x.rep]).drew; have hZ2 := ((hZ.step hb2).step eX).drew; have hY2 := ((hY.step hb2).step eX).drew; obtain ⟨b0, b1, b2, b3, -, -, -, -, bl⟩ := (hA.step hb2).four; have vA := hA2; unfold Blk at vA; have vX := hX2; unfold Blk at vX; have hyl := (hY.step hb2).lt; have nX : W2.heap.size ≠ w.heap.size + 1 + 1 := (by omega); dsimp only)) | (go_at_call 31; go_must ((with_reducible refine Calls.mono (HT.out _) ?_); rintro _ W3 ⟨rfl, hb3⟩; obtain ⟨c0, c1, c2, c3, -, -, -, -, cl⟩ := (hA2.step hb3).four; obtain ⟨x0, x1, x2, x3, -, -, -, -, xl⟩ := (hX2.step hb3).four; obtain ⟨z0, z1, z2, z3, g0, g1, g2, g3, gl⟩ := (hZ2.step hb3).four; obtain ⟨y0, y1, y2, y3, h0, h1, h2, h3, hl⟩ := (hY2.step hb3).four; dsimp only)) | (with_reducible refine Keep.last ?_) | (with_reducible refine Keep.below (by assumption) ?_) | (with_reducible refine Keep.kept (by assumption) ?_) | (with_reducible refine Keep.alloc ?_) | (with_reducible refine Keep.same ?_) | ((with_reducible refine WpH.here ?_); first | (refine WpH.nil ?_; refine NoP.normal ?_) | (refine WpH.load (by rfl) (by rfl) (by go_simp; rfl) ?_; simp only [Act.put, List.setIfInBounds_toArray, List.set_cons_zero, List.set_cons_succ]) | (refine WpH.loadT (by rfl) (by rfl) (by go_simp; rfl) (by rintro _ _ ⟨⟩; exact ⟨_, _, _, _, _, _, by rfl, by assumption, by assumption⟩) ?_; simp only [Act.put, List.setIfInBounds_toArray, List.set_cons_zero, List.set_cons_succ]) | (refine WpH.pure (by rfl) (fun w_ => by go_simp; (try go_bits); rfl) ?_; simp only [Act.put, List.setIfInBounds_toArray, List.set_cons_zero, List.set_cons_succ]) | (refine WpH.wild1 (by rfl) (fun _ _ => ?_)) | (refine WpH.skip (by rfl) ?_; simp only [Act.put, List.setIfInBounds_toArray, List.set_cons_zero, List.set_cons_succ])) | go_values | go_skip | go_guarded | go_step | go_upon | go_back)
    skip
    refine bodyPost_ret (v := .tuple #[.agg #[.int .i64 x.kind, .int .i64 x.at_, .int .i32 x.char, .int .i64 x.rep], .agg #[.int .i64 y.kind, .int .i64 y.at_, .int .i32 y.char, .int .i64 y.rep], .bool true]) (by simp [results, Tryd.results62, go_sem, z0, z1, z2, z3, y0, y1, y2, y3, gl, hl, size_setCell]) rfl ⟨rfl, ?_⟩
    (repeat' (first | (with_reducible exact Below.refl _ _) | (with_reducible assumption) | (with_reducible refine balloc ?_) | (with_reducible refine bdrew ?_) | (with_reducible refine bset ?_ (by (try dsimp only); omega)) | (with_reducible refine bvia ?_ (by assumption))))
end Go.Proofs.YtogkbddniacgiaaDoor
