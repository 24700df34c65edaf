/- Chapter 5: what is answered is spoilt; all that a model tells is what its plain row says: the walks. Conditions: the model and its row lie in memory, fewer than 2^20 elements. -/
import Derived.Test.YtfihjajllfihjaaGreatDoorP29
import Derived.Test.YtfihjajllfihjaaGreatDoorP31
namespace Go.Proofs.YtfihjajllfihjaaGreatDoor
set_option linter.unusedSimpArgs false
set_option linter.unusedVariables false
open Go Go.RowKit
variable {a : Nat → Addr}
theorem bvia2 {base : Nat} {w A B : World} (h : Below base w A) (hz : base ≤ w.heap.size) (k : Below A.heap.size A B) : Below base w B := h.trans (k.mono (Nat.le_trans hz h.size))
set_option maxRecDepth 50000 in
set_option maxHeartbeats 4000000 in
theorem spoilEls_any (w : World) (base : Nat) (A : Option Addr) (n c : Nat) (es : List El) (h : Own w base A n c es) (hb : base ≤ w.heap.size) (hn : n ≤ 1048576) :
    Calls Tryz.prog 51 #[.slice A n c] w fun e w' => e = .returned (.tuple #[]) ∧ Below base w w' := by
  have HM := hid (fun i W => mark_any i W)
  have Hw := hid h
  clear h
  go_enter Tryz.func51, Tryz.ntmps51
  repeat' (first | go_values | go_skip | go_guarded | go_step | go_upon | go_back)
  go_loopw [2] (fun i wr => ∃ (k : Nat) (es' : List El), i = .int .i64 k ∧ k ≤ n ∧ Own wr base A n c es' ∧ Below base w wr) (fun i _ => n - (intOf i).toNat)
  case atStart => exact ⟨0, es, rfl, Nat.zero_le _, Hw.out, Below.refl _ _⟩
  case round =>
    obtain ⟨k, es', rfl, hk, hown, hbr⟩ := hrel
    by_cases hlt : k < n
    · obtain ⟨g, cur, rfl, hbg, hbk, -, -, -⟩ := own_at hown (by omega)
      have hll : g < wr.heap.size := hbk.lt
      have hkn : (k : Int) < n := by omega
      repeat' (first | (go_at_call 68; go_must ((with_reducible refine Calls.mono (HM.out _ _) ?_); rintro _ w2 ⟨rfl, hb2⟩; have hown2 := hown.step hb2; have hbb2 := bvia2 hbr hb hb2; have hgl2 := Nat.lt_of_lt_of_le hll hb2.size; obtain ⟨f0, f1, f2, f3, f4, ⟨_, y0⟩, ⟨_, y1⟩, ⟨_, y2⟩, ⟨_, y3⟩, ⟨_, y4⟩⟩ := own_blk hown2 (by omega) hlt; dsimp only)) | go_values | go_skip | go_guarded | go_step | go_upon | go_back)
      skip
      go_roundw
      case rel => exact ⟨k + 1, _, by go_num, by omega, hown2.set5 ⟨-9, 0, 1, 109, 0⟩ hlt, ((((hbb2.setCell hbg _).setCell hbg _).setCell hbg _).setCell hbg _).setCell hbg _⟩
      case measure => simp [intOf]; omega
    · obtain rfl : k = n := by omega
      have Hw2 := hid hown
      have hbr2 := hbr
      clear hown hbr Hw
      repeat' (first | go_values | go_skip | go_guarded | go_step | go_upon | go_back)
      go_loopw [0, 3] (fun o i wr => ∃ (j m : Nat) (A' : Option Addr) (c' : Nat) (es' : List El), i = .int .i64 j ∧ o = .slice A' m c' ∧ j ≤ 40 ∧ m = k + j ∧ Own wr base A' m c' es' ∧ Below base w wr) (fun _ i _ => 40 - (intOf i).toNat)
      case atStart => exact ⟨0, k, A, c, _, rfl, rfl, Nat.zero_le _, rfl, Hw2.out, hbr2⟩
      case round =>
        clear hbr2 Hw2
        obtain ⟨j, m, A', c', es2, rfl, rfl, hj, hm, hown, hbr⟩ := hrel
        by_cases hlt2 : j < 40
        · have hj4 : (j : Int) < 40 := by omega
          have hmb : m ≤ 1048616 := by omega
          have Hm := hid hm
          clear hm
          repeat' (first | (go_at_call 68; go_must ((with_reducible refine Calls.mono (HM.out _ _) ?_); rintro _ w2 ⟨rfl, hb2⟩; have eX := balloc (o := .cells #[.int .i64 (-9), .int .i64 0, .int .i64 2, .int .i32 109, .int .i64 0] 32) (Below.refl _ w2); have hownX := (hown.step hb2).step eX; have hrow1 := Row.one w2 ⟨-9, 0, 2, 109, 0⟩; have hbX := bvia2 (bvia2 hbr hb hb2) hb eX; dsimp only)) | ((with_reducible refine append_here ?_); go_must (refine wp_append_el base A' _ m c' 1 1 es2 [⟨-9, 0, 2, 109, 0⟩] (fun _ => True) (by rfl) (by rfl) hownX hrow1 (by have := hbX.size; omega) (by omega) ?_; intro A2 c2' w4 hown4 hb4 hsm4 hat4 hz4)) | go_values | go_skip | go_guarded | go_step | go_upon | go_back)
          skip
          go_roundw
          case rel => exact ⟨j + 1, m + 1, A2, c2', _, by go_num, rfl, by omega, by have := Hm.out; omega, hown4, hbX.trans hb4⟩
          case measure => simp [intOf]; omega
        · obtain rfl : j = 40 := by omega
          have hj4 : ¬ ((40 : Nat) : Int) < 40 := by omega
          repeat' (first | go_values | go_skip | go_guarded | go_step | go_upon | go_back)
          skip
          go_end0
          exact ⟨rfl, hbr⟩
set_option maxRecDepth 50000 in
set_option maxHeartbeats 8000000 in
/-- all that is told of the whole -/
theorem same5_any (w : World) (pb mb : Nat) (S : Nat → Prop) (l : List El) (K base : Nat) (hP : MPair w pb mb S l K base) (hl : l.length ≤ 1048576) :
    Calls Tryz.prog 13 #[.pointer (some ⟨pb, 0, none⟩)] w fun e w' => e = .returned (.bool true) ∧ Below w.heap.size w w' := by
  obtain ⟨A, c, hB, hrow, hM, hS, hbp, hnd⟩ := hP
  have hg := hM.allGood
  have hle := liveOf_le l
  have hli := linesOf_le l
  have HS := hid (fun W (hb : Below w.heap.size w W) => refSum_any A l.length c l _ W (hrow.step hb) (by omega))
  have H1 := hid (fun W (hb : Below w.heap.size w W) => mlen_any W S mb l K (hM.step hb))
  have H2 := hid (fun W (hb : Below w.heap.size w W) => mlive_any W S mb l K (hM.step hb))
  have H3 := hid (fun W (hb : Below w.heap.size w W) => mlines_any W S mb l K (hM.step hb))
  have H4 := hid (fun W (hb : Below w.heap.size w W) => view_any W S mb l K (hM.step hb) (by omega))
  have H5 := hid (fun W (hb : Below w.heap.size w W) => refView_any A l.length c l _ W (hrow.step hb) (by omega) hg)
  have H6 := hid (fun W (hb : Below w.heap.size w W) => melements_any W S mb l K (hM.step hb) (by omega))
  have HR := hid (fun W (hb : Below w.heap.size w W) => hrow.step hb)
  clear hM hrow hg
  generalize (viewOf l).toArray = vw at *
  generalize liveOf l = lv at *
  generalize linesOf l = ln at *
  obtain ⟨n, hn⟩ : ∃ n, l.length = n := ⟨_, rfl⟩
  rw [hn] at HS H1 H5 H6 HR hB hle hli hl
  have D0 := Below.refl w.heap.size w
  have kk := hB; have p0 := kk.cell 0; have p1 := kk.cell 1; have pl := kk.lt; simp at p0 p1; clear kk
  go_enter Tryz.func13, Tryz.ntmps13
  repeat' (first | (go_at_call 12; go_must ((with_reducible refine Calls.mono (HS.out _ D0) ?_); rintro _ w1 ⟨rfl, hb1⟩; dsimp only)) | (with_reducible refine stop_region 2 ?_) | go_values | go_skip | go_guarded | go_step | go_upon | go_back)
  skip
  refine Stop.go ?_
  have eW := balloc (o := .cells #[.int .i64 lv, .int .i64 ln] 40) (Below.refl _ w1)
  have hX := Blk.new w1 40 #[.int .i64 lv, .int .i64 ln]
  have B0 := bvia hb1 eW
  generalize w1.alloc (.cells #[.int .i64 lv, .int .i64 ln] 40) = W1 at *
  generalize w1.heap.size = xb at *
  have D1 := (Below.refl W1.heap.size W1).drew
  have B := bvia B0 D1
  have kk := hB.step (bvia B0 D1); have p0 := kk.cell 0; have p1 := kk.cell 1; have pl := kk.lt; simp at p0 p1; clear kk; have kx := hX.step D1; have x0 := kx.cell 0; have x1 := kx.cell 1; have xl := kx.lt; simp at x0 x1; clear kx
  repeat' (first | ((with_reducible refine region_at 2 ?_); refine wp_region_ordT (fun _ => True) (.one 0 true false (.one 1 true false (.one 2 true false (.one 3 true false (.one 5 true false (.one 6 true false (.one 7 true false (.one 8 true false (.one 9 true false (.one 4 false false (.one 10 true false (.one 11 true false (.one 12 true false (.one 13 true false (.one 14 true false (.one 15 true false (.one 17 true false (.one 18 true false (.one 16 false false (.one 19 true false (.one 20 true false (.one 21 true false (.one 22 true false (.one 23 true false (.one 24 true false (.one 25 true false (.one 27 true false (.one 28 true false (.one 26 false false (.one 29 true false (.one 30 true false (.one 31 true false (.one 32 true false (.one 33 true false (.one 34 true false (.one 35 true false (.one 37 true false (.one 38 true false (.one 39 true false (.one 40 true false (.one 36 false false (.one 41 false false (.one 42 true false (.one 43 true false .nil)))))))))))))))))))))))))))))))))))))))))))) (by kernel_rfl) (by kernel_rfl) (by kernel_rfl) rfl rfl ?_) | ((with_reducible refine region_at 7 ?_); refine wp_region_ordT (fun _ => True) (.one 0 true false (.one 1 true false (.one 2 true false (.one 3 true false (.one 4 true false (.one 5 true false (.one 7 true false (.one 8 true false (.one 9 true false (.one 10 true false (.one 6 false false (.one 11 false false (.one 12 true false (.one 13 true false .nil)))))))))))))) (by kernel_rfl) (by kernel_rfl) (by kernel_rfl) rfl rfl ?_) | (go_at_call 10; go_must ((with_reducible refine Calls.mono (H1.out _ B) ?_); rintro _ _ ⟨rfl, rfl⟩; dsimp only)) | (go_at_call 11; go_must ((with_reducible refine Calls.mono (H2.out _ B) ?_); rintro _ w3 ⟨rfl, hb3⟩; have B := bvia B hb3; have D1 := bvia D1 hb3; have kk := hB.step (bvia B0 D1); have p0 := kk.cell 0; have p1 := kk.cell 1; have pl := kk.lt; simp at p0 p1; clear kk; have kx := hX.step D1; have x0 := kx.cell 0; have x1 := kx.cell 1; have xl := kx.lt; simp at x0 x1; clear kx; dsimp only)) | (go_at_call 48; go_must ((with_reducible refine Calls.mono (H3.out _ B) ?_); rintro _ w4 ⟨rfl, hb4⟩; have B := bvia B hb4; have D1 := bvia D1 hb4; have kk := hB.step (bvia B0 D1); have p0 := kk.cell 0; have p1 := kk.cell 1; have pl := kk.lt; simp at p0 p1; clear kk; have kx := hX.step D1; have x0 := kx.cell 0; have x1 := kx.cell 1; have xl := kx.lt; simp at x0 x1; clear kx; dsimp only)) | (go_at_call 15; go_must ((with_reducible refine Calls.mono (H4.out _ B) ?_); rintro _ w5 ⟨rfl, hb5⟩; have B := bvia B hb5; have D1 := bvia D1 hb5; have kk := hB.step (bvia B0 D1); have p0 := kk.cell 0; have p1 := kk.cell 1; have pl := kk.lt; simp at p0 p1; clear kk; have kx := hX.step D1; have x0 := kx.cell 0; have x1 := kx.cell 1; have xl := kx.lt; simp at x0 x1; clear kx; dsimp only)) | (go_at_call 49; go_must ((with_reducible refine Calls.mono (H5.out _ B) ?_); rintro _ w6 ⟨rfl, hb6⟩; have B := bvia B hb6; have D1 := bvia D1 hb6; have kk := hB.step (bvia B0 D1); have p0 := kk.cell 0; have p1 := kk.cell 1; have pl := kk.lt; simp at p0 p1; clear kk; have kx := hX.step D1; have x0 := kx.cell 0; have x1 := kx.cell 1; have xl := kx.lt; simp at x0 x1; clear kx; dsimp only)) | (with_reducible refine stop_region 4 ?_) | (with_reducible refine Keep.last ?_) | (with_reducible refine Keep.below (by assumption) ?_) | (with_reducible refine Keep.kept (by assumption) ?_) | (with_reducible refine Keep.alloc ?_) | (with_reducible refine Keep.same ?_) | ((with_reducible refine WpH.here ?_); first | (refine WpH.nil ?_; refine NoP.normal ?_) | (refine WpH.load (by rfl) (by rfl) (by go_simp; rfl) ?_; simp only [Act.put, List.setIfInBounds_toArray, List.set_cons_zero, List.set_cons_succ]) | (refine WpH.loadT (by rfl) (by rfl) (by go_simp; rfl) (by rintro _ _ ⟨⟩; exact ⟨_, _, _, _, _, _, by rfl, by assumption, by assumption⟩) ?_; simp only [Act.put, List.setIfInBounds_toArray, List.set_cons_zero, List.set_cons_succ]) | (refine WpH.pure (by rfl) (fun w_ => by go_simp; (try go_bits); rfl) ?_; simp only [Act.put, List.setIfInBounds_toArray, List.set_cons_zero, List.set_cons_succ]) | (refine WpH.wild1 (by rfl) (fun _ _ => ?_)) | (refine WpH.skip (by rfl) ?_; simp only [Act.put, List.setIfInBounds_toArray, List.set_cons_zero, List.set_cons_succ])) | ((with_reducible refine WpO.here ?_); first | (refine WpO.done ?_; first | refine NoP.normal ?_ | refine NoO.normal ?_) | (refine WpO.load (by rfl) (by rfl) (by go_simp; rfl) ?_; simp only [Act.put, List.setIfInBounds_toArray, List.set_cons_zero, List.set_cons_succ]) | (refine WpO.loadT (by rfl) (by rfl) (by go_simp; rfl) (by rintro _ _ ⟨⟩; exact ⟨_, _, _, _, _, _, by rfl, by assumption, by assumption⟩) ?_; simp only [Act.put, List.setIfInBounds_toArray, List.set_cons_zero, List.set_cons_succ]) | (refine WpO.pure (by rfl) (fun w_ => by go_simp; (try go_bits); rfl) ?_; simp only [Act.put, List.setIfInBounds_toArray, List.set_cons_zero, List.set_cons_succ]) | (refine WpO.skip (by rfl) ?_; simp only [Act.put, List.setIfInBounds_toArray, List.set_cons_zero, List.set_cons_succ]) | refine WpO.wild ?_ | refine WpO.two ?_ ?_ | refine WpO.three ?_ ?_ ?_) | ((with_reducible refine wildO.here ?_); first | (refine wildO.go (by rfl) (fun _ _ => ?_)) | (refine wildO.skip (by rfl) ?_; simp only [Act.put, List.setIfInBounds_toArray, List.set_cons_zero, List.set_cons_succ])) | go_values | go_skip | go_guarded | go_step | go_upon | go_back)
  refine Stop.go ?_
  have H61 := hid (H6.out w6 B)
  have B6 := B
  have D6 := D1
  clear B D1
  repeat' (first | (go_at_call 16; go_must ((with_reducible refine Calls.mono H61.out ?_); rintro _ w7 ⟨A7, c7, rfl, hO7, hb7⟩; have B7 := bvia B6 hb7; have D7 := bvia D6 hb7; have kk := hB.step (bvia B0 D7); have p0 := kk.cell 0; have p1 := kk.cell 1; have pl := kk.lt; simp at p0 p1; clear kk; have kx := hX.step D7; have x0 := kx.cell 0; have x1 := kx.cell 1; have xl := kx.lt; simp at x0 x1; clear kx; have HE1 := hid (els_eq A7 _ c7 A c l _ _ w7 (hO7.row (S := fun _ => True) fun _ _ _ => trivial) (HR.out w7 B7)); dsimp only)) | (go_at_call 50; go_must ((with_reducible refine Calls.mono HE1.out ?_); rintro _ w8 ⟨rfl, hb8⟩; have B8 := bvia B7 hb8; have D8 := bvia D7 hb8; have kk := hB.step (bvia B0 D8); have p0 := kk.cell 0; have p1 := kk.cell 1; have pl := kk.lt; simp at p0 p1; clear kk; have kx := hX.step D8; have x0 := kx.cell 0; have x1 := kx.cell 1; have xl := kx.lt; simp at x0 x1; clear kx; have HSp := hid (spoilEls_any w8 w6.heap.size A7 n c7 l (hO7.step hb8) (Nat.le_trans hb7.size hb8.size) hl); dsimp only)) | (go_at_call 51; go_must ((with_reducible refine Calls.mono HSp.out ?_); rintro _ w9 ⟨rfl, hb9⟩; have hb69 := ((bvia hb7 hb8).trans hb9).drew; have B9 := bvia B6 hb69; have D9 := bvia D6 hb69; have kk := hB.step (bvia B0 D9); have p0 := kk.cell 0; have p1 := kk.cell 1; have pl := kk.lt; simp at p0 p1; clear kk; have kx := hX.step D9; have x0 := kx.cell 0; have x1 := kx.cell 1; have xl := kx.lt; simp at x0 x1; clear kx; have H62 := hid (H6.out w9.drew B9); dsimp only)) | (with_reducible refine stop_region 7 ?_) | go_values | go_skip | go_guarded | go_step | go_upon | go_back)
  skip
  refine Stop.go ?_
  repeat' (first | ((with_reducible refine region_at 7 ?_); refine wp_region_ordT (fun _ => True) (.one 0 true false (.one 1 true false (.one 2 true false (.one 3 true false (.one 4 true false (.one 5 true false (.one 7 true false (.one 8 true false (.one 9 true false (.one 10 true false (.one 6 false false (.one 11 false false (.one 12 true false (.one 13 true false .nil)))))))))))))) (by kernel_rfl) (by kernel_rfl) (by kernel_rfl) rfl rfl ?_) | (go_at_call 16; go_must ((with_reducible refine Calls.mono H62.out ?_); rintro _ wa ⟨Aa, ca, rfl, hOa, hba⟩; have Ba := bvia B9 hba; have Da := bvia D9 hba; have kk := hB.step (bvia B0 Da); have p0 := kk.cell 0; have p1 := kk.cell 1; have pl := kk.lt; simp at p0 p1; clear kk; have kx := hX.step Da; have x0 := kx.cell 0; have x1 := kx.cell 1; have xl := kx.lt; simp at x0 x1; clear kx; have HE2 := hid (els_eq Aa _ ca A c l _ _ wa (hOa.row (S := fun _ => True) fun _ _ _ => trivial) (HR.out wa Ba)); dsimp only)) | (go_at_call 50; go_must ((with_reducible refine Calls.mono HE2.out ?_); rintro _ wb ⟨rfl, hbb⟩; have Bb := bvia Ba hbb; dsimp only)) | (with_reducible refine Keep.last ?_) | (with_reducible refine Keep.below (by assumption) ?_) | (with_reducible refine Keep.kept (by assumption) ?_) | (with_reducible refine Keep.alloc ?_) | (with_reducible refine Keep.same ?_) | ((with_reducible refine WpH.here ?_); first | (refine WpH.nil ?_; refine NoP.normal ?_) | (refine WpH.load (by rfl) (by rfl) (by go_simp; rfl) ?_; simp only [Act.put, List.setIfInBounds_toArray, List.set_cons_zero, List.set_cons_succ]) | (refine WpH.loadT (by rfl) (by rfl) (by go_simp; rfl) (by rintro _ _ ⟨⟩; exact ⟨_, _, _, _, _, _, by rfl, by assumption, by assumption⟩) ?_; simp only [Act.put, List.setIfInBounds_toArray, List.set_cons_zero, List.set_cons_succ]) | (refine WpH.pure (by rfl) (fun w_ => by go_simp; (try go_bits); rfl) ?_; simp only [Act.put, List.setIfInBounds_toArray, List.set_cons_zero, List.set_cons_succ]) | (refine WpH.wild1 (by rfl) (fun _ _ => ?_)) | (refine WpH.skip (by rfl) ?_; simp only [Act.put, List.setIfInBounds_toArray, List.set_cons_zero, List.set_cons_succ])) | ((with_reducible refine WpO.here ?_); first | (refine WpO.done ?_; first | refine NoP.normal ?_ | refine NoO.normal ?_) | (refine WpO.load (by rfl) (by rfl) (by go_simp; rfl) ?_; simp only [Act.put, List.setIfInBounds_toArray, List.set_cons_zero, List.set_cons_succ]) | (refine WpO.loadT (by rfl) (by rfl) (by go_simp; rfl) (by rintro _ _ ⟨⟩; exact ⟨_, _, _, _, _, _, by rfl, by assumption, by assumption⟩) ?_; simp only [Act.put, List.setIfInBounds_toArray, List.set_cons_zero, List.set_cons_succ]) | (refine WpO.pure (by rfl) (fun w_ => by go_simp; (try go_bits); rfl) ?_; simp only [Act.put, List.setIfInBounds_toArray, List.set_cons_zero, List.set_cons_succ]) | (refine WpO.skip (by rfl) ?_; simp only [Act.put, List.setIfInBounds_toArray, List.set_cons_zero, List.set_cons_succ]) | refine WpO.wild ?_ | refine WpO.two ?_ ?_ | refine WpO.three ?_ ?_ ?_) | ((with_reducible refine wildO.here ?_); first | (refine wildO.go (by rfl) (fun _ _ => ?_)) | (refine wildO.skip (by rfl) ?_; simp only [Act.put, List.setIfInBounds_toArray, List.set_cons_zero, List.set_cons_succ])) | go_values | go_skip | go_guarded | go_step | go_upon | go_back)
  skip
  go_ret
  exact ⟨rfl, Bb⟩
end Go.Proofs.YtfihjajllfihjaaGreatDoor
