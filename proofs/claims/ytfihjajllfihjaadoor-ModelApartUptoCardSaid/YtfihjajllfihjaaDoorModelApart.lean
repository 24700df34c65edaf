/- barrowlaw05.ModelApart: the walk: it returns true. Conditions: the row and the reasons lie in memory, the elements fit their kinds. -/
import Derived.Test.YtfihjajllfihjaaDoorBegun5
import Derived.Test.YtfihjajllfihjaaDoorMAdd
import Derived.Test.YtfihjajllfihjaaDoorModelBack
namespace Go.Proofs.YtfihjajllfihjaaDoor
set_option linter.unusedSimpArgs false
set_option linter.unusedVariables false
open Go Go.RowKit
variable {a : Nat → Addr}

theorem Blk.eight {w : World} {g : Nat} {t : TypeId} {x0 x1 x2 x3 x4 x5 x6 x7 : Value} (h : Blk w g t #[x0, x1, x2, x3, x4, x5, x6, x7]) : w.cell? ⟨g, 0, none⟩ = some x0 ∧ w.cell? ⟨g, 1, none⟩ = some x1 ∧ w.cell? ⟨g, 2, none⟩ = some x2 ∧ w.cell? ⟨g, 3, none⟩ = some x3 ∧ w.cell? ⟨g, 4, none⟩ = some x4 ∧ w.cell? ⟨g, 5, none⟩ = some x5 ∧ w.cell? ⟨g, 6, none⟩ = some x6 ∧ w.cell? ⟨g, 7, none⟩ = some x7 ∧ g < w.heap.size :=
  ⟨h.cell 0, h.cell 1, h.cell 2, h.cell 3, h.cell 4, h.cell 5, h.cell 6, h.cell 7, h.lt⟩
set_option maxRecDepth 100000 in
set_option maxHeartbeats 4000000 in
theorem mapart_no (w : World) (A : Option Addr) (n c j : Nat) (ls : List El) (ej : El) (S S' : Nat → Prop) (d i q ep rp nu ch hd : Int) (hr : Row w S A n c ls) (hg : AllRight ((ls.take (min n 100)).take j)) (hj : (ls.take (min n 100))[j]? = some ej) (hw : wrongS (((ls.take (min n 100)).take j).map El.nm) ej ≠ 0) (hin : ∀ e ∈ ls, e.In) (hs : Sents w S' a) :
    Calls Tryd.prog 7 #[.slice A n c, .agg #[.int .i64 d, .int .i64 i, .int .i64 q, .int .i64 ep, .int .i64 rp, .int .i64 nu, .int .i32 ch, .int .i64 hd]] w fun e w' => e = .returned (.bool true) ∧ Below w.heap.size w w' := by
  have b1 : Below w.heap.size w (w.alloc (.cells #[.int .i64 d, .int .i64 i, .int .i64 q, .int .i64 ep, .int .i64 rp, .int .i64 nu, .int .i32 ch, .int .i64 hd] 63)) := balloc (Below.refl _ _)
  have HB := hid (begun5_no _ A n c j ls ej S S' (hr.step b1) hg hj hw hin (hs.step b1))
  have HK := hid wakes5_any
  clear hr hg hj hw hin hs
  go_enter Tryd.func7, Tryd.ntmps7
  repeat' (first | (go_at_call 16; go_must ((with_reducible refine Calls.mono HB.out ?_); rintro _ w1 ⟨rfl, hb1⟩; dsimp only)) | (go_at_call 17; go_must ((with_reducible refine Calls.mono (HK.out _) ?_); rintro _ w9 ⟨rfl, hb9⟩; dsimp only)) | (with_reducible refine Keep.last ?_) | (with_reducible refine Keep.below (by assumption) ?_) | (with_reducible refine Keep.kept (by assumption) ?_) | (with_reducible refine Keep.alloc ?_) | (with_reducible refine Keep.same ?_) | ((with_reducible refine WpH.here ?_); first | (refine WpH.nil ?_; refine NoP.normal ?_) | (refine WpH.load (by rfl) (by rfl) (by go_simp; rfl) ?_; simp only [Act.put, List.setIfInBounds_toArray, List.set_cons_zero, List.set_cons_succ]) | (refine WpH.loadT (by rfl) (by rfl) (by go_simp; rfl) (by rintro _ _ ⟨⟩; exact ⟨_, _, _, _, _, _, by rfl, by assumption, by assumption⟩) ?_; simp only [Act.put, List.setIfInBounds_toArray, List.set_cons_zero, List.set_cons_succ]) | (refine WpH.pure (by rfl) (fun w_ => by go_simp; (try go_bits); rfl) ?_; simp only [Act.put, List.setIfInBounds_toArray, List.set_cons_zero, List.set_cons_succ]) | (refine WpH.wild1 (by rfl) (fun _ _ => ?_)) | (refine WpH.skip (by rfl) ?_; simp only [Act.put, List.setIfInBounds_toArray, List.set_cons_zero, List.set_cons_succ])) | go_values | go_skip | go_guarded | go_step | go_upon | go_back)
  skip
  go_ret
  exact ⟨rfl, bvia (bvia b1 hb1) hb9⟩
set_option maxRecDepth 100000 in
set_option maxHeartbeats 8000000 in
theorem mapart_ins (w : World) (A : Option Addr) (n c : Nat) (ls : List El) (S S' : Nat → Prop) (d i q ep rp nu ch hd : Int) (hd2 : d % 2 = 0) (hr : Row w S A n c ls) (hg : AllRight (ls.take (min n 100))) (hin : ∀ e ∈ ls, e.In) (hs : Sents w S' a) :
    Calls Tryd.prog 7 #[.slice A n c, .agg #[.int .i64 d, .int .i64 i, .int .i64 q, .int .i64 ep, .int .i64 rp, .int .i64 nu, .int .i32 ch, .int .i64 hd]] w fun e w' => e = .returned (.bool true) ∧ Below w.heap.size w w' := by
  have b1 : Below w.heap.size w (w.alloc (.cells #[.int .i64 d, .int .i64 i, .int .i64 q, .int .i64 ep, .int .i64 rp, .int .i64 nu, .int .i32 ch, .int .i64 hd] 63)) := balloc (Below.refl _ _)
  have hX := Blk.new w 63 #[.int .i64 d, .int .i64 i, .int .i64 q, .int .i64 ep, .int .i64 rp, .int .i64 nu, .int .i32 ch, .int .i64 hd]
  have hXl := hX.lt
  have HB := hid (begun5_ok _ A n c ls S (hr.step b1) hg hin)
  have HK := hid wakes5_any
  have hL : (ls.take (min n 100)).length ≤ 100 := by rw [List.length_take]; omega
  generalize ls.take (min n 100) = L at *
  have HI := hid (fun W => within_any d 2 (by decide) (by decide) W)
  rw [hd2] at HI
  have Hs := hid hs
  clear hr hg hin hs
  obtain ⟨k, hk⟩ : ∃ k : Nat, i % ((L.length : Int) + 1) = k := ⟨(i % ((L.length : Int) + 1)).toNat, by rw [Int.toNat_of_nonneg (Int.emod_nonneg _ (by omega))]⟩
  have hkL : k ≤ L.length := by have := Int.emod_lt_of_pos i (show (0 : Int) < L.length + 1 by omega); omega
  have HI2 := hid (fun W => within_any i ((L.length : Int) + 1) (by omega) (by omega) W)
  rw [hk] at HI2
  clear hk
  go_enter Tryd.func7, Tryd.ntmps7
  repeat' (first | (go_at_call 16; go_must ((with_reducible refine Calls.mono HB.out ?_); rintro _ w1 ⟨⟨pb, mb, SM, rfl, hP⟩, hb1⟩; obtain ⟨p0, pl⟩ := hP.cell; have HE := hid (melements_any w1 SM mb L _ hP.mdl (by omega)); dsimp only)) | (go_at_call 23; go_must ((with_reducible refine Calls.mono HE.out ?_); rintro _ w2 ⟨A2, c2, rfl, hO2, hb2⟩; have hX2 := (hX.step hb1).step hb2; obtain ⟨x0, x1, x2, x3, x4, x5, x6, x7, xl⟩ := hX2.eight; have y3 := hX2.frozen 3; have y4 := hX2.frozen 4; have y5 := hX2.frozen 5; dsimp only)) | (go_at_call 26; go_must ((first | (with_reducible refine Calls.mono (HI.out _) ?_) | (with_reducible refine Calls.mono (HI2.out _) ?_)); rintro _ _ ⟨rfl, rfl⟩; dsimp only)) | (with_reducible refine stop_region 8 ?_) | (with_reducible refine Keep.last ?_) | (with_reducible refine Keep.below (by assumption) ?_) | (with_reducible refine Keep.kept (by assumption) ?_) | (with_reducible refine Keep.alloc ?_) | (with_reducible refine Keep.same ?_) | ((with_reducible refine WpH.here ?_); first | (refine WpH.nil ?_; refine NoP.normal ?_) | (refine WpH.load (by rfl) (by rfl) (by go_simp; rfl) ?_; simp only [Act.put, List.setIfInBounds_toArray, List.set_cons_zero, List.set_cons_succ]) | (refine WpH.loadT (by rfl) (by rfl) (by go_simp; rfl) (by rintro _ _ ⟨⟩; exact ⟨_, _, _, _, _, _, by rfl, by assumption, by assumption⟩) ?_; simp only [Act.put, List.setIfInBounds_toArray, List.set_cons_zero, List.set_cons_succ]) | (refine WpH.pure (by rfl) (fun w_ => by go_simp; (try go_bits); rfl) ?_; simp only [Act.put, List.setIfInBounds_toArray, List.set_cons_zero, List.set_cons_succ]) | (refine WpH.wild1 (by rfl) (fun _ _ => ?_)) | (refine WpH.skip (by rfl) ?_; simp only [Act.put, List.setIfInBounds_toArray, List.set_cons_zero, List.set_cons_succ])) | go_values | go_skip | go_guarded | go_step | go_upon | go_back)
  refine Stop.go ?_
  generalize hW3 : ((w2.setCell ⟨w.heap.size, 3, none⟩ (.int .i64 (-5))).setCell ⟨w.heap.size, 4, none⟩ (.int .i64 0)).setCell ⟨w.heap.size, 5, none⟩ (.int .i64 (-5)) = W3
  have hX3 : Blk W3 w.heap.size 63 #[.int .i64 d, .int .i64 i, .int .i64 q, .int .i64 (-5), .int .i64 0, .int .i64 (-5), .int .i32 ch, .int .i64 hd] := by subst hW3; simpa using ((hX2.set_ 3 (.int .i64 (-5))).set_ 4 (.int .i64 0)).set_ 5 (.int .i64 (-5))
  have hB23 : But w.heap.size w2 W3 := by subst hW3; exact (((But.refl _ _).setCell 3 _).setCell 4 _).setCell 5 _
  obtain ⟨Ap, cp, hpb, hprow, hpm, hSM, hpb0, hnd⟩ := hP
  have z1 := hb1.size
  have z2 := hb2.size
  have z3 := hB23.size
  have hM3 := ((hpm.more (S' := fun b => SM b ∧ b < w1.heap.size) (fun b h1 h2 => ⟨h2, h1⟩)).step hb2).keep (w' := W3) (fun b hl hb => hB23.block b hl (by have := (hSM b hb.1).1; omega))
  have hp3 := hB23.blk (hpb.step hb2) (by omega)
  have hrow3 := (hO2.row (S := fun b => w1.heap.size ≤ b ∧ b < w2.heap.size) fun b h1 h2 => ⟨h1, h2⟩).keep (w' := W3) (fun b hb hl => hB23.block b hl (by omega))
  have hb03 : Below w.heap.size w W3 := hB23.below_new (bvia (bvia b1 hb1) hb2) (Nat.le_refl _)
  have hpl := hpb.lt
  have HIx := hid (ref5Index_any A2 L.length c2 L _ ⟨-5, 0, -5⟩ W3 hrow3 (by omega))
  dsimp only at HIx
  obtain ⟨x0, x1, x2, x3, x4, x5, x6, x7, xl⟩ := hX3.eight
  have HP3 := hid (And.intro hM3 (And.intro hp3 (And.intro hrow3 (And.intro hnd hSM))))
  clear hX hX2 hprow hpm hnd hSM hpb hp3 hM3 hrow3 hO2 HE HB p0 pl hB23 hW3
  by_cases idm : (⟨-5, 0, -5⟩ : Nm) ∈ L.map El.nm
  · repeat' (first | (go_at_call 35; go_must ((with_reducible refine Calls.mono HIx.out ?_); rintro _ w4 ⟨⟨r, rfl, hr⟩, hb4⟩; have hr0 : 0 ≤ r := hr.2 idm; clear hr; dsimp only)) | (go_at_call 17; go_must ((with_reducible refine Calls.mono (HK.out _) ?_); rintro _ w9 ⟨rfl, hb9⟩; dsimp only)) | (with_reducible refine Keep.last ?_) | (with_reducible refine Keep.below (by assumption) ?_) | (with_reducible refine Keep.kept (by assumption) ?_) | (with_reducible refine Keep.alloc ?_) | (with_reducible refine Keep.same ?_) | ((with_reducible refine WpH.here ?_); first | (refine WpH.nil ?_; refine NoP.normal ?_) | (refine WpH.load (by rfl) (by rfl) (by go_simp; rfl) ?_; simp only [Act.put, List.setIfInBounds_toArray, List.set_cons_zero, List.set_cons_succ]) | (refine WpH.loadT (by rfl) (by rfl) (by go_simp; rfl) (by rintro _ _ ⟨⟩; exact ⟨_, _, _, _, _, _, by rfl, by assumption, by assumption⟩) ?_; simp only [Act.put, List.setIfInBounds_toArray, List.set_cons_zero, List.set_cons_succ]) | (refine WpH.pure (by rfl) (fun w_ => by go_simp; (try go_bits); rfl) ?_; simp only [Act.put, List.setIfInBounds_toArray, List.set_cons_zero, List.set_cons_succ]) | (refine WpH.wild1 (by rfl) (fun _ _ => ?_)) | (refine WpH.skip (by rfl) ?_; simp only [Act.put, List.setIfInBounds_toArray, List.set_cons_zero, List.set_cons_succ])) | go_values | go_skip | go_guarded | go_step | go_upon | go_back)
    skip
    go_ret
    exact ⟨rfl, bvia (bvia hb03 hb4) hb9⟩
  · have HR := hid (fun W => ref5Right_any ch W)
    have HFa := hid (fun W => ref5Fair_any hd W)
    cases hch : rightC ch
    · rw [hch] at HR
      clear hch
      repeat' (first | (go_at_call 35; go_must ((with_reducible refine Calls.mono HIx.out ?_); rintro _ w4 ⟨⟨r, rfl, hr⟩, hb4⟩; have hr0 : r < 0 := Int.not_le.1 (fun h => idm (hr.1 h)); clear hr; obtain ⟨x0, x1, x2, x3, x4, x5, x6, x7, xl⟩ := (hX3.step hb4).eight; dsimp only)) | (go_at_call 36; go_must ((with_reducible refine Calls.mono (HR.out _) ?_); rintro _ _ ⟨rfl, rfl⟩; dsimp only)) | (go_at_call 17; go_must ((with_reducible refine Calls.mono (HK.out _) ?_); rintro _ w9 ⟨rfl, hb9⟩; dsimp only)) | (with_reducible refine Keep.last ?_) | (with_reducible refine Keep.below (by assumption) ?_) | (with_reducible refine Keep.kept (by assumption) ?_) | (with_reducible refine Keep.alloc ?_) | (with_reducible refine Keep.same ?_) | ((with_reducible refine WpH.here ?_); first | (refine WpH.nil ?_; refine NoP.normal ?_) | (refine WpH.load (by rfl) (by rfl) (by go_simp; rfl) ?_; simp only [Act.put, List.setIfInBounds_toArray, List.set_cons_zero, List.set_cons_succ]) | (refine WpH.loadT (by rfl) (by rfl) (by go_simp; rfl) (by rintro _ _ ⟨⟩; exact ⟨_, _, _, _, _, _, by rfl, by assumption, by assumption⟩) ?_; simp only [Act.put, List.setIfInBounds_toArray, List.set_cons_zero, List.set_cons_succ]) | (refine WpH.pure (by rfl) (fun w_ => by go_simp; (try go_bits); rfl) ?_; simp only [Act.put, List.setIfInBounds_toArray, List.set_cons_zero, List.set_cons_succ]) | (refine WpH.wild1 (by rfl) (fun _ _ => ?_)) | (refine WpH.skip (by rfl) ?_; simp only [Act.put, List.setIfInBounds_toArray, List.set_cons_zero, List.set_cons_succ])) | go_values | go_skip | go_guarded | go_step | go_upon | go_back)
      skip
      go_ret
      exact ⟨rfl, bvia (bvia hb03 hb4) hb9⟩
    · rw [hch] at HR
      cases hfh : fairH hd
      · rw [hfh] at HFa
        clear hch hfh
        repeat' (first | (go_at_call 35; go_must ((with_reducible refine Calls.mono HIx.out ?_); rintro _ w4 ⟨⟨r, rfl, hr⟩, hb4⟩; have hr0 : r < 0 := Int.not_le.1 (fun h => idm (hr.1 h)); clear hr; obtain ⟨x0, x1, x2, x3, x4, x5, x6, x7, xl⟩ := (hX3.step hb4).eight; dsimp only)) | (go_at_call 36; go_must ((with_reducible refine Calls.mono (HR.out _) ?_); rintro _ _ ⟨rfl, rfl⟩; dsimp only)) | (go_at_call 37; go_must ((with_reducible refine Calls.mono (HFa.out _) ?_); rintro _ _ ⟨rfl, rfl⟩; dsimp only)) | (go_at_call 17; go_must ((with_reducible refine Calls.mono (HK.out _) ?_); rintro _ w9 ⟨rfl, hb9⟩; dsimp only)) | (with_reducible refine Keep.last ?_) | (with_reducible refine Keep.below (by assumption) ?_) | (with_reducible refine Keep.kept (by assumption) ?_) | (with_reducible refine Keep.alloc ?_) | (with_reducible refine Keep.same ?_) | ((with_reducible refine WpH.here ?_); first | (refine WpH.nil ?_; refine NoP.normal ?_) | (refine WpH.load (by rfl) (by rfl) (by go_simp; rfl) ?_; simp only [Act.put, List.setIfInBounds_toArray, List.set_cons_zero, List.set_cons_succ]) | (refine WpH.loadT (by rfl) (by rfl) (by go_simp; rfl) (by rintro _ _ ⟨⟩; exact ⟨_, _, _, _, _, _, by rfl, by assumption, by assumption⟩) ?_; simp only [Act.put, List.setIfInBounds_toArray, List.set_cons_zero, List.set_cons_succ]) | (refine WpH.pure (by rfl) (fun w_ => by go_simp; (try go_bits); rfl) ?_; simp only [Act.put, List.setIfInBounds_toArray, List.set_cons_zero, List.set_cons_succ]) | (refine WpH.wild1 (by rfl) (fun _ _ => ?_)) | (refine WpH.skip (by rfl) ?_; simp only [Act.put, List.setIfInBounds_toArray, List.set_cons_zero, List.set_cons_succ])) | go_values | go_skip | go_guarded | go_step | go_upon | go_back)
        skip
        go_ret
        exact ⟨rfl, bvia (bvia hb03 hb4) hb9⟩
      · rw [hfh] at HFa
        have hnI : (⟨-5, 0, -5⟩ : Nm).In := ⟨⟨by decide, by decide⟩, ⟨by decide, by decide⟩, ⟨by decide, by decide⟩⟩
        have hgd : El.Good ⟨-5, 0, -5, ch, hd⟩ := ⟨hch, hfh, hnI⟩
        clear hch hfh
        repeat' (first | (go_at_call 35; go_must ((with_reducible refine Calls.mono HIx.out ?_); rintro _ w4 ⟨⟨r, rfl, hr⟩, hb4⟩; have hr0 : r < 0 := Int.not_le.1 (fun h => idm (hr.1 h)); clear hr; obtain ⟨x0, x1, x2, x3, x4, x5, x6, x7, xl⟩ := (hX3.step hb4).eight; dsimp only)) | (go_at_call 36; go_must ((with_reducible refine Calls.mono (HR.out _) ?_); rintro _ _ ⟨rfl, rfl⟩; dsimp only)) | (go_at_call 37; go_must ((with_reducible refine Calls.mono (HFa.out _) ?_); rintro _ _ ⟨rfl, rfl⟩; dsimp only)) | (with_reducible refine stop_region 10 ?_) | (with_reducible refine Keep.last ?_) | (with_reducible refine Keep.below (by assumption) ?_) | (with_reducible refine Keep.kept (by assumption) ?_) | (with_reducible refine Keep.alloc ?_) | (with_reducible refine Keep.same ?_) | ((with_reducible refine WpH.here ?_); first | (refine WpH.nil ?_; refine NoP.normal ?_) | (refine WpH.load (by rfl) (by rfl) (by go_simp; rfl) ?_; simp only [Act.put, List.setIfInBounds_toArray, List.set_cons_zero, List.set_cons_succ]) | (refine WpH.loadT (by rfl) (by rfl) (by go_simp; rfl) (by rintro _ _ ⟨⟩; exact ⟨_, _, _, _, _, _, by rfl, by assumption, by assumption⟩) ?_; simp only [Act.put, List.setIfInBounds_toArray, List.set_cons_zero, List.set_cons_succ]) | (refine WpH.pure (by rfl) (fun w_ => by go_simp; (try go_bits); rfl) ?_; simp only [Act.put, List.setIfInBounds_toArray, List.set_cons_zero, List.set_cons_succ]) | (refine WpH.wild1 (by rfl) (fun _ _ => ?_)) | (refine WpH.skip (by rfl) ?_; simp only [Act.put, List.setIfInBounds_toArray, List.set_cons_zero, List.set_cons_succ])) | go_values | go_skip | go_guarded | go_step | go_upon | go_back)
        refine Stop.go ?_
        obtain ⟨hM3, hp3, hrow3, hnd, hSM⟩ := HP3.out
        have z4 := hb4.size
        have HIn := hid (minsert_ok w4.drew _ mb L L.length k ⟨-5, 0, -5, ch, hd⟩ ((hM3.step hb4).step (Below.refl _ _).drew) (by omega) (by omega) hkL hgd idm)
        dsimp only at HIn
        have hX4 := (hX3.step hb4).drew
        have hp4 := (hp3.step hb4).drew
        have hrow4 := (hrow3.step hb4).drew
        have p0 := hp4.cell 0
        have pl := hp4.lt
        simp at p0
        have hl' : (L.take k ++ (⟨-5, 0, -5, ch, hd⟩ : El) :: L.drop k).length = L.length + 1 := by simp; omega
        have hk' : (L.take k ++ (⟨-5, 0, -5, ch, hd⟩ : El) :: L.drop k)[k]? = some ⟨-5, 0, -5, ch, hd⟩ := by
          rw [List.getElem?_append_right (by simp; omega)]
          simp [Nat.min_eq_left hkL]
        have hcut : (L.take k ++ (⟨-5, 0, -5, ch, hd⟩ : El) :: L.drop k).take k ++ (L.take k ++ (⟨-5, 0, -5, ch, hd⟩ : El) :: L.drop k).drop (k + 1) = L := by
          rw [List.take_append_of_le_length (by simp; omega), List.take_take, Nat.min_self, List.drop_append, List.drop_eq_nil_of_le (by simp; omega)]
          simp [Nat.min_eq_left hkL]
        have Hl := hid (And.intro hl' (And.intro hk' hcut))
        have HSm := hid hSM
        clear hM3 hp3 hrow3 hnd hSM hl' hk' hcut hgd
        have q1 : w4.drew.heap[pb]? = some (.cells #[.pointer (some ⟨mb, 0, none⟩), .slice Ap L.length cp] 29 (0, 0)) := hp4
        have q2 : w4.drew.heap[w.heap.size]? = some (.cells #[.int .i64 d, .int .i64 i, .int .i64 q, .int .i64 (-5), .int .i64 0, .int .i64 (-5), .int .i32 ch, .int .i64 hd] 63 (0, 0)) := hX4
        have t1 : ¬ (SM pb ∧ pb < w1.heap.size) := fun h => (HSm.out _ h.1).2 rfl
        have t2 : ¬ (SM w.heap.size ∧ w.heap.size < w1.heap.size) := fun h => by have := (HSm.out _ h.1).1; omega
        repeat' (first | ((with_reducible refine region_at 10 ?_); refine wp_region_orderT (fun b => ¬ (SM b ∧ b < w1.heap.size)) [(0, true, false), (1, true, false), (2, true, false), (3, true, false), (4, true, false), (5, true, false), (6, true, false), (7, false, false), (8, true, false)] (by kernel_rfl) (by kernel_rfl) (by kernel_rfl) rfl rfl ?_) | (go_at_call 38; go_must ((with_reducible refine Calls.mono HIn.out ?_); rintro _ w5 ⟨rfl, hM5, hO5⟩; have hk5 : KeepT (fun b => ¬ (SM b ∧ b < w1.heap.size)) _ w5 := ⟨hO5.size, fun b hl hb => hO5.block b hl hb⟩; have hX5 := hO5.blk hX4 t2; have hp5 := hO5.blk hp4 t1; have hrow5 := hrow4.keep (w' := w5) (fun b hb hl => hO5.block b hl (fun h => by omega)); have p0 := hp5.cell 0; have pl := hp5.lt; simp at p0; have HE5 := hid (melements_any w5 _ mb _ _ hM5 (by rw [Hl.out.1]; omega)); rw [Hl.out.1] at HE5; dsimp only)) | (go_at_call 23; go_must ((with_reducible refine Calls.mono HE5.out ?_); rintro _ w6 ⟨A6, c6, rfl, hO6, hb6⟩; dsimp only)) | (with_reducible refine stop_region 13 ?_) | (with_reducible refine Keep.last ?_) | (with_reducible refine Keep.below (by assumption) ?_) | (with_reducible refine Keep.kept (by assumption) ?_) | (with_reducible refine Keep.alloc ?_) | (with_reducible refine Keep.same ?_) | ((with_reducible refine WpH.here ?_); first | (refine WpH.nil ?_; refine NoP.normal ?_) | (refine WpH.load (by rfl) (by rfl) (by go_simp; rfl) ?_; simp only [Act.put, List.setIfInBounds_toArray, List.set_cons_zero, List.set_cons_succ]) | (refine WpH.loadT (by rfl) (by rfl) (by go_simp; rfl) (by rintro _ _ ⟨⟩; exact ⟨_, _, _, _, _, _, by rfl, by assumption, by assumption⟩) ?_; simp only [Act.put, List.setIfInBounds_toArray, List.set_cons_zero, List.set_cons_succ]) | (refine WpH.pure (by rfl) (fun w_ => by go_simp; (try go_bits); rfl) ?_; simp only [Act.put, List.setIfInBounds_toArray, List.set_cons_zero, List.set_cons_succ]) | (refine WpH.wild1 (by rfl) (fun _ _ => ?_)) | (refine WpH.skip (by rfl) ?_; simp only [Act.put, List.setIfInBounds_toArray, List.set_cons_zero, List.set_cons_succ])) | go_values | go_skip | go_guarded | go_step | go_upon | go_back)
        refine Stop.go ?_
        have hO6r := hO6.row (S := fun _ => True) fun _ _ _ => trivial
        obtain ⟨b6, off6, e6, rfl, -, he6, v0, v1, v2, v3, v4⟩ := hO6r.at_ (show k < L.length + 1 by omega)
        obtain rfl := Option.some.inj (he6.symm.trans Hl.out.2.1)
        dsimp only at v0 v1 v2 v3 v4
        have v5 := lt_of_cell' v0
        dsimp only at v5
        have hcl := hO6r.2.1
        have hkk : (k : Int) < (L.length : Int) + 1 := by omega
        obtain ⟨x0, x1, x2, x3, x4, x5, x6, x7, xl⟩ := (hX5.step hb6).eight
        have HC := hid (refCut_any (some ⟨b6, off6, none⟩) (L.length + 1) c6 k 1 _ _ w6.drew hO6r.drew (by omega) (by omega))
        rw [show ((1 : Nat) : Int) = 1 from rfl, Nat.add_sub_cancel, Hl.out.2.2] at HC
        have hrow6 := (hrow5.step hb6).drew
        clear he6
        repeat' (first | ((with_reducible refine region_at 13 ?_); refine wp_region_order [(0, true, false), (1, true, false), (2, true, false), (3, true, false), (4, true, false), (5, true, false), (6, true, false), (7, true, false), (8, true, false), (9, true, false), (10, true, false), (11, true, false), (12, true, false), (13, true, false), (14, true, false), (15, true, false), (16, true, false), (17, true, false), (19, true, false), (18, false, false), (20, false, false), (21, true, false), (22, true, false), (23, false, false), (24, true, false), (25, true, false)] (by kernel_rfl) (by kernel_rfl) (by kernel_rfl) rfl rfl ?_) | ((with_reducible refine WpH.here ?_); refine WpH.wild2 (by rfl) (fun _ _ => ?_)) | (go_at_call 39; go_must ((with_reducible refine Calls.mono HC.out ?_); rintro _ w7 ⟨A7, c7, rfl, hO7, hb7⟩; have HEl := hid (els_eq A7 L.length c7 A2 c2 L _ _ w7 (hO7.row (S := fun _ => True) fun _ _ _ => trivial) (hrow6.step hb7)); dsimp only)) | (go_at_call 22; go_must ((with_reducible refine Calls.mono HEl.out ?_); rintro _ w8 ⟨rfl, hb8⟩; dsimp only)) | (go_at_call 17; go_must ((with_reducible refine Calls.mono (HK.out _) ?_); rintro _ w9 ⟨rfl, hb9⟩; dsimp only)) | (with_reducible refine Keep.last ?_) | (with_reducible refine Keep.below (by assumption) ?_) | (with_reducible refine Keep.kept (by assumption) ?_) | (with_reducible refine Keep.alloc ?_) | (with_reducible refine Keep.same ?_) | ((with_reducible refine WpH.here ?_); first | (refine WpH.nil ?_; refine NoP.normal ?_) | (refine WpH.load (by rfl) (by rfl) (by go_simp; rfl) ?_; simp only [Act.put, List.setIfInBounds_toArray, List.set_cons_zero, List.set_cons_succ]) | (refine WpH.loadT (by rfl) (by rfl) (by go_simp; rfl) (by rintro _ _ ⟨⟩; exact ⟨_, _, _, _, _, _, by rfl, by assumption, by assumption⟩) ?_; simp only [Act.put, List.setIfInBounds_toArray, List.set_cons_zero, List.set_cons_succ]) | (refine WpH.pure (by rfl) (fun w_ => by go_simp; (try go_bits); rfl) ?_; simp only [Act.put, List.setIfInBounds_toArray, List.set_cons_zero, List.set_cons_succ]) | (refine WpH.wild1 (by rfl) (fun _ _ => ?_)) | (refine WpH.skip (by rfl) ?_; simp only [Act.put, List.setIfInBounds_toArray, List.set_cons_zero, List.set_cons_succ])) | go_values | go_skip | go_guarded | go_step | go_upon | go_back)
        skip
        go_ret
        have hb05 : Below w.heap.size w w5 := hO5.below (bvia hb03 hb4).drew (by have := b1.size; omega) (fun b h => by have := (HSm.out _ h.1).1; have := b1.size; omega)
        exact ⟨rfl, bvia (bvia (bvia (bvia hb05 hb6).drew hb7) hb8) hb9⟩
end Go.Proofs.YtfihjajllfihjaaDoor
