/- barrowlaw05.ModelAll: the walk over a base that is taken. Printed by mall.py. Conditions: the row lies in memory, the numbers fit their kinds. -/
import Derived.Test.YtfihjajllfihjaaDoorModelAll
namespace Go.Proofs.YtfihjajllfihjaaDoor
set_option linter.unusedSimpArgs false
set_option linter.unusedVariables false
open Go Go.RowKit
variable {a : Nat → Addr}
set_option maxRecDepth 200000 in
set_option maxHeartbeats 8000000 in
theorem mall_ok (w : World) (A : Option Addr) (n c : Nat) (stop : Int) (ls : List El) (S : Nat → Prop) (hr : Row w S A n c ls) (hg : AllRight (ls.take (min n 100))) (hin : ∀ e ∈ ls, e.In) :
    Calls Tryd.prog 4 #[.slice A n c, .int .i64 stop] w fun e w' => e = .returned (.bool true) ∧ Below w.heap.size w w' := by
  obtain ⟨hl0, hs0, hr0, b0⟩ := box3 w 22 3 4 #[.slice A n c] #[.int .i64 stop] #[.bool false]
  have sX : (((w.alloc (.cells #[.slice A n c] 22)).alloc (.cells #[.int .i64 stop] 3)).alloc (.cells #[.bool false] 4)).heap.size = w.heap.size + 3 := by
    show Array.size (((w.heap.push _).push _).push _) = _
    simp
  have HB := hid (begun5_ok _ A n c ls S (hr.step b0) hg hin)
  have HK := hid wakes5_any
  have hnl := hr.len_le
  unfold maxLen at hnl
  have hLl : (ls.take (min n 100)).length ≤ 100 := by rw [List.length_take]; omega
  have HW1 := hid (fun W => within_ex stop (wrap64 ((n : Int) + 1)) (wrap_ne n hnl) W)
  clear hr hg hin
  generalize ls.take (min n 100) = L at *
  have l0 := hl0.cell 0
  simp at l0
  have ll := hl0.lt
  refine calls_of_marks Tryd.func4 rfl ?_
  simp only [Tryd.ntmps4, List.size_toArray, List.length_cons, List.length_nil, Nat.reduceAdd, Nat.reduceSub, Array.replicate_succ, Array.replicate_zero, List.push_toArray, List.append_toArray, List.nil_append, List.cons_append]
  repeat' (first | (with_reducible refine stop_region 1 ?_) | (with_reducible refine Keep.last ?_) | (with_reducible refine Keep.below (by assumption) ?_) | (with_reducible refine Keep.kept (by assumption) ?_) | (with_reducible refine Keep.alloc ?_) | (with_reducible refine Keep.same ?_) | ((with_reducible refine WpH.here ?_); first | (refine WpH.nil ?_; refine NoP.normal ?_) | (refine WpH.load (by rfl) (by rfl) (by go_simp; rfl) ?_; simp only [Act.put, List.setIfInBounds_toArray, List.set_cons_zero, List.set_cons_succ]) | (refine WpH.loadT (by rfl) (by rfl) (by go_simp; rfl) (by rintro _ _ ⟨⟩; exact ⟨_, _, _, _, _, _, by rfl, by assumption, by assumption⟩) ?_; simp only [Act.put, List.setIfInBounds_toArray, List.set_cons_zero, List.set_cons_succ]) | (refine WpH.pure (by rfl) (fun w_ => by go_simp; (try go_bits); rfl) ?_; simp only [Act.put, List.setIfInBounds_toArray, List.set_cons_zero, List.set_cons_succ]) | (refine WpH.wild1 (by rfl) (fun _ _ => ?_)) | (refine WpH.skip (by rfl) ?_; simp only [Act.put, List.setIfInBounds_toArray, List.set_cons_zero, List.set_cons_succ])) | ((with_reducible refine WpO.here ?_); first | (refine WpO.done ?_; first | refine NoP.normal ?_ | refine NoO.normal ?_) | (refine WpO.load (by rfl) (by rfl) (by go_simp; rfl) ?_; simp only [Act.put, List.setIfInBounds_toArray, List.set_cons_zero, List.set_cons_succ]) | (refine WpO.loadT (by rfl) (by rfl) (by go_simp; rfl) (by rintro _ _ ⟨⟩; exact ⟨_, _, _, _, _, _, by rfl, by assumption, by assumption⟩) ?_; simp only [Act.put, List.setIfInBounds_toArray, List.set_cons_zero, List.set_cons_succ]) | (refine WpO.pure (by rfl) (fun w_ => by go_simp; (try go_bits); rfl) ?_; simp only [Act.put, List.setIfInBounds_toArray, List.set_cons_zero, List.set_cons_succ]) | (refine WpO.skip (by rfl) ?_; simp only [Act.put, List.setIfInBounds_toArray, List.set_cons_zero, List.set_cons_succ]) | refine WpO.wild ?_ | refine WpO.two ?_ ?_ | refine WpO.three ?_ ?_ ?_) | ((with_reducible refine wildO.here ?_); first | (refine wildO.go (by rfl) (fun _ _ => ?_)) | (refine wildO.skip (by rfl) ?_; simp only [Act.put, List.setIfInBounds_toArray, List.set_cons_zero, List.set_cons_succ])) | go_values | go_skip | go_guarded | go_step | go_upon | go_back)
  refine Stop.go ?_
  generalize ((w.alloc (.cells #[.slice A n c] 22)).alloc (.cells #[.int .i64 stop] 3)).alloc (.cells #[.bool false] 4) = X at *
  repeat' (first | (go_at_call 16; go_must ((with_reducible refine Calls.mono HB.out ?_); rintro _ w1 ⟨⟨pb, mb, SM, rfl, hP⟩, hb1⟩; obtain ⟨Ap, cp, hBp, hrp, hMp, hSp, hbp, hndp⟩ := hP; have q0 := hBp.cell 0; have q1 := hBp.lt; simp at q0; clear hrp; dsimp only)) | (go_at_call 25; go_must ((with_reducible refine Calls.mono (mall_any mb _) ?_); rintro _ _ ⟨rfl, rfl⟩; dsimp only)) | (with_reducible refine stop_loop' ?_) | (with_reducible refine Keep.last ?_) | (with_reducible refine Keep.below (by assumption) ?_) | (with_reducible refine Keep.kept (by assumption) ?_) | (with_reducible refine Keep.alloc ?_) | (with_reducible refine Keep.same ?_) | ((with_reducible refine WpH.here ?_); first | (refine WpH.nil ?_; refine NoP.normal ?_) | (refine WpH.load (by rfl) (by rfl) (by go_simp; rfl) ?_; simp only [Act.put, List.setIfInBounds_toArray, List.set_cons_zero, List.set_cons_succ]) | (refine WpH.loadT (by rfl) (by rfl) (by go_simp; rfl) (by rintro _ _ ⟨⟩; exact ⟨_, _, _, _, _, _, by rfl, by assumption, by assumption⟩) ?_; simp only [Act.put, List.setIfInBounds_toArray, List.set_cons_zero, List.set_cons_succ]) | (refine WpH.pure (by rfl) (fun w_ => by go_simp; (try go_bits); rfl) ?_; simp only [Act.put, List.setIfInBounds_toArray, List.set_cons_zero, List.set_cons_succ]) | (refine WpH.wild1 (by rfl) (fun _ _ => ?_)) | (refine WpH.skip (by rfl) ?_; simp only [Act.put, List.setIfInBounds_toArray, List.set_cons_zero, List.set_cons_succ])) | ((with_reducible refine WpO.here ?_); first | (refine WpO.done ?_; first | refine NoP.normal ?_ | refine NoO.normal ?_) | (refine WpO.load (by rfl) (by rfl) (by go_simp; rfl) ?_; simp only [Act.put, List.setIfInBounds_toArray, List.set_cons_zero, List.set_cons_succ]) | (refine WpO.loadT (by rfl) (by rfl) (by go_simp; rfl) (by rintro _ _ ⟨⟩; exact ⟨_, _, _, _, _, _, by rfl, by assumption, by assumption⟩) ?_; simp only [Act.put, List.setIfInBounds_toArray, List.set_cons_zero, List.set_cons_succ]) | (refine WpO.pure (by rfl) (fun w_ => by go_simp; (try go_bits); rfl) ?_; simp only [Act.put, List.setIfInBounds_toArray, List.set_cons_zero, List.set_cons_succ]) | (refine WpO.skip (by rfl) ?_; simp only [Act.put, List.setIfInBounds_toArray, List.set_cons_zero, List.set_cons_succ]) | refine WpO.wild ?_ | refine WpO.two ?_ ?_ | refine WpO.three ?_ ?_ ?_) | ((with_reducible refine wildO.here ?_); first | (refine wildO.go (by rfl) (fun _ _ => ?_)) | (refine wildO.skip (by rfl) ?_; simp only [Act.put, List.setIfInBounds_toArray, List.set_cons_zero, List.set_cons_succ])) | go_values | go_skip | go_guarded | go_step | go_upon | go_back)
  refine Stop.go ?_
  skip
  have s1 : (w1.alloc (.cells #[.pointer (some ⟨pb, 0, none⟩)] 23)).heap.size = w1.heap.size + 1 := Array.size_push _
  simp only [s1]
  clear s1
  obtain ⟨hpx, hga, hkb, eY⟩ := box3 w1 23 27 3 #[.pointer (some ⟨pb, 0, none⟩)] #[.pointer (some ⟨mb, 0, none⟩)] #[.int .i64 0]
  have sz1 := hb1.size
  have bY0 := bvia (bvia b0 hb1) eY
  have hF0 : AFix _ A n c stop w.heap.size w1.heap.size (w1.heap.size + 1) pb mb (.slice Ap L.length cp) := ⟨(hl0.step hb1).step eY, (hs0.step hb1).step eY, (hr0.step hb1).step eY, hpx, hga, hBp.step eY⟩
  have Hlt0 := hid hSp
  obtain ⟨gt, gm, p0, T0, hMp⟩ := hMp
  have hgts := (hSp gt hMp.2.2.2.2.2.2.1).1
  have hgms := (hSp gm hMp.2.2.2.2.2.2.2.1).1
  have hM0 : MdlAt w1 SM mb gt gm L L.length := ⟨p0, T0, hMp⟩
  have hM0 := (hM0.all).step eY
  have Hnd := hid hndp
  generalize ((w1.alloc (.cells #[.pointer (some ⟨pb, 0, none⟩)] 23)).alloc (.cells #[.pointer (some ⟨mb, 0, none⟩)] 27)).alloc (.cells #[.int .i64 0] 3) = Y at *
  obtain ⟨K, hM0⟩ : ∃ K, MdlAt Y (fun _ => True) mb gt gm L K := ⟨_, hM0⟩
  have hFY := hF0
  have hkY := hkb
  have hMY := hM0
  have bY := bY0
  clear hF0 hkb hM0 bY0
  generalize hpxq : w1.heap.size = px at *
  generalize hgaq : px + 1 = ga at *
  generalize hkbq : ga + 1 = kb at *
  have Hlt : Hid (w.heap.size + 3 ≤ gt ∧ w.heap.size + 3 ≤ gm ∧ w.heap.size + 3 ≤ px ∧ True ∧ True ∧ True) := hid ⟨by omega, by omega, by omega, trivial, trivial, trivial⟩
  clear q0 q1 hpx hga eY hb1 hl0 hs0 hr0 b0 l0 ll hMp hSp Hlt0 hBp hndp hgts hgms HB
  refine wp_loop_rounds 3 (roundsW_next ?_)
  have HE := hid (melements_any Y _ mb L K hMY.mdl (by omega))
  have xc := hFY.x.cell 0
  have pc := hFY.p.cell 0
  have kc := hkY.cell 0
  have xcl := hFY.x.lt
  have pcl := hFY.p.lt
  have kcl := hkY.lt
  simp at xc pc kc
  repeat' (first | (go_at_call 23; go_must ((with_reducible refine Calls.mono HE.out ?_); rintro _ Y2 ⟨A2, c2, rfl, hown, hb2⟩; dsimp only)) | (with_reducible refine stop_block 2 ?_) | (with_reducible refine Keep.last ?_) | (with_reducible refine Keep.below (by assumption) ?_) | (with_reducible refine Keep.kept (by assumption) ?_) | (with_reducible refine Keep.alloc ?_) | (with_reducible refine Keep.same ?_) | ((with_reducible refine WpH.here ?_); first | (refine WpH.nil ?_; refine NoP.normal ?_) | (refine WpH.load (by rfl) (by rfl) (by go_simp; rfl) ?_; simp only [Act.put, List.setIfInBounds_toArray, List.set_cons_zero, List.set_cons_succ]) | (refine WpH.loadT (by rfl) (by rfl) (by go_simp; rfl) (by rintro _ _ ⟨⟩; exact ⟨_, _, _, _, _, _, by rfl, by assumption, by assumption⟩) ?_; simp only [Act.put, List.setIfInBounds_toArray, List.set_cons_zero, List.set_cons_succ]) | (refine WpH.pure (by rfl) (fun w_ => by go_simp; (try go_bits); rfl) ?_; simp only [Act.put, List.setIfInBounds_toArray, List.set_cons_zero, List.set_cons_succ]) | (refine WpH.wild1 (by rfl) (fun _ _ => ?_)) | (refine WpH.skip (by rfl) ?_; simp only [Act.put, List.setIfInBounds_toArray, List.set_cons_zero, List.set_cons_succ])) | ((with_reducible refine WpO.here ?_); first | (refine WpO.done ?_; first | refine NoP.normal ?_ | refine NoO.normal ?_) | (refine WpO.load (by rfl) (by rfl) (by go_simp; rfl) ?_; simp only [Act.put, List.setIfInBounds_toArray, List.set_cons_zero, List.set_cons_succ]) | (refine WpO.loadT (by rfl) (by rfl) (by go_simp; rfl) (by rintro _ _ ⟨⟩; exact ⟨_, _, _, _, _, _, by rfl, by assumption, by assumption⟩) ?_; simp only [Act.put, List.setIfInBounds_toArray, List.set_cons_zero, List.set_cons_succ]) | (refine WpO.pure (by rfl) (fun w_ => by go_simp; (try go_bits); rfl) ?_; simp only [Act.put, List.setIfInBounds_toArray, List.set_cons_zero, List.set_cons_succ]) | (refine WpO.skip (by rfl) ?_; simp only [Act.put, List.setIfInBounds_toArray, List.set_cons_zero, List.set_cons_succ]) | refine WpO.wild ?_ | refine WpO.two ?_ ?_ | refine WpO.three ?_ ?_ ?_) | ((with_reducible refine wildO.here ?_); first | (refine wildO.go (by rfl) (fun _ _ => ?_)) | (refine wildO.skip (by rfl) ?_; simp only [Act.put, List.setIfInBounds_toArray, List.set_cons_zero, List.set_cons_succ])) | go_values | go_skip | go_guarded | go_step | go_upon | go_back)
  refine Stop.go ?_
  skip
  have eZ : Below Y2.heap.size Y2 ((Y2.alloc (.cells #[.slice A2 L.length c2] 22)).alloc (.cells #[.int .i64 0] 3)) := balloc (balloc (Below.refl _ _))
  have sZ : (Y2.alloc (.cells #[.slice A2 L.length c2] 22)).heap.size = Y2.heap.size + 1 := Array.size_push _
  have hwZ := (Blk.new Y2 22 #[.slice A2 L.length c2]).alloc (.cells #[.int .i64 0] 3)
  have hnZ := Blk.new (Y2.alloc (.cells #[.slice A2 L.length c2] 22)) 3 #[.int .i64 0]
  rw [sZ] at hnZ
  have eY := bvia hb2 eZ
  have hrow1 := (hown.row (S := fun b => Y.heap.size ≤ b ∧ b < Y2.heap.size) fun b h1 h2 => ⟨h1, h2⟩).step eZ
  have hsz2 := hb2.size
  generalize (Y2.alloc (.cells #[.slice A2 L.length c2] 22)).alloc (.cells #[.int .i64 0] 3) = Z at *
  have hFZ := hFY.step eY
  have hkZ := hkY.step eY
  have hMZ := hMY.step eY
  have bZ := bvia bY eY
  have HeY := hid eY
  have hgtY : gt < Y.heap.size := by obtain ⟨p, T, k1, k2, -⟩ := hMY; exact k2.lt
  have hgmY : gm < Y.heap.size := by obtain ⟨p, T, k1, k2, k3, k4, k5, -⟩ := hMY; exact k5.lt
  have hmbY : mb < Y.heap.size := by obtain ⟨p, T, k1, -⟩ := hMY; exact k1.lt
  have hrowZ := hrow1.away hMZ hnZ (fun b hb => by have := hb.1; omega)
  clear xc pc kc xcl pcl kcl hown hb2 eZ sZ eY hrow1 HE
  generalize hnbq : Y2.heap.size + 1 = nb at *
  have hnbZ := hnZ.lt
  have hgtnb : gt ≠ nb := by omega
  have hgmnb : gm ≠ nb := by omega
  have hgtZ : gt < Z.heap.size := by omega
  have hgmZ : gm < Z.heap.size := by omega
  have hmbZ : mb < Z.heap.size := by omega
  obtain ⟨hx1, hx2, hx3, hx4, hx5, hx6⟩ := Hlt.out
  have hgal := hFY.g.lt
  have hpxl := hFY.x.lt
  have hpbl := hFY.p.lt
  have hkbl := hkY.lt
  have hneg : ∀ b, (b = px ∨ b = ga ∨ b = pb ∨ b = kb) → b ≠ gt ∧ b ≠ gm := fun b hb => by
    obtain ⟨p, T, k1, k2, k3, k4, k5, -⟩ := hMY
    rcases hb with rfl | rfl | rfl | rfl
    · exact ⟨hFY.x.ne k2 (by decide), fun e => k5.ne_blk (e ▸ hFY.x) rfl⟩
    · exact ⟨hFY.g.ne k2 (by decide), fun e => k5.ne_blk (e ▸ hFY.g) rfl⟩
    · exact ⟨hFY.p.ne k2 (by decide), fun e => k5.ne_blk (e ▸ hFY.p) rfl⟩
    · exact ⟨hkY.ne k2 (by decide), fun e => k5.ne_blk (e ▸ hkY) rfl⟩
  have hXF : ∀ b, (b = w.heap.size ∨ b = w.heap.size + 1 ∨ b = w.heap.size + 2 ∨ b = px ∨ b = ga ∨ b = pb) → ¬ X3 nb gt gm b := fun b hb => by
    rintro (h | h | h)
    · omega
    · rcases hb with hb | hb | hb | hb | hb | hb
      · omega
      · omega
      · omega
      · exact (hneg b (by simp [hb])).1 h
      · exact (hneg b (by simp [hb])).1 h
      · exact (hneg b (by simp [hb])).1 h
    · rcases hb with hb | hb | hb | hb | hb | hb
      · omega
      · omega
      · omega
      · exact (hneg b (by simp [hb])).2 h
      · exact (hneg b (by simp [hb])).2 h
      · exact (hneg b (by simp [hb])).2 h
  have hXk : ¬ X3 nb gt gm kb := by
    rintro (h | h | h)
    · omega
    · exact (hneg kb (by simp)).1 h
    · exact (hneg kb (by simp)).2 h
  have hXw : ¬ X3 nb gt gm Y2.heap.size := by
    rintro (h | h | h) <;> omega
  obtain ⟨p, T, k1, k2, k3, hTall⟩ := hMZ.nodes hnZ
  refine wp_rangeFuncN_block 3 (gf := 81) (lb := #[.pointer (some ⟨ga, 0, none⟩)]) rfl (enters_fn Tryd.func81 (by kernel_rfl) rfl)
    (mallSeq T p ga mb gt (.map (some gm)) (fun b => ¬ X3 nb gt gm b) Z hFZ.g k1 k2 k3 (by rw [hTall]; omega)) (fun h k => h.trans k) (fun W l o o' hl h hc => KpM.putObj W l o o' hl h hc) (fun _ => rfl)
    (fun pre V => MI Z V mb gt gm nb L K pre.length) (fun V => ∃ cnt, ((0 : Nat) = 1 → cnt = L.length) ∧ MI Z V mb gt gm nb L K cnt)
    (fun s A B h hT => h.turn hT hmbZ hgtZ hgmZ hnbZ) (fun _ A B h hT => by obtain ⟨cnt, h1, h2⟩ := h; exact ⟨cnt, h1, h2.turn hT hmbZ hgtZ hgmZ hnbZ⟩)
    ⟨Out.refl _ _, hnZ, L, .inl rfl, hMZ⟩ ?round0 ?done0 ?end0
  case round0 =>
    rintro ll pre e V hll ⟨rc, hrc⟩ hI hG
    obtain ⟨he, hlt⟩ := prefix_at (show pre ++ [e] <+: L by rw [← hTall]; exact hG)
    simp only [elOne, El.agg, putArgs1, List.setIfInBounds_toArray, List.set_cons_zero, List.set_cons_succ]
    repeat' (first | ((with_reducible refine regionIn_ff ?_); refine wpIn_region_r rfl ?_) | (with_reducible refine Keep.last ?_) | (with_reducible refine Keep.below (by assumption) ?_) | (with_reducible refine Keep.kept (by assumption) ?_) | (with_reducible refine Keep.alloc ?_) | (with_reducible refine Keep.same ?_) | ((with_reducible refine WpH.here ?_); first | (refine WpH.nil ?_; refine NoP.normal ?_) | (refine WpH.load (by rfl) (by rfl) (by go_simp; rfl) ?_; simp only [Act.put, List.setIfInBounds_toArray, List.set_cons_zero, List.set_cons_succ]) | (refine WpH.loadT (by rfl) (by rfl) (by go_simp; rfl) (by rintro _ _ ⟨⟩; exact ⟨_, _, _, _, _, _, by rfl, by assumption, by assumption⟩) ?_; simp only [Act.put, List.setIfInBounds_toArray, List.set_cons_zero, List.set_cons_succ]) | (refine WpH.pure (by rfl) (fun w_ => by go_simp; (try go_bits); rfl) ?_; simp only [Act.put, List.setIfInBounds_toArray, List.set_cons_zero, List.set_cons_succ]) | (refine WpH.wild1 (by rfl) (fun _ _ => ?_)) | (refine WpH.skip (by rfl) ?_; simp only [Act.put, List.setIfInBounds_toArray, List.set_cons_zero, List.set_cons_succ])) | ((with_reducible refine WpO.here ?_); first | (refine WpO.done ?_; first | refine NoP.normal ?_ | refine NoO.normal ?_) | (refine WpO.load (by rfl) (by rfl) (by go_simp; rfl) ?_; simp only [Act.put, List.setIfInBounds_toArray, List.set_cons_zero, List.set_cons_succ]) | (refine WpO.loadT (by rfl) (by rfl) (by go_simp; rfl) (by rintro _ _ ⟨⟩; exact ⟨_, _, _, _, _, _, by rfl, by assumption, by assumption⟩) ?_; simp only [Act.put, List.setIfInBounds_toArray, List.set_cons_zero, List.set_cons_succ]) | (refine WpO.pure (by rfl) (fun w_ => by go_simp; (try go_bits); rfl) ?_; simp only [Act.put, List.setIfInBounds_toArray, List.set_cons_zero, List.set_cons_succ]) | (refine WpO.skip (by rfl) ?_; simp only [Act.put, List.setIfInBounds_toArray, List.set_cons_zero, List.set_cons_succ]) | refine WpO.wild ?_ | refine WpO.two ?_ ?_ | refine WpO.three ?_ ?_ ?_) | ((with_reducible refine wildO.here ?_); first | (refine wildO.go (by rfl) (fun _ _ => ?_)) | (refine wildO.skip (by rfl) ?_; simp only [Act.put, List.setIfInBounds_toArray, List.set_cons_zero, List.set_cons_succ])) | go_values | go_skip | go_guarded | go_step | go_upon | go_back | (with_reducible refine NoO.normal ?_) | gi_step | gi_upon)
    have eW : Below V.heap.size V (V.alloc (.cells #[.int .i64 e.epoch, .int .i64 e.rep, .int .i64 e.num, .int .i32 e.char, .int .i64 e.hides] 42)) := balloc (Below.refl _ _)
    refine ⟨KeepN.of_below eW, KpM.of_below eW, fun W2 hB2 => ?_⟩
    have hI2 := (hI.step eW).begun hB2 hll hgmZ
    have hx2 := hB2.blk (Blk.new V 42 #[.int .i64 e.epoch, .int .i64 e.rep, .int .i64 e.num, .int .i32 e.char, .int .i64 e.hides])
    generalize V.heap.size = xb at *
    clear hI eW hB2 hll hrc hG
    generalize hmq : pre.length = m at *
    have Hm := hid hmq
    clear hmq
    have hF2 := hFZ.out hI2.out hXF
    have hw2 := hI2.out.blk hwZ hXw
    have hk2 := hI2.out.blk hkZ hXk
    have hrow2 : Row W2 (fun b => ¬ X3 nb gt gm b) A2 L.length c2 L := hrowZ.keep fun b hb hl => hI2.out.block b hl hb
    obtain ⟨b2, off2, e', rfl, -, he2, c0, c1, c2', c3, c4⟩ := hrow2.at_ hlt
    obtain rfl := Option.some.inj (he2.symm.trans he)
    have n0 := hI2.n.cell 0
    have w0 := hw2.cell 0
    have x0 := hx2.cell 0
    have x1 := hx2.cell 1
    have x2 := hx2.cell 2
    have x3 := hx2.cell 3
    have x4 := hx2.cell 4
    simp at n0 w0 x0 x1 x2 x3 x4
    have j2 : ¬ (m : Int) ≥ L.length := by omega
    have hxl := hx2.lt
    have hnl2 := hI2.n.lt
    have hwl2 := hw2.lt
    have hcl := lt_of_cell' c0
    dsimp only at hcl
    have HI2 := hid hI2
    clear he he2 hI2 hrow2
    repeat' (first | ((with_reducible refine regionIn_at 14 ?_); refine wpIn_region_ordT (fun _ => True) rfl (.one 0 true false (.one 1 true false (.one 2 true false (.one 3 true false (.one 4 true false (.one 5 true false (.one 6 true false (.one 7 true false (.one 8 true false (.one 9 true false (.one 10 true false (.one 11 true false .nil)))))))))))) (by kernel_rfl) (by kernel_rfl) (by kernel_rfl) rfl rfl ?_) | (with_reducible refine stop_regionIn' 16 ?_) | ((with_reducible refine regionIn_ff ?_); refine wpIn_region_r rfl ?_) | (with_reducible refine Keep.last ?_) | (with_reducible refine Keep.below (by assumption) ?_) | (with_reducible refine Keep.kept (by assumption) ?_) | (with_reducible refine Keep.alloc ?_) | (with_reducible refine Keep.same ?_) | ((with_reducible refine WpH.here ?_); first | (refine WpH.nil ?_; refine NoP.normal ?_) | (refine WpH.load (by rfl) (by rfl) (by go_simp; rfl) ?_; simp only [Act.put, List.setIfInBounds_toArray, List.set_cons_zero, List.set_cons_succ]) | (refine WpH.loadT (by rfl) (by rfl) (by go_simp; rfl) (by rintro _ _ ⟨⟩; exact ⟨_, _, _, _, _, _, by rfl, by assumption, by assumption⟩) ?_; simp only [Act.put, List.setIfInBounds_toArray, List.set_cons_zero, List.set_cons_succ]) | (refine WpH.pure (by rfl) (fun w_ => by go_simp; (try go_bits); rfl) ?_; simp only [Act.put, List.setIfInBounds_toArray, List.set_cons_zero, List.set_cons_succ]) | (refine WpH.wild1 (by rfl) (fun _ _ => ?_)) | (refine WpH.skip (by rfl) ?_; simp only [Act.put, List.setIfInBounds_toArray, List.set_cons_zero, List.set_cons_succ])) | ((with_reducible refine WpO.here ?_); first | (refine WpO.done ?_; first | refine NoP.normal ?_ | refine NoO.normal ?_) | (refine WpO.load (by rfl) (by rfl) (by go_simp; rfl) ?_; simp only [Act.put, List.setIfInBounds_toArray, List.set_cons_zero, List.set_cons_succ]) | (refine WpO.loadT (by rfl) (by rfl) (by go_simp; rfl) (by rintro _ _ ⟨⟩; exact ⟨_, _, _, _, _, _, by rfl, by assumption, by assumption⟩) ?_; simp only [Act.put, List.setIfInBounds_toArray, List.set_cons_zero, List.set_cons_succ]) | (refine WpO.pure (by rfl) (fun w_ => by go_simp; (try go_bits); rfl) ?_; simp only [Act.put, List.setIfInBounds_toArray, List.set_cons_zero, List.set_cons_succ]) | (refine WpO.skip (by rfl) ?_; simp only [Act.put, List.setIfInBounds_toArray, List.set_cons_zero, List.set_cons_succ]) | refine WpO.wild ?_ | refine WpO.two ?_ ?_ | refine WpO.three ?_ ?_ ?_) | ((with_reducible refine wildO.here ?_); first | (refine wildO.go (by rfl) (fun _ _ => ?_)) | (refine wildO.skip (by rfl) ?_; simp only [Act.put, List.setIfInBounds_toArray, List.set_cons_zero, List.set_cons_succ])) | go_values | go_skip | go_guarded | go_step | go_upon | go_back | (with_reducible refine NoO.normal ?_) | gi_step | gi_upon)
    refine Stop.go ?_
    have hnU := HI2.out.n.drew
    have hkU := hk2.drew
    have HOU := hid (Out.drew (S := X3 nb gt gm) (w := W2))
    have hFU := hF2.step (W' := W2.drew) (Below.refl _ _).drew
    obtain ⟨L', hL', hM2⟩ := HI2.out.m
    have hMU := hM2.step (Below.refl W2.heap.size W2).drew
    clear c0 c1 c2' c3 c4 x0 x1 x2 x3 x4 w0 n0 hk2 hw2 hF2 hM2 hx2 hxl hnl2 hwl2 hcl j2
    generalize hUq : W2.drew = U at *
    clear hUq
    have n0 := hnU.cell 0
    have k0 := hkU.cell 0
    have s0 := hFU.s.cell 0
    have l0 := hFU.l.cell 0
    have kl := hkU.lt
    have nl := hnU.lt
    have sl := hFU.s.lt
    have ll0 := hFU.l.lt
    have f0 := hnU.frozen 0
    simp at n0 k0 s0 l0

    have hne1 : nb ≠ gt := fun e => hgtnb e.symm
    have hne2 : nb ≠ gm := fun e => hgmnb e.symm
    have hnb2 : ¬ (nb = gt ∨ nb = gm) := by
      rintro (h | h)
      · exact hne1 h
      · exact hne2 h

    repeat' (first | ((with_reducible refine regionIn_at 16 ?_); refine wpIn_region_ordT (fun _ => True) rfl (.one 0 true false (.one 1 true false (.one 2 true false (.one 3 true false (.one 4 true false (.one 5 true false (.one 6 true false (.one 7 true false (.one 8 false false (.one 9 true false (.one 10 true false .nil))))))))))) (by kernel_rfl) (by kernel_rfl) (by kernel_rfl) rfl rfl ?_) | (go_at_call 26; go_must ((with_reducible refine Calls.mono (HW1.out _) ?_); rintro _ _ ⟨⟨q, rfl⟩, rfl⟩; (rcases beq_or (m : Int) q with j3 | j3); all_goals dsimp only)) | (with_reducible refine stop_regionIn' 17 ?_) | ((with_reducible refine regionIn_ff ?_); refine wpIn_region_r rfl ?_) | (with_reducible refine Keep.last ?_) | (with_reducible refine Keep.below (by assumption) ?_) | (with_reducible refine Keep.kept (by assumption) ?_) | (with_reducible refine Keep.alloc ?_) | (with_reducible refine Keep.same ?_) | ((with_reducible refine WpH.here ?_); first | (refine WpH.nil ?_; refine NoP.normal ?_) | (refine WpH.load (by rfl) (by rfl) (by go_simp; rfl) ?_; simp only [Act.put, List.setIfInBounds_toArray, List.set_cons_zero, List.set_cons_succ]) | (refine WpH.loadT (by rfl) (by rfl) (by go_simp; rfl) (by rintro _ _ ⟨⟩; exact ⟨_, _, _, _, _, _, by rfl, by assumption, by assumption⟩) ?_; simp only [Act.put, List.setIfInBounds_toArray, List.set_cons_zero, List.set_cons_succ]) | (refine WpH.pure (by rfl) (fun w_ => by go_simp; (try go_bits); rfl) ?_; simp only [Act.put, List.setIfInBounds_toArray, List.set_cons_zero, List.set_cons_succ]) | (refine WpH.wild1 (by rfl) (fun _ _ => ?_)) | (refine WpH.skip (by rfl) ?_; simp only [Act.put, List.setIfInBounds_toArray, List.set_cons_zero, List.set_cons_succ])) | ((with_reducible refine WpO.here ?_); first | (refine WpO.done ?_; first | refine NoP.normal ?_ | refine NoO.normal ?_) | (refine WpO.load (by rfl) (by rfl) (by go_simp; rfl) ?_; simp only [Act.put, List.setIfInBounds_toArray, List.set_cons_zero, List.set_cons_succ]) | (refine WpO.loadT (by rfl) (by rfl) (by go_simp; rfl) (by rintro _ _ ⟨⟩; exact ⟨_, _, _, _, _, _, by rfl, by assumption, by assumption⟩) ?_; simp only [Act.put, List.setIfInBounds_toArray, List.set_cons_zero, List.set_cons_succ]) | (refine WpO.pure (by rfl) (fun w_ => by go_simp; (try go_bits); rfl) ?_; simp only [Act.put, List.setIfInBounds_toArray, List.set_cons_zero, List.set_cons_succ]) | (refine WpO.skip (by rfl) ?_; simp only [Act.put, List.setIfInBounds_toArray, List.set_cons_zero, List.set_cons_succ]) | refine WpO.wild ?_ | refine WpO.two ?_ ?_ | refine WpO.three ?_ ?_ ?_) | ((with_reducible refine wildO.here ?_); first | (refine wildO.go (by rfl) (fun _ _ => ?_)) | (refine wildO.skip (by rfl) ?_; simp only [Act.put, List.setIfInBounds_toArray, List.set_cons_zero, List.set_cons_succ])) | go_values | go_skip | go_guarded | go_step | go_upon | go_back | (with_reducible refine NoO.normal ?_) | gi_step | gi_upon)
    skip
    · obtain ⟨hkn, hkm⟩ := Out.rounds (Z := Z) (t := 3) (v := .bool true) (HOU.out.trans (Out.drew (S := X3 nb gt gm)) fun _ _ h => h) hgtZ hgmZ hnbZ
      exact ⟨hkn, rfl, m, (fun h => absurd h (by decide)), HI2.out.out.trans (HOU.out.trans (Out.drew (S := X3 nb gt gm)) fun _ _ h => h) (fun _ _ h => h), hnU.drew, L', hL', hMU.step (Below.refl _ _).drew⟩
    · refine Stop.go ?_
      have hnU := hnU.drew
      have HOU := hid (HOU.out.trans (Out.drew (S := X3 nb gt gm)) fun _ _ h => h)
      have hFU := hFU.step (W' := U.drew) (Below.refl _ _).drew
      have hMU := hMU.step (Below.refl U.heap.size U).drew
      clear n0 k0 s0 l0 kl nl sl ll0 f0 hkU j3
      generalize hUq : U.drew = U2 at *
      clear hUq
      have n0 := hnU.cell 0
      have f0 := hnU.frozen 0
      have nl := hnU.lt
      simp at n0
      by_cases hm3 : (m : Int) % 3 = 1
      · have hm4 : ((m : Int) % 3 == 1) = true := by simpa using hm3
        have hll' : L'.length ≤ 536870912 := by
          rcases hL' with rfl | rfl
          · omega
          · have := purgeOf_le L; omega
        have hnd' : (L'.map El.nm).Nodup := by
          rcases hL' with rfl | rfl
          · exact Hnd.out
          · exact purgeOf_nodup Hnd.out
        have HP := hid (mpurge_at U2 _ mb gt gm L' K hMU hll' hnd')
        have hx0 := hFU.x.cell 0
        have hxl0 := hFU.x.lt
        have hp0 := hFU.p.cell 0
        have hpl0 := hFU.p.lt
        simp at hx0 hp0
        have HL' := hid hL'
        have HnU := hid hnU
        clear hll' hnd' hFU hMU hL' hnU
        repeat' (first | (go_at_call 21; go_must ((with_reducible refine Calls.mono HP.out ?_); rintro _ U3 ⟨rfl, hM3, hO3⟩; have n3 := hO3.blk HnU.out hnb2; have n0 := n3.cell 0; have f0 := n3.frozen 0; have nl := n3.lt; simp at n0; dsimp only)) | ((with_reducible refine regionIn_ff ?_); refine wpIn_region_r rfl ?_) | (with_reducible refine Keep.last ?_) | (with_reducible refine Keep.below (by assumption) ?_) | (with_reducible refine Keep.kept (by assumption) ?_) | (with_reducible refine Keep.alloc ?_) | (with_reducible refine Keep.same ?_) | ((with_reducible refine WpH.here ?_); first | (refine WpH.nil ?_; refine NoP.normal ?_) | (refine WpH.load (by rfl) (by rfl) (by go_simp; rfl) ?_; simp only [Act.put, List.setIfInBounds_toArray, List.set_cons_zero, List.set_cons_succ]) | (refine WpH.loadT (by rfl) (by rfl) (by go_simp; rfl) (by rintro _ _ ⟨⟩; exact ⟨_, _, _, _, _, _, by rfl, by assumption, by assumption⟩) ?_; simp only [Act.put, List.setIfInBounds_toArray, List.set_cons_zero, List.set_cons_succ]) | (refine WpH.pure (by rfl) (fun w_ => by go_simp; (try go_bits); rfl) ?_; simp only [Act.put, List.setIfInBounds_toArray, List.set_cons_zero, List.set_cons_succ]) | (refine WpH.wild1 (by rfl) (fun _ _ => ?_)) | (refine WpH.skip (by rfl) ?_; simp only [Act.put, List.setIfInBounds_toArray, List.set_cons_zero, List.set_cons_succ])) | ((with_reducible refine WpO.here ?_); first | (refine WpO.done ?_; first | refine NoP.normal ?_ | refine NoO.normal ?_) | (refine WpO.load (by rfl) (by rfl) (by go_simp; rfl) ?_; simp only [Act.put, List.setIfInBounds_toArray, List.set_cons_zero, List.set_cons_succ]) | (refine WpO.loadT (by rfl) (by rfl) (by go_simp; rfl) (by rintro _ _ ⟨⟩; exact ⟨_, _, _, _, _, _, by rfl, by assumption, by assumption⟩) ?_; simp only [Act.put, List.setIfInBounds_toArray, List.set_cons_zero, List.set_cons_succ]) | (refine WpO.pure (by rfl) (fun w_ => by go_simp; (try go_bits); rfl) ?_; simp only [Act.put, List.setIfInBounds_toArray, List.set_cons_zero, List.set_cons_succ]) | (refine WpO.skip (by rfl) ?_; simp only [Act.put, List.setIfInBounds_toArray, List.set_cons_zero, List.set_cons_succ]) | refine WpO.wild ?_ | refine WpO.two ?_ ?_ | refine WpO.three ?_ ?_ ?_) | ((with_reducible refine wildO.here ?_); first | (refine wildO.go (by rfl) (fun _ _ => ?_)) | (refine wildO.skip (by rfl) ?_; simp only [Act.put, List.setIfInBounds_toArray, List.set_cons_zero, List.set_cons_succ])) | go_values | go_skip | go_guarded | go_step | go_upon | go_back | (with_reducible refine NoO.normal ?_) | gi_step | gi_upon)
        skip
        have hU3 : Out (X3 nb gt gm) W2 U3 := Out.trans HOU.out (⟨hO3.os, hO3.tape, hO3.output, hO3.size, fun k hk hn => hO3.block k hk (fun h => hn (.inr h))⟩ : Out (X3 nb gt gm) U2 U3) fun _ _ h => h
        have hpre : (pre ++ [e']).length = m + 1 := by rw [List.length_append, Hm.out]; rfl
        have hOW : Out (X3 nb gt gm) W2 (U3.setCell ⟨nb, 0, none⟩ (.int .i64 ((m : Int) + 1))) := Out.trans hU3 (Out.setCell (S := X3 nb gt gm) (p := ⟨nb, 0, none⟩) (.inl rfl) _) fun _ _ h => h
        obtain ⟨hkn, hkm⟩ := Out.rounds (Z := Z) (t := 3) (v := .bool true) hOW hgtZ hgmZ hnbZ
        refine ⟨hkn, hkm, ?_⟩
        show MI Z _ mb gt gm nb L K (pre ++ [e']).length
        rw [hpre]
        exact ⟨HI2.out.out.trans hOW fun _ _ h => h, by simpa using (n3).set_ 0 (.int .i64 ((m : Int) + 1)), _, .inr (purge_same HL'.out), (hM3.all).setBox (n3)⟩
      · have hm4 : ((m : Int) % 3 == 1) = false := by simpa using hm3
        have HL' := hid hL'
        have HnU := hid hnU
        have HMU := hid hMU
        clear hFU hL' hnU hMU
        repeat' (first | ((with_reducible refine regionIn_ff ?_); refine wpIn_region_r rfl ?_) | (with_reducible refine Keep.last ?_) | (with_reducible refine Keep.below (by assumption) ?_) | (with_reducible refine Keep.kept (by assumption) ?_) | (with_reducible refine Keep.alloc ?_) | (with_reducible refine Keep.same ?_) | ((with_reducible refine WpH.here ?_); first | (refine WpH.nil ?_; refine NoP.normal ?_) | (refine WpH.load (by rfl) (by rfl) (by go_simp; rfl) ?_; simp only [Act.put, List.setIfInBounds_toArray, List.set_cons_zero, List.set_cons_succ]) | (refine WpH.loadT (by rfl) (by rfl) (by go_simp; rfl) (by rintro _ _ ⟨⟩; exact ⟨_, _, _, _, _, _, by rfl, by assumption, by assumption⟩) ?_; simp only [Act.put, List.setIfInBounds_toArray, List.set_cons_zero, List.set_cons_succ]) | (refine WpH.pure (by rfl) (fun w_ => by go_simp; (try go_bits); rfl) ?_; simp only [Act.put, List.setIfInBounds_toArray, List.set_cons_zero, List.set_cons_succ]) | (refine WpH.wild1 (by rfl) (fun _ _ => ?_)) | (refine WpH.skip (by rfl) ?_; simp only [Act.put, List.setIfInBounds_toArray, List.set_cons_zero, List.set_cons_succ])) | ((with_reducible refine WpO.here ?_); first | (refine WpO.done ?_; first | refine NoP.normal ?_ | refine NoO.normal ?_) | (refine WpO.load (by rfl) (by rfl) (by go_simp; rfl) ?_; simp only [Act.put, List.setIfInBounds_toArray, List.set_cons_zero, List.set_cons_succ]) | (refine WpO.loadT (by rfl) (by rfl) (by go_simp; rfl) (by rintro _ _ ⟨⟩; exact ⟨_, _, _, _, _, _, by rfl, by assumption, by assumption⟩) ?_; simp only [Act.put, List.setIfInBounds_toArray, List.set_cons_zero, List.set_cons_succ]) | (refine WpO.pure (by rfl) (fun w_ => by go_simp; (try go_bits); rfl) ?_; simp only [Act.put, List.setIfInBounds_toArray, List.set_cons_zero, List.set_cons_succ]) | (refine WpO.skip (by rfl) ?_; simp only [Act.put, List.setIfInBounds_toArray, List.set_cons_zero, List.set_cons_succ]) | refine WpO.wild ?_ | refine WpO.two ?_ ?_ | refine WpO.three ?_ ?_ ?_) | ((with_reducible refine wildO.here ?_); first | (refine wildO.go (by rfl) (fun _ _ => ?_)) | (refine wildO.skip (by rfl) ?_; simp only [Act.put, List.setIfInBounds_toArray, List.set_cons_zero, List.set_cons_succ])) | go_values | go_skip | go_guarded | go_step | go_upon | go_back | (with_reducible refine NoO.normal ?_) | gi_step | gi_upon)
        skip
        have hpre : (pre ++ [e']).length = m + 1 := by rw [List.length_append, Hm.out]; rfl
        have hOW : Out (X3 nb gt gm) W2 (U2.setCell ⟨nb, 0, none⟩ (.int .i64 ((m : Int) + 1))) := Out.trans HOU.out (Out.setCell (S := X3 nb gt gm) (p := ⟨nb, 0, none⟩) (.inl rfl) _) fun _ _ h => h
        obtain ⟨hkn, hkm⟩ := Out.rounds (Z := Z) (t := 3) (v := .bool true) hOW hgtZ hgmZ hnbZ
        refine ⟨hkn, hkm, ?_⟩
        show MI Z _ mb gt gm nb L K (pre ++ [e']).length
        rw [hpre]
        exact ⟨HI2.out.out.trans hOW fun _ _ h => h, by simpa using (HnU.out).set_ 0 (.int .i64 ((m : Int) + 1)), _, HL'.out, (HMU.out).setBox (HnU.out)⟩
  case done0 =>
    rintro xs V rfl hI
    exact ⟨_, fun _ => by rw [hTall], hI⟩
  case end0 =>
    rintro D V hD ⟨cnt, hcnt, hI⟩ hK
    have hFV := hFZ.out hI.out hXF
    have hkV := hI.out.blk hkZ hXk
    have hwV := hI.out.blk hwZ hXw
    have kc := hkV.cell 0
    have nc := hI.n.cell 0
    have wc := hwV.cell 0
    have kcl := hkV.lt
    have ncl := hI.n.lt
    have wcl := hwV.lt
    simp at kc nc wc
    have hOV := hI.out
    obtain ⟨L1, hL1, hM1⟩ := hI.m
    have bV : Below w.heap.size w V := hOV.below bZ (Nat.le_refl _) (fun b hb => by rcases hb with rfl | rfl | rfl <;> omega)
    have hl1 : L1.length ≤ 100 := by
      rcases hL1 with rfl | rfl
      · exact hLl
      · have := purgeOf_le L; omega
    have hnd1 : (L1.map El.nm).Nodup := by
      rcases hL1 with rfl | rfl
      · exact Hnd.out
      · exact purgeOf_nodup Hnd.out
    have HK0 := hid hK
    have HD0 := hid (show w.heap.size + 3 ≤ D by omega)
    have Hnd1 := hid hnd1
    have HDV := hid (lt_of_heap hK)
    clear hI hK hD hnd1 hL1
    repeat' (first | (with_reducible refine roundsW_at' ?_) | (with_reducible refine Keep.last ?_) | (with_reducible refine Keep.below (by assumption) ?_) | (with_reducible refine Keep.kept (by assumption) ?_) | (with_reducible refine Keep.alloc ?_) | (with_reducible refine Keep.same ?_) | ((with_reducible refine WpH.here ?_); first | (refine WpH.nil ?_; refine NoP.normal ?_) | (refine WpH.load (by rfl) (by rfl) (by go_simp; rfl) ?_; simp only [Act.put, List.setIfInBounds_toArray, List.set_cons_zero, List.set_cons_succ]) | (refine WpH.loadT (by rfl) (by rfl) (by go_simp; rfl) (by rintro _ _ ⟨⟩; exact ⟨_, _, _, _, _, _, by rfl, by assumption, by assumption⟩) ?_; simp only [Act.put, List.setIfInBounds_toArray, List.set_cons_zero, List.set_cons_succ]) | (refine WpH.pure (by rfl) (fun w_ => by go_simp; (try go_bits); rfl) ?_; simp only [Act.put, List.setIfInBounds_toArray, List.set_cons_zero, List.set_cons_succ]) | (refine WpH.wild1 (by rfl) (fun _ _ => ?_)) | (refine WpH.skip (by rfl) ?_; simp only [Act.put, List.setIfInBounds_toArray, List.set_cons_zero, List.set_cons_succ])) | ((with_reducible refine WpO.here ?_); first | (refine WpO.done ?_; first | refine NoP.normal ?_ | refine NoO.normal ?_) | (refine WpO.load (by rfl) (by rfl) (by go_simp; rfl) ?_; simp only [Act.put, List.setIfInBounds_toArray, List.set_cons_zero, List.set_cons_succ]) | (refine WpO.loadT (by rfl) (by rfl) (by go_simp; rfl) (by rintro _ _ ⟨⟩; exact ⟨_, _, _, _, _, _, by rfl, by assumption, by assumption⟩) ?_; simp only [Act.put, List.setIfInBounds_toArray, List.set_cons_zero, List.set_cons_succ]) | (refine WpO.pure (by rfl) (fun w_ => by go_simp; (try go_bits); rfl) ?_; simp only [Act.put, List.setIfInBounds_toArray, List.set_cons_zero, List.set_cons_succ]) | (refine WpO.skip (by rfl) ?_; simp only [Act.put, List.setIfInBounds_toArray, List.set_cons_zero, List.set_cons_succ]) | refine WpO.wild ?_ | refine WpO.two ?_ ?_ | refine WpO.three ?_ ?_ ?_) | ((with_reducible refine wildO.here ?_); first | (refine wildO.go (by rfl) (fun _ _ => ?_)) | (refine wildO.skip (by rfl) ?_; simp only [Act.put, List.setIfInBounds_toArray, List.set_cons_zero, List.set_cons_succ])) | go_values | go_skip | go_guarded | go_step | go_upon | go_back)
    refine Stop.go ?_
    refine roundsW_next ?_
    skip
    have eU : Below V.heap.size V (V.alloc (.cells #[.int .i64 1] 3)) := balloc (Below.refl _ _)
    have hkU := Blk.new V 3 #[.int .i64 1]
    have hKU : (V.alloc (.cells #[.int .i64 1] 3)).heap[D]? = some (.deferred (some [])) := (eU.block D HDV.out).trans HK0.out
    have hFU := hFV.step eU
    have hMU := hM1.step eU
    have bU := bvia bV eU
    clear kc nc wc kcl ncl wcl hFV hkV hwV hM1 bV eU HK0 hFZ hkZ hMZ bZ hrowZ hwZ hnZ hFY hkY hMY bY k1 k2 k3 hTall hXF hXk hXw hneg hcnt hOV Hnd hLl
    clear hx1 hx2 hx3 hx4 hx5 hx6 hnbZ hgtnb hgmnb hgtZ hgmZ hmbZ hgal hpxl hpbl hkbl hsz2 hgtY hgmY hmbY
    have HKU := hid hKU
    clear hKU
    have HDU := hid (show V.heap.size ≤ (V.alloc (.cells #[.int .i64 1] 3)).heap.size by rw [show (V.alloc (.cells #[.int .i64 1] 3)).heap.size = V.heap.size + 1 from Array.size_push _]; exact Nat.le_succ _)
    generalize V.alloc (.cells #[.int .i64 1] 3) = U at *
    generalize V.heap.size = kb1 at *

    have HDU0 := HDU

    have hFY := hFU
    have hkY := hkU
    have hMY := hMU
    have bY := bU
    have hLl := hl1
    have Hnd := Hnd1
    clear hFU hkU hMU bU hl1 Hnd1
    obtain ⟨D0, rfl⟩ : ∃ x, x = D := ⟨_, rfl⟩
    obtain ⟨Y, rfl⟩ : ∃ x, x = U := ⟨_, rfl⟩
    obtain ⟨kb, rfl⟩ : ∃ x, x = kb1 := ⟨_, rfl⟩
    obtain ⟨L, rfl⟩ : ∃ x, x = L1 := ⟨_, rfl⟩

    have HE := hid (melements_any Y _ mb L K hMY.mdl (by omega))
    have xc := hFY.x.cell 0
    have pc := hFY.p.cell 0
    have kc := hkY.cell 0
    have xcl := hFY.x.lt
    have pcl := hFY.p.lt
    have kcl := hkY.lt
    simp at xc pc kc
    repeat' (first | (go_at_call 23; go_must ((with_reducible refine Calls.mono HE.out ?_); rintro _ Y2 ⟨A2, c2, rfl, hown, hb2⟩; dsimp only)) | (with_reducible refine stop_block 2 ?_) | (with_reducible refine Keep.last ?_) | (with_reducible refine Keep.below (by assumption) ?_) | (with_reducible refine Keep.kept (by assumption) ?_) | (with_reducible refine Keep.alloc ?_) | (with_reducible refine Keep.same ?_) | ((with_reducible refine WpH.here ?_); first | (refine WpH.nil ?_; refine NoP.normal ?_) | (refine WpH.load (by rfl) (by rfl) (by go_simp; rfl) ?_; simp only [Act.put, List.setIfInBounds_toArray, List.set_cons_zero, List.set_cons_succ]) | (refine WpH.loadT (by rfl) (by rfl) (by go_simp; rfl) (by rintro _ _ ⟨⟩; exact ⟨_, _, _, _, _, _, by rfl, by assumption, by assumption⟩) ?_; simp only [Act.put, List.setIfInBounds_toArray, List.set_cons_zero, List.set_cons_succ]) | (refine WpH.pure (by rfl) (fun w_ => by go_simp; (try go_bits); rfl) ?_; simp only [Act.put, List.setIfInBounds_toArray, List.set_cons_zero, List.set_cons_succ]) | (refine WpH.wild1 (by rfl) (fun _ _ => ?_)) | (refine WpH.skip (by rfl) ?_; simp only [Act.put, List.setIfInBounds_toArray, List.set_cons_zero, List.set_cons_succ])) | ((with_reducible refine WpO.here ?_); first | (refine WpO.done ?_; first | refine NoP.normal ?_ | refine NoO.normal ?_) | (refine WpO.load (by rfl) (by rfl) (by go_simp; rfl) ?_; simp only [Act.put, List.setIfInBounds_toArray, List.set_cons_zero, List.set_cons_succ]) | (refine WpO.loadT (by rfl) (by rfl) (by go_simp; rfl) (by rintro _ _ ⟨⟩; exact ⟨_, _, _, _, _, _, by rfl, by assumption, by assumption⟩) ?_; simp only [Act.put, List.setIfInBounds_toArray, List.set_cons_zero, List.set_cons_succ]) | (refine WpO.pure (by rfl) (fun w_ => by go_simp; (try go_bits); rfl) ?_; simp only [Act.put, List.setIfInBounds_toArray, List.set_cons_zero, List.set_cons_succ]) | (refine WpO.skip (by rfl) ?_; simp only [Act.put, List.setIfInBounds_toArray, List.set_cons_zero, List.set_cons_succ]) | refine WpO.wild ?_ | refine WpO.two ?_ ?_ | refine WpO.three ?_ ?_ ?_) | ((with_reducible refine wildO.here ?_); first | (refine wildO.go (by rfl) (fun _ _ => ?_)) | (refine wildO.skip (by rfl) ?_; simp only [Act.put, List.setIfInBounds_toArray, List.set_cons_zero, List.set_cons_succ])) | go_values | go_skip | go_guarded | go_step | go_upon | go_back)
    refine Stop.go ?_
    skip
    have eZ : Below Y2.heap.size Y2 ((Y2.alloc (.cells #[.slice A2 L.length c2] 22)).alloc (.cells #[.int .i64 0] 3)) := balloc (balloc (Below.refl _ _))
    have sZ : (Y2.alloc (.cells #[.slice A2 L.length c2] 22)).heap.size = Y2.heap.size + 1 := Array.size_push _
    have hwZ := (Blk.new Y2 22 #[.slice A2 L.length c2]).alloc (.cells #[.int .i64 0] 3)
    have hnZ := Blk.new (Y2.alloc (.cells #[.slice A2 L.length c2] 22)) 3 #[.int .i64 0]
    rw [sZ] at hnZ
    have eY := bvia hb2 eZ
    have hrow1 := (hown.row (S := fun b => Y.heap.size ≤ b ∧ b < Y2.heap.size) fun b h1 h2 => ⟨h1, h2⟩).step eZ
    have hsz2 := hb2.size
    generalize (Y2.alloc (.cells #[.slice A2 L.length c2] 22)).alloc (.cells #[.int .i64 0] 3) = Z at *
    have hFZ := hFY.step eY
    have hkZ := hkY.step eY
    have hMZ := hMY.step eY
    have bZ := bvia bY eY
    have HeY := hid eY
    have hgtY : gt < Y.heap.size := by obtain ⟨p, T, k1, k2, -⟩ := hMY; exact k2.lt
    have hgmY : gm < Y.heap.size := by obtain ⟨p, T, k1, k2, k3, k4, k5, -⟩ := hMY; exact k5.lt
    have hmbY : mb < Y.heap.size := by obtain ⟨p, T, k1, -⟩ := hMY; exact k1.lt
    have hrowZ := hrow1.away hMZ hnZ (fun b hb => by have := hb.1; omega)
    clear xc pc kc xcl pcl kcl hown hb2 eZ sZ eY hrow1 HE
    generalize hnbq : Y2.heap.size + 1 = nb at *
    have hnbZ := hnZ.lt
    have hgtnb : gt ≠ nb := by omega
    have hgmnb : gm ≠ nb := by omega
    have hgtZ : gt < Z.heap.size := by omega
    have hgmZ : gm < Z.heap.size := by omega
    have hmbZ : mb < Z.heap.size := by omega
    obtain ⟨hx1, hx2, hx3, hx4, hx5, hx6⟩ := Hlt.out
    have hgal := hFY.g.lt
    have hpxl := hFY.x.lt
    have hpbl := hFY.p.lt
    have hkbl := hkY.lt
    have hneg : ∀ b, (b = px ∨ b = ga ∨ b = pb ∨ b = kb) → b ≠ gt ∧ b ≠ gm := fun b hb => by
      obtain ⟨p, T, k1, k2, k3, k4, k5, -⟩ := hMY
      rcases hb with rfl | rfl | rfl | rfl
      · exact ⟨hFY.x.ne k2 (by decide), fun e => k5.ne_blk (e ▸ hFY.x) rfl⟩
      · exact ⟨hFY.g.ne k2 (by decide), fun e => k5.ne_blk (e ▸ hFY.g) rfl⟩
      · exact ⟨hFY.p.ne k2 (by decide), fun e => k5.ne_blk (e ▸ hFY.p) rfl⟩
      · exact ⟨hkY.ne k2 (by decide), fun e => k5.ne_blk (e ▸ hkY) rfl⟩
    have hXF : ∀ b, (b = w.heap.size ∨ b = w.heap.size + 1 ∨ b = w.heap.size + 2 ∨ b = px ∨ b = ga ∨ b = pb) → ¬ X3 nb gt gm b := fun b hb => by
      rintro (h | h | h)
      · omega
      · rcases hb with hb | hb | hb | hb | hb | hb
        · omega
        · omega
        · omega
        · exact (hneg b (by simp [hb])).1 h
        · exact (hneg b (by simp [hb])).1 h
        · exact (hneg b (by simp [hb])).1 h
      · rcases hb with hb | hb | hb | hb | hb | hb
        · omega
        · omega
        · omega
        · exact (hneg b (by simp [hb])).2 h
        · exact (hneg b (by simp [hb])).2 h
        · exact (hneg b (by simp [hb])).2 h
    have hXk : ¬ X3 nb gt gm kb := by
      rintro (h | h | h)
      · omega
      · exact (hneg kb (by simp)).1 h
      · exact (hneg kb (by simp)).2 h
    have hXw : ¬ X3 nb gt gm Y2.heap.size := by
      rintro (h | h | h) <;> omega
    obtain ⟨p, T, k1, k2, k3, hTall⟩ := hMZ.nodes hnZ
    refine wp_rangeFuncN_block 3 (gf := 81) (lb := #[.pointer (some ⟨ga, 0, none⟩)]) rfl (enters_fn Tryd.func81 (by kernel_rfl) rfl)
      (mallSeq T p ga mb gt (.map (some gm)) (fun b => ¬ X3 nb gt gm b) Z hFZ.g k1 k2 k3 (by rw [hTall]; omega)) (fun h k => h.trans k) (fun W l o o' hl h hc => KpM.putObj W l o o' hl h hc) (fun _ => rfl)
      (fun pre V => MI Z V mb gt gm nb L K pre.length) (fun V => ∃ cnt, ((1 : Nat) = 1 → cnt = L.length) ∧ MI Z V mb gt gm nb L K cnt)
      (fun s A B h hT => h.turn hT hmbZ hgtZ hgmZ hnbZ) (fun _ A B h hT => by obtain ⟨cnt, h1, h2⟩ := h; exact ⟨cnt, h1, h2.turn hT hmbZ hgtZ hgmZ hnbZ⟩)
      ⟨Out.refl _ _, hnZ, L, .inl rfl, hMZ⟩ ?round1 ?done1 ?end1
    case round1 =>
      rintro ll pre e V hll ⟨rc, hrc⟩ hI hG
      obtain ⟨he, hlt⟩ := prefix_at (show pre ++ [e] <+: L by rw [← hTall]; exact hG)
      simp only [elOne, El.agg, putArgs1, List.setIfInBounds_toArray, List.set_cons_zero, List.set_cons_succ]
      repeat' (first | ((with_reducible refine regionIn_ff ?_); refine wpIn_region_r rfl ?_) | (with_reducible refine Keep.last ?_) | (with_reducible refine Keep.below (by assumption) ?_) | (with_reducible refine Keep.kept (by assumption) ?_) | (with_reducible refine Keep.alloc ?_) | (with_reducible refine Keep.same ?_) | ((with_reducible refine WpH.here ?_); first | (refine WpH.nil ?_; refine NoP.normal ?_) | (refine WpH.load (by rfl) (by rfl) (by go_simp; rfl) ?_; simp only [Act.put, List.setIfInBounds_toArray, List.set_cons_zero, List.set_cons_succ]) | (refine WpH.loadT (by rfl) (by rfl) (by go_simp; rfl) (by rintro _ _ ⟨⟩; exact ⟨_, _, _, _, _, _, by rfl, by assumption, by assumption⟩) ?_; simp only [Act.put, List.setIfInBounds_toArray, List.set_cons_zero, List.set_cons_succ]) | (refine WpH.pure (by rfl) (fun w_ => by go_simp; (try go_bits); rfl) ?_; simp only [Act.put, List.setIfInBounds_toArray, List.set_cons_zero, List.set_cons_succ]) | (refine WpH.wild1 (by rfl) (fun _ _ => ?_)) | (refine WpH.skip (by rfl) ?_; simp only [Act.put, List.setIfInBounds_toArray, List.set_cons_zero, List.set_cons_succ])) | ((with_reducible refine WpO.here ?_); first | (refine WpO.done ?_; first | refine NoP.normal ?_ | refine NoO.normal ?_) | (refine WpO.load (by rfl) (by rfl) (by go_simp; rfl) ?_; simp only [Act.put, List.setIfInBounds_toArray, List.set_cons_zero, List.set_cons_succ]) | (refine WpO.loadT (by rfl) (by rfl) (by go_simp; rfl) (by rintro _ _ ⟨⟩; exact ⟨_, _, _, _, _, _, by rfl, by assumption, by assumption⟩) ?_; simp only [Act.put, List.setIfInBounds_toArray, List.set_cons_zero, List.set_cons_succ]) | (refine WpO.pure (by rfl) (fun w_ => by go_simp; (try go_bits); rfl) ?_; simp only [Act.put, List.setIfInBounds_toArray, List.set_cons_zero, List.set_cons_succ]) | (refine WpO.skip (by rfl) ?_; simp only [Act.put, List.setIfInBounds_toArray, List.set_cons_zero, List.set_cons_succ]) | refine WpO.wild ?_ | refine WpO.two ?_ ?_ | refine WpO.three ?_ ?_ ?_) | ((with_reducible refine wildO.here ?_); first | (refine wildO.go (by rfl) (fun _ _ => ?_)) | (refine wildO.skip (by rfl) ?_; simp only [Act.put, List.setIfInBounds_toArray, List.set_cons_zero, List.set_cons_succ])) | go_values | go_skip | go_guarded | go_step | go_upon | go_back | (with_reducible refine NoO.normal ?_) | gi_step | gi_upon)
      have eW : Below V.heap.size V (V.alloc (.cells #[.int .i64 e.epoch, .int .i64 e.rep, .int .i64 e.num, .int .i32 e.char, .int .i64 e.hides] 42)) := balloc (Below.refl _ _)
      refine ⟨KeepN.of_below eW, KpM.of_below eW, fun W2 hB2 => ?_⟩
      have hI2 := (hI.step eW).begun hB2 hll hgmZ
      have hx2 := hB2.blk (Blk.new V 42 #[.int .i64 e.epoch, .int .i64 e.rep, .int .i64 e.num, .int .i32 e.char, .int .i64 e.hides])
      generalize V.heap.size = xb at *
      clear hI eW hB2 hll hrc hG
      generalize hmq : pre.length = m at *
      have Hm := hid hmq
      clear hmq
      have hF2 := hFZ.out hI2.out hXF
      have hw2 := hI2.out.blk hwZ hXw
      have hk2 := hI2.out.blk hkZ hXk
      have hrow2 : Row W2 (fun b => ¬ X3 nb gt gm b) A2 L.length c2 L := hrowZ.keep fun b hb hl => hI2.out.block b hl hb
      obtain ⟨b2, off2, e', rfl, -, he2, c0, c1, c2', c3, c4⟩ := hrow2.at_ hlt
      obtain rfl := Option.some.inj (he2.symm.trans he)
      have n0 := hI2.n.cell 0
      have w0 := hw2.cell 0
      have x0 := hx2.cell 0
      have x1 := hx2.cell 1
      have x2 := hx2.cell 2
      have x3 := hx2.cell 3
      have x4 := hx2.cell 4
      simp at n0 w0 x0 x1 x2 x3 x4
      have j2 : ¬ (m : Int) ≥ L.length := by omega
      have hxl := hx2.lt
      have hnl2 := hI2.n.lt
      have hwl2 := hw2.lt
      have hcl := lt_of_cell' c0
      dsimp only at hcl
      have HI2 := hid hI2
      clear he he2 hI2 hrow2
      repeat' (first | ((with_reducible refine regionIn_at 14 ?_); refine wpIn_region_ordT (fun _ => True) rfl (.one 0 true false (.one 1 true false (.one 2 true false (.one 3 true false (.one 4 true false (.one 5 true false (.one 6 true false (.one 7 true false (.one 8 true false (.one 9 true false (.one 10 true false (.one 11 true false .nil)))))))))))) (by kernel_rfl) (by kernel_rfl) (by kernel_rfl) rfl rfl ?_) | (with_reducible refine stop_regionIn' 16 ?_) | ((with_reducible refine regionIn_ff ?_); refine wpIn_region_r rfl ?_) | (with_reducible refine Keep.last ?_) | (with_reducible refine Keep.below (by assumption) ?_) | (with_reducible refine Keep.kept (by assumption) ?_) | (with_reducible refine Keep.alloc ?_) | (with_reducible refine Keep.same ?_) | ((with_reducible refine WpH.here ?_); first | (refine WpH.nil ?_; refine NoP.normal ?_) | (refine WpH.load (by rfl) (by rfl) (by go_simp; rfl) ?_; simp only [Act.put, List.setIfInBounds_toArray, List.set_cons_zero, List.set_cons_succ]) | (refine WpH.loadT (by rfl) (by rfl) (by go_simp; rfl) (by rintro _ _ ⟨⟩; exact ⟨_, _, _, _, _, _, by rfl, by assumption, by assumption⟩) ?_; simp only [Act.put, List.setIfInBounds_toArray, List.set_cons_zero, List.set_cons_succ]) | (refine WpH.pure (by rfl) (fun w_ => by go_simp; (try go_bits); rfl) ?_; simp only [Act.put, List.setIfInBounds_toArray, List.set_cons_zero, List.set_cons_succ]) | (refine WpH.wild1 (by rfl) (fun _ _ => ?_)) | (refine WpH.skip (by rfl) ?_; simp only [Act.put, List.setIfInBounds_toArray, List.set_cons_zero, List.set_cons_succ])) | ((with_reducible refine WpO.here ?_); first | (refine WpO.done ?_; first | refine NoP.normal ?_ | refine NoO.normal ?_) | (refine WpO.load (by rfl) (by rfl) (by go_simp; rfl) ?_; simp only [Act.put, List.setIfInBounds_toArray, List.set_cons_zero, List.set_cons_succ]) | (refine WpO.loadT (by rfl) (by rfl) (by go_simp; rfl) (by rintro _ _ ⟨⟩; exact ⟨_, _, _, _, _, _, by rfl, by assumption, by assumption⟩) ?_; simp only [Act.put, List.setIfInBounds_toArray, List.set_cons_zero, List.set_cons_succ]) | (refine WpO.pure (by rfl) (fun w_ => by go_simp; (try go_bits); rfl) ?_; simp only [Act.put, List.setIfInBounds_toArray, List.set_cons_zero, List.set_cons_succ]) | (refine WpO.skip (by rfl) ?_; simp only [Act.put, List.setIfInBounds_toArray, List.set_cons_zero, List.set_cons_succ]) | refine WpO.wild ?_ | refine WpO.two ?_ ?_ | refine WpO.three ?_ ?_ ?_) | ((with_reducible refine wildO.here ?_); first | (refine wildO.go (by rfl) (fun _ _ => ?_)) | (refine wildO.skip (by rfl) ?_; simp only [Act.put, List.setIfInBounds_toArray, List.set_cons_zero, List.set_cons_succ])) | go_values | go_skip | go_guarded | go_step | go_upon | go_back | (with_reducible refine NoO.normal ?_) | gi_step | gi_upon)
      refine Stop.go ?_
      have hnU := HI2.out.n.drew
      have hkU := hk2.drew
      have HOU := hid (Out.drew (S := X3 nb gt gm) (w := W2))
      have hFU := hF2.step (W' := W2.drew) (Below.refl _ _).drew
      obtain ⟨L', hL', hM2⟩ := HI2.out.m
      have hMU := hM2.step (Below.refl W2.heap.size W2).drew
      clear c0 c1 c2' c3 c4 x0 x1 x2 x3 x4 w0 n0 hk2 hw2 hF2 hM2 hx2 hxl hnl2 hwl2 hcl j2
      generalize hUq : W2.drew = U at *
      clear hUq
      have n0 := hnU.cell 0
      have k0 := hkU.cell 0
      have s0 := hFU.s.cell 0
      have l0 := hFU.l.cell 0
      have kl := hkU.lt
      have nl := hnU.lt
      have sl := hFU.s.lt
      have ll0 := hFU.l.lt
      have f0 := hnU.frozen 0
      simp at n0 k0 s0 l0

      have hne1 : nb ≠ gt := fun e => hgtnb e.symm
      have hne2 : nb ≠ gm := fun e => hgmnb e.symm
      have hnb2 : ¬ (nb = gt ∨ nb = gm) := by
        rintro (h | h)
        · exact hne1 h
        · exact hne2 h

      repeat' (first | ((with_reducible refine regionIn_at 16 ?_); refine wpIn_region_ordT (fun _ => True) rfl (.one 0 true false (.one 1 true false (.one 2 true false (.one 3 true false (.one 4 true false (.one 5 true false (.one 6 true false (.one 7 true false (.one 8 false false (.one 9 true false (.one 10 true false .nil))))))))))) (by kernel_rfl) (by kernel_rfl) (by kernel_rfl) rfl rfl ?_) | (with_reducible refine stop_regionIn' 17 ?_) | ((with_reducible refine regionIn_ff ?_); refine wpIn_region_r rfl ?_) | (with_reducible refine Keep.last ?_) | (with_reducible refine Keep.below (by assumption) ?_) | (with_reducible refine Keep.kept (by assumption) ?_) | (with_reducible refine Keep.alloc ?_) | (with_reducible refine Keep.same ?_) | ((with_reducible refine WpH.here ?_); first | (refine WpH.nil ?_; refine NoP.normal ?_) | (refine WpH.load (by rfl) (by rfl) (by go_simp; rfl) ?_; simp only [Act.put, List.setIfInBounds_toArray, List.set_cons_zero, List.set_cons_succ]) | (refine WpH.loadT (by rfl) (by rfl) (by go_simp; rfl) (by rintro _ _ ⟨⟩; exact ⟨_, _, _, _, _, _, by rfl, by assumption, by assumption⟩) ?_; simp only [Act.put, List.setIfInBounds_toArray, List.set_cons_zero, List.set_cons_succ]) | (refine WpH.pure (by rfl) (fun w_ => by go_simp; (try go_bits); rfl) ?_; simp only [Act.put, List.setIfInBounds_toArray, List.set_cons_zero, List.set_cons_succ]) | (refine WpH.wild1 (by rfl) (fun _ _ => ?_)) | (refine WpH.skip (by rfl) ?_; simp only [Act.put, List.setIfInBounds_toArray, List.set_cons_zero, List.set_cons_succ])) | ((with_reducible refine WpO.here ?_); first | (refine WpO.done ?_; first | refine NoP.normal ?_ | refine NoO.normal ?_) | (refine WpO.load (by rfl) (by rfl) (by go_simp; rfl) ?_; simp only [Act.put, List.setIfInBounds_toArray, List.set_cons_zero, List.set_cons_succ]) | (refine WpO.loadT (by rfl) (by rfl) (by go_simp; rfl) (by rintro _ _ ⟨⟩; exact ⟨_, _, _, _, _, _, by rfl, by assumption, by assumption⟩) ?_; simp only [Act.put, List.setIfInBounds_toArray, List.set_cons_zero, List.set_cons_succ]) | (refine WpO.pure (by rfl) (fun w_ => by go_simp; (try go_bits); rfl) ?_; simp only [Act.put, List.setIfInBounds_toArray, List.set_cons_zero, List.set_cons_succ]) | (refine WpO.skip (by rfl) ?_; simp only [Act.put, List.setIfInBounds_toArray, List.set_cons_zero, List.set_cons_succ]) | refine WpO.wild ?_ | refine WpO.two ?_ ?_ | refine WpO.three ?_ ?_ ?_) | ((with_reducible refine wildO.here ?_); first | (refine wildO.go (by rfl) (fun _ _ => ?_)) | (refine wildO.skip (by rfl) ?_; simp only [Act.put, List.setIfInBounds_toArray, List.set_cons_zero, List.set_cons_succ])) | go_values | go_skip | go_guarded | go_step | go_upon | go_back | (with_reducible refine NoO.normal ?_) | gi_step | gi_upon)
      refine Stop.go ?_
      have hnU := hnU.drew
      have HOU := hid (HOU.out.trans (Out.drew (S := X3 nb gt gm)) fun _ _ h => h)
      have hFU := hFU.step (W' := U.drew) (Below.refl _ _).drew
      have hMU := hMU.step (Below.refl U.heap.size U).drew
      clear n0 k0 s0 l0 kl nl sl ll0 f0 hkU
      generalize hUq : U.drew = U2 at *
      clear hUq
      have n0 := hnU.cell 0
      have f0 := hnU.frozen 0
      have nl := hnU.lt
      simp at n0

      by_cases hm3 : (m : Int) % 3 = 1
      · have hm4 : ((m : Int) % 3 == 1) = true := by simpa using hm3
        have hll' : L'.length ≤ 536870912 := by
          rcases hL' with rfl | rfl
          · omega
          · have := purgeOf_le L; omega
        have hnd' : (L'.map El.nm).Nodup := by
          rcases hL' with rfl | rfl
          · exact Hnd.out
          · exact purgeOf_nodup Hnd.out
        have HP := hid (mpurge_at U2 _ mb gt gm L' K hMU hll' hnd')
        have hx0 := hFU.x.cell 0
        have hxl0 := hFU.x.lt
        have hp0 := hFU.p.cell 0
        have hpl0 := hFU.p.lt
        simp at hx0 hp0
        have HL' := hid hL'
        have HnU := hid hnU
        clear hll' hnd' hFU hMU hL' hnU
        repeat' (first | (go_at_call 21; go_must ((with_reducible refine Calls.mono HP.out ?_); rintro _ U3 ⟨rfl, hM3, hO3⟩; have n3 := hO3.blk HnU.out hnb2; have n0 := n3.cell 0; have f0 := n3.frozen 0; have nl := n3.lt; simp at n0; dsimp only)) | ((with_reducible refine regionIn_ff ?_); refine wpIn_region_r rfl ?_) | (with_reducible refine Keep.last ?_) | (with_reducible refine Keep.below (by assumption) ?_) | (with_reducible refine Keep.kept (by assumption) ?_) | (with_reducible refine Keep.alloc ?_) | (with_reducible refine Keep.same ?_) | ((with_reducible refine WpH.here ?_); first | (refine WpH.nil ?_; refine NoP.normal ?_) | (refine WpH.load (by rfl) (by rfl) (by go_simp; rfl) ?_; simp only [Act.put, List.setIfInBounds_toArray, List.set_cons_zero, List.set_cons_succ]) | (refine WpH.loadT (by rfl) (by rfl) (by go_simp; rfl) (by rintro _ _ ⟨⟩; exact ⟨_, _, _, _, _, _, by rfl, by assumption, by assumption⟩) ?_; simp only [Act.put, List.setIfInBounds_toArray, List.set_cons_zero, List.set_cons_succ]) | (refine WpH.pure (by rfl) (fun w_ => by go_simp; (try go_bits); rfl) ?_; simp only [Act.put, List.setIfInBounds_toArray, List.set_cons_zero, List.set_cons_succ]) | (refine WpH.wild1 (by rfl) (fun _ _ => ?_)) | (refine WpH.skip (by rfl) ?_; simp only [Act.put, List.setIfInBounds_toArray, List.set_cons_zero, List.set_cons_succ])) | ((with_reducible refine WpO.here ?_); first | (refine WpO.done ?_; first | refine NoP.normal ?_ | refine NoO.normal ?_) | (refine WpO.load (by rfl) (by rfl) (by go_simp; rfl) ?_; simp only [Act.put, List.setIfInBounds_toArray, List.set_cons_zero, List.set_cons_succ]) | (refine WpO.loadT (by rfl) (by rfl) (by go_simp; rfl) (by rintro _ _ ⟨⟩; exact ⟨_, _, _, _, _, _, by rfl, by assumption, by assumption⟩) ?_; simp only [Act.put, List.setIfInBounds_toArray, List.set_cons_zero, List.set_cons_succ]) | (refine WpO.pure (by rfl) (fun w_ => by go_simp; (try go_bits); rfl) ?_; simp only [Act.put, List.setIfInBounds_toArray, List.set_cons_zero, List.set_cons_succ]) | (refine WpO.skip (by rfl) ?_; simp only [Act.put, List.setIfInBounds_toArray, List.set_cons_zero, List.set_cons_succ]) | refine WpO.wild ?_ | refine WpO.two ?_ ?_ | refine WpO.three ?_ ?_ ?_) | ((with_reducible refine wildO.here ?_); first | (refine wildO.go (by rfl) (fun _ _ => ?_)) | (refine wildO.skip (by rfl) ?_; simp only [Act.put, List.setIfInBounds_toArray, List.set_cons_zero, List.set_cons_succ])) | go_values | go_skip | go_guarded | go_step | go_upon | go_back | (with_reducible refine NoO.normal ?_) | gi_step | gi_upon)
        skip
        have hU3 : Out (X3 nb gt gm) W2 U3 := Out.trans HOU.out (⟨hO3.os, hO3.tape, hO3.output, hO3.size, fun k hk hn => hO3.block k hk (fun h => hn (.inr h))⟩ : Out (X3 nb gt gm) U2 U3) fun _ _ h => h
        have hpre : (pre ++ [e']).length = m + 1 := by rw [List.length_append, Hm.out]; rfl
        have hOW : Out (X3 nb gt gm) W2 (U3.setCell ⟨nb, 0, none⟩ (.int .i64 ((m : Int) + 1))) := Out.trans hU3 (Out.setCell (S := X3 nb gt gm) (p := ⟨nb, 0, none⟩) (.inl rfl) _) fun _ _ h => h
        obtain ⟨hkn, hkm⟩ := Out.rounds (Z := Z) (t := 3) (v := .bool true) hOW hgtZ hgmZ hnbZ
        refine ⟨hkn, hkm, ?_⟩
        show MI Z _ mb gt gm nb L K (pre ++ [e']).length
        rw [hpre]
        exact ⟨HI2.out.out.trans hOW fun _ _ h => h, by simpa using (n3).set_ 0 (.int .i64 ((m : Int) + 1)), _, .inr (purge_same HL'.out), (hM3.all).setBox (n3)⟩
      · have hm4 : ((m : Int) % 3 == 1) = false := by simpa using hm3
        have HL' := hid hL'
        have HnU := hid hnU
        have HMU := hid hMU
        clear hFU hL' hnU hMU
        repeat' (first | ((with_reducible refine regionIn_ff ?_); refine wpIn_region_r rfl ?_) | (with_reducible refine Keep.last ?_) | (with_reducible refine Keep.below (by assumption) ?_) | (with_reducible refine Keep.kept (by assumption) ?_) | (with_reducible refine Keep.alloc ?_) | (with_reducible refine Keep.same ?_) | ((with_reducible refine WpH.here ?_); first | (refine WpH.nil ?_; refine NoP.normal ?_) | (refine WpH.load (by rfl) (by rfl) (by go_simp; rfl) ?_; simp only [Act.put, List.setIfInBounds_toArray, List.set_cons_zero, List.set_cons_succ]) | (refine WpH.loadT (by rfl) (by rfl) (by go_simp; rfl) (by rintro _ _ ⟨⟩; exact ⟨_, _, _, _, _, _, by rfl, by assumption, by assumption⟩) ?_; simp only [Act.put, List.setIfInBounds_toArray, List.set_cons_zero, List.set_cons_succ]) | (refine WpH.pure (by rfl) (fun w_ => by go_simp; (try go_bits); rfl) ?_; simp only [Act.put, List.setIfInBounds_toArray, List.set_cons_zero, List.set_cons_succ]) | (refine WpH.wild1 (by rfl) (fun _ _ => ?_)) | (refine WpH.skip (by rfl) ?_; simp only [Act.put, List.setIfInBounds_toArray, List.set_cons_zero, List.set_cons_succ])) | ((with_reducible refine WpO.here ?_); first | (refine WpO.done ?_; first | refine NoP.normal ?_ | refine NoO.normal ?_) | (refine WpO.load (by rfl) (by rfl) (by go_simp; rfl) ?_; simp only [Act.put, List.setIfInBounds_toArray, List.set_cons_zero, List.set_cons_succ]) | (refine WpO.loadT (by rfl) (by rfl) (by go_simp; rfl) (by rintro _ _ ⟨⟩; exact ⟨_, _, _, _, _, _, by rfl, by assumption, by assumption⟩) ?_; simp only [Act.put, List.setIfInBounds_toArray, List.set_cons_zero, List.set_cons_succ]) | (refine WpO.pure (by rfl) (fun w_ => by go_simp; (try go_bits); rfl) ?_; simp only [Act.put, List.setIfInBounds_toArray, List.set_cons_zero, List.set_cons_succ]) | (refine WpO.skip (by rfl) ?_; simp only [Act.put, List.setIfInBounds_toArray, List.set_cons_zero, List.set_cons_succ]) | refine WpO.wild ?_ | refine WpO.two ?_ ?_ | refine WpO.three ?_ ?_ ?_) | ((with_reducible refine wildO.here ?_); first | (refine wildO.go (by rfl) (fun _ _ => ?_)) | (refine wildO.skip (by rfl) ?_; simp only [Act.put, List.setIfInBounds_toArray, List.set_cons_zero, List.set_cons_succ])) | go_values | go_skip | go_guarded | go_step | go_upon | go_back | (with_reducible refine NoO.normal ?_) | gi_step | gi_upon)
        skip
        have hpre : (pre ++ [e']).length = m + 1 := by rw [List.length_append, Hm.out]; rfl
        have hOW : Out (X3 nb gt gm) W2 (U2.setCell ⟨nb, 0, none⟩ (.int .i64 ((m : Int) + 1))) := Out.trans HOU.out (Out.setCell (S := X3 nb gt gm) (p := ⟨nb, 0, none⟩) (.inl rfl) _) fun _ _ h => h
        obtain ⟨hkn, hkm⟩ := Out.rounds (Z := Z) (t := 3) (v := .bool true) hOW hgtZ hgmZ hnbZ
        refine ⟨hkn, hkm, ?_⟩
        show MI Z _ mb gt gm nb L K (pre ++ [e']).length
        rw [hpre]
        exact ⟨HI2.out.out.trans hOW fun _ _ h => h, by simpa using (HnU.out).set_ 0 (.int .i64 ((m : Int) + 1)), _, HL'.out, (HMU.out).setBox (HnU.out)⟩
    case done1 =>
      rintro xs V rfl hI
      exact ⟨_, fun _ => by rw [hTall], hI⟩
    case end1 =>
      rintro D V hD ⟨cnt, hcnt, hI⟩ hK
      have hFV := hFZ.out hI.out hXF
      have hkV := hI.out.blk hkZ hXk
      have hwV := hI.out.blk hwZ hXw
      have kc := hkV.cell 0
      have nc := hI.n.cell 0
      have wc := hwV.cell 0
      have kcl := hkV.lt
      have ncl := hI.n.lt
      have wcl := hwV.lt
      simp at kc nc wc
      have hOV := hI.out
      obtain rfl : cnt = L.length := hcnt rfl
      have bV : Below w.heap.size w V := hOV.below bZ (Nat.le_refl _) (fun b hb => by rcases hb with rfl | rfl | rfl <;> omega)
      have HD2 := hid hD
      have HK2 := hid hK
      have hDV : V.heap[D0]? = some (.deferred (some [])) := by
        have h1 := HKU.out
        have hlt := lt_of_heap h1
        have hzz := HeY.out.size
        refine (hOV.block D0 (Nat.lt_of_lt_of_le hlt hzz) ?_).trans ((HeY.out.block D0 hlt).trans h1)
        obtain ⟨p5, T5, m1, m2, m3, m4, m5, -⟩ := hMY
        rintro (h | h | h)
        · omega
        · subst h
          unfold Blk at m2
          rw [m2] at h1
          cases h1
        · subst h
          obtain ⟨n5, D5, ⟨es5, clock5, hm5, _⟩, _⟩ := m5
          rw [hm5] at h1
          cases h1
      have HDV1 := hid hDV
      have HDlt := hid (show D0 < D by have h1 := lt_of_heap HKU.out; have h2 := HeY.out.size; omega)
      have HFV := hid hFV
      have HwD := hid (show w.heap.size + 2 ≠ D ∧ w.heap.size + 2 ≠ D0 ∧ w.heap.size ≤ D0 by have := HD0.out; have := HDlt.out; omega)
      clear hI hK hD hcnt hDV hFV
      repeat' (first | (with_reducible refine roundsW_at' ?_) | (with_reducible refine Keep.last ?_) | (with_reducible refine Keep.below (by assumption) ?_) | (with_reducible refine Keep.kept (by assumption) ?_) | (with_reducible refine Keep.alloc ?_) | (with_reducible refine Keep.same ?_) | ((with_reducible refine WpH.here ?_); first | (refine WpH.nil ?_; refine NoP.normal ?_) | (refine WpH.load (by rfl) (by rfl) (by go_simp; rfl) ?_; simp only [Act.put, List.setIfInBounds_toArray, List.set_cons_zero, List.set_cons_succ]) | (refine WpH.loadT (by rfl) (by rfl) (by go_simp; rfl) (by rintro _ _ ⟨⟩; exact ⟨_, _, _, _, _, _, by rfl, by assumption, by assumption⟩) ?_; simp only [Act.put, List.setIfInBounds_toArray, List.set_cons_zero, List.set_cons_succ]) | (refine WpH.pure (by rfl) (fun w_ => by go_simp; (try go_bits); rfl) ?_; simp only [Act.put, List.setIfInBounds_toArray, List.set_cons_zero, List.set_cons_succ]) | (refine WpH.wild1 (by rfl) (fun _ _ => ?_)) | (refine WpH.skip (by rfl) ?_; simp only [Act.put, List.setIfInBounds_toArray, List.set_cons_zero, List.set_cons_succ])) | ((with_reducible refine WpO.here ?_); first | (refine WpO.done ?_; first | refine NoP.normal ?_ | refine NoO.normal ?_) | (refine WpO.load (by rfl) (by rfl) (by go_simp; rfl) ?_; simp only [Act.put, List.setIfInBounds_toArray, List.set_cons_zero, List.set_cons_succ]) | (refine WpO.loadT (by rfl) (by rfl) (by go_simp; rfl) (by rintro _ _ ⟨⟩; exact ⟨_, _, _, _, _, _, by rfl, by assumption, by assumption⟩) ?_; simp only [Act.put, List.setIfInBounds_toArray, List.set_cons_zero, List.set_cons_succ]) | (refine WpO.pure (by rfl) (fun w_ => by go_simp; (try go_bits); rfl) ?_; simp only [Act.put, List.setIfInBounds_toArray, List.set_cons_zero, List.set_cons_succ]) | (refine WpO.skip (by rfl) ?_; simp only [Act.put, List.setIfInBounds_toArray, List.set_cons_zero, List.set_cons_succ]) | refine WpO.wild ?_ | refine WpO.two ?_ ?_ | refine WpO.three ?_ ?_ ?_) | ((with_reducible refine wildO.here ?_); first | (refine wildO.go (by rfl) (fun _ _ => ?_)) | (refine wildO.skip (by rfl) ?_; simp only [Act.put, List.setIfInBounds_toArray, List.set_cons_zero, List.set_cons_succ])) | go_values | go_skip | go_guarded | go_step | go_upon | go_back)
      refine Stop.go ?_
      refine roundsW_next ?_
      repeat' (first | (go_at_call 17; go_must ((with_reducible refine Calls.mono (HK.out _) ?_); rintro _ W8 ⟨rfl, hb8⟩; have hr8 := (HFV.out.r.alloc (.cells #[.int .i64 2] 3)).step hb8; have r8 := hr8.cell 0; have f8 := hr8.frozen 0; have rl8 := hr8.lt; simp at r8; dsimp only)) | (with_reducible refine Keep.last ?_) | (with_reducible refine Keep.below (by assumption) ?_) | (with_reducible refine Keep.kept (by assumption) ?_) | (with_reducible refine Keep.alloc ?_) | (with_reducible refine Keep.same ?_) | ((with_reducible refine WpH.here ?_); first | (refine WpH.nil ?_; refine NoP.normal ?_) | (refine WpH.load (by rfl) (by rfl) (by go_simp; rfl) ?_; simp only [Act.put, List.setIfInBounds_toArray, List.set_cons_zero, List.set_cons_succ]) | (refine WpH.loadT (by rfl) (by rfl) (by go_simp; rfl) (by rintro _ _ ⟨⟩; exact ⟨_, _, _, _, _, _, by rfl, by assumption, by assumption⟩) ?_; simp only [Act.put, List.setIfInBounds_toArray, List.set_cons_zero, List.set_cons_succ]) | (refine WpH.pure (by rfl) (fun w_ => by go_simp; (try go_bits); rfl) ?_; simp only [Act.put, List.setIfInBounds_toArray, List.set_cons_zero, List.set_cons_succ]) | (refine WpH.wild1 (by rfl) (fun _ _ => ?_)) | (refine WpH.skip (by rfl) ?_; simp only [Act.put, List.setIfInBounds_toArray, List.set_cons_zero, List.set_cons_succ])) | ((with_reducible refine WpO.here ?_); first | (refine WpO.done ?_; first | refine NoP.normal ?_ | refine NoO.normal ?_) | (refine WpO.load (by rfl) (by rfl) (by go_simp; rfl) ?_; simp only [Act.put, List.setIfInBounds_toArray, List.set_cons_zero, List.set_cons_succ]) | (refine WpO.loadT (by rfl) (by rfl) (by go_simp; rfl) (by rintro _ _ ⟨⟩; exact ⟨_, _, _, _, _, _, by rfl, by assumption, by assumption⟩) ?_; simp only [Act.put, List.setIfInBounds_toArray, List.set_cons_zero, List.set_cons_succ]) | (refine WpO.pure (by rfl) (fun w_ => by go_simp; (try go_bits); rfl) ?_; simp only [Act.put, List.setIfInBounds_toArray, List.set_cons_zero, List.set_cons_succ]) | (refine WpO.skip (by rfl) ?_; simp only [Act.put, List.setIfInBounds_toArray, List.set_cons_zero, List.set_cons_succ]) | refine WpO.wild ?_ | refine WpO.two ?_ ?_ | refine WpO.three ?_ ?_ ?_) | ((with_reducible refine wildO.here ?_); first | (refine wildO.go (by rfl) (fun _ _ => ?_)) | (refine wildO.skip (by rfl) ?_; simp only [Act.put, List.setIfInBounds_toArray, List.set_cons_zero, List.set_cons_succ])) | go_values | go_skip | go_guarded | go_step | go_upon | go_back)
      skip
      have eX : Below V.heap.size V (V.alloc (.cells #[.int .i64 2] 3)) := balloc (Below.refl _ _)
      have e8 := bvia eX hb8
      have hr9 := hr8.set_ 0 (.bool true)
      have k1 : (W8.setCell ⟨w.heap.size + 2, 0, none⟩ (.bool true)).heap[D]? = some (.deferred (some [])) := (Below.heap_setCell _ _ _ _ (fun e => HwD.out.1 e.symm)).trans ((e8.block D (lt_of_heap HK2.out)).trans HK2.out)
      have k2 : (W8.setCell ⟨w.heap.size + 2, 0, none⟩ (.bool true)).heap[D0]? = some (.deferred (some [])) := (Below.heap_setCell _ _ _ _ (fun e => HwD.out.2.1 e.symm)).trans ((e8.block D0 (lt_of_heap HDV1.out)).trans HDV1.out)
      refine leaves2 (v := .bool true) k1 k2 (by have := HDlt.out; omega) ?_ ⟨rfl, ?_⟩
      · rintro w' rfl
        have c9 : ((((W8.setCell ⟨w.heap.size + 2, 0, none⟩ (.bool true)).putObj D (.deferred none)).putObj D0 (.deferred none)).cell? ⟨w.heap.size + 2, 0, none⟩) = some (.bool true) :=
          (World.cell?_of_block ((World.putObj_heap_other HwD.out.2.1).trans (World.putObj_heap_other HwD.out.1))).trans (hr9.cell 0)
        simp [results, Tryd.results4, go_sem, c9]
      · have bw8 := bvia bV e8
        have q1 := (bw8.setCell (p := ⟨w.heap.size + 2, 0, none⟩) (by show w.heap.size ≤ w.heap.size + 2; omega) (.bool true))
        have h1 := HwD.out.2.2
        have h2 := HDlt.out
        exact ⟨q1.os, q1.tape, q1.output, by simpa using q1.size, fun k hk => ((World.putObj_heap_other (by omega)).trans (World.putObj_heap_other (by omega))).trans (q1.block k hk)⟩
end Go.Proofs.YtfihjajllfihjaaDoor
