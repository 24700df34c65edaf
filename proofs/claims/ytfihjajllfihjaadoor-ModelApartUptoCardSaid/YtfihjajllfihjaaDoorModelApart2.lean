/- barrowlaw05.ModelApart: the walk, where the call is Add; and both together: it returns true. Conditions: the row and the reasons lie in memory, the elements fit their kinds. -/
import Derived.Test.YtfihjajllfihjaaDoorModelApart
namespace Go.Proofs.YtfihjajllfihjaaDoor
set_option linter.unusedSimpArgs false
set_option linter.unusedVariables false
open Go Go.RowKit
variable {a : Nat → Addr}
theorem set_back {L : List El} {k : Nat} {e0 x : El} (he : L[k]? = some e0) : (L.set k x).set k e0 = L := by
  obtain ⟨hk, rfl⟩ := List.getElem?_eq_some_iff.1 he
  simp
set_option maxRecDepth 100000 in
set_option maxHeartbeats 8000000 in
theorem mapart_add0 (w : World) (A : Option Addr) (n c : Nat) (ls : List El) (S S' : Nat → Prop) (d i q ep rp nu ch hd : Int) (hd2 : d % 2 = 1) (hr : Row w S A n c ls) (hg : AllRight (ls.take (min n 100))) (hin : ∀ e ∈ ls, e.In) (hs : Sents w S' a) (h0 : ls.take (min n 100) = []) :
    Calls Tryd.prog 7 #[.slice A n c, .agg #[.int .i64 d, .int .i64 i, .int .i64 q, .int .i64 ep, .int .i64 rp, .int .i64 nu, .int .i32 ch, .int .i64 hd]] w fun e w' => e = .returned (.bool true) ∧ Below w.heap.size w w' := by
  have b1 : Below w.heap.size w (w.alloc (.cells #[.int .i64 d, .int .i64 i, .int .i64 q, .int .i64 ep, .int .i64 rp, .int .i64 nu, .int .i32 ch, .int .i64 hd] 63)) := balloc (Below.refl _ _)
  have hX := Blk.new w 63 #[.int .i64 d, .int .i64 i, .int .i64 q, .int .i64 ep, .int .i64 rp, .int .i64 nu, .int .i32 ch, .int .i64 hd]
  have hXl := hX.lt
  have HB := hid (begun5_ok _ A n c ls S (hr.step b1) hg hin)
  have HK := hid wakes5_any
  have hL : (ls.take (min n 100)).length ≤ 100 := by rw [List.length_take]; omega
  generalize ls.take (min n 100) = L at *
  have HI := hid (fun W => within_any d 2 (by decide) (by decide) W)
  rw [hd2] at HI
  have Hs := hid hs
  clear hr hg hin hs
  subst h0
  go_enter Tryd.func7, Tryd.ntmps7
  repeat' (first | (go_at_call 16; go_must ((with_reducible refine Calls.mono HB.out ?_); rintro _ w1 ⟨⟨pb, mb, SM, rfl, hP⟩, hb1⟩; obtain ⟨p0, pl⟩ := hP.cell; have HE := hid (melements_any w1 SM mb _ _ hP.mdl (by omega)); dsimp only)) | (go_at_call 23; go_must ((with_reducible refine Calls.mono HE.out ?_); rintro _ w2 ⟨A2, c2, rfl, hO2, hb2⟩; have hX2 := (hX.step hb1).step hb2; obtain ⟨x0, x1, x2, x3, x4, x5, x6, x7, xl⟩ := hX2.eight; clear hO2; dsimp only)) | (go_at_call 26; go_must ((with_reducible refine Calls.mono (HI.out _) ?_); rintro _ _ ⟨rfl, rfl⟩; dsimp only)) | (go_at_call 17; go_must ((with_reducible refine Calls.mono (HK.out _) ?_); rintro _ w9 ⟨rfl, hb9⟩; dsimp only)) | (with_reducible refine Keep.last ?_) | (with_reducible refine Keep.below (by assumption) ?_) | (with_reducible refine Keep.kept (by assumption) ?_) | (with_reducible refine Keep.alloc ?_) | (with_reducible refine Keep.same ?_) | ((with_reducible refine WpH.here ?_); first | (refine WpH.nil ?_; refine NoP.normal ?_) | (refine WpH.load (by rfl) (by rfl) (by go_simp; rfl) ?_; simp only [Act.put, List.setIfInBounds_toArray, List.set_cons_zero, List.set_cons_succ]) | (refine WpH.loadT (by rfl) (by rfl) (by go_simp; rfl) (by rintro _ _ ⟨⟩; exact ⟨_, _, _, _, _, _, by rfl, by assumption, by assumption⟩) ?_; simp only [Act.put, List.setIfInBounds_toArray, List.set_cons_zero, List.set_cons_succ]) | (refine WpH.pure (by rfl) (fun w_ => by go_simp; (try go_bits); rfl) ?_; simp only [Act.put, List.setIfInBounds_toArray, List.set_cons_zero, List.set_cons_succ]) | (refine WpH.wild1 (by rfl) (fun _ _ => ?_)) | (refine WpH.skip (by rfl) ?_; simp only [Act.put, List.setIfInBounds_toArray, List.set_cons_zero, List.set_cons_succ])) | go_values | go_skip | go_guarded | go_step | go_upon | go_back)
  skip
  go_ret
  exact ⟨rfl, bvia (bvia (bvia b1 hb1) hb2) hb9⟩
set_option maxRecDepth 100000 in
set_option maxHeartbeats 8000000 in
theorem mapart_add1 (w : World) (A : Option Addr) (n c : Nat) (ls : List El) (S S' : Nat → Prop) (d i q ep rp nu ch hd : Int) (hd2 : d % 2 = 1) (hr : Row w S A n c ls) (hg : AllRight (ls.take (min n 100))) (hin : ∀ e ∈ ls, e.In) (hs : Sents w S' a) (h0 : 0 < (ls.take (min n 100)).length) :
    Calls Tryd.prog 7 #[.slice A n c, .agg #[.int .i64 d, .int .i64 i, .int .i64 q, .int .i64 ep, .int .i64 rp, .int .i64 nu, .int .i32 ch, .int .i64 hd]] w fun e w' => e = .returned (.bool true) ∧ Below w.heap.size w w' := by
  have hgd := (hg.good (fun e he => ⟨(hin e (List.mem_of_mem_take he)).1, (hin e (List.mem_of_mem_take he)).2.1, (hin e (List.mem_of_mem_take he)).2.2.1⟩))
  have b1 : Below w.heap.size w (w.alloc (.cells #[.int .i64 d, .int .i64 i, .int .i64 q, .int .i64 ep, .int .i64 rp, .int .i64 nu, .int .i32 ch, .int .i64 hd] 63)) := balloc (Below.refl _ _)
  have hX := Blk.new w 63 #[.int .i64 d, .int .i64 i, .int .i64 q, .int .i64 ep, .int .i64 rp, .int .i64 nu, .int .i32 ch, .int .i64 hd]
  have hXl := hX.lt
  have HB := hid (begun5_ok _ A n c ls S (hr.step b1) hg hin)
  have HK := hid wakes5_any
  have hL : (ls.take (min n 100)).length ≤ 100 := by rw [List.length_take]; omega
  generalize ls.take (min n 100) = L at *
  have HI := hid (fun W => within_any d 2 (by decide) (by decide) W)
  rw [hd2] at HI
  have Hs := hid hs
  clear hr hg hin hs
  obtain ⟨k, hk⟩ : ∃ k : Nat, i % (L.length : Int) = k := ⟨(i % (L.length : Int)).toNat, by rw [Int.toNat_of_nonneg (Int.emod_nonneg _ (by omega))]⟩
  have hkL : k < L.length := by have := Int.emod_lt_of_pos i (show (0 : Int) < L.length by omega); omega
  have HI2 := hid (fun W => within_any i (L.length : Int) (by omega) (by omega) W)
  rw [hk] at HI2
  clear hk
  have he0 : L[k]? = some L[k] := List.getElem?_eq_getElem hkL
  generalize L[k] = e0 at he0
  have hh0 := fairH_bounds (hgd e0 (List.mem_of_getElem? he0)).hides
  have hm0 : -9223372036854775808 ≤ e0.hides + 1 := by omega
  have hm1 : e0.hides + 1 ≤ 9223372036854775807 := by omega
  have hm2 : -9223372036854775808 ≤ e0.hides + -1 := by omega
  have hm3 : e0.hides + -1 ≤ 9223372036854775807 := by omega
  have He := hid he0
  have hkk : (k : Int) < L.length := by omega
  have hL0 : ¬ (L.length : Int) = 0 := by omega
  clear he0 h0 hgd
  by_cases hq : q < 0
  · skip
    have HFa := hid (fun W => ref5Fair_any (e0.hides + (-1)) W)
    go_enter Tryd.func7, Tryd.ntmps7
    cases hf : fairH (e0.hides + (-1))
    · rw [hf] at HFa
      repeat' (first | (go_at_call 16; go_must ((with_reducible refine Calls.mono HB.out ?_); rintro _ w1 ⟨⟨pb, mb, SM, rfl, hP⟩, hb1⟩; obtain ⟨p0, pl⟩ := hP.cell; have HE := hid (melements_any w1 SM mb _ _ hP.mdl (by omega)); dsimp only)) | (go_at_call 23; go_must (first | ((with_reducible refine Calls.mono HE.out ?_); rintro _ w2 ⟨A2, c2, rfl, hO2, hb2⟩; have hX2 := (hX.step hb1).step hb2; obtain ⟨x0, x1, x2, x3, x4, x5, x6, x7, xl⟩ := hX2.eight; have hr2 := hO2.row (S := fun b => w1.heap.size ≤ b ∧ b < w2.heap.size) fun b h1 h2 => ⟨h1, h2⟩; obtain ⟨b2, off2, e2, rfl, hb2S, he2, v0, v1, v2, v3, v4⟩ := hr2.at_ hkL; obtain rfl := Option.some.inj (he2.symm.trans He.out); clear he2; have v5 := lt_of_cell' v0; dsimp only at v5; have hcl := hr2.2.1; obtain ⟨p0, pl⟩ := (hP.step hb2).cell; have HAd := hid (madd_arg w2 SM S' mb _ _ k e2 (-1) (by omega) (hP.mdl.step hb2) (by omega) He.out hf (((Hs.out.step b1).step hb1).step hb2)); dsimp only) | ((with_reducible refine Calls.mono HE4.out ?_); rintro _ w5 ⟨A5, c5, rfl, hO5, hb5⟩; have HEl := hid (els_eq A5 _ c5 (some ⟨b2, off2, none⟩) c2 L _ _ w5 (hO5.row (S := fun _ => True) fun _ _ _ => trivial) (((hr2.step hb4).step hb5))); dsimp only))) | (go_at_call 26; go_must ((first | (with_reducible refine Calls.mono (HI.out _) ?_) | (with_reducible refine Calls.mono (HI2.out _) ?_)); rintro _ _ ⟨rfl, rfl⟩; dsimp only)) | (go_at_call 37; go_must ((with_reducible refine Calls.mono (HFa.out _) ?_); rintro _ _ ⟨rfl, rfl⟩; dsimp only)) | (go_at_call 40; go_must ((with_reducible refine Calls.mono HAd.out ?_); rintro _ w4 ⟨v, rfl, hv, hb4⟩; obtain ⟨tv, xv, rfl⟩ := hv.notNil; have hP4 := ((hP.step hb2).step hb4); obtain ⟨p0, pl⟩ := hP4.cell; have HE4 := hid (melements_any w4 SM mb _ _ hP4.mdl (by omega)); clear hv; dsimp only)) | (go_at_call 22; go_must ((with_reducible refine Calls.mono HEl.out ?_); rintro _ w6 ⟨rfl, hb6⟩; dsimp only)) | (go_at_call 17; go_must ((with_reducible refine Calls.mono (HK.out _) ?_); rintro _ w9 ⟨rfl, hb9⟩; dsimp only)) | (with_reducible refine Keep.last ?_) | (with_reducible refine Keep.below (by assumption) ?_) | (with_reducible refine Keep.kept (by assumption) ?_) | (with_reducible refine Keep.alloc ?_) | (with_reducible refine Keep.same ?_) | ((with_reducible refine WpH.here ?_); first | (refine WpH.nil ?_; refine NoP.normal ?_) | (refine WpH.load (by rfl) (by rfl) (by go_simp; rfl) ?_; simp only [Act.put, List.setIfInBounds_toArray, List.set_cons_zero, List.set_cons_succ]) | (refine WpH.loadT (by rfl) (by rfl) (by go_simp; rfl) (by rintro _ _ ⟨⟩; exact ⟨_, _, _, _, _, _, by rfl, by assumption, by assumption⟩) ?_; simp only [Act.put, List.setIfInBounds_toArray, List.set_cons_zero, List.set_cons_succ]) | (refine WpH.pure (by rfl) (fun w_ => by go_simp; (try go_bits); rfl) ?_; simp only [Act.put, List.setIfInBounds_toArray, List.set_cons_zero, List.set_cons_succ]) | (refine WpH.wild1 (by rfl) (fun _ _ => ?_)) | (refine WpH.skip (by rfl) ?_; simp only [Act.put, List.setIfInBounds_toArray, List.set_cons_zero, List.set_cons_succ])) | go_values | go_skip | go_guarded | go_step | go_upon | go_back)
      skip
      go_ret
      exact ⟨rfl, bvia (bvia (bvia (bvia (bvia (bvia b1 hb1) hb2) hb4) hb5) hb6) hb9⟩
    · rw [hf] at HFa
      repeat' (first | (go_at_call 16; go_must ((with_reducible refine Calls.mono HB.out ?_); rintro _ w1 ⟨⟨pb, mb, SM, rfl, hP⟩, hb1⟩; obtain ⟨p0, pl⟩ := hP.cell; have HE := hid (melements_any w1 SM mb _ _ hP.mdl (by omega)); dsimp only)) | (go_at_call 23; go_must (first | ((with_reducible refine Calls.mono HE.out ?_); rintro _ w2 ⟨A2, c2, rfl, hO2, hb2⟩; have hX2 := (hX.step hb1).step hb2; obtain ⟨x0, x1, x2, x3, x4, x5, x6, x7, xl⟩ := hX2.eight; have hr2 := hO2.row (S := fun b => w1.heap.size ≤ b ∧ b < w2.heap.size) fun b h1 h2 => ⟨h1, h2⟩; obtain ⟨b2, off2, e2, rfl, hb2S, he2, v0, v1, v2, v3, v4⟩ := hr2.at_ hkL; obtain rfl := Option.some.inj (he2.symm.trans He.out); clear he2; have v5 := lt_of_cell' v0; dsimp only at v5; have hcl := hr2.2.1; obtain ⟨p0, pl⟩ := (hP.step hb2).cell; have HAd := hid (madd_ok w2 (fun b => SM b ∧ b < w1.heap.size) mb _ _ k e2 (-1) (by omega) ((hP.mdl.more (S' := fun b => SM b ∧ b < w1.heap.size) (fun b h1 h2 => ⟨h2, h1⟩)).step hb2) (by omega) He.out hf); dsimp only) | ((with_reducible refine Calls.mono HE4.out ?_); rintro _ w5 ⟨A5, c5, rfl, hO5, hb5⟩; dsimp only))) | (go_at_call 26; go_must ((first | (with_reducible refine Calls.mono (HI.out _) ?_) | (with_reducible refine Calls.mono (HI2.out _) ?_)); rintro _ _ ⟨rfl, rfl⟩; dsimp only)) | (go_at_call 37; go_must ((with_reducible refine Calls.mono (HFa.out _) ?_); rintro _ _ ⟨rfl, rfl⟩; dsimp only)) | (go_at_call 40; go_must ((with_reducible refine Calls.mono HAd.out ?_); rintro _ w4 ⟨rfl, hM4, hO4⟩; obtain ⟨Ap, cp, hpb, hprow, hpm, hSM, hpb0, hnd⟩ := hP; have hp4 := hO4.blk (hpb.step hb2) (fun h => (hSM _ h.1).2 rfl); have p0 := hp4.cell 0; have pl := hp4.lt; simp at p0; have HE4 := hid (melements_any w4 _ mb _ _ hM4 (by simp; omega)); rw [List.length_set] at HE4; dsimp only)) | (with_reducible refine stop_region 25 ?_) | (with_reducible refine Keep.last ?_) | (with_reducible refine Keep.below (by assumption) ?_) | (with_reducible refine Keep.kept (by assumption) ?_) | (with_reducible refine Keep.alloc ?_) | (with_reducible refine Keep.same ?_) | ((with_reducible refine WpH.here ?_); first | (refine WpH.nil ?_; refine NoP.normal ?_) | (refine WpH.load (by rfl) (by rfl) (by go_simp; rfl) ?_; simp only [Act.put, List.setIfInBounds_toArray, List.set_cons_zero, List.set_cons_succ]) | (refine WpH.loadT (by rfl) (by rfl) (by go_simp; rfl) (by rintro _ _ ⟨⟩; exact ⟨_, _, _, _, _, _, by rfl, by assumption, by assumption⟩) ?_; simp only [Act.put, List.setIfInBounds_toArray, List.set_cons_zero, List.set_cons_succ]) | (refine WpH.pure (by rfl) (fun w_ => by go_simp; (try go_bits); rfl) ?_; simp only [Act.put, List.setIfInBounds_toArray, List.set_cons_zero, List.set_cons_succ]) | (refine WpH.wild1 (by rfl) (fun _ _ => ?_)) | (refine WpH.skip (by rfl) ?_; simp only [Act.put, List.setIfInBounds_toArray, List.set_cons_zero, List.set_cons_succ])) | go_values | go_skip | go_guarded | go_step | go_upon | go_back)
      refine Stop.go ?_
      skip
      have hsame : Same (fun b => w1.heap.size ≤ b ∧ b < w2.heap.size) w2 w4 := fun b hb hl => hO4.block b hl (fun h => by omega)
      have hr5' := ((hr2.keep hsame).step hb5)
      have hr5 := hr5'.drew
      have hO5r := (hO5.row (S := fun _ => True) fun _ _ _ => trivial).drew
      obtain ⟨g5, cur5, rfl, hg5, -⟩ := own_at hO5 (by omega)
      obtain ⟨b5, off5, e5, hA5, -, he5, u0, u1, u2, u3, u4⟩ := hO5r.at_ hkL
      injection hA5 with hA5
      injection hA5 with hA5 hoff
      subst hA5 hoff
      have he5' : e5 = e2.hide (-1) := by
        rw [List.getElem?_set_self hkL] at he5
        exact (Option.some.inj he5).symm
      subst he5'
      clear he5
      unfold El.hide at u0 u1 u2 u3 u4
      dsimp only at u0 u1 u2 u3 u4
      simp only [Nat.zero_add] at u0 u1 u2 u3 u4
      have u5 := lt_of_cell' u0
      dsimp only at u5
      have hcl5 := hO5r.2.1
      obtain ⟨b6, off6, e6, hA6, -, he6, z0, z1, z2, z3, z4⟩ := hr5.at_ hkL
      injection hA6 with hA6
      injection hA6 with hA6 hoff6
      subst hA6 hoff6
      obtain rfl := Option.some.inj (he6.symm.trans He.out)
      clear he6
      have hs4 := hO4.size
      have hs5 := hb5.size
      have hl2 : b2 < w5.heap.size := by omega
      obtain ⟨f0, f1, f2, f3, f4, ⟨_, y0⟩, ⟨_, y1⟩, ⟨_, y2⟩, ⟨_, y3⟩, ⟨_, y4⟩⟩ := own_blk hO5 (by omega) hkL
      have hO6' := hO5.set5 e6 hkL
      rw [set_back He.out] at hO6'
      have hO6 := hO6'.drw
      have hsz : ∀ W : World, ∀ x0 x1 x2 x3 x4 : Value, (((((W.setCell ⟨g5, k * 5, none⟩ x0).setCell ⟨g5, k * 5 + 1, none⟩ x1).setCell ⟨g5, k * 5 + 2, none⟩ x2).setCell ⟨g5, k * 5 + 3, none⟩ x3).setCell ⟨g5, k * 5 + 4, none⟩ x4).heap.size = W.heap.size := fun W _ _ _ _ _ => by simp [World.setCell]
      have HEl := hid (els_eq (some ⟨g5, 0, none⟩) _ c5 (some ⟨b2, off2, none⟩) c2 L _ _ _ (hO6.row (S := fun _ => True) fun _ _ _ => trivial) (hr5'.keep (w' := (((((w5.setCell ⟨g5, k * 5, none⟩ (.int .i64 e6.epoch)).setCell ⟨g5, k * 5 + 1, none⟩ (.int .i64 e6.rep)).setCell ⟨g5, k * 5 + 2, none⟩ (.int .i64 e6.num)).setCell ⟨g5, k * 5 + 3, none⟩ (.int .i32 e6.char)).setCell ⟨g5, k * 5 + 4, none⟩ (.int .i64 e6.hides))) (fun b hb hl => by
        have hne : b ≠ g5 := by omega
        rw [Below.heap_setCell _ _ _ _ hne, Below.heap_setCell _ _ _ _ hne, Below.heap_setCell _ _ _ _ hne, Below.heap_setCell _ _ _ _ hne, Below.heap_setCell _ _ _ _ hne])).drew)
      have hb6 : Below w.heap.size w (((((w5.setCell ⟨g5, k * 5, none⟩ (.int .i64 e6.epoch)).setCell ⟨g5, k * 5 + 1, none⟩ (.int .i64 e6.rep)).setCell ⟨g5, k * 5 + 2, none⟩ (.int .i64 e6.num)).setCell ⟨g5, k * 5 + 3, none⟩ (.int .i32 e6.char)).setCell ⟨g5, k * 5 + 4, none⟩ (.int .i64 e6.hides)).drew := by
        have hz0 := b1.size
        have hz1 := hb1.size
        have hz2 := hb2.size
        have hbx := ((hO4.below (bvia (bvia b1 hb1) hb2) (by omega) (fun b h => by have := (hSM b h.1).1; omega)).trans (hb5.mono (by omega)))
        have hg0 : w.heap.size ≤ g5 := by omega
        exact (bset (bset (bset (bset (bset hbx hg0) hg0) hg0) hg0) hg0).drew
      have hhd := fairH_bounds hf
      have hh5 := e6.hides
      clear hO6 hO6' hO5r hr5 hr5' hO5 hr2 HE4 HE HB
      repeat' (first | ((with_reducible refine region_at 25 ?_); refine wp_region_order [(0, true, false), (1, true, false), (2, true, false), (3, true, false), (4, true, false), (5, true, false), (6, true, false), (7, true, false), (8, true, false), (9, true, false), (10, true, false), (11, true, false), (12, true, false), (13, true, false), (14, true, false), (15, true, false), (16, true, false), (17, true, false), (18, true, false), (19, true, false)] (by kernel_rfl) (by kernel_rfl) (by kernel_rfl) rfl rfl ?_) | (go_at_call 22; go_must ((with_reducible refine Calls.mono HEl.out ?_); rintro _ w6 ⟨rfl, hb7⟩; dsimp only)) | (go_at_call 17; go_must ((with_reducible refine Calls.mono (HK.out _) ?_); rintro _ w9 ⟨rfl, hb9⟩; dsimp only)) | (with_reducible refine Keep.last ?_) | (with_reducible refine Keep.below (by assumption) ?_) | (with_reducible refine Keep.kept (by assumption) ?_) | (with_reducible refine Keep.alloc ?_) | (with_reducible refine Keep.same ?_) | ((with_reducible refine WpH.here ?_); first | (refine WpH.nil ?_; refine NoP.normal ?_) | (refine WpH.load (by rfl) (by rfl) (by go_simp; rfl) ?_; simp only [Act.put, List.setIfInBounds_toArray, List.set_cons_zero, List.set_cons_succ]) | (refine WpH.loadT (by rfl) (by rfl) (by go_simp; rfl) (by rintro _ _ ⟨⟩; exact ⟨_, _, _, _, _, _, by rfl, by assumption, by assumption⟩) ?_; simp only [Act.put, List.setIfInBounds_toArray, List.set_cons_zero, List.set_cons_succ]) | (refine WpH.pure (by rfl) (fun w_ => by go_simp; (try go_bits); rfl) ?_; simp only [Act.put, List.setIfInBounds_toArray, List.set_cons_zero, List.set_cons_succ]) | (refine WpH.wild1 (by rfl) (fun _ _ => ?_)) | (refine WpH.skip (by rfl) ?_; simp only [Act.put, List.setIfInBounds_toArray, List.set_cons_zero, List.set_cons_succ])) | go_values | go_skip | go_guarded | go_step | go_upon | go_back)
      skip
      go_ret
      exact ⟨rfl, bvia (bvia hb6 hb7) hb9⟩
  · skip
    have HFa := hid (fun W => ref5Fair_any (e0.hides + 1) W)
    go_enter Tryd.func7, Tryd.ntmps7
    cases hf : fairH (e0.hides + 1)
    · rw [hf] at HFa
      repeat' (first | (go_at_call 16; go_must ((with_reducible refine Calls.mono HB.out ?_); rintro _ w1 ⟨⟨pb, mb, SM, rfl, hP⟩, hb1⟩; obtain ⟨p0, pl⟩ := hP.cell; have HE := hid (melements_any w1 SM mb _ _ hP.mdl (by omega)); dsimp only)) | (go_at_call 23; go_must (first | ((with_reducible refine Calls.mono HE.out ?_); rintro _ w2 ⟨A2, c2, rfl, hO2, hb2⟩; have hX2 := (hX.step hb1).step hb2; obtain ⟨x0, x1, x2, x3, x4, x5, x6, x7, xl⟩ := hX2.eight; have hr2 := hO2.row (S := fun b => w1.heap.size ≤ b ∧ b < w2.heap.size) fun b h1 h2 => ⟨h1, h2⟩; obtain ⟨b2, off2, e2, rfl, hb2S, he2, v0, v1, v2, v3, v4⟩ := hr2.at_ hkL; obtain rfl := Option.some.inj (he2.symm.trans He.out); clear he2; have v5 := lt_of_cell' v0; dsimp only at v5; have hcl := hr2.2.1; obtain ⟨p0, pl⟩ := (hP.step hb2).cell; have HAd := hid (madd_arg w2 SM S' mb _ _ k e2 1 (by omega) (hP.mdl.step hb2) (by omega) He.out hf (((Hs.out.step b1).step hb1).step hb2)); dsimp only) | ((with_reducible refine Calls.mono HE4.out ?_); rintro _ w5 ⟨A5, c5, rfl, hO5, hb5⟩; have HEl := hid (els_eq A5 _ c5 (some ⟨b2, off2, none⟩) c2 L _ _ w5 (hO5.row (S := fun _ => True) fun _ _ _ => trivial) (((hr2.step hb4).step hb5))); dsimp only))) | (go_at_call 26; go_must ((first | (with_reducible refine Calls.mono (HI.out _) ?_) | (with_reducible refine Calls.mono (HI2.out _) ?_)); rintro _ _ ⟨rfl, rfl⟩; dsimp only)) | (go_at_call 37; go_must ((with_reducible refine Calls.mono (HFa.out _) ?_); rintro _ _ ⟨rfl, rfl⟩; dsimp only)) | (go_at_call 40; go_must ((with_reducible refine Calls.mono HAd.out ?_); rintro _ w4 ⟨v, rfl, hv, hb4⟩; obtain ⟨tv, xv, rfl⟩ := hv.notNil; have hP4 := ((hP.step hb2).step hb4); obtain ⟨p0, pl⟩ := hP4.cell; have HE4 := hid (melements_any w4 SM mb _ _ hP4.mdl (by omega)); clear hv; dsimp only)) | (go_at_call 22; go_must ((with_reducible refine Calls.mono HEl.out ?_); rintro _ w6 ⟨rfl, hb6⟩; dsimp only)) | (go_at_call 17; go_must ((with_reducible refine Calls.mono (HK.out _) ?_); rintro _ w9 ⟨rfl, hb9⟩; dsimp only)) | (with_reducible refine Keep.last ?_) | (with_reducible refine Keep.below (by assumption) ?_) | (with_reducible refine Keep.kept (by assumption) ?_) | (with_reducible refine Keep.alloc ?_) | (with_reducible refine Keep.same ?_) | ((with_reducible refine WpH.here ?_); first | (refine WpH.nil ?_; refine NoP.normal ?_) | (refine WpH.load (by rfl) (by rfl) (by go_simp; rfl) ?_; simp only [Act.put, List.setIfInBounds_toArray, List.set_cons_zero, List.set_cons_succ]) | (refine WpH.loadT (by rfl) (by rfl) (by go_simp; rfl) (by rintro _ _ ⟨⟩; exact ⟨_, _, _, _, _, _, by rfl, by assumption, by assumption⟩) ?_; simp only [Act.put, List.setIfInBounds_toArray, List.set_cons_zero, List.set_cons_succ]) | (refine WpH.pure (by rfl) (fun w_ => by go_simp; (try go_bits); rfl) ?_; simp only [Act.put, List.setIfInBounds_toArray, List.set_cons_zero, List.set_cons_succ]) | (refine WpH.wild1 (by rfl) (fun _ _ => ?_)) | (refine WpH.skip (by rfl) ?_; simp only [Act.put, List.setIfInBounds_toArray, List.set_cons_zero, List.set_cons_succ])) | go_values | go_skip | go_guarded | go_step | go_upon | go_back)
      skip
      go_ret
      exact ⟨rfl, bvia (bvia (bvia (bvia (bvia (bvia b1 hb1) hb2) hb4) hb5) hb6) hb9⟩
    · rw [hf] at HFa
      repeat' (first | (go_at_call 16; go_must ((with_reducible refine Calls.mono HB.out ?_); rintro _ w1 ⟨⟨pb, mb, SM, rfl, hP⟩, hb1⟩; obtain ⟨p0, pl⟩ := hP.cell; have HE := hid (melements_any w1 SM mb _ _ hP.mdl (by omega)); dsimp only)) | (go_at_call 23; go_must (first | ((with_reducible refine Calls.mono HE.out ?_); rintro _ w2 ⟨A2, c2, rfl, hO2, hb2⟩; have hX2 := (hX.step hb1).step hb2; obtain ⟨x0, x1, x2, x3, x4, x5, x6, x7, xl⟩ := hX2.eight; have hr2 := hO2.row (S := fun b => w1.heap.size ≤ b ∧ b < w2.heap.size) fun b h1 h2 => ⟨h1, h2⟩; obtain ⟨b2, off2, e2, rfl, hb2S, he2, v0, v1, v2, v3, v4⟩ := hr2.at_ hkL; obtain rfl := Option.some.inj (he2.symm.trans He.out); clear he2; have v5 := lt_of_cell' v0; dsimp only at v5; have hcl := hr2.2.1; obtain ⟨p0, pl⟩ := (hP.step hb2).cell; have HAd := hid (madd_ok w2 (fun b => SM b ∧ b < w1.heap.size) mb _ _ k e2 1 (by omega) ((hP.mdl.more (S' := fun b => SM b ∧ b < w1.heap.size) (fun b h1 h2 => ⟨h2, h1⟩)).step hb2) (by omega) He.out hf); dsimp only) | ((with_reducible refine Calls.mono HE4.out ?_); rintro _ w5 ⟨A5, c5, rfl, hO5, hb5⟩; dsimp only))) | (go_at_call 26; go_must ((first | (with_reducible refine Calls.mono (HI.out _) ?_) | (with_reducible refine Calls.mono (HI2.out _) ?_)); rintro _ _ ⟨rfl, rfl⟩; dsimp only)) | (go_at_call 37; go_must ((with_reducible refine Calls.mono (HFa.out _) ?_); rintro _ _ ⟨rfl, rfl⟩; dsimp only)) | (go_at_call 40; go_must ((with_reducible refine Calls.mono HAd.out ?_); rintro _ w4 ⟨rfl, hM4, hO4⟩; obtain ⟨Ap, cp, hpb, hprow, hpm, hSM, hpb0, hnd⟩ := hP; have hp4 := hO4.blk (hpb.step hb2) (fun h => (hSM _ h.1).2 rfl); have p0 := hp4.cell 0; have pl := hp4.lt; simp at p0; have HE4 := hid (melements_any w4 _ mb _ _ hM4 (by simp; omega)); rw [List.length_set] at HE4; dsimp only)) | (with_reducible refine stop_region 25 ?_) | (with_reducible refine Keep.last ?_) | (with_reducible refine Keep.below (by assumption) ?_) | (with_reducible refine Keep.kept (by assumption) ?_) | (with_reducible refine Keep.alloc ?_) | (with_reducible refine Keep.same ?_) | ((with_reducible refine WpH.here ?_); first | (refine WpH.nil ?_; refine NoP.normal ?_) | (refine WpH.load (by rfl) (by rfl) (by go_simp; rfl) ?_; simp only [Act.put, List.setIfInBounds_toArray, List.set_cons_zero, List.set_cons_succ]) | (refine WpH.loadT (by rfl) (by rfl) (by go_simp; rfl) (by rintro _ _ ⟨⟩; exact ⟨_, _, _, _, _, _, by rfl, by assumption, by assumption⟩) ?_; simp only [Act.put, List.setIfInBounds_toArray, List.set_cons_zero, List.set_cons_succ]) | (refine WpH.pure (by rfl) (fun w_ => by go_simp; (try go_bits); rfl) ?_; simp only [Act.put, List.setIfInBounds_toArray, List.set_cons_zero, List.set_cons_succ]) | (refine WpH.wild1 (by rfl) (fun _ _ => ?_)) | (refine WpH.skip (by rfl) ?_; simp only [Act.put, List.setIfInBounds_toArray, List.set_cons_zero, List.set_cons_succ])) | go_values | go_skip | go_guarded | go_step | go_upon | go_back)
      refine Stop.go ?_
      skip
      have hsame : Same (fun b => w1.heap.size ≤ b ∧ b < w2.heap.size) w2 w4 := fun b hb hl => hO4.block b hl (fun h => by omega)
      have hr5' := ((hr2.keep hsame).step hb5)
      have hr5 := hr5'.drew
      have hO5r := (hO5.row (S := fun _ => True) fun _ _ _ => trivial).drew
      obtain ⟨g5, cur5, rfl, hg5, -⟩ := own_at hO5 (by omega)
      obtain ⟨b5, off5, e5, hA5, -, he5, u0, u1, u2, u3, u4⟩ := hO5r.at_ hkL
      injection hA5 with hA5
      injection hA5 with hA5 hoff
      subst hA5 hoff
      have he5' : e5 = e2.hide 1 := by
        rw [List.getElem?_set_self hkL] at he5
        exact (Option.some.inj he5).symm
      subst he5'
      clear he5
      unfold El.hide at u0 u1 u2 u3 u4
      dsimp only at u0 u1 u2 u3 u4
      simp only [Nat.zero_add] at u0 u1 u2 u3 u4
      have u5 := lt_of_cell' u0
      dsimp only at u5
      have hcl5 := hO5r.2.1
      obtain ⟨b6, off6, e6, hA6, -, he6, z0, z1, z2, z3, z4⟩ := hr5.at_ hkL
      injection hA6 with hA6
      injection hA6 with hA6 hoff6
      subst hA6 hoff6
      obtain rfl := Option.some.inj (he6.symm.trans He.out)
      clear he6
      have hs4 := hO4.size
      have hs5 := hb5.size
      have hl2 : b2 < w5.heap.size := by omega
      obtain ⟨f0, f1, f2, f3, f4, ⟨_, y0⟩, ⟨_, y1⟩, ⟨_, y2⟩, ⟨_, y3⟩, ⟨_, y4⟩⟩ := own_blk hO5 (by omega) hkL
      have hO6' := hO5.set5 e6 hkL
      rw [set_back He.out] at hO6'
      have hO6 := hO6'.drw
      have hsz : ∀ W : World, ∀ x0 x1 x2 x3 x4 : Value, (((((W.setCell ⟨g5, k * 5, none⟩ x0).setCell ⟨g5, k * 5 + 1, none⟩ x1).setCell ⟨g5, k * 5 + 2, none⟩ x2).setCell ⟨g5, k * 5 + 3, none⟩ x3).setCell ⟨g5, k * 5 + 4, none⟩ x4).heap.size = W.heap.size := fun W _ _ _ _ _ => by simp [World.setCell]
      have HEl := hid (els_eq (some ⟨g5, 0, none⟩) _ c5 (some ⟨b2, off2, none⟩) c2 L _ _ _ (hO6.row (S := fun _ => True) fun _ _ _ => trivial) (hr5'.keep (w' := (((((w5.setCell ⟨g5, k * 5, none⟩ (.int .i64 e6.epoch)).setCell ⟨g5, k * 5 + 1, none⟩ (.int .i64 e6.rep)).setCell ⟨g5, k * 5 + 2, none⟩ (.int .i64 e6.num)).setCell ⟨g5, k * 5 + 3, none⟩ (.int .i32 e6.char)).setCell ⟨g5, k * 5 + 4, none⟩ (.int .i64 e6.hides))) (fun b hb hl => by
        have hne : b ≠ g5 := by omega
        rw [Below.heap_setCell _ _ _ _ hne, Below.heap_setCell _ _ _ _ hne, Below.heap_setCell _ _ _ _ hne, Below.heap_setCell _ _ _ _ hne, Below.heap_setCell _ _ _ _ hne])).drew)
      have hb6 : Below w.heap.size w (((((w5.setCell ⟨g5, k * 5, none⟩ (.int .i64 e6.epoch)).setCell ⟨g5, k * 5 + 1, none⟩ (.int .i64 e6.rep)).setCell ⟨g5, k * 5 + 2, none⟩ (.int .i64 e6.num)).setCell ⟨g5, k * 5 + 3, none⟩ (.int .i32 e6.char)).setCell ⟨g5, k * 5 + 4, none⟩ (.int .i64 e6.hides)).drew := by
        have hz0 := b1.size
        have hz1 := hb1.size
        have hz2 := hb2.size
        have hbx := ((hO4.below (bvia (bvia b1 hb1) hb2) (by omega) (fun b h => by have := (hSM b h.1).1; omega)).trans (hb5.mono (by omega)))
        have hg0 : w.heap.size ≤ g5 := by omega
        exact (bset (bset (bset (bset (bset hbx hg0) hg0) hg0) hg0) hg0).drew
      have hhd := fairH_bounds hf
      have hh5 := e6.hides
      clear hO6 hO6' hO5r hr5 hr5' hO5 hr2 HE4 HE HB
      repeat' (first | ((with_reducible refine region_at 25 ?_); refine wp_region_order [(0, true, false), (1, true, false), (2, true, false), (3, true, false), (4, true, false), (5, true, false), (6, true, false), (7, true, false), (8, true, false), (9, true, false), (10, true, false), (11, true, false), (12, true, false), (13, true, false), (14, true, false), (15, true, false), (16, true, false), (17, true, false), (18, true, false), (19, true, false)] (by kernel_rfl) (by kernel_rfl) (by kernel_rfl) rfl rfl ?_) | (go_at_call 22; go_must ((with_reducible refine Calls.mono HEl.out ?_); rintro _ w6 ⟨rfl, hb7⟩; dsimp only)) | (go_at_call 17; go_must ((with_reducible refine Calls.mono (HK.out _) ?_); rintro _ w9 ⟨rfl, hb9⟩; dsimp only)) | (with_reducible refine Keep.last ?_) | (with_reducible refine Keep.below (by assumption) ?_) | (with_reducible refine Keep.kept (by assumption) ?_) | (with_reducible refine Keep.alloc ?_) | (with_reducible refine Keep.same ?_) | ((with_reducible refine WpH.here ?_); first | (refine WpH.nil ?_; refine NoP.normal ?_) | (refine WpH.load (by rfl) (by rfl) (by go_simp; rfl) ?_; simp only [Act.put, List.setIfInBounds_toArray, List.set_cons_zero, List.set_cons_succ]) | (refine WpH.loadT (by rfl) (by rfl) (by go_simp; rfl) (by rintro _ _ ⟨⟩; exact ⟨_, _, _, _, _, _, by rfl, by assumption, by assumption⟩) ?_; simp only [Act.put, List.setIfInBounds_toArray, List.set_cons_zero, List.set_cons_succ]) | (refine WpH.pure (by rfl) (fun w_ => by go_simp; (try go_bits); rfl) ?_; simp only [Act.put, List.setIfInBounds_toArray, List.set_cons_zero, List.set_cons_succ]) | (refine WpH.wild1 (by rfl) (fun _ _ => ?_)) | (refine WpH.skip (by rfl) ?_; simp only [Act.put, List.setIfInBounds_toArray, List.set_cons_zero, List.set_cons_succ])) | go_values | go_skip | go_guarded | go_step | go_upon | go_back)
      skip
      go_ret
      exact ⟨rfl, bvia (bvia hb6 hb7) hb9⟩
theorem mapart_true (w : World) (A : Option Addr) (n c : Nat) (ls : List El) (S S' : Nat → Prop) (d i q ep rp nu ch hd : Int) (hr : Row w S A n c ls) (hin : ∀ e ∈ ls, e.In) (hs : Sents w S' a) :
    Calls Tryd.prog 7 #[.slice A n c, .agg #[.int .i64 d, .int .i64 i, .int .i64 q, .int .i64 ep, .int .i64 rp, .int .i64 nu, .int .i32 ch, .int .i64 hd]] w fun e w' => e = .returned (.bool true) ∧ Below w.heap.size w w' := by
  rcases allRight_or (ls.take (min n 100)) with hg | ⟨j, ej, hj, hg, hw⟩
  · rcases Int.emod_two_eq d with hd2 | hd2
    · exact mapart_ins w A n c ls S S' d i q ep rp nu ch hd hd2 hr hg hin hs
    · by_cases h0 : (ls.take (min n 100)).length = 0
      · exact mapart_add0 w A n c ls S S' d i q ep rp nu ch hd hd2 hr hg hin hs (List.length_eq_zero_iff.1 h0)
      · exact mapart_add1 w A n c ls S S' d i q ep rp nu ch hd hd2 hr hg hin hs (by omega)
  · exact mapart_no w A n c j ls ej S S' d i q ep rp nu ch hd hr hg hj hw hin hs
end Go.Proofs.YtfihjajllfihjaaDoor
