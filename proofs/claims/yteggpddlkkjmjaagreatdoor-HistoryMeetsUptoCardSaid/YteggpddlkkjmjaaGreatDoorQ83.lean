/- Part of a proof: what functions of the program compute. Conditions: as each theorem says. -/
import Derived.Maps.RangeWalk
import Derived.Test.YteggpddlkkjmjaaGreatDoorQ22
import Derived.Test.YteggpddlkkjmjaaGreatDoorQ42
import Derived.Test.YteggpddlkkjmjaaGreatDoorQ72
import Derived.Test.YteggpddlkkjmjaaGreatDoorQ75
import Derived.Test.YteggpddlkkjmjaaGreatDoorQ77
set_option linter.unusedSimpArgs false
set_option linter.unusedVariables false
set_option maxHeartbeats 16000000
set_option maxRecDepth 200000
namespace Go.Proofs.YteggpddlkkjmjaaGreatDoor
open Go Go.RowKit
variable {a : Nat → Addr}
theorem hmeets_true (w : World) (k : Int) (A B : Option Addr) (n c m d : Nat) (l : List Int) (vs : List Mv8) (S S1 S' : Nat → Prop) (hl : GRow w S A n c (l.map Rn8.mk)) (hli : ∀ e ∈ l, I32 e) (hv : GRow w S1 B m d vs) (hvi : ∀ v ∈ vs, v.In) (hs : Sents w S' a) (hlow : ∀ b, S' b → b < w.heap.size) :
 Calls Tryz.prog 5 #[.agg #[.int .i64 k, .slice A n c, .slice B m d]] w fun e w' => e = .returned (.bool true) ∧ Below w.heap.size w w' := by
 have hb0 := balloc (o := .cells #[.int .i64 k, .slice A n c, .slice B m d] 25) (Below.refl w.heap.size w)
 have hX := Blk.new w 25 #[.int .i64 k, .slice A n c, .slice B m d]
 have HPL := hid (fun W (hb : Below w.heap.size w W) => played_any (a := a) W k A B n c m d l vs S S1 S' (hl.step hb) hli (hv.step hb) hvi (hs.step hb) fun b h => Nat.lt_of_lt_of_le (hlow b h) hb.size)
 have hn8 := sitesN_pos k
 have hgd := playedOf_gd (n := sitesN k) (by omega) l vs hvi
 obtain ⟨G, hG, hGl⟩ := playedOf_sess (n := sitesN k) (by omega) l vs hvi
 have hlen := playedOf_length (sitesN k) l vs
 obtain ⟨nn, hnn⟩ : ∃ nn, nn = sitesN k := ⟨_, rfl⟩
 rw [← hnn] at HPL hgd hn8 hlen hG
 have hnq : nn * (nn * 40) ≤ 640 := by
  have : nn * (nn * 40) ≤ 4 * 160 := Nat.mul_le_mul hn8.2 (by omega)
  omega
 have Hgd := hid hgd
 have HG := hid hG
 have Hs := hid hs
 have Hlow := hid hlow
 clear hl hli hv hvi hs hlow hgd hnn hG
 go_enter Tryz.func5, Tryz.ntmps5
 repeat' (first | (with_reducible refine stop_region 1 ?_) | go_step)
 refine Stop.go ?_
 have HPL := hid (HPL.out _ hb0)
 generalize w.alloc (.cells #[.int .i64 k, .slice A n c, .slice B m d] 25) = X at *
 have p0 : X.cell? ⟨w.heap.size, 0, none⟩ = some (.int .i64 k) := hX.cell 0
 have p1 : X.cell? ⟨w.heap.size, 1, none⟩ = some (.slice A n c) := hX.cell 1
 have p2 : X.cell? ⟨w.heap.size, 2, none⟩ = some (.slice B m d) := hX.cell 2
 have pl := hX.lt
 clear hX
 generalize playedOf nn l vs = ss0 at *
 repeat' (first | (go_at_call 13; go_must ((with_reducible refine Calls.mono HPL.out ?_); rintro _ w1 ⟨A1, c1, base, rfl, hP, hbase, hb1⟩; have HP := hid hP; clear hP; dsimp only)) | (with_reducible refine stop_region 2 ?_) | go_step)
 refine Stop.go ?_
 clear p0 p1 p2 pl HPL
 have B1 := bvia hb0 hb1
 have hbX := hid (show w.heap.size ≤ base by have := hb0.size; omega)
 have HAL := hid (sites_all (a := a) w1 base A1 nn c1 60 40 ss0 S' HP.out Hgd.out (by omega) (by omega) (by omega) (Hs.out.step B1) fun b hb => Nat.lt_of_lt_of_le (Hlow.out b hb) hbX.out)
 obtain ⟨b0, off0, sbx, S0, rfl, -⟩ := HP.out.at_ (k := 0) (List.getElem?_eq_getElem (show 0 < ss0.length by omega))
 have hnl := Lib.run_eql_slice_nil w1 26 _ (some ⟨b0, off0, none⟩) nn c1 0 0 Tryz.underlying26
 have hlen2 : (allOf nn ss0).length = nn := by unfold allOf; rw [allRounds_length]; exact hlen
 have hall := allRounds_inv nn (List.range nn) ss0 40 HG.out Hgd.out (by rw [List.length_range]; omega)
 have Hgd2 := hid hall.2
 have Hmt := hid (fun (k j : Nat) (s t : Lg) (hs : (allOf nn ss0)[k]? = some s) (ht : (allOf nn ss0)[j]? = some t) => allOf_meets HG.out Hgd.out (by omega) hGl hlen hs ht)
 rw [List.length_range] at Hgd2
 have Hgd2 : Hid (AllGd (allOf nn ss0) (40 + nn * (nn * 40))) := Hgd2
 clear hall
 generalize allOf nn ss0 = ss at *
 repeat' (first | (go_at_call 14; go_must ((with_reducible refine Calls.mono HAL.out ?_); rintro _ w2 ⟨rfl, hP2, hb2⟩; have HP2 := hid hP2; clear hP2; dsimp only)) | (with_reducible refine stop_region 4 ?_) | go_guarded | go_step)
 refine Stop.go ?_
 clear hnl HAL
 have B2 : Below w.heap.size w w2 := B1.trans (hb2.mono hbX.out)
 obtain ⟨s0, hs0⟩ : ∃ s, ss[0]? = some s := ⟨_, List.getElem?_eq_getElem (by omega)⟩
 have hgs0 := hid (Hgd2.out s0 (List.mem_of_getElem? hs0))
 obtain ⟨b9, off9, sb0, T0, hA2, k0, hb2l0, hS0, -⟩ := HP2.out.at_ hs0
 cases hA2
 rw [Nat.add_zero] at k0
 obtain ⟨gb0, rb0, Sa0, Sb0, hsb0, hg0, hr0, -⟩ := hS0
 have Hs0 := hid hs0
 have hl0 : s0.l.length ≤ 1048576 := by have := hgs0.out.snd.l; omega
 have sc0 : w2.cell? ⟨sb0, 0, none⟩ = some (.pointer (some ⟨gb0, 0, none⟩)) := hsb0.cell 0
 have sl0 := hsb0.lt
 have HMD := hid (hmodel_any w2 _ gb0 _ s0 hg0)
 have Hg0 := hid hg0
 have Hsb0 := hid hsb0
 have K0 := hid k0
 clear hs0 hsb0 hg0 hr0
 repeat' (first | (go_at_call 20; go_must ((with_reducible refine Calls.mono HMD.out ?_); rintro _ _ ⟨⟨mb, rfl, hm⟩, rfl⟩; have HEL := hid (melements_any w2 _ mb s0.l _ hm (by omega)); clear hm; dsimp only)) | (go_at_call 21; go_must ((with_reducible refine Calls.mono HEL.out ?_); rintro _ w4 ⟨A4, c4, rfl, ho4, hb4⟩; have Ho4 := hid ho4; clear ho4; dsimp only)) | (with_reducible refine stop_region 5 ?_) | go_step)
 refine Stop.go ?_
 clear sc0 sl0 k0
 have B4 := bvia B2 hb4
 have Hb4 := hid hb4
 repeat' (first | go_step)
 go_loopw [5] (fun i wr => ∃ (j : Nat), i = .int .i64 j ∧ 1 ≤ j ∧ j ≤ nn ∧ Below w4.heap.size w4 wr) (fun i _ => nn - (intOf i).toNat)
 case atStart => exact ⟨1, rfl, Nat.le_refl _, by omega, Below.refl _ _⟩
 case round =>
  obtain ⟨j, rfl, hj1, hj, hbw⟩ := hrel
  have Bwr := bvia B4 hbw
  by_cases hlt : j < nn
  · have hjn : (j : Int) < (nn : Int) := by omega
    have h0n : 0 < nn := by omega
    obtain ⟨s, hsj⟩ : ∃ s, ss[j]? = some s := ⟨_, List.getElem?_eq_getElem (by omega)⟩
    obtain ⟨hclk, hlq⟩ := Hmt.out _ _ _ _ hsj Hs0.out
    have h2r := bvia Hb4.out hbw
    obtain ⟨b9, off9, sb, T, hA2, kj, -, hS, -⟩ := (HP2.out.step h2r).at_ hsj
    cases hA2
    obtain ⟨gb, rb, Sa, Sb, hsb, hg, hr, -⟩ := hS
    have hg0 := Hg0.out.step h2r
    have HCL := hid (fun W (hb : Below wr.heap.size wr W) => hclock_any W _ gb _ s (hg.step hb))
    have HC0 := hid (fun W (hb : Below wr.heap.size wr W) => hclock_any W _ gb0 _ s0 (hg0.step hb))
    have HMD := hid (fun W (hb : Below wr.heap.size wr W) => hmodel_any W _ gb _ s (hg.step hb))
    have HQ := hid (fun W A1 c1 b (hb : Below w4.heap.size w4 W) (ho : Own W b A1 s0.l.length c1 s0.l) => els_eq A1 s0.l.length c1 A4 c4 s0.l (fun _ => True) (fun _ => True) W (ho.row fun _ _ _ => trivial) ((Ho4.out.row fun _ _ _ => trivial).step hb))
    rw [hclk] at HCL
    rw [hlq] at HMD
    simp only [Clk.agg] at HCL HC0
    unfold Clk.vals at HCL HC0
    have K0 := hid (kc h2r K0.out)
    have Hsb0 := hid (Hsb0.out.step h2r)
    have KJ := hid kj
    have Hsb := hid hsb
    have hb2l0 := Nat.lt_of_lt_of_le hb2l0 h2r.size
    have D0 : Below wr.heap.size wr wr.drew := bdrew (Below.refl _ _)
    clear hsj hclk hlq hsb hg hr hg0 kj h2r
    have k0 : wr.drew.cell? ⟨b0, off0, none⟩ = some (.pointer (some ⟨sb0, 0, none⟩)) := kc D0 K0.out; have kj : wr.drew.cell? ⟨b0, off0 + j, none⟩ = some (.pointer (some ⟨sb, 0, none⟩)) := kc D0 KJ.out; have k0l := Nat.lt_of_lt_of_le hb2l0 (D0).size; have sq := Hsb.out.step D0; have sc : wr.drew.cell? ⟨sb, 0, none⟩ = some (.pointer (some ⟨gb, 0, none⟩)) := sq.cell 0; have sl := sq.lt; clear sq; have sq := Hsb0.out.step D0; have sc0 : wr.drew.cell? ⟨sb0, 0, none⟩ = some (.pointer (some ⟨gb0, 0, none⟩)) := sq.cell 0; have sl0 := sq.lt; clear sq
    repeat' (first | (with_reducible refine stop_region 8 ?_) | go_step)
    refine Stop.go ?_
    repeat' (first | ((with_reducible refine region_at 8 ?_); refine wp_region_ordT (fun _ => True) (rgo [0,4,8,12,16,20,24,32,36,40,44,48,52,29,57,60,64,68,72,76,80,84,88,92,104,97,101,109,112,116] .nil) (by kernel_rfl) (by kernel_rfl) (by kernel_rfl) rfl rfl ?_) | (go_at_call 23; go_must (first | (guard_hyp hb5; (with_reducible refine Calls.mono (HC0.out _ D5) ?_); rintro _ w6 ⟨rfl, hb6⟩; have hk6 := KeepT.of_below (T := fun _ => True) hb6; have D6 := bvia D5 hb6; have k0 : w6.cell? ⟨b0, off0, none⟩ = some (.pointer (some ⟨sb0, 0, none⟩)) := kc D6 K0.out; have kj : w6.cell? ⟨b0, off0 + j, none⟩ = some (.pointer (some ⟨sb, 0, none⟩)) := kc D6 KJ.out; have k0l := Nat.lt_of_lt_of_le hb2l0 (D6).size; have sq := Hsb.out.step D6; have sc : w6.cell? ⟨sb, 0, none⟩ = some (.pointer (some ⟨gb, 0, none⟩)) := sq.cell 0; have sl := sq.lt; clear sq; have sq := Hsb0.out.step D6; have sc0 : w6.cell? ⟨sb0, 0, none⟩ = some (.pointer (some ⟨gb0, 0, none⟩)) := sq.cell 0; have sl0 := sq.lt; clear sq; dsimp only) | ((with_reducible refine Calls.mono (HCL.out _ D0) ?_); rintro _ w5 ⟨rfl, hb5⟩; have hk5 := KeepT.of_below (T := fun _ => True) hb5; have D5 := bvia D0 hb5; have k0 : w5.cell? ⟨b0, off0, none⟩ = some (.pointer (some ⟨sb0, 0, none⟩)) := kc D5 K0.out; have kj : w5.cell? ⟨b0, off0 + j, none⟩ = some (.pointer (some ⟨sb, 0, none⟩)) := kc D5 KJ.out; have k0l := Nat.lt_of_lt_of_le hb2l0 (D5).size; have sq := Hsb.out.step D5; have sc : w5.cell? ⟨sb, 0, none⟩ = some (.pointer (some ⟨gb, 0, none⟩)) := sq.cell 0; have sl := sq.lt; clear sq; have sq := Hsb0.out.step D5; have sc0 : w5.cell? ⟨sb0, 0, none⟩ = some (.pointer (some ⟨gb0, 0, none⟩)) := sq.cell 0; have sl0 := sq.lt; clear sq; dsimp only))) | (go_at_call 20; go_must ((with_reducible refine Calls.mono (HMD.out _ D6) ?_); rintro _ _ ⟨⟨mb, rfl, hm⟩, rfl⟩; have HEL := hid (melements_any w6 _ mb s0.l _ hm (by omega)); clear hm; dsimp only)) | (go_at_call 21; go_must ((with_reducible refine Calls.mono HEL.out ?_); rintro _ w7 ⟨A7, c7, rfl, ho7, hb7⟩; have hk7 := KeepT.of_below (T := fun _ => True) hb7; have D7 := bvia D6 hb7; have HQ2 := hid (HQ.out w7 _ _ _ (bvia hbw D7) ho7); clear ho7; dsimp only)) | (go_at_call 24; go_must ((with_reducible refine Calls.mono HQ2.out ?_); rintro _ w8 ⟨rfl, hb8⟩; have hk8 := KeepT.of_below (T := fun _ => True) hb8; dsimp only)) | (with_reducible first | refine Keep.same ?_ | refine Keep.below (by assumption) ?_) | ((with_reducible refine WpO.here ?_); first | (refine WpO.done ?_; refine NoP.normal ?_) | ((first | refine WpO.load (by rfl) (by rfl) (by go_simp; rfl) ?_ | refine WpO.pure (by rfl) (fun w_ => by go_simp; (try go_bits); rfl) ?_); go_frame) | refine WpO.wild ?_) | ((with_reducible refine wildO.here ?_); (refine wildO.go (by rfl) (fun _ _ => ?_))) | go_step)
    go_roundw
    case rel => exact ⟨j + 1, by go_num, by omega, by omega, bvia hbw (bvia D7 hb8)⟩
    case measure => simp [intOf]; omega
  · obtain rfl : j = nn := by omega
    repeat' (first | (go_at_call 18; go_must ((with_reducible refine Calls.mono (wakes8_any (a := a) wr S' (Hs.out.step Bwr) (fun b hb => Nat.lt_of_lt_of_le (Hlow.out b hb) (Bwr).size)) ?_); rintro _ w9 ⟨rfl, hb9⟩; dsimp only)) | go_step)
    go_ret
    exact ⟨rfl, bvia Bwr hb9⟩
end Go.Proofs.YteggpddlkkjmjaaGreatDoor
