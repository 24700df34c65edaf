/- Part of a proof: what functions of the program compute. Conditions: as each theorem says. -/
import Derived.Maps.RangeWalk
import Derived.Test.YteggpddlkkjmjaaGreatDoorQ42
import Derived.Test.YteggpddlkkjmjaaGreatDoorQ44
import Derived.Test.YteggpddlkkjmjaaGreatDoorQ52
import Derived.Test.YteggpddlkkjmjaaGreatDoorQ65
import Derived.Test.YteggpddlkkjmjaaGreatDoorQ67
set_option linter.unusedSimpArgs false
set_option linter.unusedVariables false
set_option maxHeartbeats 16000000
set_option maxRecDepth 200000
namespace Go.Proofs.YteggpddlkkjmjaaGreatDoor
open Go Go.RowKit
variable {a : Nat → Addr}
theorem hctx_any (w : World) (gb K : Nat) (S : Nat → Prop) (s : Lg) (q : Clk) (h : LogAt w S gb s K) (hb : s.base.length ≤ 1048576) (ha : s.acts.length ≤ 1048576) : Calls Tryz.prog 41 #[.pointer (some ⟨gb, 0, none⟩), q.agg] w fun e w' => e = .returned (.int .i64 (s.ctx q)) ∧ Below w.heap.size w w' := by
 obtain ⟨bm, mb, A, c, B, d, SM, h, -⟩ := h
 exact context_any w gb bm mb c d K A B SM s q h hb ha
theorem rctx_any (w : World) (rb : Nat) (S : Nat → Prop) (s : Lg) (q : Clk) (h : RLogAt w S rb s) (hb : s.base.length ≤ 1048576) (ha : s.acts.length ≤ 1048576) : Calls Tryz.prog 42 #[.pointer (some ⟨rb, 0, none⟩), q.agg] w fun e w' => e = .returned (.int .i64 (s.ctx q)) ∧ Below w.heap.size w w' := by
 obtain ⟨E, ce, A, c, B, d, L, cl, SR, h, -⟩ := h
 exact rcontext_any w rb ce c d cl E A B L SR s q h hb ha
theorem hsplits_true (w : World) (k : Int) (A B : Option Addr) (n c m d : Nat) (l : List Int) (vs : List Mv8) (q : Clk) (S S1 S' : Nat → Prop) (hl : GRow w S A n c (l.map Rn8.mk)) (hli : ∀ e ∈ l, I32 e) (hv : GRow w S1 B m d vs) (hvi : ∀ v ∈ vs, v.In) (hs : Sents w S' a) (hlow : ∀ b, S' b → b < w.heap.size) :
 Calls Tryz.prog 10 #[.agg #[.int .i64 k, .slice A n c, .slice B m d], q.agg] w fun e w' => e = .returned (.bool true) ∧ Below w.heap.size w w' := by
 obtain ⟨hX, hQ, hb0⟩ := twoBoxes w 25 44 #[.int .i64 k, .slice A n c, .slice B m d] #[.int .i64 q.c0, .int .i64 q.c1, .int .i64 q.c2, .int .i64 q.c3, .int .i64 q.c4, .int .i64 q.c5, .int .i64 q.c6, .int .i64 q.c7]
 have HPL := hid (fun W (hb : Below w.heap.size w W) => played_any (a := a) W k A B n c m d l vs S S1 S' (hl.step hb) hli (hv.step hb) hvi (hs.step hb) fun b h => Nat.lt_of_lt_of_le (hlow b h) hb.size)
 have hgd := playedOf_gd (n := sitesN k) (by have := sitesN_pos k; omega) l vs hvi
 have hn8 := sitesN_pos k
 have hlen := playedOf_length (sitesN k) l vs
 obtain ⟨nn, hnn⟩ : ∃ nn, nn = sitesN k := ⟨_, rfl⟩
 rw [← hnn] at HPL hgd hn8 hlen
 have Hgd := hid hgd
 have Hs := hid hs
 have Hlow := hid hlow
 clear hl hli hv hvi hs hlow hgd hnn
 unfold Clk.agg Clk.vals
 go_enter Tryz.func10, Tryz.ntmps10
 repeat' (first | (with_reducible refine stop_region 1 ?_) | go_step)
 refine Stop.go ?_
 have HPL := hid (HPL.out _ hb0)
 generalize (w.alloc (.cells #[.int .i64 k, .slice A n c, .slice B m d] 25)).alloc (.cells #[.int .i64 q.c0, .int .i64 q.c1, .int .i64 q.c2, .int .i64 q.c3, .int .i64 q.c4, .int .i64 q.c5, .int .i64 q.c6, .int .i64 q.c7] 44) = X at *
 have p0 : X.cell? ⟨w.heap.size, 0, none⟩ = some (.int .i64 k) := hX.cell 0
 have p1 : X.cell? ⟨w.heap.size, 1, none⟩ = some (.slice A n c) := hX.cell 1
 have p2 : X.cell? ⟨w.heap.size, 2, none⟩ = some (.slice B m d) := hX.cell 2
 have pl := hX.lt
 have HQ0 := hid hQ
 clear hX hQ
 generalize playedOf nn l vs = ss at *
 repeat' (first | (go_at_call 13; go_must ((with_reducible refine Calls.mono HPL.out ?_); rintro _ w1 ⟨A1, c1, base, rfl, hP, hbase, hb1⟩; have HP := hid hP; clear hP; dsimp only)) | (with_reducible refine stop_region 2 ?_) | go_step)
 refine Stop.go ?_
 clear p0 p1 p2 pl HPL
 have B1 := bvia hb0 hb1
 have HQ1 := hid (HQ0.out.step hb1)
 obtain ⟨b0, off0, sb0, S0, rfl, -⟩ := HP.out.at_ (k := 0) (List.getElem?_eq_getElem (show 0 < ss.length by omega))
 have hnl := Lib.run_eql_slice_nil w1 26 _ (some ⟨b0, off0, none⟩) nn c1 0 0 Tryz.underlying26
 repeat' (first | go_step)
 go_loopw [6] (fun i wr => ∃ (j : Nat), i = .int .i64 j ∧ j ≤ nn ∧ Below w1.heap.size w1 wr) (fun i _ => nn - (intOf i).toNat)
 case atStart => exact ⟨0, rfl, Nat.zero_le _, Below.refl _ _⟩
 case round =>
  clear hnl
  obtain ⟨j, rfl, hj, hbw⟩ := hrel
  have Bwr := bvia B1 hbw
  by_cases hlt : j < nn
  · have hjn : (j : Int) < (nn : Int) := by omega
    obtain ⟨s, hsj⟩ : ∃ s, ss[j]? = some s := ⟨_, List.getElem?_eq_getElem (by omega)⟩
    have hgs := hid (Hgd.out s (List.mem_of_getElem? hsj))
    obtain ⟨b2, off2, sb, T, hA2, k0, hb2l0, hS, -⟩ := (HP.out.step hbw).at_ hsj
    cases hA2
    obtain ⟨gb, rb, Sa, Sb, hsb, hg, hr, -⟩ := hS
    have HQ := hid (HQ1.out.step hbw)
    have Hsb := hid hsb
    have hal : s.acts.length ≤ 40 := hgs.out.snd.acts
    have hbl := hgs.out.snd.base
    have HSP := hid (fun W (hb : Below wr.heap.size wr W) => hsplit_any W gb _ _ s q (hg.step hb) (by omega))
    have HRS := hid (fun W (hb : Below wr.heap.size wr W) => rsplit_any W rb _ s q (hr.step hb) (by omega))
    have HCX := hid (fun W (hb : Below wr.heap.size wr W) => hctx_any W gb _ _ s q (hg.step hb) (by omega) (by omega))
    have HRX := hid (fun W (hb : Below wr.heap.size wr W) => rctx_any W rb _ s q (hr.step hb) (by omega) (by omega))
    have HC2 := hid (fun W (hb : Below wr.heap.size wr W) => hctx_any W gb _ _ s s.clk (hg.step hb) (by omega) (by omega))
    rw [hgs.out.ctx] at HC2
    have HLN := hid (fun W (hb : Below wr.heap.size wr W) => hlen_any W _ gb _ s (hg.step hb))
    have HCL := hid (fun W (hb : Below wr.heap.size wr W) => hclock_any W _ gb _ s (hg.step hb))
    have HMD := hid (fun W (hb : Below wr.heap.size wr W) => hmodel_any W _ gb _ s (hg.step hb))
    have hpl := parts_length s.acts q
    have Hpl := hid hpl
    simp only [Clk.agg] at HSP HRS HCX HRX HC2 HCL
    unfold Clk.vals at HSP HRS HCX HRX HC2 HCL
    have K0 := hid k0
    have D0 : Below wr.heap.size wr wr.drew := bdrew (Below.refl _ _)
    clear hsj hsb hg hr k0 hpl
    have k0 : wr.drew.cell? ⟨b0, off0 + j, none⟩ = some (.pointer (some ⟨sb, 0, none⟩)) := kc D0 K0.out; have k0l := Nat.lt_of_lt_of_le hb2l0 (D0).size; have sq := Hsb.out.step D0; have s0 : wr.drew.cell? ⟨sb, 0, none⟩ = some (.pointer (some ⟨gb, 0, none⟩)) := sq.cell 0; have s1 : wr.drew.cell? ⟨sb, 1, none⟩ = some (.pointer (some ⟨rb, 0, none⟩)) := sq.cell 1; have sl := sq.lt; clear sq; have qq := HQ.out.step D0; obtain ⟨q0, q1, q2, q3, q4, q5, q6, q7⟩ := cl8 (w := wr.drew) (g := (w.heap.size + 1)) qq; have ql := qq.lt; clear qq
    repeat' (first | (with_reducible refine stop_region 7 ?_) | go_step)
    refine Stop.go ?_
    repeat' (first | ((with_reducible refine region_at 7 ?_); refine wp_region_ordT (fun _ => True) (rgo [0,4,8,12,16,20,24,28,33,36,40,44,48,52] .nil) (by kernel_rfl) (by kernel_rfl) (by kernel_rfl) rfl rfl ?_) | (go_at_call 38; go_must ((with_reducible refine Calls.mono (HSP.out _ D0) ?_); rintro _ w3 ⟨A3, n1, c3, A4, n2, c4, rfl, ho3, ho4, hb3⟩; have hk3 := KeepT.of_below (T := fun _ => True) hb3; have D3 := bvia D0 hb3; have Ho3 := hid (ho3.row (S := fun _ => True) fun _ _ _ => trivial); have Ho4 := hid (ho4.row (S := fun _ => True) fun _ _ _ => trivial); clear ho3 ho4; dsimp only)) | (with_reducible refine stop_region 8 ?_) | (with_reducible refine Keep.below (by assumption) ?_) | ((with_reducible refine WpO.here ?_); first | (refine WpO.done ?_; refine NoP.normal ?_) | ((first | refine WpO.load (by rfl) (by rfl) (by go_simp; rfl) ?_ | refine WpO.pure (by rfl) (fun w_ => by go_simp; (try go_bits); rfl) ?_); go_frame) | refine WpO.wild ?_) | ((with_reducible refine wildO.here ?_); (refine wildO.go (by rfl) (fun _ _ => ?_))) | go_step)
    refine Stop.go ?_
    have hsum : (n1 : Int) + (n2 : Int) = (s.acts.length : Int) := by have h1 := Ho3.out.1; have h2 := Ho4.out.1; have h3 := Hpl.out; omega
    clear k0 k0l s0 s1 sl q0 q1 q2 q3 q4 q5 q6 q7 ql
    clear hk3
    have D3d := bdrew D3
    have k0 : w3.drew.cell? ⟨b0, off0 + j, none⟩ = some (.pointer (some ⟨sb, 0, none⟩)) := kc D3d K0.out; have k0l := Nat.lt_of_lt_of_le hb2l0 (D3d).size; have sq := Hsb.out.step D3d; have s0 : w3.drew.cell? ⟨sb, 0, none⟩ = some (.pointer (some ⟨gb, 0, none⟩)) := sq.cell 0; have s1 : w3.drew.cell? ⟨sb, 1, none⟩ = some (.pointer (some ⟨rb, 0, none⟩)) := sq.cell 1; have sl := sq.lt; clear sq; have qq := HQ.out.step D3d; obtain ⟨q0, q1, q2, q3, q4, q5, q6, q7⟩ := cl8 (w := w3.drew) (g := (w.heap.size + 1)) qq; have ql := qq.lt; clear qq
    repeat' (first | ((with_reducible refine region_at 8 ?_); refine wp_region_ordT (fun _ => True) (rgo [0,4,8,12,16,20,24,28,33,36,40,44,48,52] .nil) (by kernel_rfl) (by kernel_rfl) (by kernel_rfl) rfl rfl ?_) | (go_at_call 39; go_must ((with_reducible refine Calls.mono (HRS.out _ D3d) ?_); rintro _ w4 ⟨A5, n3, c5, A6, n4, c6, rfl, ho5, ho6, hb4⟩; have hk4 := KeepT.of_below (T := fun _ => True) hb4; have D4 := bvia D3d hb4; obtain rfl : n1 = n3 := Ho3.out.1.symm.trans ho5.1; obtain rfl : n2 = n4 := Ho4.out.1.symm.trans ho6.1; have HI1 := hid (fun W (hb : Below w4.heap.size w4 W) => ints_eq A3 n1 c3 A5 c5 (pastI s.acts q) _ _ W ((Ho3.out.drew.step hb4).step hb) ((ho5.row (S := fun _ => True) fun _ _ _ => trivial).step hb)); have HI2 := hid (fun W (hb : Below w4.heap.size w4 W) => ints_eq A4 n2 c4 A6 c6 (besI s.acts q) _ _ W ((Ho4.out.drew.step hb4).step hb) ((ho6.row (S := fun _ => True) fun _ _ _ => trivial).step hb)); clear ho5 ho6; dsimp only)) | (with_reducible refine stop_region 9 ?_) | (with_reducible refine Keep.below (by assumption) ?_) | ((with_reducible refine WpO.here ?_); first | (refine WpO.done ?_; refine NoP.normal ?_) | ((first | refine WpO.load (by rfl) (by rfl) (by go_simp; rfl) ?_ | refine WpO.pure (by rfl) (fun w_ => by go_simp; (try go_bits); rfl) ?_); go_frame) | refine WpO.wild ?_) | ((with_reducible refine wildO.here ?_); (refine wildO.go (by rfl) (fun _ _ => ?_))) | go_step)
    refine Stop.go ?_
    clear k0 k0l s0 s1 sl q0 q1 q2 q3 q4 q5 q6 q7 ql
    clear hk4
    have D4d := bdrew D4
    have E4 : Below w4.heap.size w4 w4.drew := bdrew (Below.refl _ _)
    have k0 : w4.drew.cell? ⟨b0, off0 + j, none⟩ = some (.pointer (some ⟨sb, 0, none⟩)) := kc D4d K0.out; have k0l := Nat.lt_of_lt_of_le hb2l0 (D4d).size; have sq := Hsb.out.step D4d; have s0 : w4.drew.cell? ⟨sb, 0, none⟩ = some (.pointer (some ⟨gb, 0, none⟩)) := sq.cell 0; have s1 : w4.drew.cell? ⟨sb, 1, none⟩ = some (.pointer (some ⟨rb, 0, none⟩)) := sq.cell 1; have sl := sq.lt; clear sq; have qq := HQ.out.step D4d; obtain ⟨q0, q1, q2, q3, q4, q5, q6, q7⟩ := cl8 (w := w4.drew) (g := (w.heap.size + 1)) qq; have ql := qq.lt; clear qq
    repeat' (first | ((with_reducible refine region_at 9 ?_); refine wp_region_ordT (fun _ => True) (rgo [0,4,9,12,16,20,24,29,32,36,40,44,48,52,56,60,64,68,72,80,84,88,92,96,100,104,108,77,113,116,120] .nil) (by kernel_rfl) (by kernel_rfl) (by kernel_rfl) rfl rfl ?_) | (go_at_call 40; go_must (first | (guard_hyp hb5; (with_reducible refine Calls.mono (HI2.out w5 (bvia E4 hb5)) ?_); rintro _ w6 ⟨rfl, hb6⟩; have hk6 := KeepT.of_below (T := fun _ => True) hb6; have D6 := bvia (bvia D4d hb5) hb6; have k0 : w6.cell? ⟨b0, off0 + j, none⟩ = some (.pointer (some ⟨sb, 0, none⟩)) := kc D6 K0.out; have k0l := Nat.lt_of_lt_of_le hb2l0 (D6).size; have sq := Hsb.out.step D6; have s0 : w6.cell? ⟨sb, 0, none⟩ = some (.pointer (some ⟨gb, 0, none⟩)) := sq.cell 0; have s1 : w6.cell? ⟨sb, 1, none⟩ = some (.pointer (some ⟨rb, 0, none⟩)) := sq.cell 1; have sl := sq.lt; clear sq; have qq := HQ.out.step D6; obtain ⟨q0, q1, q2, q3, q4, q5, q6, q7⟩ := cl8 (w := w6) (g := (w.heap.size + 1)) qq; have ql := qq.lt; clear qq; dsimp only) | ((with_reducible refine Calls.mono (HI1.out _ E4) ?_); rintro _ w5 ⟨rfl, hb5⟩; have hk5 := KeepT.of_below (T := fun _ => True) hb5; dsimp only))) | (go_at_call 41; go_must ((with_reducible refine Calls.mono (HCX.out _ D6) ?_); rintro _ w7 ⟨rfl, hb7⟩; have hk7 := KeepT.of_below (T := fun _ => True) hb7; have D7 := bvia D6 hb7; have k0 : w7.cell? ⟨b0, off0 + j, none⟩ = some (.pointer (some ⟨sb, 0, none⟩)) := kc D7 K0.out; have k0l := Nat.lt_of_lt_of_le hb2l0 (D7).size; have sq := Hsb.out.step D7; have s0 : w7.cell? ⟨sb, 0, none⟩ = some (.pointer (some ⟨gb, 0, none⟩)) := sq.cell 0; have s1 : w7.cell? ⟨sb, 1, none⟩ = some (.pointer (some ⟨rb, 0, none⟩)) := sq.cell 1; have sl := sq.lt; clear sq; have qq := HQ.out.step D7; obtain ⟨q0, q1, q2, q3, q4, q5, q6, q7⟩ := cl8 (w := w7) (g := (w.heap.size + 1)) qq; have ql := qq.lt; clear qq; dsimp only)) | (go_at_call 42; go_must ((with_reducible refine Calls.mono (HRX.out _ D7) ?_); rintro _ w8 ⟨rfl, hb8⟩; have hk8 := KeepT.of_below (T := fun _ => True) hb8; have D8 := bvia D7 hb8; dsimp only)) | (with_reducible refine stop_region 11 ?_) | (with_reducible refine Keep.below (by assumption) ?_) | ((with_reducible refine WpO.here ?_); first | (refine WpO.done ?_; refine NoP.normal ?_) | ((first | refine WpO.load (by rfl) (by rfl) (by go_simp; rfl) ?_ | refine WpO.pure (by rfl) (fun w_ => by go_simp; (try go_bits); rfl) ?_); go_frame) | refine WpO.wild ?_) | ((with_reducible refine wildO.here ?_); (refine wildO.go (by rfl) (fun _ _ => ?_))) | go_step)
    refine Stop.go ?_
    clear hk5 hk6 hk7 hk8
    have D8d := bdrew D8
    have k0 : w8.drew.cell? ⟨b0, off0 + j, none⟩ = some (.pointer (some ⟨sb, 0, none⟩)) := kc D8d K0.out; have k0l := Nat.lt_of_lt_of_le hb2l0 (D8d).size; have sq := Hsb.out.step D8d; have s0 : w8.drew.cell? ⟨sb, 0, none⟩ = some (.pointer (some ⟨gb, 0, none⟩)) := sq.cell 0; have s1 : w8.drew.cell? ⟨sb, 1, none⟩ = some (.pointer (some ⟨rb, 0, none⟩)) := sq.cell 1; have sl := sq.lt; clear sq; have qq := HQ.out.step D8d; obtain ⟨q0, q1, q2, q3, q4, q5, q6, q7⟩ := cl8 (w := w8.drew) (g := (w.heap.size + 1)) qq; have ql := qq.lt; clear qq
    repeat' (first | ((with_reducible refine region_at 11 ?_); refine wp_region_ordT (fun _ => True) (rgo [0,4,8,12,16,20,24,28,32,36,40,44,49,52,56,60,64,68,72,76,80,84,88,92,96,100,104,108,112,124,128,132,136,140,144,148,117,121,153,157,160,164] .nil) (by kernel_rfl) (by kernel_rfl) (by kernel_rfl) rfl rfl ?_) | (go_at_call 31; go_must ((with_reducible refine Calls.mono (HLN.out _ D8d) ?_); rintro _ _ ⟨rfl, rfl⟩; dsimp only)) | (go_at_call 23; go_must ((with_reducible refine Calls.mono (HCL.out _ D8d) ?_); rintro _ w10 ⟨rfl, hb10⟩; have hk10 := KeepT.of_below (T := fun _ => True) hb10; have D10 := bvia D8d hb10; have k0 : w10.cell? ⟨b0, off0 + j, none⟩ = some (.pointer (some ⟨sb, 0, none⟩)) := kc D10 K0.out; have k0l := Nat.lt_of_lt_of_le hb2l0 (D10).size; have sq := Hsb.out.step D10; have s0 : w10.cell? ⟨sb, 0, none⟩ = some (.pointer (some ⟨gb, 0, none⟩)) := sq.cell 0; have s1 : w10.cell? ⟨sb, 1, none⟩ = some (.pointer (some ⟨rb, 0, none⟩)) := sq.cell 1; have sl := sq.lt; clear sq; have qq := HQ.out.step D10; obtain ⟨q0, q1, q2, q3, q4, q5, q6, q7⟩ := cl8 (w := w10) (g := (w.heap.size + 1)) qq; have ql := qq.lt; clear qq; dsimp only)) | (go_at_call 41; go_must ((with_reducible refine Calls.mono (HC2.out _ D10) ?_); rintro _ w11 ⟨rfl, hb11⟩; have hk11 := KeepT.of_below (T := fun _ => True) hb11; have D11 := bvia D10 hb11; have k0 : w11.cell? ⟨b0, off0 + j, none⟩ = some (.pointer (some ⟨sb, 0, none⟩)) := kc D11 K0.out; have k0l := Nat.lt_of_lt_of_le hb2l0 (D11).size; have sq := Hsb.out.step D11; have s0 : w11.cell? ⟨sb, 0, none⟩ = some (.pointer (some ⟨gb, 0, none⟩)) := sq.cell 0; have s1 : w11.cell? ⟨sb, 1, none⟩ = some (.pointer (some ⟨rb, 0, none⟩)) := sq.cell 1; have sl := sq.lt; clear sq; have qq := HQ.out.step D11; obtain ⟨q0, q1, q2, q3, q4, q5, q6, q7⟩ := cl8 (w := w11) (g := (w.heap.size + 1)) qq; have ql := qq.lt; clear qq; dsimp only)) | (go_at_call 20; go_must ((with_reducible refine Calls.mono (HMD.out _ D11) ?_); rintro _ _ ⟨⟨mb, rfl, hm⟩, rfl⟩; have HML := hid (mlen_any w11 _ mb _ _ hm); clear hm; dsimp only)) | (go_at_call 43; go_must ((with_reducible refine Calls.mono HML.out ?_); rintro _ _ ⟨rfl, rfl⟩; dsimp only)) | (with_reducible first | refine Keep.same ?_ | refine Keep.below (by assumption) ?_) | ((with_reducible refine WpO.here ?_); first | (refine WpO.done ?_; refine NoP.normal ?_) | ((first | refine WpO.load (by rfl) (by rfl) (by go_simp; rfl) ?_ | refine WpO.pure (by rfl) (fun w_ => by go_simp; (try go_bits); rfl) ?_); go_frame) | refine WpO.wild ?_) | ((with_reducible refine wildO.here ?_); (refine wildO.go (by rfl) (fun _ _ => ?_))) | go_step)
    go_roundw
    case rel => exact ⟨j + 1, by go_num, by omega, bvia hbw D11⟩
    case measure => simp [intOf]; omega
  · obtain rfl : j = nn := by omega
    repeat' (first | (go_at_call 18; go_must ((with_reducible refine Calls.mono (wakes8_any (a := a) wr S' (Hs.out.step Bwr) (fun b hb => Nat.lt_of_lt_of_le (Hlow.out b hb) (Bwr).size)) ?_); rintro _ w9 ⟨rfl, hb9⟩; dsimp only)) | go_step)
    go_ret
    exact ⟨rfl, bvia Bwr hb9⟩
end Go.Proofs.YteggpddlkkjmjaaGreatDoor
