/- Part of a proof: what functions of the program compute. Conditions: as each theorem says. -/
import Derived.Maps.RangeWalk
import Derived.Test.YteggpddlkkjmjaaGreatDoorQ31
import Derived.Test.YteggpddlkkjmjaaGreatDoorQ53
import Derived.Test.YteggpddlkkjmjaaGreatDoorQ59
import Derived.Test.YteggpddlkkjmjaaGreatDoorQ67
import Derived.Test.YteggpddlkkjmjaaGreatDoorQ72
set_option linter.unusedSimpArgs false
set_option linter.unusedVariables false
set_option maxHeartbeats 16000000
set_option maxRecDepth 200000
namespace Go.Proofs.YteggpddlkkjmjaaGreatDoor
open Go Go.RowKit
variable {a : Nat → Addr}
theorem Lg.Gd.next {s : Lg} (h : s.Gd 40) (hb : s.base.length ≤ 60) (he : s.ep = 5) : s.next.Gd 40 := by
 have hl : s.l.length ≤ 100 := by
  have h1 := h.len
  have h2 := h.snd.acts
  have h3 : (s.acts.filter fun x => decide (x.op.kind = 1)).length ≤ s.acts.length := List.length_filter_le _ _
  omega
 have hp := purgeOf_len8 s.l
 have hz : ∀ r, r < 8 → Clk.zero.get r = 0 := fun r _ => Clk.get_zero r
 refine ⟨⟨?_, Nat.zero_le _, Nat.zero_le _, ?_, fun r hr => ?_, ?_, ?_, purgeOf_nd8 h.snd.nd, ?_, ?_⟩, ?_, rfl, ?_, rfl⟩
 · show (purgeOf s.l).length ≤ 100; omega
 · show (purgeOf s.l).length ≤ 100 + 40; omega
 · show 0 ≤ Clk.zero.get r ∧ Clk.zero.get r ≤ ((40 : Nat) : Int)
   rw [hz r hr]; decide
 · intro y hy; exact absurd hy List.not_mem_nil
 · intro e hm; exact .inl (List.mem_map_of_mem hm)
 · intro e hm
   have hm : e ∈ purgeOf s.l := hm
   exact h.snd.calm e (List.mem_filter.1 hm).1
 · show 0 ≤ s.ep + 1 ∧ s.ep + 1 ≤ 1099511627777
   rw [he]; decide
 · intro y hy; exact absurd hy List.not_mem_nil
 · intro y hy; exact absurd hy List.not_mem_nil
theorem site_both {w W W' W2 : World} {base sb gb rb K : Nat} {S S1 S2 : Nat → Prop} {s2 : Lg} (hO1 : Out S1 w W) (hb : Below W.heap.size W W') (hO2 : Out S2 W' W2)
 (h4 : ∀ b, S1 b → S b ∧ ¬ S2 b ∧ b ≠ sb) (h5 : ∀ b, S2 b → S b ∧ b ≠ sb) (h6 : S sb) (h7 : ∀ b, S b → base ≤ b ∧ b < w.heap.size) (hsb : Blk w sb 33 #[.pointer (some ⟨gb, 0, none⟩), .pointer (some ⟨rb, 0, none⟩)])
 (hL : LogAt W (Fr w S1) gb s2 K) (hR : RLogAt W2 (Fr W' S2) rb s2) :
 SiteAt W2 base (fun b => Fr w S b ∧ b < W2.heap.size) sb s2 K ∧ Out S w W2 ∧ LogAt W2 (fun b => Fr w S1 b ∧ b < W.heap.size) gb s2 K ∧ Blk W2 sb 33 #[.pointer (some ⟨gb, 0, none⟩), .pointer (some ⟨rb, 0, none⟩)] := by
 have z1 := hO1.size
 have z2 := hb.size
 have z3 := hO2.size
 have s1 : ∀ b, S1 b → b < w.heap.size := fun b h => (h7 b (h4 b h).1).2
 have s2' : ∀ b, S2 b → b < w.heap.size := fun b h => (h7 b (h5 b h).1).2
 have hsl := (h7 sb h6).2
 have hbl := (h7 sb h6).1
 have n1 : ¬ S1 sb := fun h => (h4 sb h).2.2 rfl
 have n2 : ¬ S2 sb := fun h => (h5 sb h).2 rfl
 have hB2 : Blk W2 sb 33 #[.pointer (some ⟨gb, 0, none⟩), .pointer (some ⟨rb, 0, none⟩)] := (hO2.block sb (by omega) n2).trans ((hb.block sb (by omega)).trans ((hO1.block sb hsl n1).trans hsb))
 have hL2 : LogAt W2 (fun b => Fr w S1 b ∧ b < W.heap.size) gb s2 K := by
  refine (hL.cut.step hb).keep z3 fun b hb' hs => hO2.block b hb' fun hc => ?_
  rcases hs.1 with h | h
  · exact (h4 b h).2.1 hc
  · have h2 : w.heap.size ≤ b := h; have := s2' b hc; omega
 refine ⟨⟨gb, rb, fun b => Fr w S1 b ∧ b < W.heap.size, fun b => Fr W' S2 b ∧ b < W2.heap.size, hB2, hL2, ?_, ?_, ?_, ?_, ?_⟩, ?_, hL2, hB2⟩
 · exact hR.cut
 · rintro b ⟨h, hl⟩
   rcases h with h | h
   · have := s1 b h
     refine ⟨⟨.inl (h4 b h).1, by omega⟩, ?_, (h4 b h).2.2⟩
     rintro ⟨h' | h', -⟩
     · exact (h4 b h).2.1 h'
     · have h2 : W'.heap.size ≤ b := h'; omega
   · have h2 : w.heap.size ≤ b := h
     refine ⟨⟨.inr h2, by omega⟩, ?_, by omega⟩
     rintro ⟨h' | h', -⟩
     · have := s2' b h'; omega
     · have h3 : W'.heap.size ≤ b := h'; omega
 · rintro b ⟨h, hl⟩
   rcases h with h | h
   · have := s2' b h
     exact ⟨⟨.inl (h5 b h).1, by omega⟩, (h5 b h).2⟩
   · have h2 : W'.heap.size ≤ b := h
     exact ⟨⟨.inr (by show w.heap.size ≤ b; omega), by omega⟩, by omega⟩
 · exact ⟨.inl h6, by omega⟩
 · rintro b ⟨h, hl⟩
   refine ⟨?_, hl⟩
   rcases h with h | h
   · exact (h7 b h).1
   · have h2 : w.heap.size ≤ b := h; omega
 · have hO2' : Out S W' W2 := ⟨hO2.os, hO2.tape, hO2.output, hO2.size, fun k hk hn => hO2.block k hk fun hc => hn (h5 k hc).1⟩
   have hO1' : Out S w W := ⟨hO1.os, hO1.tape, hO1.output, hO1.size, fun k hk hn => hO1.block k hk fun hc => hn (h4 k hc).1⟩
   exact (hO1'.trans (Out.of_below (S := S) hb) fun _ _ h => h).trans hO2' fun _ _ h => h
open Classical in
theorem SitesAt.of_one {w : World} {base sb K : Nat} {S : Nat → Prop} {s : Lg} (h : SiteAt w base S sb s K) (hb : base ≤ w.heap.size) : SitesAt w base (fun _ => False) [sb] [s] K := by
 refine ⟨rfl, hb, fun b => if S b then some 0 else none, fun b hb => hb.elim, fun k sb' s' h1 h2 => ?_⟩
 have hk : k = 0 := by
  have := (List.getElem?_eq_some_iff.1 h1).1
  simpa using this
 subst hk
 cases h1
 cases h2
 have h7 : ∀ b, S b → base ≤ b ∧ b < w.heap.size := by obtain ⟨_, _, _, _, _, _, _, _, _, _, h7⟩ := h; exact h7
 refine h.more (fun b hb => ⟨(h7 b hb).1, (h7 b hb).2, if_pos hb⟩) fun b hb => ⟨hb.1, hb.2.1⟩
theorem sites_issue9 (w : World) (base sb K k m : Nat) (R S' : Nat → Prop) (sbs : List Nat) (ss : List Lg) (s : Lg) (o : Opn) (h : SitesAt w base R sbs ss K) (hk : sbs[k]? = some sb) (hs : ss[k]? = some s) (hg : s.Gd m) (hm : m ≤ 10000) (hK : K ≤ 1000000000) (ho : o.In) (hS : Sents w S' a) (hlow : ∀ b, S' b → b < base) :
 Calls Tryz.prog 36 #[.pointer (some ⟨sb, 0, none⟩), o.agg] w fun e w' => e = .returned (.tuple #[(s.issued o).agg, .bool true]) ∧ SitesAt w' base R sbs (ss.set k (s.issueOf o)) (K + 1) ∧ Below base w w' := by
 obtain ⟨S, h1, h2, h3⟩ := h.at_ hk hs
 refine (site_issue (a := a) w base sb K S S' s o h1 (hg.snd.fine (by omega) (by omega)) ho (hg.snd.ck (by omega)) hS hlow).mono ?_
 rintro e w' ⟨rfl, h4, h5⟩
 exact ⟨rfl, h3 w' _ h4 h5, h5.below_ (fun b hb => (h2 b hb).1) h.2.1⟩
theorem purge_again (l : List El) : purgeOf (purgeOf l) = purgeOf l := by
 unfold purgeOf
 rw [List.filter_filter]
 congr 1
 funext e
 simp
theorem hnextl_true (w : World) (k : Int) (A B C : Option Addr) (n c m d p e : Nat) (l : List Int) (vs : List Mv8) (xs : List Opn) (S S1 S2 S' : Nat → Prop) (hl : GRow w S A n c (l.map Rn8.mk)) (hli : ∀ e ∈ l, I32 e) (hv : GRow w S1 B m d vs) (hvi : ∀ v ∈ vs, v.In) (hx : GRow w S2 C p e xs) (hxi : ∀ x ∈ xs, x.In) (hs : Sents w S' a) (hlow : ∀ b, S' b → b < w.heap.size) :
 Calls Tryz.prog 12 #[.agg #[.int .i64 k, .slice A n c, .slice B m d], .slice C p e] w fun e w' => e = .returned (.bool true) ∧ Below w.heap.size w w' := by
 have hb0 := balloc (o := .cells #[.int .i64 k, .slice A n c, .slice B m d] 25) (Below.refl w.heap.size w)
 have hX := Blk.new w 25 #[.int .i64 k, .slice A n c, .slice B m d]
 have HPL := hid (fun W (hb : Below w.heap.size w W) => played_any (a := a) W k A B n c m d l vs S S1 S' (hl.step hb) hli (hv.step hb) hvi (hs.step hb) fun b h => Nat.lt_of_lt_of_le (hlow b h) hb.size)
 have hn8 := sitesN_pos k
 have hgd := playedOf_gd (n := sitesN k) (by omega) l vs hvi
 obtain ⟨G, hG, hGl⟩ := playedOf_sess (n := sitesN k) (by omega) l vs hvi
 have hlen := playedOf_length (sitesN k) l vs
 have hbl8 := base8_length l (min l.length 20)
 obtain ⟨nn, hnn⟩ : ∃ nn, nn = sitesN k := ⟨_, rfl⟩
 rw [← hnn] at HPL hgd hn8 hlen hG
 have hpm := hx.len_le
 unfold maxLen at hpm
 have Hgd := hid hgd
 have HG := hid hG
 have Hx := hid hx
 have Hxi := hid hxi
 have Hs := hid hs
 have Hlow := hid hlow
 clear hl hli hv hvi hx hxi hs hlow hgd hnn hG
 go_enter Tryz.func12, Tryz.ntmps12
 repeat' (first | (with_reducible refine stop_region 1 ?_) | go_step)
 refine Stop.go ?_
 have HPL := hid (HPL.out _ hb0)
 generalize w.alloc (.cells #[.int .i64 k, .slice A n c, .slice B m d] 25) = X at *
 have p0 : X.cell? ⟨w.heap.size, 0, none⟩ = some (.int .i64 k) := hX.cell 0
 have p1 : X.cell? ⟨w.heap.size, 1, none⟩ = some (.slice A n c) := hX.cell 1
 have p2 : X.cell? ⟨w.heap.size, 2, none⟩ = some (.slice B m d) := hX.cell 2
 have pl := hX.lt
 clear hX
 generalize playedOf nn l vs = ss0 at *
 repeat' (first | (go_at_call 13; go_must ((with_reducible refine Calls.mono HPL.out ?_); rintro _ w1 ⟨A1, c1, base, rfl, hP, hbase, hb1⟩; have HP := hid hP; clear hP; dsimp only)) | (with_reducible refine stop_region 2 ?_) | go_step)
 refine Stop.go ?_
 clear p0 p1 p2 pl HPL
 have B1 := bvia hb0 hb1
 have hbX := hid (show w.heap.size ≤ base by have := hb0.size; omega)
 obtain ⟨s, hs0⟩ : ∃ s, ss0[0]? = some s := ⟨_, List.getElem?_eq_getElem (by omega)⟩
 have hgs := hid (Hgd.out s (List.mem_of_getElem? hs0))
 have hss := hid (HG.out.site 0 s hs0)
 obtain ⟨b2, off2, sb, T, rfl, c0, hb2l, hS, -⟩ := HP.out.at_ hs0
 rw [Nat.add_zero] at c0
 have hlow1 := HP.out.low
 obtain ⟨gb, rb, S1', S2', hsb, hg, hr, h4, h5, h6, h7⟩ := hS
 have hepb : s.ep = 5 ∧ s.base.length ≤ 60 := ⟨hss.out.1, by rw [hss.out.2.1]; omega⟩
 have hgn := hid (hgs.out.next hepb.2 hepb.1)
 have hep := hid hepb
 have Hsb := hid hsb
 have Hg := hid hg
 have Hr := hid hr
 have H4 := hid h4
 have H5 := hid h5
 have H6 := hid h6
 have H7 := hid h7
 have h0n : (0 : Int) < (nn : Int) := by omega
 have hnl := Lib.run_eql_slice_nil w1 26 _ (some ⟨b2, off2, none⟩) nn c1 0 0 Tryz.underlying26
 have sqb := (hsb); have sc0 : w1.cell? ⟨sb, 0, none⟩ = some (.pointer (some ⟨gb, 0, none⟩)) := sqb.cell 0; have sc1 : w1.cell? ⟨sb, 1, none⟩ = some (.pointer (some ⟨rb, 0, none⟩)) := sqb.cell 1; have scl := sqb.lt; clear sqb
 have hll : s.l.length ≤ 140 := hgs.out.snd.l
 have HM := hid (fun W (hb : Below w1.heap.size w1 W) => hmodel_any W S1' gb _ s (hg.step hb))
 clear hs0 hsb hg hr h4 h5 h6 h7 HP hepb
 repeat' (first | (go_at_call 20; go_must ((with_reducible refine Calls.mono (HM.out _ (Below.refl _ _)) ?_); rintro _ _ ⟨⟨mb, rfl, hm⟩, rfl⟩; have HEL := hid (melements_any w1 _ mb s.l _ hm (by omega)); clear hm; dsimp only)) | (go_at_call 21; go_must ((with_reducible refine Calls.mono HEL.out ?_); rintro _ w3 ⟨A3, c3, rfl, ho3, hb3⟩; have Ho3 := hid ho3; clear ho3; dsimp only)) | (with_reducible refine stop_region 6 ?_) | go_step)
 refine Stop.go ?_
 clear c0 hnl HEL sc0 sc1 scl
 have sqb := ((Hsb.out.step hb3)); have sc0 : w3.cell? ⟨sb, 0, none⟩ = some (.pointer (some ⟨gb, 0, none⟩)) := sqb.cell 0; have sc1 : w3.cell? ⟨sb, 1, none⟩ = some (.pointer (some ⟨rb, 0, none⟩)) := sqb.cell 1; have scl := sqb.lt; clear sqb
 repeat' (first | (go_at_call 20; go_must ((with_reducible refine Calls.mono (HM.out _ hb3) ?_); rintro _ _ ⟨⟨mb, rfl, hm⟩, rfl⟩; have HVW := hid (view_any w3 _ mb s.l _ hm (by omega)); clear hm; dsimp only)) | (go_at_call 45; go_must ((with_reducible refine Calls.mono HVW.out ?_); rintro _ w4 ⟨rfl, hb4⟩; dsimp only)) | (with_reducible refine stop_region 7 ?_) | go_step)
 refine Stop.go ?_
 clear sc0 sc1 scl HVW HM
 have D4 := bvia hb3 hb4
 have sqb := ((Hsb.out.step D4)); have sc0 : w4.cell? ⟨sb, 0, none⟩ = some (.pointer (some ⟨gb, 0, none⟩)) := sqb.cell 0; have sc1 : w4.cell? ⟨sb, 1, none⟩ = some (.pointer (some ⟨rb, 0, none⟩)) := sqb.cell 1; have scl := sqb.lt; clear sqb
 have hpl8 := purgeOf_len8 s.l
 obtain ⟨z, hz⟩ : ∃ z : Nat, (s.l.length : Int) - ((purgeOf s.l).length : Int) = (z : Int) := ⟨s.l.length - (purgeOf s.l).length, by omega⟩
 have HNX := hid (hnext_any w4 S1' gb _ s (Hg.out.step D4) (by omega) hgs.out.snd.nd (by have := hep.out.1; omega))
 rw [hz] at HNX
 repeat' (first | (go_at_call 46; go_must ((with_reducible refine Calls.mono HNX.out ?_); rintro _ w5 ⟨rfl, hL5, hO5⟩; have HL5 := hid hL5; have HO5 := hid hO5; clear hL5 hO5; dsimp only)) | (with_reducible refine stop_region 8 ?_) | go_step)
 refine Stop.go ?_
 clear sc0 sc1 scl HNX
 have hsb5 := HO5.out.blk (Hsb.out.step D4) (fun hc => (H4.out sb hc).2.2 rfl)
 have hr5 : RLogAt w5 S2' rb s := (Hr.out.step D4).keep HO5.out.size fun b hb hs => HO5.out.block b hb fun hc => (H4.out b hc).2.1 hs
 have D0 : Below w5.heap.size w5 w5.drew := bdrew (Below.refl _ _)
 have HRN := hid (rnext_any w5.drew S2' rb s (hr5.step D0) (by omega) (by have := hep.out.1; omega))
 have hsd := hsb5.drew
 have sqb := (hsd); have sc0 : w5.drew.cell? ⟨sb, 0, none⟩ = some (.pointer (some ⟨gb, 0, none⟩)) := sqb.cell 0; have sc1 : w5.drew.cell? ⟨sb, 1, none⟩ = some (.pointer (some ⟨rb, 0, none⟩)) := sqb.cell 1; have scl := sqb.lt; clear sqb
 have qs5 : w5.drew.heap[sb]? = some (.cells #[.pointer (some ⟨gb, 0, none⟩), .pointer (some ⟨rb, 0, none⟩)] 33 (0, 0)) := hsd
 have ts5 : ¬ S2' sb := fun hc => (H5.out sb hc).2 rfl
 rw [hz] at HRN
 have h7' : ∀ b, T b → base ≤ b ∧ b < w4.heap.size := fun b hb => ⟨(H7.out b hb).1, Nat.lt_of_lt_of_le (H7.out b hb).2 D4.size⟩
 have H7' := hid h7'
 clear hsb5 hr5 hsd h7'
 repeat' (first | ((with_reducible refine region_at 8 ?_); refine wp_region_ordT (fun b => ¬ S2' b) (rgo [0,4,8,12,16,21,24,28,32,37,40,44,48,52,56,60,64,76,69,73,80,84,88,92,96,100,104,116,120,124,128,109,113,133,137,140,144,148,152,156,160,164,168,172,176,181,185,188,192,196] .nil) (by kernel_rfl) (by kernel_rfl) (by kernel_rfl) rfl rfl ?_) | (go_at_call 47; go_must ((with_reducible refine Calls.mono HRN.out ?_); rintro _ w6 ⟨rfl, hR6, hO6⟩; have hk6 : KeepT (fun b => ¬ S2' b) w5.drew w6 := ⟨hO6.size, fun b hl hb => hO6.block b hl hb⟩; obtain ⟨hSN, hON, hLN, hBN⟩ := site_both HO5.out D0 hO6 H4.out H5.out H6.out H7'.out (Hsb.out.step D4) HL5.out hR6; have HSM := hid (site_same w6 base sb _ _ _ hSN (by have := hgn.out.snd.acts; omega) (by have := hgn.out.snd.l; omega)); have HSN := hid (SitesAt.of_one hSN (Nat.le_trans hlow1 (Nat.le_trans D4.size hON.size))); have HON := hid hON; have HLN := hid hLN; have HBN := hid hBN; clear hSN hON hLN hBN hR6 hO6; dsimp only)) | (go_at_call 33; go_must ((with_reducible refine Calls.mono HSM.out ?_); rintro _ w7 ⟨rfl, hb7⟩; have hk7 : KeepT (fun b => ¬ S2' b) w6 w7 := KeepT.of_below hb7; have HMN := hid (fun W (hb : Below w6.heap.size w6 W) => hmodel_any W _ gb _ s.next (HLN.out.step hb)); have sqb := ((HBN.out.step hb7)); have sc0 : w7.cell? ⟨sb, 0, none⟩ = some (.pointer (some ⟨gb, 0, none⟩)) := sqb.cell 0; have sc1 : w7.cell? ⟨sb, 1, none⟩ = some (.pointer (some ⟨rb, 0, none⟩)) := sqb.cell 1; have scl := sqb.lt; clear sqb; have qs7 : w7.heap[sb]? = some (.cells #[.pointer (some ⟨gb, 0, none⟩), .pointer (some ⟨rb, 0, none⟩)] 33 (0, 0)) := HBN.out.step hb7; dsimp only)) | (go_at_call 20; go_must (first | (guard_hyp D9; (with_reducible refine Calls.mono (HMN.out _ D9) ?_); rintro _ _ ⟨⟨mb, rfl, hm⟩, rfl⟩; have HLE := hid (show Calls Tryz.prog 43 #[.pointer (some ⟨mb, 0, none⟩)] w9 fun e w' => e = .returned (.int .i64 (purgeOf s.l).length) ∧ w9 = w' from mlen_any w9 _ mb _ _ hm); clear hm; dsimp only) | (guard_hyp D8; (with_reducible refine Calls.mono (HMN.out _ D8) ?_); rintro _ _ ⟨⟨mb, rfl, hm⟩, rfl⟩; have HLV := hid (show Calls Tryz.prog 48 #[.pointer (some ⟨mb, 0, none⟩)] w8 fun e w' => e = .returned (.int .i64 (liveOf (purgeOf s.l))) ∧ Below w8.heap.size w8 w' from mlive_any w8 _ mb _ _ hm); rw [← purgeOf_live, purge_again] at HLV; clear hm; dsimp only) | ((with_reducible refine Calls.mono (HMN.out _ hb7) ?_); rintro _ _ ⟨⟨mb, rfl, hm⟩, rfl⟩; have HVW := hid (show Calls Tryz.prog 45 #[.pointer (some ⟨mb, 0, none⟩)] w7 fun r w' => r = .returned (.string ⟨(viewOf (purgeOf s.l)).toArray⟩) ∧ Below w7.heap.size w7 w' from view_any w7 _ mb _ _ hm (by show (purgeOf s.l).length ≤ _; omega)); rw [purgeOf_view] at HVW; clear hm; dsimp only))) | (go_at_call 45; go_must ((with_reducible refine Calls.mono HVW.out ?_); rintro _ w8 ⟨rfl, hb8⟩; have hk8 : KeepT (fun b => ¬ S2' b) w7 w8 := KeepT.of_below hb8; have D8 := bvia hb7 hb8; have sqb := ((HBN.out.step D8)); have sc0 : w8.cell? ⟨sb, 0, none⟩ = some (.pointer (some ⟨gb, 0, none⟩)) := sqb.cell 0; have sc1 : w8.cell? ⟨sb, 1, none⟩ = some (.pointer (some ⟨rb, 0, none⟩)) := sqb.cell 1; have scl := sqb.lt; clear sqb; have qs8 : w8.heap[sb]? = some (.cells #[.pointer (some ⟨gb, 0, none⟩), .pointer (some ⟨rb, 0, none⟩)] 33 (0, 0)) := HBN.out.step D8; dsimp only)) | (go_at_call 48; go_must ((with_reducible refine Calls.mono HLV.out ?_); rintro _ w9 ⟨rfl, hb9⟩; have hk9 : KeepT (fun b => ¬ S2' b) w8 w9 := KeepT.of_below hb9; have D9 := bvia D8 hb9; have sqb := ((HBN.out.step D9)); have sc0 : w9.cell? ⟨sb, 0, none⟩ = some (.pointer (some ⟨gb, 0, none⟩)) := sqb.cell 0; have sc1 : w9.cell? ⟨sb, 1, none⟩ = some (.pointer (some ⟨rb, 0, none⟩)) := sqb.cell 1; have scl := sqb.lt; clear sqb; have qs9 : w9.heap[sb]? = some (.cells #[.pointer (some ⟨gb, 0, none⟩), .pointer (some ⟨rb, 0, none⟩)] 33 (0, 0)) := HBN.out.step D9; dsimp only)) | (go_at_call 43; go_must ((with_reducible refine Calls.mono HLE.out ?_); rintro _ _ ⟨rfl, rfl⟩; dsimp only)) | (with_reducible refine Keep.same ?_) | (with_reducible refine stop_region 10 ?_) | (with_reducible first | refine Keep.below (by assumption) ?_ | refine Keep.kept (by assumption) ?_) | ((with_reducible refine WpO.here ?_); first | (refine WpO.done ?_; refine NoP.normal ?_) | ((first | refine WpO.loadT (by rfl) (by rfl) (by go_simp; rfl) (by rintro _ _ ⟨⟩; exact ⟨_, _, _, _, _, _, by rfl, by assumption, by assumption⟩) ?_ | refine WpO.pure (by rfl) (fun w_ => by go_simp; (try go_bits); rfl) ?_); go_frame) | refine WpO.wild ?_) | ((with_reducible refine wildO.here ?_); (refine wildO.go (by rfl) (fun _ _ => ?_))) | go_step)
 refine Stop.go ?_
 have hrow3 : Row w6 (fun b => w1.heap.size ≤ b ∧ b < w3.heap.size) A3 s.l.length c3 s.l := ((Ho3.out.row (S := fun b => w1.heap.size ≤ b ∧ b < w3.heap.size) fun b h1 h2 => ⟨h1, h2⟩).step hb4).keep fun b hs hl => HON.out.block b hl fun hT => by have := (H7.out b hT).2; omega
 have HRow := hid hrow3
 have HEP : Hid (Calls Tryz.prog 30 #[.pointer (some ⟨gb, 0, none⟩)] w9 fun e w' => e = .returned (.int .i64 6) ∧ w9 = w') := hid (by
  have h := hepoch_any w9 _ gb _ s.next (HLN.out.step D9)
  have h6 : s.next.ep = 6 := by show s.ep + 1 = 6; rw [hep.out.1]; rfl
  rwa [h6] at h)
 have HLN0 : Hid (Calls Tryz.prog 31 #[.pointer (some ⟨gb, 0, none⟩)] w9 fun e w' => e = .returned (.int .i64 0) ∧ w9 = w') := hid (hlen_any w9 _ gb _ s.next (HLN.out.step D9))
 have HCL : Hid (Calls Tryz.prog 23 #[.pointer (some ⟨gb, 0, none⟩)] w9 fun e w' => e = .returned (.agg #[.int .i64 0, .int .i64 0, .int .i64 0, .int .i64 0, .int .i64 0, .int .i64 0, .int .i64 0, .int .i64 0]) ∧ Below w9.heap.size w9 w') := hid (hclock_any w9 _ gb _ s.next (HLN.out.step D9))
 have hsubl : ((purgeOf s.l).map El.nm).Sublist (s.l.map El.nm) := (List.filter_sublist (l := s.l)).map _
 have HIO := hid (InOrd.of_sub hgs.out.snd.nd hsubl)
 clear hrow3 hsubl hk6 hk7 hk8 hk9 qs5 qs7 qs8 qs9 ts5 HSM HRN
 have sqb := ((HBN.out.step D9)); have sc0 : w9.cell? ⟨sb, 0, none⟩ = some (.pointer (some ⟨gb, 0, none⟩)) := sqb.cell 0; have sc1 : w9.cell? ⟨sb, 1, none⟩ = some (.pointer (some ⟨rb, 0, none⟩)) := sqb.cell 1; have scl := sqb.lt; clear sqb
 repeat' (first | (go_at_call 30; go_must ((with_reducible refine Calls.mono HEP.out ?_); rintro _ _ ⟨rfl, rfl⟩; dsimp only)) | (go_at_call 31; go_must ((with_reducible refine Calls.mono HLN0.out ?_); rintro _ _ ⟨rfl, rfl⟩; dsimp only)) | (go_at_call 23; go_must ((with_reducible refine Calls.mono HCL.out ?_); rintro _ w10 ⟨rfl, hb10⟩; have D10 := bvia D9 hb10; have sqb := ((HBN.out.step D10)); have sc0 : w10.cell? ⟨sb, 0, none⟩ = some (.pointer (some ⟨gb, 0, none⟩)) := sqb.cell 0; have sc1 : w10.cell? ⟨sb, 1, none⟩ = some (.pointer (some ⟨rb, 0, none⟩)) := sqb.cell 1; have scl := sqb.lt; clear sqb; dsimp only)) | (go_at_call 20; go_must ((with_reducible refine Calls.mono (HMN.out _ D10) ?_); rintro _ _ ⟨⟨mb, rfl, hm⟩, rfl⟩; have HEL := hid (show Calls Tryz.prog 21 #[.pointer (some ⟨mb, 0, none⟩)] w10 fun e w' => ∃ A' c', e = .returned (.slice A' (purgeOf s.l).length c') ∧ Own w' w10.heap.size A' (purgeOf s.l).length c' (purgeOf s.l) ∧ Below w10.heap.size w10 w' from melements_any w10 _ mb _ _ hm (by show (purgeOf s.l).length ≤ _; omega)); clear hm; dsimp only)) | (go_at_call 21; go_must ((with_reducible refine Calls.mono HEL.out ?_); rintro _ w11 ⟨A11, c11, rfl, ho11, hb11⟩; have D11 := bvia D10 hb11; have HPC := hid (places_true w11 A11 A3 _ c11 _ c3 (purgeOf s.l) s.l _ _ (ho11.row (S := fun _ => True) fun _ _ _ => trivial) (HRow.out.step D11) (by omega) (by omega) HIO.out); clear ho11; dsimp only)) | (go_at_call 22; go_must ((with_reducible refine Calls.mono HPC.out ?_); rintro _ w12 ⟨rfl, hb12⟩; have D12 := bvia D11 hb12; dsimp only)) | (with_reducible refine stop_region 12 ?_) | go_guarded | go_step)
 refine Stop.go ?_
 clear sc0 sc1 scl
 have HS12 := hid (HSN.out.step D12)
 have Bb : Below base w1 w12 := (D4.mono hlow1).trans ((HON.out.below_ (fun b hb => (H7.out b hb).1) (Nat.le_trans hlow1 D4.size)).trans (D12.mono (Nat.le_trans hlow1 (Nat.le_trans D4.size HON.out.size))))
 have HBb := hid Bb
 clear HEP HLN0 HCL HMN HRow HIO HEL HPC HON HSN HLN HBN H4 H5 H6 H7 H7' HL5 HO5 hz D0 D4 D8 D9 D10 D11 D12 Bb
 repeat' (first | go_step)
 go_loopw [10] (fun i wr => ∃ (j : Nat) (s' : Lg), i = .int .i64 j ∧ j ≤ p ∧ j ≤ 20 ∧ s'.Gd (40 + j) ∧ SitesAt wr base (fun _ => False) [sb] [s'] (60 + 1048576 + j) ∧ Below base w1 wr) (fun i _ => p - (intOf i).toNat)
 case atStart => exact ⟨0, s.next, rfl, Nat.zero_le _, Nat.zero_le _, hgn.out, HS12.out, HBb.out⟩
 case round =>
  clear HS12 HBb
  obtain ⟨j, s', rfl, hj, hj2, hgd, hsit, hbw⟩ := hrel
  have Hsit := hid hsit
  have Hgd := hid hgd
  clear hsit hgd
  have Bwr : Below w.heap.size w wr := B1.trans (hbw.mono hbX.out)
  by_cases hlt : j < p ∧ j < 20
  · obtain ⟨hlt1, hlt2⟩ := hlt
    have hjp : (j : Int) < (p : Int) := by omega
    have hj20 : (j : Int) < 20 := by omega
    obtain ⟨b, off, o, rfl, -, hbl', hot, hcell⟩ := (Hx.out.step Bwr).at_ hlt1
    have c0 : wr.cell? ⟨b, off + j * 4, none⟩ = some (.int .i64 o.kind) := hcell 0 _ rfl
    have c1_ : wr.cell? ⟨b, off + j * 4 + 1, none⟩ = some (.int .i64 o.at_) := hcell 1 _ rfl
    have c2 : wr.cell? ⟨b, off + j * 4 + 2, none⟩ = some (.int .i32 o.char) := hcell 2 _ rfl
    have c3_ : wr.cell? ⟨b, off + j * 4 + 3, none⟩ = some (.int .i64 o.rep) := hcell 3 _ rfl
    have hoI := Hxi.out o (List.mem_of_getElem? hot)
    obtain ⟨T', hT⟩ := Hsit.out.one (k := 0) (sb := sb) (s := s') rfl rfl
    have hSl := Hgd.out.snd.l
    rcases hfo : fitOf o s'.l.length 0 with ⟨O, ok⟩
    have HF := hid (site_fit wr base sb _ T' s' o 0 hT (by omega) (by omega))
    rw [hfo] at HF
    have hOI : O.In := by have := fit_in hoI (n := s'.l.length) (by omega) (r := 0) (by omega); rw [hfo] at this; exact this
    have HOI := hid hOI
    simp only [Opn.agg] at HF
    clear hfo hOI hT hcell hot hoI
    cases ok
    · repeat' (first | (go_at_call 49; go_must ((with_reducible refine Calls.mono HF.out ?_); rintro _ w3 ⟨rfl, hb3⟩; dsimp only)) | (with_reducible refine stop_region 16 ?_) | go_guarded | go_step)
      refine Stop.go ?_
      have e3 : Below w3.heap.size w3 (w3.alloc (.cells #[.int .i64 O.kind, .int .i64 O.at_, .int .i32 O.char, .int .i64 O.rep] 37)) := balloc (Below.refl _ _)
      have e4 := bvia hb3 e3
      generalize w3.alloc (.cells #[.int .i64 O.kind, .int .i64 O.at_, .int .i32 O.char, .int .i64 O.rep] 37) = Z at *
      repeat' (first | go_step)
      go_roundw
      case rel => exact ⟨j + 1, s', by go_num, by omega, by omega, Hgd.out.mono (by omega), (Hsit.out.step e4).monoK (by omega), hbw.trans (e4.mono Hsit.out.2.1)⟩
      case measure => simp [intOf]; omega
    · repeat' (first | (go_at_call 49; go_must ((with_reducible refine Calls.mono HF.out ?_); rintro _ w3 ⟨rfl, hb3⟩; dsimp only)) | (with_reducible refine stop_region 16 ?_) | go_guarded | go_step)
      refine Stop.go ?_
      have e3 : Below w3.heap.size w3 (w3.alloc (.cells #[.int .i64 O.kind, .int .i64 O.at_, .int .i32 O.char, .int .i64 O.rep] 37)) := balloc (Below.refl _ _)
      have hob := Blk.new w3 37 #[.int .i64 O.kind, .int .i64 O.at_, .int .i32 O.char, .int .i64 O.rep]
      have e4 := bvia hb3 e3
      clear c0 c1_ c2 c3_
      generalize w3.alloc (.cells #[.int .i64 O.kind, .int .i64 O.at_, .int .i32 O.char, .int .i64 O.rep] 37) = Z at *
      generalize w3.heap.size = ob at *
      obtain ⟨o0, o1, o2, o3⟩ := cl4 (w := Z) (g := ob) hob
      have ol := hob.lt
      obtain ⟨P, hP⟩ : ∃ P, P = s'.issued O := ⟨_, rfl⟩
      have HI := hid (sites_issue9 (a := a) Z base sb (60 + 1048576 + j) 0 (40 + j) (fun _ => False) S' [sb] [s'] s' O (Hsit.out.step e4) rfl rfl Hgd.out (by omega) (by omega) HOI.out (Hs.out.step (bvia Bwr e4)) (fun b hb => Nat.lt_of_lt_of_le (Hlow.out b hb) hbX.out))
      rw [← hP] at HI
      simp only [Actn.agg, Opn.agg] at HI
      unfold Actn.vals at HI
      have hgd2 := hid (Hgd.out.issue (by omega) HOI.out)
      have BZ : Below base w1 Z := hbw.trans (e4.mono Hsit.out.2.1)
      clear hP hob e4
      repeat' (first | (go_at_call 36; go_must ((with_reducible refine Calls.mono HI.out ?_); rintro _ w5 ⟨rfl, hS5, hB5⟩; have HS5 := hid (show SitesAt w5 base (fun _ => False) [sb] [s'.issueOf O] (60 + 1048576 + j + 1) from hS5); clear hS5; dsimp only)) | (with_reducible refine stop_region 18 ?_) | go_step)
      refine Stop.go ?_
      have e6 : Below w5.heap.size w5 (w5.alloc (.cells #[.int .i64 P.op.kind, .int .i64 P.op.at_, .int .i32 P.op.char, .int .i64 P.op.rep, .int .i64 P.num, .int .i64 P.clk.c0, .int .i64 P.clk.c1, .int .i64 P.clk.c2, .int .i64 P.clk.c3, .int .i64 P.clk.c4, .int .i64 P.clk.c5, .int .i64 P.clk.c6, .int .i64 P.clk.c7] 46)) := balloc (Below.refl _ _)
      have HS6 := hid (HS5.out.step e6)
      have B6 : Below base w1 (w5.alloc (.cells #[.int .i64 P.op.kind, .int .i64 P.op.at_, .int .i32 P.op.char, .int .i64 P.op.rep, .int .i64 P.num, .int .i64 P.clk.c0, .int .i64 P.clk.c1, .int .i64 P.clk.c2, .int .i64 P.clk.c3, .int .i64 P.clk.c4, .int .i64 P.clk.c5, .int .i64 P.clk.c6, .int .i64 P.clk.c7] 46)) := (BZ.trans hB5).trans (e6.mono HS5.out.2.1)
      clear HS5 e6 hB5 HI o0 o1 o2 o3 ol
      generalize w5.alloc (.cells #[.int .i64 P.op.kind, .int .i64 P.op.at_, .int .i32 P.op.char, .int .i64 P.op.rep, .int .i64 P.num, .int .i64 P.clk.c0, .int .i64 P.clk.c1, .int .i64 P.clk.c2, .int .i64 P.clk.c3, .int .i64 P.clk.c4, .int .i64 P.clk.c5, .int .i64 P.clk.c6, .int .i64 P.clk.c7] 46) = Q at *
      repeat' (first | go_step)
      go_roundw
      case rel => exact ⟨j + 1, _, by go_num, by omega, by omega, hgd2.out, HS6.out, B6⟩
      case measure => simp [intOf]; omega
  · by_cases h1 : j < p
    · have hjp : (j : Int) < (p : Int) := by omega
      have hj20 : ¬ (j : Int) < 20 := by omega
      clear hlt
      have HW9 := hid (wakes8_any (a := a) wr S' (Hs.out.step Bwr) (fun b hb => Nat.lt_of_lt_of_le (Hlow.out b hb) Bwr.size))
      have HSM9 := hid (show Calls Tryz.prog 33 #[.pointer (some ⟨sb, 0, none⟩)] wr fun e w' => e = .returned (.bool true) ∧ Below wr.heap.size wr w' from by
       obtain ⟨T, hT⟩ := Hsit.out.one (k := 0) (sb := sb) (s := s') rfl rfl
       exact site_same wr base sb _ T _ hT (by have := Hgd.out.snd.acts; omega) (by have := Hgd.out.snd.l; omega))
      repeat' (first | (go_at_call 33; go_must ((with_reducible refine Calls.mono HSM9.out ?_); rintro _ w8 ⟨rfl, hb8⟩; have B8 := bvia Bwr hb8; dsimp only)) | (go_at_call 18; go_must ((with_reducible refine Calls.mono (wakes8_any (a := a) w8 S' (Hs.out.step B8) (fun b hb => Nat.lt_of_lt_of_le (Hlow.out b hb) (B8).size)) ?_); rintro _ w9 ⟨rfl, hb9⟩; dsimp only)) | go_guarded | go_step)
      go_ret
      exact ⟨rfl, bvia B8 hb9⟩
    · have hjp : ¬ (j : Int) < (p : Int) := by omega
      clear hlt
      have HW9 := hid (wakes8_any (a := a) wr S' (Hs.out.step Bwr) (fun b hb => Nat.lt_of_lt_of_le (Hlow.out b hb) Bwr.size))
      have HSM9 := hid (show Calls Tryz.prog 33 #[.pointer (some ⟨sb, 0, none⟩)] wr fun e w' => e = .returned (.bool true) ∧ Below wr.heap.size wr w' from by
       obtain ⟨T, hT⟩ := Hsit.out.one (k := 0) (sb := sb) (s := s') rfl rfl
       exact site_same wr base sb _ T _ hT (by have := Hgd.out.snd.acts; omega) (by have := Hgd.out.snd.l; omega))
      repeat' (first | (go_at_call 33; go_must ((with_reducible refine Calls.mono HSM9.out ?_); rintro _ w8 ⟨rfl, hb8⟩; have B8 := bvia Bwr hb8; dsimp only)) | (go_at_call 18; go_must ((with_reducible refine Calls.mono (wakes8_any (a := a) w8 S' (Hs.out.step B8) (fun b hb => Nat.lt_of_lt_of_le (Hlow.out b hb) (B8).size)) ?_); rintro _ w9 ⟨rfl, hb9⟩; dsimp only)) | go_guarded | go_step)
      go_ret
      exact ⟨rfl, bvia B8 hb9⟩
end Go.Proofs.YteggpddlkkjmjaaGreatDoor
