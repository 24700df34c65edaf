/- Part of a proof: what functions of the program compute. Conditions: as each theorem says. -/
import Derived.Maps.RangeWalk
import Derived.Test.YteggpddlkkjmjaaGreatDoorQ67
import Derived.Test.YteggpddlkkjmjaaGreatDoorQ71
set_option linter.unusedSimpArgs false
set_option linter.unusedVariables false
set_option maxHeartbeats 16000000
set_option maxRecDepth 200000
namespace Go.Proofs.YteggpddlkkjmjaaGreatDoor
open Go Go.RowKit
variable {a : Nat → Addr}
theorem Play8.at2 {w : World} {base n c K : Nat} {A : Option Addr} {ss : List Lg} (h : Play8 w base A n c ss K) {k : Nat} {s : Lg} (hs : ss[k]? = some s) :
 ∃ b off sb S, A = some ⟨b, off, none⟩ ∧ w.cell? ⟨b, off + k, none⟩ = some (.pointer (some ⟨sb, 0, none⟩)) ∧ b < w.heap.size ∧ ¬ S b ∧ SiteAt w base S sb s K ∧
  ∀ (w1 w' : World) (s' : Lg), Below w.heap.size w w1 → SiteAt w' base (fun b => Fr w1 S b ∧ b < w'.heap.size) sb s' (K + 1) → Out S w1 w' → Play8 w' base A n c (ss.set k s') (K + 1) ∧ Below base w w' := by
 have hl := h.len
 obtain ⟨sbs, h1, h2⟩ := h
 have hkn : k < n := by rw [← hl]; exact (List.getElem?_eq_some_iff.1 hs).1
 obtain ⟨b, off, e, hA, hR, hb, he, hc⟩ := h1.at_ hkn
 rw [List.getElem?_map] at he
 obtain ⟨sb, hsb, rfl⟩ := Option.map_eq_some_iff.1 he
 obtain ⟨S, h3, h4, h5⟩ := h2.at_ hsb hs
 have c0 := hc 0 _ rfl
 have e1 : off + k * Enc.k Pt8 + 0 = off + k := by show off + k * 1 + 0 = off + k; omega
 rw [e1] at c0
 refine ⟨b, off, sb, S, hA, c0, hb, fun hsb' => (h4 b hsb').2 ⟨_, hA, rfl⟩, h3, fun w1 w' s' hb1 hn hO => ?_⟩
 have h2' := h2.2.1
 have hO' := hid ((Out.of_below (S := S) hb1).trans hO fun _ _ h => h)
 have hlt : ∀ b, S b → b < w.heap.size := by
  obtain ⟨_, _, _, _, _, _, _, _, _, _, h7⟩ := h3
  exact fun b hb => (h7 b hb).2
 have hn' : SiteAt w' base (fun b => Fr w S b ∧ b < w'.heap.size) sb s' (K + 1) := by
  refine hn.more (fun b hb => ⟨hb.1.imp id fun h => Nat.le_trans hb1.size h, hb.2⟩) fun b hb => ⟨?_, hb.2⟩
  rcases hb.1 with h | h
  · exact (h4 b h).1
  · exact Nat.le_trans h2' h
 refine ⟨⟨sbs, ?_, h5 w' s' hn' hO'.out⟩, hO'.out.below_ (fun b hb => (h4 b hb).1) h2'⟩
 exact h1.keep hO'.out.size fun b hr hb => hO'.out.block b hb fun hs' => (h4 b hs').2 hr
theorem sites_all (w : World) (base : Nat) (A : Option Addr) (n c K m : Nat) (ss0 : List Lg) (S' : Nat → Prop) (hP : Play8 w base A n c ss0 K) (hg : AllGd ss0 m) (hn : 0 < n ∧ n ≤ 4) (hm : m ≤ 1000) (hK : K ≤ 10000) (hs : Sents w S' a) (hlow : ∀ b, S' b → b < base) :
 Calls Tryz.prog 14 #[.slice A n c] w fun e w' => e = .returned (.bool true) ∧ Play8 w' base A n c (allOf n ss0) (K + n * (n * 40)) ∧ Below base w w' := by
 have HP0 := hid hP
 have Hg := hid hg
 have Hs := hid hs
 have Hlow := hid hlow
 have hlow0 := hP.low
 obtain ⟨q, hq⟩ : ∃ q, q = n * 40 := ⟨_, rfl⟩
 have hqi : (n : Int) * 40 = (q : Int) := by omega
 have hnq : n * q ≤ 640 := by
  have : n * q ≤ 4 * 160 := Nat.mul_le_mul hn.2 (by omega)
  omega
 rw [← hq]
 have Hq := hid hq
 clear hP hg hs hlow hq
 go_enter Tryz.func14, Tryz.ntmps14
 repeat' (first | go_step)
 go_loopw [3] (fun i wr => ∃ (k : Nat) (sk : List Lg), i = .int .i64 k ∧ k ≤ n ∧ sk = (List.range k).foldl (allRound n) ss0 ∧ AllGd sk (m + k * q) ∧ Play8 wr base A n c sk (K + k * q) ∧ Below base w wr) (fun i _ => n - (intOf i).toNat)
 case atStart => exact ⟨0, ss0, rfl, Nat.zero_le _, rfl, by simpa using Hg.out, by simpa using HP0.out, Below.refl _ _⟩
 case round =>
  obtain ⟨k, sk, rfl, hk, hsk, hgk, hPk, hbk⟩ := hrel
  have HPk := hid hPk
  have Hgk := hid hgk
  have Hsk0 := hid hsk
  have Hbk := hid hbk
  clear hPk hgk hsk hbk
  by_cases hlt : k < n
  · have hkn : (k : Int) < (n : Int) := by omega
    have hkq : k * q + q ≤ n * q := by
     have : (k + 1) * q ≤ n * q := Nat.mul_le_mul_right q (by omega)
     rw [Nat.succ_mul] at this
     exact this
    obtain ⟨kq, hkq'⟩ : ∃ kq, kq = k * q := ⟨_, rfl⟩
    rw [← hkq'] at hkq HPk Hgk
    have Hkq := hid hkq'
    clear hkq'
    repeat' (first | go_step)
    go_loopw [4] (fun i wr => ∃ (j : Nat) (ss : List Lg), i = .int .i64 j ∧ j ≤ q ∧ ss = (List.range j).foldl (allStep k n) sk ∧ Play8 wr base A n c ss (K + kq + j) ∧ Below base w wr) (fun i _ => q - (intOf i).toNat)
    case atStart => exact ⟨0, sk, rfl, Nat.zero_le _, rfl, HPk.out, Hbk.out⟩
    case round =>
     clear HPk Hbk
     obtain ⟨j, ss, rfl, hj, hss, hP, hbw⟩ := hrel
     have HP := hid hP
     have Hss := hid hss
     have hSl := hP.len
     clear hP hss
     by_cases hlt2 : j < q
     · have hjq : (j : Int) < (q : Int) := by omega
       have hgd : AllGd ss (m + kq + j) := by
        have := allGd_steps (k := k) (n := n) (List.range j) sk (m + kq) Hgk.out
        rw [List.length_range] at this
        rw [Hss.out]
        exact this
       obtain ⟨f, hf⟩ : ∃ f, f = j % n := ⟨_, rfl⟩
       have hfl : f < n := by rw [hf]; exact Nat.mod_lt _ hn.1
       have hrem : (j : Int).tmod (n : Int) = (f : Int) := by rw [hf]; rfl
       have hn0 : ¬ n = 0 := by omega
       have hfi : (f : Int) < (n : Int) := by omega
       obtain ⟨s, hsk⟩ : ∃ s, ss[k]? = some s := ⟨_, List.getElem?_eq_getElem (by omega)⟩
       obtain ⟨u, huk⟩ : ∃ u, ss[f]? = some u := ⟨_, List.getElem?_eq_getElem (by omega)⟩
       have hsn : (List.range (j + 1)).foldl (allStep k n) sk = ss.set k (getStep s u) := by
        rw [List.range_succ, List.foldl_append, ← Hss.out]
        exact allStep_at hf.symm hsk huk
       have Hsn := hid hsn
       have hgs := hid (hgd s (List.mem_of_getElem? hsk))
       have hgu := hid (hgd u (List.mem_of_getElem? huk))
       have Hsk := hid hsk
       have Huk := hid huk
       obtain ⟨KK, hKK⟩ : ∃ KK, KK = K + kq + j := ⟨_, rfl⟩
       have hfine : s.Fine KK := hgs.out.snd.fine (by omega) (by omega)
       have Hfine := hid hfine
       clear hsn hgd hf hsk huk hfine
       obtain ⟨b2, off2, sb, S2, rfl, k0, hb2l, nb2, hS, hnext⟩ := HP.out.at2 Hsk.out
       rw [← hKK] at hS hnext
       have HS := hid hS
       have Hnext := hid hnext
       have HsY := hid (Hs.out.keep fun b hb _ => hbw.block b (Hlow.out b hb))
       obtain ⟨gb, rb, Sa, Sb, hsb, hg, hr, g4, g5, g6, g7⟩ := hS
       obtain ⟨b3, off3, sb3, S3, hA3, k3, hb3l, hS3, -⟩ := HP.out.at_ Huk.out
       cases hA3
       obtain ⟨gb3, rb3, Sa3, Sb3, hsb3, hg3, hr3, -, -, -, -⟩ := hS3
       obtain ⟨P, hP⟩ : ∃ P, P = lackAct s.clk u.acts := ⟨_, rfl⟩
       obtain ⟨okb, hokb⟩ : ∃ okb, okb = lackOk s.clk u.acts := ⟨_, rfl⟩
       have HLK := hid (fun W (hb : Below wr.heap.size wr W) => lacks_any W rb rb3 Sb Sb3 s u (hr.step hb) (hr3.step hb) (by have := hgu.out.snd.acts; omega) (hgs.out.snd.clkIn (by omega)))
       rw [← hP, ← hokb] at HLK
       have hPI : P.In := by rw [hP]; exact lackAct_in hgu.out.ain
       have hget : getStep s u = if okb = true then s.takeOf P else s := by unfold getStep; rw [← hP, ← hokb]
       have HPI := hid hPI
       have Hget := hid hget
       have Hsb := hid hsb
       have Hsb3 := hid hsb3
       have tg : ¬ S2 wr.heap.size := fun h => Nat.lt_irrefl _ (g7 _ h).2
       have tg2 : ∀ x, wr.heap.size ≤ x → ¬ S2 x := fun x hx h => by have := (g7 _ h).2; omega
       have Tg2 := hid tg2
       simp only [Actn.agg] at HLK
       unfold Actn.vals at HLK
       clear hP hokb hPI hget hsb hg hr g4 g5 g6 g7 hsb3 hg3 hr3 hnext tg2
       repeat' (first | (with_reducible refine stop_region 7 ?_) | go_step)
       refine Stop.go ?_
       rename_i K2 hK2
       have HK2 := hid hK2
       clear hK2
       have hsd := Hsb.out.drew
       have s1 : wr.drew.cell? ⟨sb, 1, none⟩ = some (.pointer (some ⟨rb, 0, none⟩)) := hsd.cell 1
       have sl := hsd.lt
       have hsd3 := Hsb3.out.drew
       have s3 : wr.drew.cell? ⟨sb3, 1, none⟩ = some (.pointer (some ⟨rb3, 0, none⟩)) := hsd3.cell 1
       have sl3 := hsd3.lt
       have k4 : wr.drew.cell? ⟨b2, off2 + f, none⟩ = some (.pointer (some ⟨sb3, 0, none⟩)) := k3
       have k4' : wr.drew.cell? ⟨b2, off2 + k, none⟩ = some (.pointer (some ⟨sb, 0, none⟩)) := k0
       have b2d : b2 < wr.drew.heap.size := hb2l
       have bA : Below wr.heap.size wr (wr.alloc (.cells #[.int .i64 0, .int .i64 0, .int .i32 0, .int .i64 0, .int .i64 0, .int .i64 0, .int .i64 0, .int .i64 0, .int .i64 0, .int .i64 0, .int .i64 0, .int .i64 0, .int .i64 0] 46)).drew := bw1 wr _
       have k5 : (wr.alloc (.cells #[.int .i64 0, .int .i64 0, .int .i32 0, .int .i64 0, .int .i64 0, .int .i64 0, .int .i64 0, .int .i64 0, .int .i64 0, .int .i64 0, .int .i64 0, .int .i64 0, .int .i64 0] 46)).drew.cell? ⟨b2, off2 + f, none⟩ = some (.pointer (some ⟨sb3, 0, none⟩)) := kc bA k3
       have k5' : (wr.alloc (.cells #[.int .i64 0, .int .i64 0, .int .i32 0, .int .i64 0, .int .i64 0, .int .i64 0, .int .i64 0, .int .i64 0, .int .i64 0, .int .i64 0, .int .i64 0, .int .i64 0, .int .i64 0] 46)).drew.cell? ⟨b2, off2 + k, none⟩ = some (.pointer (some ⟨sb, 0, none⟩)) := kc bA k0
       have s5 : (wr.alloc (.cells #[.int .i64 0, .int .i64 0, .int .i32 0, .int .i64 0, .int .i64 0, .int .i64 0, .int .i64 0, .int .i64 0, .int .i64 0, .int .i64 0, .int .i64 0, .int .i64 0, .int .i64 0] 46)).drew.cell? ⟨sb3, 1, none⟩ = some (.pointer (some ⟨rb3, 0, none⟩)) := (Hsb3.out.step bA).cell 1
       have s6 : (wr.alloc (.cells #[.int .i64 0, .int .i64 0, .int .i32 0, .int .i64 0, .int .i64 0, .int .i64 0, .int .i64 0, .int .i64 0, .int .i64 0, .int .i64 0, .int .i64 0, .int .i64 0, .int .i64 0] 46)).drew.cell? ⟨sb, 1, none⟩ = some (.pointer (some ⟨rb, 0, none⟩)) := (Hsb.out.step bA).cell 1
       have b2e : b2 < (wr.alloc (.cells #[.int .i64 0, .int .i64 0, .int .i32 0, .int .i64 0, .int .i64 0, .int .i64 0, .int .i64 0, .int .i64 0, .int .i64 0, .int .i64 0, .int .i64 0, .int .i64 0, .int .i64 0] 46)).drew.heap.size := Nat.lt_of_lt_of_le hb2l bA.size
       clear hsd hsd3 k3 bA
       repeat' (first | ((with_reducible refine region_at 7 ?_); refine wp_region_ordT (fun _ => True) (rgo [0,4,8,12,16,20,24,28,32,36,40,44,48,52,56,60,64] (.two 17 21 (rgo [72,76,80,85,91,92] .nil) (rgo [69,72,76,80,91,92] .nil))) (by kernel_rfl) (by kernel_rfl) (by kernel_rfl) rfl rfl ?_) | (with_reducible refine Keep.last ?_) | (with_reducible refine Keep.allocD ?_) | (go_at_call 50; go_must (first | ((with_reducible refine Calls.mono (HLK.out wr.drew (bw0 wr)) ?_); go_must (rintro _ w3 ⟨rfl, hb3⟩; have hk3 : KeepT (fun _ => True) wr.drew w3 := KeepT.of_below hb3; have hF := hid (box_c (S := fun _ => False) (t := 46) (cs := #[.int .i64 P.op.kind, .int .i64 P.op.at_, .int .i32 P.op.char, .int .i64 P.op.rep, .int .i64 P.num, .int .i64 P.clk.c0, .int .i64 P.clk.c1, .int .i64 P.clk.c2, .int .i64 P.clk.c3, .int .i64 P.clk.c4, .int .i64 P.clk.c5, .int .i64 P.clk.c6, .int .i64 P.clk.c7]) (Out.of_below hb3)); have hb3 := hid hb3; dsimp only)) | ((with_reducible refine Calls.mono (HLK.out (wr.alloc (.cells #[.int .i64 0, .int .i64 0, .int .i32 0, .int .i64 0, .int .i64 0, .int .i64 0, .int .i64 0, .int .i64 0, .int .i64 0, .int .i64 0, .int .i64 0, .int .i64 0, .int .i64 0] 46)).drew (bw1 wr _)) ?_); go_must (rintro _ w3 ⟨rfl, hb3⟩; have hk3 : KeepT (fun _ => True) (wr.alloc (.cells #[.int .i64 0, .int .i64 0, .int .i32 0, .int .i64 0, .int .i64 0, .int .i64 0, .int .i64 0, .int .i64 0, .int .i64 0, .int .i64 0, .int .i64 0, .int .i64 0, .int .i64 0] 46)).drew w3 := KeepT.of_below hb3; have hz := (Blk.new wr 46 #[.int .i64 0, .int .i64 0, .int .i32 0, .int .i64 0, .int .i64 0, .int .i64 0, .int .i64 0, .int .i64 0, .int .i64 0, .int .i64 0, .int .i64 0, .int .i64 0, .int .i64 0]).drew.step hb3; obtain ⟨zl, z0, z1, z2, z3, z4, z5, z6, z7, z8, z9, z10, z11, z12, f0, f1, f2, f3, f4, f5, f6, f7, f8, f9, f10, f11, f12⟩ := bl13 hz; clear hz; have hF := hid (box_a (S := fun _ => False) (t := 46) (cs := #[.int .i64 P.op.kind, .int .i64 P.op.at_, .int .i32 P.op.char, .int .i64 P.op.rep, .int .i64 P.num, .int .i64 P.clk.c0, .int .i64 P.clk.c1, .int .i64 P.clk.c2, .int .i64 P.clk.c3, .int .i64 P.clk.c4, .int .i64 P.clk.c5, .int .i64 P.clk.c6, .int .i64 P.clk.c7]) (Out.of_below hb3) (fun h => h) (act13_cells #[.int .i64 0, .int .i64 0, .int .i32 0, .int .i64 0, .int .i64 0, .int .i64 0, .int .i64 0, .int .i64 0, .int .i64 0, .int .i64 0, .int .i64 0, .int .i64 0, .int .i64 0] P rfl)); have hb3 := hid hb3; dsimp only)))) | (with_reducible first | refine Keep.below (by assumption) ?_ | refine Keep.alloc ?_) | ((with_reducible refine WpO.here ?_); first | (refine WpO.done ?_; refine NoP.normal ?_) | ((first | refine WpO.load (by rfl) (by rfl) (by go_simp; rfl) ?_ | refine WpO.pure (by rfl) (fun w_ => by go_simp; (try go_bits); rfl) ?_); go_frame) | refine WpO.wild ?_ | refine WpO.two ?_ ?_) | ((with_reducible refine wildO.here ?_); (refine wildO.go (by rfl) (fun _ _ => ?_))) | go_step)
       all_goals (try rw [sets13])
       all_goals clear s1 sl s3 sl3 k4 k4' k5 k5' s5 s6 b2d b2e
       all_goals (try clear hk3)
       · have hBP := hF.out.b
         have hgS := Tg2.out _ hF.out.g
         have hBZ := hF.out.below hb3.out
         clear hF hb3
         refine HK2.out _ _ ?_
         try dsimp only
         generalize w3.alloc (.cells #[.int .i64 P.op.kind, .int .i64 P.op.at_, .int .i32 P.op.char, .int .i64 P.op.rep, .int .i64 P.num, .int .i64 P.clk.c0, .int .i64 P.clk.c1, .int .i64 P.clk.c2, .int .i64 P.clk.c3, .int .i64 P.clk.c4, .int .i64 P.clk.c5, .int .i64 P.clk.c6, .int .i64 P.clk.c7] 46) = Z at *
         generalize w3.heap.size = g at *
         cases okb
         · clear hBP
           repeat' (first | ((with_reducible refine region_at 8 ?_); refine wp_region_ordT (fun _ => True) (rgo [0,4,8,12,16,20,24,29,32,36] .nil) (by kernel_rfl) (by kernel_rfl) (by kernel_rfl) rfl rfl ?_) | ((with_reducible refine WpO.here ?_); first | (refine WpO.done ?_; refine NoP.normal ?_) | ((first | refine WpO.pure (by rfl) (fun w_ => by go_simp; (try go_bits); rfl) ?_ | refine WpO.skip (by rfl) ?_); go_frame)) | go_step)
           go_roundw
           case rel =>
            refine ⟨j + 1, ss, by go_num, by omega, ?_, (HP.out.step (bdrew hBZ)).monoK (by omega), hbw.trans ((bdrew hBZ).mono HP.out.low)⟩
            rw [Hsn.out, Hget.out, if_neg (by simp), set_same9 Hsk.out]
           case measure => simp [intOf]; omega
         · have hBD := hBP.drew
           obtain ⟨x0, x1, x2, x3, x4, x5, x6, x7, x8, x9, x10, x11, x12⟩ := cl13 (w := Z.drew) (g := g) hBD
           have xl := hBD.lt
           have k6 : Z.drew.cell? ⟨b2, off2 + k, none⟩ = some (.pointer (some ⟨sb, 0, none⟩)) := kc (bdrew hBZ) k0
           obtain ⟨cs6, u6, z6, q6⟩ := obj_of_cell k6
           have q6 : Z.drew.heap[b2]? = some (.cells cs6 u6 z6) := q6
           have qg : Z.drew.heap[g]? = some (.cells _ 46 (0, 0)) := hBD
           have bl6 : b2 < Z.drew.heap.size := Nat.lt_of_lt_of_le hb2l (bdrew hBZ).size
           have HT := hid (site_take (a := a) Z.drew base sb KK S2 S' s P (HS.out.step (bdrew hBZ)) Hfine.out HPI.out (HsY.out.step (bdrew hBZ)) Hlow.out)
           simp only [Actn.agg] at HT
           unfold Actn.vals at HT
           have HBZ := hid (bdrew hBZ)
           clear hBP hBZ hBD
           repeat' (first | ((with_reducible refine region_at 8 ?_); refine wp_region_ordT (fun b => ¬ S2 b) (rgo [0,4,8,12,16,20,24,29,32,36] .nil) (by kernel_rfl) (by kernel_rfl) (by kernel_rfl) rfl rfl ?_) | (go_at_call 32; go_must ((with_reducible refine Calls.mono HT.out ?_); rintro _ w5 ⟨rfl, hS5, hO5⟩; have hk5 : KeepT (fun b => ¬ S2 b) Z.drew w5 := ⟨hO5.size, fun b hl hb => hO5.block b hl hb⟩; have HS5 := hid hS5; have HO5 := hid hO5; clear hS5 hO5; dsimp only)) | (with_reducible refine Keep.kept (by assumption) ?_) | ((with_reducible refine WpO.here ?_); first | (refine WpO.done ?_; refine NoP.normal ?_) | ((first | refine WpO.loadT (by rfl) (by rfl) (by go_simp; rfl) (by rintro _ _ ⟨⟩; exact ⟨_, _, _, _, _, _, by rfl, by assumption, by assumption⟩) ?_ | refine WpO.pure (by rfl) (fun w_ => by go_simp; (try go_bits); rfl) ?_); go_frame) | refine WpO.wild ?_) | ((with_reducible refine wildO.here ?_); (refine wildO.go (by rfl) (fun _ _ => ?_))) | go_step)
           have hnx := Hnext.out Z.drew w5 (s.takeOf P) HBZ.out HS5.out HO5.out
           go_roundw
           case rel =>
            refine ⟨j + 1, _, by go_num, by omega, ?_, hnx.1.monoK (by omega), hbw.trans hnx.2⟩
            rw [Hsn.out, Hget.out, if_pos rfl]
           case measure => simp [intOf]; omega
       · clear z0 f0 z1 f1 z2 f2 z3 f3 z4 f4 z5 f5 z6 f6 z7 f7 z8 f8 z9 f9 z10 f10 z11 f11 z12 f12 zl
         have hBP := hF.out.b
         have hgS := Tg2.out _ hF.out.g
         have hBZ := hF.out.below hb3.out
         clear hF hb3
         refine HK2.out _ _ ?_
         try dsimp only
         generalize setsAt wr.heap.size (act13 P) w3 = Z at *
         obtain ⟨g, hg⟩ : ∃ g, g = wr.heap.size := ⟨_, rfl⟩
         rw [← hg] at hBP hgS ⊢
         clear hg
         cases okb
         · clear hBP
           repeat' (first | ((with_reducible refine region_at 8 ?_); refine wp_region_ordT (fun _ => True) (rgo [0,4,8,12,16,20,24,29,32,36] .nil) (by kernel_rfl) (by kernel_rfl) (by kernel_rfl) rfl rfl ?_) | ((with_reducible refine WpO.here ?_); first | (refine WpO.done ?_; refine NoP.normal ?_) | ((first | refine WpO.pure (by rfl) (fun w_ => by go_simp; (try go_bits); rfl) ?_ | refine WpO.skip (by rfl) ?_); go_frame)) | go_step)
           go_roundw
           case rel =>
            refine ⟨j + 1, ss, by go_num, by omega, ?_, (HP.out.step (bdrew hBZ)).monoK (by omega), hbw.trans ((bdrew hBZ).mono HP.out.low)⟩
            rw [Hsn.out, Hget.out, if_neg (by simp), set_same9 Hsk.out]
           case measure => simp [intOf]; omega
         · have hBD := hBP.drew
           obtain ⟨x0, x1, x2, x3, x4, x5, x6, x7, x8, x9, x10, x11, x12⟩ := cl13 (w := Z.drew) (g := g) hBD
           have xl := hBD.lt
           have k6 : Z.drew.cell? ⟨b2, off2 + k, none⟩ = some (.pointer (some ⟨sb, 0, none⟩)) := kc (bdrew hBZ) k0
           obtain ⟨cs6, u6, z6, q6⟩ := obj_of_cell k6
           have q6 : Z.drew.heap[b2]? = some (.cells cs6 u6 z6) := q6
           have qg : Z.drew.heap[g]? = some (.cells _ 46 (0, 0)) := hBD
           have bl6 : b2 < Z.drew.heap.size := Nat.lt_of_lt_of_le hb2l (bdrew hBZ).size
           have HT := hid (site_take (a := a) Z.drew base sb KK S2 S' s P (HS.out.step (bdrew hBZ)) Hfine.out HPI.out (HsY.out.step (bdrew hBZ)) Hlow.out)
           simp only [Actn.agg] at HT
           unfold Actn.vals at HT
           have HBZ := hid (bdrew hBZ)
           clear hBP hBZ hBD
           repeat' (first | ((with_reducible refine region_at 8 ?_); refine wp_region_ordT (fun b => ¬ S2 b) (rgo [0,4,8,12,16,20,24,29,32,36] .nil) (by kernel_rfl) (by kernel_rfl) (by kernel_rfl) rfl rfl ?_) | (go_at_call 32; go_must ((with_reducible refine Calls.mono HT.out ?_); rintro _ w5 ⟨rfl, hS5, hO5⟩; have hk5 : KeepT (fun b => ¬ S2 b) Z.drew w5 := ⟨hO5.size, fun b hl hb => hO5.block b hl hb⟩; have HS5 := hid hS5; have HO5 := hid hO5; clear hS5 hO5; dsimp only)) | (with_reducible refine Keep.kept (by assumption) ?_) | ((with_reducible refine WpO.here ?_); first | (refine WpO.done ?_; refine NoP.normal ?_) | ((first | refine WpO.loadT (by rfl) (by rfl) (by go_simp; rfl) (by rintro _ _ ⟨⟩; exact ⟨_, _, _, _, _, _, by rfl, by assumption, by assumption⟩) ?_ | refine WpO.pure (by rfl) (fun w_ => by go_simp; (try go_bits); rfl) ?_); go_frame) | refine WpO.wild ?_) | ((with_reducible refine wildO.here ?_); (refine wildO.go (by rfl) (fun _ _ => ?_))) | go_step)
           have hnx := Hnext.out Z.drew w5 (s.takeOf P) HBZ.out HS5.out HO5.out
           go_roundw
           case rel =>
            refine ⟨j + 1, _, by go_num, by omega, ?_, hnx.1.monoK (by omega), hbw.trans hnx.2⟩
            rw [Hsn.out, Hget.out, if_pos rfl]
           case measure => simp [intOf]; omega
     · obtain rfl : j = q := by omega
       repeat' (first | go_step)
       go_roundw
       case rel =>
        have hgd := allGd_steps (k := k) (n := n) (List.range j) sk (m + kq) Hgk.out
        rw [List.length_range] at hgd
        refine ⟨k + 1, ss, by go_num, by omega, ?_, ?_, ?_, hbw⟩
        · rw [List.range_succ, List.foldl_append, ← Hsk0.out, List.foldl_cons, List.foldl_nil]
          unfold allRound
          rw [← Hq.out]
          exact Hss.out
        · rw [Nat.succ_mul, ← Hkq.out, ← Nat.add_assoc, Hss.out]
          exact hgd
        · rw [Nat.succ_mul, ← Hkq.out, ← Nat.add_assoc]
          exact HP.out
       case measure => simp [intOf]; omega
  · obtain rfl : k = n := by omega
    repeat' (first | go_step)
    go_ret
    refine ⟨rfl, ?_, Hbk.out⟩
    have : allOf k ss0 = sk := Hsk0.out.symm
    rw [this]
    exact HPk.out
end Go.Proofs.YteggpddlkkjmjaaGreatDoor
