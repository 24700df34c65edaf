/- Part of a proof: what functions of the program compute. Conditions: as each theorem says. -/
import Derived.Maps.RangeWalk
import Derived.Test.YteggpddlkkjmjaaGreatDoorQ43
import Derived.Test.YteggpddlkkjmjaaGreatDoorQ46
import Derived.Test.YteggpddlkkjmjaaGreatDoorQ64
import Derived.Test.YteggpddlkkjmjaaGreatDoorQ72
import Derived.Test.YteggpddlkkjmjaaGreatDoorQ77
import Derived.Test.YteggpddlkkjmjaaGreatDoorQ8
set_option linter.unusedSimpArgs false
set_option linter.unusedVariables false
set_option maxHeartbeats 16000000
set_option maxRecDepth 200000
namespace Go.Proofs.YteggpddlkkjmjaaGreatDoor
open Go Go.RowKit
variable {a : Nat → Addr}
theorem hforms_true (w : World) (k : Int) (A B : Option Addr) (n c m d : Nat) (l : List Int) (vs : List Mv8) (S S1 S' : Nat → Prop) (hl : GRow w S A n c (l.map Rn8.mk)) (hli : ∀ e ∈ l, I32 e) (hv : GRow w S1 B m d vs) (hvi : ∀ v ∈ vs, v.In) (hs : Sents w S' a) (hlow : ∀ b, S' b → b < w.heap.size) :
 Calls Tryz.prog 3 #[.agg #[.int .i64 k, .slice A n c, .slice B m d]] w fun e w' => e = .returned (.bool true) ∧ Below w.heap.size w w' := by
 have hb0 := balloc (o := .cells #[.int .i64 k, .slice A n c, .slice B m d] 25) (Below.refl w.heap.size w)
 have hX := Blk.new w 25 #[.int .i64 k, .slice A n c, .slice B m d]
 have HPL := hid (fun W (hb : Below w.heap.size w W) => played_any (a := a) W k A B n c m d l vs S S1 S' (hl.step hb) hli (hv.step hb) hvi (hs.step hb) fun b h => Nat.lt_of_lt_of_le (hlow b h) hb.size)
 have hn8 := sitesN_pos k
 have hgd := playedOf_gd (n := sitesN k) (by omega) l vs hvi
 obtain ⟨G, hG, hGl⟩ := playedOf_sess (n := sitesN k) (by omega) l vs hvi
 have hlen := playedOf_length (sitesN k) l vs
 obtain ⟨nn, hnn⟩ : ∃ nn, nn = sitesN k := ⟨_, rfl⟩
 rw [← hnn] at HPL hgd hn8 hlen hG
 have hnq : nn * (nn * 40) ≤ 640 := by
  have : nn * (nn * 40) ≤ 4 * 160 := Nat.mul_le_mul hn8.2 (by omega)
  omega
 have Hgd := hid hgd
 have HG := hid hG
 have Hs := hid hs
 have Hlow := hid hlow
 clear hl hli hv hvi hs hlow hgd hnn hG
 go_enter Tryz.func3, Tryz.ntmps3
 repeat' (first | (with_reducible refine stop_region 1 ?_) | go_step)
 refine Stop.go ?_
 have HPL := hid (HPL.out _ hb0)
 generalize w.alloc (.cells #[.int .i64 k, .slice A n c, .slice B m d] 25) = X at *
 have p0 : X.cell? ⟨w.heap.size, 0, none⟩ = some (.int .i64 k) := hX.cell 0
 have p1 : X.cell? ⟨w.heap.size, 1, none⟩ = some (.slice A n c) := hX.cell 1
 have p2 : X.cell? ⟨w.heap.size, 2, none⟩ = some (.slice B m d) := hX.cell 2
 have pl := hX.lt
 clear hX
 generalize playedOf nn l vs = ss0 at *
 repeat' (first | (go_at_call 13; go_must ((with_reducible refine Calls.mono HPL.out ?_); rintro _ w1 ⟨A1, c1, base, rfl, hP, hbase, hb1⟩; have HP := hid hP; clear hP; dsimp only)) | (with_reducible refine stop_region 2 ?_) | go_step)
 refine Stop.go ?_
 clear p0 p1 p2 pl HPL
 have B1 := bvia hb0 hb1
 have hbX := hid (show w.heap.size ≤ base by have := hb0.size; omega)
 have HAL := hid (sites_all (a := a) w1 base A1 nn c1 60 40 ss0 S' HP.out Hgd.out (by omega) (by omega) (by omega) (Hs.out.step B1) fun b hb => Nat.lt_of_lt_of_le (Hlow.out b hb) hbX.out)
 obtain ⟨b0, off0, sbx, S0, rfl, -⟩ := HP.out.at_ (k := 0) (List.getElem?_eq_getElem (show 0 < ss0.length by omega))
 have hnl := Lib.run_eql_slice_nil w1 26 _ (some ⟨b0, off0, none⟩) nn c1 0 0 Tryz.underlying26
 have hlen2 : (allOf nn ss0).length = nn := by unfold allOf; rw [allRounds_length]; exact hlen
 have hall := allRounds_inv nn (List.range nn) ss0 40 HG.out Hgd.out (by rw [List.length_range]; omega)
 have Hgd2 := hid hall.2
 have HG2 : Hid (Sess G (base8 l (min l.length 20)) (allOf nn ss0)) := hid hall.1
 rw [List.length_range] at Hgd2
 have Hgd2 : Hid (AllGd (allOf nn ss0) (40 + nn * (nn * 40))) := Hgd2
 clear hall
 generalize allOf nn ss0 = ss at *
 repeat' (first | (go_at_call 14; go_must ((with_reducible refine Calls.mono HAL.out ?_); rintro _ w2 ⟨rfl, hP2, hb2⟩; have HP2 := hid hP2; clear hP2; dsimp only)) | (with_reducible refine stop_region 4 ?_) | go_guarded | go_step)
 refine Stop.go ?_
 clear hnl HAL
 have B2 : Below w.heap.size w w2 := B1.trans (hb2.mono hbX.out)
 repeat' (first | go_step)
 go_loopw [4] (fun i wr => ∃ (j : Nat), i = .int .i64 j ∧ j ≤ nn ∧ Below w2.heap.size w2 wr) (fun i _ => nn - (intOf i).toNat)
 case atStart => exact ⟨0, rfl, Nat.zero_le _, Below.refl _ _⟩
 case round =>
  obtain ⟨j, rfl, hj, hbw⟩ := hrel
  have Bwr := bvia B2 hbw
  by_cases hlt : j < nn
  · have hjn : (j : Int) < (nn : Int) := by omega
    obtain ⟨s, hsj⟩ : ∃ s, ss[j]? = some s := ⟨_, List.getElem?_eq_getElem (by omega)⟩
    have hgs := hid (Hgd2.out s (List.mem_of_getElem? hsj))
    have hss := HG2.out.site j s hsj
    have hRun : Run G 5 (base8 l (min l.length 20)) s.acts s.forms s.clk s.l := by
     have h1 := hss.2.2.1
     unfold Lg.Runs at h1
     rw [hss.1, hss.2.1] at h1
     exact h1
    have HRun := hid hRun
    obtain ⟨b9, off9, sb, T, hA2, k0, hb2l0, hS, -⟩ := (HP2.out.step hbw).at_ hsj
    cases hA2
    obtain ⟨gb, rb, Sa, Sb, hsb, hg, hr, -⟩ := hS
    have hal : s.acts.length ≤ 1000 := by have := hgs.out.snd.acts; omega
    have K0 := hid k0
    have Hsb := hid hsb
    have Hg := hid hg
    have sc : wr.cell? ⟨sb, 0, none⟩ = some (.pointer (some ⟨gb, 0, none⟩)) := hsb.cell 0
    have sl := hsb.lt
    have HAC := hid (hacts_any wr _ gb _ s hg (by omega))
    clear hsj hss hRun hsb hg hr
    repeat' (first | (go_at_call 15; go_must ((with_reducible refine Calls.mono HAC.out ?_); rintro _ w5 ⟨A5, c5, rfl, ho5, hb5⟩; have Ho5 := hid ho5; clear ho5; dsimp only)) | (with_reducible refine stop_region 8 ?_) | go_step)
    refine Stop.go ?_
    clear k0 sc sl HAC
    repeat' (first | go_step)
    go_loopw [6] (fun i wq => ∃ (t : Nat), i = .int .i64 t ∧ t ≤ s.acts.length ∧ t ≤ 10 ∧ Below w5.heap.size w5 wq) (fun i _ => s.acts.length - (intOf i).toNat)
    case atStart => exact ⟨0, rfl, Nat.zero_le _, Nat.zero_le _, Below.refl _ _⟩
    case round =>
     obtain ⟨t, rfl, ht, ht10, hbq⟩ := hrel
     have D5 := bvia hb5 hbq
     by_cases hlt2 : t < s.acts.length ∧ t < 10
     · obtain ⟨hlt3, hlt4⟩ := hlt2
       have htl : (t : Int) < (s.acts.length : Int) := by omega
       have ht9 : (t : Int) < 10 := by omega
       obtain ⟨o, ho⟩ : ∃ o, s.forms[t]? = some o := ⟨_, List.getElem?_eq_getElem (by rw [hgs.out.fl]; exact hlt3)⟩
       obtain ⟨x, hx⟩ : ∃ x, s.acts[t]? = some x := ⟨_, List.getElem?_eq_getElem hlt3⟩
       have hfx := formed_at (n := 10) HG2.out.web HRun.out hx ho (by omega)
       have hxI := hgs.out.ain x (List.mem_of_getElem? hx)
       have Hx := hid hx
       have Ho := hid ho
       have Hfx := hid hfx
       have HxI := hid hxI
       have k1 := kc D5 K0.out
       have k1l := Nat.lt_of_lt_of_le hb2l0 D5.size
       have sq := Hsb.out.step D5
       have sc : wr.cell? ⟨sb, 0, none⟩ = some (.pointer (some ⟨gb, 0, none⟩)) := sq.cell 0
       have sl := sq.lt
       have HFM := hid (hform_ok wr _ gb _ t s o (Hg.out.step D5) ho (by rw [hgs.out.fl]; omega))
       simp only [Opn.agg] at HFM
       clear sq hx ho hfx hxI
       repeat' (first | (go_at_call 16; go_must ((with_reducible refine Calls.mono HFM.out ?_); rintro _ w7 ⟨rfl, hb7⟩; dsimp only)) | (with_reducible refine stop_region 12 ?_) | go_guarded | go_step)
       refine Stop.go ?_
       clear k1 k1l sc sl
       have e7 : Below w7.heap.size w7 (w7.alloc (.cells #[.int .i64 o.kind, .int .i64 o.at_, .int .i32 o.char, .int .i64 o.rep] 37)) := balloc (Below.refl _ _)
       have hq2 := Blk.new w7 37 #[.int .i64 o.kind, .int .i64 o.at_, .int .i32 o.char, .int .i64 o.rep]
       have e8 := bvia hb7 e7
       clear e7
       generalize w7.alloc (.cells #[.int .i64 o.kind, .int .i64 o.at_, .int .i32 o.char, .int .i64 o.rep] 37) = Q at *
       generalize w7.heap.size = g2 at *
       have dd : Below wr.heap.size wr Q.drew := bdrew e8
       have hqd := hq2.drew
       obtain ⟨o0, o1, o2, o3⟩ := cl4 (w := Q.drew) (g := g2) hqd
       have ol := hqd.lt
       have hrowQ := ((Ho5.out.row (S := fun _ => True) fun _ _ _ => trivial).step (bvia hbq dd))
       obtain ⟨b, off, x', hA5, -, hbl', hxt, hcell⟩ := hrowQ.at_ hlt3
       obtain rfl : x = x' := Option.some.inj (Hx.out.symm.trans hxt)
       obtain ⟨c0, c1, c2_, c3_, c4, c5_, c6, c7, c8, c9, c10, c11, c12⟩ := rc13 (w := Q.drew) (b := b) (o := off + t * 13) x hcell
       have hcap := (Ho5.out.cap_le).1
       have hcap2 := (Ho5.out.cap_le).2
       unfold maxLen at hcap2
       have htc : t ≤ c5 := by omega
       have HFD := hid (formed_any 10 Q.drew A5 t c5 (s.acts.take t) _ x 0 (hrowQ.take_ (by omega)) (by omega) (by omega) HxI.out (fun y hy => hgs.out.ain y (List.mem_of_mem_take hy)) (by omega) (by omega))
       rw [Hfx.out] at HFD
       simp only [Actn.agg, Opn.agg] at HFD
       unfold Actn.vals at HFD
       subst hA5
       clear hqd hrowQ hcell hxt
       repeat' (first | ((with_reducible refine region_at 12 ?_); refine wp_region_ordT (fun _ => True) (rgo [0,4,8,12,16,20,24,28,32,36,40,45,48,52] .nil) (by kernel_rfl) (by kernel_rfl) (by kernel_rfl) rfl rfl ?_) | (go_at_call 17; go_must ((with_reducible refine Calls.mono HFD.out ?_); rintro _ w8 ⟨rfl, hb8⟩; have hk8 := KeepT.of_below (T := fun _ => True) hb8; dsimp only)) | (with_reducible refine Keep.below (by assumption) ?_) | ((with_reducible refine WpO.here ?_); first | (refine WpO.done ?_; refine NoP.normal ?_) | ((first | refine WpO.load (by rfl) (by rfl) (by go_simp; rfl) ?_ | refine WpO.pure (by rfl) (fun w_ => by go_simp; (try go_bits); rfl) ?_); go_frame) | refine WpO.wild ?_) | ((with_reducible refine wildO.here ?_); (refine wildO.go (by rfl) (fun _ _ => ?_))) | go_step)
       go_roundw
       case rel => exact ⟨t + 1, by go_num, by omega, by omega, bvia hbq (bvia dd hb8)⟩
       case measure => simp [intOf]; omega
     · by_cases h1 : t < s.acts.length
       · have htl : (t : Int) < (s.acts.length : Int) := by omega
         have ht9 : ¬ (t : Int) < 10 := by omega
         clear hlt2
         repeat' (first | go_guarded | go_step)
         go_roundw
         case rel => exact ⟨j + 1, by go_num, by omega, bvia hbw D5⟩
         case measure => simp [intOf]; omega
       · have htl : ¬ (t : Int) < (s.acts.length : Int) := by omega
         clear hlt2
         repeat' (first | go_guarded | go_step)
         go_roundw
         case rel => exact ⟨j + 1, by go_num, by omega, bvia hbw D5⟩
         case measure => simp [intOf]; omega
  · obtain rfl : j = nn := by omega
    repeat' (first | (go_at_call 18; go_must ((with_reducible refine Calls.mono (wakes8_any (a := a) wr S' (Hs.out.step Bwr) (fun b hb => Nat.lt_of_lt_of_le (Hlow.out b hb) (Bwr).size)) ?_); rintro _ w9 ⟨rfl, hb9⟩; dsimp only)) | go_step)
    go_ret
    exact ⟨rfl, bvia Bwr hb9⟩
end Go.Proofs.YteggpddlkkjmjaaGreatDoor
