/- Part of a proof: what functions of the program compute. Conditions: as each theorem says. -/
import Derived.Maps.RangeWalk
import Derived.Test.YteggpddlkkjmjaaGreatDoorQ22
import Derived.Test.YteggpddlkkjmjaaGreatDoorQ42
import Derived.Test.YteggpddlkkjmjaaGreatDoorQ43
import Derived.Test.YteggpddlkkjmjaaGreatDoorQ46
import Derived.Test.YteggpddlkkjmjaaGreatDoorQ67
import Derived.Test.YteggpddlkkjmjaaGreatDoorQ72
import Derived.Test.YteggpddlkkjmjaaGreatDoorQ73
set_option linter.unusedSimpArgs false
set_option linter.unusedVariables false
set_option maxHeartbeats 16000000
set_option maxRecDepth 200000
namespace Go.Proofs.YteggpddlkkjmjaaGreatDoor
open Go Go.RowKit
variable {a : Nat → Addr}
theorem obj_of_cell9 {w : World} {a : Addr} {v : Value} (h : w.cell? a = some v) : ∃ cs u z, w.heap[a.block]? = some (.cells cs u z) := by
 unfold World.cell? at h
 cases hh : w.heap[a.block]? with
 | none => rw [hh] at h; cases h
 | some o =>
  rw [hh] at h
  cases o <;> first | exact ⟨_, _, _, rfl⟩ | (simp at h)
structure Mid8 (w : World) (b0 : Nat) (G : List Actn) (b : List El) (L : List Actn) (F : List Opn) (gb sb : Nat) (vs : Array Value) (AL : Option Addr) (cl nl : Nat) (K : Nat) (i : Nat) (r : Lg) (Sg : Nat → Prop) : Prop where
 at_ : AgainAt G b L F i r
 gd : r.Gd i
 log : LogAt w Sg gb r (K + i)
 sg : ∀ x, Sg x → b0 ≤ x ∧ x < w.heap.size
 site : Blk w sb 33 vs
 ns : ¬ Sg sb
 row : GRow w (rowB AL) AL nl cl L
 nr : ∀ x, rowB AL x → ¬ Sg x
 rl : ∀ x, rowB AL x → x < w.heap.size
theorem Mid8.step {w w' : World} {b0 : Nat} {G : List Actn} {b : List El} {L : List Actn} {F : List Opn} {gb sb : Nat} {vs : Array Value} {AL : Option Addr} {cl nl K i : Nat} {r : Lg} {Sg : Nat → Prop} (h : Mid8 w b0 G b L F gb sb vs AL cl nl K i r Sg) (hb : Below w.heap.size w w') : Mid8 w' b0 G b L F gb sb vs AL cl nl K i r Sg :=
 ⟨h.at_, h.gd, h.log.step hb, fun x hx => ⟨(h.sg x hx).1, Nat.lt_of_lt_of_le (h.sg x hx).2 hb.size⟩, h.site.step hb, h.ns, h.row.step hb, h.nr, fun x hx => Nat.lt_of_lt_of_le (h.rl x hx) hb.size⟩
theorem Mid8.next {w Z : World} {b0 : Nat} {G : List Actn} {b : List El} {L : List Actn} {F : List Opn} {gb sb : Nat} {vs : Array Value} {AL : Option Addr} {cl nl K i : Nat} {r : Lg} {Sg : Nat → Prop} (h : Mid8 w b0 G b L F gb sb vs AL cl nl K i r Sg) (hlow : b0 ≤ w.heap.size) {x : Actn} (hx : x.In) (ha : AgainAt G b L F (i + 1) (r.takeOf x)) (hL : LogAt Z (Fr w Sg) gb (r.takeOf x) (K + i + 1)) (hO : Out Sg w Z) :
 Mid8 Z b0 G b L F gb sb vs AL cl nl K (i + 1) (r.takeOf x) (fun b => Fr w Sg b ∧ b < Z.heap.size) := by
 refine ⟨ha, h.gd.take hx, hL.cut, fun y hy => ⟨?_, hy.2⟩, hO.blk h.site h.ns, fun hy => ?_, h.row.keep hO.size fun y hr hy => hO.block y hy (h.nr y hr), fun y hr hy => ?_, fun y hr => Nat.lt_of_lt_of_le (h.rl y hr) hO.size⟩
 · rcases hy.1 with h1 | h1
   · exact (h.sg y h1).1
   · exact Nat.le_trans hlow h1
 · rcases hy.1 with h1 | h1
   · exact h.ns h1
   · have := h.site.lt
     have h2 : w.heap.size ≤ sb := h1
     omega
 · rcases hy.1 with h1 | h1
   · exact h.nr y hr h1
   · have := h.rl y hr
     have h2 : w.heap.size ≤ y := h1
     omega
theorem hagain_true (w : World) (k : Int) (A B : Option Addr) (n c m d : Nat) (l : List Int) (vs : List Mv8) (S S1 S' : Nat → Prop) (hl : GRow w S A n c (l.map Rn8.mk)) (hli : ∀ e ∈ l, I32 e) (hv : GRow w S1 B m d vs) (hvi : ∀ v ∈ vs, v.In) (hs : Sents w S' a) (hlow : ∀ b, S' b → b < w.heap.size) :
 Calls Tryz.prog 9 #[.agg #[.int .i64 k, .slice A n c, .slice B m d]] w fun e w' => e = .returned (.bool true) ∧ Below w.heap.size w w' := by
 have hb0 := balloc (o := .cells #[.int .i64 k, .slice A n c, .slice B m d] 25) (Below.refl w.heap.size w)
 have hX := Blk.new w 25 #[.int .i64 k, .slice A n c, .slice B m d]
 have HPL := hid (fun W (hb : Below w.heap.size w W) => played_any (a := a) W k A B n c m d l vs S S1 S' (hl.step hb) hli (hv.step hb) hvi (hs.step hb) fun b h => Nat.lt_of_lt_of_le (hlow b h) hb.size)
 have hn8 := sitesN_pos k
 have hgd := playedOf_gd (n := sitesN k) (by omega) l vs hvi
 obtain ⟨G, hG, hGl⟩ := playedOf_sess (n := sitesN k) (by omega) l vs hvi
 have hlen := playedOf_length (sitesN k) l vs
 have hln : l.length = n := by have := hl.1; rwa [List.length_map] at this
 rw [hln, Nat.min_comm, Nat.min_comm] at hG
 obtain ⟨nn, hnn⟩ : ∃ nn, nn = sitesN k := ⟨_, rfl⟩
 rw [← hnn] at HPL hgd hn8 hlen hG
 obtain ⟨bs, hbs⟩ : ∃ bs, bs = base8 l (min n 20) := ⟨_, rfl⟩
 have hbl : bs.length ≤ 20 := by have := base8_length l (min n 20); rw [hbs]; omega
 have hbr := hid (hbs ▸ base8_wrong l (min n 20))
 have hbg := hid (hbs ▸ base8_allGood l (min n 20) (by omega))
 have hg0 := hid (hbs ▸ new8_gd l (min n 20) (by omega))
 have HB := hid (fun W (hb : Below w.heap.size w W) => base8_any W A n c l S (hl.step hb) hli)
 rw [← hbs] at HB hG
 have Hgd := hid hgd
 have HG := hid hG
 have Hs := hid hs
 have Hlow := hid hlow
 clear hl hli hv hvi hs hlow hgd hnn hG hbs hln
 go_enter Tryz.func9, Tryz.ntmps9
 repeat' (first | (with_reducible refine stop_region 1 ?_) | go_step)
 refine Stop.go ?_
 have HPL := hid (HPL.out _ hb0)
 generalize w.alloc (.cells #[.int .i64 k, .slice A n c, .slice B m d] 25) = X at *
 have p0 : X.cell? ⟨w.heap.size, 0, none⟩ = some (.int .i64 k) := hX.cell 0
 have p1 : X.cell? ⟨w.heap.size, 1, none⟩ = some (.slice A n c) := hX.cell 1
 have p2 : X.cell? ⟨w.heap.size, 2, none⟩ = some (.slice B m d) := hX.cell 2
 have pl := hX.lt
 have HX := hid hX
 clear hX
 generalize playedOf nn l vs = ss at *
 repeat' (first | (go_at_call 13; go_must ((with_reducible refine Calls.mono HPL.out ?_); rintro _ w1 ⟨A1, c1, base, rfl, hP, hbase, hb1⟩; have HP := hid hP; clear hP; dsimp only)) | (with_reducible refine stop_region 2 ?_) | go_step)
 refine Stop.go ?_
 clear p0 p1 p2 pl HPL
 have B1 := bvia hb0 hb1
 have HX1 := hid (HX.out.step hb1)
 obtain ⟨b0, off0, sbx, S0, rfl, -⟩ := HP.out.at_ (k := 0) (List.getElem?_eq_getElem (show 0 < ss.length by omega))
 have hnl := Lib.run_eql_slice_nil w1 26 _ (some ⟨b0, off0, none⟩) nn c1 0 0 Tryz.underlying26
 repeat' (first | go_step)
 go_loopw [4] (fun i wr => ∃ (j : Nat), i = .int .i64 j ∧ j ≤ nn ∧ Below w1.heap.size w1 wr) (fun i _ => nn - (intOf i).toNat)
 case atStart => exact ⟨0, rfl, Nat.zero_le _, Below.refl _ _⟩
 case round =>
  clear hnl
  obtain ⟨j, rfl, hj, hbw⟩ := hrel
  have Bwr := bvia B1 hbw
  by_cases hlt : j < nn
  · have hjn : (j : Int) < (nn : Int) := by omega
    obtain ⟨s, hsj⟩ : ∃ s, ss[j]? = some s := ⟨_, List.getElem?_eq_getElem (by omega)⟩
    have hgs := hid (Hgd.out s (List.mem_of_getElem? hsj))
    have hss := hid (HG.out.site j s hsj)
    obtain ⟨b9, off9, sb, T, hA2, k0, hb2l0, hS, -⟩ := (HP.out.step hbw).at_ hsj
    cases hA2
    obtain ⟨gb, rb, Sa, Sb, hsb, hg, hr, -⟩ := hS
    have K0 := hid k0
    have Hsb := hid hsb
    have Hg := hid hg
    have hal : s.acts.length ≤ 40 := hgs.out.snd.acts
    have p1 : wr.cell? ⟨w.heap.size, 1, none⟩ = some (.slice A n c) := (HX1.out.step hbw).cell 1
    have pl := (HX1.out.step hbw).lt
    have HB2 := hid (HB.out _ Bwr)
    clear hsj hsb hg hr k0
    repeat' (first | (go_at_call 35; go_must ((with_reducible refine Calls.mono HB2.out ?_); rintro _ w3 ⟨A3, c3, rfl, ho3, hb3⟩; have HBG := hid (begun8_any w3 A3 bs.length c3 bs (fun _ => True) (ho3.row fun _ _ _ => trivial) (by omega) hbr.out hbg.out); clear ho3; dsimp only)) | (go_at_call 34; go_must ((with_reducible refine Calls.mono HBG.out ?_); rintro _ w4 ⟨sn, rfl, hS4, hb4⟩; have HS4 := hid hS4; clear hS4; dsimp only)) | (with_reducible refine stop_region 8 ?_) | go_step)
    refine Stop.go ?_
    clear p1 pl HB2 HBG
    have D4 := bvia hb3 hb4
    have z3 := hb3.size
    have z4 := hb4.size
    have k1 := kc D4 K0.out
    have k1l := Nat.lt_of_lt_of_le hb2l0 D4.size
    have sc := (Hsb.out.step D4).cell 0
    have sl := (Hsb.out.step D4).lt
    have HAC := hid (hacts_any w4 _ gb _ s (Hg.out.step D4) (by omega))
    have sc : w4.cell? ⟨sb, 0, none⟩ = some (.pointer (some ⟨gb, 0, none⟩)) := sc
    repeat' (first | (go_at_call 15; go_must ((with_reducible refine Calls.mono HAC.out ?_); rintro _ w5 ⟨A5, c5, rfl, ho5, hb5⟩; have Ho5 := hid ho5; clear ho5; dsimp only)) | (with_reducible refine stop_region 9 ?_) | go_step)
    refine Stop.go ?_
    clear k1 k1l sc sl HAC
    obtain ⟨gn, rn, Sn, Sm, hsn, hgn, -, h4, -, -, h7⟩ := HS4.out
    have z5 := hb5.size
    have hM : Mid8 w5 w3.heap.size G bs s.acts s.forms gn sn #[.pointer (some ⟨gn, 0, none⟩), .pointer (some ⟨rn, 0, none⟩)] A5 c5 s.acts.length bs.length 0 (newLg 5 bs) Sn := by
     refine ⟨again_zero, hg0.out, hgn.step hb5, fun x hx => ?_, hsn.step hb5, fun hx => (h4 _ hx).2.2 rfl, (Ho5.out.row (S := fun _ => True) fun _ _ _ => trivial).rowB, fun x hx hs => ?_, fun x hx => ?_⟩
     · have := h7 x (h4 x hx).1
       omega
     · obtain ⟨y, hy, rfl⟩ := hx
       have := (Ho5.out.block y hy).1
       have := (h7 _ (h4 _ hs).1).2
       omega
     · obtain ⟨y, hy, rfl⟩ := hx
       exact (Ho5.out.block y hy).2
    have HM := hid hM
    have D5 := bvia D4 hb5
    have B35 : Below w3.heap.size w3 w5 := bvia hb4 hb5
    have D3 := hid hb3
    clear hM hsn hgn h4 h7
    repeat' (first | go_step)
    go_loopw [7] (fun i wq => ∃ (t : Nat) (r : Lg) (Sg : Nat → Prop), i = .int .i64 t ∧ t ≤ s.acts.length ∧ Mid8 wq w3.heap.size G bs s.acts s.forms gn sn #[.pointer (some ⟨gn, 0, none⟩), .pointer (some ⟨rn, 0, none⟩)] A5 c5 s.acts.length bs.length t r Sg ∧ Below w3.heap.size w3 wq) (fun i _ => s.acts.length - (intOf i).toNat)
    case atStart => exact ⟨0, _, _, rfl, Nat.zero_le _, HM.out, B35⟩
    case round =>
     clear HM B35 D5
     obtain ⟨t, r, Sg, rfl, ht, hM, hbq⟩ := hrel
     have HM := hid hM
     clear hM
     have Dq := bvia D3.out hbq
     have Bwq := bvia Bwr Dq
     by_cases hlt2 : t < s.acts.length
     · have htl : (t : Int) < (s.acts.length : Int) := by omega
       obtain ⟨b, off, x, hA5, hrb, hbl', hxt, hcell⟩ := (HM.out.row).at_ hlt2
       have hsr := hss.out
       have hRun : Run G 5 bs s.acts s.forms s.clk s.l := by
        have h1 := hsr.2.2.1
        unfold Lg.Runs at h1
        rw [hsr.1, hsr.2.1] at h1
        exact h1
       obtain ⟨o, hoF, hc0, hfo, hat⟩ := again_step HG.out.web HG.out.bs hRun hxt HM.out.at_ (fun q hq => by have := HM.out.gd.snd.clk q hq; omega)
       have hxI := hgs.out.ain x (List.mem_of_getElem? hxt)
       have hfine : r.Fine (bs.length + t) := HM.out.gd.snd.fine (by omega) (by omega)
       have hsg := HM.out.sg
       have HTK := hid (fun W (hb : Below wr.heap.size wr W) => htake_done (a := a) W gn _ Sg S' r x (HM.out.log.step hb) hfine hxI (Hs.out.step (bvia Bwq hb)) (fun b h => Nat.lt_of_lt_of_le (Hlow.out b h) (bvia Bwq hb).size) hc0)
       rw [hfo] at HTK
       simp only [Actn.agg, Opn.agg] at HTK
       unfold Actn.vals at HTK
       have HoF := hid hoF
       have Hat := hid hat
       have HxI := hid hxI
       have tb : ¬ Sg b := HM.out.nr b hrb
       have tn : ¬ Sg sn := HM.out.ns
       have nA := hid (show ¬ Sg wr.heap.size from fun h => Nat.lt_irrefl _ (hsg _ h).2)
       have Hsn := hid HM.out.site
       have HsgL := hid (show ∀ b, Sg b → b < wr.heap.size from fun b h => (hsg b h).2)
       subst hA5
       have hcd := hcell
       clear hRun hsr hoF hc0 hfo hat hxI hfine hsg hxt hrb
       have D0 : Below wr.heap.size wr wr.drew := bdrew (Below.refl _ _)
       have hcell : ∀ (i : Nat) (u : Value), (Enc.cells x)[i]? = some u → wr.drew.cell? ⟨b, off + t * 13 + i, none⟩ = some u := fun i u h => kc D0 (hcd i u h)
       obtain ⟨c0, c1, c2_, c3_, c4, c5_, c6, c7, c8, c9, c10, c11, c12⟩ := rc13 (w := wr.drew) (b := b) (o := off + t * 13) x hcell
       obtain ⟨cs6, u6, z6, q6⟩ := obj_of_cell9 c0
       have q6 : wr.drew.heap[b]? = some (.cells cs6 u6 z6) := q6
       have bl6 : b < wr.drew.heap.size := hbl'
       have sq := Hsn.out.step D0
       have sn0 : wr.drew.cell? ⟨sn, 0, none⟩ = some (.pointer (some ⟨gn, 0, none⟩)) := sq.cell 0
       have snl := sq.lt
       have qs6 : wr.drew.heap[sn]? = some (.cells #[.pointer (some ⟨gn, 0, none⟩), .pointer (some ⟨rn, 0, none⟩)] 33 (0, 0)) := sq
       clear sq hcd hcell hbl'
       repeat' (first | (with_reducible refine stop_region 14 ?_) | go_step)
       refine Stop.go ?_
       rename_i K2 hK2
       have HK2 := hid hK2
       clear hK2
       repeat' (first | ((with_reducible refine region_at 14 ?_); refine wp_region_ordT (fun b => ¬ Sg b) (rgo [0,4,8,12,16,20,24,28] (.two 8 12 (rgo [36,40,44,49,55,56] .nil) (rgo [33,36,40,44,55,56] .nil))) (by kernel_rfl) (by kernel_rfl) (by kernel_rfl) rfl rfl ?_) | (with_reducible refine Keep.last ?_) | (with_reducible refine Keep.allocD ?_) | (go_at_call 37; go_must (first | ((with_reducible refine Calls.mono (HTK.out wr.drew (bw0 wr)) ?_); go_must (rintro _ w6 ⟨rfl, hL6, hO6⟩; have hk6 : KeepT (fun b => ¬ Sg b) wr.drew w6 := ⟨hO6.size, fun b hl hb => hO6.block b hl hb⟩; have hF := hid (box_c (t := 37) (cs := #[.int .i64 o.kind, .int .i64 o.at_, .int .i32 o.char, .int .i64 o.rep]) hO6); have hL6 := hid hL6; have hO6 := hid hO6; dsimp only)) | ((with_reducible refine Calls.mono (HTK.out (wr.alloc (.cells #[.int .i64 0, .int .i64 0, .int .i32 0, .int .i64 0] 37)).drew (bw1 wr _)) ?_); go_must (rintro _ w6 ⟨rfl, hL6, hO6⟩; have hk6 : KeepT (fun b => ¬ Sg b) (wr.alloc (.cells #[.int .i64 0, .int .i64 0, .int .i32 0, .int .i64 0] 37)).drew w6 := ⟨hO6.size, fun b hl hb => hO6.block b hl hb⟩; have hz := hO6.blk (Blk.new wr 37 #[.int .i64 0, .int .i64 0, .int .i32 0, .int .i64 0]).drew nA.out; obtain ⟨zl, z0, z1, z2, z3, f0, f1, f2, f3⟩ := bl4 hz; clear hz; have hF := hid (box_a (t := 37) (cs := #[.int .i64 o.kind, .int .i64 o.at_, .int .i32 o.char, .int .i64 o.rep]) hO6 nA.out (op4_cells #[.int .i64 0, .int .i64 0, .int .i32 0, .int .i64 0] o rfl)); have hL6 := hid hL6; have hO6 := hid hO6; dsimp only)))) | (with_reducible first | refine Keep.kept (by assumption) ?_ | refine Keep.alloc ?_) | ((with_reducible refine WpO.here ?_); first | (refine WpO.done ?_; refine NoP.normal ?_) | ((first | refine WpO.loadT (by rfl) (by rfl) (by go_simp; rfl) (by rintro _ _ ⟨⟩; exact ⟨_, _, _, _, _, _, by rfl, by assumption, by assumption⟩) ?_ | refine WpO.pure (by rfl) (fun w_ => by go_simp; (try go_bits); rfl) ?_); go_frame) | refine WpO.wild ?_ | refine WpO.two ?_ ?_) | ((with_reducible refine wildO.here ?_); (refine wildO.go (by rfl) (fun _ _ => ?_))) | go_step)
       all_goals (try rw [sets4])
       all_goals clear c0 c1 c2_ c3_ c4 c5_ c6 c7 c8 c9 c10 c11 c12 q6 bl6 sn0 snl qs6
       all_goals (try clear hk6)
       · have hBP := hF.out.b
         have hO := hF.out.p.out (Nat.le_refl _) hF.out.v hO6.out
         have hL := hF.out.p.log (Z := wr) rfl (Nat.le_refl _) hF.out.v.size HsgL.out hL6.out
         have HzZ := hid hO.size
         clear hF hL6 hO6
         refine HK2.out _ _ ?_
         try dsimp only
         generalize w6.alloc (.cells #[.int .i64 o.kind, .int .i64 o.at_, .int .i32 o.char, .int .i64 o.rep] 37) = Z at *
         generalize w6.heap.size = g at *
         have hM := HM.out.next hbq.size HxI.out Hat.out hL hO
         have B3Z : Below w3.heap.size w3 Z := hbq.trans (hO.below_ (fun b hb => (HM.out.sg b hb).1) hbq.size)
         have DZ := bvia D3.out B3Z
         have HM2 := hid hM
         have HBP := hid hBP
         clear hM hL hO hBP
         have k1 : Z.cell? ⟨b0, off0 + j, none⟩ = some (.pointer (some ⟨sb, 0, none⟩)) := kc DZ K0.out
         have k1l := Nat.lt_of_lt_of_le hb2l0 DZ.size
         have sq := Hsb.out.step DZ
         have sc : Z.cell? ⟨sb, 0, none⟩ = some (.pointer (some ⟨gb, 0, none⟩)) := sq.cell 0
         have sl := sq.lt
         have HFM := hid (hform_ok Z _ gb _ t s o (Hg.out.step DZ) HoF.out (by have := hgs.out.snd.forms; omega))
         simp only [Opn.agg] at HFM
         clear sq
         repeat' (first | (go_at_call 16; go_must ((with_reducible refine Calls.mono HFM.out ?_); rintro _ w7 ⟨rfl, hb7⟩; dsimp only)) | (with_reducible refine stop_region 16 ?_) | go_step)
         refine Stop.go ?_
         clear k1 k1l sc sl
         have e7 : Below w7.heap.size w7 (w7.alloc (.cells #[.int .i64 o.kind, .int .i64 o.at_, .int .i32 o.char, .int .i64 o.rep] 37)) := balloc (Below.refl _ _)
         have hq2 := Blk.new w7 37 #[.int .i64 o.kind, .int .i64 o.at_, .int .i32 o.char, .int .i64 o.rep]
         have e8 := bvia hb7 e7
         clear e7
         generalize w7.alloc (.cells #[.int .i64 o.kind, .int .i64 o.at_, .int .i32 o.char, .int .i64 o.rep] 37) = Q at *
         generalize w7.heap.size = g2 at *
         have hq1 := HBP.out.step e8
         obtain ⟨u0, u1, u2, u3⟩ := cl4 (w := Q) (g := g) hq1; have ul := (hq1).lt
         obtain ⟨v0, v1, v2, v3⟩ := cl4 (w := Q) (g := g2) hq2; have vl := (hq2).lt
         clear hq1 hq2
         repeat' (first | go_guarded | go_step)
         go_roundw
         case rel => exact ⟨t + 1, _, _, by go_num, by omega, HM2.out.step e8, B3Z.trans (e8.mono (Nat.le_trans hbq.size (Nat.le_trans HzZ.out (Nat.le_refl _))))⟩
         case measure => simp [intOf]; omega
       · clear z0 f0 z1 f1 z2 f2 z3 f3 zl
         have hBP := hF.out.b
         have hO := hF.out.p.out (Nat.le_refl _) hF.out.v hO6.out
         have hL := hF.out.p.log (Z := wr) rfl (Nat.le_refl _) hF.out.v.size HsgL.out hL6.out
         have HzZ := hid hO.size
         clear hF hL6 hO6
         refine HK2.out _ _ ?_
         try dsimp only
         generalize setsAt wr.heap.size (op4 o) w6 = Z at *
         obtain ⟨g, hg⟩ : ∃ g, g = wr.heap.size := ⟨_, rfl⟩
         rw [← hg] at hBP ⊢
         clear hg
         have hM := HM.out.next hbq.size HxI.out Hat.out hL hO
         have B3Z : Below w3.heap.size w3 Z := hbq.trans (hO.below_ (fun b hb => (HM.out.sg b hb).1) hbq.size)
         have DZ := bvia D3.out B3Z
         have HM2 := hid hM
         have HBP := hid hBP
         clear hM hL hO hBP
         have k1 : Z.cell? ⟨b0, off0 + j, none⟩ = some (.pointer (some ⟨sb, 0, none⟩)) := kc DZ K0.out
         have k1l := Nat.lt_of_lt_of_le hb2l0 DZ.size
         have sq := Hsb.out.step DZ
         have sc : Z.cell? ⟨sb, 0, none⟩ = some (.pointer (some ⟨gb, 0, none⟩)) := sq.cell 0
         have sl := sq.lt
         have HFM := hid (hform_ok Z _ gb _ t s o (Hg.out.step DZ) HoF.out (by have := hgs.out.snd.forms; omega))
         simp only [Opn.agg] at HFM
         clear sq
         repeat' (first | (go_at_call 16; go_must ((with_reducible refine Calls.mono HFM.out ?_); rintro _ w7 ⟨rfl, hb7⟩; dsimp only)) | (with_reducible refine stop_region 16 ?_) | go_step)
         refine Stop.go ?_
         clear k1 k1l sc sl
         have e7 : Below w7.heap.size w7 (w7.alloc (.cells #[.int .i64 o.kind, .int .i64 o.at_, .int .i32 o.char, .int .i64 o.rep] 37)) := balloc (Below.refl _ _)
         have hq2 := Blk.new w7 37 #[.int .i64 o.kind, .int .i64 o.at_, .int .i32 o.char, .int .i64 o.rep]
         have e8 := bvia hb7 e7
         clear e7
         generalize w7.alloc (.cells #[.int .i64 o.kind, .int .i64 o.at_, .int .i32 o.char, .int .i64 o.rep] 37) = Q at *
         generalize w7.heap.size = g2 at *
         have hq1 := HBP.out.step e8
         obtain ⟨u0, u1, u2, u3⟩ := cl4 (w := Q) (g := g) hq1; have ul := (hq1).lt
         obtain ⟨v0, v1, v2, v3⟩ := cl4 (w := Q) (g := g2) hq2; have vl := (hq2).lt
         clear hq1 hq2
         repeat' (first | go_guarded | go_step)
         go_roundw
         case rel => exact ⟨t + 1, _, _, by go_num, by omega, HM2.out.step e8, B3Z.trans (e8.mono (Nat.le_trans hbq.size (Nat.le_trans HzZ.out (Nat.le_refl _))))⟩
         case measure => simp [intOf]; omega
     · obtain rfl : t = s.acts.length := by omega
       have hsr := hss.out
       have hRun : Run G 5 bs s.acts s.forms s.clk s.l := by
        have h1 := hsr.2.2.1
        unfold Lg.Runs at h1
        rw [hsr.1, hsr.2.1] at h1
        exact h1
       obtain ⟨hck, hlq⟩ := again_end HG.out.web hRun HM.out.at_
       have K0i := hid (kc Dq K0.out)
       have hb2l1 := Nat.lt_of_lt_of_le hb2l0 Dq.size
       have Hsbi := hid (Hsb.out.step Dq)
       have Hsn := hid HM.out.site
       have hll : s.l.length ≤ 1048576 := by have := hgs.out.snd.l; omega
       have HMn := hid (fun W (hb : Below wr.heap.size wr W) => hmodel_any W Sg gn _ r (HM.out.log.step hb))
       have HMg := hid (fun W (hb : Below wr.heap.size wr W) => hmodel_any W _ gb _ s (Hg.out.step (bvia Dq hb)))
       have HCn := hid (fun W (hb : Below wr.heap.size wr W) => hclock_any W Sg gn _ r (HM.out.log.step hb))
       have HCg := hid (fun W (hb : Below wr.heap.size wr W) => hclock_any W _ gb _ s (Hg.out.step (bvia Dq hb)))
       rw [hlq] at HMn
       rw [hck] at HCn
       simp only [Clk.agg] at HCn HCg
       unfold Clk.vals at HCn HCg
       have HQ := hid (fun W A1 c1 A2 c2 b1 b2 (ho : Own W b1 A1 s.l.length c1 s.l) (ho2 : Own W b2 A2 s.l.length c2 s.l) => els_eq A1 s.l.length c1 A2 c2 s.l (fun _ => True) (fun _ => True) W (ho.row fun _ _ _ => trivial) (ho2.row fun _ _ _ => trivial))
       have D0 : Below wr.heap.size wr wr.drew := bdrew (Below.refl _ _)
       clear hsr hRun hck hlq
       have k0 : wr.drew.cell? ⟨b0, off0 + j, none⟩ = some (.pointer (some ⟨sb, 0, none⟩)) := kc D0 K0i.out; have k0l := Nat.lt_of_lt_of_le hb2l1 (D0).size; have sq := Hsbi.out.step D0; have sc : wr.drew.cell? ⟨sb, 0, none⟩ = some (.pointer (some ⟨gb, 0, none⟩)) := sq.cell 0; have sl := sq.lt; clear sq; have sq := Hsn.out.step D0; have sn0 : wr.drew.cell? ⟨sn, 0, none⟩ = some (.pointer (some ⟨gn, 0, none⟩)) := sq.cell 0; have snl := sq.lt; clear sq
       repeat' (first | (with_reducible refine stop_region 18 ?_) | go_step)
       refine Stop.go ?_
       repeat' (first | ((with_reducible refine region_at 18 ?_); refine wp_region_ordT (fun _ => True) (rgo [0,4,8,12,24,28,32,36,40,44,48,17,21,53,57,61,64,68,72,76,80,84,92,96,100,104,108,112,116,89,121,124,128] .nil) (by kernel_rfl) (by kernel_rfl) (by kernel_rfl) rfl rfl ?_) | (go_at_call 20; go_must (first | (guard_hyp hb7; (with_reducible refine Calls.mono (HMg.out _ E7) ?_); rintro _ _ ⟨⟨mb2, rfl, hm2⟩, rfl⟩; have HE2 := hid (melements_any w7 _ mb2 s.l _ hm2 (by omega)); clear hm2; dsimp only) | ((with_reducible refine Calls.mono (HMn.out _ D0) ?_); rintro _ _ ⟨⟨mb1, rfl, hm1⟩, rfl⟩; have HE1 := hid (melements_any wr.drew _ mb1 s.l _ hm1 (by omega)); clear hm1; dsimp only))) | (go_at_call 21; go_must (first | (guard_hyp HE2; (with_reducible refine Calls.mono HE2.out ?_); rintro _ w8 ⟨A8, c8, rfl, ho8, hb8⟩; have hk8 := KeepT.of_below (T := fun _ => True) hb8; have E8 := bvia E7 hb8; have HQ2 := hid (HQ.out w8 _ _ _ _ _ _ (Ho7.out.step hb8) ho8); clear ho8; have k0 : w8.cell? ⟨b0, off0 + j, none⟩ = some (.pointer (some ⟨sb, 0, none⟩)) := kc E8 K0i.out; have k0l := Nat.lt_of_lt_of_le hb2l1 (E8).size; have sq := Hsbi.out.step E8; have sc : w8.cell? ⟨sb, 0, none⟩ = some (.pointer (some ⟨gb, 0, none⟩)) := sq.cell 0; have sl := sq.lt; clear sq; have sq := Hsn.out.step E8; have sn0 : w8.cell? ⟨sn, 0, none⟩ = some (.pointer (some ⟨gn, 0, none⟩)) := sq.cell 0; have snl := sq.lt; clear sq; dsimp only) | ((with_reducible refine Calls.mono HE1.out ?_); rintro _ w7 ⟨A7, c7, rfl, ho7, hb7⟩; have hk7 := KeepT.of_below (T := fun _ => True) hb7; have E7 := bvia D0 hb7; have Ho7 := hid ho7; clear ho7; have k0 : w7.cell? ⟨b0, off0 + j, none⟩ = some (.pointer (some ⟨sb, 0, none⟩)) := kc E7 K0i.out; have k0l := Nat.lt_of_lt_of_le hb2l1 (E7).size; have sq := Hsbi.out.step E7; have sc : w7.cell? ⟨sb, 0, none⟩ = some (.pointer (some ⟨gb, 0, none⟩)) := sq.cell 0; have sl := sq.lt; clear sq; have sq := Hsn.out.step E7; have sn0 : w7.cell? ⟨sn, 0, none⟩ = some (.pointer (some ⟨gn, 0, none⟩)) := sq.cell 0; have snl := sq.lt; clear sq; dsimp only))) | (go_at_call 24; go_must ((with_reducible refine Calls.mono HQ2.out ?_); rintro _ wA ⟨rfl, hbA⟩; have hkA := KeepT.of_below (T := fun _ => True) hbA; have EA := bvia E8 hbA; have k0 : wA.cell? ⟨b0, off0 + j, none⟩ = some (.pointer (some ⟨sb, 0, none⟩)) := kc EA K0i.out; have k0l := Nat.lt_of_lt_of_le hb2l1 (EA).size; have sq := Hsbi.out.step EA; have sc : wA.cell? ⟨sb, 0, none⟩ = some (.pointer (some ⟨gb, 0, none⟩)) := sq.cell 0; have sl := sq.lt; clear sq; have sq := Hsn.out.step EA; have sn0 : wA.cell? ⟨sn, 0, none⟩ = some (.pointer (some ⟨gn, 0, none⟩)) := sq.cell 0; have snl := sq.lt; clear sq; dsimp only)) | (go_at_call 23; go_must (first | (guard_hyp hbC; (with_reducible refine Calls.mono (HCg.out _ EC) ?_); rintro _ wD ⟨rfl, hbD⟩; have hkD := KeepT.of_below (T := fun _ => True) hbD; dsimp only) | ((with_reducible refine Calls.mono (HCn.out _ EA) ?_); rintro _ wC ⟨rfl, hbC⟩; have hkC := KeepT.of_below (T := fun _ => True) hbC; have EC := bvia EA hbC; have k0 : wC.cell? ⟨b0, off0 + j, none⟩ = some (.pointer (some ⟨sb, 0, none⟩)) := kc EC K0i.out; have k0l := Nat.lt_of_lt_of_le hb2l1 (EC).size; have sq := Hsbi.out.step EC; have sc : wC.cell? ⟨sb, 0, none⟩ = some (.pointer (some ⟨gb, 0, none⟩)) := sq.cell 0; have sl := sq.lt; clear sq; have sq := Hsn.out.step EC; have sn0 : wC.cell? ⟨sn, 0, none⟩ = some (.pointer (some ⟨gn, 0, none⟩)) := sq.cell 0; have snl := sq.lt; clear sq; dsimp only))) | (with_reducible first | refine Keep.same ?_ | refine Keep.below (by assumption) ?_) | ((with_reducible refine WpO.here ?_); first | (refine WpO.done ?_; refine NoP.normal ?_) | ((first | refine WpO.load (by rfl) (by rfl) (by go_simp; rfl) ?_ | refine WpO.pure (by rfl) (fun w_ => by go_simp; (try go_bits); rfl) ?_); go_frame) | refine WpO.wild ?_) | ((with_reducible refine wildO.here ?_); (refine wildO.go (by rfl) (fun _ _ => ?_))) | go_step)
       go_roundw
       case rel => exact ⟨j + 1, by go_num, by omega, bvia hbw (bvia Dq (bvia EC hbD))⟩
       case measure => simp [intOf]; omega
  · obtain rfl : j = nn := by omega
    repeat' (first | (go_at_call 18; go_must ((with_reducible refine Calls.mono (wakes8_any (a := a) wr S' (Hs.out.step Bwr) (fun b hb => Nat.lt_of_lt_of_le (Hlow.out b hb) (Bwr).size)) ?_); rintro _ w9 ⟨rfl, hb9⟩; dsimp only)) | go_step)
    go_ret
    exact ⟨rfl, bvia Bwr hb9⟩
end Go.Proofs.YteggpddlkkjmjaaGreatDoor
