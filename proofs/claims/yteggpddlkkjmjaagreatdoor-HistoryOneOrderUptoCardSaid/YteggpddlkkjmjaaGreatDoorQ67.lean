/- Part of a proof: what functions of the program compute. Conditions: as each theorem says. -/
import Derived.Maps.RangeWalk
import Derived.Test.YteggpddlkkjmjaaGreatDoorQ25
import Derived.Test.YteggpddlkkjmjaaGreatDoorQ61
import Derived.Test.YteggpddlkkjmjaaGreatDoorQ62
set_option linter.unusedSimpArgs false
set_option linter.unusedVariables false
set_option maxHeartbeats 16000000
set_option maxRecDepth 200000
namespace Go.Proofs.YteggpddlkkjmjaaGreatDoor
open Go Go.RowKit
structure Pt8 where
 b : Nat
instance : Enc Pt8 where
 k := 1
 cells p := [.pointer (some ⟨p.b, 0, none⟩)]
 len _ := rfl
 one := by
  intro a u hu
  have : u = .pointer (some ⟨a.b, 0, none⟩) := by simpa using hu
  subst this
  rfl
theorem SitesAt.monoK {w : World} {base K K' : Nat} {R : Nat → Prop} {sbs : List Nat} {ss : List Lg} (h : SitesAt w base R sbs ss K) (hk : K ≤ K') : SitesAt w base R sbs ss K' := by
 obtain ⟨h1, h2, col, hc, h3⟩ := h
 exact ⟨h1, h2, col, hc, fun k sb s e1 e2 => (h3 k sb s e1 e2).monoK hk⟩
def rowB (A : Option Addr) (b : Nat) : Prop := ∃ a, A = some a ∧ a.block = b
theorem GRow.rowB {α : Type} [Enc α] {w : World} {S : Nat → Prop} {A : Option Addr} {n c : Nat} {es : List α} (h : GRow w S A n c es) : GRow w (rowB A) A n c es := by
 refine ⟨h.1, h.2.1, h.2.2.1, fun hn => ?_⟩
 obtain ⟨b, off, e, hs, hb, hc⟩ := h.2.2.2 hn
 exact ⟨b, off, e, ⟨_, e, rfl⟩, hb, hc⟩
def Play8 (w : World) (base : Nat) (A : Option Addr) (n c : Nat) (ss : List Lg) (K : Nat) : Prop :=
 ∃ sbs : List Nat, GRow w (rowB A) A n c (sbs.map Pt8.mk) ∧ SitesAt w base (rowB A) sbs ss K
section
variable {w w' : World} {base n c K : Nat} {A : Option Addr} {ss : List Lg}
theorem Play8.len (h : Play8 w base A n c ss K) : ss.length = n := by
 obtain ⟨sbs, h1, h2, _⟩ := h
 have h3 := h1.1
 rw [List.length_map] at h3
 omega
theorem Play8.low (h : Play8 w base A n c ss K) : base ≤ w.heap.size := h.choose_spec.2.2.1
theorem Play8.step (h : Play8 w base A n c ss K) (hb : Below w.heap.size w w') : Play8 w' base A n c ss K := by
 obtain ⟨sbs, h1, h2⟩ := h
 exact ⟨sbs, h1.step hb, h2.step hb⟩
theorem Play8.monoK {K' : Nat} (h : Play8 w base A n c ss K) (hk : K ≤ K') : Play8 w base A n c ss K' := by
 obtain ⟨sbs, h1, h2⟩ := h
 exact ⟨sbs, h1, h2.monoK hk⟩
theorem Play8.at_ (h : Play8 w base A n c ss K) {k : Nat} {s : Lg} (hs : ss[k]? = some s) :
 ∃ b off sb S, A = some ⟨b, off, none⟩ ∧ w.cell? ⟨b, off + k, none⟩ = some (.pointer (some ⟨sb, 0, none⟩)) ∧ b < w.heap.size ∧ SiteAt w base S sb s K ∧
  ∀ (w1 w' : World) (s' : Lg), Below w.heap.size w w1 → SiteAt w' base (fun b => Fr w1 S b ∧ b < w'.heap.size) sb s' (K + 1) → Out S w1 w' → Play8 w' base A n c (ss.set k s') (K + 1) ∧ Below base w w' := by
 have hl := h.len
 obtain ⟨sbs, h1, h2⟩ := h
 have hkn : k < n := by rw [← hl]; exact (List.getElem?_eq_some_iff.1 hs).1
 obtain ⟨b, off, e, hA, hR, hb, he, hc⟩ := h1.at_ hkn
 rw [List.getElem?_map] at he
 obtain ⟨sb, hsb, rfl⟩ := Option.map_eq_some_iff.1 he
 obtain ⟨S, h3, h4, h5⟩ := h2.at_ hsb hs
 have c0 := hc 0 _ rfl
 have e1 : off + k * Enc.k Pt8 + 0 = off + k := by show off + k * 1 + 0 = off + k; omega
 rw [e1] at c0
 refine ⟨b, off, sb, S, hA, c0, hb, h3, fun w1 w' s' hb1 hn hO => ?_⟩
 have h2' := h2.2.1
 have hO' := hid ((Out.of_below (S := S) hb1).trans hO fun _ _ h => h)
 have hlt : ∀ b, S b → b < w.heap.size := by
  obtain ⟨_, _, _, _, _, _, _, _, _, _, h7⟩ := h3
  exact fun b hb => (h7 b hb).2
 have hn' : SiteAt w' base (fun b => Fr w S b ∧ b < w'.heap.size) sb s' (K + 1) := by
  refine hn.more (fun b hb => ⟨hb.1.imp id fun h => Nat.le_trans hb1.size h, hb.2⟩) fun b hb => ⟨?_, hb.2⟩
  rcases hb.1 with h | h
  · exact (h4 b h).1
  · exact Nat.le_trans h2' h
 refine ⟨⟨sbs, ?_, h5 w' s' hn' hO'.out⟩, hO'.out.below_ (fun b hb => (h4 b hb).1) h2'⟩
 exact h1.keep hO'.out.size fun b hr hb => hO'.out.block b hb fun hs' => (h4 b hs').2 hr
end
variable {a : Nat → Addr}
theorem Tryz.infoPt : (Tryz.prog.info? 34).map (fun i => (i.zero, i.size, i.bytes)) = some (some (.pointer none), 1, 8) := by kernel_rfl
theorem wp_append_pts {ac : Act} {K : Act → World → Prop} {Q : Exit → Act → World → Prop} {w : World} {dst : Option Tmp} {s x : Operand} {ty : TypeId} {pos : String} {after : Array Edge} {guard : Option (Nat × Bool)}
 (base : Nat) (A B : Option Addr) (n c m d : Nat) (es fs : List Pt8) (S : Nat → Prop) (hs : ac.eval s = .slice A n c) (hx : ac.eval x = .slice B m d) (hown : GOwn 34 w base A n c es) (hrow : GRow w S B m d fs) (hb : base ≤ w.heap.size) (hbd : n + m ≤ 1099511627776)
 (h : ∀ A' c' w', GOwn 34 w' base A' (n + m) c' (es ++ fs) → Below base w w' → Same (fun k => ∀ g, A = some g → g.block ≠ k) w w' → (A' = A ∨ ∃ g, A' = some ⟨g, 0, none⟩ ∧ w.heap.size ≤ g) → w.heap.size ≤ w'.heap.size → K (ac.put dst (.slice A' (n + m) c')) w') :
 Oper.wp Tryz.prog ⟨dst, .call ⟨.builtin .append, #[s, x], #[26, 26]⟩, ty, pos, after, guard⟩ ac w K Q :=
 wp_append_g (α := Pt8) 26 34 _ 8 Tryz.underlying26 Tryz.infoPt rfl (by decide) (by decide) (by decide) base A B n c m d es fs S hs hx hown hrow hb hbd h
theorem app_pts_here {ac : Act} {K : Act → World → Prop} {Q : Exit → Act → World → Prop} {w : World} {dst : Option Tmp} {s x : Operand} {ty : TypeId} {pos : String} {after : Array Edge} {guard : Option (Nat × Bool)}
 (h : Oper.wp Tryz.prog ⟨dst, .call ⟨.builtin .append, #[s, x], #[26, 26]⟩, ty, pos, after, guard⟩ ac w K Q) : Oper.wp Tryz.prog ⟨dst, .call ⟨.builtin .append, #[s, x], #[26, 26]⟩, ty, pos, after, guard⟩ ac w K Q := h
theorem grow_pt (W : World) (b : Nat) : GRow (W.alloc (.cells #[.pointer (some ⟨b, 0, none⟩)] 34)) (fun _ => True) (some ⟨W.heap.size, 0, none⟩) 1 1 [Pt8.mk b] :=
 (GOwn.lit (t := 34) W #[.pointer (some ⟨b, 0, none⟩)] [Pt8.mk b] W.heap.size (Nat.le_refl _) (by show 1 ≤ maxLen; decide) rfl).row fun _ _ _ => trivial
theorem SitesAt.nil0 (w : World) (base : Nat) (hb : base ≤ w.heap.size) (K : Nat) : SitesAt w base (rowB none) [] [] K :=
 (SitesAt.nil w base hb K).keep (Nat.le_refl _) (fun _ _ _ => rfl) fun b h => by obtain ⟨_, h, _⟩ := h; cases h
theorem SitesAt.grow {w w' : World} {base base' K n c : Nat} {A A' : Option Addr} {t : TypeId} {es : List Pt8} {sbs : List Nat} {ss : List Lg} (h : SitesAt w base (rowB A) sbs ss K) (ho : GOwn t w' base' A' n c es) (hs : Same (fun k => ∀ g, A = some g → g.block ≠ k) w w') (ha : A' = A ∨ ∃ g, A' = some ⟨g, 0, none⟩ ∧ w.heap.size ≤ g) (hz : w.heap.size ≤ w'.heap.size) : SitesAt w' base (rowB A') sbs ss K := by
 refine h.keep hz (fun b hb hr => hs b (fun g hg e => hr ⟨g, hg, e⟩) hb) fun b hb => ?_
 obtain ⟨x, hx, e⟩ := hb
 have hl := ho.block x hx
 refine ⟨?_, by omega⟩
 rcases ha with ha | ⟨g, ha, hg⟩
 · rw [ha] at hx
   exact .inl ⟨x, hx, e⟩
 · rw [ha] at hx
   cases hx
   exact .inr (by rw [← e]; exact hg)
theorem Box1.below {W V w1 Z : World} {i : Nat} {t : TypeId} {cs : Array Value} (h : Box1 W V w1 Z i t cs) (hb : Below V.heap.size V w1) : Below W.heap.size W Z :=
 (h.p.out (Nat.le_refl _) h.v (Out.of_below (S := fun _ => False) hb)).below_ (fun _ h => h.elim) (Nat.le_refl _)
theorem take_gd {n : Nat} (hn : 0 < n ∧ n ≤ 8) (l : List Int) (vs : List Mv8) (hv : ∀ v ∈ vs, v.In) {t : Nat} (ht : t ≤ 40) : AllGd ((vs.take t).foldl (playStep n) (newSites n l)) t := by
 have hl : (vs.take t).length ≤ t := by rw [List.length_take]; omega
 exact (fold_gd hn (vs.take t) _ 0 (newSites_gd n l) (by omega) fun v h => hv v (List.mem_of_mem_take h)).mono (by omega)
theorem playStep_at {n kk ff : Nat} {ss : List Lg} {v : Mv8} {s u : Lg} (h1 : v.site % (n : Int) = (kk : Int)) (h2 : v.frm % (n : Int) = (ff : Int)) (hs : ss[kk]? = some s) (hu : ss[ff]? = some u) : playStep n ss v = ss.set kk (if v.do_ % 3 < 2 then issStep v.op kk s else getStep s u) := by
 unfold playStep
 rw [h1, h2, Int.toNat_natCast, Int.toNat_natCast, hs, hu]
theorem mod_nat (x : Int) {n : Nat} (hn : 0 < n) : ∃ k : Nat, x % (n : Int) = (k : Int) ∧ k < n := by
 have h1 := Int.emod_lt_of_pos x (show (0 : Int) < n by omega)
 have h0 := Int.emod_nonneg x (show (n : Int) ≠ 0 by omega)
 exact ⟨(x % (n : Int)).toNat, by omega, by omega⟩
end Go.Proofs.YteggpddlkkjmjaaGreatDoor
namespace Go.Proofs.YteggpddlkkjmjaaGreatDoor
open Go Go.RowKit
variable {a : Nat → Addr}
theorem set_same8 {α : Type} {l : List α} {k : Nat} {x : α} (h : l[k]? = some x) : l.set k x = l := by
 refine List.ext_getElem? fun i => ?_
 rw [List.getElem?_set]
 split
 · next e =>
   subst e
   rw [if_pos (List.getElem?_eq_some_iff.1 h).1, h]
 · rfl
theorem played_any (w : World) (k : Int) (A B : Option Addr) (n c m d : Nat) (l : List Int) (vs : List Mv8) (S S1 S' : Nat → Prop) (hl : GRow w S A n c (l.map Rn8.mk)) (hli : ∀ e ∈ l, I32 e) (hv : GRow w S1 B m d vs) (hvi : ∀ v ∈ vs, v.In) (hs : Sents w S' a) (hlow : ∀ b, S' b → b < w.heap.size) :
 Calls Tryz.prog 13 #[.agg #[.int .i64 k, .slice A n c, .slice B m d]] w fun e w' => ∃ A' c' base, e = .returned (.slice A' (sitesN k) c') ∧ Play8 w' base A' (sitesN k) c' (playedOf (sitesN k) l vs) 60 ∧ w.heap.size ≤ base ∧ Below w.heap.size w w' := by
 have hb0 := balloc (o := .cells #[.int .i64 k, .slice A n c, .slice B m d] 25) (Below.refl w.heap.size w)
 have hX := Blk.new w 25 #[.int .i64 k, .slice A n c, .slice B m d]
 have hlen : l.length = n := by have := hl.1; rwa [List.length_map] at this
 have hvlen : vs.length = m := hv.1
 have hnm := hl.len_le
 have hmm := hv.len_le
 unfold maxLen at hnm hmm
 obtain ⟨q, hq⟩ : ∃ q : Nat, k % 3 = (q : Int) := ⟨(k % 3).toNat, by omega⟩
 obtain ⟨nn, hnn⟩ : ∃ nn, nn = sitesN k := ⟨_, rfl⟩
 have hnq : (2 : Int) + (q : Int) = (nn : Int) := by rw [hnn]; unfold sitesN; rw [hq]; omega
 have hn8 : 2 ≤ nn ∧ nn ≤ 4 := by omega
 rw [← hnn]
 obtain ⟨bs, hbs⟩ : ∃ bs, bs = base8 l (min n 20) := ⟨_, rfl⟩
 have hbl : bs.length ≤ 20 := by have := base8_length l (min n 20); rw [hbs]; omega
 have hbr := hid (hbs ▸ base8_wrong l (min n 20))
 have hbg := hid (hbs ▸ base8_allGood l (min n 20) (by omega))
 have HW1 := hid (fun W => within_any k 3 (by decide) (by decide) W)
 rw [hq] at HW1
 have HB := hid (fun X (hb : Below w.heap.size w X) => base8_any X A n c l S (hl.step hb) hli)
 rw [← hbs] at HB
 have Hnew := hid (show newSites nn l = List.replicate nn (newLg 5 bs) by unfold newSites; rw [hlen, ← hbs])
 have Hv := hid hv
 have Hvi := hid hvi
 have Hs := hid hs
 have Hlow := hid hlow
 clear hl hli hv hvi hs hlow hnn hbs hq
 go_enter Tryz.func13, Tryz.ntmps13
 repeat' (first | (with_reducible refine stop_region 1 ?_) | go_step)
 refine Stop.go ?_
 have HB := hid (HB.out _ hb0)
 generalize w.alloc (.cells #[.int .i64 k, .slice A n c, .slice B m d] 25) = X at *
 have p0 : X.cell? ⟨w.heap.size, 0, none⟩ = some (.int .i64 k) := (hX).cell 0; have p1 : X.cell? ⟨w.heap.size, 1, none⟩ = some (.slice A n c) := (hX).cell 1; have p2 : X.cell? ⟨w.heap.size, 2, none⟩ = some (.slice _ m d) := (hX).cell 2; have pl := (hX).lt
 have HX := hid hX
 clear hX
 repeat' (first | (go_at_call 19; go_must ((with_reducible refine Calls.mono (HW1.out _) ?_); rintro _ _ ⟨rfl, rfl⟩; dsimp only)) | (go_at_call 35; go_must ((with_reducible refine Calls.mono HB.out ?_); rintro _ w1 ⟨A1, c1, rfl, ho1, hb1⟩; have Ho1 := hid ho1; clear ho1; dsimp only)) | (with_reducible refine stop_region 3 ?_) | go_step)
 refine Stop.go ?_
 clear p0 p1 p2 pl
 have HX1 := hid (HX.out.step hb1)
 have B1 := bvia hb0 hb1
 have hXl := (HX.out.step hb1).lt
 repeat' (first | go_step)
 go_loopw [5, 6] (fun o i wr => ∃ (j : Nat) (A2 : Option Addr) (c2 : Nat) (sbs : List Nat), i = .int .i64 j ∧ o = .slice A2 j c2 ∧ j ≤ nn ∧ GOwn 34 wr w1.heap.size A2 j c2 (sbs.map Pt8.mk) ∧ SitesAt wr w1.heap.size (rowB A2) sbs (List.replicate j (newLg 5 bs)) bs.length ∧ Below w1.heap.size w1 wr) (fun _ i _ => nn - (intOf i).toNat)
 case atStart => exact ⟨0, none, 0, [], rfl, rfl, Nat.zero_le _, GOwn.nil _ _ _, SitesAt.nil0 _ _ (Nat.le_refl _) _, Below.refl _ _⟩
 case round =>
  obtain ⟨j, A2, c2, sbs, rfl, rfl, hj, hown, hsit, hbw⟩ := hrel
  have Hown := hid hown
  have Hsit := hid hsit
  clear hown hsit
  have hzw := hbw.size
  by_cases hlt : j < nn
  · have hji : (j : Int) < (nn : Int) := by omega
    have HBG := hid (begun8_any wr A1 bs.length c1 bs (fun _ => True) ((Ho1.out.row (S := fun _ => True) fun _ _ _ => trivial).step hbw) (by omega) hbr.out hbg.out)
    repeat' (first | (go_at_call 34; go_must ((with_reducible refine Calls.mono HBG.out ?_); rintro _ w2 ⟨sb, rfl, hS2, hb2⟩; have HS2 := hid hS2; clear hS2; have eX := balloc (o := .cells #[.pointer (some ⟨sb, 0, none⟩)] 34) (Below.refl w2.heap.size w2); have hown3 := (Hown.out.step hb2).step eX; have hrow := grow_pt w2 sb; have hz3 := eX.size; have hz2 := hb2.size; dsimp only)) | ((with_reducible refine app_pts_here ?_); go_must (refine wp_append_pts w1.heap.size _ _ _ _ 1 1 (sbs.map Pt8.mk) [Pt8.mk sb] (fun _ => True) (by rfl) (by rfl) hown3 hrow (by omega) (by omega) ?_; intro A4 c4 w4 hown4 hb4 hsm4 hat4 hz4; try dsimp only)) | go_step)
    go_roundw
    case rel =>
     refine ⟨j + 1, A4, c4, sbs ++ [sb], by go_num, rfl, by omega, by simpa using hown4, ?_, (bvia (bvia hbw hb2) eX).trans hb4⟩
     rw [List.replicate_succ']
     exact ((Hsit.out.snoc HS2.out hb2).step eX).grow hown4 hsm4 hat4 hz4
    case measure => simp [intOf]; omega
  · obtain rfl : j = nn := by omega
    have hP : Play8 wr w1.heap.size A2 j c2 (newSites j l) (bs.length + 0) := ⟨sbs, (Hown.out.row (S := fun _ => True) fun _ _ _ => trivial).rowB, by rw [Hnew.out]; exact Hsit.out⟩
    have hlt0 : ¬ (j : Int) < (j : Int) := by omega
    repeat' (first | go_step)
    go_loopw [8] (fun i wr => ∃ (t : Nat) (ss : List Lg), i = .int .i64 t ∧ t ≤ m ∧ t ≤ 40 ∧ ss = (vs.take t).foldl (playStep j) (newSites j l) ∧ Play8 wr w1.heap.size A2 j c2 ss (bs.length + t) ∧ Below w1.heap.size w1 wr) (fun i _ => m - (intOf i).toNat)
    case atStart => exact ⟨0, _, rfl, Nat.zero_le _, Nat.zero_le _, rfl, hP, hbw⟩
    case round =>
     clear hP hbw hzw hlt hlt0 Hown Hsit
     obtain ⟨t, ss, rfl, ht, ht4, hss, hP, hbw⟩ := hrel
     have HP := hid hP
     have Hss := hid hss
     have hSl := hP.len
     clear hP hss
     have Bwr := bvia B1 hbw
     by_cases hlt : t < m ∧ t < 40
     · obtain ⟨hlt1, hlt2⟩ := hlt
       have htm : (t : Int) < (m : Int) := by omega
       have ht40 : (t : Int) < 40 := by omega
       obtain ⟨b, off, v, rfl, -, hbl', hvt, hcell⟩ := (Hv.out.step Bwr).at_ hlt1
       have hgd : AllGd ss t := by rw [Hss.out]; exact take_gd (by omega) l vs Hvi.out ht4
       obtain ⟨kk, hkk, hkl⟩ := mod_nat v.site (n := j) (by omega)
       obtain ⟨ff, hff, hfl⟩ := mod_nat v.frm (n := j) (by omega)
       obtain ⟨s, hsk⟩ : ∃ s, ss[kk]? = some s := ⟨_, List.getElem?_eq_getElem (by omega)⟩
       obtain ⟨u, huk⟩ : ∃ u, ss[ff]? = some u := ⟨_, List.getElem?_eq_getElem (by omega)⟩
       have hplay := playStep_at hkk hff hsk huk
       have HW2 := hid (fun W => within_any v.site (j : Int) (by omega) (by omega) W)
       rw [hkk] at HW2
       have HW4 := hid (fun W => within_any v.frm (j : Int) (by omega) (by omega) W)
       rw [hff] at HW4
       obtain ⟨dd, hdd, -⟩ := mod_nat v.do_ (n := 3) (by omega)
       have HW3 := hid (fun W => within_any v.do_ 3 (by decide) (by decide) W)
       rw [show ((3 : Nat) : Int) = 3 from rfl] at hdd
       rw [hdd] at HW3
       have hvI := Hvi.out v (List.mem_of_getElem? hvt)
       have hsn := play_snoc j (newSites j l) hvt
       rw [← Hss.out, hplay] at hsn
       have Hsn := hid hsn
       have hgs := hid (hgd s (List.mem_of_getElem? hsk))
       have hgu := hid (hgd u (List.mem_of_getElem? huk))
       have Hsk := hid hsk
       have Huk := hid huk
       have Hdd := hid hdd
       have HvI := hid hvI
       have hki : (kk : Int) < (j : Int) := by omega
       have hfi : (ff : Int) < (j : Int) := by omega
       clear hplay hsn hgd hvt hkk hff hsk huk hdd hvI
       have c0 : wr.cell? ⟨b, off + t * 7, none⟩ = some (.int .i64 v.do_) := hcell 0 _ rfl
       have c1 : wr.cell? ⟨b, off + t * 7 + 1, none⟩ = some (.int .i64 v.site) := hcell 1 _ rfl
       have c2_ : wr.cell? ⟨b, off + t * 7 + 2, none⟩ = some (.int .i64 v.frm) := hcell 2 _ rfl
       have c3 : wr.cell? ⟨b, off + t * 7 + 3, none⟩ = some (.int .i64 v.op.kind) := hcell 3 _ rfl
       have c4 : wr.cell? ⟨b, off + t * 7 + 4, none⟩ = some (.int .i64 v.op.at_) := hcell 4 _ rfl
       have c5 : wr.cell? ⟨b, off + t * 7 + 5, none⟩ = some (.int .i32 v.op.char) := hcell 5 _ rfl
       have c6 : wr.cell? ⟨b, off + t * 7 + 6, none⟩ = some (.int .i64 v.op.rep) := hcell 6 _ rfl
       have e1 : Below wr.heap.size wr (wr.alloc (.cells #[.int .i64 v.do_, .int .i64 v.site, .int .i64 v.frm, .int .i64 v.op.kind, .int .i64 v.op.at_, .int .i32 v.op.char, .int .i64 v.op.rep] 96)) := balloc (Below.refl _ _)
       have hvb := Blk.new wr 96 #[.int .i64 v.do_, .int .i64 v.site, .int .i64 v.frm, .int .i64 v.op.kind, .int .i64 v.op.at_, .int .i32 v.op.char, .int .i64 v.op.rep]
       have p0 : wr.cell? ⟨w.heap.size, 0, none⟩ = some (.int .i64 k) := ((HX1.out.step hbw)).cell 0; have p1 : wr.cell? ⟨w.heap.size, 1, none⟩ = some (.slice A n c) := ((HX1.out.step hbw)).cell 1; have p2 : wr.cell? ⟨w.heap.size, 2, none⟩ = some (.slice _ m d) := ((HX1.out.step hbw)).cell 2; have pl := ((HX1.out.step hbw)).lt
       clear hcell
       repeat' (first | (with_reducible refine stop_region 15 ?_) | go_guarded | go_step)
       refine Stop.go ?_
       clear c0 c1 c2_ c3 c4 c5 c6 p0 p1 p2 pl hbl'
       have BY := bvia hbw e1
       have hP := HP.out.step e1
       clear HP e1
       generalize wr.alloc (.cells #[.int .i64 v.do_, .int .i64 v.site, .int .i64 v.frm, .int .i64 v.op.kind, .int .i64 v.op.at_, .int .i32 v.op.char, .int .i64 v.op.rep] 96) = Y at *
       generalize wr.heap.size = vb at *
       obtain ⟨y0, y1, y2, y3, y4, y5, y6⟩ := cl7 (w := Y) (g := vb) hvb; have yl := (hvb).lt
       have Hvb := hid hvb
       obtain ⟨b2, off2, sb, S2, rfl, k0, hb2l, hS, hnext⟩ := hP.at_ Hsk.out
       have HP := hid hP
       have HS := hid hS
       have Hnext := hid hnext
       have hlowB : ∀ b, S' b → b < w1.heap.size := fun b hb => Nat.lt_of_lt_of_le (Hlow.out b hb) B1.size
       have HlowB := hid hlowB
       have HsY := hid (Hs.out.step (bvia B1 BY))
       have hfine : s.Fine (bs.length + t) := hgs.out.snd.fine (by omega) (by omega)
       have Hfine := hid hfine
       clear hvb hP hS hnext hlowB hfine
       by_cases hd : (dd : Int) < 2
       · have hd2 : v.do_ % 3 < 2 := by rw [Hdd.out]; exact hd
         have Hd2 := hid hd2
         clear hd2
         have hSl := hgs.out.snd.l
         rcases hfo : fitOf v.op s.l.length (kk : Int) with ⟨O, ok⟩
         have HF := hid (site_fit Y w1.heap.size sb (bs.length + t) S2 s v.op kk HS.out (by omega) (by omega))
         rw [hfo] at HF
         have hOI : O.In := by have := fit_in HvI.out.op (n := s.l.length) (by omega) (r := (kk : Int)) (by omega); rw [hfo] at this; exact this
         have hiss : issStep v.op kk s = if ok = true then s.issueOf O else s := by unfold issStep; rw [hfo]
         have Hiss := hid hiss
         have HOI := hid hOI
         simp only [Opn.agg] at HF
         clear hfo hiss hOI hSl
         cases ok
         · repeat' (first | (go_at_call 19; go_must (first | ((with_reducible refine Calls.mono (HW2.out _) ?_); rintro _ _ ⟨rfl, rfl⟩; dsimp only) | ((with_reducible refine Calls.mono (HW3.out _) ?_); rintro _ _ ⟨rfl, rfl⟩; dsimp only))) | (go_at_call 49; go_must ((with_reducible refine Calls.mono HF.out ?_); rintro _ w3 ⟨rfl, hb3⟩; dsimp only)) | (with_reducible refine stop_region 19 ?_) | go_step)
           refine Stop.go ?_
           have e3 : Below w3.heap.size w3 (w3.alloc (.cells #[.int .i64 O.kind, .int .i64 O.at_, .int .i32 O.char, .int .i64 O.rep] 37)) := balloc (Below.refl _ _)
           have e4 := bvia hb3 e3
           generalize w3.alloc (.cells #[.int .i64 O.kind, .int .i64 O.at_, .int .i32 O.char, .int .i64 O.rep] 37) = Z at *
           repeat' (first | go_step)
           go_roundw
           case rel =>
            refine ⟨t + 1, ss, by go_num, by omega, by omega, ?_, (HP.out.step e4).monoK (by omega), bvia BY e4⟩
            rw [Hsn.out, if_pos Hd2.out, Hiss.out, if_neg (by simp), set_same8 Hsk.out]
           case measure => simp [intOf]; omega
         · repeat' (first | (go_at_call 19; go_must (first | ((with_reducible refine Calls.mono (HW2.out _) ?_); rintro _ _ ⟨rfl, rfl⟩; dsimp only) | ((with_reducible refine Calls.mono (HW3.out _) ?_); rintro _ _ ⟨rfl, rfl⟩; dsimp only))) | (go_at_call 49; go_must ((with_reducible refine Calls.mono HF.out ?_); rintro _ w3 ⟨rfl, hb3⟩; dsimp only)) | (with_reducible refine stop_region 19 ?_) | go_step)
           refine Stop.go ?_
           have e3 : Below w3.heap.size w3 (w3.alloc (.cells #[.int .i64 O.kind, .int .i64 O.at_, .int .i32 O.char, .int .i64 O.rep] 37)) := balloc (Below.refl _ _)
           have hob := Blk.new w3 37 #[.int .i64 O.kind, .int .i64 O.at_, .int .i32 O.char, .int .i64 O.rep]
           have e4 := bvia hb3 e3
           generalize w3.alloc (.cells #[.int .i64 O.kind, .int .i64 O.at_, .int .i32 O.char, .int .i64 O.rep] 37) = Z at *
           generalize w3.heap.size = ob at *
           obtain ⟨o0, o1, o2, o3⟩ := cl4 (w := Z) (g := ob) hob; have ol := (hob).lt
           obtain ⟨P, hP⟩ : ∃ P, P = s.issued O := ⟨_, rfl⟩
           have HI := hid (site_issue (a := a) Z w1.heap.size sb (bs.length + t) S2 S' s O (HS.out.step e4) Hfine.out HOI.out (hgs.out.snd.ck (by omega)) (HsY.out.step e4) HlowB.out)
           rw [← hP] at HI
           simp only [Actn.agg, Opn.agg] at HI
           unfold Actn.vals at HI
           have E4 := hid e4
           clear hP hob e4
           repeat' (first | (go_at_call 36; go_must ((with_reducible refine Calls.mono HI.out ?_); rintro _ w5 ⟨rfl, hS5, hO5⟩; have HS5 := hid hS5; have HO5 := hid hO5; clear hS5 hO5; dsimp only)) | (with_reducible refine stop_region 21 ?_) | go_step)
           refine Stop.go ?_
           have e6 : Below w5.heap.size w5 (w5.alloc (.cells #[.int .i64 P.op.kind, .int .i64 P.op.at_, .int .i32 P.op.char, .int .i64 P.op.rep, .int .i64 P.num, .int .i64 P.clk.c0, .int .i64 P.clk.c1, .int .i64 P.clk.c2, .int .i64 P.clk.c3, .int .i64 P.clk.c4, .int .i64 P.clk.c5, .int .i64 P.clk.c6, .int .i64 P.clk.c7] 46)) := balloc (Below.refl _ _)
           have hnx := Hnext.out Z w5 (s.issueOf O) E4.out HS5.out HO5.out
           have hP5 := hnx.1.step e6
           have hB5 := (BY.trans hnx.2).trans (e6.mono hnx.1.low)
           have HP5 := hid hP5
           have HB5 := hid hB5
           clear hnx hP5 hB5 e6
           generalize w5.alloc (.cells #[.int .i64 P.op.kind, .int .i64 P.op.at_, .int .i32 P.op.char, .int .i64 P.op.rep, .int .i64 P.num, .int .i64 P.clk.c0, .int .i64 P.clk.c1, .int .i64 P.clk.c2, .int .i64 P.clk.c3, .int .i64 P.clk.c4, .int .i64 P.clk.c5, .int .i64 P.clk.c6, .int .i64 P.clk.c7] 46) = Q at *
           repeat' (first | go_step)
           go_roundw
           case rel =>
            refine ⟨t + 1, _, by go_num, by omega, by omega, ?_, HP5.out, HB5.out⟩
            rw [Hsn.out, if_pos Hd2.out, Hiss.out, if_pos rfl]
           case measure => simp [intOf]; omega
       · have hd2 : ¬ v.do_ % 3 < 2 := by rw [Hdd.out]; exact hd
         have Hd2 := hid hd2
         clear hd2
         obtain ⟨gb, rb, Sa, Sb, hsb, hg, hr, g4, g5, g6, g7⟩ := HS.out
         obtain ⟨b3, off3, sb3, S3, hA3, k3, hb3l, hS3, -⟩ := HP.out.at_ Huk.out
         cases hA3
         obtain ⟨gb3, rb3, Sa3, Sb3, hsb3, hg3, hr3, -, -, -, -⟩ := hS3
         obtain ⟨P, hP⟩ : ∃ P, P = lackAct s.clk u.acts := ⟨_, rfl⟩
         obtain ⟨okb, hokb⟩ : ∃ okb, okb = lackOk s.clk u.acts := ⟨_, rfl⟩
         have HLK := hid (fun W (hb : Below Y.heap.size Y W) => lacks_any W rb rb3 Sb Sb3 s u (hr.step hb) (hr3.step hb) (by have := hgu.out.snd.acts; omega) (hgs.out.snd.clkIn (by omega)))
         rw [← hP, ← hokb] at HLK
         have hPI : P.In := by rw [hP]; exact lackAct_in hgu.out.ain
         have hget : getStep s u = if okb = true then s.takeOf P else s := by unfold getStep; rw [← hP, ← hokb]
         have HPI := hid hPI
         have Hget := hid hget
         have Hsb := hid hsb
         have Hsb3 := hid hsb3
         simp only [Actn.agg] at HLK
         unfold Actn.vals at HLK
         clear hP hokb hPI hget hsb hg hr g4 g5 g6 g7 hsb3 hg3 hr3
         repeat' (first | (go_at_call 19; go_must (first | ((with_reducible refine Calls.mono (HW2.out _) ?_); rintro _ _ ⟨rfl, rfl⟩; dsimp only) | ((with_reducible refine Calls.mono (HW3.out _) ?_); rintro _ _ ⟨rfl, rfl⟩; dsimp only))) | (with_reducible refine stop_region 23 ?_) | go_step)
         refine Stop.go ?_
         rename_i K2 hK2
         have HK2 := hid hK2
         clear hK2 k0
         clear y0 y1 y2 y3 y4 y5 y6 yl
         have hvd := Hvb.out.drew
         obtain ⟨y0, y1, y2, y3, y4, y5, y6⟩ := cl7 (w := Y.drew) (g := vb) hvd; have yl := (hvd).lt
         have hsd := Hsb.out.drew
         have s1 : Y.drew.cell? ⟨sb, 1, none⟩ = some (.pointer (some ⟨rb, 0, none⟩)) := hsd.cell 1
         have sl := hsd.lt
         have hsd3 := Hsb3.out.drew
         have s3 : Y.drew.cell? ⟨sb3, 1, none⟩ = some (.pointer (some ⟨rb3, 0, none⟩)) := hsd3.cell 1
         have sl3 := hsd3.lt
         have k4 : Y.drew.cell? ⟨b2, off2 + ff, none⟩ = some (.pointer (some ⟨sb3, 0, none⟩)) := k3
         have b2d : b2 < Y.drew.heap.size := hb2l
         have bA : Below Y.heap.size Y (Y.alloc (.cells #[.int .i64 0, .int .i64 0, .int .i32 0, .int .i64 0, .int .i64 0, .int .i64 0, .int .i64 0, .int .i64 0, .int .i64 0, .int .i64 0, .int .i64 0, .int .i64 0, .int .i64 0] 46)).drew := bw1 Y _
         have k5 : (Y.alloc (.cells #[.int .i64 0, .int .i64 0, .int .i32 0, .int .i64 0, .int .i64 0, .int .i64 0, .int .i64 0, .int .i64 0, .int .i64 0, .int .i64 0, .int .i64 0, .int .i64 0, .int .i64 0] 46)).drew.cell? ⟨b2, off2 + ff, none⟩ = some (.pointer (some ⟨sb3, 0, none⟩)) := kc bA k3
         have s5 : (Y.alloc (.cells #[.int .i64 0, .int .i64 0, .int .i32 0, .int .i64 0, .int .i64 0, .int .i64 0, .int .i64 0, .int .i64 0, .int .i64 0, .int .i64 0, .int .i64 0, .int .i64 0, .int .i64 0] 46)).drew.cell? ⟨sb3, 1, none⟩ = some (.pointer (some ⟨rb3, 0, none⟩)) := (Hsb3.out.step bA).cell 1
         have s6 : (Y.alloc (.cells #[.int .i64 0, .int .i64 0, .int .i32 0, .int .i64 0, .int .i64 0, .int .i64 0, .int .i64 0, .int .i64 0, .int .i64 0, .int .i64 0, .int .i64 0, .int .i64 0, .int .i64 0] 46)).drew.cell? ⟨sb, 1, none⟩ = some (.pointer (some ⟨rb, 0, none⟩)) := (Hsb.out.step bA).cell 1
         have y6' : (Y.alloc (.cells #[.int .i64 0, .int .i64 0, .int .i32 0, .int .i64 0, .int .i64 0, .int .i64 0, .int .i64 0, .int .i64 0, .int .i64 0, .int .i64 0, .int .i64 0, .int .i64 0, .int .i64 0] 46)).drew.cell? ⟨vb, 2, none⟩ = some (.int .i64 v.frm) := (Hvb.out.step bA).cell 2
         have b2e : b2 < (Y.alloc (.cells #[.int .i64 0, .int .i64 0, .int .i32 0, .int .i64 0, .int .i64 0, .int .i64 0, .int .i64 0, .int .i64 0, .int .i64 0, .int .i64 0, .int .i64 0, .int .i64 0, .int .i64 0] 46)).drew.heap.size := Nat.lt_of_lt_of_le hb2l bA.size
         clear hvd hsd hsd3 k3 bA
         repeat' (first | ((with_reducible refine region_at 23 ?_); refine wp_region_ordT (fun _ => True) (rgo [0,4,8,12,16,20,24,28] (.two 8 18 (rgo [36,40,44,48,52] (.two 14 18 (rgo [60,64,68,73,79,80] .nil) (rgo [57,60,64,68,79,80] .nil))) (rgo [33,36,40,44,48,52,57,60,64,68,79,80] .nil))) (by kernel_rfl) (by kernel_rfl) (by kernel_rfl) rfl rfl ?_) | (with_reducible refine Keep.last ?_) | (with_reducible refine Keep.allocD ?_) | (go_at_call 19; go_must ((with_reducible refine Calls.mono (HW4.out _) ?_); rintro _ _ ⟨rfl, rfl⟩; dsimp only)) | (go_at_call 50; go_must (first | ((with_reducible refine Calls.mono (HLK.out Y.drew (bw0 Y)) ?_); go_must (rintro _ w3 ⟨rfl, hb3⟩; have hk3 : KeepT (fun _ => True) Y.drew w3 := KeepT.of_below hb3; have hF := hid (box_c (S := fun _ => False) (t := 46) (cs := #[.int .i64 P.op.kind, .int .i64 P.op.at_, .int .i32 P.op.char, .int .i64 P.op.rep, .int .i64 P.num, .int .i64 P.clk.c0, .int .i64 P.clk.c1, .int .i64 P.clk.c2, .int .i64 P.clk.c3, .int .i64 P.clk.c4, .int .i64 P.clk.c5, .int .i64 P.clk.c6, .int .i64 P.clk.c7]) (Out.of_below hb3)); have hb3 := hid hb3; dsimp only)) | ((with_reducible refine Calls.mono (HLK.out (Y.alloc (.cells #[.int .i64 0, .int .i64 0, .int .i32 0, .int .i64 0, .int .i64 0, .int .i64 0, .int .i64 0, .int .i64 0, .int .i64 0, .int .i64 0, .int .i64 0, .int .i64 0, .int .i64 0] 46)).drew (bw1 Y _)) ?_); go_must (rintro _ w3 ⟨rfl, hb3⟩; have hk3 : KeepT (fun _ => True) (Y.alloc (.cells #[.int .i64 0, .int .i64 0, .int .i32 0, .int .i64 0, .int .i64 0, .int .i64 0, .int .i64 0, .int .i64 0, .int .i64 0, .int .i64 0, .int .i64 0, .int .i64 0, .int .i64 0] 46)).drew w3 := KeepT.of_below hb3; have hz := (Blk.new Y 46 #[.int .i64 0, .int .i64 0, .int .i32 0, .int .i64 0, .int .i64 0, .int .i64 0, .int .i64 0, .int .i64 0, .int .i64 0, .int .i64 0, .int .i64 0, .int .i64 0, .int .i64 0]).drew.step hb3; obtain ⟨zl, z0, z1, z2, z3, z4, z5, z6, z7, z8, z9, z10, z11, z12, f0, f1, f2, f3, f4, f5, f6, f7, f8, f9, f10, f11, f12⟩ := bl13 hz; clear hz; have hF := hid (box_a (S := fun _ => False) (t := 46) (cs := #[.int .i64 P.op.kind, .int .i64 P.op.at_, .int .i32 P.op.char, .int .i64 P.op.rep, .int .i64 P.num, .int .i64 P.clk.c0, .int .i64 P.clk.c1, .int .i64 P.clk.c2, .int .i64 P.clk.c3, .int .i64 P.clk.c4, .int .i64 P.clk.c5, .int .i64 P.clk.c6, .int .i64 P.clk.c7]) (Out.of_below hb3) (fun h => h) (act13_cells #[.int .i64 0, .int .i64 0, .int .i32 0, .int .i64 0, .int .i64 0, .int .i64 0, .int .i64 0, .int .i64 0, .int .i64 0, .int .i64 0, .int .i64 0, .int .i64 0, .int .i64 0] P rfl)); have hb3 := hid hb3; dsimp only)))) | (with_reducible first | refine Keep.below (by assumption) ?_ | refine Keep.alloc ?_ | refine Keep.same ?_) | ((with_reducible refine WpO.here ?_); first | (refine WpO.done ?_; refine NoP.normal ?_) | ((first | refine WpO.load (by rfl) (by rfl) (by go_simp; rfl) ?_ | refine WpO.pure (by rfl) (fun w_ => by go_simp; (try go_bits); rfl) ?_); go_frame) | refine WpO.wild ?_ | refine WpO.two ?_ ?_) | ((with_reducible refine wildO.here ?_); (refine wildO.go (by rfl) (fun _ _ => ?_))) | go_step)
         all_goals (try rw [sets13])
         all_goals clear y0 y1 y2 y3 y4 y5 y6 yl s1 sl s3 sl3 k4 k5 s5 s6 y6' b2d b2e hk3
         · have hBP := hF.out.b
           have hBZ := hF.out.below hb3.out
           clear hF hb3
           refine HK2.out _ _ ?_
           try dsimp only
           generalize w3.alloc (.cells #[.int .i64 P.op.kind, .int .i64 P.op.at_, .int .i32 P.op.char, .int .i64 P.op.rep, .int .i64 P.num, .int .i64 P.clk.c0, .int .i64 P.clk.c1, .int .i64 P.clk.c2, .int .i64 P.clk.c3, .int .i64 P.clk.c4, .int .i64 P.clk.c5, .int .i64 P.clk.c6, .int .i64 P.clk.c7] 46) = Z at *
           generalize w3.heap.size = g at *
           cases okb
           · clear hBP
             repeat' (first | go_guarded | go_step)
             go_roundw
             case rel =>
              refine ⟨t + 1, ss, by go_num, by omega, by omega, ?_, (HP.out.step hBZ).monoK (by omega), bvia BY hBZ⟩
              rw [Hsn.out, if_neg Hd2.out, Hget.out, if_neg (by simp), set_same8 Hsk.out]
             case measure => simp [intOf]; omega
           · obtain ⟨x0, x1, x2, x3, x4, x5, x6, x7, x8, x9, x10, x11, x12⟩ := cl13 (w := Z) (g := g) hBP
             have xl := hBP.lt
             have HT := hid (site_take (a := a) Z w1.heap.size sb (bs.length + t) S2 S' s P (HS.out.step hBZ) Hfine.out HPI.out (HsY.out.step hBZ) HlowB.out)
             simp only [Actn.agg] at HT
             unfold Actn.vals at HT
             have HBZ := hid hBZ
             clear hBP hBZ
             repeat' (first | (go_at_call 32; go_must ((with_reducible refine Calls.mono HT.out ?_); rintro _ w5 ⟨rfl, hS5, hO5⟩; have HS5 := hid hS5; have HO5 := hid hO5; clear hS5 hO5; dsimp only)) | go_guarded | go_step)
             have hnx := Hnext.out Z w5 (s.takeOf P) HBZ.out HS5.out HO5.out
             go_roundw
             case rel =>
              refine ⟨t + 1, _, by go_num, by omega, by omega, ?_, hnx.1, BY.trans hnx.2⟩
              rw [Hsn.out, if_neg Hd2.out, Hget.out, if_pos rfl]
             case measure => simp [intOf]; omega
         · clear z0 f0 z1 f1 z2 f2 z3 f3 z4 f4 z5 f5 z6 f6 z7 f7 z8 f8 z9 f9 z10 f10 z11 f11 z12 f12 zl
           have hBP := hF.out.b
           have hBZ := hF.out.below hb3.out
           clear hF hb3
           refine HK2.out _ _ ?_
           try dsimp only
           generalize setsAt Y.heap.size (act13 P) w3 = Z at *
           obtain ⟨g, hg⟩ : ∃ g, g = Y.heap.size := ⟨_, rfl⟩
           rw [← hg] at hBP ⊢
           clear hg
           cases okb
           · clear hBP
             repeat' (first | go_guarded | go_step)
             go_roundw
             case rel =>
              refine ⟨t + 1, ss, by go_num, by omega, by omega, ?_, (HP.out.step hBZ).monoK (by omega), bvia BY hBZ⟩
              rw [Hsn.out, if_neg Hd2.out, Hget.out, if_neg (by simp), set_same8 Hsk.out]
             case measure => simp [intOf]; omega
           · obtain ⟨x0, x1, x2, x3, x4, x5, x6, x7, x8, x9, x10, x11, x12⟩ := cl13 (w := Z) (g := g) hBP
             have xl := hBP.lt
             have HT := hid (site_take (a := a) Z w1.heap.size sb (bs.length + t) S2 S' s P (HS.out.step hBZ) Hfine.out HPI.out (HsY.out.step hBZ) HlowB.out)
             simp only [Actn.agg] at HT
             unfold Actn.vals at HT
             have HBZ := hid hBZ
             clear hBP hBZ
             repeat' (first | (go_at_call 32; go_must ((with_reducible refine Calls.mono HT.out ?_); rintro _ w5 ⟨rfl, hS5, hO5⟩; have HS5 := hid hS5; have HO5 := hid hO5; clear hS5 hO5; dsimp only)) | go_guarded | go_step)
             have hnx := Hnext.out Z w5 (s.takeOf P) HBZ.out HS5.out HO5.out
             go_roundw
             case rel =>
              refine ⟨t + 1, _, by go_num, by omega, by omega, ?_, hnx.1, BY.trans hnx.2⟩
              rw [Hsn.out, if_neg Hd2.out, Hget.out, if_pos rfl]
             case measure => simp [intOf]; omega
         · clear z0 f0 z1 f1 z2 f2 z3 f3 z4 f4 z5 f5 z6 f6 z7 f7 z8 f8 z9 f9 z10 f10 z11 f11 z12 f12 zl
           have hBP := hF.out.b
           have hBZ := hF.out.below hb3.out
           clear hF hb3
           refine HK2.out _ _ ?_
           try dsimp only
           generalize setsAt Y.heap.size (act13 P) w3 = Z at *
           obtain ⟨g, hg⟩ : ∃ g, g = Y.heap.size := ⟨_, rfl⟩
           rw [← hg] at hBP ⊢
           clear hg
           cases okb
           · clear hBP
             repeat' (first | go_guarded | go_step)
             go_roundw
             case rel =>
              refine ⟨t + 1, ss, by go_num, by omega, by omega, ?_, (HP.out.step hBZ).monoK (by omega), bvia BY hBZ⟩
              rw [Hsn.out, if_neg Hd2.out, Hget.out, if_neg (by simp), set_same8 Hsk.out]
             case measure => simp [intOf]; omega
           · obtain ⟨x0, x1, x2, x3, x4, x5, x6, x7, x8, x9, x10, x11, x12⟩ := cl13 (w := Z) (g := g) hBP
             have xl := hBP.lt
             have HT := hid (site_take (a := a) Z w1.heap.size sb (bs.length + t) S2 S' s P (HS.out.step hBZ) Hfine.out HPI.out (HsY.out.step hBZ) HlowB.out)
             simp only [Actn.agg] at HT
             unfold Actn.vals at HT
             have HBZ := hid hBZ
             clear hBP hBZ
             repeat' (first | (go_at_call 32; go_must ((with_reducible refine Calls.mono HT.out ?_); rintro _ w5 ⟨rfl, hS5, hO5⟩; have HS5 := hid hS5; have HO5 := hid hO5; clear hS5 hO5; dsimp only)) | go_guarded | go_step)
             have hnx := Hnext.out Z w5 (s.takeOf P) HBZ.out HS5.out HO5.out
             go_roundw
             case rel =>
              refine ⟨t + 1, _, by go_num, by omega, by omega, ?_, hnx.1, BY.trans hnx.2⟩
              rw [Hsn.out, if_neg Hd2.out, Hget.out, if_pos rfl]
             case measure => simp [intOf]; omega
     · have hall : vs.take 40 = vs.take t := by
        by_cases h4 : t = 40
        · rw [h4]
        · rw [List.take_of_length_le (by omega), List.take_of_length_le (by omega)]
       have hres : playedOf j l vs = ss := by unfold playedOf; rw [hall]; exact Hss.out.symm
       have Hres := hid hres
       clear hall hres
       have p0 : wr.cell? ⟨w.heap.size, 0, none⟩ = some (.int .i64 k) := ((HX1.out.step hbw)).cell 0; have p1 : wr.cell? ⟨w.heap.size, 1, none⟩ = some (.slice A n c) := ((HX1.out.step hbw)).cell 1; have p2 : wr.cell? ⟨w.heap.size, 2, none⟩ = some (.slice _ m d) := ((HX1.out.step hbw)).cell 2; have pl := ((HX1.out.step hbw)).lt
       by_cases h1 : t < m
       · have htm : (t : Int) < (m : Int) := by omega
         have ht40 : ¬ (t : Int) < 40 := by omega
         clear hlt
         repeat' (first | go_guarded | go_step)
         go_ret
         exact ⟨A2, c2, w1.heap.size, rfl, by rw [Hres.out]; exact HP.out.monoK (by omega), B1.size, Bwr⟩
       · have htm : ¬ (t : Int) < (m : Int) := by omega
         clear hlt
         repeat' (first | go_guarded | go_step)
         go_ret
         exact ⟨A2, c2, w1.heap.size, rfl, by rw [Hres.out]; exact HP.out.monoK (by omega), B1.size, Bwr⟩
end Go.Proofs.YteggpddlkkjmjaaGreatDoor
namespace Go.Proofs.YteggpddlkkjmjaaGreatDoor
open Go Go.RowKit Go.ChangeShapes Go.WideShapes Go.ChangeAt Go.Deep
instance : Inhabited Mv8 := ⟨⟨0, 0, 0, noOpn⟩⟩
section
variable {H : Type} {enc : TypeId × Value → H} {W : World} {fuel : Nat}
theorem mv_of_trod {cs : List Value} {x : DataW H × List MemPlace} (hl : cs.length = 7) (h : DataW.trod enc Tryz.prog W 0 (fun _ => true) true fuel 96 cs = some x) : ∃ o : Mv8, cs = Enc.cells o ∧ o.In := by
 obtain ⟨xs, n, _, _, _, hxl, hf⟩ := DataW.trod_struct Tryz.underlying96 h
 match cs, hl with
 | [v0, v1, v2, v3, v4, v5, v6], _ =>
  have c3 : Tryz.prog.cellsOf 3 = 1 := by kernel_rfl
  have c4 : Tryz.prog.cellsOf 37 = 4 := by kernel_rfl
  match xs, hxl with
  | [y0, y1, y2, y3], _ =>
   have g0 := hf 0 _ rfl
   have g1 := hf 1 _ rfl
   have g2 := hf 2 _ rfl
   have g3 := hf 3 _ rfl
   simp [c3, c4] at g0 g1 g2 g3
   obtain ⟨n0, e0, q0⟩ := one_of_trod Tryz.underlying3 g0 rfl
   obtain ⟨n1, e1, q1⟩ := one_of_trod Tryz.underlying3 g1 rfl
   obtain ⟨n2, e2, q2⟩ := one_of_trod Tryz.underlying3 g2 rfl
   obtain ⟨o, e3, q3⟩ := op_of_trod rfl g3
   simp only [Opn.cells, List.cons.injEq, and_true] at e0 e1 e2 e3
   obtain ⟨rfl, rfl, rfl, rfl⟩ := e3
   subst e0 e1 e2
   exact ⟨⟨n0, n1, n2, o⟩, rfl, wf_i64 q0, wf_i64 q1, wf_i64 q2, q3⟩
theorem moves8_of_cells {v : Value} {y : DataW H × List MemPlace} (h : DataW.trod enc Tryz.prog W 0 (fun _ => true) true fuel 23 [v] = some y) :
 ∃ A n c, ∃ es : List Mv8, v = .slice A n c ∧ GRow W (fun b => b < W.heap.size) A n c es ∧ ∀ e ∈ es, e.In :=
 grow_of_cells (α := Mv8) (t := 96) Tryz.underlying23 (by kernel_rfl) (by decide) Mv8.In (fun fuel cs x hl h => mv_of_trod hl h) h
end
section
variable {H : Type} {enc : TypeId × Value → H} {W : World} {v : Value} {d : DataW H} {p : List MemPlace} {r : Reach} {b0 : Nat}
theorem sess_of_trod (hv : Value.okWide Tryz.prog W r b0 25 v) (h : DataW.Trod enc Tryz.prog W 0 (fun _ => true) true 25 v d p) :
 ∃ k A n c B m e, ∃ (l : List Int) (vs : List Mv8), v = .agg #[.int .i64 k, .slice A n c, .slice B m e] ∧ I64 k ∧ GRow W (fun b => b < W.heap.size) A n c (l.map Rn8.mk) ∧ (∀ e ∈ l, I32 e) ∧ GRow W (fun b => b < W.heap.size) B m e vs ∧ ∀ e ∈ vs, e.In := by
 obtain ⟨cs, rfl, hcs⟩ := okWide_struct Tryz.underlying25 hv
 obtain ⟨fuel, h0⟩ := h
 obtain ⟨xs, m, _, _, hcl, hxl, hf⟩ := DataW.trod_struct Tryz.underlying25 h0
 have c24 : Tryz.prog.cellsOf 25 = 3 := by kernel_rfl
 have c3 : Tryz.prog.cellsOf 3 = 1 := by kernel_rfl
 have c4 : Tryz.prog.cellsOf 22 = 1 := by kernel_rfl
 have c5 : Tryz.prog.cellsOf 23 = 1 := by kernel_rfl
 rw [c24] at hcs
 obtain ⟨l⟩ := cs
 match l, hcs with
 | [u0, u1, u2], _ =>
  match xs, hxl with
  | [y0, y1, y2], _ =>
   have g0 := hf 0 _ rfl
   have g1 := hf 1 _ rfl
   have g2 := hf 2 _ rfl
   simp [c3, c4, c5, Value.cells] at g0 g1 g2
   obtain ⟨k, e0, hk⟩ := one_of_trod Tryz.underlying3 g0 rfl
   obtain ⟨A, n, c, ls, rfl, hr, hi⟩ := runes8_of_cells g1
   obtain ⟨B, m', e, vs, rfl, hr', hi'⟩ := moves8_of_cells g2
   simp only [List.cons.injEq, and_true] at e0
   subst e0
   exact ⟨k, A, n, c, B, m', e, ls, vs, rfl, wf_i64 hk, hr, hi, hr', hi'⟩
end
end Go.Proofs.YteggpddlkkjmjaaGreatDoor
