/- Part of a proof: what functions of the program compute. Conditions: as each theorem says. -/
import Derived.Maps.RangeWalk
import Derived.Test.YteggpddlkkjmjaaGreatDoorQ22
import Derived.Test.YteggpddlkkjmjaaGreatDoorQ31
import Derived.Test.YteggpddlkkjmjaaGreatDoorQ67
import Derived.Test.YteggpddlkkjmjaaGreatDoorQ74
import Derived.Test.YteggpddlkkjmjaaGreatDoorQ8
set_option linter.unusedSimpArgs false
set_option linter.unusedVariables false
set_option maxHeartbeats 16000000
set_option maxRecDepth 200000
namespace Go.Proofs.YteggpddlkkjmjaaGreatDoor
open Go Go.RowKit
variable {a : Nat → Addr}
structure Sl8 where
 A : Option Addr
 n : Nat
 c : Nat
instance : Enc Sl8 where
 k := 1
 cells s := [.slice s.A s.n s.c]
 len _ := rfl
 one := by
  intro a u hu
  have : u = .slice a.A a.n a.c := by simpa using hu
  subst this
  rfl
theorem Tryz.infoSl8 : (Tryz.prog.info? 51).map (fun i => (i.zero, i.size, i.bytes)) = some (some (.slice none 0 0), 1, 24) := by kernel_rfl
theorem wp_append_sl8 {ac : Act} {K : Act → World → Prop} {Q : Exit → Act → World → Prop} {w : World} {dst : Option Tmp} {s x : Operand} {ty : TypeId} {pos : String} {after : Array Edge} {guard : Option (Nat × Bool)}
 (base : Nat) (A B : Option Addr) (n c m d : Nat) (es fs : List Sl8) (S : Nat → Prop) (hs : ac.eval s = .slice A n c) (hx : ac.eval x = .slice B m d) (hown : GOwn 51 w base A n c es) (hrow : GRow w S B m d fs) (hb : base ≤ w.heap.size) (hbd : n + m ≤ 1099511627776)
 (h : ∀ A' c' w', GOwn 51 w' base A' (n + m) c' (es ++ fs) → Below base w w' → Same (fun k => ∀ g, A = some g → g.block ≠ k) w w' → (A' = A ∨ ∃ g, A' = some ⟨g, 0, none⟩ ∧ w.heap.size ≤ g) → w.heap.size ≤ w'.heap.size → K (ac.put dst (.slice A' (n + m) c')) w') :
 Oper.wp Tryz.prog ⟨dst, .call ⟨.builtin .append, #[s, x], #[50, 50]⟩, ty, pos, after, guard⟩ ac w K Q :=
 wp_append_g (α := Sl8) 50 51 _ 24 Tryz.underlying50 Tryz.infoSl8 rfl (by decide) (by decide) (by decide) base A B n c m d es fs S hs hx hown hrow hb hbd h
theorem app_sl8_here {ac : Act} {K : Act → World → Prop} {Q : Exit → Act → World → Prop} {w : World} {dst : Option Tmp} {s x : Operand} {ty : TypeId} {pos : String} {after : Array Edge} {guard : Option (Nat × Bool)}
 (h : Oper.wp Tryz.prog ⟨dst, .call ⟨.builtin .append, #[s, x], #[50, 50]⟩, ty, pos, after, guard⟩ ac w K Q) : Oper.wp Tryz.prog ⟨dst, .call ⟨.builtin .append, #[s, x], #[50, 50]⟩, ty, pos, after, guard⟩ ac w K Q := h
theorem grow_sl2 (W : World) (h1 h2 : Sl8) : GRow (W.alloc (.cells #[.slice h1.A h1.n h1.c, .slice h2.A h2.n h2.c] 51)) (fun _ => True) (some ⟨W.heap.size, 0, none⟩) 2 2 [h1, h2] :=
 (GOwn.lit (t := 51) W #[.slice h1.A h1.n h1.c, .slice h2.A h2.n h2.c] [h1, h2] W.heap.size (Nat.le_refl _) (by show 2 ≤ maxLen; decide) rfl).row fun _ _ _ => trivial
def PairsE (w : World) (S : Nat → Prop) (hd : List Sl8) (ls : List (List El)) : Prop := hd.length = ls.length ∧ ∀ (i : Nat) (h : Sl8) (x : List El), hd[i]? = some h → ls[i]? = some x → h.n = x.length ∧ Row w S h.A x.length h.c x
theorem PairsE.nil (w : World) (S : Nat → Prop) : PairsE w S [] [] := ⟨rfl, fun i h x hh => by cases hh⟩
theorem PairsE.keep {w w' : World} {S : Nat → Prop} {hd : List Sl8} {ls : List (List El)} (q : PairsE w S hd ls) (hk : Same S w w') : PairsE w' S hd ls := ⟨q.1, fun i h x h1 h2 => ⟨(q.2 i h x h1 h2).1, (q.2 i h x h1 h2).2.keep hk⟩⟩
theorem PairsE.step {w w' : World} {S : Nat → Prop} {hd : List Sl8} {ls : List (List El)} (q : PairsE w S hd ls) (hb : Below w.heap.size w w') : PairsE w' S hd ls := q.keep (Same.of_below hb)
theorem PairsE.more {w : World} {S S' : Nat → Prop} {hd : List Sl8} {ls : List (List El)} (q : PairsE w S hd ls) (hs : ∀ b, b < w.heap.size → S b → S' b) : PairsE w S' hd ls := ⟨q.1, fun i h x h1 h2 => ⟨(q.2 i h x h1 h2).1, (q.2 i h x h1 h2).2.more hs⟩⟩
theorem row_app {w w' : World} {B0 : Nat} {A A' B : Option Addr} {n c : Nat} {x : List El} (r : Row w (fun b => B0 ≤ b ∧ ¬ rowB A b) B n c x) (hs : Same (fun k => ∀ g, A = some g → g.block ≠ k) w w') (hat : A' = A ∨ ∃ g, A' = some ⟨g, 0, none⟩ ∧ w.heap.size ≤ g) (hlt : ∀ b, b < w.heap.size → b < w'.heap.size) : Row w' (fun b => B0 ≤ b ∧ ¬ rowB A' b) B n c x := by
 refine ((r.more (S' := fun b => (B0 ≤ b ∧ ¬ rowB A b) ∧ b < w.heap.size) fun b hl hs => ⟨hs, hl⟩).keep fun b hq hl => hs b (fun g hg e => hq.1.2 ⟨g, hg, e⟩) hl).more fun b _ hq => ⟨hq.1.1, ?_⟩
 rcases hat with rfl | ⟨g, rfl, hg⟩
 · exact hq.1.2
 · rintro ⟨y, hy, e⟩
   cases hy
   have e : g = b := e
   have := hq.2
   omega
theorem pairs_app {w w' : World} {B0 : Nat} {A A' : Option Addr} {hd : List Sl8} {ls : List (List El)} {h1 h2 : Sl8} {x1 x2 : List El} (q : PairsE w (fun b => B0 ≤ b ∧ ¬ rowB A b) hd ls) (e1 : h1.n = x1.length) (r1 : Row w (fun b => B0 ≤ b ∧ ¬ rowB A b) h1.A x1.length h1.c x1) (e2 : h2.n = x2.length) (r2 : Row w (fun b => B0 ≤ b ∧ ¬ rowB A b) h2.A x2.length h2.c x2)
 (hs : Same (fun k => ∀ g, A = some g → g.block ≠ k) w w') (hat : A' = A ∨ ∃ g, A' = some ⟨g, 0, none⟩ ∧ w.heap.size ≤ g) (hz : w.heap.size ≤ w'.heap.size) : PairsE w' (fun b => B0 ≤ b ∧ ¬ rowB A' b) (hd ++ [h1, h2]) (ls ++ [x1, x2]) := by
 have hlt : ∀ b, b < w.heap.size → b < w'.heap.size := fun b h => Nat.lt_of_lt_of_le h hz
 refine ⟨by simp [q.1], fun i h x hh hx => ?_⟩
 by_cases hi : i < hd.length
 · rw [List.getElem?_append_left hi] at hh
   rw [List.getElem?_append_left (by rw [← q.1]; exact hi)] at hx
   obtain ⟨k1, k2⟩ := q.2 i h x hh hx
   exact ⟨k1, row_app k2 hs hat hlt⟩
 · rw [List.getElem?_append_right (by omega)] at hh
   rw [List.getElem?_append_right (by rw [← q.1]; omega), ← q.1] at hx
   match hj : i - hd.length, hh, hx with
   | 0, hh, hx => cases hh; cases hx; exact ⟨e1, row_app r1 hs hat hlt⟩
   | 1, hh, hx => cases hh; cases hx; exact ⟨e2, row_app r2 hs hat hlt⟩
   | j + 2, hh, hx => simp at hh
theorem InOrd.of_two {l m M : List El} (hnd : (M.map El.nm).Nodup) (h1 : (l.map El.nm).Sublist (M.map El.nm)) (h2 : (m.map El.nm).Sublist (M.map El.nm)) : InOrd l m := by
 intro i j x y hij hx hy p q hp hq
 have hxm : x.nm ∈ m.map El.nm := by
  obtain ⟨z, hz, hzn, -⟩ := ixOf_get hp
  exact List.mem_map.2 ⟨z, List.mem_of_getElem? hz, hzn⟩
 have hym : y.nm ∈ m.map El.nm := by
  obtain ⟨z, hz, hzn, -⟩ := ixOf_get hq
  exact List.mem_map.2 ⟨z, List.mem_of_getElem? hz, hzn⟩
 obtain ⟨P, hP⟩ := ixOf_mem (l := M) (h2.subset hxm)
 obtain ⟨Q, hQ⟩ := ixOf_mem (l := M) (h2.subset hym)
 have hPQ := InOrd.of_sub hnd h1 i j x y hij hx hy P Q hP hQ
 refine Nat.lt_of_not_le fun hle => ?_
 obtain ⟨zp, hzp, hzpn, -⟩ := ixOf_get hp
 obtain ⟨zq, hzq, hzqn, -⟩ := ixOf_get hq
 rcases Nat.lt_or_eq_of_le hle with hlt | he
 · have := InOrd.of_sub hnd h2 q p zq zp hlt hzq hzp Q P (by rw [hzqn]; exact hQ) (by rw [hzpn]; exact hP)
   omega
 · subst he
   rw [hzp] at hzq
   cases hzq
   rw [hzpn] at hzqn
   rw [hzqn] at hP
   rw [hP] at hQ
   cases hQ
   omega
def Play9 (w : World) (base : Nat) (P : Nat → Prop) (A : Option Addr) (n c : Nat) (ss : List Lg) (K : Nat) : Prop :=
 ∃ sbs : List Nat, GRow w (rowB A) A n c (sbs.map Pt8.mk) ∧ SitesAt w base (fun b => rowB A b ∨ P b) sbs ss K
section
variable {w w' : World} {base n c K : Nat} {P : Nat → Prop} {A : Option Addr} {ss : List Lg}
theorem Play8.nine (h : Play8 w base A n c ss K) (hb : Below w.heap.size w w') (hr : ∀ b, rowB A b → b < w.heap.size) (hP : ∀ b, P b → w.heap.size ≤ b ∧ b < w'.heap.size) : Play9 w' base P A n c ss K := by
 obtain ⟨sbs, h1, h2⟩ := h
 refine ⟨sbs, h1.step hb, h2.keep hb.size (fun b hl _ => hb.block b hl) fun b hb' => ?_⟩
 rcases hb' with h | h
 · exact ⟨.inl h, Nat.lt_of_lt_of_le (hr b h) hb.size⟩
 · exact ⟨.inr (hP b h).1, (hP b h).2⟩
theorem Play9.len (h : Play9 w base P A n c ss K) : ss.length = n := by
 obtain ⟨sbs, h1, h2, _⟩ := h
 have h3 := h1.1
 rw [List.length_map] at h3
 omega
theorem Play9.low (h : Play9 w base P A n c ss K) : base ≤ w.heap.size := h.choose_spec.2.2.1
theorem Play9.step (h : Play9 w base P A n c ss K) (hb : Below w.heap.size w w') : Play9 w' base P A n c ss K := by
 obtain ⟨sbs, h1, h2⟩ := h
 exact ⟨sbs, h1.step hb, h2.step hb⟩
theorem Play9.monoK {K' : Nat} (h : Play9 w base P A n c ss K) (hk : K ≤ K') : Play9 w base P A n c ss K' := by
 obtain ⟨sbs, h1, h2⟩ := h
 exact ⟨sbs, h1, h2.monoK hk⟩
theorem Play9.at2 (h : Play9 w base P A n c ss K) {k : Nat} {s : Lg} (hs : ss[k]? = some s) :
 ∃ b off sb S, A = some ⟨b, off, none⟩ ∧ w.cell? ⟨b, off + k, none⟩ = some (.pointer (some ⟨sb, 0, none⟩)) ∧ b < w.heap.size ∧ ¬ S b ∧ SiteAt w base S sb s K ∧
  ∀ (w1 w' : World) (s' : Lg), Below w.heap.size w w1 → SiteAt w' base (fun b => Fr w1 S b ∧ b < w'.heap.size) sb s' (K + 1) → Out S w1 w' → Play9 w' base P A n c (ss.set k s') (K + 1) ∧ Below base w w' ∧ Same P w w' := by
 have hl := h.len
 obtain ⟨sbs, h1, h2⟩ := h
 have hkn : k < n := by rw [← hl]; exact (List.getElem?_eq_some_iff.1 hs).1
 obtain ⟨b, off, e, hA, hR, hb, he, hc⟩ := h1.at_ hkn
 rw [List.getElem?_map] at he
 obtain ⟨sb, hsb, rfl⟩ := Option.map_eq_some_iff.1 he
 obtain ⟨S, h3, h4, h5⟩ := h2.at_ hsb hs
 have c0 := hc 0 _ rfl
 have e1 : off + k * Enc.k Pt8 + 0 = off + k := by show off + k * 1 + 0 = off + k; omega
 rw [e1] at c0
 refine ⟨b, off, sb, S, hA, c0, hb, fun hsb' => (h4 b hsb').2 (.inl ⟨_, hA, rfl⟩), h3, fun w1 w' s' hb1 hn hO => ?_⟩
 have h2' := h2.2.1
 have hO' := hid ((Out.of_below (S := S) hb1).trans hO fun _ _ h => h)
 have hn' : SiteAt w' base (fun b => Fr w S b ∧ b < w'.heap.size) sb s' (K + 1) := by
  refine hn.more (fun b hb => ⟨hb.1.imp id fun h => Nat.le_trans hb1.size h, hb.2⟩) fun b hb => ⟨?_, hb.2⟩
  rcases hb.1 with h | h
  · exact (h4 b h).1
  · exact Nat.le_trans h2' h
 refine ⟨⟨sbs, ?_, h5 w' s' hn' hO'.out⟩, hO'.out.below_ (fun b hb => (h4 b hb).1) h2', fun b hp hl => hO'.out.block b hl fun hs' => (h4 b hs').2 (.inr hp)⟩
 exact h1.keep hO'.out.size fun b hr hb => hO'.out.block b hb fun hs' => (h4 b hs').2 (.inl hr)
end
end Go.Proofs.YteggpddlkkjmjaaGreatDoor
namespace Go.Proofs.YteggpddlkkjmjaaGreatDoor
open Go Go.RowKit
variable {a : Nat → Addr}
theorem sites_all9 (w : World) (base : Nat) (P : Nat → Prop) (A : Option Addr) (n c K m : Nat) (ss0 : List Lg) (S' : Nat → Prop) (hP : Play9 w base P A n c ss0 K) (hg : AllGd ss0 m) (hn : 0 < n ∧ n ≤ 4) (hm : m ≤ 1000) (hK : K ≤ 10000) (hs : Sents w S' a) (hlow : ∀ b, S' b → b < base) :
 Calls Tryz.prog 14 #[.slice A n c] w fun e w' => e = .returned (.bool true) ∧ Play9 w' base P A n c (allOf n ss0) (K + n * (n * 40)) ∧ Below base w w' ∧ Same P w w' := by
 have HP0 := hid hP
 have Hg := hid hg
 have Hs := hid hs
 have Hlow := hid hlow
 have hlow0 := hP.low
 obtain ⟨q, hq⟩ : ∃ q, q = n * 40 := ⟨_, rfl⟩
 have hqi : (n : Int) * 40 = (q : Int) := by omega
 have hnq : n * q ≤ 640 := by
  have : n * q ≤ 4 * 160 := Nat.mul_le_mul hn.2 (by omega)
  omega
 rw [← hq]
 have Hq := hid hq
 clear hP hg hs hlow hq
 go_enter Tryz.func14, Tryz.ntmps14
 repeat' (first | go_step)
 go_loopw [3] (fun i wr => ∃ (k : Nat) (sk : List Lg), i = .int .i64 k ∧ k ≤ n ∧ sk = (List.range k).foldl (allRound n) ss0 ∧ AllGd sk (m + k * q) ∧ Play9 wr base P A n c sk (K + k * q) ∧ Below base w wr ∧ Same P w wr) (fun i _ => n - (intOf i).toNat)
 case atStart => exact ⟨0, ss0, rfl, Nat.zero_le _, rfl, by simpa using Hg.out, by simpa using HP0.out, Below.refl _ _, Same.refl _ _⟩
 case round =>
  obtain ⟨k, sk, rfl, hk, hsk, hgk, hPk, hbk, hsmk⟩ := hrel
  have Hsmk := hid hsmk
  clear hsmk
  have HPk := hid hPk
  have Hgk := hid hgk
  have Hsk0 := hid hsk
  have Hbk := hid hbk
  clear hPk hgk hsk hbk
  by_cases hlt : k < n
  · have hkn : (k : Int) < (n : Int) := by omega
    have hkq : k * q + q ≤ n * q := by
     have : (k + 1) * q ≤ n * q := Nat.mul_le_mul_right q (by omega)
     rw [Nat.succ_mul] at this
     exact this
    obtain ⟨kq, hkq'⟩ : ∃ kq, kq = k * q := ⟨_, rfl⟩
    rw [← hkq'] at hkq HPk Hgk
    have Hkq := hid hkq'
    clear hkq'
    repeat' (first | go_step)
    go_loopw [4] (fun i wr => ∃ (j : Nat) (ss : List Lg), i = .int .i64 j ∧ j ≤ q ∧ ss = (List.range j).foldl (allStep k n) sk ∧ Play9 wr base P A n c ss (K + kq + j) ∧ Below base w wr ∧ Same P w wr) (fun i _ => q - (intOf i).toNat)
    case atStart => exact ⟨0, sk, rfl, Nat.zero_le _, rfl, HPk.out, Hbk.out, Hsmk.out⟩
    case round =>
     clear HPk Hbk Hsmk
     obtain ⟨j, ss, rfl, hj, hss, hP, hbw, hsm⟩ := hrel
     have Hsm := hid hsm
     clear hsm
     have HP := hid hP
     have Hss := hid hss
     have hSl := hP.len
     clear hP hss
     by_cases hlt2 : j < q
     · have hjq : (j : Int) < (q : Int) := by omega
       have hgd : AllGd ss (m + kq + j) := by
        have := allGd_steps (k := k) (n := n) (List.range j) sk (m + kq) Hgk.out
        rw [List.length_range] at this
        rw [Hss.out]
        exact this
       obtain ⟨f, hf⟩ : ∃ f, f = j % n := ⟨_, rfl⟩
       have hfl : f < n := by rw [hf]; exact Nat.mod_lt _ hn.1
       have hrem : (j : Int).tmod (n : Int) = (f : Int) := by rw [hf]; rfl
       have hn0 : ¬ n = 0 := by omega
       have hfi : (f : Int) < (n : Int) := by omega
       obtain ⟨s, hsk⟩ : ∃ s, ss[k]? = some s := ⟨_, List.getElem?_eq_getElem (by omega)⟩
       obtain ⟨u, huk⟩ : ∃ u, ss[f]? = some u := ⟨_, List.getElem?_eq_getElem (by omega)⟩
       have hsn : (List.range (j + 1)).foldl (allStep k n) sk = ss.set k (getStep s u) := by
        rw [List.range_succ, List.foldl_append, ← Hss.out]
        exact allStep_at hf.symm hsk huk
       have Hsn := hid hsn
       have hgs := hid (hgd s (List.mem_of_getElem? hsk))
       have hgu := hid (hgd u (List.mem_of_getElem? huk))
       have Hsk := hid hsk
       have Huk := hid huk
       obtain ⟨KK, hKK⟩ : ∃ KK, KK = K + kq + j := ⟨_, rfl⟩
       have hfine : s.Fine KK := hgs.out.snd.fine (by omega) (by omega)
       have Hfine := hid hfine
       clear hsn hgd hf hsk huk hfine
       obtain ⟨b2, off2, sb, S2, rfl, k0, hb2l, nb2, hS, hnext⟩ := HP.out.at2 Hsk.out
       rw [← hKK] at hS hnext
       have HS := hid hS
       have Hnext := hid hnext
       have HszW := hid (show w.heap.size ≤ wr.heap.size from hbw.size)
       have HsY := hid (Hs.out.keep fun b hb _ => hbw.block b (Hlow.out b hb))
       obtain ⟨gb, rb, Sa, Sb, hsb, hg, hr, g4, g5, g6, g7⟩ := hS
       obtain ⟨b3, off3, sb3, S3, hA3, k3, hb3l, -, hS3, -⟩ := HP.out.at2 Huk.out
       cases hA3
       obtain ⟨gb3, rb3, Sa3, Sb3, hsb3, hg3, hr3, -, -, -, -⟩ := hS3
       obtain ⟨Y, hP⟩ : ∃ Y, Y = lackAct s.clk u.acts := ⟨_, rfl⟩
       obtain ⟨okb, hokb⟩ : ∃ okb, okb = lackOk s.clk u.acts := ⟨_, rfl⟩
       have HLK := hid (fun W (hb : Below wr.heap.size wr W) => lacks_any W rb rb3 Sb Sb3 s u (hr.step hb) (hr3.step hb) (by have := hgu.out.snd.acts; omega) (hgs.out.snd.clkIn (by omega)))
       rw [← hP, ← hokb] at HLK
       have hPI : Y.In := by rw [hP]; exact lackAct_in hgu.out.ain
       have hget : getStep s u = if okb = true then s.takeOf Y else s := by unfold getStep; rw [← hP, ← hokb]
       have HPI := hid hPI
       have Hget := hid hget
       have Hsb := hid hsb
       have Hsb3 := hid hsb3
       have tg : ¬ S2 wr.heap.size := fun h => Nat.lt_irrefl _ (g7 _ h).2
       have tg2 : ∀ x, wr.heap.size ≤ x → ¬ S2 x := fun x hx h => by have := (g7 _ h).2; omega
       have Tg2 := hid tg2
       simp only [Actn.agg] at HLK
       unfold Actn.vals at HLK
       clear hP hokb hPI hget hsb hg hr g4 g5 g6 g7 hsb3 hg3 hr3 hnext tg2
       repeat' (first | (with_reducible refine stop_region 7 ?_) | go_step)
       refine Stop.go ?_
       rename_i K2 hK2
       have HK2 := hid hK2
       clear hK2
       have hsd := Hsb.out.drew
       have s1 : wr.drew.cell? ⟨sb, 1, none⟩ = some (.pointer (some ⟨rb, 0, none⟩)) := hsd.cell 1
       have sl := hsd.lt
       have hsd3 := Hsb3.out.drew
       have s3 : wr.drew.cell? ⟨sb3, 1, none⟩ = some (.pointer (some ⟨rb3, 0, none⟩)) := hsd3.cell 1
       have sl3 := hsd3.lt
       have k4 : wr.drew.cell? ⟨b2, off2 + f, none⟩ = some (.pointer (some ⟨sb3, 0, none⟩)) := k3
       have k4' : wr.drew.cell? ⟨b2, off2 + k, none⟩ = some (.pointer (some ⟨sb, 0, none⟩)) := k0
       have b2d : b2 < wr.drew.heap.size := hb2l
       have bA : Below wr.heap.size wr (wr.alloc (.cells #[.int .i64 0, .int .i64 0, .int .i32 0, .int .i64 0, .int .i64 0, .int .i64 0, .int .i64 0, .int .i64 0, .int .i64 0, .int .i64 0, .int .i64 0, .int .i64 0, .int .i64 0] 46)).drew := bw1 wr _
       have k5 : (wr.alloc (.cells #[.int .i64 0, .int .i64 0, .int .i32 0, .int .i64 0, .int .i64 0, .int .i64 0, .int .i64 0, .int .i64 0, .int .i64 0, .int .i64 0, .int .i64 0, .int .i64 0, .int .i64 0] 46)).drew.cell? ⟨b2, off2 + f, none⟩ = some (.pointer (some ⟨sb3, 0, none⟩)) := kc bA k3
       have k5' : (wr.alloc (.cells #[.int .i64 0, .int .i64 0, .int .i32 0, .int .i64 0, .int .i64 0, .int .i64 0, .int .i64 0, .int .i64 0, .int .i64 0, .int .i64 0, .int .i64 0, .int .i64 0, .int .i64 0] 46)).drew.cell? ⟨b2, off2 + k, none⟩ = some (.pointer (some ⟨sb, 0, none⟩)) := kc bA k0
       have s5 : (wr.alloc (.cells #[.int .i64 0, .int .i64 0, .int .i32 0, .int .i64 0, .int .i64 0, .int .i64 0, .int .i64 0, .int .i64 0, .int .i64 0, .int .i64 0, .int .i64 0, .int .i64 0, .int .i64 0] 46)).drew.cell? ⟨sb3, 1, none⟩ = some (.pointer (some ⟨rb3, 0, none⟩)) := (Hsb3.out.step bA).cell 1
       have s6 : (wr.alloc (.cells #[.int .i64 0, .int .i64 0, .int .i32 0, .int .i64 0, .int .i64 0, .int .i64 0, .int .i64 0, .int .i64 0, .int .i64 0, .int .i64 0, .int .i64 0, .int .i64 0, .int .i64 0] 46)).drew.cell? ⟨sb, 1, none⟩ = some (.pointer (some ⟨rb, 0, none⟩)) := (Hsb.out.step bA).cell 1
       have b2e : b2 < (wr.alloc (.cells #[.int .i64 0, .int .i64 0, .int .i32 0, .int .i64 0, .int .i64 0, .int .i64 0, .int .i64 0, .int .i64 0, .int .i64 0, .int .i64 0, .int .i64 0, .int .i64 0, .int .i64 0] 46)).drew.heap.size := Nat.lt_of_lt_of_le hb2l bA.size
       clear hsd hsd3 k3 bA
       repeat' (first | ((with_reducible refine region_at 7 ?_); refine wp_region_ordT (fun _ => True) (rgo [0,4,8,12,16,20,24,28,32,36,40,44,48,52,56,60,64] (.two 17 21 (rgo [72,76,80,85,91,92] .nil) (rgo [69,72,76,80,91,92] .nil))) (by kernel_rfl) (by kernel_rfl) (by kernel_rfl) rfl rfl ?_) | (with_reducible refine Keep.last ?_) | (with_reducible refine Keep.allocD ?_) | (go_at_call 50; go_must (first | ((with_reducible refine Calls.mono (HLK.out wr.drew (bw0 wr)) ?_); go_must (rintro _ w3 ⟨rfl, hb3⟩; have hk3 : KeepT (fun _ => True) wr.drew w3 := KeepT.of_below hb3; have hF := hid (box_c (S := fun _ => False) (t := 46) (cs := #[.int .i64 Y.op.kind, .int .i64 Y.op.at_, .int .i32 Y.op.char, .int .i64 Y.op.rep, .int .i64 Y.num, .int .i64 Y.clk.c0, .int .i64 Y.clk.c1, .int .i64 Y.clk.c2, .int .i64 Y.clk.c3, .int .i64 Y.clk.c4, .int .i64 Y.clk.c5, .int .i64 Y.clk.c6, .int .i64 Y.clk.c7]) (Out.of_below hb3)); have hb3 := hid hb3; dsimp only)) | ((with_reducible refine Calls.mono (HLK.out (wr.alloc (.cells #[.int .i64 0, .int .i64 0, .int .i32 0, .int .i64 0, .int .i64 0, .int .i64 0, .int .i64 0, .int .i64 0, .int .i64 0, .int .i64 0, .int .i64 0, .int .i64 0, .int .i64 0] 46)).drew (bw1 wr _)) ?_); go_must (rintro _ w3 ⟨rfl, hb3⟩; have hk3 : KeepT (fun _ => True) (wr.alloc (.cells #[.int .i64 0, .int .i64 0, .int .i32 0, .int .i64 0, .int .i64 0, .int .i64 0, .int .i64 0, .int .i64 0, .int .i64 0, .int .i64 0, .int .i64 0, .int .i64 0, .int .i64 0] 46)).drew w3 := KeepT.of_below hb3; have hz := (Blk.new wr 46 #[.int .i64 0, .int .i64 0, .int .i32 0, .int .i64 0, .int .i64 0, .int .i64 0, .int .i64 0, .int .i64 0, .int .i64 0, .int .i64 0, .int .i64 0, .int .i64 0, .int .i64 0]).drew.step hb3; obtain ⟨zl, z0, z1, z2, z3, z4, z5, z6, z7, z8, z9, z10, z11, z12, f0, f1, f2, f3, f4, f5, f6, f7, f8, f9, f10, f11, f12⟩ := bl13 hz; clear hz; have hF := hid (box_a (S := fun _ => False) (t := 46) (cs := #[.int .i64 Y.op.kind, .int .i64 Y.op.at_, .int .i32 Y.op.char, .int .i64 Y.op.rep, .int .i64 Y.num, .int .i64 Y.clk.c0, .int .i64 Y.clk.c1, .int .i64 Y.clk.c2, .int .i64 Y.clk.c3, .int .i64 Y.clk.c4, .int .i64 Y.clk.c5, .int .i64 Y.clk.c6, .int .i64 Y.clk.c7]) (Out.of_below hb3) (fun h => h) (act13_cells #[.int .i64 0, .int .i64 0, .int .i32 0, .int .i64 0, .int .i64 0, .int .i64 0, .int .i64 0, .int .i64 0, .int .i64 0, .int .i64 0, .int .i64 0, .int .i64 0, .int .i64 0] Y rfl)); have hb3 := hid hb3; dsimp only)))) | (with_reducible first | refine Keep.below (by assumption) ?_ | refine Keep.alloc ?_) | ((with_reducible refine WpO.here ?_); first | (refine WpO.done ?_; refine NoP.normal ?_) | ((first | refine WpO.load (by rfl) (by rfl) (by go_simp; rfl) ?_ | refine WpO.pure (by rfl) (fun w_ => by go_simp; (try go_bits); rfl) ?_); go_frame) | refine WpO.wild ?_ | refine WpO.two ?_ ?_) | ((with_reducible refine wildO.here ?_); (refine wildO.go (by rfl) (fun _ _ => ?_))) | go_step)
       all_goals (try rw [sets13])
       all_goals clear s1 sl s3 sl3 k4 k4' k5 k5' s5 s6 b2d b2e
       all_goals (try clear hk3)
       · have hBP := hF.out.b
         have hgS := Tg2.out _ hF.out.g
         have hBZ := hF.out.below hb3.out
         clear hF hb3
         refine HK2.out _ _ ?_
         try dsimp only
         generalize w3.alloc (.cells #[.int .i64 Y.op.kind, .int .i64 Y.op.at_, .int .i32 Y.op.char, .int .i64 Y.op.rep, .int .i64 Y.num, .int .i64 Y.clk.c0, .int .i64 Y.clk.c1, .int .i64 Y.clk.c2, .int .i64 Y.clk.c3, .int .i64 Y.clk.c4, .int .i64 Y.clk.c5, .int .i64 Y.clk.c6, .int .i64 Y.clk.c7] 46) = Z at *
         generalize w3.heap.size = g at *
         cases okb
         · clear hBP
           repeat' (first | ((with_reducible refine region_at 8 ?_); refine wp_region_ordT (fun _ => True) (rgo [0,4,8,12,16,20,24,29,32,36] .nil) (by kernel_rfl) (by kernel_rfl) (by kernel_rfl) rfl rfl ?_) | ((with_reducible refine WpO.here ?_); first | (refine WpO.done ?_; refine NoP.normal ?_) | ((first | refine WpO.pure (by rfl) (fun w_ => by go_simp; (try go_bits); rfl) ?_ | refine WpO.skip (by rfl) ?_); go_frame)) | go_step)
           go_roundw
           case rel =>
            refine ⟨j + 1, ss, by go_num, by omega, ?_, (HP.out.step (bdrew hBZ)).monoK (by omega), hbw.trans ((bdrew hBZ).mono HP.out.low), Hsm.out.trans HszW.out (Same.of_below (bdrew hBZ))⟩
            rw [Hsn.out, Hget.out, if_neg (by simp), set_same9 Hsk.out]
           case measure => simp [intOf]; omega
         · have hBD := hBP.drew
           obtain ⟨x0, x1, x2, x3, x4, x5, x6, x7, x8, x9, x10, x11, x12⟩ := cl13 (w := Z.drew) (g := g) hBD
           have xl := hBD.lt
           have k6 : Z.drew.cell? ⟨b2, off2 + k, none⟩ = some (.pointer (some ⟨sb, 0, none⟩)) := kc (bdrew hBZ) k0
           obtain ⟨cs6, u6, z6, q6⟩ := obj_of_cell k6
           have q6 : Z.drew.heap[b2]? = some (.cells cs6 u6 z6) := q6
           have qg : Z.drew.heap[g]? = some (.cells _ 46 (0, 0)) := hBD
           have bl6 : b2 < Z.drew.heap.size := Nat.lt_of_lt_of_le hb2l (bdrew hBZ).size
           have HT := hid (site_take (a := a) Z.drew base sb KK S2 S' s Y (HS.out.step (bdrew hBZ)) Hfine.out HPI.out (HsY.out.step (bdrew hBZ)) Hlow.out)
           simp only [Actn.agg] at HT
           unfold Actn.vals at HT
           have HBZ := hid (bdrew hBZ)
           clear hBP hBZ hBD
           repeat' (first | ((with_reducible refine region_at 8 ?_); refine wp_region_ordT (fun b => ¬ S2 b) (rgo [0,4,8,12,16,20,24,29,32,36] .nil) (by kernel_rfl) (by kernel_rfl) (by kernel_rfl) rfl rfl ?_) | (go_at_call 32; go_must ((with_reducible refine Calls.mono HT.out ?_); rintro _ w5 ⟨rfl, hS5, hO5⟩; have hk5 : KeepT (fun b => ¬ S2 b) Z.drew w5 := ⟨hO5.size, fun b hl hb => hO5.block b hl hb⟩; have HS5 := hid hS5; have HO5 := hid hO5; clear hS5 hO5; dsimp only)) | (with_reducible refine Keep.kept (by assumption) ?_) | ((with_reducible refine WpO.here ?_); first | (refine WpO.done ?_; refine NoP.normal ?_) | ((first | refine WpO.loadT (by rfl) (by rfl) (by go_simp; rfl) (by rintro _ _ ⟨⟩; exact ⟨_, _, _, _, _, _, by rfl, by assumption, by assumption⟩) ?_ | refine WpO.pure (by rfl) (fun w_ => by go_simp; (try go_bits); rfl) ?_); go_frame) | refine WpO.wild ?_) | ((with_reducible refine wildO.here ?_); (refine wildO.go (by rfl) (fun _ _ => ?_))) | go_step)
           have hnx := Hnext.out Z.drew w5 (s.takeOf Y) HBZ.out HS5.out HO5.out
           go_roundw
           case rel =>
            refine ⟨j + 1, _, by go_num, by omega, ?_, hnx.1.monoK (by omega), hbw.trans hnx.2.1, Hsm.out.trans HszW.out hnx.2.2⟩
            rw [Hsn.out, Hget.out, if_pos rfl]
           case measure => simp [intOf]; omega
       · clear z0 f0 z1 f1 z2 f2 z3 f3 z4 f4 z5 f5 z6 f6 z7 f7 z8 f8 z9 f9 z10 f10 z11 f11 z12 f12 zl
         have hBP := hF.out.b
         have hgS := Tg2.out _ hF.out.g
         have hBZ := hF.out.below hb3.out
         clear hF hb3
         refine HK2.out _ _ ?_
         try dsimp only
         generalize setsAt wr.heap.size (act13 Y) w3 = Z at *
         obtain ⟨g, hg⟩ : ∃ g, g = wr.heap.size := ⟨_, rfl⟩
         rw [← hg] at hBP hgS ⊢
         clear hg
         cases okb
         · clear hBP
           repeat' (first | ((with_reducible refine region_at 8 ?_); refine wp_region_ordT (fun _ => True) (rgo [0,4,8,12,16,20,24,29,32,36] .nil) (by kernel_rfl) (by kernel_rfl) (by kernel_rfl) rfl rfl ?_) | ((with_reducible refine WpO.here ?_); first | (refine WpO.done ?_; refine NoP.normal ?_) | ((first | refine WpO.pure (by rfl) (fun w_ => by go_simp; (try go_bits); rfl) ?_ | refine WpO.skip (by rfl) ?_); go_frame)) | go_step)
           go_roundw
           case rel =>
            refine ⟨j + 1, ss, by go_num, by omega, ?_, (HP.out.step (bdrew hBZ)).monoK (by omega), hbw.trans ((bdrew hBZ).mono HP.out.low), Hsm.out.trans HszW.out (Same.of_below (bdrew hBZ))⟩
            rw [Hsn.out, Hget.out, if_neg (by simp), set_same9 Hsk.out]
           case measure => simp [intOf]; omega
         · have hBD := hBP.drew
           obtain ⟨x0, x1, x2, x3, x4, x5, x6, x7, x8, x9, x10, x11, x12⟩ := cl13 (w := Z.drew) (g := g) hBD
           have xl := hBD.lt
           have k6 : Z.drew.cell? ⟨b2, off2 + k, none⟩ = some (.pointer (some ⟨sb, 0, none⟩)) := kc (bdrew hBZ) k0
           obtain ⟨cs6, u6, z6, q6⟩ := obj_of_cell k6
           have q6 : Z.drew.heap[b2]? = some (.cells cs6 u6 z6) := q6
           have qg : Z.drew.heap[g]? = some (.cells _ 46 (0, 0)) := hBD
           have bl6 : b2 < Z.drew.heap.size := Nat.lt_of_lt_of_le hb2l (bdrew hBZ).size
           have HT := hid (site_take (a := a) Z.drew base sb KK S2 S' s Y (HS.out.step (bdrew hBZ)) Hfine.out HPI.out (HsY.out.step (bdrew hBZ)) Hlow.out)
           simp only [Actn.agg] at HT
           unfold Actn.vals at HT
           have HBZ := hid (bdrew hBZ)
           clear hBP hBZ hBD
           repeat' (first | ((with_reducible refine region_at 8 ?_); refine wp_region_ordT (fun b => ¬ S2 b) (rgo [0,4,8,12,16,20,24,29,32,36] .nil) (by kernel_rfl) (by kernel_rfl) (by kernel_rfl) rfl rfl ?_) | (go_at_call 32; go_must ((with_reducible refine Calls.mono HT.out ?_); rintro _ w5 ⟨rfl, hS5, hO5⟩; have hk5 : KeepT (fun b => ¬ S2 b) Z.drew w5 := ⟨hO5.size, fun b hl hb => hO5.block b hl hb⟩; have HS5 := hid hS5; have HO5 := hid hO5; clear hS5 hO5; dsimp only)) | (with_reducible refine Keep.kept (by assumption) ?_) | ((with_reducible refine WpO.here ?_); first | (refine WpO.done ?_; refine NoP.normal ?_) | ((first | refine WpO.loadT (by rfl) (by rfl) (by go_simp; rfl) (by rintro _ _ ⟨⟩; exact ⟨_, _, _, _, _, _, by rfl, by assumption, by assumption⟩) ?_ | refine WpO.pure (by rfl) (fun w_ => by go_simp; (try go_bits); rfl) ?_); go_frame) | refine WpO.wild ?_) | ((with_reducible refine wildO.here ?_); (refine wildO.go (by rfl) (fun _ _ => ?_))) | go_step)
           have hnx := Hnext.out Z.drew w5 (s.takeOf Y) HBZ.out HS5.out HO5.out
           go_roundw
           case rel =>
            refine ⟨j + 1, _, by go_num, by omega, ?_, hnx.1.monoK (by omega), hbw.trans hnx.2.1, Hsm.out.trans HszW.out hnx.2.2⟩
            rw [Hsn.out, Hget.out, if_pos rfl]
           case measure => simp [intOf]; omega
     · obtain rfl : j = q := by omega
       repeat' (first | go_step)
       go_roundw
       case rel =>
        have hgd := allGd_steps (k := k) (n := n) (List.range j) sk (m + kq) Hgk.out
        rw [List.length_range] at hgd
        refine ⟨k + 1, ss, by go_num, by omega, ?_, ?_, ?_, hbw, Hsm.out⟩
        · rw [List.range_succ, List.foldl_append, ← Hsk0.out, List.foldl_cons, List.foldl_nil]
          unfold allRound
          rw [← Hq.out]
          exact Hss.out
        · rw [Nat.succ_mul, ← Hkq.out, ← Nat.add_assoc, Hss.out]
          exact hgd
        · rw [Nat.succ_mul, ← Hkq.out, ← Nat.add_assoc]
          exact HP.out
       case measure => simp [intOf]; omega
  · obtain rfl : k = n := by omega
    repeat' (first | go_step)
    go_ret
    refine ⟨rfl, ?_, Hbk.out, Hsmk.out⟩
    have : allOf k ss0 = sk := Hsk0.out.symm
    rw [this]
    exact HPk.out
end Go.Proofs.YteggpddlkkjmjaaGreatDoor
namespace Go.Proofs.YteggpddlkkjmjaaGreatDoor
open Go Go.RowKit
variable {a : Nat → Addr}
theorem playedOf_two {n : Nat} (hn : 0 < n ∧ n ≤ 8) (l : List Int) (vs : List Mv8) (hv : ∀ v ∈ vs, v.In) (h : Nat) : ∃ G, Sess G (base8 l (min l.length 20)) (playedOf n l vs) ∧ G.length ≤ 40 ∧ ∀ s ∈ playedOf n l (vs.take h), s.ep = 5 ∧ s.base = base8 l (min l.length 20) ∧ s.Runs G := by
 have hbl := base8_length l (min l.length 20)
 have e1 : (vs.take h).take 40 = vs.take (min 40 h) := List.take_take ..
 have hl1 : (vs.take (min 40 h)).length ≤ 40 := by rw [List.length_take]; omega
 have e2 : vs.take (min 40 h) ++ (vs.take 40).drop (min 40 h) = vs.take 40 := by
  have : (vs.take 40).take (min 40 h) = vs.take (min 40 h) := by rw [List.take_take, Nat.min_eq_left (by omega)]
  rw [← this, List.take_append_drop]
 have hl2 : (vs.take (min 40 h)).length + ((vs.take 40).drop (min 40 h)).length ≤ 40 := by
  rw [← List.length_append, e2, List.length_take]
  omega
 have hp : playedOf n l vs = ((vs.take 40).drop (min 40 h)).foldl (playStep n) (playedOf n l (vs.take h)) := by
  unfold playedOf
  rw [e1, ← List.foldl_append, e2]
 have hh : playedOf n l (vs.take h) = (vs.take (min 40 h)).foldl (playStep n) (newSites n l) := by
  unfold playedOf
  rw [e1]
 obtain ⟨G0, s0, -, l0⟩ := Sess.fold hn (by omega) (vs.take (min 40 h)) [] (newSites n l) 0 (Sess.new n l) (newSites_gd n l) (by omega) (Nat.le_refl _) fun v h => hv v (List.mem_of_mem_take h)
 have g0 := fold_gd hn (vs.take (min 40 h)) (newSites n l) 0 (newSites_gd n l) (by omega) fun v h => hv v (List.mem_of_mem_take h)
 have l0' : G0.length ≤ (vs.take (min 40 h)).length := by simpa using l0
 obtain ⟨G, s1, sub, l1⟩ := Sess.fold hn (by omega) ((vs.take 40).drop (min 40 h)) G0 _ _ s0 g0 (by omega) (by omega) fun v h => hv v (List.mem_of_mem_take (List.mem_of_mem_drop h))
 rw [← hh] at s0 s1
 rw [← hp] at s1
 refine ⟨G, s1, by omega, fun s hs => ?_⟩
 obtain ⟨k, hk⟩ := List.getElem?_of_mem hs
 obtain ⟨a1, a2, a3, -⟩ := s0.site k s hk
 exact ⟨a1, a2, Run.mono a3 sub⟩
theorem leC_of_here9 {G : List Actn} {n0 : Nat} (W : Web G n0) {c d : Clk} (hc : Cl G c) (hd : Cl G d) (h : ∀ y ∈ G, y.here c → y.here d) : leC c d := fun k hk => by
 refine Classical.byContradiction fun hlt => ?_
 have h0 := (hd k hk).1
 obtain ⟨y, hy, y1, y2, -⟩ := (hc k hk).2 (c.get k) (by omega) (Int.le_refl _)
 have hyr : y.r = k := by unfold Actn.r; omega
 have := h y hy (by unfold Actn.here; rw [hyr, y2]; exact Int.le_refl _)
 unfold Actn.here at this
 rw [hyr, y2] at this
 omega
def OfSess (G : List Actn) (b x : List El) : Prop := ∃ s : Lg, s.ep = 5 ∧ s.base = b ∧ s.Runs G ∧ s.l.length ≤ 140 ∧ s.l = x
theorem OfSess.sub {G : List Actn} {b x : List El} (h : OfSess G b x) (W : Web G b.length) (hb : Bs 5 b) {t : Lg} (ht : t.ep = 5 ∧ t.base = b ∧ t.Runs G) (hall : ∀ y ∈ G, y.here t.clk) : (x.map El.nm).Sublist (t.l.map El.nm) := by
 obtain ⟨s, h1, h2, h3, -, rfl⟩ := h
 obtain ⟨t1, t2, t3⟩ := ht
 have R1 : Run G 5 b s.acts s.forms s.clk s.l := by
  unfold Lg.Runs at h3; rwa [h1, h2] at h3
 have R2 : Run G 5 b t.acts t.forms t.clk t.l := by
  unfold Lg.Runs at t3; rwa [t1, t2] at t3
 have hle := leC_of_here9 W (R1.rw.cl W) (R2.rw.cl W) fun y hy _ => hall y hy
 rw [← R1.rw.sub W hb R2.rw hle]
 exact List.filter_sublist
theorem horder_true (w : World) (k : Int) (A B : Option Addr) (n c m d : Nat) (l : List Int) (vs : List Mv8) (S S1 S' : Nat → Prop) (hl : GRow w S A n c (l.map Rn8.mk)) (hli : ∀ e ∈ l, I32 e) (hv : GRow w S1 B m d vs) (hvi : ∀ v ∈ vs, v.In) (hs : Sents w S' a) (hlow : ∀ b, S' b → b < w.heap.size) :
 Calls Tryz.prog 4 #[.agg #[.int .i64 k, .slice A n c, .slice B m d]] w fun e w' => e = .returned (.bool true) ∧ Below w.heap.size w w' := by
 obtain ⟨hX1, hX2, hb0⟩ := twoBoxes w 25 25 #[.int .i64 k, .slice A n c, .slice B m d] #[.int .i64 k, .slice A n c, .slice B m d]
 obtain ⟨h, hh⟩ : ∃ h, h = m / 2 := ⟨_, rfl⟩
 have hhm : h ≤ m := by omega
 have hquo : (m : Int).tdiv 2 = (h : Int) := by rw [hh]; rfl
 have hmm := hv.len_le
 have hmd := hv.2.1
 have hdm := hv.2.2.1
 unfold maxLen at hmm hdm
 have hhd : h ≤ d := by omega
 have hn8 := sitesN_pos k
 obtain ⟨q, hq⟩ : ∃ q : Nat, k % 3 = (q : Int) := ⟨(k % 3).toNat, by omega⟩
 have hvh : ∀ v ∈ vs.take h, v.In := fun v hm => hvi v (List.mem_of_mem_take hm)
 have HPA := hid (fun W (hb : Below w.heap.size w W) => played_any (a := a) W k A B n c h d l (vs.take h) S S1 S' (hl.step hb) hli ((hv.step hb).take_ hhm) hvh (hs.step hb) fun b h => Nat.lt_of_lt_of_le (hlow b h) hb.size)
 have HPB := hid (fun W (hb : Below w.heap.size w W) => played_any (a := a) W k A B n c m d l vs S S1 S' (hl.step hb) hli (hv.step hb) hvi (hs.step hb) fun b h => Nat.lt_of_lt_of_le (hlow b h) hb.size)
 have hgda := playedOf_gd (n := sitesN k) (by omega) l (vs.take h) hvh
 have hgdb := playedOf_gd (n := sitesN k) (by omega) l vs hvi
 obtain ⟨G, hG, hGl, hGa⟩ := playedOf_two (n := sitesN k) (by omega) l vs hvi h
 have hlena := playedOf_length (sitesN k) l (vs.take h)
 have hlenb := playedOf_length (sitesN k) l vs
 obtain ⟨nn, hnn⟩ : ∃ nn, nn = sitesN k := ⟨_, rfl⟩
 have hnq : (2 : Int) + (q : Int) = (nn : Int) := by rw [hnn]; unfold sitesN; rw [hq]; omega
 rw [← hnn] at HPA HPB hgda hgdb hn8 hlena hlenb hG hGa
 have hnq2 : nn * (nn * 40) ≤ 640 := by
  have : nn * (nn * 40) ≤ 4 * 160 := Nat.mul_le_mul hn8.2 (by omega)
  omega
 have HW1 := hid (fun W => within_any k 3 (by decide) (by decide) W)
 rw [hq] at HW1
 have Hgda := hid hgda
 have Hgdb := hid hgdb
 have HG := hid hG
 have HGa := hid hGa
 have Hs := hid hs
 have Hlow := hid hlow
 clear hl hli hv hvi hvh hs hlow hgda hgdb hnn hG hGa hq hh hmd
 go_enter Tryz.func4, Tryz.ntmps4
 have e1 := balloc (o := .cells #[.int .i64 k, .slice A n c, .slice B m d] 25) (Below.refl w.heap.size w)
 have h1 := Blk.new w 25 #[.int .i64 k, .slice A n c, .slice B m d]
 have p0 := h1.cell 0
 have p1 := h1.cell 1
 have p2 := h1.cell 2
 have pl := h1.lt
 simp at p0 p1 p2
 repeat' (first | (go_at_call 19; go_must ((with_reducible refine Calls.mono (HW1.out _) ?_); rintro _ _ ⟨rfl, rfl⟩; dsimp only)) | (with_reducible refine stop_region 3 ?_) | go_step)
 refine Stop.go ?_
 clear p0 p1 p2 pl h1 e1
 generalize (w.alloc (.cells #[.int .i64 k, .slice A n c, .slice B m d] 25)).alloc (.cells #[.int .i64 k, .slice A n c, .slice B m d] 25) = X at *
 have p0 : X.cell? ⟨w.heap.size, 0, none⟩ = some (.int .i64 k) := hX1.cell 0
 have p1 : X.cell? ⟨w.heap.size, 1, none⟩ = some (.slice A n c) := hX1.cell 1
 have p2 : X.cell? ⟨w.heap.size, 2, none⟩ = some (.slice B m d) := hX1.cell 2
 have pl := hX1.lt
 have r2 := hX2.cell 2
 have r2f := hX2.frozen 2
 have rl := hX2.lt
 simp at r2
 repeat' (first | (with_reducible refine stop_region 4 ?_) | go_step)
 refine Stop.go ?_
 have hZ2 := hX2.set_ 2 (.slice B h d)
 have hZ1 : Blk (X.setCell ⟨w.heap.size + 1, 2, none⟩ (.slice B h d)) w.heap.size 25 #[.int .i64 k, .slice A n c, .slice B m d] := (Same.setCell X (p := ⟨w.heap.size + 1, 2, none⟩) (S := fun b => b ≠ w.heap.size + 1) (fun h => h rfl) _ w.heap.size (by omega) hX1.lt).trans hX1
 have B0 : Below w.heap.size w (X.setCell ⟨w.heap.size + 1, 2, none⟩ (.slice B h d)) := bset hb0 (by dsimp only; omega)
 clear p0 p1 p2 pl r2 r2f rl hX1 hX2 hb0
 generalize X.setCell ⟨w.heap.size + 1, 2, none⟩ (.slice B h d) = Z at *
 have D0 : Below Z.heap.size Z Z.drew := bdrew (Below.refl _ _)
 have hz1 := hZ1.step D0
 have hz2 := hZ2.step D0
 have p0 : Z.drew.cell? ⟨w.heap.size, 0, none⟩ = some (.int .i64 k) := hz1.cell 0
 have p1 : Z.drew.cell? ⟨w.heap.size, 1, none⟩ = some (.slice A n c) := hz1.cell 1
 have p2 : Z.drew.cell? ⟨w.heap.size, 2, none⟩ = some (.slice B m d) := hz1.cell 2
 have pl := hz1.lt
 have r0 : Z.drew.cell? ⟨w.heap.size + 1, 0, none⟩ = some (.int .i64 k) := hz2.cell 0
 have r1 : Z.drew.cell? ⟨w.heap.size + 1, 1, none⟩ = some (.slice A n c) := hz2.cell 1
 have r2 : Z.drew.cell? ⟨w.heap.size + 1, 2, none⟩ = some (.slice B h d) := hz2.cell 2
 have rl := hz2.lt
 have BZ := bvia B0 D0
 generalize playedOf nn l (vs.take h) = ssa at *
 generalize playedOf nn l vs = ssb0 at *
 have HZ1 := hid hZ1
 have HZ2 := hid hZ2
 clear hz1 hz2 hZ1 hZ2
 repeat' (first | ((with_reducible refine region_at 4 ?_); refine wp_region_ordT (fun _ => True) (rgo [0,8,5,13,16,20] .nil) (by kernel_rfl) (by kernel_rfl) (by kernel_rfl) rfl rfl ?_) | (go_at_call 13; go_must (first | (guard_hyp hb1; (with_reducible refine Calls.mono (HPB.out w1 (bvia BZ hb1)) ?_); rintro _ w2 ⟨A2, c2, base2, rfl, hP2, hbase2, hb2⟩; have hk2 := KeepT.of_below (T := fun _ => True) hb2; have HP2 := hid hP2; clear hP2; dsimp only) | ((with_reducible refine Calls.mono (HPA.out _ BZ) ?_); rintro _ w1 ⟨A1, c1, base1, rfl, hP1, hbase1, hb1⟩; have hk1 := KeepT.of_below (T := fun _ => True) hb1; have HP1 := hid hP1; have q1 := HZ1.out.step (bvia D0 hb1); have p0 : w1.cell? ⟨w.heap.size, 0, none⟩ = some (.int .i64 k) := q1.cell 0; have p1 : w1.cell? ⟨w.heap.size, 1, none⟩ = some (.slice A n c) := q1.cell 1; have p2 : w1.cell? ⟨w.heap.size, 2, none⟩ = some (.slice B m d) := q1.cell 2; have pl := q1.lt; clear hP1 q1; dsimp only))) | (with_reducible refine stop_region 5 ?_) | (with_reducible refine Keep.below (by assumption) ?_) | ((with_reducible refine WpO.here ?_); first | (refine WpO.done ?_; refine NoP.normal ?_) | ((first | refine WpO.load (by rfl) (by rfl) (by go_simp; rfl) ?_ | refine WpO.pure (by rfl) (fun w_ => by go_simp; (try go_bits); rfl) ?_); go_frame) | refine WpO.wild ?_) | ((with_reducible refine wildO.here ?_); (refine wildO.go (by rfl) (fun _ _ => ?_))) | go_step)
 refine Stop.go ?_
 clear p0 p1 p2 pl r0 r1 r2 rl HPA HPB
 try clear hk1 hk2
 have B1 := bvia BZ hb1
 have B2 := bvia B1 hb2
 have hbX := hid (show w.heap.size ≤ base2 by have := B1.size; omega)
 obtain ⟨b1, off1, sx, Sx, rfl, -, hb1l, -⟩ := HP1.out.at_ (k := 0) (List.getElem?_eq_getElem (show 0 < ssa.length by omega))
 obtain ⟨b2, off2, sy, Sy, rfl, -, hb2l, -⟩ := HP2.out.at_ (k := 0) (List.getElem?_eq_getElem (show 0 < ssb0.length by omega))
 have hb1l := Nat.lt_of_lt_of_le hb1l hb2.size
 have hnl1 := Lib.run_eql_slice_nil w2 26 _ (some ⟨b1, off1, none⟩) nn c1 0 0 Tryz.underlying26
 have hnl2 := Lib.run_eql_slice_nil w2 26 _ (some ⟨b2, off2, none⟩) nn c2 0 0 Tryz.underlying26
 have HP1 := hid (HP1.out.step hb2)
 repeat' (first | go_guarded | go_step)
 go_loopw [7, 8] (fun o i wr => ∃ (j c7 : Nat) (A7 : Option Addr) (hd : List Sl8) (ls : List (List El)), o = .slice A7 (j + j) c7 ∧ i = .int .i64 j ∧ j ≤ nn ∧ GOwn 51 wr w2.heap.size A7 (j + j) c7 hd ∧ PairsE wr (fun b => w2.heap.size ≤ b ∧ ¬ rowB A7 b) hd ls ∧ (∀ x ∈ ls, OfSess G (base8 l (min l.length 20)) x) ∧ Below w2.heap.size w2 wr) (fun _ i _ => nn - (intOf i).toNat)
 case atStart => exact ⟨0, 0, none, [], [], rfl, rfl, Nat.zero_le _, GOwn.nil _ _ _, PairsE.nil _ _, fun x hx => absurd hx List.not_mem_nil, Below.refl _ _⟩
 case round =>
  clear hnl1 hnl2
  obtain ⟨j, c7, A7, hd, ls, rfl, rfl, hj, hown, hprs, hofs, hbw⟩ := hrel
  have Bwr := bvia B2 hbw
  have Hown := hid hown
  have Hprs := hid hprs
  have Hofs := hid hofs
  clear hprs hofs
  by_cases hlt : j < nn
  · have hjn : (j : Int) < (nn : Int) := by omega
    obtain ⟨s, hsj⟩ : ∃ s, ssa[j]? = some s := ⟨_, List.getElem?_eq_getElem (by omega)⟩
    obtain ⟨u, huj⟩ : ∃ u, ssb0[j]? = some u := ⟨_, List.getElem?_eq_getElem (by omega)⟩
    have hgs := Hgda.out s (List.mem_of_getElem? hsj)
    have hgu := Hgdb.out u (List.mem_of_getElem? huj)
    have hsl := hgs.snd.l
    have hul := hgu.snd.l
    have hofs : OfSess G (base8 l (min l.length 20)) s.l := by
     obtain ⟨k1, k2, k3⟩ := HGa.out s (List.mem_of_getElem? hsj)
     exact ⟨s, k1, k2, k3, hsl, rfl⟩
    have hofu : OfSess G (base8 l (min l.length 20)) u.l := by
     obtain ⟨k1, k2, k3, -⟩ := HG.out.site j u huj
     exact ⟨u, k1, k2, k3, hul, rfl⟩
    have Hofs2 := hid hofs
    have Hofu := hid hofu
    obtain ⟨b9, off9, sa, Ta, hA2, ka, -, hSa, -⟩ := HP1.out.at_ hsj
    cases hA2
    obtain ⟨b9, off9, sb, Tb, hA2, kb, -, hSb, -⟩ := HP2.out.at_ huj
    cases hA2
    obtain ⟨ga, ra, Sa1, Sa2, hsa, hga, -, -, -, h6a, h7a⟩ := hSa
    obtain ⟨gb, rb, Sb1, Sb2, hsb, hgb, -, -, -, h6b, h7b⟩ := hSb
    have hsal := (h7a _ h6a).2
    have hsbl := (h7b _ h6b).2
    have KA := hid (kc hbw ka)
    have KB := hid (kc hbw kb)
    have hb1l := Nat.lt_of_lt_of_le hb1l hbw.size
    have hb2l := Nat.lt_of_lt_of_le hb2l hbw.size
    have Hsa := hid (hsa.step hbw)
    have Hsb := hid (hsb.step hbw)
    have HMa := hid (fun W (hb : Below wr.heap.size wr W) => hmodel_any W _ ga _ s (hga.step (bvia hbw hb)))
    have HMb := hid (fun W (hb : Below wr.heap.size wr W) => hmodel_any W _ gb _ u (hgb.step (bvia hbw hb)))
    have ta1 : ∀ g, A7 = some g → g.block ≠ b1 := fun g hg => by have := (hown.block g hg).1; omega
    have ta2 : ∀ g, A7 = some g → g.block ≠ b2 := fun g hg => by have := (hown.block g hg).1; omega
    have ta3 : ∀ g, A7 = some g → g.block ≠ sa := fun g hg => by have := (hown.block g hg).1; omega
    have ta4 : ∀ g, A7 = some g → g.block ≠ sb := fun g hg => by have := (hown.block g hg).1; omega
    have hob := hid (fun g hg => (hown.block g hg).2)
    have D0 : Below wr.heap.size wr wr.drew := bdrew (Below.refl _ _)
    have hdl : hd.length = j + j := hown.1
    clear hsj huj hgs hgu hofs hofu hsa hga hsb hgb h6a h7a h6b h7b ka kb hown
    have ka : wr.drew.cell? ⟨b1, off1 + j, none⟩ = some (.pointer (some ⟨sa, 0, none⟩)) := kc D0 KA.out; have kal := Nat.lt_of_lt_of_le hb1l (D0).size; have kb : wr.drew.cell? ⟨b2, off2 + j, none⟩ = some (.pointer (some ⟨sb, 0, none⟩)) := kc D0 KB.out; have kbl := Nat.lt_of_lt_of_le hb2l (D0).size; have sq := Hsa.out.step D0; have sa0 : wr.drew.cell? ⟨sa, 0, none⟩ = some (.pointer (some ⟨ga, 0, none⟩)) := sq.cell 0; have sal := sq.lt; have qsa : wr.drew.heap[sa]? = some (.cells #[.pointer (some ⟨ga, 0, none⟩), .pointer (some ⟨ra, 0, none⟩)] 33 (0, 0)) := sq; clear sq; have sq := Hsb.out.step D0; have sb0 : wr.drew.cell? ⟨sb, 0, none⟩ = some (.pointer (some ⟨gb, 0, none⟩)) := sq.cell 0; have sbl := sq.lt; have qsb : wr.drew.heap[sb]? = some (.cells #[.pointer (some ⟨gb, 0, none⟩), .pointer (some ⟨rb, 0, none⟩)] 33 (0, 0)) := sq; clear sq; obtain ⟨csa, ua, za, qa⟩ := obj_of_cell ka; have qa : wr.drew.heap[b1]? = some (.cells csa ua za) := qa; obtain ⟨csb, ub, zb, qb⟩ := obj_of_cell kb; have qb : wr.drew.heap[b2]? = some (.cells csb ub zb) := qb
    repeat' (first | (with_reducible refine stop_region 11 ?_) | go_step)
    refine Stop.go ?_
    repeat' (first | ((with_reducible refine region_at 11 ?_); refine wp_region_ordT (fun b => ∀ g, A7 = some g → g.block ≠ b) (rgo [0,4,8,12,16,20,24,28,40,44,48,52,56,60,64,33,37,69,73,77,81,84] .nil) (by kernel_rfl) (by kernel_rfl) (by kernel_rfl) rfl rfl ?_) | (with_reducible refine Keep.same ?_) | (go_at_call 20; go_must (first | (guard_hyp hb6; (with_reducible refine Calls.mono (HMb.out _ E6) ?_); rintro _ _ ⟨⟨mb, rfl, hm⟩, rfl⟩; have HE2 := hid (melements_any w6 _ mb u.l _ hm (by omega)); clear hm; dsimp only) | ((with_reducible refine Calls.mono (HMa.out _ D0) ?_); rintro _ _ ⟨⟨mb, rfl, hm⟩, rfl⟩; have HE1 := hid (melements_any wr.drew _ mb s.l _ hm (by omega)); clear hm; dsimp only))) | (go_at_call 21; go_must (first | (guard_hyp HE2; (with_reducible refine Calls.mono HE2.out ?_); rintro _ w7 ⟨A6, c6, rfl, ho7, hb7⟩; have hk7 : KeepT (fun b => ∀ g, A7 = some g → g.block ≠ b) w6 w7 := KeepT.of_below hb7; have E7 := bvia E6 hb7; have eX := balloc (o := .cells #[.slice A5 s.l.length c5, .slice A6 u.l.length c6] 51) (Below.refl w7.heap.size w7); have hown7 := (Hown.out.step E7).step eX; have hrow7 := grow_sl2 w7 ⟨A5, s.l.length, c5⟩ ⟨A6, u.l.length, c6⟩; have Ho7 := hid ho7; have hzX := eX.size; have hz7 := E7.size; have hzw := hbw.size; clear ho7; have ka : w7.cell? ⟨b1, off1 + j, none⟩ = some (.pointer (some ⟨sa, 0, none⟩)) := kc E7 KA.out; have kal := Nat.lt_of_lt_of_le hb1l (E7).size; have kb : w7.cell? ⟨b2, off2 + j, none⟩ = some (.pointer (some ⟨sb, 0, none⟩)) := kc E7 KB.out; have kbl := Nat.lt_of_lt_of_le hb2l (E7).size; have sq := Hsa.out.step E7; have sa0 : w7.cell? ⟨sa, 0, none⟩ = some (.pointer (some ⟨ga, 0, none⟩)) := sq.cell 0; have sal := sq.lt; have qsa : w7.heap[sa]? = some (.cells #[.pointer (some ⟨ga, 0, none⟩), .pointer (some ⟨ra, 0, none⟩)] 33 (0, 0)) := sq; clear sq; have sq := Hsb.out.step E7; have sb0 : w7.cell? ⟨sb, 0, none⟩ = some (.pointer (some ⟨gb, 0, none⟩)) := sq.cell 0; have sbl := sq.lt; have qsb : w7.heap[sb]? = some (.cells #[.pointer (some ⟨gb, 0, none⟩), .pointer (some ⟨rb, 0, none⟩)] 33 (0, 0)) := sq; clear sq; obtain ⟨csa, ua, za, qa⟩ := obj_of_cell ka; have qa : w7.heap[b1]? = some (.cells csa ua za) := qa; obtain ⟨csb, ub, zb, qb⟩ := obj_of_cell kb; have qb : w7.heap[b2]? = some (.cells csb ub zb) := qb; dsimp only) | ((with_reducible refine Calls.mono HE1.out ?_); rintro _ w6 ⟨A5, c5, rfl, ho6, hb6⟩; have hk6 : KeepT (fun b => ∀ g, A7 = some g → g.block ≠ b) wr.drew w6 := KeepT.of_below hb6; have E6 := bvia D0 hb6; have Ho6 := hid ho6; clear ho6; have ka : w6.cell? ⟨b1, off1 + j, none⟩ = some (.pointer (some ⟨sa, 0, none⟩)) := kc E6 KA.out; have kal := Nat.lt_of_lt_of_le hb1l (E6).size; have kb : w6.cell? ⟨b2, off2 + j, none⟩ = some (.pointer (some ⟨sb, 0, none⟩)) := kc E6 KB.out; have kbl := Nat.lt_of_lt_of_le hb2l (E6).size; have sq := Hsa.out.step E6; have sa0 : w6.cell? ⟨sa, 0, none⟩ = some (.pointer (some ⟨ga, 0, none⟩)) := sq.cell 0; have sal := sq.lt; have qsa : w6.heap[sa]? = some (.cells #[.pointer (some ⟨ga, 0, none⟩), .pointer (some ⟨ra, 0, none⟩)] 33 (0, 0)) := sq; clear sq; have sq := Hsb.out.step E6; have sb0 : w6.cell? ⟨sb, 0, none⟩ = some (.pointer (some ⟨gb, 0, none⟩)) := sq.cell 0; have sbl := sq.lt; have qsb : w6.heap[sb]? = some (.cells #[.pointer (some ⟨gb, 0, none⟩), .pointer (some ⟨rb, 0, none⟩)] 33 (0, 0)) := sq; clear sq; obtain ⟨csa, ua, za, qa⟩ := obj_of_cell ka; have qa : w6.heap[b1]? = some (.cells csa ua za) := qa; obtain ⟨csb, ub, zb, qb⟩ := obj_of_cell kb; have qb : w6.heap[b2]? = some (.cells csb ub zb) := qb; dsimp only))) | ((with_reducible refine app_sl8_here ?_); go_must (refine wp_append_sl8 w2.heap.size _ _ _ _ 2 2 hd [⟨A5, s.l.length, c5⟩, ⟨A6, u.l.length, c6⟩] (fun _ => True) (by rfl) (by rfl) hown7 hrow7 (by omega) (by omega) ?_; intro A8 c8 w8 hown8 hb8 hsm8 hat8 hz8; have hk8 : KeepT (fun b => ∀ g, A7 = some g → g.block ≠ b) (w7.alloc (.cells #[.slice A5 s.l.length c5, .slice A6 u.l.length c6] 51)) w8 := ⟨hz8, fun b hb ht => hsm8 b ht hb⟩; try dsimp only)) | (with_reducible first | refine Keep.below (by assumption) ?_ | refine Keep.kept (by assumption) ?_) | ((with_reducible refine WpO.here ?_); first | (refine WpO.done ?_; refine NoP.normal ?_) | ((first | refine WpO.loadT (by rfl) (by rfl) (by go_simp; rfl) (by rintro _ _ ⟨⟩; exact ⟨_, _, _, _, _, _, by rfl, by assumption, by assumption⟩) ?_ | refine WpO.pure (by rfl) (fun w_ => by go_simp; (try go_bits); rfl) ?_); go_frame) | refine WpO.wild ?_) | ((with_reducible refine wildO.here ?_); (refine wildO.go (by rfl) (fun _ _ => ?_))) | go_step)
    go_roundw
    case rel =>
     have r1 : Row (w7.alloc (.cells #[.slice A5 s.l.length c5, .slice A6 u.l.length c6] 51)) (fun b => w2.heap.size ≤ b ∧ ¬ rowB A7 b) A5 s.l.length c5 s.l := ((Ho6.out.row (S := fun b => w2.heap.size ≤ b ∧ ¬ rowB A7 b) fun b hb _ => ⟨Nat.le_trans hzw hb, fun ⟨y, hy, e⟩ => by
      have h9 : wr.heap.size ≤ b := hb
      have := hob.out y hy
      omega⟩).step hb7).step eX
     have r2 : Row (w7.alloc (.cells #[.slice A5 s.l.length c5, .slice A6 u.l.length c6] 51)) (fun b => w2.heap.size ≤ b ∧ ¬ rowB A7 b) A6 u.l.length c6 u.l := (Ho7.out.row (S := fun b => w2.heap.size ≤ b ∧ ¬ rowB A7 b) fun b hb _ => by
      have h9 : w6.heap.size ≤ b := hb
      have h8 := E6.size
      refine ⟨by omega, fun ⟨y, hy, e⟩ => ?_⟩
      have := hob.out y hy
      omega).step eX
     refine ⟨j + 1, c8, A8, hd ++ [⟨A5, s.l.length, c5⟩, ⟨A6, u.l.length, c6⟩], ls ++ [s.l, u.l], ?_, by go_num, by omega, ?_, ?_, ?_, ?_⟩
     · rw [show j + 1 + (j + 1) = j + j + 2 by omega]
     · rw [show j + 1 + (j + 1) = j + j + 2 by omega]
       exact hown8
     · exact pairs_app ((Hprs.out.step E7).step eX) rfl r1 rfl r2 hsm8 hat8 hz8
     · intro x hx
       rcases List.mem_append.1 hx with hx | hx
       · exact Hofs.out x hx
       · simp only [List.mem_cons, List.not_mem_nil, or_false] at hx
         rcases hx with rfl | rfl
         · exact Hofs2.out
         · exact Hofu.out
     · exact (bvia (bvia hbw E7) eX).trans hb8
    case measure => simp [intOf]; omega
  · obtain rfl : j = nn := by omega
    generalize hn7 : j + j = n7 at *
    have hrb : ∀ b, rowB (some ⟨b2, off2, none⟩) b → b < w2.heap.size := by rintro b ⟨y, hy, rfl⟩; cases hy; exact hb2l
    have hP9 := HP2.out.nine (P := fun b => w2.heap.size ≤ b ∧ b < wr.heap.size) hbw hrb (fun b h => h)
    have HAL := hid (sites_all9 (a := a) wr base2 (fun b => w2.heap.size ≤ b ∧ b < wr.heap.size) _ j c2 60 40 ssb0 S' hP9 Hgdb.out ⟨by omega, by omega⟩ (by omega) (by omega) (Hs.out.step Bwr) (fun b hb => Nat.lt_of_lt_of_le (Hlow.out b hb) hbX.out))
    have hdl : hd.length = n7 := Hown.out.1
    have hll : ls.length = n7 := by rw [← Hprs.out.1]; exact hdl
    clear hrb hP9 hown
    repeat' (first | (go_at_call 14; go_must ((with_reducible refine Calls.mono HAL.out ?_); rintro _ w3 ⟨rfl, hP3, hb3, hsm3⟩; have HP3 := hid hP3; clear hP3; dsimp only)) | (with_reducible refine stop_region 14 ?_) | go_step)
    refine Stop.go ?_
    have B3 : Below w.heap.size w w3 := Bwr.trans (hb3.mono hbX.out)
    have Hown3 := hid (Hown.out.keep (S := fun b => w2.heap.size ≤ b ∧ b < wr.heap.size) hsm3 fun g hg => Hown.out.block g hg)
    have Hprs3 := hid ((Hprs.out.more (S' := fun b => w2.heap.size ≤ b ∧ b < wr.heap.size) fun b hl hb => ⟨hb.1, hl⟩).keep hsm3)
    have hall := allRounds_inv j (List.range j) ssb0 40 HG.out Hgdb.out (by rw [List.length_range]; omega)
    have hhere := allRounds_here hGl (List.range j) ssb0 40 HG.out Hgdb.out (by rw [List.length_range]; omega) hlenb
    have hlen2 : (allOf j ssb0).length = j := by unfold allOf; rw [allRounds_length]; exact hlenb
    obtain ⟨t0, ht0⟩ : ∃ t0, (allOf j ssb0)[0]? = some t0 := ⟨_, List.getElem?_eq_getElem (by omega)⟩
    have hgt := hall.2 t0 (List.mem_of_getElem? ht0)
    rw [List.length_range] at hgt
    obtain ⟨x1, x2, x3, -⟩ := hall.1.site 0 t0 ht0
    have hsub : ∀ x ∈ ls, (x.map El.nm).Sublist (t0.l.map El.nm) := fun x hx => (Hofs.out x hx).sub HG.out.web HG.out.bs ⟨x1, x2, x3⟩ (hhere 0 (List.mem_range.2 (by omega)) t0 ht0)
    have hnd := hgt.snd.nd
    have htl : t0.l.length ≤ 1048576 := by have := hgt.snd.l; omega
    have hxl : ∀ x ∈ ls, x.length ≤ t0.l.length := fun x hx => by
     have := (hsub x hx).length_le
     rwa [List.length_map, List.length_map] at this
    have Hsub := hid hsub
    have Hxl := hid hxl
    have Hnd := hid hnd
    obtain ⟨b9, off9, s9, T9, hA2, k9, hb9l, -, hS9, -⟩ := HP3.out.at2 ht0
    cases hA2
    rw [Nat.add_zero] at k9
    obtain ⟨g9, r9, Sg1, Sg2, hs9, hg9, -⟩ := hS9
    have sc : w3.cell? ⟨s9, 0, none⟩ = some (.pointer (some ⟨g9, 0, none⟩)) := hs9.cell 0
    have scl := hs9.lt
    have HMD := hid (hmodel_any w3 _ g9 _ t0 hg9)
    have h0j : (0 : Int) < (j : Int) := by omega
    clear hall hhere hgt x1 x2 x3 hsub hnd hxl hs9 hg9 HP3 ht0
    repeat' (first | (go_at_call 20; go_must ((with_reducible refine Calls.mono HMD.out ?_); rintro _ _ ⟨⟨mb, rfl, hm⟩, rfl⟩; have HEL := hid (melements_any w3 _ mb t0.l _ hm (by omega)); clear hm; dsimp only)) | (go_at_call 21; go_must ((with_reducible refine Calls.mono HEL.out ?_); rintro _ w4 ⟨A9, c9, rfl, ho4, hb4⟩; have Ho4 := hid ho4; clear ho4; dsimp only)) | (with_reducible refine stop_region 15 ?_) | go_step)
    refine Stop.go ?_
    clear k9 sc scl HMD
    have B4 := bvia B3 hb4
    have h7pos : 0 < n7 := by omega
    obtain ⟨b7, off7, hx0, rfl, -⟩ := ((Hown3.out.row (S := fun _ => True) fun _ _ _ => trivial).step hb4).at_ h7pos
    have HR : Hid (∀ (e : Nat) (x : List El), ls[e]? = some x → ∀ W, Below w4.heap.size w4 W → ∃ h : Sl8, W.cell? ⟨b7, off7 + e, none⟩ = some (.slice h.A x.length h.c) ∧ Row W (fun _ => True) h.A x.length h.c x ∧ b7 < W.heap.size) := hid (by
     intro e x hx W hb
     have hel : e < n7 := by rw [← hll]; exact (List.getElem?_eq_some_iff.1 hx).1
     obtain ⟨b', off', h', hA', -, hbl', hh', hc'⟩ := (((Hown3.out.row (S := fun _ => True) fun _ _ _ => trivial).step hb4).step hb).at_ hel
     cases hA'
     obtain ⟨e1, e2⟩ := Hprs3.out.2 e h' x hh' hx
     have c0 : W.cell? ⟨b7, off7 + e * 1 + 0, none⟩ = some (.slice h'.A h'.n h'.c) := hc' 0 _ rfl
     rw [Nat.mul_one, Nat.add_zero, e1] at c0
     exact ⟨h', c0, ((e2.more (S' := fun _ => True) fun _ _ _ => trivial).step hb4).step hb, hbl'⟩)
    have H9 := hid (fun W (hb : Below w4.heap.size w4 W) => (Ho4.out.row (S := fun _ => True) fun _ _ _ => trivial).step hb)
    clear Hown3 Hprs3 Hown Hprs HAL
    repeat' (first | go_step)
    go_loopw [10] (fun i wr => ∃ (e : Nat), i = .int .i64 e ∧ e ≤ n7 ∧ Below w4.heap.size w4 wr) (fun i _ => n7 - (intOf i).toNat)
    case atStart => exact ⟨0, rfl, Nat.zero_le _, Below.refl _ _⟩
    case round =>
     obtain ⟨e, rfl, he, hbe⟩ := hrel
     have Bwe := bvia B4 hbe
     by_cases hlte : e < n7
     · have hen : (e : Int) < (n7 : Int) := by omega
       obtain ⟨x, hx⟩ : ∃ x, ls[e]? = some x := ⟨_, List.getElem?_eq_getElem (by omega)⟩
       have hxm := List.mem_of_getElem? hx
       obtain ⟨hh, ce, re, hb7l⟩ := HR.out e x hx wr hbe
       have hxl := Hxl.out x hxm
       have HPC := hid (places_true wr hh.A A9 _ hh.c _ c9 x t0.l _ _ re (H9.out wr hbe) (by omega) (by omega) (InOrd.of_sub Hnd.out (Hsub.out x hxm)))
       have Hx := hid hx
       clear re hx
       repeat' (first | (go_at_call 22; go_must ((with_reducible refine Calls.mono HPC.out ?_); rintro _ w5 ⟨rfl, hb5⟩; dsimp only)) | (with_reducible refine stop_region 20 ?_) | go_step)
       refine Stop.go ?_
       have E5 := bvia hbe hb5
       clear ce hb7l
       repeat' (first | go_step)
       go_loopw [11] (fun i wq => ∃ (r : Nat), i = .int .i64 r ∧ r ≤ e ∧ Below w5.heap.size w5 wq) (fun i _ => e - (intOf i).toNat)
       case atStart => exact ⟨0, rfl, Nat.zero_le _, Below.refl _ _⟩
       case round =>
        obtain ⟨r, rfl, hr, hbr⟩ := hrel
        have Er := bvia E5 hbr
        by_cases hltr : r < e
        · have hri : (r : Int) < (e : Int) := by omega
          have hrn : (r : Int) < (n7 : Int) := by omega
          obtain ⟨y, hy⟩ : ∃ y, ls[r]? = some y := ⟨_, List.getElem?_eq_getElem (by omega)⟩
          have hym := List.mem_of_getElem? hy
          have hyl := Hxl.out y hym
          have hle : (x.length : Int) ≤ (t0.l.length : Int) := by omega
          have Ed : Below w4.heap.size w4 wr.drew := bdrew Er
          obtain ⟨hh, ce, re, hb7l⟩ := HR.out e x Hx.out wr.drew Ed
          obtain ⟨hy', cy, ry, -⟩ := HR.out r y hy wr.drew Ed
          have HPC2 := hid (places_true wr.drew hh.A hy'.A _ hh.c _ hy'.c x y _ _ re ry (by omega) (by omega) (InOrd.of_two Hnd.out (Hsub.out x hxm) (Hsub.out y hym)))
          clear re ry hy
          repeat' (first | ((with_reducible refine region_at 23 ?_); refine wp_region_ordT (fun _ => True) (rgo [0,4,8,12,16,20,24,28,32,36,40,44,48,52,56,60,64,69,72,76] .nil) (by kernel_rfl) (by kernel_rfl) (by kernel_rfl) rfl rfl ?_) | (go_at_call 22; go_must ((with_reducible refine Calls.mono HPC2.out ?_); rintro _ w6 ⟨rfl, hb6⟩; have hk6 := KeepT.of_below (T := fun _ => True) hb6; dsimp only)) | (with_reducible refine Keep.below (by assumption) ?_) | ((with_reducible refine WpO.here ?_); first | (refine WpO.done ?_; refine NoP.normal ?_) | ((first | refine WpO.load (by rfl) (by rfl) (by go_simp; rfl) ?_ | refine WpO.pure (by rfl) (fun w_ => by go_simp; (try go_bits); rfl) ?_); go_frame) | refine WpO.wild ?_) | ((with_reducible refine wildO.here ?_); (refine wildO.go (by rfl) (fun _ _ => ?_))) | go_step)
          go_roundw
          case rel => exact ⟨r + 1, by go_num, by omega, bvia hbr (bvia (bdrew (Below.refl _ _)) hb6)⟩
          case measure => simp [intOf]; omega
        · obtain rfl : r = e := by omega
          repeat' (first | go_step)
          go_roundw
          case rel => exact ⟨r + 1, by go_num, by omega, Er⟩
          case measure => simp [intOf]; omega
     · obtain rfl : e = n7 := by omega
       repeat' (first | (go_at_call 18; go_must ((with_reducible refine Calls.mono (wakes8_any (a := a) wr S' (Hs.out.step Bwe) (fun b hb => Nat.lt_of_lt_of_le (Hlow.out b hb) (Bwe).size)) ?_); rintro _ w9 ⟨rfl, hb9⟩; dsimp only)) | go_step)
       go_ret
       exact ⟨rfl, bvia Bwe hb9⟩
end Go.Proofs.YteggpddlkkjmjaaGreatDoor
