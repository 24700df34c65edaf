/- Part of a proof: what functions of the program compute. Conditions: as each theorem says. -/
import Derived.Test.YteggpddlkkjmjaaGreatDoorQ59
import Derived.Test.YteggpddlkkjmjaaGreatDoorQ67
set_option linter.unusedSimpArgs false
set_option linter.unusedVariables false
set_option maxHeartbeats 8000000
set_option maxRecDepth 200000
namespace Go.Proofs.YteggpddlkkjmjaaGreatDoor
open Go Go.RowKit
variable {a : Nat → Addr}
theorem htakes_true (w : World) (k : Int) (A B C : Option Addr) (n c m d p e : Nat) (l : List Int) (vs : List Mv8) (xs : List Actn) (S S1 S2 S' : Nat → Prop) (hl : GRow w S A n c (l.map Rn8.mk)) (hli : ∀ e ∈ l, I32 e) (hv : GRow w S1 B m d vs) (hvi : ∀ v ∈ vs, v.In) (hx : GRow w S2 C p e xs) (hxi : ∀ x ∈ xs, x.In) (hs : Sents w S' a) (hlow : ∀ b, S' b → b < w.heap.size) :
 Calls Tryz.prog 7 #[.agg #[.int .i64 k, .slice A n c, .slice B m d], .slice C p e] w fun e w' => e = .returned (.bool true) ∧ Below w.heap.size w w' := by
 have hb0 := balloc (o := .cells #[.int .i64 k, .slice A n c, .slice B m d] 25) (Below.refl w.heap.size w)
 have hX := Blk.new w 25 #[.int .i64 k, .slice A n c, .slice B m d]
 have HPL := hid (fun W (hb : Below w.heap.size w W) => played_any (a := a) W k A B n c m d l vs S S1 S' (hl.step hb) hli (hv.step hb) hvi (hs.step hb) fun b h => Nat.lt_of_lt_of_le (hlow b h) hb.size)
 have hgd := playedOf_gd (n := sitesN k) (by have := sitesN_pos k; omega) l vs hvi
 have hn8 := sitesN_pos k
 have hlen := playedOf_length (sitesN k) l vs
 obtain ⟨nn, hnn⟩ : ∃ nn, nn = sitesN k := ⟨_, rfl⟩
 rw [← hnn] at HPL hgd hn8 hlen
 have hpm := hx.len_le
 unfold maxLen at hpm
 have Hgd := hid hgd
 have Hx := hid hx
 have Hxi := hid hxi
 have Hs := hid hs
 have Hlow := hid hlow
 clear hl hli hv hvi hx hxi hs hlow hgd hnn
 go_enter Tryz.func7, Tryz.ntmps7
 repeat' (first | (with_reducible refine stop_region 1 ?_) | go_step)
 refine Stop.go ?_
 have HPL := hid (HPL.out _ hb0)
 generalize w.alloc (.cells #[.int .i64 k, .slice A n c, .slice B m d] 25) = X at *
 have p0 : X.cell? ⟨w.heap.size, 0, none⟩ = some (.int .i64 k) := hX.cell 0
 have p1 : X.cell? ⟨w.heap.size, 1, none⟩ = some (.slice A n c) := hX.cell 1
 have p2 : X.cell? ⟨w.heap.size, 2, none⟩ = some (.slice B m d) := hX.cell 2
 have pl := hX.lt
 clear hX
 generalize playedOf nn l vs = ss0 at *
 repeat' (first | (go_at_call 13; go_must ((with_reducible refine Calls.mono HPL.out ?_); rintro _ w1 ⟨A1, c1, base, rfl, hP, hbase, hb1⟩; have HP := hid hP; clear hP; dsimp only)) | (with_reducible refine stop_region 2 ?_) | go_step)
 refine Stop.go ?_
 clear p0 p1 p2 pl HPL
 have B1 := bvia hb0 hb1
 obtain ⟨s, hs0⟩ : ∃ s, ss0[0]? = some s := ⟨_, List.getElem?_eq_getElem (by omega)⟩
 have Hs0 := hid hs0
 have hgs := hid (Hgd.out s (List.mem_of_getElem? hs0))
 obtain ⟨sbs, hrow, hsit⟩ := HP.out
 obtain ⟨b2, off2, e2, rfl, -, hb2l, he2, hc2⟩ := hrow.at_ (show 0 < nn by omega)
 rw [List.getElem?_map] at he2
 obtain ⟨sb, hsb, rfl⟩ := Option.map_eq_some_iff.1 he2
 have c0 : w1.cell? ⟨b2, off2 + 0 * 1 + 0, none⟩ = some (.pointer (some ⟨sb, 0, none⟩)) := hc2 0 _ rfl
 rw [show off2 + 0 * 1 + 0 = off2 by omega] at c0
 have Hsb := hid hsb
 have Hsit := hid hsit
 have h0n : (0 : Int) < (nn : Int) := by omega
 have hbX := hid (show w.heap.size ≤ base by have := hb0.size; omega)
 have hbw1 := hsit.2.1
 clear hrow hsit hsb hs0 hc2 he2 HP
 have hnl := Lib.run_eql_slice_nil w1 26 _ (some ⟨b2, off2, none⟩) nn c1 0 0 Tryz.underlying26
 repeat' (first | go_step)
 go_loopw [7] (fun i wr => ∃ (j : Nat) (ss : List Lg) (s : Lg), i = .int .i64 j ∧ j ≤ p ∧ j ≤ 40 ∧ ss[0]? = some s ∧ s.Gd (40 + j) ∧ SitesAt wr base (rowB (some ⟨b2, off2, none⟩)) sbs ss (60 + j) ∧ Below base w1 wr) (fun i _ => p - (intOf i).toNat)
 case atStart => exact ⟨0, ss0, s, rfl, Nat.zero_le _, Nat.zero_le _, Hs0.out, hgs.out, Hsit.out, Below.refl _ _⟩
 case round =>
  clear Hsit hgs Hs0 c0
  obtain ⟨j, ss, s, rfl, hj, hj4, hs0, hgs, hsit, hbw⟩ := hrel
  have Hsit := hid hsit
  have Hgs := hid hgs
  have Hs0 := hid hs0
  clear hsit hgs hs0
  have Bwr : Below w.heap.size w wr := B1.trans (hbw.mono hbX.out)
  by_cases hlt : j < p ∧ j < 40
  · obtain ⟨hlt1, hlt2⟩ := hlt
    have hjp : (j : Int) < (p : Int) := by omega
    have hj40 : (j : Int) < 40 := by omega
    obtain ⟨b, off, x, rfl, -, hbl', hxt, hcell⟩ := (Hx.out.step Bwr).at_ hlt1
    obtain ⟨c0, c1, c2, c3, c4, c5, c6, c7, c8, c9, c10, c11, c12⟩ := rc13 (w := wr) (b := b) (o := off + j * 13) x hcell
    have hxI := Hxi.out x (List.mem_of_getElem? hxt)
    have hgd2 := hid (Hgs.out.take hxI)
    have HT1 := hid (sites_take (a := a) wr base sb (60 + j) 0 (40 + j) _ S' sbs ss s x Hsit.out Hsb.out Hs0.out Hgs.out (by omega) (by omega) hxI (Hs.out.step Bwr) (fun b hb => Nat.lt_of_lt_of_le (Hlow.out b hb) hbX.out))
    simp only [Actn.agg] at HT1
    unfold Actn.vals at HT1
    clear hcell hxt hxI
    repeat' (first | (go_at_call 32; go_must ((with_reducible refine Calls.mono HT1.out ?_); rintro _ w3 ⟨rfl, hS3, hB3, -⟩; have HS3 := hid hS3; have h0s : (ss.set 0 (s.takeOf x))[0]? = some (s.takeOf x) := List.getElem?_set_self (List.getElem?_eq_some_iff.1 Hs0.out).1; have H0s := hid h0s; obtain ⟨T, hT⟩ := hS3.one Hsb.out h0s; have HSM := hid (site_same w3 base sb _ T _ hT (by have := hgd2.out.snd.acts; omega) (by have := hgd2.out.snd.l; omega)); clear hS3 hT h0s; dsimp only)) | (go_at_call 33; go_must ((with_reducible refine Calls.mono HSM.out ?_); rintro _ w5 ⟨rfl, hb5⟩; dsimp only)) | go_guarded | go_step)
    go_roundw
    case rel => exact ⟨j + 1, _, _, by go_num, by omega, by omega, H0s.out, hgd2.out, HS3.out.step hb5, (hbw.trans hB3).trans (hb5.mono HS3.out.2.1)⟩
    case measure => simp [intOf]; omega
  · by_cases h1 : j < p
    · have hjm : (j : Int) < (p : Int) := by omega
      have hj40 : ¬ (j : Int) < 40 := by omega
      clear hlt
      repeat' (first | (go_at_call 18; go_must ((with_reducible refine Calls.mono (wakes8_any (a := a) wr S' (Hs.out.step Bwr) (fun b hb => Nat.lt_of_lt_of_le (Hlow.out b hb) (Bwr).size)) ?_); rintro _ w9 ⟨rfl, hb9⟩; dsimp only)) | go_guarded | go_step)
      go_ret
      exact ⟨rfl, bvia Bwr hb9⟩
    · have hjm : ¬ (j : Int) < (p : Int) := by omega
      clear hlt
      repeat' (first | (go_at_call 18; go_must ((with_reducible refine Calls.mono (wakes8_any (a := a) wr S' (Hs.out.step Bwr) (fun b hb => Nat.lt_of_lt_of_le (Hlow.out b hb) (Bwr).size)) ?_); rintro _ w9 ⟨rfl, hb9⟩; dsimp only)) | go_guarded | go_step)
      go_ret
      exact ⟨rfl, bvia Bwr hb9⟩
end Go.Proofs.YteggpddlkkjmjaaGreatDoor
