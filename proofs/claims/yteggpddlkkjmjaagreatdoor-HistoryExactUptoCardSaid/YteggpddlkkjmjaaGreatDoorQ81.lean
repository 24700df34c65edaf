/- Part of a proof: what functions of the program compute. Conditions: as each theorem says. -/
import Derived.Maps.RangeWalk
import Derived.Test.YteggpddlkkjmjaaGreatDoorQ59
import Derived.Test.YteggpddlkkjmjaaGreatDoorQ60
import Derived.Test.YteggpddlkkjmjaaGreatDoorQ67
set_option linter.unusedSimpArgs false
set_option linter.unusedVariables false
set_option maxHeartbeats 8000000
set_option maxRecDepth 200000
namespace Go.Proofs.YteggpddlkkjmjaaGreatDoor
open Go Go.RowKit
variable {a : Nat → Addr}
theorem site_entry (w : World) (base sb K : Nat) (i : Int) (S S' : Nat → Prop) (s : Lg) (h : SiteAt w base S sb s K) (hi64 : I64 i) (ha : s.acts.length ≤ 1048576) (hfl : s.forms.length = s.acts.length) (hs : Sents w S' a) (hlow : ∀ b, S' b → b < w.heap.size) :
 Calls Tryz.prog 44 #[.pointer (some ⟨sb, 0, none⟩), .int .i64 i] w fun e w' => e = .returned (.bool true) ∧ Below w.heap.size w w' := by
 by_cases hi : i < 0 ∨ (s.acts.length : Int) ≤ i
 · exact site_entry_out (a := a) w base sb K i S S' s h hi hi64 ha hfl hs hlow
 · obtain ⟨k, rfl⟩ : ∃ k : Nat, i = (k : Int) := ⟨i.toNat, by omega⟩
   exact site_entry_in w base sb K k S s _ _ h (List.getElem?_eq_getElem (show k < s.acts.length by omega)) (List.getElem?_eq_getElem (show k < s.forms.length by omega)) ha hfl
theorem hexact_true (w : World) (k : Int) (A B C : Option Addr) (n c m d p e : Nat) (l : List Int) (vs : List Mv8) (xs : List Int) (S S1 S2 S' : Nat → Prop) (hl : GRow w S A n c (l.map Rn8.mk)) (hli : ∀ e ∈ l, I32 e) (hv : GRow w S1 B m d vs) (hvi : ∀ v ∈ vs, v.In) (hx : GRow w S2 C p e xs) (hxi : ∀ x ∈ xs, I64 x) (hs : Sents w S' a) (hlow : ∀ b, S' b → b < w.heap.size) :
 Calls Tryz.prog 11 #[.agg #[.int .i64 k, .slice A n c, .slice B m d], .slice C p e] w fun e w' => e = .returned (.bool true) ∧ Below w.heap.size w w' := by
 have hb0 := balloc (o := .cells #[.int .i64 k, .slice A n c, .slice B m d] 25) (Below.refl w.heap.size w)
 have hX := Blk.new w 25 #[.int .i64 k, .slice A n c, .slice B m d]
 have HPL := hid (fun W (hb : Below w.heap.size w W) => played_any (a := a) W k A B n c m d l vs S S1 S' (hl.step hb) hli (hv.step hb) hvi (hs.step hb) fun b h => Nat.lt_of_lt_of_le (hlow b h) hb.size)
 have hgd := playedOf_gd (n := sitesN k) (by have := sitesN_pos k; omega) l vs hvi
 have hn8 := sitesN_pos k
 have hlen := playedOf_length (sitesN k) l vs
 obtain ⟨nn, hnn⟩ : ∃ nn, nn = sitesN k := ⟨_, rfl⟩
 rw [← hnn] at HPL hgd hn8 hlen
 have hpm := hx.len_le
 unfold maxLen at hpm
 have Hgd := hid hgd
 have Hx := hid hx
 have Hxi := hid hxi
 have Hs := hid hs
 have Hlow := hid hlow
 clear hl hli hv hvi hx hxi hs hlow hgd hnn
 go_enter Tryz.func11, Tryz.ntmps11
 repeat' (first | (with_reducible refine stop_region 1 ?_) | go_step)
 refine Stop.go ?_
 have HPL := hid (HPL.out _ hb0)
 generalize w.alloc (.cells #[.int .i64 k, .slice A n c, .slice B m d] 25) = X at *
 have p0 : X.cell? ⟨w.heap.size, 0, none⟩ = some (.int .i64 k) := hX.cell 0
 have p1 : X.cell? ⟨w.heap.size, 1, none⟩ = some (.slice A n c) := hX.cell 1
 have p2 : X.cell? ⟨w.heap.size, 2, none⟩ = some (.slice B m d) := hX.cell 2
 have pl := hX.lt
 clear hX
 generalize playedOf nn l vs = ss at *
 repeat' (first | (go_at_call 13; go_must ((with_reducible refine Calls.mono HPL.out ?_); rintro _ w1 ⟨A1, c1, base, rfl, hP, hbase, hb1⟩; have HP := hid hP; clear hP; dsimp only)) | (with_reducible refine stop_region 2 ?_) | go_step)
 refine Stop.go ?_
 clear p0 p1 p2 pl HPL
 have B1 := bvia hb0 hb1
 obtain ⟨b0, off0, sb0, S0, rfl, -⟩ := HP.out.at_ (k := 0) (List.getElem?_eq_getElem (show 0 < ss.length by omega))
 have hnl := Lib.run_eql_slice_nil w1 26 _ (some ⟨b0, off0, none⟩) nn c1 0 0 Tryz.underlying26
 repeat' (first | go_step)
 go_loopw [6] (fun i wr => ∃ (j : Nat), i = .int .i64 j ∧ j ≤ nn ∧ Below w1.heap.size w1 wr) (fun i _ => nn - (intOf i).toNat)
 case atStart => exact ⟨0, rfl, Nat.zero_le _, Below.refl _ _⟩
 case round =>
  clear hnl
  obtain ⟨j, rfl, hj, hbw⟩ := hrel
  have Bwr := bvia B1 hbw
  by_cases hlt : j < nn
  · have hjn : (j : Int) < (nn : Int) := by omega
    obtain ⟨s, hsj⟩ : ∃ s, ss[j]? = some s := ⟨_, List.getElem?_eq_getElem (by omega)⟩
    have hgs := hid (Hgd.out s (List.mem_of_getElem? hsj))
    obtain ⟨b2, off2, sb, T, hA2, k0, hb2l, hS, -⟩ := (HP.out.step hbw).at_ hsj
    cases hA2
    have HSM := hid (site_same wr base sb _ T s hS (by have := hgs.out.snd.acts; omega) (by have := hgs.out.snd.l; omega))
    have HEN := hid (fun W i (hb : Below wr.heap.size wr W) (hi : I64 i) => site_entry (a := a) W base sb _ i T S' s (hS.step hb) hi (by have := hgs.out.snd.acts; omega) hgs.out.fl (Hs.out.step (bvia Bwr hb)) fun b h => Nat.lt_of_lt_of_le (Hlow.out b h) (bvia Bwr hb).size)
    have hSh := hid hS
    have hal : s.acts.length ≤ 40 := hgs.out.snd.acts
    clear hS hsj
    repeat' (first | (go_at_call 33; go_must ((with_reducible refine Calls.mono HSM.out ?_); rintro _ w5 ⟨rfl, hb5⟩; dsimp only)) | go_step)
    have K0 := hid k0
    have hb2l0 := hb2l
    clear k0 hb2l
    go_loopw [7] (fun i wq => ∃ (t : Nat), i = .int .i64 t ∧ t ≤ p ∧ t ≤ 20 ∧ Below wr.heap.size wr wq) (fun i _ => p - (intOf i).toNat)
    case atStart => exact ⟨0, rfl, Nat.zero_le _, Nat.zero_le _, hb5⟩
    case round =>
     clear hb5
     obtain ⟨t, rfl, ht, ht2, hbq⟩ := hrel
     by_cases hlt2 : t < p ∧ t < 20
     · obtain ⟨hlt3, hlt4⟩ := hlt2
       have htp : (t : Int) < (p : Int) := by omega
       have ht20 : (t : Int) < 20 := by omega
       obtain ⟨b, off, x, rfl, -, hbl', hxt, hcell⟩ := (Hx.out.step (bvia Bwr (bdrew hbq))).at_ hlt3
       have c0 : wr.drew.cell? ⟨b, off + t * 1 + 0, none⟩ = some (.int .i64 x) := hcell 0 _ rfl
       rw [Nat.add_zero, Nat.mul_one] at c0
       have HE1 := hid (HEN.out _ x (bdrew hbq) (Hxi.out x (List.mem_of_getElem? hxt)))
       have k6 := kc (bdrew hbq) K0.out
       have k6l := Nat.lt_of_lt_of_le hb2l0 (bdrew hbq).size
       clear hcell hxt
       repeat' (first | ((with_reducible refine region_at 12 ?_); refine wp_region_ordT (fun _ => True) (rgo [0,4,8,12,16,20,24,28,33,36] .nil) (by kernel_rfl) (by kernel_rfl) (by kernel_rfl) rfl rfl ?_) | (go_at_call 44; go_must ((with_reducible refine Calls.mono HE1.out ?_); rintro _ w7 ⟨rfl, hb7⟩; have hk7 := KeepT.of_below (T := fun _ => True) hb7; dsimp only)) | (with_reducible refine Keep.below (by assumption) ?_) | ((with_reducible refine WpO.here ?_); first | (refine WpO.done ?_; refine NoP.normal ?_) | ((first | refine WpO.load (by rfl) (by rfl) (by go_simp; rfl) ?_ | refine WpO.pure (by rfl) (fun w_ => by go_simp; (try go_bits); rfl) ?_); go_frame) | refine WpO.wild ?_) | ((with_reducible refine wildO.here ?_); (refine wildO.go (by rfl) (fun _ _ => ?_))) | go_guarded | go_step)
       go_roundw
       case rel => exact ⟨t + 1, by go_num, by omega, by omega, bvia (bdrew hbq) hb7⟩
       case measure => simp [intOf]; omega
     · by_cases h1 : t < p
       · have htp : (t : Int) < (p : Int) := by omega
         have ht20 : ¬ (t : Int) < 20 := by omega
         clear hlt2
         have HEN2 := hid (fun W i (hb : Below wr.heap.size wr W) hi => HEN.out W i (bvia hbq hb) hi)
         have K1 := hid (kc hbq K0.out)
         have hb2l1 : b0 < wr.heap.size := Nat.lt_of_lt_of_le hb2l0 hbq.size
         obtain ⟨gb, rb, Sa, Sb, hsb, hg, hr, -⟩ := hSh.out.step hbq
         obtain ⟨E, ce, A4, c4, B4, d4, L4, cl4, SR, hr, -⟩ := hr
         have Hsb := hid hsb
         have Hr := hid hr.g
         have Hb2 := hid (bvia hbw hbq)
         have Bw2 := bvia Bwr hbq
         clear hsb hg hr
         repeat' (first | go_guarded | go_step)
         go_loopw [8] (fun i wq => ∃ (u : Nat), i = .int .i64 u ∧ u ≤ s.acts.length ∧ Below wr.heap.size wr wq) (fun i _ => s.acts.length - (intOf i).toNat)
         case atStart => exact ⟨0, rfl, Nat.zero_le _, Below.refl _ _⟩
         case round =>
          obtain ⟨u, rfl, hu, hbz⟩ := hrel
          have hqs := Hsb.out.step hbz
          have s1 : wr.cell? ⟨sb, 1, none⟩ = some (.pointer (some ⟨rb, 0, none⟩)) := hqs.cell 1
          have sl := hqs.lt
          have hqr := Hr.out.step hbz
          have r2 : wr.cell? ⟨rb, 2, none⟩ = some (.slice A4 s.acts.length c4) := hqr.cell 2
          have rl := hqr.lt
          have k7 := kc hbz K1.out
          have k7l := Nat.lt_of_lt_of_le hb2l1 hbz.size
          clear hqs hqr
          by_cases hlt3 : u < s.acts.length
          · have hui : (u : Int) < (s.acts.length : Int) := by omega
            have HE3 := hid (HEN2.out _ (u : Int) hbz ⟨by omega, by omega⟩)
            repeat' (first | (go_at_call 44; go_must ((with_reducible refine Calls.mono HE3.out ?_); rintro _ w8 ⟨rfl, hb8⟩; dsimp only)) | go_step)
            go_roundw
            case rel => exact ⟨u + 1, by go_num, by omega, bvia hbz hb8⟩
            case measure => simp [intOf]; omega
          · have hui : ¬ (u : Int) < (s.acts.length : Int) := by omega
            repeat' (first | go_step)
            go_roundw
            case rel => exact ⟨j + 1, by go_num, by omega, bvia Hb2.out hbz⟩
            case measure => simp [intOf]; omega
       · have htp : ¬ (t : Int) < (p : Int) := by omega
         clear hlt2
         have HEN2 := hid (fun W i (hb : Below wr.heap.size wr W) hi => HEN.out W i (bvia hbq hb) hi)
         have K1 := hid (kc hbq K0.out)
         have hb2l1 : b0 < wr.heap.size := Nat.lt_of_lt_of_le hb2l0 hbq.size
         obtain ⟨gb, rb, Sa, Sb, hsb, hg, hr, -⟩ := hSh.out.step hbq
         obtain ⟨E, ce, A4, c4, B4, d4, L4, cl4, SR, hr, -⟩ := hr
         have Hsb := hid hsb
         have Hr := hid hr.g
         have Hb2 := hid (bvia hbw hbq)
         have Bw2 := bvia Bwr hbq
         clear hsb hg hr
         repeat' (first | go_guarded | go_step)
         go_loopw [8] (fun i wq => ∃ (u : Nat), i = .int .i64 u ∧ u ≤ s.acts.length ∧ Below wr.heap.size wr wq) (fun i _ => s.acts.length - (intOf i).toNat)
         case atStart => exact ⟨0, rfl, Nat.zero_le _, Below.refl _ _⟩
         case round =>
          obtain ⟨u, rfl, hu, hbz⟩ := hrel
          have hqs := Hsb.out.step hbz
          have s1 : wr.cell? ⟨sb, 1, none⟩ = some (.pointer (some ⟨rb, 0, none⟩)) := hqs.cell 1
          have sl := hqs.lt
          have hqr := Hr.out.step hbz
          have r2 : wr.cell? ⟨rb, 2, none⟩ = some (.slice A4 s.acts.length c4) := hqr.cell 2
          have rl := hqr.lt
          have k7 := kc hbz K1.out
          have k7l := Nat.lt_of_lt_of_le hb2l1 hbz.size
          clear hqs hqr
          by_cases hlt3 : u < s.acts.length
          · have hui : (u : Int) < (s.acts.length : Int) := by omega
            have HE3 := hid (HEN2.out _ (u : Int) hbz ⟨by omega, by omega⟩)
            repeat' (first | (go_at_call 44; go_must ((with_reducible refine Calls.mono HE3.out ?_); rintro _ w8 ⟨rfl, hb8⟩; dsimp only)) | go_step)
            go_roundw
            case rel => exact ⟨u + 1, by go_num, by omega, bvia hbz hb8⟩
            case measure => simp [intOf]; omega
          · have hui : ¬ (u : Int) < (s.acts.length : Int) := by omega
            repeat' (first | go_step)
            go_roundw
            case rel => exact ⟨j + 1, by go_num, by omega, bvia Hb2.out hbz⟩
            case measure => simp [intOf]; omega
  · obtain rfl : j = nn := by omega
    repeat' (first | (go_at_call 18; go_must ((with_reducible refine Calls.mono (wakes8_any (a := a) wr S' (Hs.out.step Bwr) (fun b hb => Nat.lt_of_lt_of_le (Hlow.out b hb) (Bwr).size)) ?_); rintro _ w9 ⟨rfl, hb9⟩; dsimp only)) | go_step)
    go_ret
    exact ⟨rfl, bvia Bwr hb9⟩
end Go.Proofs.YteggpddlkkjmjaaGreatDoor
