/- Part of a proof: what functions of the program compute. Conditions: as each theorem says. -/
import Derived.Maps.RangeWalk
import Derived.Test.YteggpddlkkjmjaaGreatDoorQ50
set_option linter.unusedSimpArgs false
set_option linter.unusedVariables false
set_option maxHeartbeats 8000000
set_option maxRecDepth 100000
namespace Go.Proofs.YteggpddlkkjmjaaGreatDoor
open Go Go.RowKit
variable {a : Nat → Addr}
theorem issue_step (w : World) (gb K : Nat) (S S' : Nat → Prop) (s : Lg) (o : Opn) (h : LogAt w S gb s K) (hf : s.Fine K) (hx : o.In) (hck : ∀ k, k < 8 → s.clk.get k ≤ 2097152) (hs : Sents w S' a) (hlow : ∀ b, S' b → b < w.heap.size) :
 Calls Tryz.prog 28 #[.pointer (some ⟨gb, 0, none⟩), o.agg] w fun e w' => ∃ v, e = .returned (.tuple #[(s.issued o).agg, v]) ∧ ErrAns w' (Fr w S') a (s.issueCh o) (s.issueCode o) v ∧ LogAt w' (Fr w S) gb (s.issueOf o) (K + 1) ∧ Out S w w' := by
 have HL := hid h.cut
 have hL0 := h.cut
 obtain ⟨bm, mb, A, c, B, d, SM, h, -⟩ := h
 obtain ⟨hX, hB, e0⟩ := twoBoxes w 37 46 #[.int .i64 o.kind, .int .i64 o.at_, .int .i32 o.char, .int .i64 o.rep] #[.int .i64 0, .int .i64 0, .int .i32 0, .int .i64 0, .int .i64 0, .int .i64 0, .int .i64 0, .int .i64 0, .int .i64 0, .int .i64 0, .int .i64 0, .int .i64 0, .int .i64 0]
 have h0 := h.step e0
 have hs0 := hs.step e0
 have hLX := hL0.step e0
 have hfit := hf.fits
 have HG := hid h0
 have HR := hid (fun W => rightOp_any o W)
 have HD := hid (fun W (hb : Below ((w.alloc (.cells #[.int .i64 o.kind, .int .i64 o.at_, .int .i32 o.char, .int .i64 o.rep] 37)).alloc (.cells #[.int .i64 0, .int .i64 0, .int .i32 0, .int .i64 0, .int .i64 0, .int .i64 0, .int .i64 0, .int .i64 0, .int .i64 0, .int .i64 0, .int .i64 0, .int .i64 0, .int .i64 0] 46)).heap.size ((w.alloc (.cells #[.int .i64 o.kind, .int .i64 o.at_, .int .i32 o.char, .int .i64 o.rep] 37)).alloc (.cells #[.int .i64 0, .int .i64 0, .int .i32 0, .int .i64 0, .int .i64 0, .int .i64 0, .int .i64 0, .int .i64 0, .int .i64 0, .int .i64 0, .int .i64 0, .int .i64 0, .int .i64 0] 46)) W) (hn : (s.name (s.actOf o)).In) => deliver_step (a := a) W gb K (fun b => S b ∧ b < w.heap.size) S' s (s.actOf o) o (hLX.step hb) hfit hn rfl (hs0.step hb))
 have HX := hid hX
 have HB := hid hB
 have Hep := hid hf.ep
 have Hox := hid hx
 have Hck := hid hck
 have Hclk := hid hf.clk
 clear h h0 hX hB hs hs0 hf hx hL0 hLX hfit hck
 obtain ⟨n, hn⟩ : ∃ n, n = s.issueCode o := ⟨_, rfl⟩
 have hn' : n = whyOf s.l o (s.name (s.actOf o)) := hn
 rw [← hn'] at HD
 obtain ⟨s', hs'⟩ : ∃ s', s' = s.issueOf o := ⟨_, rfl⟩
 have hs'' : s' = s.deliver (s.actOf o) o := hs'
 rw [← hs''] at HD
 obtain ⟨P, hP⟩ : ∃ P, P = s.issued o := ⟨_, rfl⟩
 have Hch := hid (show s.issueCh o = ⟨({ data := #[104, 105, 115, 116, 111, 114, 121] } : ByteArray), ({ data := #[73, 115, 115, 117, 101] } : ByteArray), atOf o.at_⟩ :: chOf o n by unfold Lg.issueCh; rw [← hn])
 have HP := hid (show P = if n = 0 then s.actOf o else noActn by rw [hP, hn]; rfl)
 rw [← hn, ← hs', ← hP, Hch.out]
 clear hn hn' hs' hs'' hP Hch
 obtain ⟨y, hy⟩ : ∃ y, y = s.actOf o := ⟨_, rfl⟩
 rw [← hy] at HD HP
 have Hy := hid hy
 clear hy
 simp only [Actn.agg, Opn.agg] at *
 unfold Actn.vals at *
 go_enter Tryz.func28, Tryz.ntmps28
 repeat' (first | (with_reducible refine stop_region 1 ?_) | go_step)
 refine Stop.go ?_
 generalize (w.alloc (.cells #[.int .i64 o.kind, .int .i64 o.at_, .int .i32 o.char, .int .i64 o.rep] 37)).alloc (.cells #[.int .i64 0, .int .i64 0, .int .i32 0, .int .i64 0, .int .i64 0, .int .i64 0, .int .i64 0, .int .i64 0, .int .i64 0, .int .i64 0, .int .i64 0, .int .i64 0, .int .i64 0] 46) = X at *
 have hxd := HX.out.step (drew_below X)
 have hgd := (HG.out.step (drew_below X)).g
 obtain ⟨o0, o1, o2, o3⟩ := cl4 (w := X.drew) (g := w.heap.size) hxd; have ol := (hxd).lt
 have g5 : X.drew.cell? ⟨gb, 5, none⟩ = some (.int .i64 s.clk.c0) := (hgd).cell 5; have g6 : X.drew.cell? ⟨gb, 6, none⟩ = some (.int .i64 s.clk.c1) := (hgd).cell 6; have g7 : X.drew.cell? ⟨gb, 7, none⟩ = some (.int .i64 s.clk.c2) := (hgd).cell 7; have g8 : X.drew.cell? ⟨gb, 8, none⟩ = some (.int .i64 s.clk.c3) := (hgd).cell 8; have g9 : X.drew.cell? ⟨gb, 9, none⟩ = some (.int .i64 s.clk.c4) := (hgd).cell 9; have g10 : X.drew.cell? ⟨gb, 10, none⟩ = some (.int .i64 s.clk.c5) := (hgd).cell 10; have g11 : X.drew.cell? ⟨gb, 11, none⟩ = some (.int .i64 s.clk.c6) := (hgd).cell 11; have g12 : X.drew.cell? ⟨gb, 12, none⟩ = some (.int .i64 s.clk.c7) := (hgd).cell 12; have gl := (hgd).lt
 repeat' (first | ((with_reducible refine region_at 1 ?_); refine wp_region_order (rgl [0,4,8,12,16,20,25,31]) (by kernel_rfl) (by kernel_rfl) (by kernel_rfl) rfl rfl ?_) | (with_reducible refine Keep.allocD ?_) | (with_reducible refine stop_region 2 ?_) | (with_reducible refine Keep.last ?_) | ((with_reducible refine WpH.here ?_); first | (refine WpH.nil ?_; refine NoP.normal ?_) | ((first | refine WpH.load (by rfl) (by rfl) (by go_simp; rfl) ?_ | refine WpH.pure (by rfl) (fun w_ => by go_simp; (try go_bits); rfl) ?_); go_frame) | (refine WpH.wild1 (by rfl) (fun _ _ => ?_))) | go_step)
 refine Stop.go ?_
 have eA : Below X.heap.size X (X.alloc (.cells #[.int .i64 o.kind, .int .i64 o.at_, .int .i32 o.char, .int .i64 o.rep, .int .i64 0, .int .i64 s.clk.c0, .int .i64 s.clk.c1, .int .i64 s.clk.c2, .int .i64 s.clk.c3, .int .i64 s.clk.c4, .int .i64 s.clk.c5, .int .i64 s.clk.c6, .int .i64 s.clk.c7] 46)).drew := (balloc (Below.refl _ _)).drew
 have hab : Blk (X.alloc (.cells #[.int .i64 o.kind, .int .i64 o.at_, .int .i32 o.char, .int .i64 o.rep, .int .i64 0, .int .i64 s.clk.c0, .int .i64 s.clk.c1, .int .i64 s.clk.c2, .int .i64 s.clk.c3, .int .i64 s.clk.c4, .int .i64 s.clk.c5, .int .i64 s.clk.c6, .int .i64 s.clk.c7] 46)).drew X.heap.size 46 #[.int .i64 o.kind, .int .i64 o.at_, .int .i32 o.char, .int .i64 o.rep, .int .i64 0, .int .i64 s.clk.c0, .int .i64 s.clk.c1, .int .i64 s.clk.c2, .int .i64 s.clk.c3, .int .i64 s.clk.c4, .int .i64 s.clk.c5, .int .i64 s.clk.c6, .int .i64 s.clk.c7] := (Blk.new X 46 #[.int .i64 o.kind, .int .i64 o.at_, .int .i32 o.char, .int .i64 o.rep, .int .i64 0, .int .i64 s.clk.c0, .int .i64 s.clk.c1, .int .i64 s.clk.c2, .int .i64 s.clk.c3, .int .i64 s.clk.c4, .int .i64 s.clk.c5, .int .i64 s.clk.c6, .int .i64 s.clk.c7]).drew
 clear o0 o1 o2 o3 ol
 clear hxd hgd g5 g6 g7 g8 g9 g10 g11 g12 gl
 generalize (X.alloc (.cells #[.int .i64 o.kind, .int .i64 o.at_, .int .i32 o.char, .int .i64 o.rep, .int .i64 0, .int .i64 s.clk.c0, .int .i64 s.clk.c1, .int .i64 s.clk.c2, .int .i64 s.clk.c3, .int .i64 s.clk.c4, .int .i64 s.clk.c5, .int .i64 s.clk.c6, .int .i64 s.clk.c7] 46)).drew = Y at *
 have hXl := HB.out.lt
 rcases hr : rightOp o with _ | _
 · rw [hr] at HR
   have hyv : y = ⟨o, 0, s.clk⟩ := by rw [Hy.out]; unfold Lg.actOf; rw [hr]; rfl
   clear Hy
   subst hyv
   dsimp only at HD
   have hox := HX.out.step eA
   obtain ⟨o0, o1, o2, o3⟩ := cl4 (w := Y) (g := w.heap.size) hox; have ol := (hox).lt
   repeat' (first | (go_at_call 64; go_must ((with_reducible refine Calls.mono (HR.out _) ?_); rintro _ Z ⟨rfl, hbR⟩; dsimp only)) | (with_reducible refine stop_region 4 ?_) | go_step)
   refine Stop.go ?_
   have hbZ := bvia eA hbR
   have hab := hab.step hbR
   have hnI : (s.name ⟨o, 0, s.clk⟩).In := ⟨Hep.out, Hox.out.rep, ⟨by show _ ≤ (0 : Int); omega, by show (0 : Int) ≤ _; omega⟩⟩
   clear o0 o1 o2 o3 ol
   clear eA hbR hox
   have hox := HX.out.step hbZ
   obtain ⟨o0, o1, o2, o3⟩ := cl4 (w := Z) (g := w.heap.size) hox; have ol := (hox).lt
   obtain ⟨a0, a1, a2, a3, a4, a5, a6, a7, a8, a9, a10, a11, a12⟩ := cl13 (w := Z) (g := X.heap.size) hab; have al := (hab).lt
   have hwZ := (bvia e0 hbZ).size
   have hrZ := HB.out.step hbZ
   repeat' (first | (go_at_call 65; go_must ((with_reducible refine Calls.mono (HD.out _ hbZ hnI) ?_); rintro _ w6 ⟨v, rfl, hE, hL6, hO6⟩; dsimp only)) | (with_reducible refine stop_region 5 ?_) | go_step)
   refine Stop.go ?_
   clear o0 o1 o2 o3 ol
   clear a0 a1 a2 a3 a4 a5 a6 a7 a8 a9 a10 a11 a12 al
   have hox6 := hO6.blk hox (by rintro ⟨-, h⟩; omega)
   have hab6 := hO6.blk hab (by rintro ⟨-, h⟩; omega)
   have hr6 := hO6.blk hrZ (by rintro ⟨-, h⟩; omega)
   have hO : Out S w w6 := (Out.of_below (S := S) (bvia e0 hbZ)).trans hO6 fun _ _ h => h.1
   have hw6 := hO6.size
   have hzZ := hrZ.lt
   rcases hE with ⟨hc, rfl⟩ | hE
   · subst hc
     obtain ⟨a0, a1, a2, a3, a4, a5, a6, a7, a8, a9, a10, a11, a12⟩ := cl13 (w := w6) (g := X.heap.size) hab6; have al := (hab6).lt
     have hz := hr6; obtain ⟨zl, z0, z1, z2, z3, z4, z5, z6, z7, z8, z9, z10, z11, z12, f0, f1, f2, f3, f4, f5, f6, f7, f8, f9, f10, f11, f12⟩ := bl13 hz
     repeat' (first | go_step)
     have hz13 := hz.sets (act13 ⟨o, 0, s.clk⟩)
     have v0 := hz13.cell 0
     have v1 := hz13.cell 1
     have v2 := hz13.cell 2
     have v3 := hz13.cell 3
     have v4 := hz13.cell 4
     have v5 := hz13.cell 5
     have v6 := hz13.cell 6
     have v7 := hz13.cell 7
     have v8 := hz13.cell 8
     have v9 := hz13.cell 9
     have v10 := hz13.cell 10
     have v11 := hz13.cell 11
     have v12 := hz13.cell 12
     simp [act13, noActn, noOpn, Clk.zero] at v0 v1 v2 v3 v4 v5 v6 v7 v8 v9 v10 v11 v12
     refine bodyPost_ret (w := setsAt (w.heap.size + 1) (act13 ⟨o, 0, s.clk⟩) w6) (v := .tuple #[.agg #[.int .i64 o.kind, .int .i64 o.at_, .int .i32 o.char, .int .i64 o.rep, .int .i64 0, .int .i64 s.clk.c0, .int .i64 s.clk.c1, .int .i64 s.clk.c2, .int .i64 s.clk.c3, .int .i64 s.clk.c4, .int .i64 s.clk.c5, .int .i64 s.clk.c6, .int .i64 s.clk.c7], .nilIface]) (by simp [act13, noActn, noOpn, Clk.zero, results, Tryz.results28, go_sem, v0, v1, v2, v3, v4, v5, v6, v7, v8, v9, v10, v11, v12]) rfl ?_
     refine ⟨_, by rw [HP.out, if_pos rfl], .inl ⟨rfl, rfl⟩, ?_, hO.sets _ (Nat.le_succ _)⟩
     refine (hL6.keep (S := fun b => Fr Z (fun b => S b ∧ b < w.heap.size) b) (by rw [setsAt_size]; exact Nat.le_refl _) fun b hb hs => Same.sets (T := fun b => Fr Z (fun b => S b ∧ b < w.heap.size) b) _ (fun hh => ?_) b hs hb).more fun b hb => ?_
     · rcases hh with ⟨-, hh⟩ | hh
       · omega
       · have h2 : Z.heap.size ≤ w.heap.size + 1 := hh
         omega
     · rcases hb with hb | hb
       · exact .inl hb.1
       · have h2 : Z.heap.size ≤ b := hb
         exact .inr (by show w.heap.size ≤ b; omega)
   · have hn0 : n ≠ 0 := fun hn => by
      subst hn
      exact not_err0 _ _ hE
     have HN2 := hid (new_err ({ data := #[104, 105, 115, 116, 111, 114, 121] } : ByteArray) ({ data := #[73, 115, 115, 117, 101] } : ByteArray) o.at_ _ n v w6 hE)
     obtain ⟨tv, xv, rfl⟩ := hE.notNil
     obtain ⟨o0, o1, o2, o3⟩ := cl4 (w := w6) (g := w.heap.size) hox6; have ol := (hox6).lt
     repeat' (first | (go_at_call 51; go_must ((with_reducible refine Calls.mono HN2.out ?_); rintro _ w7 ⟨v, rfl, hE7, hb7⟩; have hz := hr6.step hb7; obtain ⟨zl, z0, z1, z2, z3, z4, z5, z6, z7, z8, z9, z10, z11, z12, f0, f1, f2, f3, f4, f5, f6, f7, f8, f9, f10, f11, f12⟩ := bl13 hz; dsimp only)) | go_step)
     have hz13 := hz.sets (act13 noActn)
     have v0 := hz13.cell 0
     have v1 := hz13.cell 1
     have v2 := hz13.cell 2
     have v3 := hz13.cell 3
     have v4 := hz13.cell 4
     have v5 := hz13.cell 5
     have v6 := hz13.cell 6
     have v7 := hz13.cell 7
     have v8 := hz13.cell 8
     have v9 := hz13.cell 9
     have v10 := hz13.cell 10
     have v11 := hz13.cell 11
     have v12 := hz13.cell 12
     simp [act13, noActn, noOpn, Clk.zero] at v0 v1 v2 v3 v4 v5 v6 v7 v8 v9 v10 v11 v12
     refine bodyPost_ret (w := setsAt (w.heap.size + 1) (act13 noActn) w7) (v := .tuple #[.agg #[.int .i64 0, .int .i64 0, .int .i32 0, .int .i64 0, .int .i64 0, .int .i64 0, .int .i64 0, .int .i64 0, .int .i64 0, .int .i64 0, .int .i64 0, .int .i64 0, .int .i64 0], v]) (by simp [act13, noActn, noOpn, Clk.zero, results, Tryz.results28, go_sem, v0, v1, v2, v3, v4, v5, v6, v7, v8, v9, v10, v11, v12]) rfl ?_
     have hO7 : Out S w w7 := hO.trans (Out.of_below (S := S) hb7) fun _ _ h => h
     have hw7 := hb7.size
     refine ⟨_, by rw [HP.out, if_neg hn0]; rfl, .inr ?_, ?_, hO7.sets _ (Nat.le_succ _)⟩
     · refine (hE7.keep (S := Fr w6 (Fr Z S')) (Same.sets _ fun hh => ?_)).more fun b _ hh => ?_
       · rcases hh with (hh | hh) | hh
         · have := hlow _ hh; omega
         · have h2 : Z.heap.size ≤ w.heap.size + 1 := hh
           omega
         · have h2 : w6.heap.size ≤ w.heap.size + 1 := hh
           omega
       · rcases hh with (hh | hh) | hh
         · exact .inl hh
         · have h2 : Z.heap.size ≤ b := hh
           exact .inr (by show w.heap.size ≤ b; omega)
         · have h2 : w6.heap.size ≤ b := hh
           exact .inr (by show w.heap.size ≤ b; omega)
     · refine ((hL6.step hb7).keep (S := fun b => Fr Z (fun b => S b ∧ b < w.heap.size) b) (by rw [setsAt_size]; exact Nat.le_refl _) fun b hb hs => Same.sets (T := fun b => Fr Z (fun b => S b ∧ b < w.heap.size) b) _ (fun hh => ?_) b hs hb).more fun b hb => ?_
       · rcases hh with ⟨-, hh⟩ | hh
         · omega
         · have h2 : Z.heap.size ≤ w.heap.size + 1 := hh
           omega
       · rcases hb with hb | hb
         · exact .inl hb.1
         · have h2 : Z.heap.size ≤ b := hb
           exact .inr (by show w.heap.size ≤ b; omega)
 · rw [hr] at HR
   obtain ⟨k, hk, hk8⟩ := rightOp_rep8 hr
   have hk' : (k : Int) < 8 := by omega
   obtain ⟨N, hN⟩ : ∃ N, N = s.clk.get k + 1 := ⟨_, rfl⟩
   have hyv : y = ⟨o, N, s.clk⟩ := by rw [Hy.out]; unfold Lg.actOf; rw [hr, hN, hk]; rfl
   clear Hy
   subst hyv
   dsimp only at HD
   have hox := HX.out.step eA
   have hc1 := Hck.out k hk8
   have hc2 := (Hclk.out k hk8).1
   have HN := hid hN
   obtain ⟨o0, o1, o2, o3⟩ := cl4 (w := Y) (g := w.heap.size) hox; have ol := (hox).lt
   clear hN
   have Hk := hid hk
   rw [hk] at HR o3
   clear hk
   repeat' (first | (go_at_call 64; go_must ((with_reducible refine Calls.mono (HR.out _) ?_); rintro _ Z0 ⟨rfl, hbR⟩; dsimp only)) | (with_reducible refine stop_region 3 ?_) | go_step)
   refine Stop.go ?_
   clear o0 o1 o2 o3 ol
   have hb0 := bvia eA hbR
   have D0 := (bvia hb0 (drew_below Z0))
   have hgk := (HG.out.step D0).g
   have g5k : Z0.drew.cell? ⟨gb, 5 + k, none⟩ = some (.int .i64 (s.clk.get k)) := (hgk.cell (5 + k)).trans (lgVals_clk _ _ _ _ _ _ _ _ _ _ hk8)
   have gl := hgk.lt
   have hox0 := HX.out.step D0
   have o3 : Z0.drew.cell? ⟨w.heap.size, 3, none⟩ = some (.int .i64 (k : Nat)) := by rw [← Hk.out]; exact hox0.cell 3
   have ol := hox0.lt
   have hab0 := (hab.step hbR).step (drew_below Z0)
   have a4 : Z0.drew.cell? ⟨X.heap.size, 4, none⟩ = some (.int .i64 0) := hab0.cell 4
   have af := hab0.frozen 4
   have al := hab0.lt
   have hN1 : s.clk.get k + 1 ≤ 9223372036854775807 := by omega
   have hN2 : -9223372036854775808 ≤ s.clk.get k + 1 := by omega
   repeat' (first | ((with_reducible refine region_at 3 ?_); refine wp_region_order (rgl [0,4,8,12,16,20,24,28,32,39]) (by kernel_rfl) (by kernel_rfl) (by kernel_rfl) rfl rfl ?_) | (with_reducible refine stop_region 4 ?_) | (with_reducible refine Keep.last ?_) | ((with_reducible refine WpH.here ?_); first | (refine WpH.nil ?_; refine NoP.normal ?_) | ((first | refine WpH.load (by rfl) (by rfl) (by go_simp; rfl) ?_ | refine WpH.pure (by rfl) (fun w_ => by go_simp; (try go_bits); rfl) ?_); go_frame) | (refine WpH.wild1 (by rfl) (fun _ _ => ?_))) | go_step)
   refine Stop.go ?_
   have hbZ0 : Below X.heap.size X (Z0.setCell ⟨X.heap.size, 4, none⟩ (.int .i64 (s.clk.get k + 1))).drew := (Below.setCell hb0 (Nat.le_refl _) _).drew
   have hab1 : Blk (Z0.setCell ⟨X.heap.size, 4, none⟩ (.int .i64 (s.clk.get k + 1))).drew X.heap.size 46 #[.int .i64 o.kind, .int .i64 o.at_, .int .i32 o.char, .int .i64 o.rep, .int .i64 N, .int .i64 s.clk.c0, .int .i64 s.clk.c1, .int .i64 s.clk.c2, .int .i64 s.clk.c3, .int .i64 s.clk.c4, .int .i64 s.clk.c5, .int .i64 s.clk.c6, .int .i64 s.clk.c7] := by
    rw [HN.out]
    exact ((hab.step hbR).set_ 4 (.int .i64 (s.clk.get k + 1))).drew
   have hnI : (s.name ⟨o, N, s.clk⟩).In := ⟨Hep.out, Hox.out.rep, ⟨by rw [HN.out]; exact hN2, by rw [HN.out]; exact hN1⟩⟩
   clear a4 af al o3 ol gl g5k hab0 hox0 hgk hb0 D0 hbR hab hox eA
   generalize (Z0.setCell ⟨X.heap.size, 4, none⟩ (.int .i64 (s.clk.get k + 1))).drew = Z at *
   have hbZ := hbZ0
   have hab := hab1
   clear hbZ0 hab1
   clear hN1 hN2 hc1 hc2 hk' hk8 HN
   have hox := HX.out.step hbZ
   obtain ⟨o0, o1, o2, o3⟩ := cl4 (w := Z) (g := w.heap.size) hox; have ol := (hox).lt
   obtain ⟨a0, a1, a2, a3, a4, a5, a6, a7, a8, a9, a10, a11, a12⟩ := cl13 (w := Z) (g := X.heap.size) hab; have al := (hab).lt
   have hwZ := (bvia e0 hbZ).size
   have hrZ := HB.out.step hbZ
   repeat' (first | (go_at_call 65; go_must ((with_reducible refine Calls.mono (HD.out _ hbZ hnI) ?_); rintro _ w6 ⟨v, rfl, hE, hL6, hO6⟩; dsimp only)) | (with_reducible refine stop_region 5 ?_) | go_step)
   refine Stop.go ?_
   clear o0 o1 o2 o3 ol
   clear a0 a1 a2 a3 a4 a5 a6 a7 a8 a9 a10 a11 a12 al
   have hox6 := hO6.blk hox (by rintro ⟨-, h⟩; omega)
   have hab6 := hO6.blk hab (by rintro ⟨-, h⟩; omega)
   have hr6 := hO6.blk hrZ (by rintro ⟨-, h⟩; omega)
   have hO : Out S w w6 := (Out.of_below (S := S) (bvia e0 hbZ)).trans hO6 fun _ _ h => h.1
   have hw6 := hO6.size
   have hzZ := hrZ.lt
   rcases hE with ⟨hc, rfl⟩ | hE
   · subst hc
     obtain ⟨a0, a1, a2, a3, a4, a5, a6, a7, a8, a9, a10, a11, a12⟩ := cl13 (w := w6) (g := X.heap.size) hab6; have al := (hab6).lt
     have hz := hr6; obtain ⟨zl, z0, z1, z2, z3, z4, z5, z6, z7, z8, z9, z10, z11, z12, f0, f1, f2, f3, f4, f5, f6, f7, f8, f9, f10, f11, f12⟩ := bl13 hz
     repeat' (first | go_step)
     have hz13 := hz.sets (act13 ⟨o, N, s.clk⟩)
     have v0 := hz13.cell 0
     have v1 := hz13.cell 1
     have v2 := hz13.cell 2
     have v3 := hz13.cell 3
     have v4 := hz13.cell 4
     have v5 := hz13.cell 5
     have v6 := hz13.cell 6
     have v7 := hz13.cell 7
     have v8 := hz13.cell 8
     have v9 := hz13.cell 9
     have v10 := hz13.cell 10
     have v11 := hz13.cell 11
     have v12 := hz13.cell 12
     simp [act13, noActn, noOpn, Clk.zero] at v0 v1 v2 v3 v4 v5 v6 v7 v8 v9 v10 v11 v12
     refine bodyPost_ret (w := setsAt (w.heap.size + 1) (act13 ⟨o, N, s.clk⟩) w6) (v := .tuple #[.agg #[.int .i64 o.kind, .int .i64 o.at_, .int .i32 o.char, .int .i64 o.rep, .int .i64 N, .int .i64 s.clk.c0, .int .i64 s.clk.c1, .int .i64 s.clk.c2, .int .i64 s.clk.c3, .int .i64 s.clk.c4, .int .i64 s.clk.c5, .int .i64 s.clk.c6, .int .i64 s.clk.c7], .nilIface]) (by simp [act13, noActn, noOpn, Clk.zero, results, Tryz.results28, go_sem, v0, v1, v2, v3, v4, v5, v6, v7, v8, v9, v10, v11, v12]) rfl ?_
     refine ⟨_, by rw [HP.out, if_pos rfl], .inl ⟨rfl, rfl⟩, ?_, hO.sets _ (Nat.le_succ _)⟩
     refine (hL6.keep (S := fun b => Fr Z (fun b => S b ∧ b < w.heap.size) b) (by rw [setsAt_size]; exact Nat.le_refl _) fun b hb hs => Same.sets (T := fun b => Fr Z (fun b => S b ∧ b < w.heap.size) b) _ (fun hh => ?_) b hs hb).more fun b hb => ?_
     · rcases hh with ⟨-, hh⟩ | hh
       · omega
       · have h2 : Z.heap.size ≤ w.heap.size + 1 := hh
         omega
     · rcases hb with hb | hb
       · exact .inl hb.1
       · have h2 : Z.heap.size ≤ b := hb
         exact .inr (by show w.heap.size ≤ b; omega)
   · have hn0 : n ≠ 0 := fun hn => by
      subst hn
      exact not_err0 _ _ hE
     have HN2 := hid (new_err ({ data := #[104, 105, 115, 116, 111, 114, 121] } : ByteArray) ({ data := #[73, 115, 115, 117, 101] } : ByteArray) o.at_ _ n v w6 hE)
     obtain ⟨tv, xv, rfl⟩ := hE.notNil
     obtain ⟨o0, o1, o2, o3⟩ := cl4 (w := w6) (g := w.heap.size) hox6; have ol := (hox6).lt
     repeat' (first | (go_at_call 51; go_must ((with_reducible refine Calls.mono HN2.out ?_); rintro _ w7 ⟨v, rfl, hE7, hb7⟩; have hz := hr6.step hb7; obtain ⟨zl, z0, z1, z2, z3, z4, z5, z6, z7, z8, z9, z10, z11, z12, f0, f1, f2, f3, f4, f5, f6, f7, f8, f9, f10, f11, f12⟩ := bl13 hz; dsimp only)) | go_step)
     have hz13 := hz.sets (act13 noActn)
     have v0 := hz13.cell 0
     have v1 := hz13.cell 1
     have v2 := hz13.cell 2
     have v3 := hz13.cell 3
     have v4 := hz13.cell 4
     have v5 := hz13.cell 5
     have v6 := hz13.cell 6
     have v7 := hz13.cell 7
     have v8 := hz13.cell 8
     have v9 := hz13.cell 9
     have v10 := hz13.cell 10
     have v11 := hz13.cell 11
     have v12 := hz13.cell 12
     simp [act13, noActn, noOpn, Clk.zero] at v0 v1 v2 v3 v4 v5 v6 v7 v8 v9 v10 v11 v12
     refine bodyPost_ret (w := setsAt (w.heap.size + 1) (act13 noActn) w7) (v := .tuple #[.agg #[.int .i64 0, .int .i64 0, .int .i32 0, .int .i64 0, .int .i64 0, .int .i64 0, .int .i64 0, .int .i64 0, .int .i64 0, .int .i64 0, .int .i64 0, .int .i64 0, .int .i64 0], v]) (by simp [act13, noActn, noOpn, Clk.zero, results, Tryz.results28, go_sem, v0, v1, v2, v3, v4, v5, v6, v7, v8, v9, v10, v11, v12]) rfl ?_
     have hO7 : Out S w w7 := hO.trans (Out.of_below (S := S) hb7) fun _ _ h => h
     have hw7 := hb7.size
     refine ⟨_, by rw [HP.out, if_neg hn0]; rfl, .inr ?_, ?_, hO7.sets _ (Nat.le_succ _)⟩
     · refine (hE7.keep (S := Fr w6 (Fr Z S')) (Same.sets _ fun hh => ?_)).more fun b _ hh => ?_
       · rcases hh with (hh | hh) | hh
         · have := hlow _ hh; omega
         · have h2 : Z.heap.size ≤ w.heap.size + 1 := hh
           omega
         · have h2 : w6.heap.size ≤ w.heap.size + 1 := hh
           omega
       · rcases hh with (hh | hh) | hh
         · exact .inl hh
         · have h2 : Z.heap.size ≤ b := hh
           exact .inr (by show w.heap.size ≤ b; omega)
         · have h2 : w6.heap.size ≤ b := hh
           exact .inr (by show w.heap.size ≤ b; omega)
     · refine ((hL6.step hb7).keep (S := fun b => Fr Z (fun b => S b ∧ b < w.heap.size) b) (by rw [setsAt_size]; exact Nat.le_refl _) fun b hb hs => Same.sets (T := fun b => Fr Z (fun b => S b ∧ b < w.heap.size) b) _ (fun hh => ?_) b hs hb).more fun b hb => ?_
       · rcases hh with ⟨-, hh⟩ | hh
         · omega
         · have h2 : Z.heap.size ≤ w.heap.size + 1 := hh
           omega
       · rcases hb with hb | hb
         · exact .inl hb.1
         · have h2 : Z.heap.size ≤ b := hb
           exact .inr (by show w.heap.size ≤ b; omega)
end Go.Proofs.YteggpddlkkjmjaaGreatDoor
namespace Go.Proofs.YteggpddlkkjmjaaGreatDoor
open Go Go.RowKit
variable {a : Nat → Addr}
structure Past (lo hi : Nat) (w1 W : World) : Prop where
 os : W.os = w1.os
 tape : W.tape = w1.tape
 output : W.output = w1.output
 size : w1.heap.size ≤ W.heap.size
 block : ∀ b, b < w1.heap.size → ¬ (lo ≤ b ∧ b < hi) → W.heap[b]? = w1.heap[b]?
section
variable {lo hi : Nat} {w1 W : World}
theorem Past.refl (lo hi : Nat) (w : World) : Past lo hi w w := ⟨rfl, rfl, rfl, Nat.le_refl _, fun _ _ _ => rfl⟩
theorem Past.alloc (h : Past lo hi w1 W) (o : Obj) : Past lo hi w1 (W.alloc o) :=
 ⟨h.os, h.tape, h.output, by rw [show (W.alloc o).heap.size = W.heap.size + 1 from Array.size_push _]; exact Nat.le_succ_of_le h.size, fun b hb hn => (Below.heap_alloc _ _ _ (Nat.lt_of_lt_of_le hb h.size)).trans (h.block b hb hn)⟩
theorem Past.sets (h : Past lo hi w1 W) {g : Nat} (hg : lo ≤ g ∧ g < hi) (l : List (Nat × Value)) : Past lo hi w1 (setsAt g l W) := by
 obtain ⟨e1, e2, e3⟩ := setsAt_os (b := g) l W
 exact ⟨e1.trans h.os, e2.trans h.tape, e3.trans h.output, by rw [setsAt_size]; exact h.size, fun b hb hn => (setsAt_heap l W (show b ≠ g from fun e => hn (e.symm ▸ hg))).trans (h.block b hb hn)⟩
theorem Past.same (h : Past lo hi w1 W) {T : Nat → Prop} (hT : ∀ b, T b → ¬ (lo ≤ b ∧ b < hi)) : Same T w1 W := fun b hb hl => h.block b hl (hT b hb)
theorem Past.noAns (h : Past lo hi w1 W) {ch : List Lk} {code : Nat} {v : Value} (hE : NoAns w1 (fun b => hi ≤ b) ch code v) (hh : lo ≤ hi) : NoAns W (fun b => lo ≤ b) ch code v :=
 (hE.keep h.size (h.same fun b hb => by omega)).more fun b _ hb => Nat.le_trans hh hb
theorem Past.errAns (h : Past lo hi w1 W) {V Z : World} (hV : V.heap.size = hi) (hZ : Z.heap.size ≤ lo) (hh : lo ≤ hi) {S' : Nat → Prop} (hS : ∀ b, S' b → b < lo) {ch : List Lk} {code : Nat} {v : Value} (hE : ErrAns w1 (Fr V S') a ch code v) : ErrAns W (Fr Z S') a ch code v :=
 (hE.imp id (IsErr.keep (h.same fun b hb => by
  rcases hb with hb | hb
  · have := hS b hb; omega
  · have h2 : V.heap.size ≤ b := hb; omega))).imp id (IsErr.more fun b _ hb => hb.imp id fun hb => by have h2 : V.heap.size ≤ b := hb; show Z.heap.size ≤ b; omega)
theorem Past.log (h : Past lo hi w1 W) {V Z : World} (hV : V.heap.size = hi) (hZ : Z.heap.size ≤ lo) (hh : lo ≤ hi) {S : Nat → Prop} (hS : ∀ b, S b → b < lo) {gb K : Nat} {s : Lg} (hL : LogAt w1 (Fr V S) gb s K) : LogAt W (Fr Z S) gb s K :=
 (hL.keep h.size fun b hb hs => h.block b hb (by
  rcases hs with hs | hs
  · have := hS b hs; omega
  · have h2 : V.heap.size ≤ b := hs; omega)).more fun b hb => hb.imp id fun hb => by have h2 : V.heap.size ≤ b := hb; show Z.heap.size ≤ b; omega
theorem Past.rlog (h : Past lo hi w1 W) {V Z : World} (hV : V.heap.size = hi) (hZ : Z.heap.size ≤ lo) (hh : lo ≤ hi) {S : Nat → Prop} (hS : ∀ b, S b → b < lo) {rb : Nat} {s : Lg} (hL : RLogAt w1 (Fr V S) rb s) : RLogAt W (Fr Z S) rb s :=
 (hL.keep h.size fun b hb hs => h.block b hb (by
  rcases hs with hs | hs
  · have := hS b hs; omega
  · have h2 : V.heap.size ≤ b := hs; omega)).more fun b hb => hb.imp id fun hb => by have h2 : V.heap.size ≤ b := hb; show Z.heap.size ≤ b; omega
theorem Past.out (h : Past lo hi w1 W) {V Z : World} {S : Nat → Prop} (hZ : Z.heap.size ≤ lo) (hb : Below Z.heap.size Z V) (hO : Out S V w1) : Out S Z W :=
 ⟨h.os.trans (hO.os.trans hb.os), h.tape.trans (hO.tape.trans hb.tape), h.output.trans (hO.output.trans hb.output), Nat.le_trans hb.size (Nat.le_trans hO.size h.size), fun k hk hn =>
  (h.block k (Nat.lt_of_lt_of_le hk (Nat.le_trans hb.size hO.size)) (by omega)).trans ((hO.block k (Nat.lt_of_lt_of_le hk hb.size) hn).trans (hb.block k hk))⟩
end
theorem Blk.setsO {W : World} {g b : Nat} {t : TypeId} {cs : Array Value} (h : Blk W g t cs) (hne : g ≠ b) (l : List (Nat × Value)) : Blk (setsAt b l W) g t cs := (setsAt_heap l W hne).trans h
theorem newS8 (W : World) (b : Nat) (l : List (Nat × Value)) (t : TypeId) (cs : Array Value) : Blk ((setsAt b l W).alloc (.cells cs t)) W.heap.size t cs := by
 have := Blk.new (setsAt b l W) t cs
 rwa [setsAt_size] at this
theorem sz1 (W : World) (o : Obj) : (W.alloc o).drew.heap.size = W.heap.size + 1 := Array.size_push _
theorem sz2 (W : World) (o o' : Obj) : ((W.alloc o).alloc o').drew.heap.size = W.heap.size + 2 := by show Array.size ((Array.push _ _).push _) = _; simp
theorem bw0 (W : World) : Below W.heap.size W W.drew := bdrew (Below.refl _ _)
theorem bw1 (W : World) (o : Obj) : Below W.heap.size W (W.alloc o).drew := bdrew (balloc (Below.refl _ _))
theorem bw2 (W : World) (o o' : Obj) : Below W.heap.size W ((W.alloc o).alloc o').drew := bdrew (balloc (balloc (Below.refl _ _)))
structure Box1 (W V w1 Z : World) (i : Nat) (t : TypeId) (cs : Array Value) : Prop where
 b : Blk Z i t cs
 g : W.heap.size ≤ i
 p : Past W.heap.size V.heap.size w1 Z
 v : Below W.heap.size W V
structure Box2 (W V w1 Z : World) (i : Nat) (t : TypeId) (cs : Array Value) (j : Nat) (u : TypeId) (ds : Array Value) : Prop where
 b : Blk Z i t cs
 c : Blk Z j u ds
 g : W.heap.size ≤ i
 k : W.heap.size ≤ j
 ne : i ≠ j
 p : Past W.heap.size V.heap.size w1 Z
 v : Below W.heap.size W V
section
variable {W w1 : World} {S : Nat → Prop} {t u : TypeId} {cs ds z y : Array Value} {l m : List (Nat × Value)}
theorem box_c (hO : Out S W.drew w1) : Box1 W W.drew w1 (w1.alloc (.cells cs t)) w1.heap.size t cs :=
 ⟨Blk.new _ _ _, hO.size, (Past.refl _ _ _).alloc _, bw0 W⟩
theorem box_a (hO : Out S (W.alloc (.cells z t)).drew w1) (hn : ¬ S W.heap.size) (hl : l.foldl (fun c p => c.setIfInBounds p.1 p.2) z = cs) : Box1 W (W.alloc (.cells z t)).drew w1 (setsAt W.heap.size l w1) W.heap.size t cs :=
 ⟨hl ▸ (hO.blk (Blk.new W t z).drew hn).sets l, Nat.le_refl _, (Past.refl _ _ _).sets ⟨Nat.le_refl _, by rw [sz1]; exact Nat.lt_succ_self _⟩ l, bw1 W _⟩
theorem box_c12 (hO : Out S W.drew w1) : Box2 W W.drew w1 ((w1.alloc (.cells cs t)).alloc (.cells ds u)) w1.heap.size t cs (w1.heap.size + 1) u ds :=
 ⟨(twoBoxes w1 t u cs ds).1, (twoBoxes w1 t u cs ds).2.1, hO.size, Nat.le_succ_of_le hO.size, by omega, ((Past.refl _ _ _).alloc _).alloc _, bw0 W⟩
theorem box_c21 (hO : Out S W.drew w1) : Box2 W W.drew w1 ((w1.alloc (.cells ds u)).alloc (.cells cs t)) (w1.heap.size + 1) t cs w1.heap.size u ds :=
 ⟨(twoBoxes w1 u t ds cs).2.1, (twoBoxes w1 u t ds cs).1, Nat.le_succ_of_le hO.size, hO.size, by omega, ((Past.refl _ _ _).alloc _).alloc _, bw0 W⟩
theorem box_1c2 (hO : Out S (W.alloc (.cells z t)).drew w1) (hn : ¬ S W.heap.size) (hl : l.foldl (fun c p => c.setIfInBounds p.1 p.2) z = cs) : Box2 W (W.alloc (.cells z t)).drew w1 ((setsAt W.heap.size l w1).alloc (.cells ds u)) W.heap.size t cs w1.heap.size u ds := by
 have hs := hO.size
 rw [sz1] at hs
 exact ⟨(hl ▸ (hO.blk (Blk.new W t z).drew hn).sets l : Blk _ _ _ _).alloc _, newS8 _ _ _ _ _, Nat.le_refl _, by omega, by omega, ((Past.refl _ _ _).sets ⟨Nat.le_refl _, by rw [sz1]; exact Nat.lt_succ_self _⟩ l).alloc _, bw1 W _⟩
theorem box_2c1 (hO : Out S (W.alloc (.cells y u)).drew w1) (hn : ¬ S W.heap.size) (hm : m.foldl (fun c p => c.setIfInBounds p.1 p.2) y = ds) : Box2 W (W.alloc (.cells y u)).drew w1 ((setsAt W.heap.size m w1).alloc (.cells cs t)) w1.heap.size t cs W.heap.size u ds := by
 have h := box_1c2 (cs := ds) (ds := cs) (t := u) (u := t) hO hn hm
 exact ⟨h.c, h.b, h.k, h.g, h.ne.symm, h.p, h.v⟩
theorem box_12c (hO : Out S ((W.alloc (.cells z t)).alloc (.cells y u)).drew w1) (hn : ¬ S W.heap.size) (hn' : ¬ S (W.heap.size + 1)) (hl : l.foldl (fun c p => c.setIfInBounds p.1 p.2) z = cs) (hm : m.foldl (fun c p => c.setIfInBounds p.1 p.2) y = ds) :
 Box2 W ((W.alloc (.cells z t)).alloc (.cells y u)).drew w1 (setsAt (W.heap.size + 1) m (setsAt W.heap.size l w1)) W.heap.size t cs (W.heap.size + 1) u ds := by
 have h1 := hO.blk (twoBoxes W t u z y).1.drew hn
 have h2 := hO.blk (twoBoxes W t u z y).2.1.drew hn'
 refine ⟨(hl ▸ h1.sets l : Blk _ _ _ _).setsO (by omega) m, hm ▸ (h2.setsO (by omega) l).sets m, Nat.le_refl _, Nat.le_succ _, by omega, ((Past.refl _ _ _).sets ?_ l).sets ?_ m, bw2 W _ _⟩ <;> rw [sz2] <;> omega
theorem box_21c (hO : Out S ((W.alloc (.cells y u)).alloc (.cells z t)).drew w1) (hn : ¬ S W.heap.size) (hn' : ¬ S (W.heap.size + 1)) (hl : l.foldl (fun c p => c.setIfInBounds p.1 p.2) z = cs) (hm : m.foldl (fun c p => c.setIfInBounds p.1 p.2) y = ds) :
 Box2 W ((W.alloc (.cells y u)).alloc (.cells z t)).drew w1 (setsAt W.heap.size m (setsAt (W.heap.size + 1) l w1)) (W.heap.size + 1) t cs W.heap.size u ds := by
 have h1 := hO.blk (twoBoxes W u t y z).1.drew hn
 have h2 := hO.blk (twoBoxes W u t y z).2.1.drew hn'
 refine ⟨(hl ▸ h2.sets l : Blk _ _ _ _).setsO (by omega) m, hm ▸ (h1.setsO (by omega) l).sets m, Nat.le_succ _, Nat.le_refl _, by omega, ((Past.refl _ _ _).sets ?_ l).sets ?_ m, bw2 W _ _⟩ <;> rw [sz2] <;> omega
end
section
variable {W V w1 : World} {t u : TypeId} {cs ds z y : Array Value} {l m : List (Nat × Value)} {g k : Nat}
theorem box2_00 (hV : Below W.heap.size W V) (hb : Below V.heap.size V w1) : Box2 W V w1 ((w1.alloc (.cells cs t)).alloc (.cells ds u)) w1.heap.size t cs (w1.heap.size + 1) u ds ∧ Box2 W V w1 ((w1.alloc (.cells ds u)).alloc (.cells cs t)) (w1.heap.size + 1) t cs w1.heap.size u ds := by
 have h := Nat.le_trans hV.size hb.size
 exact ⟨⟨(twoBoxes w1 t u cs ds).1, (twoBoxes w1 t u cs ds).2.1, h, Nat.le_succ_of_le h, by omega, ((Past.refl _ _ _).alloc _).alloc _, hV⟩,
  ⟨(twoBoxes w1 u t ds cs).2.1, (twoBoxes w1 u t ds cs).1, Nat.le_succ_of_le h, h, by omega, ((Past.refl _ _ _).alloc _).alloc _, hV⟩⟩
theorem box2_10 (hV : Below W.heap.size W V) (hb : Below V.heap.size V w1) (hA : Blk V g t z ∧ W.heap.size ≤ g) (hl : l.foldl (fun c p => c.setIfInBounds p.1 p.2) z = cs) : Box2 W V w1 ((setsAt g l w1).alloc (.cells ds u)) g t cs w1.heap.size u ds := by
 have h1 := hA.1.step hb
 have h2 := hA.1.lt
 have h3 := hb.size
 have h4 := hA.2
 exact ⟨(hl ▸ h1.sets l : Blk _ _ _ _).alloc _, newS8 _ _ _ _ _, h4, by omega, by omega, ((Past.refl _ _ _).sets ⟨h4, h2⟩ l).alloc _, hV⟩
theorem box2_01 (hV : Below W.heap.size W V) (hb : Below V.heap.size V w1) (hB : Blk V k u y ∧ W.heap.size ≤ k) (hm : m.foldl (fun c p => c.setIfInBounds p.1 p.2) y = ds) : Box2 W V w1 ((setsAt k m w1).alloc (.cells cs t)) w1.heap.size t cs k u ds := by
 have h := box2_10 (cs := ds) (ds := cs) (t := u) (u := t) hV hb hB hm
 exact ⟨h.c, h.b, h.k, h.g, h.ne.symm, h.p, h.v⟩
theorem box2_11 (hV : Below W.heap.size W V) (hb : Below V.heap.size V w1) (hA : Blk V g t z ∧ W.heap.size ≤ g) (hB : Blk V k u y ∧ W.heap.size ≤ k) (hne : g ≠ k) (hl : l.foldl (fun c p => c.setIfInBounds p.1 p.2) z = cs) (hm : m.foldl (fun c p => c.setIfInBounds p.1 p.2) y = ds) :
 Box2 W V w1 (setsAt k m (setsAt g l w1)) g t cs k u ds :=
 ⟨(hl ▸ (hA.1.step hb).sets l : Blk _ _ _ _).setsO hne m, hm ▸ ((hB.1.step hb).setsO hne.symm l).sets m, hA.2, hB.2, hne, ((Past.refl _ _ _).sets ⟨hA.2, hA.1.lt⟩ l).sets ⟨hB.2, hB.1.lt⟩ m, hV⟩
theorem mk8 (W V : World) (t : TypeId) (z : Array Value) (hV : W.heap.size ≤ V.heap.size) : Blk (V.alloc (.cells z t)).drew V.heap.size t z ∧ W.heap.size ≤ V.heap.size := ⟨(Blk.new V t z).drew, hV⟩
end
end Go.Proofs.YteggpddlkkjmjaaGreatDoor
namespace Go.Proofs.YteggpddlkkjmjaaGreatDoor
open Go Go.RowKit
variable {a : Nat → Addr}
def SiteAt (w : World) (base : Nat) (S : Nat → Prop) (sb : Nat) (s : Lg) (K : Nat) : Prop :=
 ∃ gb rb S1 S2, Blk w sb 33 #[.pointer (some ⟨gb, 0, none⟩), .pointer (some ⟨rb, 0, none⟩)] ∧ LogAt w S1 gb s K ∧ RLogAt w S2 rb s ∧
  (∀ b, S1 b → S b ∧ ¬ S2 b ∧ b ≠ sb) ∧ (∀ b, S2 b → S b ∧ b ≠ sb) ∧ S sb ∧ ∀ b, S b → base ≤ b ∧ b < w.heap.size
theorem SiteAt.keep {w w' : World} {base sb K : Nat} {S : Nat → Prop} {s : Lg} (h : SiteAt w base S sb s K) (hz : w.heap.size ≤ w'.heap.size) (hk : ∀ b, S b → w'.heap[b]? = w.heap[b]?) : SiteAt w' base S sb s K := by
 obtain ⟨gb, rb, S1, S2, h1, h2, h3, h4, h5, h6, h7⟩ := h
 exact ⟨gb, rb, S1, S2, (hk sb h6).trans h1, h2.keep hz fun b _ hb => hk b (h4 b hb).1, h3.keep hz fun b _ hb => hk b (h5 b hb).1, h4, h5, h6, fun b hb => ⟨(h7 b hb).1, Nat.lt_of_lt_of_le (h7 b hb).2 hz⟩⟩
theorem SiteAt.step {w w' : World} {base sb K : Nat} {S : Nat → Prop} {s : Lg} (h : SiteAt w base S sb s K) (hb : Below w.heap.size w w') : SiteAt w' base S sb s K := by
 obtain ⟨gb, rb, S1, S2, h1, h2, h3, h4, h5, h6, h7⟩ := h
 exact ⟨gb, rb, S1, S2, h1.step hb, h2.step hb, h3.step hb, h4, h5, h6, fun b hs => ⟨(h7 b hs).1, Nat.lt_of_lt_of_le (h7 b hs).2 hb.size⟩⟩
theorem SiteAt.more {w : World} {base sb K : Nat} {S S' : Nat → Prop} {s : Lg} (h : SiteAt w base S sb s K) (hs : ∀ b, S b → S' b) (h' : ∀ b, S' b → base ≤ b ∧ b < w.heap.size) : SiteAt w base S' sb s K := by
 obtain ⟨gb, rb, S1, S2, h1, h2, h3, h4, h5, h6, h7⟩ := h
 exact ⟨gb, rb, S1, S2, h1, h2, h3, fun b hb => ⟨hs b (h4 b hb).1, (h4 b hb).2⟩, fun b hb => ⟨hs b (h5 b hb).1, (h5 b hb).2⟩, hs _ h6, h'⟩
theorem SiteAt.monoK {w : World} {base sb K K' : Nat} {S : Nat → Prop} {s : Lg} (h : SiteAt w base S sb s K) (hk : K ≤ K') : SiteAt w base S sb s K' := by
 obtain ⟨gb, rb, S1, S2, h1, h2, h3, h⟩ := h
 exact ⟨gb, rb, S1, S2, h1, h2.monoK hk, h3, h⟩
theorem act13_cells (cs : Array Value) (P : Actn) (h : cs.size = 13) : (act13 P).foldl (fun c p => c.setIfInBounds p.1 p.2) cs = #[.int .i64 P.op.kind, .int .i64 P.op.at_, .int .i32 P.op.char, .int .i64 P.op.rep, .int .i64 P.num, .int .i64 P.clk.c0, .int .i64 P.clk.c1, .int .i64 P.clk.c2, .int .i64 P.clk.c3, .int .i64 P.clk.c4, .int .i64 P.clk.c5, .int .i64 P.clk.c6, .int .i64 P.clk.c7] := by
 obtain ⟨l⟩ := cs
 have h : l.length = 13 := h
 match l, h with
 | [x0, x1, x2, x3, x4, x5, x6, x7, x8, x9, x10, x11, x12], _ => 
  unfold act13
  simp only [List.foldl_cons, List.foldl_nil, List.setIfInBounds_toArray, List.set_cons_zero, List.set_cons_succ]
theorem sets13 (b : Nat) (P : Actn) (W : World) : (((((((((((((W.setCell ⟨b, 0, none⟩ (.int .i64 P.op.kind)).setCell ⟨b, 1, none⟩ (.int .i64 P.op.at_)).setCell ⟨b, 2, none⟩ (.int .i32 P.op.char)).setCell ⟨b, 3, none⟩ (.int .i64 P.op.rep)).setCell ⟨b, 4, none⟩ (.int .i64 P.num)).setCell ⟨b, 5, none⟩ (.int .i64 P.clk.c0)).setCell ⟨b, 6, none⟩ (.int .i64 P.clk.c1)).setCell ⟨b, 7, none⟩ (.int .i64 P.clk.c2)).setCell ⟨b, 8, none⟩ (.int .i64 P.clk.c3)).setCell ⟨b, 9, none⟩ (.int .i64 P.clk.c4)).setCell ⟨b, 10, none⟩ (.int .i64 P.clk.c5)).setCell ⟨b, 11, none⟩ (.int .i64 P.clk.c6)).setCell ⟨b, 12, none⟩ (.int .i64 P.clk.c7)) = setsAt b (act13 P) W := rfl
theorem KeepT.sets13 (w : World) (b : Nat) (P : Actn) : KeepT (fun k => k ≠ b) w (((((((((((((w.setCell ⟨b, 0, none⟩ (.int .i64 P.op.kind)).setCell ⟨b, 1, none⟩ (.int .i64 P.op.at_)).setCell ⟨b, 2, none⟩ (.int .i32 P.op.char)).setCell ⟨b, 3, none⟩ (.int .i64 P.op.rep)).setCell ⟨b, 4, none⟩ (.int .i64 P.num)).setCell ⟨b, 5, none⟩ (.int .i64 P.clk.c0)).setCell ⟨b, 6, none⟩ (.int .i64 P.clk.c1)).setCell ⟨b, 7, none⟩ (.int .i64 P.clk.c2)).setCell ⟨b, 8, none⟩ (.int .i64 P.clk.c3)).setCell ⟨b, 9, none⟩ (.int .i64 P.clk.c4)).setCell ⟨b, 10, none⟩ (.int .i64 P.clk.c5)).setCell ⟨b, 11, none⟩ (.int .i64 P.clk.c6)).setCell ⟨b, 12, none⟩ (.int .i64 P.clk.c7)) := ⟨Nat.le_of_eq (setsAt_size (act13 P) w).symm, fun k _ hk => setsAt_heap (act13 P) w hk⟩
theorem sets3 (b : Nat) (x y z : Value) (W : World) : ((W.setCell ⟨b, 0, none⟩ x).setCell ⟨b, 1, none⟩ y).setCell ⟨b, 2, none⟩ z = setsAt b (no3 x y z) W := rfl
theorem no3_cells (u0 u1 u2 x y z : Value) : (no3 x y z).foldl (fun c p => c.setIfInBounds p.1 p.2) #[u0, u1, u2] = #[x, y, z] := by
 unfold no3
 simp only [List.foldl_cons, List.foldl_nil, List.setIfInBounds_toArray, List.set_cons_zero, List.set_cons_succ]
theorem issueCh_len (s : Lg) (o : Opn) : (s.issueCh o).length ≤ 1073741824 := by
 unfold Lg.issueCh
 rw [List.length_cons]
 have h : (chOf o (s.issueCode o)).length ≤ 2 := by unfold chOf; split <;> simp
 omega
theorem blk13 {W : World} {b : Nat} {t : TypeId} {cs : Array Value} (h : Blk W b t cs) (hs : cs.size = 13) (P : Actn) : Blk (setsAt b (act13 P) W) b t #[.int .i64 P.op.kind, .int .i64 P.op.at_, .int .i32 P.op.char, .int .i64 P.op.rep, .int .i64 P.num, .int .i64 P.clk.c0, .int .i64 P.clk.c1, .int .i64 P.clk.c2, .int .i64 P.clk.c3, .int .i64 P.clk.c4, .int .i64 P.clk.c5, .int .i64 P.clk.c6, .int .i64 P.clk.c7] := by
 have := h.sets (act13 P)
 rwa [act13_cells cs P hs] at this
theorem site_end {w X W W2 w5 : World} {base sb gb rb K c : Nat} {S S1 S2 : Nat → Prop} {s2 : Lg} (he : Below w.heap.size w X) (hc : w.heap.size + 1 + 1 ≤ X.heap.size) (hO1 : Out S1 X W) (hO2 : Out S2 W W2) (hb : Below W2.heap.size W2 w5) (l : List (Nat × Value)) (hcl : w.heap.size ≤ c ∧ c < X.heap.size)
 (h4 : ∀ b, S1 b → S b ∧ ¬ S2 b ∧ b ≠ sb) (h5 : ∀ b, S2 b → S b ∧ b ≠ sb) (h6 : S sb) (h7 : ∀ b, S b → base ≤ b ∧ b < w.heap.size) (hsb : Blk X sb 33 #[.pointer (some ⟨gb, 0, none⟩), .pointer (some ⟨rb, 0, none⟩)])
 (hL : LogAt W2 (fun b => Fr X S1 b ∧ b < W.heap.size) gb s2 K) (hR : RLogAt W2 (fun b => Fr W S2 b ∧ b < W2.heap.size) rb s2) :
 SiteAt (setsAt c l w5) base (fun b => Fr w S b ∧ b < (setsAt c l w5).heap.size) sb s2 K ∧ Out S w (setsAt c l w5) := by
 have z1 := he.size
 have z2 := hO1.size
 have z3 := hO2.size
 have z4 := hb.size
 have zl : (setsAt c l w5).heap.size = w5.heap.size := setsAt_size l w5
 have s1 : ∀ b, S1 b → b < w.heap.size := fun b h => (h7 b (h4 b h).1).2
 have s2' : ∀ b, S2 b → b < w.heap.size := fun b h => (h7 b (h5 b h).1).2
 have hz : W2.heap.size ≤ (setsAt c l w5).heap.size := by rw [zl]; exact z4
 have hk : ∀ b, b < W2.heap.size → b ≠ c → (setsAt c l w5).heap[b]? = W2.heap[b]? := fun b hb' hn => (setsAt_heap l w5 hn).trans (hb.block b hb')
 have hsl := (h7 sb h6).2
 have n1 : ¬ S1 sb := fun h => (h4 sb h).2.2 rfl
 have n2 : ¬ S2 sb := fun h => (h5 sb h).2 rfl
 refine ⟨⟨gb, rb, fun b => Fr X S1 b ∧ b < W.heap.size, fun b => Fr W S2 b ∧ b < W2.heap.size, ?_, ?_, ?_, ?_, ?_, ?_, ?_⟩, ?_⟩
 · exact (hk sb (by omega) (by omega)).trans ((hO2.block sb (by omega) n2).trans ((hO1.block sb (by omega) n1).trans hsb))
 · refine hL.keep hz fun b hb' hs => hk b hb' ?_
   rcases hs.1 with h | h
   · have := s1 b h; omega
   · have h2 : X.heap.size ≤ b := h; omega
 · refine hR.keep hz fun b hb' hs => hk b hb' ?_
   rcases hs.1 with h | h
   · have := s2' b h; omega
   · have h2 : W.heap.size ≤ b := h; omega
 · rintro b ⟨h, hl⟩
   rcases h with h | h
   · have := s1 b h
     refine ⟨⟨.inl (h4 b h).1, by omega⟩, ?_, (h4 b h).2.2⟩
     rintro ⟨h' | h', -⟩
     · exact (h4 b h).2.1 h'
     · have h2 : W.heap.size ≤ b := h'; omega
   · have h2 : X.heap.size ≤ b := h
     refine ⟨⟨.inr (by show w.heap.size ≤ b; omega), by omega⟩, ?_, by omega⟩
     rintro ⟨h' | h', -⟩
     · have := s2' b h'; omega
     · have h3 : W.heap.size ≤ b := h'; omega
 · rintro b ⟨h, hl⟩
   rcases h with h | h
   · have := s2' b h
     exact ⟨⟨.inl (h5 b h).1, by omega⟩, (h5 b h).2⟩
   · have h2 : W.heap.size ≤ b := h
     exact ⟨⟨.inr (by show w.heap.size ≤ b; omega), by omega⟩, by omega⟩
 · exact ⟨.inl h6, by omega⟩
 · rintro b ⟨h, hl⟩
   refine ⟨?_, hl⟩
   rcases h with h | h
   · exact (h7 b h).1
   · have h2 : w.heap.size ≤ b := h
     have := (h7 sb h6).1
     omega
 · obtain ⟨e1, e2, e3⟩ := setsAt_os (b := c) l w5
   refine ⟨?_, ?_, ?_, by omega, fun k hk' hn => ?_⟩
   · exact e1.trans (hb.os.trans (hO2.os.trans (hO1.os.trans he.os)))
   · exact e2.trans (hb.tape.trans (hO2.tape.trans (hO1.tape.trans he.tape)))
   · exact e3.trans (hb.output.trans (hO2.output.trans (hO1.output.trans he.output)))
   · exact (hk k (by omega) (by omega)).trans ((hO2.block k (by omega) fun h => hn (h5 k h).1).trans ((hO1.block k (by omega) fun h => hn (h4 k h).1).trans (he.block k hk')))
theorem issue_from (w : World) (gb K : Nat) (S S' : Nat → Prop) (s : Lg) (o : Opn) (h : LogAt w S gb s K) (hf : s.Fine K) (hx : o.In) (hck : ∀ k, k < 8 → s.clk.get k ≤ 2097152) (hs : Sents w S' a) (hlow : ∀ b, S' b → b < w.heap.size) :
 ∀ W, Below w.heap.size w W → Calls Tryz.prog 28 #[.pointer (some ⟨gb, 0, none⟩), o.agg] W fun e w' => ∃ v, e = .returned (.tuple #[(s.issued o).agg, v]) ∧ ErrAns w' (Fr W S') a (s.issueCh o) (s.issueCode o) v ∧ LogAt w' (Fr W S) gb (s.issueOf o) (K + 1) ∧ Out S W w' :=
 fun W hb => issue_step (a := a) W gb K S S' s o (h.step hb) hf hx hck (hs.step hb) fun b hb' => Nat.lt_of_lt_of_le (hlow b hb') hb.size
theorem rissue_from (w : World) (rb K : Nat) (S : Nat → Prop) (s : Lg) (o : Opn) (h : RLogAt w S rb s) (hf : s.Fine K) (hx : o.In) (hck : ∀ k, k < 8 → s.clk.get k ≤ 2097152) :
 ∀ W, Below w.heap.size w W → Calls Tryz.prog 75 #[.pointer (some ⟨rb, 0, none⟩), o.agg] W fun e w' => ∃ v, e = .returned (.tuple #[(s.issued o).agg, v]) ∧ NoAns w' (fun b => W.heap.size ≤ b) (s.issueCh o) (s.issueCode o) v ∧ RLogAt w' (Fr W S) rb (s.issueOf o) ∧ Out S W w' :=
 fun W hb => rissue_step W rb K S s o (h.step hb) hf hx hck
theorem site_issue (w : World) (base sb K : Nat) (S S' : Nat → Prop) (s : Lg) (o : Opn) (h : SiteAt w base S sb s K) (hf : s.Fine K) (ho : o.In) (hck : ∀ k, k < 8 → s.clk.get k ≤ 2097152) (hs : Sents w S' a) (hlow : ∀ b, S' b → b < base) :
 Calls Tryz.prog 36 #[.pointer (some ⟨sb, 0, none⟩), o.agg] w fun e w' => e = .returned (.tuple #[(s.issued o).agg, .bool true]) ∧ SiteAt w' base (fun b => Fr w S b ∧ b < w'.heap.size) sb (s.issueOf o) (K + 1) ∧ Out S w w' := by
 obtain ⟨gb, rb, S1, S2, hsb, hg, hr, h4, h5, h6, h7⟩ := h
 obtain ⟨hX, hB, e0⟩ := twoBoxes w 37 46 #[.int .i64 o.kind, .int .i64 o.at_, .int .i32 o.char, .int .i64 o.rep] #[.int .i64 0, .int .i64 0, .int .i32 0, .int .i64 0, .int .i64 0, .int .i64 0, .int .i64 0, .int .i64 0, .int .i64 0, .int .i64 0, .int .i64 0, .int .i64 0, .int .i64 0]
 obtain ⟨P, hP⟩ : ∃ P, P = s.issued o := ⟨_, rfl⟩
 obtain ⟨s2, hs2⟩ : ∃ s2, s2 = s.issueOf o := ⟨_, rfl⟩
 have HI := issue_from (a := a) w gb K S1 S' s o hg hf ho hck hs fun b hb' => by have := hlow b hb'; have := (h7 _ h6); omega
 rw [← hP, ← hs2] at HI
 rw [← hP, ← hs2]
 have HI := hid HI
 have HP := hid hP
 have Hs2 := hid hs2
 have Hf := hid hf
 have Ho := hid ho
 have Hck := hid hck
 have HX := hid hX
 have HB := hid hB
 have Hsb := hid (hsb.step e0)
 have hbl := (h7 _ h6).1
 have hsl := (h7 _ h6).2
 have H4 := hid h4
 have H5 := hid h5
 have H6 := hid h6
 have H7 := hid h7
 have Hr := hid hr
 have HlowS := hid hlow
 have HS := hid hs
 clear hg hr h4 h5 h6 h7 hsb hlow hs hX hB hf ho hck
 clear hP hs2
 simp only [Actn.agg, Opn.agg] at *
 unfold Actn.vals at *
 go_enter Tryz.func36, Tryz.ntmps36
 repeat' (first | (with_reducible refine stop_region 1 ?_) | go_step)
 refine Stop.go ?_
 have He := hid e0
 have HXs := hid (show ((w.alloc (.cells #[.int .i64 o.kind, .int .i64 o.at_, .int .i32 o.char, .int .i64 o.rep] 37)).alloc (.cells #[.int .i64 0, .int .i64 0, .int .i32 0, .int .i64 0, .int .i64 0, .int .i64 0, .int .i64 0, .int .i64 0, .int .i64 0, .int .i64 0, .int .i64 0, .int .i64 0, .int .i64 0] 46)).heap.size = w.heap.size + 1 + 1 by show Array.size ((Array.push _ _).push _) = _; simp)
 clear e0
 generalize (w.alloc (.cells #[.int .i64 o.kind, .int .i64 o.at_, .int .i32 o.char, .int .i64 o.rep] 37)).alloc (.cells #[.int .i64 0, .int .i64 0, .int .i32 0, .int .i64 0, .int .i64 0, .int .i64 0, .int .i64 0, .int .i64 0, .int .i64 0, .int .i64 0, .int .i64 0, .int .i64 0, .int .i64 0] 46) = X at *
 rename_i K1 hK1
 have HK1 := hid hK1
 clear hK1
 have L1 := hid (show ∀ b, S1 b → b < w.heap.size from fun b hb => (H7.out _ (H4.out _ hb).1).2)
 have L2 := hid (show ∀ b, S2 b → b < w.heap.size from fun b hb => (H7.out _ (H5.out _ hb).1).2)
 have LS := hid (show ∀ b, S' b → b < w.heap.size from fun b hb => by have := HlowS.out b hb; omega)
 have key1 : ∀ {v1_ v2_ v8_ v9_ v10_ v11_ v12_ v13_ v14_ v15_ v16_ v17_ v18_ v19_ v20_ v21_ v22_ v23_ v24_ v25_ v26_ v27_ v28_ v29_ v30_ v31_ v32_ v33_ v34_ v35_ v36_ : Value} {g6 : Nat} {v : Value} {V w1 W : World}, Box1 X V w1 W g6 46 #[.int .i64 P.op.kind, .int .i64 P.op.at_, .int .i32 P.op.char, .int .i64 P.op.rep, .int .i64 P.num, .int .i64 P.clk.c0, .int .i64 P.clk.c1, .int .i64 P.clk.c2, .int .i64 P.clk.c3, .int .i64 P.clk.c4, .int .i64 P.clk.c5, .int .i64 P.clk.c6, .int .i64 P.clk.c7] → ErrAns w1 (Fr V S') a (s.issueCh o) (s.issueCode o) v → LogAt w1 (Fr V S1) gb s2 (K + 1) → Out S1 V w1 → K1 { tmps := #[.pointer (some ⟨sb, 0, none⟩), v1_, v2_, .pointer (some ⟨w.heap.size, 0, none⟩), .pointer (some ⟨w.heap.size + 1, 0, none⟩), .bool false, .pointer (some ⟨g6, 0, none⟩), v, v8_, v9_, v10_, v11_, v12_, v13_, v14_, v15_, v16_, v17_, v18_, v19_, v20_, v21_, v22_, v23_, v24_, v25_, v26_, v27_, v28_, v29_, v30_, v31_, v32_, v33_, v34_, v35_, v36_], defers := [] } W := by
  intros
  rename_i g6 v V w1 W hBx hE hL hO
  have hXs := HXs.out
  have hV := hBx.v.size
  have hO := hid (hBx.p.out (Nat.le_refl _) hBx.v hO)
  have hE := hid (hBx.p.errAns (a := a) (Z := X) rfl (Nat.le_refl _) hV (fun b hb => by have := LS.out b hb; omega) hE)
  have hL := hid (hBx.p.log (Z := X) rfl (Nat.le_refl _) hV (fun b hb => by have := L1.out b hb; omega) hL)
  have hB6 := hid hBx.b
  have hg6 := hBx.g
  clear hBx hV hXs
  refine HK1.out _ _ ?_
  clear HK1
  repeat' (first | (with_reducible refine stop_region 2 ?_) | go_step)
  refine Stop.go ?_
  rename_i K2 hK2
  have HK2 := hid hK2
  clear hK2
  have hws := hO.out.size
  have hXs := He.out.size
  have hrW : RLogAt W S2 rb s := (Hr.out.step He.out).keep hO.out.size fun b hb hs => hO.out.block b hb fun hc => (H4.out b hc).2.1 hs
  have HR := rissue_from W rb K S2 s o hrW Hf.out Ho.out Hck.out
  rw [← HP.out, ← Hs2.out] at HR
  simp only [Actn.agg, Opn.agg] at HR
  unfold Actn.vals at HR
  have HR := hid HR
  clear hrW
  have key2 : ∀ {v1_ v2_ v10_ v11_ v12_ v13_ v14_ v15_ v16_ v17_ v18_ v19_ v20_ v21_ v22_ v23_ v24_ v25_ v26_ v27_ v28_ v29_ v30_ v31_ v32_ v33_ v34_ v35_ v36_ : Value} {g8 g9 : Nat} {A1 B1 : Option Addr} {m1 d1 q1 r1 : Nat} {V w3 W2 : World}, Box2 W V w3 W2 g8 46 #[.int .i64 P.op.kind, .int .i64 P.op.at_, .int .i32 P.op.char, .int .i64 P.op.rep, .int .i64 P.num, .int .i64 P.clk.c0, .int .i64 P.clk.c1, .int .i64 P.clk.c2, .int .i64 P.clk.c3, .int .i64 P.clk.c4, .int .i64 P.clk.c5, .int .i64 P.clk.c6, .int .i64 P.clk.c7] g9 62 #[.int .i64 (s.issueCode o), .slice A1 m1 d1, .slice B1 q1 r1] → NoAns w3 (fun b => V.heap.size ≤ b) (s.issueCh o) (s.issueCode o) (.agg #[.int .i64 (s.issueCode o), .slice A1 m1 d1, .slice B1 q1 r1]) → RLogAt w3 (Fr V S2) rb s2 → Out S2 V w3 → K2 { tmps := #[.pointer (some ⟨sb, 0, none⟩), v1_, v2_, .pointer (some ⟨w.heap.size, 0, none⟩), .pointer (some ⟨w.heap.size + 1, 0, none⟩), .bool false, .pointer (some ⟨g6, 0, none⟩), v, .pointer (some ⟨g8, 0, none⟩), .pointer (some ⟨g9, 0, none⟩), v10_, v11_, v12_, v13_, v14_, v15_, v16_, v17_, v18_, v19_, v20_, v21_, v22_, v23_, v24_, v25_, v26_, v27_, v28_, v29_, v30_, v31_, v32_, v33_, v34_, v35_, v36_], defers := [] } W2 := by
   intros
   rename_i g8 g9 A1 B1 m1 d1 q1 r1 V3 w3 W2 hBx hE3 hL3 hO3
   have hV := hBx.v.size
   have hO3 := hBx.p.out (Nat.le_refl _) hBx.v hO3
   have hE3 := hBx.p.noAns hE3 hV
   have hL3 := hBx.p.rlog (Z := W) rfl (Nat.le_refl _) hV (fun b hb => by have := L2.out b hb; omega) hL3
   have hz2 := hO3.size
   have hXs2 := HXs.out
   have hB8 := hBx.b
   have hB9 := hBx.c
   have n6 : ¬ S2 g6 := fun hc => by have := L2.out _ hc; omega
   have hB6 := hO3.blk hB6.out n6
   have n4 : ¬ S2 (w.heap.size + 1) := fun hc => by have := L2.out _ hc; omega
   have n41 : ¬ S1 (w.heap.size + 1) := fun hc => by have := L1.out _ hc; omega
   have hB4 := hO3.blk (hO.out.blk HB.out n41) n4
   have hEW : ErrAns W2 (Fr X S') a (s.issueCh o) (s.issueCode o) v := hE.out.imp id (IsErr.keep fun b hb hl => hO3.block b hl fun hc => by
    rcases hb with hb | hb
    · have := HlowS.out b hb; have := (H7.out _ (H5.out _ hc).1).1; omega
    · have h2 : X.heap.size ≤ b := hb; have := L2.out _ hc; omega)
   have hs2 : Sents W2 S' a := ((HS.out.step He.out).keep fun b hb hl => hO.out.block b hl fun hc => by have := HlowS.out b hb; have := (H7.out _ (H4.out _ hc).1).1; omega).keep fun b hb hl => hO3.block b hl fun hc => by have := HlowS.out b hb; have := (H7.out _ (H5.out _ hc).1).1; omega
   have HRf := hid (fun W (hb : Below W2.heap.size W2 W) => refused_step (a := a) (s.issueCh o) (s.issueCode o) v (.agg #[.int .i64 (s.issueCode o), .slice A1 m1 d1, .slice B1 q1 r1]) _ _ S' W (hEW.imp id fun h => IsErr.step h hb) (hE3.keep hb.size (Same.of_below hb)) (hs2.step hb) (issueCh_len s o))
   have hLf := hL.out.cut
   have HLf := hid (hLf.keep hz2 fun b hl hb => hO3.block b hl fun hc => by
    rcases hb.1 with hb | hb
    · exact (H4.out b hb).2.1 hc
    · have h2 : X.heap.size ≤ b := hb; have := L2.out _ hc; omega)
   have HRf2 := hid hL3.cut
   have HO3 := hid hO3
   have HB4 := hid hB4
   obtain ⟨x0, x1, x2, x3, x4, x5, x6, x7, x8, x9, x10, x11, x12⟩ := cl13 (w := W2.drew) (g := g8) hB8.drew; have xl := (hB8.drew).lt
   obtain ⟨y0, y1, y2, y3, y4, y5, y6, y7, y8, y9, y10, y11, y12⟩ := cl13 (w := W2.drew) (g := g6) hB6.drew; have yl := (hB6.drew).lt
   have n0 : W2.drew.cell? ⟨g9, 0, none⟩ = some (.int .i64 (s.issueCode o)) := (hB9.drew).cell 0; have n1 : W2.drew.cell? ⟨g9, 1, none⟩ = some (.slice A1 m1 d1) := (hB9.drew).cell 1; have n2 : W2.drew.cell? ⟨g9, 2, none⟩ = some (.slice B1 q1 r1) := (hB9.drew).cell 2; have nl := (hB9.drew).lt
   have HB8 := hid hB8
   have HB9 := hid hB9
   have HB6 := hid hB6
   have t8 : g8 ≠ w.heap.size + 1 := by have := hBx.g; omega
   have t9 : g9 ≠ w.heap.size + 1 := by have := hBx.k; omega
   have t6 : g6 ≠ w.heap.size + 1 := by omega
   clear hLf hL3 hE3 hO3 hEW hs2 hB4 hB8 hB9 hB6 hBx hz2 hXs2 hV
   refine HK2.out _ _ ?_
   clear HK2
   have qh8 : W2.drew.heap[g8]? = some (.cells _ 46 (0, 0)) := HB8.out
   have qh6 : W2.drew.heap[g6]? = some (.cells _ 46 (0, 0)) := HB6.out
   have qh9 : W2.drew.heap[g9]? = some (.cells _ 62 (0, 0)) := HB9.out
   repeat' (first | ((with_reducible refine region_at 3 ?_); refine wp_region_ordT (fun b => b ≠ w.heap.size + 1) (rgo [0,4,8,12,16,20,24,29,32,37,40] .nil) (by kernel_rfl) (by kernel_rfl) (by kernel_rfl) rfl rfl ?_) | (go_at_call 27; go_must ((with_reducible refine Calls.mono (HRf.out _ (bw0 _)) ?_); rintro _ w5 ⟨rfl, hb5⟩; have hk5 : KeepT (fun b => b ≠ w.heap.size + 1) W2.drew w5 := KeepT.of_below hb5; have hz := HB4.out.step (undrew hb5); obtain ⟨zl, z0, z1, z2, z3, z4, z5, z6, z7, z8, z9, z10, z11, z12, f0, f1, f2, f3, f4, f5, f6, f7, f8, f9, f10, f11, f12⟩ := bl13 hz; clear hz; dsimp only)) | (with_reducible refine Keep.below (by assumption) ?_) | ((with_reducible refine WpO.here ?_); first | ((first | refine WpO.loadT (by rfl) (by rfl) (by go_simp; rfl) (by rintro _ _ ⟨⟩; exact ⟨_, _, _, _, _, _, by rfl, by assumption, by assumption⟩) ?_ | refine WpO.pure (by rfl) (fun w_ => by go_simp; (try go_bits); rfl) ?_); go_frame) | refine WpO.wild ?_) | ((with_reducible refine wildO.here ?_); (refine wildO.go (by rfl) (fun _ _ => ?_))) | go_step)
   with_reducible refine Keep.kept (KeepT.sets13 w5 (w.heap.size + 1) P) ?_
   rw [sets13]
   set_option maxHeartbeats 1600000 in
   repeat' (first | ((with_reducible refine WpO.here ?_); first | (refine WpO.done ?_; refine NoP.normal ?_) | (refine WpO.pure (by rfl) (fun w_ => by go_simp; (try go_bits); rfl) ?_; go_frame)) | go_step)
   have hz4 := blk13 (HB4.out.step (undrew hb5)) rfl P
   obtain ⟨v0, v1, v2, v3, v4, v5, v6, v7, v8, v9, v10, v11, v12⟩ := cl13 hz4
   refine bodyPost_ret (w := setsAt (w.heap.size + 1) (act13 P) w5) (v := .tuple #[.agg #[.int .i64 P.op.kind, .int .i64 P.op.at_, .int .i32 P.op.char, .int .i64 P.op.rep, .int .i64 P.num, .int .i64 P.clk.c0, .int .i64 P.clk.c1, .int .i64 P.clk.c2, .int .i64 P.clk.c3, .int .i64 P.clk.c4, .int .i64 P.clk.c5, .int .i64 P.clk.c6, .int .i64 P.clk.c7], .bool true]) (by simp [results, Tryz.results36, go_sem, v0, v1, v2, v3, v4, v5, v6, v7, v8, v9, v10, v11, v12]) rfl ⟨rfl, ?_⟩
   have hXs3 := HXs.out
   exact site_end He.out (Nat.le_of_eq hXs3.symm) hO.out HO3.out (undrew hb5) (act13 P) (by omega) H4.out H5.out H6.out H7.out Hsb.out HLf.out HRf2.out
  have hsbW := hO.out.blk Hsb.out (fun hc => (H4.out sb hc).2.2 rfl)
  have hoW := hO.out.blk HX.out (fun hc => by have := L1.out _ hc; omega)
  have qs : W.drew.heap[sb]? = some (.cells #[.pointer (some ⟨gb, 0, none⟩), .pointer (some ⟨rb, 0, none⟩)] 33 (0, 0)) := hsbW
  have qo : W.drew.heap[w.heap.size]? = some (.cells #[.int .i64 o.kind, .int .i64 o.at_, .int .i32 o.char, .int .i64 o.rep] 37 (0, 0)) := hoW
  have ts : ¬ S2 sb := fun hc => (H5.out sb hc).2 rfl
  have to_ : ¬ S2 w.heap.size := fun hc => by have := L2.out _ hc; omega
  have s0 : W.drew.cell? ⟨sb, 1, none⟩ = some (.pointer (some ⟨rb, 0, none⟩)) := hsbW.drew.cell 1
  have sl := hsbW.lt
  obtain ⟨o0, o1, o2, o3⟩ := cl4 (w := W.drew) (g := w.heap.size) hoW.drew
  have ol := hoW.lt
  have nA := hid (show ¬ S2 W.heap.size from fun hc => by have := L2.out _ hc; omega)
  have nB := hid (show ¬ S2 (W.heap.size + 1) from fun hc => by have := L2.out _ hc; omega)
  clear hsbW hoW
  repeat' (first | ((with_reducible refine region_at 2 ?_); refine wp_region_ordT (fun b => ¬ S2 b) (rgo [0,4,8,12,16] (.three 5 9 10 (rgo [24,28,32] (.two 9 10 (rgo [41,47,51] .nil) (rgo [37,47,51] .nil))) (.two 5 10 (rgo [24,28,32,41,47,51] .nil) (rgo [21,24,28,32,47,51] .nil)) (.two 5 9 (rgo [24,28,32,37,47,51] .nil) (rgo [21,24,28,32,47,51] .nil)))) (by kernel_rfl) (by kernel_rfl) (by kernel_rfl) rfl rfl ?_) | (with_reducible refine Keep.last ?_) | (with_reducible refine Keep.allocD ?_) | (go_at_call 75; go_must (first | ((with_reducible refine Calls.mono (HR.out W.drew (bw0 W)) ?_); go_must (rintro _ w3 ⟨v3, rfl, hE3, hL3, hO3⟩; have hk3 : KeepT (fun b => ¬ S2 b) W.drew w3 := ⟨hO3.size, fun b hl hb => hO3.block b hl hb⟩; obtain ⟨A1, m1, d1, B1, q1, r1, rfl⟩ := hE3.shape; have hF := hid (And.intro (box_c12 (t := 46) (u := 62) (cs := #[.int .i64 P.op.kind, .int .i64 P.op.at_, .int .i32 P.op.char, .int .i64 P.op.rep, .int .i64 P.num, .int .i64 P.clk.c0, .int .i64 P.clk.c1, .int .i64 P.clk.c2, .int .i64 P.clk.c3, .int .i64 P.clk.c4, .int .i64 P.clk.c5, .int .i64 P.clk.c6, .int .i64 P.clk.c7]) (ds := #[.int .i64 (s.issueCode o), .slice A1 m1 d1, .slice B1 q1 r1]) hO3) (box_c21 (t := 46) (u := 62) (cs := #[.int .i64 P.op.kind, .int .i64 P.op.at_, .int .i32 P.op.char, .int .i64 P.op.rep, .int .i64 P.num, .int .i64 P.clk.c0, .int .i64 P.clk.c1, .int .i64 P.clk.c2, .int .i64 P.clk.c3, .int .i64 P.clk.c4, .int .i64 P.clk.c5, .int .i64 P.clk.c6, .int .i64 P.clk.c7]) (ds := #[.int .i64 (s.issueCode o), .slice A1 m1 d1, .slice B1 q1 r1]) hO3)); have hE3 := hid hE3; have hL3 := hid hL3; have hO3 := hid hO3; dsimp only)) | ((with_reducible refine Calls.mono (HR.out (W.alloc (.cells #[.int .i64 0, .int .i64 0, .int .i32 0, .int .i64 0, .int .i64 0, .int .i64 0, .int .i64 0, .int .i64 0, .int .i64 0, .int .i64 0, .int .i64 0, .int .i64 0, .int .i64 0] 46)).drew (bw1 W _)) ?_); go_must (rintro _ w3 ⟨v3, rfl, hE3, hL3, hO3⟩; have hk3 : KeepT (fun b => ¬ S2 b) (W.alloc (.cells #[.int .i64 0, .int .i64 0, .int .i32 0, .int .i64 0, .int .i64 0, .int .i64 0, .int .i64 0, .int .i64 0, .int .i64 0, .int .i64 0, .int .i64 0, .int .i64 0, .int .i64 0] 46)).drew w3 := ⟨hO3.size, fun b hl hb => hO3.block b hl hb⟩; obtain ⟨A1, m1, d1, B1, q1, r1, rfl⟩ := hE3.shape; have hz := hO3.blk (Blk.new W 46 #[.int .i64 0, .int .i64 0, .int .i32 0, .int .i64 0, .int .i64 0, .int .i64 0, .int .i64 0, .int .i64 0, .int .i64 0, .int .i64 0, .int .i64 0, .int .i64 0, .int .i64 0]).drew nA.out; obtain ⟨zl, z0, z1, z2, z3, z4, z5, z6, z7, z8, z9, z10, z11, z12, f0, f1, f2, f3, f4, f5, f6, f7, f8, f9, f10, f11, f12⟩ := bl13 hz; clear hz; have hF := hid (box_1c2 (t := 46) (u := 62) (cs := #[.int .i64 P.op.kind, .int .i64 P.op.at_, .int .i32 P.op.char, .int .i64 P.op.rep, .int .i64 P.num, .int .i64 P.clk.c0, .int .i64 P.clk.c1, .int .i64 P.clk.c2, .int .i64 P.clk.c3, .int .i64 P.clk.c4, .int .i64 P.clk.c5, .int .i64 P.clk.c6, .int .i64 P.clk.c7]) (ds := #[.int .i64 (s.issueCode o), .slice A1 m1 d1, .slice B1 q1 r1]) hO3 nA.out (act13_cells #[.int .i64 0, .int .i64 0, .int .i32 0, .int .i64 0, .int .i64 0, .int .i64 0, .int .i64 0, .int .i64 0, .int .i64 0, .int .i64 0, .int .i64 0, .int .i64 0, .int .i64 0] P rfl)); have hE3 := hid hE3; have hL3 := hid hL3; have hO3 := hid hO3; dsimp only)) | ((with_reducible refine Calls.mono (HR.out (W.alloc (.cells #[.int .i64 0, .slice none 0 0, .slice none 0 0] 62)).drew (bw1 W _)) ?_); go_must (rintro _ w3 ⟨v3, rfl, hE3, hL3, hO3⟩; have hk3 : KeepT (fun b => ¬ S2 b) (W.alloc (.cells #[.int .i64 0, .slice none 0 0, .slice none 0 0] 62)).drew w3 := ⟨hO3.size, fun b hl hb => hO3.block b hl hb⟩; obtain ⟨A1, m1, d1, B1, q1, r1, rfl⟩ := hE3.shape; have hz := hO3.blk (Blk.new W 62 #[.int .i64 0, .slice none 0 0, .slice none 0 0]).drew nA.out; obtain ⟨bl, b0, b1, b2, e0, e1, e2⟩ := bl3 hz; clear hz; have hF := hid (box_2c1 (t := 46) (u := 62) (cs := #[.int .i64 P.op.kind, .int .i64 P.op.at_, .int .i32 P.op.char, .int .i64 P.op.rep, .int .i64 P.num, .int .i64 P.clk.c0, .int .i64 P.clk.c1, .int .i64 P.clk.c2, .int .i64 P.clk.c3, .int .i64 P.clk.c4, .int .i64 P.clk.c5, .int .i64 P.clk.c6, .int .i64 P.clk.c7]) (ds := #[.int .i64 (s.issueCode o), .slice A1 m1 d1, .slice B1 q1 r1]) hO3 nA.out (no3_cells _ _ _ _ _ _)); have hE3 := hid hE3; have hL3 := hid hL3; have hO3 := hid hO3; dsimp only)) | ((with_reducible refine Calls.mono (HR.out ((W.alloc (.cells #[.int .i64 0, .int .i64 0, .int .i32 0, .int .i64 0, .int .i64 0, .int .i64 0, .int .i64 0, .int .i64 0, .int .i64 0, .int .i64 0, .int .i64 0, .int .i64 0, .int .i64 0] 46)).alloc (.cells #[.int .i64 0, .slice none 0 0, .slice none 0 0] 62)).drew (bw2 W _ _)) ?_); go_must (rintro _ w3 ⟨v3, rfl, hE3, hL3, hO3⟩; have hk3 : KeepT (fun b => ¬ S2 b) ((W.alloc (.cells #[.int .i64 0, .int .i64 0, .int .i32 0, .int .i64 0, .int .i64 0, .int .i64 0, .int .i64 0, .int .i64 0, .int .i64 0, .int .i64 0, .int .i64 0, .int .i64 0, .int .i64 0] 46)).alloc (.cells #[.int .i64 0, .slice none 0 0, .slice none 0 0] 62)).drew w3 := ⟨hO3.size, fun b hl hb => hO3.block b hl hb⟩; obtain ⟨A1, m1, d1, B1, q1, r1, rfl⟩ := hE3.shape; have hz := hO3.blk (twoBoxes W 46 62 #[.int .i64 0, .int .i64 0, .int .i32 0, .int .i64 0, .int .i64 0, .int .i64 0, .int .i64 0, .int .i64 0, .int .i64 0, .int .i64 0, .int .i64 0, .int .i64 0, .int .i64 0] #[.int .i64 0, .slice none 0 0, .slice none 0 0]).1.drew nA.out; obtain ⟨zl, z0, z1, z2, z3, z4, z5, z6, z7, z8, z9, z10, z11, z12, f0, f1, f2, f3, f4, f5, f6, f7, f8, f9, f10, f11, f12⟩ := bl13 hz; clear hz; have hz := hO3.blk (twoBoxes W 46 62 #[.int .i64 0, .int .i64 0, .int .i32 0, .int .i64 0, .int .i64 0, .int .i64 0, .int .i64 0, .int .i64 0, .int .i64 0, .int .i64 0, .int .i64 0, .int .i64 0, .int .i64 0] #[.int .i64 0, .slice none 0 0, .slice none 0 0]).2.1.drew nB.out; obtain ⟨bl, b0, b1, b2, e0, e1, e2⟩ := bl3 hz; clear hz; have hF := hid (box_12c (t := 46) (u := 62) (cs := #[.int .i64 P.op.kind, .int .i64 P.op.at_, .int .i32 P.op.char, .int .i64 P.op.rep, .int .i64 P.num, .int .i64 P.clk.c0, .int .i64 P.clk.c1, .int .i64 P.clk.c2, .int .i64 P.clk.c3, .int .i64 P.clk.c4, .int .i64 P.clk.c5, .int .i64 P.clk.c6, .int .i64 P.clk.c7]) (ds := #[.int .i64 (s.issueCode o), .slice A1 m1 d1, .slice B1 q1 r1]) hO3 nA.out nB.out (act13_cells #[.int .i64 0, .int .i64 0, .int .i32 0, .int .i64 0, .int .i64 0, .int .i64 0, .int .i64 0, .int .i64 0, .int .i64 0, .int .i64 0, .int .i64 0, .int .i64 0, .int .i64 0] P rfl) (no3_cells _ _ _ _ _ _)); have hE3 := hid hE3; have hL3 := hid hL3; have hO3 := hid hO3; dsimp only)) | ((with_reducible refine Calls.mono (HR.out ((W.alloc (.cells #[.int .i64 0, .slice none 0 0, .slice none 0 0] 62)).alloc (.cells #[.int .i64 0, .int .i64 0, .int .i32 0, .int .i64 0, .int .i64 0, .int .i64 0, .int .i64 0, .int .i64 0, .int .i64 0, .int .i64 0, .int .i64 0, .int .i64 0, .int .i64 0] 46)).drew (bw2 W _ _)) ?_); go_must (rintro _ w3 ⟨v3, rfl, hE3, hL3, hO3⟩; have hk3 : KeepT (fun b => ¬ S2 b) ((W.alloc (.cells #[.int .i64 0, .slice none 0 0, .slice none 0 0] 62)).alloc (.cells #[.int .i64 0, .int .i64 0, .int .i32 0, .int .i64 0, .int .i64 0, .int .i64 0, .int .i64 0, .int .i64 0, .int .i64 0, .int .i64 0, .int .i64 0, .int .i64 0, .int .i64 0] 46)).drew w3 := ⟨hO3.size, fun b hl hb => hO3.block b hl hb⟩; obtain ⟨A1, m1, d1, B1, q1, r1, rfl⟩ := hE3.shape; have hz := hO3.blk (twoBoxes W 62 46 #[.int .i64 0, .slice none 0 0, .slice none 0 0] #[.int .i64 0, .int .i64 0, .int .i32 0, .int .i64 0, .int .i64 0, .int .i64 0, .int .i64 0, .int .i64 0, .int .i64 0, .int .i64 0, .int .i64 0, .int .i64 0, .int .i64 0]).2.1.drew nB.out; obtain ⟨zl, z0, z1, z2, z3, z4, z5, z6, z7, z8, z9, z10, z11, z12, f0, f1, f2, f3, f4, f5, f6, f7, f8, f9, f10, f11, f12⟩ := bl13 hz; clear hz; have hz := hO3.blk (twoBoxes W 62 46 #[.int .i64 0, .slice none 0 0, .slice none 0 0] #[.int .i64 0, .int .i64 0, .int .i32 0, .int .i64 0, .int .i64 0, .int .i64 0, .int .i64 0, .int .i64 0, .int .i64 0, .int .i64 0, .int .i64 0, .int .i64 0, .int .i64 0]).1.drew nA.out; obtain ⟨bl, b0, b1, b2, e0, e1, e2⟩ := bl3 hz; clear hz; have hF := hid (box_21c (t := 46) (u := 62) (cs := #[.int .i64 P.op.kind, .int .i64 P.op.at_, .int .i32 P.op.char, .int .i64 P.op.rep, .int .i64 P.num, .int .i64 P.clk.c0, .int .i64 P.clk.c1, .int .i64 P.clk.c2, .int .i64 P.clk.c3, .int .i64 P.clk.c4, .int .i64 P.clk.c5, .int .i64 P.clk.c6, .int .i64 P.clk.c7]) (ds := #[.int .i64 (s.issueCode o), .slice A1 m1 d1, .slice B1 q1 r1]) hO3 nA.out nB.out (act13_cells #[.int .i64 0, .int .i64 0, .int .i32 0, .int .i64 0, .int .i64 0, .int .i64 0, .int .i64 0, .int .i64 0, .int .i64 0, .int .i64 0, .int .i64 0, .int .i64 0, .int .i64 0] P rfl) (no3_cells _ _ _ _ _ _)); have hE3 := hid hE3; have hL3 := hid hL3; have hO3 := hid hO3; dsimp only)))) | (with_reducible first | refine Keep.kept (by assumption) ?_ | refine Keep.alloc ?_) | ((with_reducible refine WpO.here ?_); first | (refine WpO.done ?_; refine NoP.normal ?_) | ((first | refine WpO.loadT (by rfl) (by rfl) (by go_simp; rfl) (by rintro _ _ ⟨⟩; exact ⟨_, _, _, _, _, _, by rfl, by assumption, by assumption⟩) ?_ | refine WpO.pure (by rfl) (fun w_ => by go_simp; (try go_bits); rfl) ?_); go_frame) | refine WpO.wild ?_ | refine WpO.two ?_ ?_ | refine WpO.three ?_ ?_ ?_) | ((with_reducible refine wildO.here ?_); (refine wildO.go (by rfl) (fun _ _ => ?_))) | go_step)
  all_goals (try rw [sets13])
  all_goals (try rw [sets3])
  all_goals first
   | with_reducible exact key2 hF.out hE3.out hL3.out hO3.out
   | with_reducible exact key2 hF.out.1 hE3.out hL3.out hO3.out
   | with_reducible exact key2 hF.out.2 hE3.out hL3.out hO3.out
 have hsbX := Hsb.out
 have hoX := HX.out
 have qs : X.drew.heap[sb]? = some (.cells #[.pointer (some ⟨gb, 0, none⟩), .pointer (some ⟨rb, 0, none⟩)] 33 (0, 0)) := hsbX
 have qo : X.drew.heap[w.heap.size]? = some (.cells #[.int .i64 o.kind, .int .i64 o.at_, .int .i32 o.char, .int .i64 o.rep] 37 (0, 0)) := hoX
 have ts : ¬ S1 sb := fun hc => (H4.out sb hc).2.2 rfl
 have to_ : ¬ S1 w.heap.size := fun hc => by have := L1.out _ hc; omega
 have s0 : X.drew.cell? ⟨sb, 0, none⟩ = some (.pointer (some ⟨gb, 0, none⟩)) := hsbX.drew.cell 0
 have sl := hsbX.lt
 obtain ⟨o0, o1, o2, o3⟩ := cl4 (w := X.drew) (g := w.heap.size) hoX.drew
 have ol := hoX.lt
 have eD : Below w.heap.size w X.drew := bdrew He.out
 have eA : Below w.heap.size w (X.alloc (.cells #[.int .i64 0, .int .i64 0, .int .i32 0, .int .i64 0, .int .i64 0, .int .i64 0, .int .i64 0, .int .i64 0, .int .i64 0, .int .i64 0, .int .i64 0, .int .i64 0, .int .i64 0] 46)).drew := bdrew (balloc He.out)
 have nA := hid (show ¬ S1 X.heap.size from fun hc => by have := L1.out _ hc; have := HXs.out; omega)
 have ED := hid eD
 have EA := hid eA
 clear hsbX hoX eD eA
 repeat' (first | ((with_reducible refine region_at 1 ?_); refine wp_region_ordT (fun b => ¬ S1 b) (rgo [0,4,8,12,16] (.two 5 9 (rgo [24,28,32,37,43,44] .nil) (rgo [21,24,28,32,43,44] .nil))) (by kernel_rfl) (by kernel_rfl) (by kernel_rfl) rfl rfl ?_) | (with_reducible refine Keep.last ?_) | (with_reducible refine Keep.allocD ?_) | (go_at_call 28; go_must (first | ((with_reducible refine Calls.mono (HI.out X.drew ED.out) ?_); go_must (rintro _ w1 ⟨v, rfl, hE, hL, hO⟩; have hk1 : KeepT (fun b => ¬ S1 b) X.drew w1 := ⟨hO.size, fun b hl hb => hO.block b hl hb⟩; have hF := hid (box_c (t := 46) (cs := #[.int .i64 P.op.kind, .int .i64 P.op.at_, .int .i32 P.op.char, .int .i64 P.op.rep, .int .i64 P.num, .int .i64 P.clk.c0, .int .i64 P.clk.c1, .int .i64 P.clk.c2, .int .i64 P.clk.c3, .int .i64 P.clk.c4, .int .i64 P.clk.c5, .int .i64 P.clk.c6, .int .i64 P.clk.c7]) hO); have hE := hid hE; have hL := hid hL; have hO := hid hO; dsimp only)) | ((with_reducible refine Calls.mono (HI.out (X.alloc (.cells #[.int .i64 0, .int .i64 0, .int .i32 0, .int .i64 0, .int .i64 0, .int .i64 0, .int .i64 0, .int .i64 0, .int .i64 0, .int .i64 0, .int .i64 0, .int .i64 0, .int .i64 0] 46)).drew EA.out) ?_); go_must (rintro _ w1 ⟨v, rfl, hE, hL, hO⟩; have hk1 : KeepT (fun b => ¬ S1 b) (X.alloc (.cells #[.int .i64 0, .int .i64 0, .int .i32 0, .int .i64 0, .int .i64 0, .int .i64 0, .int .i64 0, .int .i64 0, .int .i64 0, .int .i64 0, .int .i64 0, .int .i64 0, .int .i64 0] 46)).drew w1 := ⟨hO.size, fun b hl hb => hO.block b hl hb⟩; have hz := hO.blk (Blk.new X 46 #[.int .i64 0, .int .i64 0, .int .i32 0, .int .i64 0, .int .i64 0, .int .i64 0, .int .i64 0, .int .i64 0, .int .i64 0, .int .i64 0, .int .i64 0, .int .i64 0, .int .i64 0]).drew nA.out; obtain ⟨zl, z0, z1, z2, z3, z4, z5, z6, z7, z8, z9, z10, z11, z12, f0, f1, f2, f3, f4, f5, f6, f7, f8, f9, f10, f11, f12⟩ := bl13 hz; clear hz; have hF := hid (box_a (t := 46) (cs := #[.int .i64 P.op.kind, .int .i64 P.op.at_, .int .i32 P.op.char, .int .i64 P.op.rep, .int .i64 P.num, .int .i64 P.clk.c0, .int .i64 P.clk.c1, .int .i64 P.clk.c2, .int .i64 P.clk.c3, .int .i64 P.clk.c4, .int .i64 P.clk.c5, .int .i64 P.clk.c6, .int .i64 P.clk.c7]) hO nA.out (act13_cells #[.int .i64 0, .int .i64 0, .int .i32 0, .int .i64 0, .int .i64 0, .int .i64 0, .int .i64 0, .int .i64 0, .int .i64 0, .int .i64 0, .int .i64 0, .int .i64 0, .int .i64 0] P rfl)); have hE := hid hE; have hL := hid hL; have hO := hid hO; dsimp only)))) | (with_reducible first | refine Keep.kept (by assumption) ?_ | refine Keep.alloc ?_) | ((with_reducible refine WpO.here ?_); first | (refine WpO.done ?_; refine NoP.normal ?_) | ((first | refine WpO.loadT (by rfl) (by rfl) (by go_simp; rfl) (by rintro _ _ ⟨⟩; exact ⟨_, _, _, _, _, _, by rfl, by assumption, by assumption⟩) ?_ | refine WpO.pure (by rfl) (fun w_ => by go_simp; (try go_bits); rfl) ?_); go_frame) | refine WpO.wild ?_ | refine WpO.two ?_ ?_) | ((with_reducible refine wildO.here ?_); (refine wildO.go (by rfl) (fun _ _ => ?_))) | go_step)
 all_goals (try rw [sets13])
 all_goals with_reducible exact key1 hF.out hE.out hL.out hO.out
end Go.Proofs.YteggpddlkkjmjaaGreatDoor
