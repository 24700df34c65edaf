/- Part of a proof: what functions of the program compute. Conditions: as each theorem says. -/
import Derived.Test.YteggpddlkkjmjaaGreatDoorQ28
import Derived.Test.YteggpddlkkjmjaaGreatDoorQ51
set_option linter.unusedSimpArgs false
set_option linter.unusedVariables false
set_option maxHeartbeats 4000000
set_option maxRecDepth 100000
namespace Go.Proofs.YteggpddlkkjmjaaGreatDoor
open Go Go.RowKit
def Lg.next (s : Lg) : Lg := ⟨s.ep + 1, purgeOf s.l, [], [], Clk.zero, purgeOf s.l⟩
theorem lgVals_ep (ep n : Int) (bm mb : Nat) (A : Option Addr) (k c : Nat) (B : Option Addr) (m d : Nat) (q : Clk) : (lgVals ep bm mb A k c B m d q).setIfInBounds 0 (.int .i64 n) = lgVals n bm mb A k c B m d q := by
 unfold lgVals
 simp only [List.setIfInBounds_toArray, List.set_cons_zero, List.set_cons_succ]
theorem purgeOf_len8 (l : List El) : (purgeOf l).length ≤ l.length := List.length_filter_le _ _
theorem purgeOf_nd8 {l : List El} (h : (l.map El.nm).Nodup) : ((purgeOf l).map El.nm).Nodup := h.sublist ((List.filter_sublist (l := l)).map _)
theorem hnext_any (w : World) (S : Nat → Prop) (gb K : Nat) (s : Lg) (h : LogAt w S gb s K) (hl : s.l.length ≤ 1048576) (hnd : (s.l.map El.nm).Nodup) (he : -1099511627776 ≤ s.ep ∧ s.ep ≤ 1099511627777) :
 Calls Tryz.prog 46 #[.pointer (some ⟨gb, 0, none⟩)] w fun e w' => e = .returned (.int .i64 ((s.l.length : Int) - (purgeOf s.l).length)) ∧ LogAt w' (Fr w S) gb s.next (K + 1048576) ∧ Out S w w' := by
 obtain ⟨bm, mb, A, c, B, d, SM, h, hS⟩ := h
 have g2 : w.cell? ⟨gb, 2, none⟩ = some (.pointer (some ⟨mb, 0, none⟩)) := h.g.cell 2
 have gl := h.g.lt
 have HP := hid (mpurge_any w SM mb s.l K h.m (by omega) hnd)
 have Hg := hid h.g
 have Hsm := hid h.sm
 have HS := hid hS
 have Hnd := hid hnd
 have hgm : ¬ SM gb := fun hc => (h.sm gb hc).2.1 rfl
 clear h hS hnd
 go_enter Tryz.func46, Tryz.ntmps46
 repeat' (first | (go_at_call 85; go_must ((with_reducible refine Calls.mono HP.out ?_); rintro _ w1 ⟨rfl, hM1, hO1⟩; dsimp only)) | (with_reducible refine stop_region 2 ?_) | go_step)
 refine Stop.go ?_
 have hg1 := hO1.blk Hg.out hgm
 have q0 : w1.cell? ⟨gb, 0, none⟩ = some (.int .i64 s.ep) := hg1.cell 0
 have f0 := hg1.frozen 0
 have gl1 := hg1.lt
 repeat' (first | (with_reducible refine stop_region 3 ?_) | go_step)
 refine Stop.go ?_
 have hg2 := hg1.set_ 0 (.int .i64 (s.ep + 1))
 rw [lgVals_ep] at hg2
 unfold lgVals at hg2
 have hM2 := (hM1.more (S' := fun b => Fr w SM b ∧ b < w1.heap.size) fun b hl hb => ⟨hb, hl⟩).keep (w' := w1.setCell ⟨gb, 0, none⟩ (.int .i64 (s.ep + 1))) fun b hb hs => Below.heap_setCell _ _ _ _ (by
  rcases hs.1 with h' | h'
  · exact (Hsm.out b h').2.1
  · have h'' : w.heap.size ≤ b := h'
    show b ≠ gb
    omega)
 have hO2 : Out S w (w1.setCell ⟨gb, 0, none⟩ (.int .i64 (s.ep + 1))) := (hO1.mono fun b _ h => HS.out b (.inl h)).trans (Out.setCell (S := S) (HS.out gb (.inr (.inl rfl))) _) fun _ _ h => h
 have hzz : (w1.setCell ⟨gb, 0, none⟩ (.int .i64 (s.ep + 1))).heap.size = w1.heap.size := by simp [World.setCell]
 have hs1 := hO1.size
 have hp2 := purgeOf_len8 s.l
 have HBg := hid (begin_any (w1.setCell ⟨gb, 0, none⟩ (.int .i64 (s.ep + 1))) gb mb K _ (s.ep + 1) _ _ _ _ _ _ _ _ _ _ _ (purgeOf s.l) hg2 hM2 (fun b hb => ⟨by rw [hzz]; exact hb.2, by
  rcases hb.1 with h' | h'
  · exact (Hsm.out b h').2.1
  · have h'' : w.heap.size ≤ b := h'
    omega⟩) (by omega) (purgeOf_nd8 Hnd.out))
 clear q0 f0 gl1 hg1 hg2 hM2 hM1 hO1
 generalize w1.setCell ⟨gb, 0, none⟩ (.int .i64 (s.ep + 1)) = X at *
 repeat' (first | (go_at_call 56; go_must ((with_reducible refine Calls.mono HBg.out ?_); rintro _ w3 ⟨rfl, bm', hg3, hi3, hbm, hM3, hO3⟩; dsimp only)) | go_step)
 go_ret
 have hz2 := hO2.size
 have hz3 := hO3.size
 have hg3l := hg3.lt
 have hi3l := hi3.lt
 refine ⟨rfl, ⟨bm', mb, none, 0, none, 0, fun b => Fr w SM b ∧ b < w1.heap.size, ⟨hg3, hi3.monoK (by omega), hM3.monoK (by omega), GOwn.nil _ _ _, GOwn.nil _ _ _, fun b hb => ⟨by omega, ?_, by omega, fun x hx => (by cases hx), fun x hx => (by cases hx)⟩⟩, ?_⟩, hO2.trans hO3 fun b _ hb => hb ▸ HS.out gb (.inr (.inl rfl))⟩
 · rcases hb.1 with h' | h'
   · exact (Hsm.out b h').2.1
   · have h'' : w.heap.size ≤ b := h'
     omega
 · rintro b (hb | rfl | rfl | ⟨x, hx, -⟩ | ⟨x, hx, -⟩)
   · rcases hb.1 with h' | h'
     · exact .inl (HS.out b (.inl h'))
     · exact .inr h'
   · exact .inl (HS.out b (.inr (.inl rfl)))
   · exact .inr (by show w.heap.size ≤ b; omega)
   · cases hx
   · cases hx
def nextSets (ep : Int) (L : Option Addr) (n c : Nat) : List (Nat × Value) := [(12, .slice L n c), (1, .slice L n c), (2, .slice none 0 0), (3, .slice none 0 0), (4, .int .i64 0), (5, .int .i64 0), (6, .int .i64 0), (7, .int .i64 0), (8, .int .i64 0), (9, .int .i64 0), (10, .int .i64 0), (11, .int .i64 0), (0, .int .i64 ep)]
theorem next_cells (ep : Int) (L : Option Addr) (n c : Nat) (u0 u1 u2 u3 u4 u5 u6 u7 u8 u9 u10 u11 u12 : Value) : ((nextSets ep L n c).foldl (fun c p => c.setIfInBounds p.1 p.2) #[u0, u1, u2, u3, u4, u5, u6, u7, u8, u9, u10, u11, u12]) = rgVals ep L n c none 0 0 none 0 0 Clk.zero L n c := by
 unfold nextSets rgVals Clk.zero
 simp only [List.foldl_cons, List.foldl_nil, List.setIfInBounds_toArray, List.set_cons_zero, List.set_cons_succ]
theorem rnext_any (w : World) (S : Nat → Prop) (rb : Nat) (s : Lg) (h : RLogAt w S rb s) (hl : s.l.length ≤ 1048576) (he : -1099511627776 ≤ s.ep ∧ s.ep ≤ 1099511627777) :
 Calls Tryz.prog 47 #[.pointer (some ⟨rb, 0, none⟩)] w fun e w' => e = .returned (.int .i64 ((s.l.length : Int) - (purgeOf s.l).length)) ∧ RLogAt w' (Fr w S) rb s.next ∧ Out S w w' := by
 obtain ⟨E, ce, A, c, B, d, L, cl, SR, h, hS⟩ := h
 have HP := hid (refPurge_any L s.l.length cl s.l SR w h.l (by omega))
 have Hg := hid h.g
 have HS := hid hS
 have hgl := h.g.lt
 have q12 : w.cell? ⟨rb, 12, none⟩ = some (.slice L s.l.length cl) := h.g.cell 12
 clear h hS
 go_enter Tryz.func47, Tryz.ntmps47
 repeat' (first | (go_at_call 86; go_must ((with_reducible refine Calls.mono HP.out ?_); rintro _ w1 ⟨L', cl', rfl, hL, hb1⟩; have hr1 := Hg.out.step hb1; unfold rgVals at hr1; have HR1 := hid hr1; obtain ⟨zl, z0, z1, z2, z3, z4, z5, z6, z7, z8, z9, z10, z11, z12, f0, f1, f2, f3, f4, f5, f6, f7, f8, f9, f10, f11, f12⟩ := bl13 hr1; clear hr1; dsimp only)) | go_step)
 go_ret
 have hp2 := purgeOf_len8 s.l
 have hw : wrap64 ((s.l.length : Int) - (purgeOf s.l).length) = (s.l.length : Int) - (purgeOf s.l).length := IntWalk.wrap64_in _ ⟨by omega, by omega⟩
 have hz1 := hb1.size
 have hrl := HR1.out.lt
 have hf : Blk (setsAt rb (nextSets (s.ep + 1) L' (purgeOf s.l).length cl') w1) rb 89 (rgVals (s.ep + 1) L' (purgeOf s.l).length cl' none 0 0 none 0 0 Clk.zero L' (purgeOf s.l).length cl') := by
  have := HR1.out.sets (nextSets (s.ep + 1) L' (purgeOf s.l).length cl')
  rw [next_cells] at this
  exact this
 have hO : Out S w (setsAt rb (nextSets (s.ep + 1) L' (purgeOf s.l).length cl') w1) := by
  have h1 := Out.of_below (S := S) hb1
  refine ⟨(setsAt_os _ _).1.trans h1.os, (setsAt_os _ _).2.1.trans h1.tape, (setsAt_os _ _).2.2.trans h1.output, by rw [setsAt_size]; exact h1.size, fun k hk hn => ?_⟩
  rw [setsAt_heap _ _ (show k ≠ rb from fun e => hn (by rw [e]; exact HS.out rb (.inr (.inl rfl))))]
  exact h1.block k hk hn
 have hrow : Row (setsAt rb (nextSets (s.ep + 1) L' (purgeOf s.l).length cl') w1) (fun b => w.heap.size ≤ b ∧ b < w1.heap.size) L' (purgeOf s.l).length cl' (purgeOf s.l) :=
  (hL.row (S := fun b => w.heap.size ≤ b ∧ b < w1.heap.size) fun b h1 h2 => ⟨h1, h2⟩).keep fun b hb _ => setsAt_heap _ _ (by omega)
 refine ⟨congrArg (fun x => Ending.returned (.int .i64 x)) hw, ⟨L', cl', none, 0, none, 0, L', cl', fun b => w.heap.size ≤ b ∧ b < w1.heap.size, ⟨hf, hrow, hrow, GOwn.nil _ _ _, GOwn.nil _ _ _, fun b hb => ⟨Nat.lt_of_lt_of_eq hb.2 (setsAt_size (nextSets (s.ep + 1) L' (purgeOf s.l).length cl') w1).symm, by omega, fun x hx => (by cases hx), fun x hx => (by cases hx)⟩⟩, ?_⟩, hO⟩
 rintro b (hb | rfl | ⟨x, hx, -⟩ | ⟨x, hx, -⟩)
 · exact .inr hb.1
 · exact .inl (HS.out b (.inr (.inl rfl)))
 · cases hx
 · cases hx
end Go.Proofs.YteggpddlkkjmjaaGreatDoor
