/- Part of a proof: what functions of the program compute. Conditions: as each theorem says. -/
import Derived.Test.YteggpddlkkjmjaaGreatDoorQ13
import Derived.Test.YteggpddlkkjmjaaGreatDoorQ14
set_option linter.unusedSimpArgs false
set_option linter.unusedVariables false
set_option maxHeartbeats 4000000
set_option maxRecDepth 50000
namespace Go.Proofs.YteggpddlkkjmjaaGreatDoor
open Go Go.RowKit
theorem Own.turn {w w' : World} {base base' : Nat} {A : Option Addr} {n c : Nat} {es : List El} (h : Own w base A n c es) (hT : Turn 3 base' w w') : Own w' base A n c es := by
 refine ⟨h.1, h.2.1, ?_⟩
 rcases h.2.2 with h0 | ⟨g, cap, cur, e, hbg, hh, r⟩
 · exact .inl h0
 · exact .inr ⟨g, cap, cur, e, hbg, (hT.cells g _ _ _ hh (fun h => by have := h.2.1; revert this; decide)).trans hh, r⟩
theorem Own.begun {w w' : World} {l base : Nat} {A : Option Addr} {n c : Nat} {es : List El} (h : Own w base A n c es) (hT : Begun l w w') : Own w' base A n c es := by
 refine ⟨h.1, h.2.1, ?_⟩
 rcases h.2.2 with h0 | ⟨g, cap, cur, e, hbg, hh, r⟩
 · exact .inl h0
 · obtain ⟨q, q', hr, _⟩ := hT.record
   exact .inr ⟨g, cap, cur, e, hbg, (hT.block g (fun e' => by subst e'; rw [hr] at hh; cases hh)).trans hh, r⟩
theorem melements_any (w : World) (S : Nat → Prop) (mb : Nat) (l : List El) (K : Nat) (h : Mdl w S mb l K) (hl : l.length ≤ 536870912) :
 Calls Tryz.prog 21 #[.pointer (some ⟨mb, 0, none⟩)] w fun r w' => ∃ A c, r = .returned (.slice A l.length c) ∧ Own w' w.heap.size A l.length c l ∧ Below w.heap.size w w' := by
 obtain ⟨gt, gm, p, T, h1, h2, h3, rfl, h5, h6, h7, h8, h9⟩ := h
 have b1 : Below w.heap.size w (w.alloc (.cells #[.slice none 0 0] 51)) := (Below.refl _ _).alloc (Nat.le_refl _) _
 have hlb := Blk.new w 51 #[.slice none 0 0]
 have m0 := h1.cell 0
 simp at m0
 have hml := h1.lt
 have h1l := (h1.step b1).lt
 clear h9 h5
 refine calls_of_marks Tryz.func21 rfl ?_
 simp only [Tryz.ntmps21, List.size_toArray, List.length_cons, List.length_nil, Nat.reduceAdd, Nat.reduceSub, Array.replicate_succ, Array.replicate_zero, List.push_toArray, List.append_toArray, List.nil_append, List.cons_append]
 repeat' (first | (go_at_call 54; go_must ((with_reducible refine Calls.mono (all_any gt _) ?_); rintro _ _ ⟨rfl, rfl⟩; dsimp only)) | (with_reducible refine stop_block 0 ?_) | go_step)
 refine Stop.go ?_
 have s1 : (w.alloc (.cells #[.slice none 0 0] 51)).heap.size = w.heap.size + 1 := Array.size_push _
 have e2 : Below (w.alloc (.cells #[.slice none 0 0] 51)).heap.size (w.alloc (.cells #[.slice none 0 0] 51)) ((w.alloc (.cells #[.slice none 0 0] 51)).alloc (.cells #[.pointer (some ⟨gt, 0, none⟩)] 106)) := (Below.refl _ _).alloc (Nat.le_refl _) _
 have hga := Blk.new (w.alloc (.cells #[.slice none 0 0] 51)) 106 #[.pointer (some ⟨gt, 0, none⟩)]
 rw [s1] at hga ⊢
 have bZ := b1.trans (e2.mono b1.size)
 have hlZ := hlb.step e2
 have htZ := h2.step bZ
 have hTZ := h3.step bZ
 generalize (w.alloc (.cells #[.slice none 0 0] 51)).alloc (.cells #[.pointer (some ⟨gt, 0, none⟩)] 106) = Z at *
 have hne : gt ≠ w.heap.size := fun e => by have := h2.lt; omega
 have hTZ2 : IsTree Z (fun b => b < w.heap.size) T p := (h3.more (S' := fun b => b < w.heap.size) fun b hl _ => hl).step bZ
 have hgaZ : w.heap.size + 1 < Z.heap.size := hga.lt
 clear m0 hlb e2 hTZ h2 h3 h1 hml h1l b1
 refine wp_rangeFunc_block 3 (gf := 89) (lb := #[.pointer (some ⟨w.heap.size + 1, 0, none⟩)]) rfl (enters_fn Tryz.func89 (by kernel_rfl) rfl)
  (allSeq T p gt (w.heap.size + 1) 64 (fun b => b < w.heap.size) Z hga htZ hTZ2 (by omega)) (fun h k => h.trans k) (fun W l o o' hl h hc => KpT.putObj W l o o' hl h hc) (fun _ => rfl)
  (fun pre W => ∃ A c, Blk W w.heap.size 51 #[.slice A pre.length c] ∧ Own W Z.heap.size A pre.length c (pre.map (·.1)) ∧ Below w.heap.size w W)
  (fun W => ∃ A c, Blk W w.heap.size 51 #[.slice A T.all.length c] ∧ Own W Z.heap.size A T.all.length c T.all ∧ Below w.heap.size w W)
  (fun s A B h hT => by obtain ⟨A', c, g1, g2, g3⟩ := h; exact ⟨A', c, g1.turn hT hlZ.lt, g2.turn hT, ⟨hT.os.trans g3.os, hT.tape.trans g3.tape, hT.output.trans g3.output, Nat.le_trans g3.size hT.size, fun k hk => (hT.low k (Nat.lt_of_lt_of_le hk g3.size) (by omega)).trans (g3.block k hk)⟩⟩)
  (fun _ A B h hT => by obtain ⟨A', c, g1, g2, g3⟩ := h; exact ⟨A', c, g1.turn hT hlZ.lt, g2.turn hT, ⟨hT.os.trans g3.os, hT.tape.trans g3.tape, hT.output.trans g3.output, Nat.le_trans g3.size hT.size, fun k hk => (hT.low k (Nat.lt_of_lt_of_le hk g3.size) (by omega)).trans (g3.block k hk)⟩⟩)
  ⟨none, 0, hlZ, Own.nil _ _, bZ⟩ ?round ?done ?end_
 case round =>
  rintro ll pre ⟨e, i⟩ W hll ⟨rc, hrc⟩ ⟨A, c, g1, g2, g3⟩ hG
  obtain ⟨hi, he, hlt⟩ := zipIdx_prefix hG
  simp only at hi he
  subst hi
  simp only [elNum, El.agg, putArgs2, List.setIfInBounds_toArray, List.set_cons_zero, List.set_cons_succ]
  repeat' (first | ((with_reducible refine regionIn_ff ?_); refine wpIn_region_r rfl ?_) | go_step | (with_reducible refine NoO.normal ?_))
  have eW : Below W.heap.size W (W.alloc (.cells #[.int .i64 e.epoch, .int .i64 e.rep, .int .i64 e.num, .int .i32 e.char, .int .i64 e.hides] 113)) := (Below.refl _ _).alloc (Nat.le_refl _) _
  refine ⟨KeepN.of_below eW, KpT.of_below eW, fun W2 hB2 => ?_⟩
  have k1 := hB2.blk (g1.step eW)
  have k2 := (g2.step eW).begun hB2
  have hx2 := hB2.blk (Blk.new W 113 #[.int .i64 e.epoch, .int .i64 e.rep, .int .i64 e.num, .int .i32 e.char, .int .i64 e.hides])
  have k3 : Below w.heap.size w W2 := by
   have h := g3.trans (eW.mono g3.size)
   exact ⟨hB2.os.trans h.os, hB2.tape.trans h.tape, hB2.output.trans h.output, by rw [hB2.size]; exact h.size, fun k hk => (hB2.block k (by omega)).trans (h.block k hk)⟩
  have hZW : Z.heap.size ≤ W2.heap.size := by
   have h1 := lt_of_heap hrc
   rw [hB2.size]
   have := eW.size
   omega
  generalize W.heap.size = xb at *
  have hpre : (pre ++ [(e, pre.length)]).length = pre.length + 1 := by simp
  have hmap : (pre ++ [(e, pre.length)]).map (·.1) = pre.map (·.1) ++ [e] := by simp
  have Hpre := hid (And.intro hpre hmap)
  have hG' := hid hG
  clear hpre hmap hG g1 g2 g3 eW hB2 hrc he
  generalize pre.length = m at *
  generalize pre.map (·.1) = es at *
  have l0 := k1.cell 0
  have f0 := k1.frozen 0
  have x0 := hx2.cell 0
  have x1 := hx2.cell 1
  have x2 := hx2.cell 2
  have x3 := hx2.cell 3
  have x4 := hx2.cell 4
  simp at l0 x0 x1 x2 x3 x4
  have hll := k1.lt
  have eX : Below W2.heap.size W2 (W2.alloc (.cells #[.int .i64 e.epoch, .int .i64 e.rep, .int .i64 e.num, .int .i32 e.char, .int .i64 e.hides] 113)) := (Below.refl _ _).alloc (Nat.le_refl _) _
  have hrow1 : Row (W2.alloc (.cells #[.int .i64 e.epoch, .int .i64 e.rep, .int .i64 e.num, .int .i32 e.char, .int .i64 e.hides] 113)) (fun _ => True) (some ⟨W2.heap.size, 0, none⟩) 1 1 [e] := Row.lit W2 _ [e] 1 _ trivial rfl (by decide) rfl
  have k2x := k2.step eX
  have k1x := k1.step eX
  have hsx := Nat.le_trans hZW eX.size
  repeat' (first | ((with_reducible refine append_here ?_); refine wp_append_el Z.heap.size A _ m c 1 1 es [e] (fun _ => True) (by rfl) (by rfl) k2x hrow1 hsx (by omega) ?_; intro A' c' w4 hown4 hb4 hsm4 hat4 hz4; have hl4 := k1x.below hb4 hlZ.lt; obtain ⟨-, l4, f4⟩ := bl1 hl4; have hll4 := hl4.lt) | ((with_reducible refine regionIn_ff ?_); refine wpIn_region_r rfl ?_) | go_step | (with_reducible refine NoO.normal ?_) | gi_step)
  have keep : ∀ b o, Z.heap.size ≤ b → W2.heap[b]? = some o → (∀ cs z, o ≠ .cells cs 113 z) → (w4.setCell ⟨w.heap.size, 0, none⟩ (.slice A' (m + 1) c')).heap[b]? = some o := fun b o hb ho hn =>
   (Below.heap_setCell _ _ _ _ (show b ≠ w.heap.size by omega)).trans (k2x.other hsm4 ((eX.block b (lt_of_heap ho)).trans ho) hn)
  have hbelow : Below Z.heap.size W2 w4 := (eX.mono hZW).trans hb4
  refine ⟨fun b o hb ho hc => keep b o hb ho (fun cs z e => by subst e; cases hc), ⟨by have := hbelow.size; simpa [World.setCell] using Nat.le_trans eX.size hz4, fun b hb hS hl => (Below.heap_setCell _ _ _ _ (show b ≠ w.heap.size by omega)).trans (hbelow.block b hb), fun b v hb hbx => ?_⟩, ?_⟩
  · rcases hbx with hbx | hbx
    · exact (keep b _ hb hbx (fun cs z e => by injection e with _ e; revert e; decide)).trans hbx.symm
    · exact (keep b _ hb hbx (fun cs z e => by injection e with _ e; revert e; decide)).trans hbx.symm
  · refine ⟨A', c', ?_, ?_, ?_⟩
    · rw [Hpre.out.1]
      exact hl4.set_ 0 _
    · show Own _ Z.heap.size A' ((pre ++ [(e, m)]).length) c' ((pre ++ [(e, m)]).map (·.1))
      rw [Hpre.out.1, Hpre.out.2]
      exact hown4.keep (S := fun b => b ≠ w.heap.size) (Same.setCell _ (fun h => h rfl) _) fun a ha => by have := (hown4.block a ha).1; omega
    · exact (k3.trans (hbelow.mono bZ.size)).setCell (Nat.le_refl _) _
 case done =>
  rintro xs W rfl ⟨A, c, g1, g2, g3⟩
  rw [List.length_zipIdx] at g1 g2
  exact ⟨A, c, g1, by simpa using g2, g3⟩
 case end_ =>
  rintro D W hD ⟨A, c, g1, g2, g3⟩ hK
  have l0 := g1.cell 0
  simp at l0
  repeat' (first | go_step)
  have hsA := hK
  refine leaves1 hsA (v := .slice A T.all.length c) (by rintro w' rfl; simp [results, Tryz.results21, go_sem]) ⟨A, c, rfl, ?_, ?_⟩
  · refine (g2.keep (S := fun b => b ≠ D) (fun b hb _ => World.putObj_heap_other hb) fun a ha e => ?_).mono bZ.size
    rcases g2.2.2 with h0 | ⟨g', cap, cur, e', hbg, hh, r⟩
    · injection h0.1 with h0
      rw [ha] at h0
      cases h0
    · injection e' with e1 e2 e3
      rw [ha] at e1
      injection e1 with e1
      subst e1
      have e0 : g' = D := e
      rw [e0, hK] at hh
      cases hh
  · exact ⟨g3.os, g3.tape, g3.output, by simpa using g3.size, fun k hk => (World.putObj_heap_other (by have := bZ.size; omega)).trans (g3.block k hk)⟩
end Go.Proofs.YteggpddlkkjmjaaGreatDoor
