/- Part of a proof: what functions of the program compute. Conditions: as each theorem says. -/
import Derived.Maps.RangeWalk
import Derived.Test.YteggpddlkkjmjaaGreatDoorQ16
import Derived.Test.YteggpddlkkjmjaaGreatDoorQ22
set_option linter.unusedSimpArgs false
set_option linter.unusedVariables false
set_option maxHeartbeats 8000000
set_option maxRecDepth 50000
namespace Go.Proofs.YteggpddlkkjmjaaGreatDoor
open Go Go.RowKit
theorem mlen_raw (w : World) (S : Nat → Prop) (mb gt gm : Nat) (T : Tr) (p : Option Addr) (h1 : Blk w mb 110 #[.pointer (some ⟨gt, 0, none⟩), .map (some gm)]) (h2 : Blk w gt 157 #[.int .i64 64, .pointer p]) (h3 : IsTree w S T p) :
 Calls Tryz.prog 43 #[.pointer (some ⟨mb, 0, none⟩)] w fun e w' => e = .returned (.int .i64 T.all.length) ∧ w = w' := by
 have m0 := h1.cell 0
 simp at m0
 have HL := hid (tlen_any T p gt 64 w h2 h3)
 go_enter Tryz.func43, Tryz.ntmps43
 repeat' (first | (go_at_call 80; go_must ((with_reducible refine Calls.mono HL.out ?_); rintro _ _ ⟨rfl, rfl⟩; dsimp only)) | go_step)
 go_ret
 exact ⟨rfl, rfl⟩
theorem But.turn_ {w A B : World} {x base : Nat} {t : TypeId} (h : But x w A) (hT : Turn t base A B) (hb : w.heap.size ≤ base) : But x w B :=
 ⟨hT.os.trans h.os, hT.tape.trans h.tape, hT.output.trans h.output, Nat.le_trans h.size hT.size, fun k hk h1 => (hT.low k (Nat.lt_of_lt_of_le hk h.size) (by omega)).trans (h.block k hk h1)⟩
theorem But.begun_ {w A B : World} {x l : Nat} (h : But x w A) (hB : Begun l A B) (hl : w.heap.size ≤ l) : But x w B :=
 ⟨hB.os.trans h.os, hB.tape.trans h.tape, hB.output.trans h.output, by rw [hB.size]; exact h.size, fun k hk h1 => (hB.block k (by omega)).trans (h.block k hk h1)⟩
def leftNm (l : List El) (pre : List El) : List Nm := (l.map El.nm).filter fun j => decide (j ∉ (deadOf pre).map El.nm)
theorem leftNm_mem (l pre : List El) (j : Nm) : j ∈ leftNm l pre ↔ j ∈ l.map El.nm ∧ j ∉ (deadOf pre).map El.nm := by
 unfold leftNm
 rw [List.mem_filter, decide_eq_true_iff]
theorem leftNm_live {l pre : List El} {e : El} (h : e.hides ≤ 0) : leftNm l (pre ++ [e]) = leftNm l pre := by
 unfold leftNm
 rw [deadOf_snoc, if_neg (by omega), List.append_nil]
theorem leftNm_dead {l pre : List El} {e : El} (h : 0 < e.hides) (j : Nm) : j ∈ (leftNm l pre).filter (· ≠ e.nm) ↔ j ∈ leftNm l (pre ++ [e]) := by
 rw [List.mem_filter, leftNm_mem, leftNm_mem, deadOf_snoc, if_pos h]
 simp [and_assoc]
theorem leftNm_nil (l : List El) (j : Nm) : j ∈ l.map El.nm ↔ j ∈ leftNm l [] := by
 rw [leftNm_mem]
 simp [deadOf]
def PurgeAt (w Z : World) (mb gm K : Nat) (l pre : List El) (W : World) : Prop :=
 ∃ A c, Blk W w.heap.size 52 #[.pointer (some ⟨mb, 0, none⟩)] ∧ Blk W (w.heap.size + 1) 51 #[.slice A (purgeOf pre).length c] ∧ Own W Z.heap.size A (purgeOf pre).length c (purgeOf pre) ∧ IsIds W gm K (leftNm l pre) ∧ But gm w W
theorem PurgeAt.turn {w Z A B : World} {mb gm K : Nat} {l pre : List El} (h : PurgeAt w Z mb gm K l pre A) (hT : Turn 3 Z.heap.size A B) (hz : w.heap.size + 1 < Z.heap.size) (hg : gm < w.heap.size) : PurgeAt w Z mb gm K l pre B := by
 obtain ⟨A', c, g0, g1, g2, g3, g4⟩ := h
 exact ⟨A', c, g0.turn hT (by omega), g1.turn hT hz, g2.turn hT, g3.heap (hT.low _ g3.lt (by omega)), g4.turn_ hT (by omega)⟩
def MdlAt (w : World) (S : Nat → Prop) (mb gt gm : Nat) (l : List El) (K : Nat) : Prop :=
 ∃ p T, Blk w mb 110 #[.pointer (some ⟨gt, 0, none⟩), .map (some gm)] ∧ Blk w gt 157 #[.int .i64 64, .pointer p] ∧ IsTree w (fun b => S b ∧ b ≠ gt) T p ∧ T.all = l ∧ IsIds w gm K (l.map El.nm) ∧
  S mb ∧ S gt ∧ S gm ∧ ∀ e ∈ l, e.Good
theorem MdlAt.mdl {w : World} {S : Nat → Prop} {mb gt gm : Nat} {l : List El} {K : Nat} (h : MdlAt w S mb gt gm l K) : Mdl w S mb l K := by
 obtain ⟨p, T, h⟩ := h
 exact ⟨gt, gm, p, T, h⟩
theorem mpurge_at (w : World) (S : Nat → Prop) (mb gt gm : Nat) (l : List El) (K : Nat) (h : MdlAt w S mb gt gm l K) (hl : l.length ≤ 536870912) (hnd : (l.map El.nm).Nodup) :
 Calls Tryz.prog 85 #[.pointer (some ⟨mb, 0, none⟩)] w fun r w' => r = .returned (.int .i64 ((l.length : Int) - (purgeOf l).length)) ∧ MdlAt w' (Fr w S) mb gt gm (purgeOf l) K ∧ Out (fun b => b = gt ∨ b = gm) w w' := by
 obtain ⟨p, T, h1, h2, h3, rfl, h5, h6, h7, h8, h9⟩ := h
 have b0 : Below w.heap.size w (w.alloc (.cells #[.pointer (some ⟨mb, 0, none⟩)] 52)) := balloc (Below.refl _ _)
 have s0 : (w.alloc (.cells #[.pointer (some ⟨mb, 0, none⟩)] 52)).heap.size = w.heap.size + 1 := Array.size_push _
 have b1 : Below w.heap.size w ((w.alloc (.cells #[.pointer (some ⟨mb, 0, none⟩)] 52)).alloc (.cells #[.slice none 0 0] 51)) := balloc b0
 have hmbk := (Blk.new w 52 #[.pointer (some ⟨mb, 0, none⟩)]).step (balloc (o := .cells #[.slice none 0 0] 51) (Below.refl _ _))
 have hlb := Blk.new (w.alloc (.cells #[.pointer (some ⟨mb, 0, none⟩)] 52)) 51 #[.slice none 0 0]
 rw [s0] at hlb
 have m0 := h1.cell 0
 simp at m0
 have hml := h1.lt
 have H9 := hid h9
 have Hnd := hid hnd
 have H5 := hid h5
 have hgm := h5.lt
 have hne1 : gm ≠ mb := fun e => h5.ne_blk h1 e.symm
 have hne2 : gm ≠ gt := fun e => h5.ne_blk h2 e.symm
 clear h9 hnd
 refine calls_of_marks Tryz.func85 rfl ?_
 simp only [Tryz.ntmps85, List.size_toArray, List.length_cons, List.length_nil, Nat.reduceAdd, Nat.reduceSub, Array.replicate_succ, Array.replicate_zero, List.push_toArray, List.append_toArray, List.nil_append, List.cons_append]
 repeat' (first | (go_at_call 54; go_must ((with_reducible refine Calls.mono (all_any gt _) ?_); rintro _ _ ⟨rfl, rfl⟩; dsimp only)) | (with_reducible refine stop_block 0 ?_) | go_step)
 refine Stop.go ?_
 have s1 : ((w.alloc (.cells #[.pointer (some ⟨mb, 0, none⟩)] 52)).alloc (.cells #[.slice none 0 0] 51)).heap.size = w.heap.size + 2 := by rw [show ((w.alloc (.cells #[.pointer (some ⟨mb, 0, none⟩)] 52)).alloc (.cells #[.slice none 0 0] 51)).heap.size = (w.alloc (.cells #[.pointer (some ⟨mb, 0, none⟩)] 52)).heap.size + 1 from Array.size_push _, s0]
 have e2 : Below w.heap.size w (((w.alloc (.cells #[.pointer (some ⟨mb, 0, none⟩)] 52)).alloc (.cells #[.slice none 0 0] 51)).alloc (.cells #[.pointer (some ⟨gt, 0, none⟩)] 106)) := balloc b1
 have hga := Blk.new ((w.alloc (.cells #[.pointer (some ⟨mb, 0, none⟩)] 52)).alloc (.cells #[.slice none 0 0] 51)) 106 #[.pointer (some ⟨gt, 0, none⟩)]
 have hmbZ := hmbk.step (balloc (o := .cells #[.pointer (some ⟨gt, 0, none⟩)] 106) (Below.refl _ _))
 have hlbZ := hlb.step (balloc (o := .cells #[.pointer (some ⟨gt, 0, none⟩)] 106) (Below.refl _ _))
 rw [s1] at hga ⊢
 try rw [s0]
 generalize (((w.alloc (.cells #[.pointer (some ⟨mb, 0, none⟩)] 52)).alloc (.cells #[.slice none 0 0] 51)).alloc (.cells #[.pointer (some ⟨gt, 0, none⟩)] 106)) = Z at *
 have htZ := h2.step e2
 have hT0 : IsTree w (fun b => b < w.heap.size ∧ b ≠ gm ∧ S b ∧ b ≠ gt) T p := (h3.strict).more fun b hb hS => ⟨hb, (fun e => by
  subst e
  obtain ⟨cs, u, z, hc, _⟩ := hS.2
  obtain ⟨n, D, ⟨es, clock, hm, _⟩, _⟩ := h5
  rw [hm] at hc
  cases hc), hS.1⟩
 have hTZ := hT0.step e2
 have hTZ2 : IsTree Z (fun b => b < w.heap.size ∧ b ≠ gm) T p := hTZ.more fun b _ h => ⟨h.1, h.2.1⟩
 have hgaZ : w.heap.size + 2 < Z.heap.size := hga.lt
 clear m0 hlb s0 s1 b0 b1 hmbk h5
 refine wp_rangeFunc_block 3 (gf := 89) (lb := #[.pointer (some ⟨w.heap.size + 2, 0, none⟩)]) rfl (enters_fn Tryz.func89 (by kernel_rfl) rfl)
  (allSeq T p gt (w.heap.size + 2) 64 (fun b => b < w.heap.size ∧ b ≠ gm) Z hga htZ hTZ2 (by omega)) (fun h k => h.trans k) (fun W l o o' hl h hc => KpT.putObj W l o o' hl h hc) (fun _ => rfl)
  (fun (pre : List (El × Nat)) W => PurgeAt w Z mb gm K T.all (pre.map Prod.fst) W)
  (fun W => PurgeAt w Z mb gm K T.all T.all W)
  (fun s A B h hT => h.turn hT (by omega) hgm)
  (fun _ A B h hT => h.turn hT (by omega) hgm)
  ⟨none, 0, hmbZ, hlbZ, Own.nil _ _, (H5.out.heap (e2.block _ hgm)).eq (leftNm_nil T.all), But.of_below e2⟩ ?round ?done ?end_
 case round =>
  rintro ll pre ⟨e, i⟩ W hll ⟨rc, hrc⟩ ⟨A, c, g0, g1, g2, g3, g4⟩ hG
  obtain ⟨hi, he, hlt⟩ := zipIdx_prefix hG
  simp only at hi he
  subst hi
  simp only [elNum, El.agg, putArgs2, List.setIfInBounds_toArray, List.set_cons_zero, List.set_cons_succ]
  repeat' (first | ((with_reducible refine regionIn_ff ?_); refine wpIn_region_r rfl ?_) | go_step | (with_reducible refine NoO.normal ?_))
  have eW : Below W.heap.size W (W.alloc (.cells #[.int .i64 e.epoch, .int .i64 e.rep, .int .i64 e.num, .int .i32 e.char, .int .i64 e.hides] 113)) := (Below.refl _ _).alloc (Nat.le_refl _) _
  refine ⟨KeepN.of_below eW, KpT.of_below eW, fun W2 hB2 => ?_⟩
  have k0 := hB2.blk (g0.step eW)
  have k1 := hB2.blk (g1.step eW)
  have k2 := (g2.step eW).begun hB2
  have k3 : IsIds W2 gm K (leftNm T.all (pre.map Prod.fst)) := (g3.heap (eW.block _ g3.lt)).heap (hB2.block _ (by omega))
  have k4 := (g4.trans (But.of_below eW)).begun_ hB2 (by omega)
  have hx2 := hB2.blk (Blk.new W 113 #[.int .i64 e.epoch, .int .i64 e.rep, .int .i64 e.num, .int .i32 e.char, .int .i64 e.hides])
  have hZW : Z.heap.size ≤ W2.heap.size := by
   have h1 := lt_of_heap hrc
   rw [hB2.size]
   have := eW.size
   omega
  have hxb : Z.heap.size ≤ W.heap.size := by
   have h1 := lt_of_heap hrc
   omega
  generalize W.heap.size = xb at *
  have hnm : e.nm.In := (H9.out e (List.mem_of_getElem? he)).nm
  have hmap : (pre ++ [(e, pre.length)]).map Prod.fst = pre.map Prod.fst ++ [e] := by simp
  have hple : (purgeOf (pre.map Prod.fst)).length ≤ pre.length := by have := purgeOf_le (pre.map Prod.fst); rwa [List.length_map] at this
  have Hmap := hid hmap
  have HWt := hid (fun W => weight_any e W)
  have hG' := hid hG
  clear hmap hG g0 g1 g2 g3 g4 eW hB2 hrc he
  generalize pre.map Prod.fst = es at *
  obtain ⟨x0, x1, x2, x3, x4, xl⟩ := Blk.five hx2
  by_cases hh : e.hides ≤ 0
  · have hlv : e.live = 1 := by unfold El.live; rw [if_neg (by omega)]
    rw [hlv, show ((1 : Nat) : Int) = 1 from rfl] at HWt
    have Hh := hid hh
    clear hh hlv
    repeat' (first | (go_at_call 82; go_must ((with_reducible refine Calls.mono (HWt.out _) ?_); rintro _ w3 ⟨rfl, hb3⟩; obtain ⟨x0, x1, x2, x3, x4, xl⟩ := Blk.five (Blk.step hx2 hb3); obtain ⟨hll, l0, f0⟩ := bl1 (k1.step hb3); have eX : Below w3.heap.size w3 (w3.alloc (.cells #[.int .i64 e.epoch, .int .i64 e.rep, .int .i64 e.num, .int .i32 e.char, .int .i64 e.hides] 113)) := balloc (Below.refl _ _); have hrow1 := Row.one w3 e; have k2x := (k2.step hb3).step eX; have k1x := (k1.step hb3).step eX; have hb23 := hb3.size; have hsx := Nat.le_trans hZW (Nat.le_trans hb3.size eX.size); have bX := bvia hb3 eX; dsimp only)) | ((with_reducible refine append_here ?_); refine wp_append_el Z.heap.size A _ (purgeOf es).length c 1 1 (purgeOf es) [e] (fun _ => True) (by rfl) (by rfl) k2x hrow1 hsx (by omega) ?_; intro A' c' w4 hown4 hb4 hsm4 hat4 hz4; have hl4 := k1x.below hb4 (by omega); obtain ⟨-, l4, f4⟩ := bl1 hl4; have hll4 := hl4.lt) | ((with_reducible refine regionIn_ff ?_); refine wpIn_region_r rfl ?_) | go_step | (with_reducible refine NoO.normal ?_) | gi_step)
    have keep : ∀ b o, Z.heap.size ≤ b → W2.heap[b]? = some o → (∀ cs z, o ≠ .cells cs 113 z) → (w4.setCell ⟨w.heap.size + 1, 0, none⟩ (.slice A' ((purgeOf es).length + 1) c')).heap[b]? = some o := fun b o hb ho hn =>
     (Below.heap_setCell _ _ _ _ (show b ≠ w.heap.size + 1 by omega)).trans (k2x.other hsm4 ((bX.block b (lt_of_heap ho)).trans ho) hn)
    have hbelow : Below Z.heap.size W2 w4 := (bX.mono hZW).trans hb4
    refine ⟨fun b o hb ho hc => keep b o hb ho (fun cs z e => by subst e; cases hc), ⟨by have := hbelow.size; simpa [World.setCell] using this, fun b hb hS hl => (Below.heap_setCell _ _ _ _ (show b ≠ w.heap.size + 1 by omega)).trans (hbelow.block b hb), fun b v hb hbx => ?_⟩, ?_⟩
    · rcases hbx with hbx | hbx
      · exact (keep b _ hb hbx (fun cs z e => by injection e with _ e; revert e; decide)).trans hbx.symm
      · exact (keep b _ hb hbx (fun cs z e => by injection e with _ e; revert e; decide)).trans hbx.symm
    · show PurgeAt w Z mb gm K T.all (List.map Prod.fst (pre ++ [(e, pre.length)])) _
      rw [Hmap.out]
      have hgmZ : gm < Z.heap.size := by omega
      refine ⟨A', c', ?_, ?_, ?_, ?_, ?_⟩
      · exact (k0.below hbelow (by omega)).far (by show _ ≠ w.heap.size + 1; omega) _
      · rw [purgeOf_snoc, if_pos Hh.out, List.length_append]
        exact hl4.set_ 0 _
      · rw [purgeOf_snoc, if_pos Hh.out, List.length_append]
        exact hown4.keep (S := fun b => b ≠ w.heap.size + 1) (Same.setCell _ (fun h => h rfl) _) fun a ha => by have := (hown4.block a ha).1; omega
      · rw [leftNm_live Hh.out]
        exact (k3.heap (hbelow.block _ hgmZ)).heap (Below.heap_setCell _ _ _ _ (by show gm ≠ w.heap.size + 1; omega))
      · exact ⟨hbelow.os.trans k4.os, hbelow.tape.trans k4.tape, hbelow.output.trans k4.output, by have := hbelow.size; have := k4.size; simp [World.setCell]; omega, fun k hk hne => (Below.heap_setCell _ _ _ _ (by show k ≠ w.heap.size + 1; omega)).trans ((hbelow.block k (by omega)).trans (k4.block k hk hne))⟩
  · have hlv : e.live = 0 := by unfold El.live; rw [if_pos (by omega)]
    rw [hlv, show ((0 : Nat) : Int) = 0 from rfl] at HWt
    have Hh := hid hh
    clear hh hlv
    have hm2 := k4.blk h1 (fun e => hne1 e.symm)
    have t0 : w.heap.size ≠ gm := by omega
    have t1 : mb ≠ gm := fun e => hne1 e.symm
    have t2 : xb ≠ gm := by omega
    repeat' (first | (go_at_call 82; go_must ((with_reducible refine Calls.mono (HWt.out _) ?_); rintro _ w3 ⟨rfl, hb3⟩; obtain ⟨x0, x1, x2, x3, x4, xl⟩ := Blk.five (Blk.step hx2 hb3); have l0 := (k0.step hb3).cell 0; have hll := (k0.step hb3).lt; have m1 := (hm2.step hb3).cell 1; have ml := (hm2.step hb3).lt; simp at l0 m1; obtain ⟨w4, hrun, hI4, hT4⟩ := ((k3.heap (hb3.block _ k3.lt)).drew).del e.nm hnm 0; simp only [Nm.val, El.nm] at hrun; have HI4 := hid (And.intro hI4 hT4); clear hI4 hT4; have q0 : w3.drew.heap[w.heap.size]? = some (.cells #[.pointer (some ⟨mb, 0, none⟩)] 52 (0, 0)) := (k0.step hb3).drew; have q1 : w3.drew.heap[mb]? = some (.cells #[.pointer (some ⟨gt, 0, none⟩), .map (some gm)] 110 (0, 0)) := (hm2.step hb3).drew; have q2 : w3.drew.heap[xb]? = some (.cells #[.int .i64 e.epoch, .int .i64 e.rep, .int .i64 e.num, .int .i32 e.char, .int .i64 e.hides] 113 (0, 0)) := (hx2.step hb3).drew; have hk4 : KeepT (fun b => b ≠ gm) w3.drew w4 := ⟨(But.of_turned HI4.out.2).size, fun b hl hb => (But.of_turned HI4.out.2).block b hl hb⟩; dsimp only)) | ((with_reducible refine regionIn_at 6 ?_); refine wpIn_region_ordT (fun b => b ≠ gm) rfl (rgo [0,4,8,12,16,20,24,29] .nil) (by kernel_rfl) (by kernel_rfl) (by kernel_rfl) rfl rfl ?_) | ((with_reducible refine regionIn_ff ?_); refine wpIn_region_r rfl ?_) | (with_reducible refine Keep.kept (by assumption) ?_) | ((with_reducible refine WpO.here ?_); first | (refine WpO.done ?_; refine NoO.normal ?_) | ((first | refine WpO.loadT (by rfl) (by rfl) (by go_simp; rfl) (by rintro _ _ ⟨⟩; exact ⟨_, _, _, _, _, _, by rfl, by assumption, by assumption⟩) ?_ | refine WpO.pure (by rfl) (fun w_ => by go_simp; (try go_bits); rfl) ?_); go_frame) | refine WpO.wild ?_) | ((with_reducible refine wildO.here ?_); (refine wildO.go (by rfl) (fun _ _ => ?_))) | go_step | (with_reducible refine NoO.normal ?_) | gi_step)
    have hbut := But.of_turned HI4.out.2
    have hsz4 : w3.heap.size ≤ w4.heap.size := hbut.size
    have hs3 := hb3.size
    have hgm3 : ∀ b, b < W2.heap.size → b ≠ gm → w4.heap[b]? = W2.heap[b]? := fun b hb hne => (hbut.block b (Nat.lt_of_lt_of_le hb hs3) hne).trans (hb3.block b hb)
    refine ⟨fun b o hb ho hc => (hgm3 b (lt_of_heap ho) (by omega)).trans ho, ⟨Nat.le_trans hs3 hsz4, fun b hb hS hl => hgm3 b hl hS.2, fun b v hb hbx => hgm3 b (by rcases hbx with hbx | hbx <;> exact hbx.lt) (by omega)⟩, ?_⟩
    show PurgeAt w Z mb gm K T.all (List.map Prod.fst (pre ++ [(e, pre.length)])) _
    rw [Hmap.out]
    refine ⟨A, c, ?_, ?_, ?_, ?_, ?_⟩
    · exact (hgm3 _ k0.lt (by omega)).trans k0
    · rw [purgeOf_snoc, if_neg Hh.out, List.append_nil]
      exact (hgm3 _ k1.lt (by omega)).trans k1
    · rw [purgeOf_snoc, if_neg Hh.out, List.append_nil]
      exact k2.keep (S := fun b => b ≠ gm) (fun b hb hl => hgm3 b hl hb) fun a ha => by have := (k2.block a ha).1; omega
    · exact HI4.out.1.eq (leftNm_dead (Int.not_le.1 Hh.out))
    · exact ⟨hbut.os.trans (hb3.os.trans k4.os), hbut.tape.trans (hb3.tape.trans k4.tape), hbut.output.trans (hb3.output.trans k4.output), by have := k4.size; omega, fun k hk hne => (hgm3 k (by have := k4.size; omega) hne).trans (k4.block k hk hne)⟩
 case done =>
  rintro xs W rfl h
  rwa [show T.all.zipIdx.map Prod.fst = T.all from by simp] at h
 case end_ =>
  rintro D W hD ⟨A, c, g0, g1, g2, g3, g4⟩ hK
  have k1 := g4.blk h1 (fun e => hne1 e.symm)
  have k2 := g4.blk h2 (fun e => hne2 e.symm)
  have k3 : IsTree W (fun b => b < w.heap.size ∧ b ≠ gm ∧ S b ∧ b ≠ gt) T p := hT0.keep fun b hb hl => g4.block b hb.1 hb.2.1
  have hids : IsIds W gm K ((purgeOf T.all).map El.nm) := g3.eq fun j => (leftNm_mem _ _ j).trans (purge_names Hnd.out j)
  have hpl := purgeOf_le T.all
  have hgood : ∀ e ∈ purgeOf T.all, e.Good := fun e he => H9.out e (purgeOf_mem he)
  have l0 := g0.cell 0
  have l1 := g1.cell 0
  have ll0 := g0.lt
  have ll1 := g1.lt
  simp at l0 l1
  have HL := hid (mlen_raw W.drew _ mb gt gm T p k1 k2 k3.drew)
  have hgW := g4.size
  have hgtl := h2.lt
  have hDW := lt_of_heap hK
  have Hg := hid (And.intro hids hgood)
  clear hids hgood
  by_cases hz : (purgeOf T.all).length = T.all.length
  · have hpe := purgeOf_full hz
    have Hpe := hid hpe
    rw [hpe] at l1
    have hcl := g2.cap_le
    repeat' (first | ((with_reducible refine region_at 7 ?_); refine wp_region_order (rgl [0,8,12,5,16,20]) (by kernel_rfl) (by kernel_rfl) (by kernel_rfl) rfl rfl ?_) | (go_at_call 43; go_must ((with_reducible refine Calls.mono HL.out ?_); rintro _ _ ⟨rfl, rfl⟩; dsimp only)) | (with_reducible refine Keep.same ?_) | ((with_reducible refine WpH.here ?_); first | (refine WpH.nil ?_; refine NoP.normal ?_) | ((first | refine WpH.load (by rfl) (by rfl) (by go_simp; rfl) ?_ | refine WpH.pure (by rfl) (fun w_ => by go_simp; (try go_bits); rfl) ?_); go_frame) | (refine WpH.wild1 (by rfl) (fun _ _ => ?_))) | go_step)
    have hput : ∀ b, b < w.heap.size → (W.drew.putObj D (.deferred none)).heap[b]? = W.heap[b]? := fun b hb => World.putObj_heap_other (by omega)
    refine leaves1 hK (v := .int .i64 0) (by rintro w' rfl; simp [results, Tryz.results85, go_sem]) ⟨by rw [hz, Int.sub_self], ⟨p, T, (hput mb h1.lt).trans k1, (hput gt h2.lt).trans k2, (k3.keep fun b hb hl => hput b hb.1).more fun b _ h => ⟨.inl h.2.2.1, h.2.2.2⟩, Hpe.out.symm, Hg.out.1.heap (hput gm hgm), .inl h6, .inl h7, .inl h8, Hg.out.2⟩, ?_⟩
    exact ⟨g4.os, g4.tape, g4.output, by simpa using g4.size, fun k hk hn => (hput k hk).trans (g4.block k hk fun e => hn (.inr e))⟩
  · have hz1 : (purgeOf T.all).length < T.all.length := by omega
    have hgo : (T.all.length : Int) - ((purgeOf T.all).length : Nat) > 0 := by omega
    have hcl := g2.cap_le
    have HR := hid (remove_ok T p gt 64 0 T.all.length (fun b => b < w.heap.size ∧ b ≠ gm ∧ S b ∧ b ≠ gt) W.drew.drew k2 k3.drew.drew (fun h => h.2.2.2 rfl) (by omega) (by omega) (by decide) (by decide))
    rw [show ((0 : Nat) : Int) = 0 from rfl] at HR
    have HL2 := hid (mlen_raw W.drew.drew _ mb gt gm T p k1 k2 k3.drew.drew)
    have t0 : w.heap.size ≠ gt := by omega
    have t1 : mb ≠ gt := h1.ne h2 (by decide)
    have t2 : w.heap.size + 1 ≠ gt := by omega
    have q0 : W.drew.drew.heap[w.heap.size]? = some (.cells #[.pointer (some ⟨mb, 0, none⟩)] 52 (0, 0)) := g0
    have q1 : W.drew.drew.heap[mb]? = some (.cells #[.pointer (some ⟨gt, 0, none⟩), .map (some gm)] 110 (0, 0)) := k1
    have m0 := k1.cell 0
    have ml := k1.lt
    simp at m0
    have hown := g2.row (S := fun b => Z.heap.size ≤ b) fun b h _ => h
    have Hown := hid (And.intro g0 (And.intro g1 (And.intro k1 hown)))
    repeat' (first | ((with_reducible refine region_at 7 ?_); refine wp_region_order (rgl [0,8,12,5,16,20]) (by kernel_rfl) (by kernel_rfl) (by kernel_rfl) rfl rfl ?_) | (go_at_call 43; go_must ((first | (with_reducible refine Calls.mono HL.out ?_) | (with_reducible refine Calls.mono HL2.out ?_)); rintro _ _ ⟨rfl, rfl⟩; dsimp only)) | ((with_reducible refine region_at 9 ?_); refine wp_region_orderT (fun b => b ≠ gt) (rgl [0,4,8,12,16,20,25,29]) (by kernel_rfl) (by kernel_rfl) (by kernel_rfl) rfl rfl ?_) | (go_at_call 120; go_must ((with_reducible refine Calls.mono HR.out ?_); rintro _ w5 ⟨p5, T5, rfl, hT5, hb5, ⟨hq5, _⟩, hB5⟩; have hk5 : KeepT (fun b => b ≠ gt) _ w5 := ⟨hB5.size, fun b hl hb => hB5.block b hl hb⟩; have hT5e : T5.all = [] := (by rw [hq5]; simp); have j0 := (hB5.blk Hown.out.1 t0).drew; have j1 := (hB5.blk Hown.out.2.1 t2).drew; have j2 := (hB5.blk Hown.out.2.2.1 t1).drew; have l0 := j0.cell 0; have l1 := j1.cell 0; have m0 := j2.cell 0; have ll0 := j0.lt; have ll1 := j1.lt; have ml := j2.lt; simp at l0 l1 m0; have q3 : w5.drew.heap[w.heap.size]? = some (.cells #[.pointer (some ⟨mb, 0, none⟩)] 52 (0, 0)) := j0; have q4 : w5.drew.heap[mb]? = some (.cells #[.pointer (some ⟨gt, 0, none⟩), .map (some gm)] 110 (0, 0)) := j2; have q5 : w5.drew.heap[w.heap.size + 1]? = some (.cells #[.slice A (purgeOf T.all).length c] 51 (0, 0)) := j1; have HI := hid (insert_ok T5 p5 gt 64 0 A (purgeOf T.all).length c (purgeOf T.all) _ (fun b => Z.heap.size ≤ b) w5.drew hb5.drew hT5.drew (fun h => by rcases h with h | h; exact h.2.2.2 rfl; (have h' : W.heap.size ≤ gt := h); omega) ((Hown.out.2.2.2.keep (w' := w5) (fun b hb hl => hB5.block b hl (by omega))).drew) (by rw [hT5e]; simp; omega) (Nat.zero_le _) (by decide) (by decide)); rw [show ((0 : Nat) : Int) = 0 from rfl] at HI; dsimp only)) | ((with_reducible refine region_at 10 ?_); refine wp_region_orderT (fun b => b ≠ gt) (rgl [0,4,8,12,16,20,25]) (by kernel_rfl) (by kernel_rfl) (by kernel_rfl) rfl rfl ?_) | (go_at_call 94; go_must ((with_reducible refine Calls.mono HI.out ?_); rintro _ w6 ⟨p6, T6, rfl, hT6, hb6, ⟨hq6, _⟩, hB6⟩; have hk6 : KeepT (fun b => b ≠ gt) _ w6 := ⟨hB6.size, fun b hl hb => hB6.block b hl hb⟩; dsimp only)) | (with_reducible first | refine Keep.kept (by assumption) ?_ | refine Keep.same ?_) | ((with_reducible refine WpH.here ?_); first | (refine WpH.nil ?_; refine NoP.normal ?_) | ((first | refine WpH.load (by rfl) (by rfl) (by go_simp; rfl) ?_ | refine WpH.loadT (by rfl) (by rfl) (by go_simp; rfl) (by rintro _ _ ⟨⟩; exact ⟨_, _, _, _, _, _, by rfl, by assumption, by assumption⟩) ?_ | refine WpH.pure (by rfl) (fun w_ => by go_simp; (try go_bits); rfl) ?_); go_frame) | (refine WpH.wild1 (by rfl) (fun _ _ => ?_))) | go_step)
    have hs5 : W.heap.size ≤ w5.heap.size := hB5.size
    have hs6 : w5.heap.size ≤ w6.heap.size := hB6.size
    have hW6 : ∀ b, b < W.heap.size → b ≠ gt → w6.heap[b]? = W.heap[b]? := fun b hb hne => (hB6.block b (Nat.lt_of_lt_of_le hb hs5) hne).trans (hB5.block b hb hne)
    have hput : ∀ b, b < w.heap.size → (w6.putObj D (.deferred none)).heap[b]? = w6.heap[b]? := fun b hb => World.putObj_heap_other (by omega)
    have hkD : w6.heap[D]? = some (.deferred (some [])) := (hW6 D hDW (by omega)).trans hK
    refine leaves1 hkD (v := .int .i64 ((T.all.length : Int) - (purgeOf T.all).length)) (by rintro w' rfl; simp [results, Tryz.results85, go_sem]) ⟨rfl, ⟨p6, T6, (hput mb h1.lt).trans ((hW6 mb (by omega) t1).trans k1), (hput gt h2.lt).trans hb6, (hT6.keep fun b hb hl => ?_).more fun b hbl h => ?_, by rw [hq6, hT5e]; simp, (Hg.out.1.heap (hW6 gm (by omega) hne2)).heap (hput gm hgm), .inl h6, .inl h7, .inl h8, Hg.out.2⟩, ?_⟩
    · refine World.putObj_heap_other ?_
      rcases hb with (h | h) | h
      · have := h.1; omega
      · have h' : W.heap.size ≤ b := h
        omega
      · have h' : w5.heap.size ≤ b := h
        omega
    · rcases h with (h | h) | h
      · exact ⟨.inl h.2.2.1, h.2.2.2⟩
      · have h' : W.heap.size ≤ b := h
        exact ⟨.inr (by omega), by omega⟩
      · have h' : w5.heap.size ≤ b := h
        exact ⟨.inr (by omega), by omega⟩
    · exact ⟨hB6.os.trans (hB5.os.trans g4.os), hB6.tape.trans (hB5.tape.trans g4.tape), hB6.output.trans (hB5.output.trans g4.output), by simp; omega, fun k hk hn => (hput k hk).trans ((hW6 k (by omega) (fun e => hn (.inl e))).trans (g4.block k hk fun e => hn (.inr e)))⟩
theorem mpurge_any (w : World) (S : Nat → Prop) (mb : Nat) (l : List El) (K : Nat) (h : Mdl w S mb l K) (hl : l.length ≤ 536870912) (hnd : (l.map El.nm).Nodup) :
 Calls Tryz.prog 85 #[.pointer (some ⟨mb, 0, none⟩)] w fun r w' => r = .returned (.int .i64 ((l.length : Int) - (purgeOf l).length)) ∧ Mdl w' (Fr w S) mb (purgeOf l) K ∧ Out S w w' := by
 obtain ⟨gt, gm, p, T, h⟩ := h
 refine (mpurge_at w S mb gt gm l K ⟨p, T, h⟩ hl hnd).mono ?_
 rintro r w' ⟨h1, h2, h3⟩
 obtain ⟨-, -, -, -, -, -, h7, h8, -⟩ := h
 exact ⟨h1, h2.mdl, h3.os, h3.tape, h3.output, h3.size, fun k hk hn => h3.block k hk (fun h' => by
  rcases h' with rfl | rfl
  · exact hn h7
  · exact hn h8)⟩
end Go.Proofs.YteggpddlkkjmjaaGreatDoor
