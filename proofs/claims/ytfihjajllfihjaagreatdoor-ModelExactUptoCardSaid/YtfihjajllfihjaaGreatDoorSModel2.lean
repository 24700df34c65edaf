/- A model's elements as a list; an element laid in. Conditions: the model lies in memory, fewer than 2^29 elements. -/
import Derived.Test.YtfihjajllfihjaaGreatDoorP18
namespace Go.Proofs.YtfihjajllfihjaaGreatDoor
set_option linter.unusedSimpArgs false
set_option linter.unusedVariables false
open Go Go.RowKit
theorem Own.turn {w w' : World} {base base' : Nat} {A : Option Addr} {n c : Nat} {es : List El} (h : Own w base A n c es) (hT : Turn 3 base' w w') : Own w' base A n c es := by
  refine ⟨h.1, h.2.1, ?_⟩
  rcases h.2.2 with h0 | ⟨g, cap, cur, e, hbg, hh, r⟩
  · exact .inl h0
  · exact .inr ⟨g, cap, cur, e, hbg, (hT.cells g _ _ _ hh (fun h => by have := h.2.1; revert this; decide)).trans hh, r⟩
theorem Own.begun {w w' : World} {l base : Nat} {A : Option Addr} {n c : Nat} {es : List El} (h : Own w base A n c es) (hT : Begun l w w') : Own w' base A n c es := by
  refine ⟨h.1, h.2.1, ?_⟩
  rcases h.2.2 with h0 | ⟨g, cap, cur, e, hbg, hh, r⟩
  · exact .inl h0
  · obtain ⟨q, q', hr, _⟩ := hT.record
    exact .inr ⟨g, cap, cur, e, hbg, (hT.block g (fun e' => by subst e'; rw [hr] at hh; cases hh)).trans hh, r⟩
/-- what an append to a slice of the call's own keeps of what is not that slice -/
theorem Own.other {w w' : World} {base : Nat} {A : Option Addr} {n c : Nat} {es : List El} (h : Own w base A n c es) (hs : Same (fun k => ∀ g, A = some g → g.block ≠ k) w w') {b : Nat} {o : Obj} (hb : w.heap[b]? = some o) (ho : ∀ cs z, o ≠ .cells cs 32 z) :
    w'.heap[b]? = some o := by
  refine (hs b (fun g hg e => ?_) (lt_of_heap hb)).trans hb
  rcases h.2.2 with h0 | ⟨g', cap, cur, e', hbg, hh, r⟩
  · injection h0.1 with h0
    rw [hg] at h0
    cases h0
  · injection e' with e1 e2 e3
    rw [hg] at e1
    injection e1 with e1
    subst e1
    subst e
    rw [hh] at hb
    injection hb with hb
    exact ho _ _ hb.symm
set_option maxRecDepth 50000 in
set_option maxHeartbeats 4000000 in
theorem melements_any (w : World) (S : Nat → Prop) (mb : Nat) (l : List El) (K : Nat) (h : Mdl w S mb l K) (hl : l.length ≤ 536870912) :
    Calls Tryz.prog 16 #[.pointer (some ⟨mb, 0, none⟩)] w fun r w' => ∃ A c, r = .returned (.slice A l.length c) ∧ Own w' w.heap.size A l.length c l ∧ Below w.heap.size w w' := by
  obtain ⟨gt, gm, p, T, h1, h2, h3, rfl, h5, h6, h7, h8, h9⟩ := h
  have b1 : Below w.heap.size w (w.alloc (.cells #[.slice none 0 0] 22)) := (Below.refl _ _).alloc (Nat.le_refl _) _
  have hlb := Blk.new w 22 #[.slice none 0 0]
  have m0 := h1.cell 0
  simp at m0
  have hml := h1.lt
  have h1l := (h1.step b1).lt
  clear h9 h5
  refine calls_of_marks Tryz.func16 rfl ?_
  simp only [Tryz.ntmps16, List.size_toArray, List.length_cons, List.length_nil, Nat.reduceAdd, Nat.reduceSub, Array.replicate_succ, Array.replicate_zero, List.push_toArray, List.append_toArray, List.nil_append, List.cons_append]
  repeat' (first | (go_at_call 53; go_must ((with_reducible refine Calls.mono (all_any gt _) ?_); rintro _ _ ⟨rfl, rfl⟩; dsimp only)) | (with_reducible refine stop_block 0 ?_) | go_values | go_skip | go_guarded | go_step | go_upon | go_back)
  refine Stop.go ?_
  have s1 : (w.alloc (.cells #[.slice none 0 0] 22)).heap.size = w.heap.size + 1 := Array.size_push _
  have e2 : Below (w.alloc (.cells #[.slice none 0 0] 22)).heap.size (w.alloc (.cells #[.slice none 0 0] 22)) ((w.alloc (.cells #[.slice none 0 0] 22)).alloc (.cells #[.pointer (some ⟨gt, 0, none⟩)] 87)) := (Below.refl _ _).alloc (Nat.le_refl _) _
  have hga := Blk.new (w.alloc (.cells #[.slice none 0 0] 22)) 87 #[.pointer (some ⟨gt, 0, none⟩)]
  rw [s1] at hga ⊢
  have bZ := b1.trans (e2.mono b1.size)
  have hlZ := hlb.step e2
  have htZ := h2.step bZ
  have hTZ := h3.step bZ
  generalize (w.alloc (.cells #[.slice none 0 0] 22)).alloc (.cells #[.pointer (some ⟨gt, 0, none⟩)] 87) = Z at *
  have hne : gt ≠ w.heap.size := fun e => by have := h2.lt; omega
  have hTZ2 : IsTree Z (fun b => b < w.heap.size) T p := (h3.more (S' := fun b => b < w.heap.size) fun b hl _ => hl).step bZ
  have hgaZ : w.heap.size + 1 < Z.heap.size := hga.lt
  clear m0 hlb e2 hTZ h2 h3 h1 hml h1l b1
  refine wp_rangeFunc_block 3 (gf := 98) (lb := #[.pointer (some ⟨w.heap.size + 1, 0, none⟩)]) rfl (enters_fn Tryz.func98 (by kernel_rfl) rfl)
    (allSeq T p gt (w.heap.size + 1) 64 (fun b => b < w.heap.size) Z hga htZ hTZ2 (by omega)) (fun h k => h.trans k) (fun W l o o' hl h hc => KpT.putObj W l o o' hl h hc) (fun _ => rfl)
    (fun pre W => ∃ A c, Blk W w.heap.size 22 #[.slice A pre.length c] ∧ Own W Z.heap.size A pre.length c (pre.map (·.1)) ∧ Below w.heap.size w W)
    (fun W => ∃ A c, Blk W w.heap.size 22 #[.slice A T.all.length c] ∧ Own W Z.heap.size A T.all.length c T.all ∧ Below w.heap.size w W)
    (fun s A B h hT => by obtain ⟨A', c, g1, g2, g3⟩ := h; exact ⟨A', c, g1.turn hT hlZ.lt, g2.turn hT, ⟨hT.os.trans g3.os, hT.tape.trans g3.tape, hT.output.trans g3.output, Nat.le_trans g3.size hT.size, fun k hk => (hT.low k (Nat.lt_of_lt_of_le hk g3.size) (by omega)).trans (g3.block k hk)⟩⟩)
    (fun _ A B h hT => by obtain ⟨A', c, g1, g2, g3⟩ := h; exact ⟨A', c, g1.turn hT hlZ.lt, g2.turn hT, ⟨hT.os.trans g3.os, hT.tape.trans g3.tape, hT.output.trans g3.output, Nat.le_trans g3.size hT.size, fun k hk => (hT.low k (Nat.lt_of_lt_of_le hk g3.size) (by omega)).trans (g3.block k hk)⟩⟩)
    ⟨none, 0, hlZ, Own.nil _ _, bZ⟩ ?round ?done ?end_
  case round =>
    rintro ll pre ⟨e, i⟩ W hll ⟨rc, hrc⟩ ⟨A, c, g1, g2, g3⟩ hG
    obtain ⟨hi, he, hlt⟩ := zipIdx_prefix hG
    simp only at hi he
    subst hi
    simp only [elNum, El.agg, putArgs2, List.setIfInBounds_toArray, List.set_cons_zero, List.set_cons_succ]
    repeat' (first | ((with_reducible refine regionIn_ff ?_); refine wpIn_region_r rfl ?_) | go_values | go_skip | go_guarded | go_step | go_upon | go_back | (with_reducible refine NoO.normal ?_) | gi_step | gi_upon)
    have eW : Below W.heap.size W (W.alloc (.cells #[.int .i64 e.epoch, .int .i64 e.rep, .int .i64 e.num, .int .i32 e.char, .int .i64 e.hides] 32)) := (Below.refl _ _).alloc (Nat.le_refl _) _
    refine ⟨KeepN.of_below eW, KpT.of_below eW, fun W2 hB2 => ?_⟩
    have k1 := hB2.blk (g1.step eW)
    have k2 := (g2.step eW).begun hB2
    have hx2 := hB2.blk (Blk.new W 32 #[.int .i64 e.epoch, .int .i64 e.rep, .int .i64 e.num, .int .i32 e.char, .int .i64 e.hides])
    have k3 : Below w.heap.size w W2 := by
      have h := g3.trans (eW.mono g3.size)
      exact ⟨hB2.os.trans h.os, hB2.tape.trans h.tape, hB2.output.trans h.output, by rw [hB2.size]; exact h.size, fun k hk => (hB2.block k (by omega)).trans (h.block k hk)⟩
    have hZW : Z.heap.size ≤ W2.heap.size := by
      have h1 := lt_of_heap hrc
      rw [hB2.size]
      have := eW.size
      omega
    generalize W.heap.size = xb at *
    have hpre : (pre ++ [(e, pre.length)]).length = pre.length + 1 := by simp
    have hmap : (pre ++ [(e, pre.length)]).map (·.1) = pre.map (·.1) ++ [e] := by simp
    have Hpre := hid (And.intro hpre hmap)
    have hG' := hid hG
    clear hpre hmap hG g1 g2 g3 eW hB2 hrc he
    generalize pre.length = m at *
    generalize pre.map (·.1) = es at *
    have l0 := k1.cell 0
    have f0 := k1.frozen 0
    have x0 := hx2.cell 0
    have x1 := hx2.cell 1
    have x2 := hx2.cell 2
    have x3 := hx2.cell 3
    have x4 := hx2.cell 4
    simp at l0 x0 x1 x2 x3 x4
    have hll := k1.lt
    have eX : Below W2.heap.size W2 (W2.alloc (.cells #[.int .i64 e.epoch, .int .i64 e.rep, .int .i64 e.num, .int .i32 e.char, .int .i64 e.hides] 32)) := (Below.refl _ _).alloc (Nat.le_refl _) _
    have hrow1 : Row (W2.alloc (.cells #[.int .i64 e.epoch, .int .i64 e.rep, .int .i64 e.num, .int .i32 e.char, .int .i64 e.hides] 32)) (fun _ => True) (some ⟨W2.heap.size, 0, none⟩) 1 1 [e] := Row.lit W2 _ [e] 1 _ trivial rfl (by decide) rfl
    have k2x := k2.step eX
    have k1x := k1.step eX
    have hsx := Nat.le_trans hZW eX.size
    repeat' (first | ((with_reducible refine append_here ?_); refine wp_append_el Z.heap.size A _ m c 1 1 es [e] (fun _ => True) (by rfl) (by rfl) k2x hrow1 hsx (by omega) ?_; intro A' c' w4 hown4 hb4 hsm4 hat4 hz4; have hl4 := k1x.below hb4 hlZ.lt; have l4 := hl4.cell 0; have f4 := hl4.frozen 0; simp at l4; have hll4 := hl4.lt) | ((with_reducible refine regionIn_ff ?_); refine wpIn_region_r rfl ?_) | go_values | go_skip | go_guarded | go_step | go_upon | go_back | (with_reducible refine NoO.normal ?_) | gi_step | gi_upon)
    have keep : ∀ b o, Z.heap.size ≤ b → W2.heap[b]? = some o → (∀ cs z, o ≠ .cells cs 32 z) → (w4.setCell ⟨w.heap.size, 0, none⟩ (.slice A' (m + 1) c')).heap[b]? = some o := fun b o hb ho hn =>
      (Below.heap_setCell _ _ _ _ (show b ≠ w.heap.size by omega)).trans (k2x.other hsm4 ((eX.block b (lt_of_heap ho)).trans ho) hn)
    have hbelow : Below Z.heap.size W2 w4 := (eX.mono hZW).trans hb4
    refine ⟨fun b o hb ho hc => keep b o hb ho (fun cs z e => by subst e; cases hc), ⟨by have := hbelow.size; simpa [World.setCell] using Nat.le_trans eX.size hz4, fun b hb hS hl => (Below.heap_setCell _ _ _ _ (show b ≠ w.heap.size by omega)).trans (hbelow.block b hb), fun b v hb hbx => ?_⟩, ?_⟩
    · rcases hbx with hbx | hbx
      · exact (keep b _ hb hbx (fun cs z e => by injection e with _ e; revert e; decide)).trans hbx.symm
      · exact (keep b _ hb hbx (fun cs z e => by injection e with _ e; revert e; decide)).trans hbx.symm
    · refine ⟨A', c', ?_, ?_, ?_⟩
      · rw [Hpre.out.1]
        exact hl4.set_ 0 _
      · show Own _ Z.heap.size A' ((pre ++ [(e, m)]).length) c' ((pre ++ [(e, m)]).map (·.1))
        rw [Hpre.out.1, Hpre.out.2]
        exact hown4.keep (S := fun b => b ≠ w.heap.size) (Same.setCell _ (fun h => h rfl) _) fun a ha => by have := (hown4.block a ha).1; omega
      · exact (k3.trans (hbelow.mono bZ.size)).setCell (Nat.le_refl _) _
  case done =>
    rintro xs W rfl ⟨A, c, g1, g2, g3⟩
    rw [List.length_zipIdx] at g1 g2
    exact ⟨A, c, g1, by simpa using g2, g3⟩
  case end_ =>
    rintro D W hD ⟨A, c, g1, g2, g3⟩ hK
    have l0 := g1.cell 0
    simp at l0
    repeat' (first | go_values | go_skip | go_guarded | go_step | go_upon | go_back)
    have hsA := hK
    refine leaves1 hsA (v := .slice A T.all.length c) (by rintro w' rfl; simp [results, Tryz.results16, go_sem]) ⟨A, c, rfl, ?_, ?_⟩
    · refine (g2.keep (S := fun b => b ≠ D) (fun b hb _ => World.putObj_heap_other hb) fun a ha e => ?_).mono bZ.size
      rcases g2.2.2 with h0 | ⟨g', cap, cur, e', hbg, hh, r⟩
      · injection h0.1 with h0
        rw [ha] at h0
        cases h0
      · injection e' with e1 e2 e3
        rw [ha] at e1
        injection e1 with e1
        subst e1
        have e0 : g' = D := e
        rw [e0, hK] at hh
        cases hh
    · exact ⟨g3.os, g3.tape, g3.output, by simpa using g3.size, fun k hk => (World.putObj_heap_other (by have := bZ.size; omega)).trans (g3.block k hk)⟩
theorem mem_ins (l : List El) (i : Nat) (e : El) (j : Nm) : j ∈ e.nm :: l.map El.nm ↔ j ∈ (l.take i ++ e :: l.drop i).map El.nm := by
  have hp : (l.take i ++ e :: l.drop i).Perm (e :: l) := by
    have := List.perm_middle (a := e) (l₁ := l.take i) (l₂ := l.drop i)
    rwa [List.take_append_drop] at this
  rw [(hp.map El.nm).mem_iff]
  rfl
set_option maxRecDepth 50000 in
set_option maxHeartbeats 4000000 in
/-- an element laid in where it may be -/
theorem minsert_ok (w : World) (S : Nat → Prop) (mb : Nat) (l : List El) (K i : Nat) (e : El) (h : Mdl w S mb l K) (hl : l.length ≤ 536870912) (hK : K ≤ 1099511627776) (hi : i ≤ l.length) (hg : e.Good) (hn : e.nm ∉ l.map El.nm) :
    Calls Tryz.prog 34 #[.pointer (some ⟨mb, 0, none⟩), .int .i64 i, .agg #[.int .i64 e.epoch, .int .i64 e.rep, .int .i64 e.num, .int .i32 e.char, .int .i64 e.hides]] w fun r w' => r = .returned .nilIface ∧ Mdl w' (Fr w S) mb (l.take i ++ e :: l.drop i) (K + 1) ∧ Out S w w' := by
  have b1 : Below w.heap.size w (w.alloc (.cells #[.int .i64 e.epoch, .int .i64 e.rep, .int .i64 e.num, .int .i32 e.char, .int .i64 e.hides] 32)) := (Below.refl _ _).alloc (Nat.le_refl _) _
  have hx1 := Blk.new w 32 #[.int .i64 e.epoch, .int .i64 e.rep, .int .i64 e.num, .int .i32 e.char, .int .i64 e.hides]
  have HL := hid (mlen_any _ S mb l K (h.step b1))
  have HW := hid (fun W => within_ok i l.length W (by omega) (by omega))
  obtain ⟨gt, gm, p, T, h1, h2, h3, rfl, h5, h6, h7, h8, h9⟩ := h
  have HT := hid (takes_ok e _ mb gt gm _ K (h1.step b1) (h5.heap (b1.block _ h5.lt)) hg hn)
  have Hk := hid (And.intro (h1.step b1) (And.intro (h2.step b1) (And.intro (h3.step b1) (h5.heap (b1.block _ h5.lt)))))
  have h0 := h1.lt
  have Ho := hid (And.intro h1 (And.intro h2 (And.intro h5 h9)))
  have hn' := hid hn
  clear h1 h2 h3 h5 h9 hn
  go_enter Tryz.func34, Tryz.ntmps34
  repeat' (first | (go_at_call 10; go_must ((with_reducible refine Calls.mono HL.out ?_); rintro _ _ ⟨rfl, rfl⟩; dsimp only)) | (go_at_call 81; go_must ((with_reducible refine Calls.mono (HW.out _) ?_); rintro _ _ ⟨rfl, rfl⟩; dsimp only)) | (go_at_call 69; go_must ((with_reducible refine Calls.mono HT.out ?_); rintro _ w3 ⟨rfl, hb3⟩; dsimp only)) | (with_reducible refine stop_region 6 ?_) | go_values | go_skip | go_guarded | go_step | go_upon | go_back)
  refine Stop.go ?_
  have k1 := Hk.out.1.step hb3
  have k2 := Hk.out.2.1.step hb3
  have k3 := Hk.out.2.2.1.step hb3
  have kx := hx1.step hb3
  obtain ⟨w4, hrun, hI4, hT4⟩ := ((Hk.out.2.2.2.heap (hb3.block _ Hk.out.2.2.2.lt)).drew).put e.nm hg.nm (by omega)
  have hB4 := But.of_turned hT4
  have e1 := Hk.out.2.2.2.ne_blk Hk.out.1
  have e2 := Hk.out.2.2.2.ne_blk Hk.out.2.1
  have e3 := Hk.out.2.2.2.ne_blk hx1
  have j1 := hB4.blk k1.drew e1
  have j2 := hB4.blk k2.drew e2
  have jx := hB4.blk kx.drew e3
  have j3 : IsTree w4 (fun b => S b ∧ b ≠ gt) T p := (((k3.drew).strict).keep (S := fun b => (S b ∧ b ≠ gt) ∧ Big w3.drew b) fun b hb hl => hB4.block b hl (fun e => by
    subst e
    obtain ⟨cs, u, z, hc, _⟩ := hb.2
    obtain ⟨n, D, ⟨es, clock, hm, _⟩, _⟩ := Hk.out.2.2.2.heap (w' := w3.drew) (hb3.block _ Hk.out.2.2.2.lt)
    rw [hm] at hc
    cases hc)).more fun b _ h => h.1
  have m1 := k1.cell 1
  have x0 := kx.cell 0
  have x1 := kx.cell 1
  have x2 := kx.cell 2
  simp at m1 x0 x1 x2
  simp only [Nm.val, El.nm] at hrun
  have HI4 := hid (And.intro hI4 (And.intro hT4 hB4))
  clear hI4 hT4 hB4
  repeat' (first | ((with_reducible refine region_at 6 ?_); refine wp_region_order [(0, true, false), (1, true, false), (2, true, false), (3, true, false), (4, true, false), (5, true, false), (6, true, false), (7, true, false), (8, false, true)] (by kernel_rfl) (by kernel_rfl) (by kernel_rfl) rfl rfl ?_) | (with_reducible refine stop_region 7 ?_) | (with_reducible refine Keep.last ?_) | (with_reducible refine Keep.below (by assumption) ?_) | (with_reducible refine Keep.kept (by assumption) ?_) | (with_reducible refine Keep.alloc ?_) | (with_reducible refine Keep.same ?_) | ((with_reducible refine WpH.here ?_); first | (refine WpH.nil ?_; refine NoP.normal ?_) | (refine WpH.load (by rfl) (by rfl) (by go_simp; rfl) ?_; simp only [Act.put, List.setIfInBounds_toArray, List.set_cons_zero, List.set_cons_succ]) | (refine WpH.loadT (by rfl) (by rfl) (by go_simp; rfl) (by rintro _ _ ⟨⟩; exact ⟨_, _, _, _, _, _, by rfl, by assumption, by assumption⟩) ?_; simp only [Act.put, List.setIfInBounds_toArray, List.set_cons_zero, List.set_cons_succ]) | (refine WpH.pure (by rfl) (fun w_ => by go_simp; (try go_bits); rfl) ?_; simp only [Act.put, List.setIfInBounds_toArray, List.set_cons_zero, List.set_cons_succ]) | (refine WpH.wild1 (by rfl) (fun _ _ => ?_)) | (refine WpH.skip (by rfl) ?_; simp only [Act.put, List.setIfInBounds_toArray, List.set_cons_zero, List.set_cons_succ])) | go_values | go_skip | go_guarded | go_step | go_upon | go_back)
  refine Stop.go ?_
  have s3 := Nat.le_trans b1.size hb3.size
  have e4 : Below w4.heap.size w4 ((w4.alloc (.cells #[.int .i64 e.epoch, .int .i64 e.rep, .int .i64 e.num, .int .i32 e.char, .int .i64 e.hides] 32)).drew) := ((Below.refl _ _).alloc (Nat.le_refl _) _).drew
  have s4 : (w4.alloc (.cells #[.int .i64 e.epoch, .int .i64 e.rep, .int .i64 e.num, .int .i32 e.char, .int .i64 e.hides] 32)).drew.heap.size = w4.heap.size + 1 := Array.size_push _
  have HI := hid (insert_ok T p gt 64 i (some ⟨w4.heap.size, 0, none⟩) 1 1 [e] (fun b => S b ∧ b ≠ gt) (fun _ => True) _ (j2.step e4) (j3.step e4) (fun h => h.2 rfl) (Row.one w4 e).drew (by omega) hi (by decide) (by decide))
  have t1 : mb ≠ gt := j1.ne j2 (by decide)
  have t2 : w.heap.size ≠ gt := jx.ne j2 (by decide)
  have q1 : w4.drew.heap[mb]? = some (.cells #[.pointer (some ⟨gt, 0, none⟩), .map (some gm)] 92 (0, 0)) := j1
  have q2 : w4.drew.heap[w.heap.size]? = some (.cells #[.int .i64 e.epoch, .int .i64 e.rep, .int .i64 e.num, .int .i32 e.char, .int .i64 e.hides] 32 (0, 0)) := jx
  have m0 := j1.cell 0
  have y0 := jx.cell 0
  have y1 := jx.cell 1
  have y2 := jx.cell 2
  have y3 := jx.cell 3
  have y4 := jx.cell 4
  simp at m0 y0 y1 y2 y3 y4
  have hgl := j2.lt
  clear m1 x0 x1 x2 hrun
  repeat' (first | ((with_reducible refine region_at 7 ?_); refine wp_region_orderT (fun b => b ≠ gt) [(0, true, false), (1, true, false), (2, true, false), (3, true, false), (4, true, false), (5, true, false), (6, true, false), (7, false, false), (8, false, false), (9, true, false)] (by kernel_rfl) (by kernel_rfl) (by kernel_rfl) rfl rfl ?_) | (with_reducible refine Keep.allocD ?_) | (go_at_call 71; go_must ((with_reducible refine Calls.mono HI.out ?_); rintro _ w5 ⟨p5, T5, rfl, hT5, hb5, ⟨hq5, _⟩, hB5⟩; have hq5' := hid hq5; clear hq5; have hk5 : KeepT (fun b => b ≠ gt) _ w5 := ⟨hB5.size, fun b hl hb => hB5.block b hl hb⟩; dsimp only)) | (with_reducible refine Keep.last ?_) | (with_reducible refine Keep.below (by assumption) ?_) | (with_reducible refine Keep.kept (by assumption) ?_) | (with_reducible refine Keep.alloc ?_) | (with_reducible refine Keep.same ?_) | ((with_reducible refine WpH.here ?_); first | (refine WpH.nil ?_; refine NoP.normal ?_) | (refine WpH.load (by rfl) (by rfl) (by go_simp; rfl) ?_; simp only [Act.put, List.setIfInBounds_toArray, List.set_cons_zero, List.set_cons_succ]) | (refine WpH.loadT (by rfl) (by rfl) (by go_simp; rfl) (by rintro _ _ ⟨⟩; exact ⟨_, _, _, _, _, _, by rfl, by assumption, by assumption⟩) ?_; simp only [Act.put, List.setIfInBounds_toArray, List.set_cons_zero, List.set_cons_succ]) | (refine WpH.pure (by rfl) (fun w_ => by go_simp; (try go_bits); rfl) ?_; simp only [Act.put, List.setIfInBounds_toArray, List.set_cons_zero, List.set_cons_succ]) | (refine WpH.wild1 (by rfl) (fun _ _ => ?_)) | (refine WpH.skip (by rfl) ?_; simp only [Act.put, List.setIfInBounds_toArray, List.set_cons_zero, List.set_cons_succ])) | go_values | go_skip | go_guarded | go_step | go_upon | go_back)
  go_ret
  have hO : Out S w w5 := ((((Out.of_below (b1.trans (hb3.mono b1.size))).trans (Out.drew (S := S)) (fun _ _ h => h)).trans (Out.of_but HI4.out.2.2 h8) (fun _ _ h => h)).trans (Out.of_below (S := S) e4) (fun _ _ h => h)).trans (Out.of_but hB5 h7) (fun _ _ h => h)
  have hz4 : w.heap.size ≤ w4.heap.size := Nat.le_trans s3 HI4.out.2.2.size
  have hgm : gm ≠ gt := fun e' => (HI4.out.1.ne_blk j2) e'.symm
  refine ⟨rfl, ⟨gt, gm, p5, T5, hB5.blk (j1.step e4) t1, hb5, hT5.more (fun b _ h => ?_), by rw [hq5'.out]; simp, ((HI4.out.1.heap (e4.block _ HI4.out.1.lt)).heap (hB5.block _ (Nat.lt_of_lt_of_le HI4.out.1.lt e4.size) hgm)).eq fun j => ?_, .inl h6, .inl h7, .inl h8, ?_⟩, hO⟩
  · rcases h with h | h
    · exact ⟨.inl h.1, h.2⟩
    · rw [s4] at h
      exact ⟨.inr (by omega), by omega⟩
  · exact mem_ins T.all i e j
  · intro x hx
    simp only [List.mem_append, List.mem_cons] at hx
    rcases hx with hx | rfl | hx
    · exact Ho.out.2.2.2 x (List.mem_of_mem_take hx)
    · exact hg
    · exact Ho.out.2.2.2 x (List.mem_of_mem_drop hx)
end Go.Proofs.YtfihjajllfihjaaGreatDoor
