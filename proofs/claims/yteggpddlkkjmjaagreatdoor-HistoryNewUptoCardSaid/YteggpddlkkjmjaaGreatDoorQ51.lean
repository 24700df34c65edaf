/- Part of a proof: what functions of the program compute. Conditions: as each theorem says. -/
import Derived.Maps.RangeWalk
import Derived.Test.YteggpddlkkjmjaaGreatDoorQ48
set_option linter.unusedSimpArgs false
set_option linter.unusedVariables false
set_option maxHeartbeats 4000000
set_option maxRecDepth 100000
namespace Go.Proofs.YteggpddlkkjmjaaGreatDoor
open Go Go.RowKit
structure BI (Z V : World) (nb : Nat) (l : List El) (k : Nat) : Prop where
 out : Out (fun b => b = nb) Z V
 set : IsSet V nb k ((l.take k).map El.nm)
section
variable {Z V V' : World} {nb k ll : Nat} {l : List El}
theorem BI.turn (h : BI Z V nb l k) (hT : Turn 3 Z.heap.size V V') (h1 : nb < Z.heap.size) : BI Z V' nb l k := ⟨h.out.turn8 hT (Nat.le_refl _), h.set.heap (hT.low _ h.set.lt h1)⟩
theorem BI.begun (h : BI Z V nb l k) (hB : Begun ll V V') (hl : Z.heap.size ≤ ll) (h1 : nb < Z.heap.size) : BI Z V' nb l k := ⟨h.out.begun8 hB hl, h.set.heap (hB.block _ (by omega))⟩
theorem BI.step (h : BI Z V nb l k) (hb : Below V.heap.size V V') : BI Z V' nb l k := ⟨h.out.step8 hb, h.set.heap (hb.block _ h.set.lt)⟩
end
theorem set_rounds {Z V V' : World} {nb : Nat} {S : Nat → Prop} (hb : But nb V V') (h1 : nb < Z.heap.size) (hS : ∀ b, S b → b ≠ nb) : KeepN Z.heap.size V V' ∧ KpM Z.heap.size S V V' :=
 ⟨fun b o hbz ho _ => (hb.block b (lt_of_heap ho) (by omega)).trans ho, ⟨hb.size, fun b _ hs hl => hb.block b hl (hS b hs), fun b v hbz hbx => hb.block b (by rcases hbx with hbx | hbx <;> exact hbx.lt) (by omega)⟩, fun b v hbz hbx => hb.block b hbx.lt (by omega)⟩
theorem Out.put8 {S : Nat → Prop} {w w1 : World} (h : Out S w w1) {p : Addr} (hp : S p.block) (u : Value) : Out S w (w1.setCell p u) := h.trans (Out.setCell hp u) fun _ _ h => h
theorem begin_cells (ep m u1 u3 u4 u5 u6 u7 u8 u9 u10 u11 u12 x z : Value) : (((((((((((#[ep, u1, m, u3, u4, u5, u6, u7, u8, u9, u10, u11, u12].setIfInBounds 1 x).setIfInBounds 3 (.slice none 0 0)).setIfInBounds 4 (.slice none 0 0)).setIfInBounds 5 z).setIfInBounds 6 z).setIfInBounds 7 z).setIfInBounds 8 z).setIfInBounds 9 z).setIfInBounds 10 z).setIfInBounds 11 z).setIfInBounds 12 z) = #[ep, x, m, .slice none 0 0, .slice none 0 0, z, z, z, z, z, z, z, z] := by
 simp only [List.setIfInBounds_toArray, List.set_cons_zero, List.set_cons_succ]
theorem KeepT.setD (w : World) (g o : Nat) (u : Value) : KeepT (fun b => b ≠ g) w.drew (w.setCell ⟨g, o, none⟩ u).drew := ⟨by simp [World.setCell], fun b _ hb => Below.heap_setCell _ _ _ _ hb⟩
theorem begin_any (w : World) (gb mb K : Nat) (SM : Nat → Prop) (ep : Int) (u1 u3 u4 u5 u6 u7 u8 u9 u10 u11 u12 : Value) (l : List El) (hg : Blk w gb 100 #[.int .i64 ep, u1, .pointer (some ⟨mb, 0, none⟩), u3, u4, u5, u6, u7, u8, u9, u10, u11, u12]) (hM : Mdl w SM mb l K) (hsm : ∀ b, SM b → b < w.heap.size ∧ b ≠ gb) (hll : l.length ≤ 1048576) (hnd : (l.map El.nm).Nodup) :
 Calls Tryz.prog 56 #[.pointer (some ⟨gb, 0, none⟩)] w fun e w' => e = .returned (.tuple #[]) ∧ ∃ bm, Blk w' gb 100 (lgVals ep bm mb none 0 0 none 0 0 Clk.zero) ∧ IsSet w' bm l.length (l.map El.nm) ∧ w.heap.size ≤ bm ∧ Mdl w' SM mb l K ∧ Out (fun b => b = gb) w w' := by
 have e0 : Below w.heap.size w (w.alloc (.cells #[.pointer (some ⟨gb, 0, none⟩)] 30)) := balloc (Below.refl _ _)
 have hlb := Blk.new w 30 #[.pointer (some ⟨gb, 0, none⟩)]
 have s0 : (w.alloc (.cells #[.pointer (some ⟨gb, 0, none⟩)] 30)).heap.size = w.heap.size + 1 := Array.size_push _
 have hgl := hg.lt
 have hg0 := hg.step e0
 have g1 : (w.alloc (.cells #[.pointer (some ⟨gb, 0, none⟩)] 30)).cell? ⟨gb, 1, none⟩ = some u1 := hg0.cell 1
 have f1 := hg0.frozen 1
 have gl0 := hg0.lt
 have Hlb := hid hlb
 have HG := hid hg0
 have HM := hid (hM.step e0)
 have Hnd := hid hnd
 have Hsm := hid hsm
 clear hlb hg hg0 hM hnd hsm
 have hmm := @run_makeMap Tryz.prog
 refine calls_of_marks Tryz.func56 rfl ?_
 simp only [Tryz.ntmps56, List.size_toArray, List.length_cons, List.length_nil, Nat.reduceAdd, Nat.reduceSub, Array.replicate_succ, Array.replicate_zero, List.push_toArray, List.append_toArray, List.nil_append, List.cons_append]
 repeat' (first | (with_reducible refine stop_region 1 ?_) | go_step)
 refine Stop.go ?_
 generalize w.alloc (.cells #[.pointer (some ⟨gb, 0, none⟩)] 30) = X at *
 have l0 : X.cell? ⟨w.heap.size, 0, none⟩ = some (.pointer (some ⟨gb, 0, none⟩)) := Hlb.out.cell 0
 have ll := Hlb.out.lt
 repeat' (first | (with_reducible refine stop_region 2 ?_) | go_step)
 refine Stop.go ?_
 clear hmm
 have sX1 : (X.setCell ⟨gb, 1, none⟩ (.map (some (w.heap.size + 1)))).heap.size = w.heap.size + 1 := by rw [← s0]; simp [World.setCell]
 have hgX1 := HG.out.set_ 1 (.map (some (w.heap.size + 1)))
 have hO1 : Out (fun b => b = gb) w (X.setCell ⟨gb, 1, none⟩ (.map (some (w.heap.size + 1)))) := (Out.of_below e0).trans (Out.setCell (S := fun b => b = gb) rfl _) fun _ _ h => h
 have hM1 := HM.out.keep (w' := X.setCell ⟨gb, 1, none⟩ (.map (some (w.heap.size + 1)))) fun b hb hs => Below.heap_setCell _ _ _ _ (Hsm.out b hs).2
 have hl1 : Blk (X.setCell ⟨gb, 1, none⟩ (.map (some (w.heap.size + 1)))) w.heap.size 30 #[.pointer (some ⟨gb, 0, none⟩)] := Hlb.out.far (by show w.heap.size ≠ gb; omega) _
 clear l0 ll g1 f1 gl0 HG HM Hlb e0 s0
 generalize X.setCell ⟨gb, 1, none⟩ (.map (some (w.heap.size + 1))) = X1 at *
 have eY : Below X1.heap.size X1 (X1.alloc (.map #[] 0)) := balloc (Below.refl _ _)
 have hsY := IsSet.made X1
 have sY : (X1.alloc (.map #[] 0)).heap.size = w.heap.size + 1 + 1 := by rw [← sX1]; exact Array.size_push _
 rw [sX1] at hsY
 have hgY := hgX1.step eY
 have hOY := hO1.step8 eY
 have hMY := hM1.step eY
 have hlY := hl1.step eY
 clear eY hgX1 hO1 hM1 hl1 sX1
 generalize X1.alloc (.map #[] 0) = Y at *
 have g2 : Y.cell? ⟨gb, 2, none⟩ = some (.pointer (some ⟨mb, 0, none⟩)) := hgY.cell 2
 have gl2 := hgY.lt
 have l0 : Y.cell? ⟨w.heap.size, 0, none⟩ = some (.pointer (some ⟨gb, 0, none⟩)) := hlY.cell 0
 have ll := hlY.lt
 repeat' (first | (go_at_call 95; go_must ((with_reducible refine Calls.mono (mall_any mb _) ?_); rintro _ _ ⟨rfl, rfl⟩; dsimp only)) | (with_reducible refine stop_block 0 ?_) | go_step)
 refine Stop.go ?_
 have eA : Below Y.heap.size Y (Y.alloc (.cells #[.pointer (some ⟨mb, 0, none⟩)] 52)) := balloc (Below.refl _ _)
 have hga := Blk.new Y 52 #[.pointer (some ⟨mb, 0, none⟩)]
 have sZ : (Y.alloc (.cells #[.pointer (some ⟨mb, 0, none⟩)] 52)).heap.size = w.heap.size + 1 + 1 + 1 := by rw [← sY]; exact Array.size_push _
 rw [sY] at hga ⊢
 have hsZ := hsY.heap (eA.block _ hsY.lt)
 have hgZ := hgY.step eA
 have hOZ := hOY.step8 eA
 have hMZ := hMY.step eA
 have hlZ := hlY.step eA
 clear g2 gl2 l0 ll eA hsY hgY hOY hMY hlY sY
 generalize Y.alloc (.cells #[.pointer (some ⟨mb, 0, none⟩)] 52) = Z at *
 obtain ⟨gt, gm, p, T, k1, k2, k3, hTall, k5, sb1, sb2, sb3, hgood⟩ := hMZ
 have Hgood := hid hgood
 have hTl : T.all.length ≤ 1048576 := by rw [hTall]; exact hll
 have HGZ := hid hgZ
 have HLZ := hid hlZ
 have HMZ : Mdl Z SM mb l K := ⟨gt, gm, p, T, k1, k2, k3, hTall, k5, sb1, sb2, sb3, hgood⟩
 have HMZ := hid HMZ
 clear hgood hgZ hlZ k5
 refine wp_rangeFuncN_block 3 (gf := 128) (lb := #[.pointer (some ⟨w.heap.size + 1 + 1, 0, none⟩)]) rfl (enters_fn Tryz.func128 (by kernel_rfl) rfl)
  (mallSeq T p (w.heap.size + 1 + 1) mb gt (.map (some gm)) (fun b => SM b ∧ b ≠ gt) Z hga k1 k2 k3 (by omega)) (fun h k => h.trans k) (fun W l o o' hl h hc => KpM.putObj W l o o' hl h hc) (fun _ => rfl)
  (fun pre V => BI Z V (w.heap.size + 1) l pre.length) (fun V => BI Z V (w.heap.size + 1) l l.length)
  (fun _ A B h hT => h.turn hT (by omega)) (fun _ A B h hT => h.turn hT (by omega))
  ⟨Out.refl _ _, hsZ⟩ ?round ?done ?end_
 case round =>
  rintro ll pre e V hll ⟨rc, hrc⟩ hI hG
  obtain ⟨he, hlt⟩ := prefix_at8 (show pre ++ [e] <+: l by rw [← hTall]; exact hG)
  simp only [elOne, El.agg, putArgs1, List.setIfInBounds_toArray, List.set_cons_zero, List.set_cons_succ]
  repeat' (first | ((with_reducible refine regionIn_ff ?_); refine wpIn_region_r rfl ?_) | go_step | (with_reducible refine NoO.normal ?_))
  have eW : Below V.heap.size V (V.alloc (.cells #[.int .i64 e.epoch, .int .i64 e.rep, .int .i64 e.num, .int .i32 e.char, .int .i64 e.hides] 113)) := balloc (Below.refl _ _)
  refine ⟨KeepN.of_below eW, KpM.of_below eW, fun W2 hB2 => ?_⟩
  have hI2 := (hI.step eW).begun hB2 hll (by omega)
  have hx2 := hB2.blk (Blk.new V 113 #[.int .i64 e.epoch, .int .i64 e.rep, .int .i64 e.num, .int .i32 e.char, .int .i64 e.hides])
  have hxb : Z.heap.size ≤ V.heap.size := hI.out.size
  generalize V.heap.size = xb at *
  have Hpl := hid (show (pre ++ [e]).length = pre.length + 1 from by simp)
  generalize pre.length = m at *
  have hem : e ∈ l := List.mem_of_getElem? he
  have hfresh : e.nm ∉ (l.take m).map El.nm := fun hc => by
   have h1 : l.map El.nm = (l.take m).map El.nm ++ (l.drop m).map El.nm := by rw [← List.map_append, List.take_append_drop]
   have h2 := Hnd.out
   rw [h1, List.nodup_append] at h2
   refine h2.2.2 _ hc e.nm ?_ rfl
   refine List.mem_map.2 ⟨e, List.mem_of_getElem? (i := 0) ?_, rfl⟩
   rw [List.getElem?_drop]
   exact he
  obtain ⟨w4, hput, hn4, hT4⟩ := (hI2.set.heap (w' := W2.drew) rfl).put e.nm (Hgood.out e hem).nm (by omega) hfresh
  have hbut := But.of_turned hT4
  have hg2 := hI2.out.blk HGZ.out (by omega)
  have hl2 := hI2.out.blk HLZ.out (by omega)
  have g1 : W2.drew.cell? ⟨gb, 1, none⟩ = some (.map (some (w.heap.size + 1))) := hg2.drew.cell 1
  have gl := hg2.lt
  have l0 : W2.drew.cell? ⟨w.heap.size, 0, none⟩ = some (.pointer (some ⟨gb, 0, none⟩)) := hl2.drew.cell 0
  have lll := hl2.lt
  have x0 : W2.drew.cell? ⟨xb, 0, none⟩ = some (.int .i64 e.epoch) := hx2.drew.cell 0
  have x1 : W2.drew.cell? ⟨xb, 1, none⟩ = some (.int .i64 e.rep) := hx2.drew.cell 1
  have x2 : W2.drew.cell? ⟨xb, 2, none⟩ = some (.int .i64 e.num) := hx2.drew.cell 2
  have xl := hx2.lt
  have Hn4 := hid hn4
  have Hbut := hid hbut
  have HI2 := hid hI2
  have He := hid he
  clear hn4 hbut hI2 hx2 hT4 hfresh he hem hB2 hrc eW hI hG hg2 hl2
  simp only [Nm.val, El.nm] at hput
  repeat' (first | ((with_reducible refine regionIn_at 4 ?_); refine wpIn_region_ordT (fun _ => True) rfl (rgo [0,4,8,12,16,20,24,31] .nil) (by kernel_rfl) (by kernel_rfl) (by kernel_rfl) rfl rfl ?_) | (with_reducible refine Keep.last ?_) | ((with_reducible refine WpO.here ?_); first | (refine WpO.done ?_; refine NoO.normal ?_) | ((first | refine WpO.load (by rfl) (by rfl) (by go_simp; rfl) ?_ | refine WpO.pure (by rfl) (fun w_ => by go_simp; (try go_bits); rfl) ?_); go_frame) | refine WpO.wild ?_) | ((with_reducible refine wildO.here ?_); (refine wildO.go (by rfl) (fun _ _ => ?_))) | go_step | gi_step)
  have hkk := set_rounds (Z := Z) (S := fun b => SM b ∧ b ≠ gt) (V := W2) (V' := w4) ⟨Hbut.out.os, Hbut.out.tape, Hbut.out.output, Hbut.out.size, Hbut.out.block⟩ (by omega) (fun b hb => by have := (Hsm.out b hb.1).1; omega)
  refine ⟨hkk.1, hkk.2, ?_⟩
  dsimp only
  rw [Hpl.out]
  refine ⟨HI2.out.out.trans (Out.of_but (S := fun b => b = w.heap.size + 1) (x := w.heap.size + 1) ⟨Hbut.out.os, Hbut.out.tape, Hbut.out.output, Hbut.out.size, Hbut.out.block⟩ rfl) fun _ _ h => h, ?_⟩
  rw [List.take_add_one, He.out, List.map_append]
  exact Hn4.out
 case done =>
  rintro xs V rfl h
  rwa [hTall] at h
 case end_ =>
  rintro D V hD hI hK
  have hgV := hI.out.blk HGZ.out (by omega)
  have hlV := hI.out.blk HLZ.out (by omega)
  have hgd := hgV.drew
  have g3 : V.cell? ⟨gb, 3, none⟩ = some u3 := hgV.cell 3
  have g4 : V.cell? ⟨gb, 4, none⟩ = some u4 := hgV.cell 4
  have g5 : V.cell? ⟨gb, 5, none⟩ = some u5 := hgV.cell 5
  have g6 : V.cell? ⟨gb, 6, none⟩ = some u6 := hgV.cell 6
  have g7 : V.cell? ⟨gb, 7, none⟩ = some u7 := hgV.cell 7
  have g8 : V.cell? ⟨gb, 8, none⟩ = some u8 := hgV.cell 8
  have g9 : V.cell? ⟨gb, 9, none⟩ = some u9 := hgV.cell 9
  have g10 : V.cell? ⟨gb, 10, none⟩ = some u10 := hgV.cell 10
  have g11 : V.cell? ⟨gb, 11, none⟩ = some u11 := hgV.cell 11
  have g12 : V.cell? ⟨gb, 12, none⟩ = some u12 := hgV.cell 12
  have f3 := hgV.frozen 3
  have f4 := hgV.frozen 4
  have f5 := hgV.frozen 5
  have f6 := hgV.frozen 6
  have f7 := hgV.frozen 7
  have f8 := hgV.frozen 8
  have f9 := hgV.frozen 9
  have f10 := hgV.frozen 10
  have f11 := hgV.frozen 11
  have f12 := hgV.frozen 12
  have gl := hgV.lt
  have l0' : V.cell? ⟨w.heap.size, 0, none⟩ = some (.pointer (some ⟨gb, 0, none⟩)) := hlV.cell 0
  have l0 : V.drew.cell? ⟨w.heap.size, 0, none⟩ = some (.pointer (some ⟨gb, 0, none⟩)) := hlV.drew.cell 0
  have ll := hlV.lt
  have nlg : w.heap.size ≠ gb := by omega
  have qg : V.drew.heap[gb]? = some (.cells _ 100 (0, 0)) := hgd
  have ql : V.drew.heap[w.heap.size]? = some (.cells #[.pointer (some ⟨gb, 0, none⟩)] 30 (0, 0)) := hlV.drew
  repeat' (first | (with_reducible refine stop_region 5 ?_) | go_step)
  refine Stop.go ?_
  first | ((with_reducible refine region_at 5 ?_); refine wp_region_orderT (fun b => b ≠ gb) (rgl [0,4,8,12,16,20,25,28,32,37,40,44,51]) (by kernel_rfl) (by kernel_rfl) (by kernel_rfl) rfl rfl ?_)
  set_option maxHeartbeats 400000 in
  repeat' (first | ((with_reducible refine WpH.here ?_); first | ((first | refine WpH.loadT (by rfl) (by rfl) (by go_simp; rfl) (by rintro _ _ ⟨⟩; exact ⟨_, _, _, _, _, _, by rfl, by assumption, by assumption⟩) ?_ | refine WpH.pure (by rfl) (fun w_ => by go_simp; (try go_bits); rfl) ?_); go_frame) | (refine WpH.wild1 (by rfl) (fun _ _ => ?_))) | go_step)
  with_reducible refine Keep.kept (KeepT.setD _ _ _ _) ?_
  set_option maxHeartbeats 400000 in
  repeat' (first | ((with_reducible refine WpH.here ?_); first | (refine WpH.pure (by rfl) (fun w_ => by go_simp; (try go_bits); rfl) ?_; go_frame) | (refine WpH.wild1 (by rfl) (fun _ _ => ?_))) | go_step)
  with_reducible refine Keep.kept (KeepT.setD _ _ _ _) ?_
  have hgz := ((hgV.set_ 3 (.slice none 0 0)).set_ 4 (.slice none 0 0))
  have hBz : Out (fun b => b = gb) V ((V.setCell ⟨gb, 3, none⟩ (.slice none 0 0)).setCell ⟨gb, 4, none⟩ (.slice none 0 0)) := (Out.setCell (S := fun b => b = gb) (p := ⟨gb, 3, none⟩) rfl _).trans (Out.setCell (S := fun b => b = gb) (p := ⟨gb, 4, none⟩) rfl _) fun _ _ h => h
  generalize ((V.setCell ⟨gb, 3, none⟩ (.slice none 0 0)).setCell ⟨gb, 4, none⟩ (.slice none 0 0)) = V2 at *
  have z5 := hgz.cell 5
  have z6 := hgz.cell 6
  have z7 := hgz.cell 7
  have z8 := hgz.cell 8
  have z9 := hgz.cell 9
  have z10 := hgz.cell 10
  have z11 := hgz.cell 11
  have z12 := hgz.cell 12
  have p5 := hgz.frozen 5
  have p6 := hgz.frozen 6
  have p7 := hgz.frozen 7
  have p8 := hgz.frozen 8
  have p9 := hgz.frozen 9
  have p10 := hgz.frozen 10
  have p11 := hgz.frozen 11
  have p12 := hgz.frozen 12
  have zl := hgz.lt
  simp at z5 z6 z7 z8 z9 z10 z11 z12
  clear g3 g4 g5 g6 g7 g8 g9 g10 g11 g12 f3 f4 f5 f6 f7 f8 f9 f10 f11 f12 gl
  set_option maxHeartbeats 1400000 in
  repeat' (first | (with_reducible refine Keep.last ?_) | ((with_reducible refine WpH.here ?_); first | (refine WpH.nil ?_; refine NoP.normal ?_) | (refine WpH.pure (by rfl) (fun w_ => by go_simp; (try go_bits); rfl) ?_; go_frame) | (refine WpH.wild1 (by rfl) (fun _ _ => ?_))) | go_step)
  have hfin : Out (fun b => b = gb) V2 ((((((((V2.setCell ⟨gb, 5, none⟩ (.int .i64 0)).setCell ⟨gb, 6, none⟩ (.int .i64 0)).setCell ⟨gb, 7, none⟩ (.int .i64 0)).setCell ⟨gb, 8, none⟩ (.int .i64 0)).setCell ⟨gb, 9, none⟩ (.int .i64 0)).setCell ⟨gb, 10, none⟩ (.int .i64 0)).setCell ⟨gb, 11, none⟩ (.int .i64 0)).setCell ⟨gb, 12, none⟩ (.int .i64 0)).drew := by
   exact (((((((((Out.refl (fun b => b = gb) V2).put8 rfl _).put8 rfl _).put8 rfl _).put8 rfl _).put8 rfl _).put8 rfl _).put8 rfl _).put8 rfl _).trans (Out.drew (S := fun b => b = gb)) fun _ _ h => h
  have hbf := ((((((((hgz.set_ 5 (.int .i64 0)).set_ 6 (.int .i64 0)).set_ 7 (.int .i64 0)).set_ 8 (.int .i64 0)).set_ 9 (.int .i64 0)).set_ 10 (.int .i64 0)).set_ 11 (.int .i64 0)).set_ 12 (.int .i64 0)).drew
  rw [begin_cells] at hbf
  have hbf : Blk _ gb 100 (lgVals ep (w.heap.size + 1) mb none 0 0 none 0 0 Clk.zero) := hbf
  have hVf := hBz.trans hfin fun _ _ h => h
  generalize ((((((((V2.setCell ⟨gb, 5, none⟩ (.int .i64 0)).setCell ⟨gb, 6, none⟩ (.int .i64 0)).setCell ⟨gb, 7, none⟩ (.int .i64 0)).setCell ⟨gb, 8, none⟩ (.int .i64 0)).setCell ⟨gb, 9, none⟩ (.int .i64 0)).setCell ⟨gb, 10, none⟩ (.int .i64 0)).setCell ⟨gb, 11, none⟩ (.int .i64 0)).setCell ⟨gb, 12, none⟩ (.int .i64 0)).drew = Vf at *
  have hDl := lt_of_heap' hK
  have hKf := (hVf.block D hDl (show ¬ D = gb by omega)).trans hK
  have hsm := Hsm.out
  have hZV := hI.out.size
  have oth : ∀ b, b < Z.heap.size → b ≠ gb → b ≠ w.heap.size + 1 → (Vf.putObj D (.deferred none)).heap[b]? = Z.heap[b]? := fun b h1 h2 h3 =>
   (World.putObj_heap_other (by omega)).trans ((hVf.block b (by omega) h2).trans (hI.out.block b h1 h3))
  refine leaves1 hKf (v := .tuple #[]) (fun w' _ => by simp [results, Tryz.results56, go_sem]) ⟨rfl, w.heap.size + 1, ?_, ?_, by omega, ?_, ?_⟩
  · exact (World.putObj_heap_other (show gb ≠ D by omega)).trans hbf
  · have hset := hI.set
    rw [List.take_length] at hset
    exact hset.heap ((World.putObj_heap_other (show w.heap.size + 1 ≠ D by omega)).trans (hVf.block _ hset.lt (show ¬ w.heap.size + 1 = gb by omega)))
  · exact HMZ.out.keep fun b hb hs => oth b hb (hsm b hs).2 (by have := (hsm b hs).1; omega)
  · refine ⟨?_, ?_, ?_, ?_, fun k hk hn => ?_⟩
    · exact hVf.os.trans (hI.out.os.trans hOZ.os)
    · exact hVf.tape.trans (hI.out.tape.trans hOZ.tape)
    · exact hVf.output.trans (hI.out.output.trans hOZ.output)
    · have h1 := hOZ.size
      have h2 := hVf.size
      simp
      omega
    · exact (oth k (by have := hOZ.size; omega) hn (by omega)).trans (hOZ.block k hk hn)
variable {a : Nat → Addr}
def newLg (ep : Int) (l : List El) : Lg := ⟨ep, l, [], [], Clk.zero, l⟩
theorem hnew_ok (w : World) (A : Option Addr) (n c : Nat) (ls : List El) (SB : Nat → Prop) (ep : Int) (hr : Row w SB A n c ls) (hn : n ≤ 1048576) (hg : ∀ e ∈ ls, e.Good) (hd : (ls.map El.nm).Nodup) (h0 : 0 ≤ ep) (h1 : ep ≤ 1099511627776) :
 Calls Tryz.prog 25 #[.int .i64 ep, .slice A n c] w fun e w' => ∃ gb, e = .returned (.tuple #[.pointer (some ⟨gb, 0, none⟩), .nilIface]) ∧ LogAt w' (fun b => w.heap.size ≤ b) gb (newLg ep ls) n ∧ Below w.heap.size w w' := by
 have HO := hid (mof_ok w A n c ls SB hr hn hg hd)
 have hln : ls.length = n := hr.1
 have Hd := hid hd
 clear hr hg hd
 go_enter Tryz.func25, Tryz.ntmps25
 repeat' (first | (go_at_call 55; go_must ((with_reducible refine Calls.mono HO.out ?_); rintro _ w1 ⟨mb, rfl, hM, hb1⟩; dsimp only)) | (with_reducible refine stop_region 7 ?_) | go_guarded | go_step)
 refine Stop.go ?_
 have eG : Below w1.heap.size w1 (w1.alloc (.cells #[.int .i64 ep, .map none, .pointer (some ⟨mb, 0, none⟩), .slice none 0 0, .slice none 0 0, .int .i64 0, .int .i64 0, .int .i64 0, .int .i64 0, .int .i64 0, .int .i64 0, .int .i64 0, .int .i64 0] 100)) := balloc (Below.refl _ _)
 have hgb := Blk.new w1 100 #[.int .i64 ep, .map none, .pointer (some ⟨mb, 0, none⟩), .slice none 0 0, .slice none 0 0, .int .i64 0, .int .i64 0, .int .i64 0, .int .i64 0, .int .i64 0, .int .i64 0, .int .i64 0, .int .i64 0]
 have hM2 := (hM.more (S' := fun b => w.heap.size ≤ b ∧ b < w1.heap.size) fun b hl hb => ⟨hb, hl⟩).step eG
 have hbw := bvia hb1 eG
 have hs1 := hb1.size
 generalize w1.alloc (.cells #[.int .i64 ep, .map none, .pointer (some ⟨mb, 0, none⟩), .slice none 0 0, .slice none 0 0, .int .i64 0, .int .i64 0, .int .i64 0, .int .i64 0, .int .i64 0, .int .i64 0, .int .i64 0, .int .i64 0] 100) = X at *
 have hgl := hgb.lt
 have HBg := hid (begin_any X w1.heap.size mb n _ ep _ _ _ _ _ _ _ _ _ _ _ ls hgb hM2 (fun b hb => ⟨by omega, by omega⟩) (by omega) Hd.out)
 clear hgb hM2 hM
 repeat' (first | (go_at_call 56; go_must ((with_reducible refine Calls.mono HBg.out ?_); rintro _ w3 ⟨rfl, bm, hg3, hi3, hbm, hM3, hO3⟩; dsimp only)) | go_step)
 go_ret2
 have hOs := hO3.size
 have hbf : Below w.heap.size w w3 := hO3.below hbw (Nat.le_refl _) (fun b hb => by rw [hb]; exact hs1)
 refine ⟨w1.heap.size, rfl, ⟨bm, mb, none, 0, none, 0, fun b => w.heap.size ≤ b ∧ b < w1.heap.size, ⟨hg3, ?_, hM3, GOwn.nil _ _ _, GOwn.nil _ _ _, fun b hb => ⟨by omega, by omega, by omega, fun x hx => (by cases hx), fun x hx => (by cases hx)⟩⟩, ?_⟩, hbf⟩
 · rw [hln] at hi3; exact hi3
 · rintro b (hb | rfl | rfl | ⟨x, hx, -⟩ | ⟨x, hx, -⟩)
   · exact hb.1
   · exact hs1
   · show w.heap.size ≤ b; have := hbw.size; omega
   · cases hx
   · cases hx
theorem rnew_ok (w : World) (A : Option Addr) (n c : Nat) (ls : List El) (SB : Nat → Prop) (ep : Int) (hr : Row w SB A n c ls) (hn : n ≤ 1048576) (ha : AllRight ls) (h0 : 0 ≤ ep) (h1 : ep ≤ 1099511627776) :
 Calls Tryz.prog 26 #[.int .i64 ep, .slice A n c] w fun e w' => ∃ rb, e = .returned (.tuple #[.pointer (some ⟨rb, 0, none⟩), noNone]) ∧ RLogAt w' (fun b => w.heap.size ≤ b) rb (newLg ep ls) ∧ Below w.heap.size w w' := by
 have hNo := Blk.new w 62 #[.int .i64 0, .slice none 0 0, .slice none 0 0]
 have e0 : Below w.heap.size w (w.alloc (.cells #[.int .i64 0, .slice none 0 0, .slice none 0 0] 62)) := balloc (Below.refl _ _)
 have HO := hid (refOf_ok A n c ls SB _ (hr.step e0) hn ha)
 have hln : ls.length = n := hr.1
 unfold noNone at *
 clear hr ha
 go_enter Tryz.func26, Tryz.ntmps26
 repeat' (first | (go_at_call 58; go_must ((with_reducible refine Calls.mono HO.out ?_); rintro _ w1 ⟨E, ce, rfl, hE, hb1⟩; dsimp only)) | (with_reducible refine stop_region 4 ?_) | go_guarded | go_step)
 refine Stop.go ?_
 have eN : Below w1.heap.size w1 (w1.alloc (.cells #[.int .i64 0, .slice none 0 0, .slice none 0 0] 62)) := balloc (Below.refl _ _)
 have hnb := Blk.new w1 62 #[.int .i64 0, .slice none 0 0, .slice none 0 0]
 have hr1 := (hNo.step hb1).step eN
 have hE1 := hE.step eN
 have hbw := bvia (bvia e0 hb1) eN
 have hs1 := hb1.size
 have hs0 := e0.size
 have hsN := eN.size
 have hs00 : (w.alloc (.cells #[.int .i64 0, .slice none 0 0, .slice none 0 0] 62)).heap.size = w.heap.size + 1 := Array.size_push _
 generalize w1.alloc (.cells #[.int .i64 0, .slice none 0 0, .slice none 0 0] 62) = X at *
 have n0 : X.cell? ⟨w1.heap.size, 0, none⟩ = some (.int .i64 0) := hnb.cell 0
 have nl := hnb.lt
 repeat' (first | (with_reducible refine stop_region 6 ?_) | go_step)
 refine Stop.go ?_
 clear n0 nl hnb hNo
 have eR : Below X.heap.size X (X.alloc (.cells #[.int .i64 ep, .slice E n ce, .slice none 0 0, .slice none 0 0, .int .i64 0, .int .i64 0, .int .i64 0, .int .i64 0, .int .i64 0, .int .i64 0, .int .i64 0, .int .i64 0, .slice E n ce] 89)) := balloc (Below.refl _ _)
 have hrb := Blk.new X 89 #[.int .i64 ep, .slice E n ce, .slice none 0 0, .slice none 0 0, .int .i64 0, .int .i64 0, .int .i64 0, .int .i64 0, .int .i64 0, .int .i64 0, .int .i64 0, .int .i64 0, .slice E n ce]
 have hq := hr1.step eR
 obtain ⟨ql, q0, q1, q2, f0, f1, f2⟩ := bl3 hq
 repeat' (first | go_step)
 have hrX := ((hE1.row (S := fun b => w.heap.size + 1 + 1 ≤ b ∧ b < X.heap.size) fun b hb hl => ⟨by omega, hl⟩).step eR)
 have hbY := bvia hbw eR
 have hXz := eR.size
 have hYz : X.heap.size < (X.alloc (.cells #[.int .i64 ep, .slice E n ce, .slice none 0 0, .slice none 0 0, .int .i64 0, .int .i64 0, .int .i64 0, .int .i64 0, .int .i64 0, .int .i64 0, .int .i64 0, .int .i64 0, .slice E n ce] 89)).heap.size := hrb.lt
 generalize X.alloc (.cells #[.int .i64 ep, .slice E n ce, .slice none 0 0, .slice none 0 0, .int .i64 0, .int .i64 0, .int .i64 0, .int .i64 0, .int .i64 0, .int .i64 0, .int .i64 0, .int .i64 0, .slice E n ce] 89) = Y at *
 have hq3 := ((hq.set_ 0 (.int .i64 0)).set_ 1 (.slice none 0 0)).set_ 2 (.slice none 0 0)
 have hz3 : Below w.heap.size w (((Y.setCell ⟨w.heap.size, 0, none⟩ (.int .i64 0)).setCell ⟨w.heap.size, 1, none⟩ (.slice none 0 0)).setCell ⟨w.heap.size, 2, none⟩ (.slice none 0 0)) := bset (bset (bset hbY (Nat.le_refl _)) (Nat.le_refl _)) (Nat.le_refl _)
 have hs3 : Same (fun b => b ≠ w.heap.size) Y (((Y.setCell ⟨w.heap.size, 0, none⟩ (.int .i64 0)).setCell ⟨w.heap.size, 1, none⟩ (.slice none 0 0)).setCell ⟨w.heap.size, 2, none⟩ (.slice none 0 0)) := fun b hb _ => (Below.heap_setCell _ _ _ _ hb).trans ((Below.heap_setCell _ _ _ _ hb).trans (Below.heap_setCell _ _ _ _ hb))
 have hsz3 : (((Y.setCell ⟨w.heap.size, 0, none⟩ (.int .i64 0)).setCell ⟨w.heap.size, 1, none⟩ (.slice none 0 0)).setCell ⟨w.heap.size, 2, none⟩ (.slice none 0 0)).heap.size = Y.heap.size := by simp [World.setCell]
 generalize ((Y.setCell ⟨w.heap.size, 0, none⟩ (.int .i64 0)).setCell ⟨w.heap.size, 1, none⟩ (.slice none 0 0)).setCell ⟨w.heap.size, 2, none⟩ (.slice none 0 0) = Z at *
 have v0 := hq3.cell 0
 have v1 := hq3.cell 1
 have v2 := hq3.cell 2
 simp at v0 v1 v2
 refine bodyPost_ret (v := .tuple #[.pointer (some ⟨X.heap.size, 0, none⟩), .agg #[.int .i64 0, .slice none 0 0, .slice none 0 0]]) (by simp [results, Tryz.results26, go_sem, v0, v1, v2]) rfl ⟨X.heap.size, rfl, ⟨E, ce, none, 0, none, 0, E, ce, fun b => w.heap.size + 1 + 1 ≤ b ∧ b < X.heap.size, ⟨?_, ?_, ?_, GOwn.nil _ _ _, GOwn.nil _ _ _, fun b hb => ⟨by omega, by omega, fun x hx => (by cases hx), fun x hx => (by cases hx)⟩⟩, ?_⟩, hz3⟩
 · have := hrb.keep (show X.heap.size ≠ w.heap.size by omega) hs3
   rw [← hln] at this
   exact this
 · have := (hrX.keep (w' := Z) fun b hb hl => hs3 b (show b ≠ w.heap.size by omega) hl)
   rw [← hln] at this
   exact this
 · have := (hrX.keep (w' := Z) fun b hb hl => hs3 b (show b ≠ w.heap.size by omega) hl)
   rw [← hln] at this
   exact this
 · rintro b (hb | rfl | ⟨x, hx, -⟩ | ⟨x, hx, -⟩)
   · show w.heap.size ≤ b; omega
   · show w.heap.size ≤ X.heap.size; omega
   · cases hx
   · cases hx
end Go.Proofs.YteggpddlkkjmjaaGreatDoor
