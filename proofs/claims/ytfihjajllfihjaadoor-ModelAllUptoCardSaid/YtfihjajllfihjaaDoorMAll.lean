/- The model's All: an iterator that ranges over the tree's. Conditions: the model lies in memory, fewer than 2^30 elements; a round that goes on leaves the tree's blocks and the iterators' boxes as they were. -/
import Derived.Test.YtfihjajllfihjaaDoorRoundN
import Derived.Test.YtfihjajllfihjaaDoorTurn
import Derived.Test.YtfihjajllfihjaaDoorModel1
import Derived.Test.YtfihjajllfihjaaDoorBel
namespace Go.Proofs.YtfihjajllfihjaaDoor
set_option linter.unusedSimpArgs false
set_option linter.unusedVariables false
open Go Go.RowKit
theorem mall_any (mb : Nat) (w : World) :
    Calls Tryd.prog 25 #[.pointer (some ⟨mb, 0, none⟩)] w fun e w' => e = .returned (.func (.func 81) #[] #[.pointer (some ⟨w.heap.size, 0, none⟩)]) ∧ w' = w.alloc (.cells #[.pointer (some ⟨mb, 0, none⟩)] 27) := by
  go_enter Tryd.func25, Tryd.ntmps25
  go_wp2
  go_ret
  exact ⟨rfl, rfl⟩
/-- what a round that goes on keeps: as KpT, and the boxes of the outer yield -/
structure KpM (n₀ : Nat) (S : Nat → Prop) (W W' : World) : Prop where
  t : KpT n₀ S W W'
  box : ∀ b v, n₀ ≤ b → Blk W b 89 #[v] → W'.heap[b]? = W.heap[b]?
theorem KpM.trans {n₀ : Nat} {S : Nat → Prop} {A B C : World} (h : KpM n₀ S A B) (k : KpM n₀ S B C) : KpM n₀ S A C :=
  ⟨h.t.trans k.t, fun b v h1 h2 => by
    have e := h.box b v h1 h2
    exact (k.box b v h1 (e.trans h2)).trans e⟩
theorem KpM.of_below {n₀ : Nat} {S : Nat → Prop} {W W' : World} (h : Below W.heap.size W W') : KpM n₀ S W W' := ⟨KpT.of_below h, fun b v _ hb => h.block b hb.lt⟩
theorem KpM.putObj {n₀ : Nat} {S : Nat → Prop} (W : World) (l : Nat) (o o' : Obj) (hl : n₀ ≤ l) (h : W.heap[l]? = some o) (hc : o.isCells = false) : KpM n₀ S W (W.putObj l o') :=
  ⟨KpT.putObj W l o o' hl h hc, fun b v _ hb => World.putObj_heap_other fun e => by
    subst e
    unfold Blk at hb
    rw [hb] at h
    injection h with h
    subst h
    cases hc⟩
theorem Turn.of_begun {t : TypeId} {base l : Nat} {A B : World} (h : Begun l A B) (hl : base ≤ l) : Turn t base A B :=
  ⟨h.os, h.tape, h.output, by rw [h.size]; exact Nat.le_refl _, fun b _ hlt => h.block b (by omega), fun b cs u z hb _ => h.block b fun e => by
    subst e
    obtain ⟨r, r', hr, -⟩ := h.record
    rw [hr] at hb
    cases hb⟩
def elOne (e : El) : Array Value := #[e.agg]
set_option maxRecDepth 100000 in
set_option maxHeartbeats 4000000 in
theorem mallSeq (T : Tr) (p : Option Addr) (g mb gt : Nat) (gm : Value) (S : Nat → Prop) (w : World) (hg : Blk w g 27 #[.pointer (some ⟨mb, 0, none⟩)]) (h1 : Blk w mb 138 #[.pointer (some ⟨gt, 0, none⟩), gm]) (h2 : Blk w gt 181 #[.int .i64 64, .pointer p]) (h3 : IsTree w S T p) (hbd : T.all.length ≤ 1073741824) :
    SeqN Tryd.prog 3 81 #[.pointer (some ⟨g, 0, none⟩)] elOne (KpM w.heap.size S) (fun xs => xs = T.all) (fun pre x => pre ++ [x] <+: T.all) w := by
  intro l J Jx W hbW hwl hlW hJ hJx hY h0
  have hsz := hbW.size
  have b1 : Below W.heap.size W (W.alloc (.cells #[.func (.yield l) #[] #[]] 89)) := balloc (Below.refl _ _)
  have s1 : (W.alloc (.cells #[.func (.yield l) #[] #[]] 89)).heap.size = W.heap.size + 1 := Array.size_push _
  have e1 := hbW.trans (b1.mono hsz)
  have gl := (hg.step e1).cell 0
  have ml := (h1.step e1).cell 0
  have gll := (hg.step e1).lt
  have mll := (h1.step e1).lt
  simp at gl ml
  have H0 := hid h0
  have HY := hid hY
  clear hY h0
  refine calls_of_marks Tryd.func81 rfl ?_
  simp only [Tryd.ntmps81, List.size_toArray, List.length_cons, List.length_nil, Nat.reduceAdd, Nat.reduceSub, Array.replicate_succ, Array.replicate_zero, List.push_toArray, List.append_toArray, List.nil_append, List.cons_append]
  repeat' (first | (go_at_call 73; go_must ((with_reducible refine Calls.mono (all_any gt _) ?_); rintro _ _ ⟨rfl, rfl⟩; dsimp only)) | (with_reducible refine stop_block 0 ?_) | (with_reducible refine Keep.last ?_) | (with_reducible refine Keep.below (by assumption) ?_) | (with_reducible refine Keep.kept (by assumption) ?_) | (with_reducible refine Keep.alloc ?_) | (with_reducible refine Keep.same ?_) | ((with_reducible refine WpH.here ?_); first | (refine WpH.nil ?_; refine NoP.normal ?_) | (refine WpH.load (by rfl) (by rfl) (by go_simp; rfl) ?_; simp only [Act.put, List.setIfInBounds_toArray, List.set_cons_zero, List.set_cons_succ]) | (refine WpH.loadT (by rfl) (by rfl) (by go_simp; rfl) (by rintro _ _ ⟨⟩; exact ⟨_, _, _, _, _, _, by rfl, by assumption, by assumption⟩) ?_; simp only [Act.put, List.setIfInBounds_toArray, List.set_cons_zero, List.set_cons_succ]) | (refine WpH.pure (by rfl) (fun w_ => by go_simp; (try go_bits); rfl) ?_; simp only [Act.put, List.setIfInBounds_toArray, List.set_cons_zero, List.set_cons_succ]) | (refine WpH.wild1 (by rfl) (fun _ _ => ?_)) | (refine WpH.skip (by rfl) ?_; simp only [Act.put, List.setIfInBounds_toArray, List.set_cons_zero, List.set_cons_succ])) | go_values | go_skip | go_guarded | go_step | go_upon | go_back)
  refine Stop.go ?_
  skip
  have e2 := e1.trans ((balloc (o := .cells #[.pointer (some ⟨gt, 0, none⟩)] 133) (Below.refl _ (W.alloc (.cells #[.func (.yield l) #[] #[]] 89)))).mono (by omega))
  have hya := (Blk.new W 89 #[.func (.yield l) #[] #[]]).alloc (.cells #[.pointer (some ⟨gt, 0, none⟩)] 133)
  have hga := Blk.new (W.alloc (.cells #[.func (.yield l) #[] #[]] 89)) 133 #[.pointer (some ⟨gt, 0, none⟩)]
  have hT0 : Turn 3 W.heap.size W ((W.alloc (.cells #[.func (.yield l) #[] #[]] 89)).alloc (.cells #[.pointer (some ⟨gt, 0, none⟩)] 133)) := Turn.of_below (balloc b1)
  rw [s1] at hga ⊢
  have htZ := h2.step e2
  have hTZ := (h3.more (S' := fun b => S b ∧ b < w.heap.size) fun b hl hs => ⟨hs, hl⟩).step e2
  have hJ0 := hJ _ _ _ H0.out hT0
  generalize (W.alloc (.cells #[.func (.yield l) #[] #[]] 89)).alloc (.cells #[.pointer (some ⟨gt, 0, none⟩)] 133) = Z at *
  have hgaZ := hga.lt
  have hzz : W.heap.size < Z.heap.size := by omega
  clear gl ml gll mll hT0 e1 e2 b1 s1
  refine wp_block (wp_rangeFunc 3 (gf := 122) (lb := #[.pointer (some ⟨W.heap.size + 1, 0, none⟩)]) rfl (enters_fn Tryd.func122 (by kernel_rfl) rfl)
    (allSeq T p gt (W.heap.size + 1) 64 (fun b => S b ∧ b < w.heap.size) Z hga htZ hTZ hbd) (fun h k => h.trans k) (fun W l o o' hl h hc => KpT.putObj W l o o' hl h hc) (fun _ => rfl)
    (fun (pre : List (El × Nat)) V => J (pre.map Prod.fst) V ∧ Blk V W.heap.size 89 #[.func (.yield l) #[] #[]])
    (fun c (pre : List (El × Nat)) V => c = .ret ∧ Jx (pre.map Prod.fst) V)
    (fun s A B h hT => ⟨hJ _ _ _ h.1 (hT.less (Nat.le_of_lt hzz)), h.2.turn hT hzz⟩)
    (fun c s A B h hT => ⟨h.1, hJx _ _ _ h.2 (hT.less (Nat.le_of_lt hzz))⟩)
    ⟨hJ0, hya⟩ ?round ?done ?stop)
  case round =>
    rintro ll pre ⟨e, i⟩ V hll ⟨rc, hrc⟩ ⟨g0, g1⟩ hG
    obtain ⟨hi, he, hlt⟩ := zipIdx_prefix hG
    simp only at hi he
    subst hi
    simp only [elNum, El.agg, putArgs2, List.setIfInBounds_toArray, List.set_cons_zero, List.set_cons_succ]
    repeat' (first | ((with_reducible refine regionIn_ff ?_); refine wpIn_region_r rfl ?_) | (with_reducible refine Keep.last ?_) | (with_reducible refine Keep.below (by assumption) ?_) | (with_reducible refine Keep.kept (by assumption) ?_) | (with_reducible refine Keep.alloc ?_) | (with_reducible refine Keep.same ?_) | ((with_reducible refine WpH.here ?_); first | (refine WpH.nil ?_; refine NoP.normal ?_) | (refine WpH.load (by rfl) (by rfl) (by go_simp; rfl) ?_; simp only [Act.put, List.setIfInBounds_toArray, List.set_cons_zero, List.set_cons_succ]) | (refine WpH.loadT (by rfl) (by rfl) (by go_simp; rfl) (by rintro _ _ ⟨⟩; exact ⟨_, _, _, _, _, _, by rfl, by assumption, by assumption⟩) ?_; simp only [Act.put, List.setIfInBounds_toArray, List.set_cons_zero, List.set_cons_succ]) | (refine WpH.pure (by rfl) (fun w_ => by go_simp; (try go_bits); rfl) ?_; simp only [Act.put, List.setIfInBounds_toArray, List.set_cons_zero, List.set_cons_succ]) | (refine WpH.wild1 (by rfl) (fun _ _ => ?_)) | (refine WpH.skip (by rfl) ?_; simp only [Act.put, List.setIfInBounds_toArray, List.set_cons_zero, List.set_cons_succ])) | go_values | go_skip | go_guarded | go_step | go_upon | go_back | (with_reducible refine NoO.normal ?_) | gi_step | gi_upon)
    have eW : Below V.heap.size V (V.alloc (.cells #[.int .i64 e.epoch, .int .i64 e.rep, .int .i64 e.num, .int .i32 e.char, .int .i64 e.hides] 42)) := balloc (Below.refl _ _)
    refine ⟨KeepN.of_below eW, KpT.of_below eW, fun W2 hB2 => ?_⟩
    have k0 := hJ _ _ _ (hJ _ _ _ g0 (Turn.of_below eW)) (Turn.of_begun hB2 (by omega))
    have k1 := hB2.blk (g1.step eW)
    have hx2 := hB2.blk (Blk.new V 42 #[.int .i64 e.epoch, .int .i64 e.rep, .int .i64 e.num, .int .i32 e.char, .int .i64 e.hides])
    generalize V.heap.size = xb at *
    have hmap : (pre ++ [(e, pre.length)]).map Prod.fst = pre.map Prod.fst ++ [e] := by simp
    have hpre : pre.map Prod.fst ++ [e] <+: T.all := by
      obtain ⟨r, hr⟩ := hG
      have h1 := congrArg (List.map Prod.fst) hr
      rw [List.map_append, hmap, show T.all.zipIdx.map Prod.fst = T.all from by simp] at h1
      exact ⟨_, h1⟩
    obtain ⟨fn, tmps, assign, body, hy, hR⟩ := HY.out (pre.map Prod.fst) e W2 k0 hpre
    simp only [elOne, El.agg] at hy
    have Hk1 := hid k1
    have Hmap := hid hmap
    have y0 := k1.cell 0
    have yl := k1.lt
    simp at y0
    have x0 := hx2.cell 0; have x1 := hx2.cell 1; have x2 := hx2.cell 2; have x3 := hx2.cell 3; have x4 := hx2.cell 4; have xl := hx2.lt; simp at x0 x1 x2 x3 x4
    clear hmap hpre hG g0 g1 eW hB2 hrc he hx2 k1 k0
    repeat' (first | ((with_reducible refine regionIn_at 3 ?_); refine wpIn_region_wide rfl ?_) | ((with_reducible refine roundIn_at ?_); go_must (refine ⟨rfl, ?_⟩; refine RoundIn.mono hR ?_; clear hR; rintro _ W3 (⟨rfl, hJ3, hk3, he3⟩ | ⟨rfl, hx3, he3⟩); all_goals dsimp only)) | gi_guarded | gi_step | gi_upon | ((with_reducible refine regionIn_ff ?_); refine wpIn_region_r rfl ?_) | (with_reducible refine Keep.last ?_) | (with_reducible refine Keep.below (by assumption) ?_) | (with_reducible refine Keep.kept (by assumption) ?_) | (with_reducible refine Keep.alloc ?_) | (with_reducible refine Keep.same ?_) | ((with_reducible refine WpH.here ?_); first | (refine WpH.nil ?_; refine NoP.normal ?_) | (refine WpH.load (by rfl) (by rfl) (by go_simp; rfl) ?_; simp only [Act.put, List.setIfInBounds_toArray, List.set_cons_zero, List.set_cons_succ]) | (refine WpH.loadT (by rfl) (by rfl) (by go_simp; rfl) (by rintro _ _ ⟨⟩; exact ⟨_, _, _, _, _, _, by rfl, by assumption, by assumption⟩) ?_; simp only [Act.put, List.setIfInBounds_toArray, List.set_cons_zero, List.set_cons_succ]) | (refine WpH.pure (by rfl) (fun w_ => by go_simp; (try go_bits); rfl) ?_; simp only [Act.put, List.setIfInBounds_toArray, List.set_cons_zero, List.set_cons_succ]) | (refine WpH.wild1 (by rfl) (fun _ _ => ?_)) | (refine WpH.skip (by rfl) ?_; simp only [Act.put, List.setIfInBounds_toArray, List.set_cons_zero, List.set_cons_succ])) | go_values | go_skip | go_guarded | go_step | go_upon | go_back | (with_reducible refine NoO.normal ?_) | gi_step | gi_upon)
    skip
    · refine ⟨he3.keepN (by omega) (by omega), ⟨hk3.t.size, fun b hb hs hl => hk3.t.low b hs.2 hs.1 hl, fun b v hb hbx => hk3.t.box b v (by omega) hbx⟩, ?_, ?_⟩
      · rw [Hmap.out]; exact hJ3
      · exact (hk3.box _ _ hsz Hk1.out).trans Hk1.out
    · refine ⟨he3.keepN (by omega) (by omega), rfl, ?_⟩
      rw [Hmap.out]; exact hx3
  case done =>
    rintro D xs V hD rfl ⟨g0, g1⟩ hK
    rw [show T.all.zipIdx.map Prod.fst = T.all from by simp] at g0
    refine leaves1 hK (v := .tuple #[]) (fun w' _ => by simp [results, Tryd.results81, go_sem]) ⟨⟨_, rfl⟩, .inl ⟨_, rfl, ?_⟩⟩
    exact hJ _ _ _ g0 (Turn.putObj (by omega) hK rfl)
  case stop =>
    rintro D c pre V hD ⟨rfl, hx⟩ hK
    repeat' (first | (with_reducible refine Keep.last ?_) | (with_reducible refine Keep.below (by assumption) ?_) | (with_reducible refine Keep.kept (by assumption) ?_) | (with_reducible refine Keep.alloc ?_) | (with_reducible refine Keep.same ?_) | ((with_reducible refine WpH.here ?_); first | (refine WpH.nil ?_; refine NoP.normal ?_) | (refine WpH.load (by rfl) (by rfl) (by go_simp; rfl) ?_; simp only [Act.put, List.setIfInBounds_toArray, List.set_cons_zero, List.set_cons_succ]) | (refine WpH.loadT (by rfl) (by rfl) (by go_simp; rfl) (by rintro _ _ ⟨⟩; exact ⟨_, _, _, _, _, _, by rfl, by assumption, by assumption⟩) ?_; simp only [Act.put, List.setIfInBounds_toArray, List.set_cons_zero, List.set_cons_succ]) | (refine WpH.pure (by rfl) (fun w_ => by go_simp; (try go_bits); rfl) ?_; simp only [Act.put, List.setIfInBounds_toArray, List.set_cons_zero, List.set_cons_succ]) | (refine WpH.wild1 (by rfl) (fun _ _ => ?_)) | (refine WpH.skip (by rfl) ?_; simp only [Act.put, List.setIfInBounds_toArray, List.set_cons_zero, List.set_cons_succ])) | go_values | go_skip | go_guarded | go_step | go_upon | go_back)
    refine leaves1 (w := V) hK (v := .tuple #[]) (fun w' _ => by simp [results, Tryd.results81, go_sem]) ⟨⟨_, rfl⟩, .inr ⟨pre.map Prod.fst, ?_⟩⟩
    exact hJx _ _ _ hx (Turn.putObj (by omega) hK rfl)
end Go.Proofs.YtfihjajllfihjaaDoor
