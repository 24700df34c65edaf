/- The text of a model's live elements. Conditions: the model lies in memory, fewer than 2^29 elements. -/
import Derived.Test.YtfihjajllfihjaaDoorBuild
import Derived.Test.YtfihjajllfihjaaDoorRef5
namespace Go.Proofs.YtfihjajllfihjaaDoor
set_option linter.unusedSimpArgs false
set_option linter.unusedVariables false
open Go Go.RowKit
/-- an element's part of the view -/
def El.says (e : El) : List UInt8 := if e.hides > 0 then [] else Lib.encodeRune e.char
/-- the bytes of the live elements -/
def viewOf (l : List El) : List UInt8 := l.flatMap El.says
theorem viewOf_snoc (l : List El) (e : El) : viewOf (l ++ [e]) = viewOf l ++ e.says := by simp [viewOf, List.flatMap_append]
theorem says_le (e : El) : e.says.length ≤ 4 := by
  unfold El.says
  split
  · simp
  · rw [← Lib.runeCells_length]
    exact (Lib.runeCells_le _).2
theorem viewOf_le (l : List El) : (viewOf l).length ≤ 4 * l.length := by
  induction l with
  | nil => simp [viewOf]
  | cons e l ih =>
    have h : viewOf (e :: l) = e.says ++ viewOf l := rfl
    rw [h, List.length_append, List.length_cons]
    have := says_le e
    omega
section
variable {B b : Nat} {p : Value} {bs : List Value} {w w' : World}
theorem builderAt_keep (h : Lib.BuilderAtF 130 5 B b p bs w) (hk : ∀ (k : Nat) (cs : Array Value) (t : TypeId) (z : Nat × Nat), w.heap[k]? = some (Obj.cells cs t z) → (t = 130 ∨ t = 5) → w'.heap[k]? = w.heap[k]?) : Lib.BuilderAtF 130 5 B b p bs w' := by
  obtain ⟨hB, v, hb, hown, hne⟩ := h
  refine ⟨hB, v, (hk b _ _ _ hb (.inl rfl)).trans hb, ⟨hown.1, ?_⟩, hne⟩
  rcases hown.2 with h0 | ⟨g, cap, cur, fz, hv, hbg, hg, r⟩
  · exact .inl h0
  · exact .inr ⟨g, cap, cur, fz, hv, hbg, (hk g _ _ _ hg (.inr rfl)).trans hg, r⟩
theorem builder_keep (h : Lib.IsBuilderF 130 5 B b bs w) (hk : ∀ (k : Nat) (cs : Array Value) (t : TypeId) (z : Nat × Nat), w.heap[k]? = some (Obj.cells cs t z) → (t = 130 ∨ t = 5) → w'.heap[k]? = w.heap[k]?) : Lib.IsBuilderF 130 5 B b bs w' :=
  h.elim (fun h => .inl (builderAt_keep h hk)) (fun h => .inr (builderAt_keep h hk))
theorem builder_step (h : Lib.IsBuilderF 130 5 B b bs w) (hb : Below w.heap.size w w') : Lib.IsBuilderF 130 5 B b bs w' := builder_keep h fun k _ _ _ hk _ => hb.block k (lt_of_heap hk)
theorem builder_turn {base : Nat} (h : Lib.IsBuilderF 130 5 B b bs w) (hT : Turn 3 base w w') : Lib.IsBuilderF 130 5 B b bs w' := builder_keep h fun k cs t z hk ht => hT.cells k cs t z hk fun h => by
  have := h.2.1
  rcases ht with rfl | rfl <;> (revert this; decide)
theorem builder_begun {l : Nat} (h : Lib.IsBuilderF 130 5 B b bs w) (hT : Begun l w w') : Lib.IsBuilderF 130 5 B b bs w' := builder_keep h fun k cs t z hk _ => by
  obtain ⟨q, q', hr, _⟩ := hT.record
  exact hT.block k fun e => by subst e; rw [hr] at hk; cases hk
theorem others_at {k : Nat} {o : Obj} (h : Lib.OthersKept 5 (some b) w w') (hb : Lib.IsBuilderF 130 5 B b bs w) (hk : w.heap[k]? = some o) (ho : ∀ cs t z, o = Obj.cells cs t z → t ≠ 5 ∧ t ≠ 130) : w'.heap[k]? = some o := by
  refine h k o hk (fun e => ?_) (fun c fz e => (ho _ _ _ e).1 rfl)
  injection e with e
  subst e
  have hc : ∃ p v, w.heap[k]? = some (.cells #[p, v] 130 (0, 0)) := by
    rcases hb with hb | hb <;> (obtain ⟨_, v, hb, _⟩ := hb; exact ⟨_, v, hb⟩)
  obtain ⟨p, v, hc⟩ := hc
  rw [hk] at hc
  injection hc with hc
  exact (ho _ _ _ hc).2 rfl
end
theorem below_turn {w A B : World} {base c : Nat} {t : TypeId} (g : Below base w A) (hT : Turn t c A B) (hc : base ≤ c) (hz : base ≤ w.heap.size) : Below base w B :=
  ⟨hT.os.trans g.os, hT.tape.trans g.tape, hT.output.trans g.output, Nat.le_trans g.size hT.size, fun k hk => (hT.low k (by have := g.size; omega) (by omega)).trans (g.block k hk)⟩
theorem below_begun {w A B : World} {base l : Nat} (h : Below base w A) (hB : Begun l A B) (hl : base ≤ l) : Below base w B :=
  ⟨hB.os.trans h.os, hB.tape.trans h.tape, hB.output.trans h.output, by rw [hB.size]; exact h.size, fun k hk => (hB.block k (by omega)).trans (h.block k hk)⟩
set_option maxRecDepth 50000 in
set_option maxHeartbeats 4000000 in
theorem view_any (w : World) (S : Nat → Prop) (mb : Nat) (l : List El) (K : Nat) (h : Mdl w S mb l K) (hl : l.length ≤ 536870912) :
    Calls Tryd.prog 18 #[.pointer (some ⟨mb, 0, none⟩)] w fun r w' => r = .returned (.string ⟨(viewOf l).toArray⟩) ∧ Below w.heap.size w w' := by
  obtain ⟨gt, gm, p, T, h1, h2, h3, rfl, h5, h6, h7, h8, h9⟩ := h
  have b1 : Below w.heap.size w (w.alloc (.cells #[.pointer none, .slice none 0 0] 130)) := (Below.refl _ _).alloc (Nat.le_refl _) _
  have hlb := Blk.new w 130 #[.pointer none, .slice none 0 0]
  have m0 := h1.cell 0
  simp at m0
  have hml := h1.lt
  have h1l := (h1.step b1).lt
  have H9 := hid h9
  clear h9 h5
  refine calls_of_marks Tryd.func18 rfl ?_
  simp only [Tryd.ntmps18, List.size_toArray, List.length_cons, List.length_nil, Nat.reduceAdd, Nat.reduceSub, Array.replicate_succ, Array.replicate_zero, List.push_toArray, List.append_toArray, List.nil_append, List.cons_append]
  repeat' (first | (go_at_call 73; go_must ((with_reducible refine Calls.mono (all_any gt _) ?_); rintro _ _ ⟨rfl, rfl⟩; dsimp only)) | (with_reducible refine stop_block 0 ?_) | (with_reducible refine Keep.last ?_) | (with_reducible refine Keep.below (by assumption) ?_) | (with_reducible refine Keep.kept (by assumption) ?_) | (with_reducible refine Keep.alloc ?_) | (with_reducible refine Keep.same ?_) | ((with_reducible refine WpH.here ?_); first | (refine WpH.nil ?_; refine NoP.normal ?_) | (refine WpH.load (by rfl) (by rfl) (by go_simp; rfl) ?_; simp only [Act.put, List.setIfInBounds_toArray, List.set_cons_zero, List.set_cons_succ]) | (refine WpH.loadT (by rfl) (by rfl) (by go_simp; rfl) (by rintro _ _ ⟨⟩; exact ⟨_, _, _, _, _, _, by rfl, by assumption, by assumption⟩) ?_; simp only [Act.put, List.setIfInBounds_toArray, List.set_cons_zero, List.set_cons_succ]) | (refine WpH.pure (by rfl) (fun w_ => by go_simp; (try go_bits); rfl) ?_; simp only [Act.put, List.setIfInBounds_toArray, List.set_cons_zero, List.set_cons_succ]) | (refine WpH.wild1 (by rfl) (fun _ _ => ?_)) | (refine WpH.skip (by rfl) ?_; simp only [Act.put, List.setIfInBounds_toArray, List.set_cons_zero, List.set_cons_succ])) | go_values | go_skip | go_guarded | go_step | go_upon | go_back)
  refine Stop.go ?_
  have s1 : (w.alloc (.cells #[.pointer none, .slice none 0 0] 130)).heap.size = w.heap.size + 1 := Array.size_push _
  have e2 : Below (w.alloc (.cells #[.pointer none, .slice none 0 0] 130)).heap.size (w.alloc (.cells #[.pointer none, .slice none 0 0] 130)) ((w.alloc (.cells #[.pointer none, .slice none 0 0] 130)).alloc (.cells #[.pointer (some ⟨gt, 0, none⟩)] 133)) := (Below.refl _ _).alloc (Nat.le_refl _) _
  have hga := Blk.new (w.alloc (.cells #[.pointer none, .slice none 0 0] 130)) 133 #[.pointer (some ⟨gt, 0, none⟩)]
  rw [s1] at hga ⊢
  have bZ := b1.trans (e2.mono b1.size)
  have hlZ := hlb.step e2
  have htZ := h2.step bZ
  have hTZ := h3.step bZ
  generalize (w.alloc (.cells #[.pointer none, .slice none 0 0] 130)).alloc (.cells #[.pointer (some ⟨gt, 0, none⟩)] 133) = Z at *
  have hne : gt ≠ w.heap.size := fun e => by have := h2.lt; omega
  have hTZ2 : IsTree Z (fun b => b < w.heap.size) T p := (h3.more (S' := fun b => b < w.heap.size) fun b hl _ => hl).step bZ
  have hgaZ : w.heap.size + 1 < Z.heap.size := hga.lt
  have hBZ : Lib.IsBuilderF 130 5 w.heap.size w.heap.size (Lib.byteCells (viewOf [])) Z := .inl ⟨Nat.le_refl _, _, hlZ, ⟨rfl, .inl ⟨rfl, rfl⟩⟩, by simp [Value.ownBlock]⟩
  clear m0 hlb e2 hTZ h2 h3 h1 hml h1l b1 hlZ
  refine wp_rangeFunc_block 3 (gf := 122) (lb := #[.pointer (some ⟨w.heap.size + 1, 0, none⟩)]) rfl (enters_fn Tryd.func122 (by kernel_rfl) rfl)
    (allSeq T p gt (w.heap.size + 1) 64 (fun b => b < w.heap.size) Z hga htZ hTZ2 (by omega)) (fun h k => h.trans k) (fun W l o o' hl h hc => KpT.putObj W l o o' hl h hc) (fun _ => rfl)
    (fun (pre : List (El × Nat)) W => Lib.IsBuilderF 130 5 w.heap.size w.heap.size (Lib.byteCells (viewOf (pre.map Prod.fst))) W ∧ Below w.heap.size w W)
    (fun W => Lib.IsBuilderF 130 5 w.heap.size w.heap.size (Lib.byteCells (viewOf T.all)) W ∧ Below w.heap.size w W)
    (fun s A B h hT => ⟨builder_turn h.1 hT, below_turn h.2 hT (by omega) (Nat.le_refl _)⟩)
    (fun _ A B h hT => ⟨builder_turn h.1 hT, below_turn h.2 hT (by omega) (Nat.le_refl _)⟩)
    ⟨hBZ, bZ⟩ ?round ?done ?end_
  case round =>
    rintro ll pre ⟨e, i⟩ W hll ⟨rc, hrc⟩ ⟨g1, g3⟩ hG
    obtain ⟨hi, he, hlt⟩ := zipIdx_prefix hG
    simp only at hi he
    subst hi
    simp only [elNum, El.agg, putArgs2, List.setIfInBounds_toArray, List.set_cons_zero, List.set_cons_succ]
    repeat' (first | ((with_reducible refine regionIn_ff ?_); refine wpIn_region_r rfl ?_) | (with_reducible refine Keep.last ?_) | (with_reducible refine Keep.below (by assumption) ?_) | (with_reducible refine Keep.kept (by assumption) ?_) | (with_reducible refine Keep.alloc ?_) | (with_reducible refine Keep.same ?_) | ((with_reducible refine WpH.here ?_); first | (refine WpH.nil ?_; refine NoP.normal ?_) | (refine WpH.load (by rfl) (by rfl) (by go_simp; rfl) ?_; simp only [Act.put, List.setIfInBounds_toArray, List.set_cons_zero, List.set_cons_succ]) | (refine WpH.loadT (by rfl) (by rfl) (by go_simp; rfl) (by rintro _ _ ⟨⟩; exact ⟨_, _, _, _, _, _, by rfl, by assumption, by assumption⟩) ?_; simp only [Act.put, List.setIfInBounds_toArray, List.set_cons_zero, List.set_cons_succ]) | (refine WpH.pure (by rfl) (fun w_ => by go_simp; (try go_bits); rfl) ?_; simp only [Act.put, List.setIfInBounds_toArray, List.set_cons_zero, List.set_cons_succ]) | (refine WpH.wild1 (by rfl) (fun _ _ => ?_)) | (refine WpH.skip (by rfl) ?_; simp only [Act.put, List.setIfInBounds_toArray, List.set_cons_zero, List.set_cons_succ])) | go_values | go_skip | go_guarded | go_step | go_upon | go_back | (with_reducible refine NoO.normal ?_) | gi_step | gi_upon)
    have eW : Below W.heap.size W (W.alloc (.cells #[.int .i64 e.epoch, .int .i64 e.rep, .int .i64 e.num, .int .i32 e.char, .int .i64 e.hides] 42)) := (Below.refl _ _).alloc (Nat.le_refl _) _
    refine ⟨KeepN.of_below eW, KpT.of_below eW, fun W2 hB2 => ?_⟩
    have k1 := builder_begun (builder_step g1 eW) hB2
    have hx2 := hB2.blk (Blk.new W 42 #[.int .i64 e.epoch, .int .i64 e.rep, .int .i64 e.num, .int .i32 e.char, .int .i64 e.hides])
    have k3 : Below w.heap.size w W2 := below_begun (g3.trans (eW.mono g3.size)) hB2 (by omega)
    generalize W.heap.size = xb at *
    have hchar : 0 ≤ e.char ∧ e.char ≤ 1114111 := by
      have := (H9.out e (List.mem_of_getElem? he)).char
      unfold rightC at this
      have := of_decide_eq_true this
      omega
    have hmap : viewOf ((pre ++ [(e, pre.length)]).map Prod.fst) = viewOf (pre.map Prod.fst) ++ e.says := by rw [List.map_append]; exact viewOf_snoc _ _
    have hlen : (Lib.byteCells (viewOf (pre.map Prod.fst))).length + 4 ≤ 140737488355328 := by
      have := viewOf_le (pre.map Prod.fst)
      rw [List.length_map] at this
      unfold Lib.byteCells
      rw [List.length_map]
      omega
    have Hmap := hid hmap
    have Hlen := hid hlen
    have HWt := hid (fun W => weight_any e W)
    have hG' := hid hG
    clear hmap hlen hG g1 g3 eW hB2 hrc he
    obtain ⟨x0, x1, x2, x3, x4, xl⟩ := Blk.five hx2
    by_cases hh : e.hides > 0
    · have hlv : e.live = 0 := by unfold El.live; rw [if_pos hh]
      have hsay : e.says = [] := by unfold El.says; rw [if_pos hh]
      rw [hlv, show ((0 : Nat) : Int) = 0 from rfl] at HWt
      clear hh hlv
      repeat' (first | (go_at_call 74; go_must ((with_reducible refine Calls.mono (HWt.out _) ?_); rintro _ w3 ⟨rfl, hb3⟩; dsimp only)) | ((with_reducible refine regionIn_ff ?_); refine wpIn_region_r rfl ?_) | (with_reducible refine Keep.last ?_) | (with_reducible refine Keep.below (by assumption) ?_) | (with_reducible refine Keep.kept (by assumption) ?_) | (with_reducible refine Keep.alloc ?_) | (with_reducible refine Keep.same ?_) | ((with_reducible refine WpH.here ?_); first | (refine WpH.nil ?_; refine NoP.normal ?_) | (refine WpH.load (by rfl) (by rfl) (by go_simp; rfl) ?_; simp only [Act.put, List.setIfInBounds_toArray, List.set_cons_zero, List.set_cons_succ]) | (refine WpH.loadT (by rfl) (by rfl) (by go_simp; rfl) (by rintro _ _ ⟨⟩; exact ⟨_, _, _, _, _, _, by rfl, by assumption, by assumption⟩) ?_; simp only [Act.put, List.setIfInBounds_toArray, List.set_cons_zero, List.set_cons_succ]) | (refine WpH.pure (by rfl) (fun w_ => by go_simp; (try go_bits); rfl) ?_; simp only [Act.put, List.setIfInBounds_toArray, List.set_cons_zero, List.set_cons_succ]) | (refine WpH.wild1 (by rfl) (fun _ _ => ?_)) | (refine WpH.skip (by rfl) ?_; simp only [Act.put, List.setIfInBounds_toArray, List.set_cons_zero, List.set_cons_succ])) | go_values | go_skip | go_guarded | go_step | go_upon | go_back | (with_reducible refine NoO.normal ?_) | gi_step | gi_upon)
      skip
      refine ⟨KeepN.of_below hb3, KpT.of_below hb3, ?_, k3.trans (hb3.mono k3.size)⟩
      rw [Hmap.out, hsay, List.append_nil]
      exact builder_step k1 hb3
    · have hlv : e.live = 1 := by unfold El.live; rw [if_neg hh]
      have hsay : e.says = Lib.encodeRune e.char := by unfold El.says; rw [if_neg hh]
      rw [hlv, show ((1 : Nat) : Int) = 1 from rfl] at HWt
      clear hh hlv
      repeat' (first | (go_at_call 74; go_must ((with_reducible refine Calls.mono (HWt.out _) ?_); rintro _ w3 ⟨rfl, hb3⟩; have k13 := builder_step k1 hb3; obtain ⟨x0, x1, x2, x3, x4, xl⟩ := Blk.five (Blk.step hx2 hb3); dsimp only)) | (go_at_call 75; go_must ((with_reducible refine Calls.mono (writeRune_b w.heap.size w.heap.size _ e.char (by omega) (by omega) _ k13 Hlen.out (by have := k3.size; have := hb3.size; omega)) ?_); rintro _ w4 ⟨rfl, k4, hb4, ho4⟩; dsimp only)) | ((with_reducible refine regionIn_ff ?_); refine wpIn_region_r rfl ?_) | (with_reducible refine Keep.last ?_) | (with_reducible refine Keep.below (by assumption) ?_) | (with_reducible refine Keep.kept (by assumption) ?_) | (with_reducible refine Keep.alloc ?_) | (with_reducible refine Keep.same ?_) | ((with_reducible refine WpH.here ?_); first | (refine WpH.nil ?_; refine NoP.normal ?_) | (refine WpH.load (by rfl) (by rfl) (by go_simp; rfl) ?_; simp only [Act.put, List.setIfInBounds_toArray, List.set_cons_zero, List.set_cons_succ]) | (refine WpH.loadT (by rfl) (by rfl) (by go_simp; rfl) (by rintro _ _ ⟨⟩; exact ⟨_, _, _, _, _, _, by rfl, by assumption, by assumption⟩) ?_; simp only [Act.put, List.setIfInBounds_toArray, List.set_cons_zero, List.set_cons_succ]) | (refine WpH.pure (by rfl) (fun w_ => by go_simp; (try go_bits); rfl) ?_; simp only [Act.put, List.setIfInBounds_toArray, List.set_cons_zero, List.set_cons_succ]) | (refine WpH.wild1 (by rfl) (fun _ _ => ?_)) | (refine WpH.skip (by rfl) ?_; simp only [Act.put, List.setIfInBounds_toArray, List.set_cons_zero, List.set_cons_succ])) | go_values | go_skip | go_guarded | go_step | go_upon | go_back | (with_reducible refine NoO.normal ?_) | gi_step | gi_upon)
      skip
      have k34 := (k3.trans (hb3.mono k3.size)).trans hb4
      have hoN : ∀ k o, W2.heap[k]? = some o → (∀ cs t z, o = Obj.cells cs t z → t ≠ 5 ∧ t ≠ 130) → w4.heap[k]? = some o := fun k o hk ho => others_at ho4 k13 ((hb3.block k (lt_of_heap hk)).trans hk) ho
      refine ⟨fun b o _ ho hc => hoN b o ho (fun cs t z e => by subst e; cases hc), ⟨Nat.le_trans hb3.size hb4.size, fun b _ hS _ => (hb4.block b hS).trans (hb3.block b (by omega)), fun b v _ hbx => ?_⟩, ?_, k34⟩
      · rcases hbx with hbx | hbx
        · exact (hoN b _ hbx (fun cs t z e => by injection e with _ e; subst e; decide)).trans hbx.symm
        · exact (hoN b _ hbx (fun cs t z e => by injection e with _ e; subst e; decide)).trans hbx.symm
      · rw [Hmap.out, hsay, show Lib.byteCells (viewOf (pre.map Prod.fst) ++ Lib.encodeRune e.char) = Lib.byteCells (viewOf (pre.map Prod.fst)) ++ Lib.runeCells e.char from by rw [← Lib.byteCells_encodeRune]; simp [Lib.byteCells]]
        exact .inr k4
  case done =>
    rintro xs W rfl ⟨g1, g3⟩
    exact ⟨by simpa using g1, g3⟩
  case end_ =>
    rintro D W hD ⟨g1, g3⟩ hK
    repeat' (first | (go_at_call 76; go_must ((with_reducible refine Calls.mono (bstring_b w.heap.size w.heap.size _ W g1 g3.size) ?_); rintro _ w4 ⟨rfl, hb4, ho4⟩; dsimp only)) | (with_reducible refine Keep.last ?_) | (with_reducible refine Keep.below (by assumption) ?_) | (with_reducible refine Keep.kept (by assumption) ?_) | (with_reducible refine Keep.alloc ?_) | (with_reducible refine Keep.same ?_) | ((with_reducible refine WpH.here ?_); first | (refine WpH.nil ?_; refine NoP.normal ?_) | (refine WpH.load (by rfl) (by rfl) (by go_simp; rfl) ?_; simp only [Act.put, List.setIfInBounds_toArray, List.set_cons_zero, List.set_cons_succ]) | (refine WpH.loadT (by rfl) (by rfl) (by go_simp; rfl) (by rintro _ _ ⟨⟩; exact ⟨_, _, _, _, _, _, by rfl, by assumption, by assumption⟩) ?_; simp only [Act.put, List.setIfInBounds_toArray, List.set_cons_zero, List.set_cons_succ]) | (refine WpH.pure (by rfl) (fun w_ => by go_simp; (try go_bits); rfl) ?_; simp only [Act.put, List.setIfInBounds_toArray, List.set_cons_zero, List.set_cons_succ]) | (refine WpH.wild1 (by rfl) (fun _ _ => ?_)) | (refine WpH.skip (by rfl) ?_; simp only [Act.put, List.setIfInBounds_toArray, List.set_cons_zero, List.set_cons_succ])) | go_values | go_skip | go_guarded | go_step | go_upon | go_back)
    skip
    have hsA := others_at ho4 g1 hK (fun cs t z e => by cases e)
    refine leaves1 hsA (v := .string ⟨(viewOf T.all).toArray⟩) (by rintro w' rfl; simp [results, Tryd.results18, go_sem]) ⟨rfl, ?_⟩
    have g4 := g3.trans hb4
    exact ⟨g4.os, g4.tape, g4.output, by simpa using g4.size, fun k hk => (World.putObj_heap_other (by have := bZ.size; omega)).trans (g4.block k hk)⟩
end Go.Proofs.YtfihjajllfihjaaDoor
