/- A strings.Builder of a call's own: how the library's bodies lie in this program; a rune written. Condition: the builder lies in memory, at most 2^47 bytes. The text of a model's live elements. Conditions: the model lies in memory, fewer than 2^29 elements. The statements' own wakes of chapter 5. No condition. -/
import Derived.Test.YtfihjajllfihjaaGreatDoorSModel2
import Derived.Shelf.Strings.BuilderRune
import Derived.Shelf.Strings.BuilderK
import Derived.Laws.Externs
import Derived.Test.YtfihjajllfihjaaGreatDoorP21
import Derived.Test.YtfihjajllfihjaaGreatDoorP27
namespace Go.Proofs.YtfihjajllfihjaaGreatDoor
set_option linter.unusedSimpArgs false
set_option linter.unusedVariables false
open Go Go.RowKit Go.Shelf
def renB : Ren := ⟨fun | 242 => 102 | 278 => 118 | 169 => 56 | _ => 0, fun | 0 => 0 | 3 => 3 | 4 => 4 | 5 => 5 | 9 => 9 | 21 => 21 | 37 => 100 | 46 => 148 | 51 => 169 | 70 => 99 | 72 => 102 | 127 => 147 | _ => 0, fun _ => 0⟩
theorem laysB242 : Lays.n242 Tryz.prog renB where
  mixed := by kernel_rfl
  f242 := Tryz.func102.trans (congrArg some (by kernel_rfl))
  f278 := Tryz.func118.trans (congrArg some (by kernel_rfl))
  t4 := Tryz.underlying4
  a4 := Tryz.isAgg4
  z4 := Tryz.sizeOf4
  v4 := Tryz.zeroValue4
  t5 := Tryz.underlying5
  a5 := Tryz.isAgg5
  z5 := Tryz.sizeOf5
  v5 := Tryz.zeroValue5
  t21 := Tryz.underlying21
  a21 := Tryz.isAgg21
  z21 := Tryz.sizeOf21
  v21 := Tryz.zeroValue21
  t37 := Tryz.underlying100
  a37 := Tryz.isAgg100
  z37 := Tryz.sizeOf100
  v37 := Tryz.zeroValue100
  t46 := Tryz.underlying148
  a46 := Tryz.isAgg148
  z46 := Tryz.sizeOf148
  v46 := Tryz.zeroValue148
  t51 := Tryz.underlying169
  a51 := Tryz.isAgg169
  z51 := Tryz.sizeOf169
  v51 := Tryz.zeroValue169
theorem laysB169 : Lays.n169 Tryz.prog renB where
  mixed := by kernel_rfl
  f169 := Tryz.func56.trans (congrArg some (by kernel_rfl))
  t0 := Tryz.underlying0
  a0 := Tryz.isAgg0
  z0 := Tryz.sizeOf0
  v0 := Tryz.zeroValue0
  t3 := Tryz.underlying3
  a3 := Tryz.isAgg3
  z3 := Tryz.sizeOf3
  v3 := Tryz.zeroValue3
  t9 := Tryz.underlying9
  a9 := Tryz.isAgg9
  z9 := Tryz.sizeOf9
  v9 := Tryz.zeroValue9
  t37 := Tryz.underlying100
  a37 := Tryz.isAgg100
  z37 := Tryz.sizeOf100
  v37 := Tryz.zeroValue100
  t70 := Tryz.underlying99
  a70 := Tryz.isAgg99
  z70 := Tryz.sizeOf99
  v70 := Tryz.zeroValue99
  t72 := Tryz.underlying102
  a72 := Tryz.isAgg102
  z72 := Tryz.sizeOf102
  v72 := Tryz.zeroValue102
  t127 := Tryz.underlying147
  a127 := Tryz.isAgg147
  z127 := Tryz.sizeOf147
  v127 := Tryz.zeroValue147
theorem extraB : Builder.Extra Tryz.prog renB where
  sizeBuilder := by kernel_rfl
  liesBuilder := by kernel_rfl
  t5 := Tryz.underlying5
  a5 := Tryz.isAgg5
  z5 := Tryz.sizeOf5
  v5 := Tryz.zeroValue5
  infoByte := by kernel_rfl
  cellsByte := by kernel_rfl
  sizeByte := by kernel_rfl
  neB5 := by decide
theorem appendRune_b (B : Nat) (v : Value) (n : Nat) (xs : List Value) (r : Int) (hr0 : -2147483648 ≤ r) (hr1 : r ≤ 2147483647) (w : World) (hown : w.ownsRowF B 5 1 v n xs) (hlen : n + 4 ≤ 140737488355328) (hBw : B ≤ w.heap.size) :
    Calls Tryz.prog 102 #[v, .int .i32 r] w fun e w' => ∃ v', e = .returned v' ∧ w'.ownsRowF B 5 1 v' (n + (Lib.runeCells r).length) (xs ++ Lib.runeCells r) ∧ ∃ o, (w.alloc o).grownBy w' v.ownBlock :=
  Any.utf8_AppendRune_own laysB242 extraB B v n xs r hr0 hr1 w hown hlen hBw
theorem bstring_b (B b : Nat) (l : List UInt8) (w : World) (h : Lib.IsBuilderF 102 5 B b (Lib.byteCells l) w) (hBw : B ≤ w.heap.size) :
    Calls Tryz.prog 56 #[.pointer (some ⟨b, 0, none⟩)] w fun e w' => e = .returned (.string ⟨l.toArray⟩) ∧ Below B w w' ∧ Lib.OthersKept 5 (some b) w w' :=
  (Any.Builder_String_any_k laysB169 extraB B b l w h hBw).mono fun e w' h => ⟨h.1, h.2.2⟩
set_option maxRecDepth 100000 in
/-- copyCheck at a builder that has been used: nothing turns -/
theorem copyCheck_used (b : Nat) (w : World) (h0 : w.cell? ⟨b, 0, none⟩ = some (.pointer (some ⟨b, 0, none⟩))) :
    Calls Tryz.prog 101 #[.pointer (some ⟨b, 0, none⟩)] w fun e w' => e = .returned (.tuple #[]) ∧ w' = w := by
  obtain ⟨j, hj, _⟩ := Option.map_eq_some_iff.1 (extraB).sizeBuilder
  have hj' : Tryz.prog.info? 102 = some j := hj
  go_enter Tryz.func101, Tryz.ntmps101
  repeat' (first | go_values | go_skip | go_guarded | go_step | go_upon | go_back)
  rw [Lib.run_neq_ptr_same w _ Tryz.underlying99 hj']
  repeat' (first | go_values | go_skip | go_guarded | go_step | go_upon | go_back)
  go_end0
  exact ⟨rfl, rfl⟩
set_option maxRecDepth 100000 in
/-- copyCheck at a fresh builder: it stores its own address -/
theorem copyCheck_fresh (b : Nat) (w : World) (h0 : w.cell? ⟨b, 0, none⟩ = some (.pointer none)) (hsh : w.shape? b = some (102, 2)) (hfz : w.frozen? ⟨b, 0, none⟩ = false) :
    Calls Tryz.prog 101 #[.pointer (some ⟨b, 0, none⟩)] w fun e w' => e = .returned (.tuple #[]) ∧ w' = w.setCell ⟨b, 0, none⟩ (.pointer (some ⟨b, 0, none⟩)) := by
  obtain ⟨j, hj, hjs⟩ := Option.map_eq_some_iff.1 (extraB).sizeBuilder
  have hj' : Tryz.prog.info? 102 = some j := hj
  go_enter Tryz.func101, Tryz.ntmps101
  repeat' (first | go_values | go_skip | go_guarded | go_step | go_upon | go_back)
  rw [Lib.run_to_unsafe w ⟨b, 0, none⟩ Tryz.underlying99 Tryz.underlying167 hj' (by rw [hjs]; decide) hsh (Nat.zero_lt_succ 1)]
  simp only [Result.andThen]
  rw [Oper.upon_value]
  repeat' (first | go_values | go_skip | go_guarded | go_step | go_upon | go_back)
  rw [run_callFunc_extern Tryz.func117 (by kernel_rfl) (by kernel_rfl) (by kernel_rfl) (e := Extern.AbiNoEscape.same) (by kernel_rfl)]
  rw [Lib.run_noEscape]
  simp only [Result.andThen]
  rw [Oper.upon_value]
  repeat' (first | go_values | go_skip | go_guarded | go_step | go_upon | go_back)
  rw [Lib.run_from_unsafe w ⟨b, 0, none⟩ Tryz.underlying167 Tryz.underlying99 hj' hsh extraB.liesBuilder]
  simp only [Result.andThen]
  rw [Oper.upon_value]
  repeat' (first | go_values | go_skip | go_guarded | go_step | go_upon | go_back)
  go_end0
  exact ⟨rfl, rfl⟩
theorem copyCheck_b (B b : Nat) (bs : List Value) (w : World) (h : Lib.IsBuilderF 102 5 B b bs w) :
    Calls Tryz.prog 101 #[.pointer (some ⟨b, 0, none⟩)] w fun e w' => e = .returned (.tuple #[]) ∧ Lib.BuilderAtF 102 5 B b (.pointer (some ⟨b, 0, none⟩)) bs w' ∧ Below B w w' ∧ Lib.OthersKept 5 (some b) w w' := by
  rcases h with h | h
  · refine (copyCheck_fresh b w h.cell0 h.shape h.frozen0).mono ?_
    rintro e w' ⟨rfl, rfl⟩
    exact ⟨rfl, h.used _, (Below.refl B w).setCell (p := ⟨b, 0, none⟩) h.1 _, (Lib.OthersKept.refl _ _ _).setCell ⟨b, 0, none⟩ rfl _⟩
  · refine (copyCheck_used b w h.cell0).mono ?_
    rintro e w' ⟨rfl, rfl⟩
    exact ⟨rfl, h, Below.refl B _, Lib.OthersKept.refl _ _ _⟩
set_option maxHeartbeats 4000000 in
set_option maxRecDepth 100000 in
theorem writeRune_b (B b : Nat) (bs : List Value) (r : Int) (hr0 : -2147483648 ≤ r) (hr1 : r ≤ 2147483647) (w : World) (h : Lib.IsBuilderF 102 5 B b bs w) (hlen : bs.length + 4 ≤ 140737488355328) (hBw : B ≤ w.heap.size) :
    Calls Tryz.prog 55 #[.pointer (some ⟨b, 0, none⟩), .int .i32 r] w fun e w' => e = .returned (.tuple #[.int .i64 (Lib.runeCells r).length, .nilIface]) ∧ Lib.BuilderAtF 102 5 B b (.pointer (some ⟨b, 0, none⟩)) (bs ++ Lib.runeCells r) w' ∧ Below B w w' ∧ Lib.OthersKept 5 (some b) w w' := by
  have hk4 := Lib.runeCells_le r
  go_enter Tryz.func55, Tryz.ntmps55
  repeat' (first | (go_at_call 101; go_must ((with_reducible refine Calls.mono (copyCheck_b B b bs _ h) ?_); rintro e w1 ⟨rfl, h1, hb1, hk1⟩; obtain ⟨hB, v, hbk, hown, hne⟩ := h1; obtain ⟨ao, cap, rfl⟩ : ∃ ao cap, v = .slice ao bs.length cap := (by rcases hown.2 with ⟨hv, h0⟩ | ⟨g, cap, cur, fz, hv, _⟩; exact ⟨none, 0, by rw [hv, h0]⟩; exact ⟨_, _, hv⟩); have c0 : w1.cell? ⟨b, 0, none⟩ = some (.pointer (some ⟨b, 0, none⟩)) := (by rw [Lib.cell_of_heap hbk]; rfl); have c1 : w1.cell? ⟨b, 1, none⟩ = some (.slice ao bs.length cap) := (by rw [Lib.cell_of_heap hbk]; rfl); dsimp only)) | (go_at_call 102; go_must ((with_reducible refine Calls.mono (appendRune_b B _ bs.length bs r hr0 hr1 _ hown hlen (by have := hb1.size; omega)) ?_); rintro e w2 ⟨v', rfl, hown', o, hgrow⟩; have hlt : b < w1.heap.size := lt_of_heap hbk; have hb2 : w2.heap[b]? = some (.cells #[.pointer (some ⟨b, 0, none⟩), .slice ao bs.length cap] 102 (0, 0)) := (by rw [hgrow.block b (by simp; omega) (fun e => hne e.symm), Lib.alloc_old w1 _ b hlt]; exact hbk); have d0 : w2.cell? ⟨b, 0, none⟩ = some (.pointer (some ⟨b, 0, none⟩)) := (by rw [Lib.cell_of_heap hb2]; rfl); have d1 : w2.cell? ⟨b, 1, none⟩ = some (.slice ao bs.length cap) := (by rw [Lib.cell_of_heap hb2]; rfl); have f1 : w2.frozen? ⟨b, 1, none⟩ = false := Lib.frozen_of_heap hb2 1; obtain ⟨g, cap', rfl⟩ : ∃ g cap', v' = .slice (some ⟨g, 0, none⟩) (bs.length + (Lib.runeCells r).length) cap' := (by rcases hown'.2 with ⟨_, h0⟩ | ⟨g, cap', cur, fz, hv, _⟩; omega; exact ⟨g, cap', hv⟩); dsimp only)) | go_values | go_skip | go_guarded | go_step | go_upon | go_back)
  skip
  go_ret2
  refine ⟨?_, ?_, ?_, ((hk1.alloc _).grown hgrow (Lib.ownsRowF_kind (hown.alloc _))).setCell ⟨b, 1, none⟩ rfl _⟩
  · have e : ((bs.length : Int) + ((Lib.runeCells r).length : Int) - (bs.length : Int)) = ((Lib.runeCells r).length : Int) := by omega
    simp [e]
  · exact Lib.BuilderAtF.put (T := 102) (e := 5) hB hb2 (bs' := bs ++ Lib.runeCells r) (by simpa using hown') (by decide)
  · exact ((hb1.alloc (by have := hb1.size; omega) _).grown hgrow (by have := hb1.size; simp; omega) (fun k hk => (hown.lt k hk).1)).setCell (p := ⟨b, 1, none⟩) hB _
end Go.Proofs.YtfihjajllfihjaaGreatDoor
namespace Go.Proofs.YtfihjajllfihjaaGreatDoor
set_option linter.unusedSimpArgs false
set_option linter.unusedVariables false
open Go Go.RowKit
/-- an element's part of the view -/
def El.says (e : El) : List UInt8 := if e.hides > 0 then [] else Lib.encodeRune e.char
/-- the bytes of the live elements -/
def viewOf (l : List El) : List UInt8 := l.flatMap El.says
theorem viewOf_snoc (l : List El) (e : El) : viewOf (l ++ [e]) = viewOf l ++ e.says := by simp [viewOf, List.flatMap_append]
theorem says_le (e : El) : e.says.length ≤ 4 := by
  unfold El.says
  split
  · simp
  · rw [← Lib.runeCells_length]
    exact (Lib.runeCells_le _).2
theorem viewOf_le (l : List El) : (viewOf l).length ≤ 4 * l.length := by
  induction l with
  | nil => simp [viewOf]
  | cons e l ih =>
    have h : viewOf (e :: l) = e.says ++ viewOf l := rfl
    rw [h, List.length_append, List.length_cons]
    have := says_le e
    omega
section
variable {B b : Nat} {p : Value} {bs : List Value} {w w' : World}
theorem builderAt_keep (h : Lib.BuilderAtF 102 5 B b p bs w) (hk : ∀ (k : Nat) (cs : Array Value) (t : TypeId) (z : Nat × Nat), w.heap[k]? = some (Obj.cells cs t z) → (t = 102 ∨ t = 5) → w'.heap[k]? = w.heap[k]?) : Lib.BuilderAtF 102 5 B b p bs w' := by
  obtain ⟨hB, v, hb, hown, hne⟩ := h
  refine ⟨hB, v, (hk b _ _ _ hb (.inl rfl)).trans hb, ⟨hown.1, ?_⟩, hne⟩
  rcases hown.2 with h0 | ⟨g, cap, cur, fz, hv, hbg, hg, r⟩
  · exact .inl h0
  · exact .inr ⟨g, cap, cur, fz, hv, hbg, (hk g _ _ _ hg (.inr rfl)).trans hg, r⟩
theorem builder_keep (h : Lib.IsBuilderF 102 5 B b bs w) (hk : ∀ (k : Nat) (cs : Array Value) (t : TypeId) (z : Nat × Nat), w.heap[k]? = some (Obj.cells cs t z) → (t = 102 ∨ t = 5) → w'.heap[k]? = w.heap[k]?) : Lib.IsBuilderF 102 5 B b bs w' :=
  h.elim (fun h => .inl (builderAt_keep h hk)) (fun h => .inr (builderAt_keep h hk))
theorem builder_step (h : Lib.IsBuilderF 102 5 B b bs w) (hb : Below w.heap.size w w') : Lib.IsBuilderF 102 5 B b bs w' := builder_keep h fun k _ _ _ hk _ => hb.block k (lt_of_heap hk)
theorem builder_turn {base : Nat} (h : Lib.IsBuilderF 102 5 B b bs w) (hT : Turn 3 base w w') : Lib.IsBuilderF 102 5 B b bs w' := builder_keep h fun k cs t z hk ht => hT.cells k cs t z hk fun h => by
  have := h.2.1
  rcases ht with rfl | rfl <;> (revert this; decide)
theorem builder_begun {l : Nat} (h : Lib.IsBuilderF 102 5 B b bs w) (hT : Begun l w w') : Lib.IsBuilderF 102 5 B b bs w' := builder_keep h fun k cs t z hk _ => by
  obtain ⟨q, q', hr, _⟩ := hT.record
  exact hT.block k fun e => by subst e; rw [hr] at hk; cases hk
theorem others_at {k : Nat} {o : Obj} (h : Lib.OthersKept 5 (some b) w w') (hb : Lib.IsBuilderF 102 5 B b bs w) (hk : w.heap[k]? = some o) (ho : ∀ cs t z, o = Obj.cells cs t z → t ≠ 5 ∧ t ≠ 102) : w'.heap[k]? = some o := by
  refine h k o hk (fun e => ?_) (fun c fz e => (ho _ _ _ e).1 rfl)
  injection e with e
  subst e
  have hc : ∃ p v, w.heap[k]? = some (.cells #[p, v] 102 (0, 0)) := by
    rcases hb with hb | hb <;> (obtain ⟨_, v, hb, _⟩ := hb; exact ⟨_, v, hb⟩)
  obtain ⟨p, v, hc⟩ := hc
  rw [hk] at hc
  injection hc with hc
  exact (ho _ _ _ hc).2 rfl
end
theorem below_turn {w A B : World} {base c : Nat} {t : TypeId} (g : Below base w A) (hT : Turn t c A B) (hc : base ≤ c) (hz : base ≤ w.heap.size) : Below base w B :=
  ⟨hT.os.trans g.os, hT.tape.trans g.tape, hT.output.trans g.output, Nat.le_trans g.size hT.size, fun k hk => (hT.low k (by have := g.size; omega) (by omega)).trans (g.block k hk)⟩
theorem below_begun {w A B : World} {base l : Nat} (h : Below base w A) (hB : Begun l A B) (hl : base ≤ l) : Below base w B :=
  ⟨hB.os.trans h.os, hB.tape.trans h.tape, hB.output.trans h.output, by rw [hB.size]; exact h.size, fun k hk => (hB.block k (by omega)).trans (h.block k hk)⟩
set_option maxRecDepth 50000 in
set_option maxHeartbeats 4000000 in
theorem view_any (w : World) (S : Nat → Prop) (mb : Nat) (l : List El) (K : Nat) (h : Mdl w S mb l K) (hl : l.length ≤ 536870912) :
    Calls Tryz.prog 15 #[.pointer (some ⟨mb, 0, none⟩)] w fun r w' => r = .returned (.string ⟨(viewOf l).toArray⟩) ∧ Below w.heap.size w w' := by
  obtain ⟨gt, gm, p, T, h1, h2, h3, rfl, h5, h6, h7, h8, h9⟩ := h
  have b1 : Below w.heap.size w (w.alloc (.cells #[.pointer none, .slice none 0 0] 102)) := (Below.refl _ _).alloc (Nat.le_refl _) _
  have hlb := Blk.new w 102 #[.pointer none, .slice none 0 0]
  have m0 := h1.cell 0
  simp at m0
  have hml := h1.lt
  have h1l := (h1.step b1).lt
  have H9 := hid h9
  clear h9 h5
  refine calls_of_marks Tryz.func15 rfl ?_
  simp only [Tryz.ntmps15, List.size_toArray, List.length_cons, List.length_nil, Nat.reduceAdd, Nat.reduceSub, Array.replicate_succ, Array.replicate_zero, List.push_toArray, List.append_toArray, List.nil_append, List.cons_append]
  repeat' (first | (go_at_call 53; go_must ((with_reducible refine Calls.mono (all_any gt _) ?_); rintro _ _ ⟨rfl, rfl⟩; dsimp only)) | (with_reducible refine stop_block 0 ?_) | go_values | go_skip | go_guarded | go_step | go_upon | go_back)
  refine Stop.go ?_
  have s1 : (w.alloc (.cells #[.pointer none, .slice none 0 0] 102)).heap.size = w.heap.size + 1 := Array.size_push _
  have e2 : Below (w.alloc (.cells #[.pointer none, .slice none 0 0] 102)).heap.size (w.alloc (.cells #[.pointer none, .slice none 0 0] 102)) ((w.alloc (.cells #[.pointer none, .slice none 0 0] 102)).alloc (.cells #[.pointer (some ⟨gt, 0, none⟩)] 87)) := (Below.refl _ _).alloc (Nat.le_refl _) _
  have hga := Blk.new (w.alloc (.cells #[.pointer none, .slice none 0 0] 102)) 87 #[.pointer (some ⟨gt, 0, none⟩)]
  rw [s1] at hga ⊢
  have bZ := b1.trans (e2.mono b1.size)
  have hlZ := hlb.step e2
  have htZ := h2.step bZ
  have hTZ := h3.step bZ
  generalize (w.alloc (.cells #[.pointer none, .slice none 0 0] 102)).alloc (.cells #[.pointer (some ⟨gt, 0, none⟩)] 87) = Z at *
  have hne : gt ≠ w.heap.size := fun e => by have := h2.lt; omega
  have hTZ2 : IsTree Z (fun b => b < w.heap.size) T p := (h3.more (S' := fun b => b < w.heap.size) fun b hl _ => hl).step bZ
  have hgaZ : w.heap.size + 1 < Z.heap.size := hga.lt
  have hBZ : Lib.IsBuilderF 102 5 w.heap.size w.heap.size (Lib.byteCells (viewOf [])) Z := .inl ⟨Nat.le_refl _, _, hlZ, ⟨rfl, .inl ⟨rfl, rfl⟩⟩, by simp [Value.ownBlock]⟩
  clear m0 hlb e2 hTZ h2 h3 h1 hml h1l b1 hlZ
  refine wp_rangeFunc_block 3 (gf := 98) (lb := #[.pointer (some ⟨w.heap.size + 1, 0, none⟩)]) rfl (enters_fn Tryz.func98 (by kernel_rfl) rfl)
    (allSeq T p gt (w.heap.size + 1) 64 (fun b => b < w.heap.size) Z hga htZ hTZ2 (by omega)) (fun h k => h.trans k) (fun W l o o' hl h hc => KpT.putObj W l o o' hl h hc) (fun _ => rfl)
    (fun (pre : List (El × Nat)) W => Lib.IsBuilderF 102 5 w.heap.size w.heap.size (Lib.byteCells (viewOf (pre.map Prod.fst))) W ∧ Below w.heap.size w W)
    (fun W => Lib.IsBuilderF 102 5 w.heap.size w.heap.size (Lib.byteCells (viewOf T.all)) W ∧ Below w.heap.size w W)
    (fun s A B h hT => ⟨builder_turn h.1 hT, below_turn h.2 hT (by omega) (Nat.le_refl _)⟩)
    (fun _ A B h hT => ⟨builder_turn h.1 hT, below_turn h.2 hT (by omega) (Nat.le_refl _)⟩)
    ⟨hBZ, bZ⟩ ?round ?done ?end_
  case round =>
    rintro ll pre ⟨e, i⟩ W hll ⟨rc, hrc⟩ ⟨g1, g3⟩ hG
    obtain ⟨hi, he, hlt⟩ := zipIdx_prefix hG
    simp only at hi he
    subst hi
    simp only [elNum, El.agg, putArgs2, List.setIfInBounds_toArray, List.set_cons_zero, List.set_cons_succ]
    repeat' (first | ((with_reducible refine regionIn_ff ?_); refine wpIn_region_r rfl ?_) | go_values | go_skip | go_guarded | go_step | go_upon | go_back | (with_reducible refine NoO.normal ?_) | gi_step | gi_upon)
    have eW : Below W.heap.size W (W.alloc (.cells #[.int .i64 e.epoch, .int .i64 e.rep, .int .i64 e.num, .int .i32 e.char, .int .i64 e.hides] 32)) := (Below.refl _ _).alloc (Nat.le_refl _) _
    refine ⟨KeepN.of_below eW, KpT.of_below eW, fun W2 hB2 => ?_⟩
    have k1 := builder_begun (builder_step g1 eW) hB2
    have hx2 := hB2.blk (Blk.new W 32 #[.int .i64 e.epoch, .int .i64 e.rep, .int .i64 e.num, .int .i32 e.char, .int .i64 e.hides])
    have k3 : Below w.heap.size w W2 := below_begun (g3.trans (eW.mono g3.size)) hB2 (by omega)
    generalize W.heap.size = xb at *
    have hchar : 0 ≤ e.char ∧ e.char ≤ 1114111 := by
      have := (H9.out e (List.mem_of_getElem? he)).char
      unfold rightC at this
      have := of_decide_eq_true this
      omega
    have hmap : viewOf ((pre ++ [(e, pre.length)]).map Prod.fst) = viewOf (pre.map Prod.fst) ++ e.says := by rw [List.map_append]; exact viewOf_snoc _ _
    have hlen : (Lib.byteCells (viewOf (pre.map Prod.fst))).length + 4 ≤ 140737488355328 := by
      have := viewOf_le (pre.map Prod.fst)
      rw [List.length_map] at this
      unfold Lib.byteCells
      rw [List.length_map]
      omega
    have Hmap := hid hmap
    have Hlen := hid hlen
    have HWt := hid (fun W => weight_any e W)
    have hG' := hid hG
    clear hmap hlen hG g1 g3 eW hB2 hrc he
    obtain ⟨x0, x1, x2, x3, x4, xl⟩ := Blk.five hx2
    by_cases hh : e.hides > 0
    · have hlv : e.live = 0 := by unfold El.live; rw [if_pos hh]
      have hsay : e.says = [] := by unfold El.says; rw [if_pos hh]
      rw [hlv, show ((0 : Nat) : Int) = 0 from rfl] at HWt
      clear hh hlv
      repeat' (first | (go_at_call 54; go_must ((with_reducible refine Calls.mono (HWt.out _) ?_); rintro _ w3 ⟨rfl, hb3⟩; dsimp only)) | ((with_reducible refine regionIn_ff ?_); refine wpIn_region_r rfl ?_) | go_values | go_skip | go_guarded | go_step | go_upon | go_back | (with_reducible refine NoO.normal ?_) | gi_step | gi_upon)
      skip
      refine ⟨KeepN.of_below hb3, KpT.of_below hb3, ?_, k3.trans (hb3.mono k3.size)⟩
      rw [Hmap.out, hsay, List.append_nil]
      exact builder_step k1 hb3
    · have hlv : e.live = 1 := by unfold El.live; rw [if_neg hh]
      have hsay : e.says = Lib.encodeRune e.char := by unfold El.says; rw [if_neg hh]
      rw [hlv, show ((1 : Nat) : Int) = 1 from rfl] at HWt
      clear hh hlv
      repeat' (first | (go_at_call 54; go_must ((with_reducible refine Calls.mono (HWt.out _) ?_); rintro _ w3 ⟨rfl, hb3⟩; have k13 := builder_step k1 hb3; obtain ⟨x0, x1, x2, x3, x4, xl⟩ := Blk.five (Blk.step hx2 hb3); dsimp only)) | (go_at_call 55; go_must ((with_reducible refine Calls.mono (writeRune_b w.heap.size w.heap.size _ e.char (by omega) (by omega) _ k13 Hlen.out (by have := k3.size; have := hb3.size; omega)) ?_); rintro _ w4 ⟨rfl, k4, hb4, ho4⟩; dsimp only)) | ((with_reducible refine regionIn_ff ?_); refine wpIn_region_r rfl ?_) | go_values | go_skip | go_guarded | go_step | go_upon | go_back | (with_reducible refine NoO.normal ?_) | gi_step | gi_upon)
      skip
      have k34 := (k3.trans (hb3.mono k3.size)).trans hb4
      have hoN : ∀ k o, W2.heap[k]? = some o → (∀ cs t z, o = Obj.cells cs t z → t ≠ 5 ∧ t ≠ 102) → w4.heap[k]? = some o := fun k o hk ho => others_at ho4 k13 ((hb3.block k (lt_of_heap hk)).trans hk) ho
      refine ⟨fun b o _ ho hc => hoN b o ho (fun cs t z e => by subst e; cases hc), ⟨Nat.le_trans hb3.size hb4.size, fun b _ hS _ => (hb4.block b hS).trans (hb3.block b (by omega)), fun b v _ hbx => ?_⟩, ?_, k34⟩
      · rcases hbx with hbx | hbx
        · exact (hoN b _ hbx (fun cs t z e => by injection e with _ e; subst e; decide)).trans hbx.symm
        · exact (hoN b _ hbx (fun cs t z e => by injection e with _ e; subst e; decide)).trans hbx.symm
      · rw [Hmap.out, hsay, show Lib.byteCells (viewOf (pre.map Prod.fst) ++ Lib.encodeRune e.char) = Lib.byteCells (viewOf (pre.map Prod.fst)) ++ Lib.runeCells e.char from by rw [← Lib.byteCells_encodeRune]; simp [Lib.byteCells]]
        exact .inr k4
  case done =>
    rintro xs W rfl ⟨g1, g3⟩
    exact ⟨by simpa using g1, g3⟩
  case end_ =>
    rintro D W hD ⟨g1, g3⟩ hK
    repeat' (first | (go_at_call 56; go_must ((with_reducible refine Calls.mono (bstring_b w.heap.size w.heap.size _ W g1 g3.size) ?_); rintro _ w4 ⟨rfl, hb4, ho4⟩; dsimp only)) | go_values | go_skip | go_guarded | go_step | go_upon | go_back)
    skip
    have hsA := others_at ho4 g1 hK (fun cs t z e => by cases e)
    refine leaves1 hsA (v := .string ⟨(viewOf T.all).toArray⟩) (by rintro w' rfl; simp [results, Tryz.results15, go_sem]) ⟨rfl, ?_⟩
    have g4 := g3.trans hb4
    exact ⟨g4.os, g4.tape, g4.output, by simpa using g4.size, fun k hk => (World.putObj_heap_other (by have := bZ.size; omega)).trans (g4.block k hk)⟩
end Go.Proofs.YtfihjajllfihjaaGreatDoor
namespace Go.Proofs.YtfihjajllfihjaaGreatDoor
set_option linter.unusedSimpArgs false
set_option linter.unusedVariables false
open Go Go.RowKit
def wk5 : List El := [⟨0, 0, 1, 97, 1⟩, ⟨0, 0, 2, 98, 0⟩]
theorem wk5_row (w : World) : Row (w.alloc (.cells #[.int .i64 0, .int .i64 0, .int .i64 1, .int .i32 97, .int .i64 1, .int .i64 0, .int .i64 0, .int .i64 2, .int .i32 98, .int .i64 0] 32)) (fun _ => True) (some ⟨w.heap.size, 0, none⟩) 2 2 wk5 := Row.lit w _ wk5 2 _ trivial rfl (by decide) rfl
theorem wk5_good : ∀ e ∈ wk5, e.Good := by
  intro e he
  simp only [wk5, List.mem_cons, List.not_mem_nil, or_false] at he
  rcases he with rfl | rfl
  · exact ⟨by decide, by decide, ⟨by decide, by decide⟩, ⟨by decide, by decide⟩, ⟨by decide, by decide⟩⟩
  · exact ⟨by decide, by decide, ⟨by decide, by decide⟩, ⟨by decide, by decide⟩, ⟨by decide, by decide⟩⟩
theorem wk5_view : (viewOf wk5).toArray = #[98] := by decide
theorem wk5_find {m : Nat} {e : El} (h : wk5[m]? = some e) (h1 : e.live = 1) : m = 1 := by
  match m, h with
  | 0, h =>
    have h' : e = ⟨0, 0, 1, 97, 1⟩ := by simpa [wk5] using h.symm
    subst h'
    exact absurd h1 (by decide)
  | 1, _ => rfl
  | n + 2, h => simp [wk5] at h
set_option maxRecDepth 50000 in
set_option maxHeartbeats 2000000 in
theorem wakes5_any (w : World) : Calls Tryz.prog 8 #[] w fun e w' => e = .returned (.bool true) ∧ Below w.heap.size w w' := by
  have e1 : Below w.heap.size w (w.alloc (.cells #[.int .i64 0, .int .i64 0, .int .i64 1, .int .i32 97, .int .i64 1, .int .i64 0, .int .i64 0, .int .i64 2, .int .i32 98, .int .i64 0] 32)) := balloc (Below.refl _ _)
  have HO := hid (mof_ok _ _ 2 2 wk5 _ (wk5_row w) (by decide) wk5_good (by decide))
  go_enter Tryz.func8, Tryz.ntmps8
  repeat' (first | (go_at_call 27; go_must ((with_reducible refine Calls.mono HO.out ?_); rintro _ w1 ⟨mb, rfl, hM, hb1⟩; have hbb1 := bvia e1 hb1; have HF := hid (mmodelof_ok w1 _ mb wk5 2 0 hM (by decide) (by decide)); have HV := hid (fun W (hb : Below w1.heap.size w1 W) => view_any W _ mb wk5 2 (hM.step hb) (by decide)); have HL := hid (fun W (hb : Below w1.heap.size w1 W) => mlen_any W _ mb wk5 2 (hM.step hb)); rw [wk5_view] at HV; dsimp only)) | (go_at_call 31; go_must ((with_reducible refine Calls.mono HF.out ?_); rintro _ w2 ⟨⟨m, e, rfl, he, hv, -⟩, hb2⟩; obtain rfl := wk5_find he hv; clear he hv; dsimp only)) | (go_at_call 15; go_must ((with_reducible refine Calls.mono (HV.out _ hb2) ?_); rintro _ w3 ⟨rfl, hb3⟩; have hb23 := bvia hb2 hb3; dsimp only)) | (go_at_call 10; go_must ((with_reducible refine Calls.mono (HL.out _ hb23) ?_); rintro _ _ ⟨rfl, rfl⟩; dsimp only)) | go_values | go_skip | go_guarded | go_step | go_upon | go_back)
  skip
  go_ret
  exact ⟨rfl, bvia hbb1 hb23⟩
end Go.Proofs.YtfihjajllfihjaaGreatDoor
