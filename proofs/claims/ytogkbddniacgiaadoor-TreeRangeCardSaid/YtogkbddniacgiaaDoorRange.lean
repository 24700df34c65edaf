/- TreeRange: the walk of the law. Condition: the row that comes in lies in memory. -/
import Derived.Test.YtogkbddniacgiaaDoorTurn
import Derived.Laws.StructEq
namespace Go.Proofs.YtogkbddniacgiaaDoor
open Go Go.RowKit
theorem fill_tree (w : World) (gt c : Nat) (hc2 : 2 ≤ c) (hc : c ≤ 64) (hbt : Blk w gt 121 #[.int .i64 c, .pointer none]) (A : Option Addr) (m d : Nat) (ls : List El) (SB : Nat → Prop) (hr : Row w SB A m d ls) (hm : m ≤ 1000) :
    Calls Tryd.prog 20 #[.pointer (some ⟨gt, 0, none⟩), .int .i64 0, .slice A m d] w fun e w' => ∃ p T, e = .returned .nilIface ∧ IsTree w' (fun b => w.heap.size ≤ b) T p ∧ Blk w' gt 121 #[.int .i64 c, .pointer p] ∧ T.all = ls ∧ But gt w w' := by
  have H := insert_ok .nil none gt c 0 A m d ls (fun _ => False) SB w hbt rfl (fun h => h) hr (by simp [Tr.all]; omega) (Nat.zero_le _) hc2 hc
  refine H.mono ?_
  rintro e w' ⟨p, T, rfl, hT, hb, ⟨hq, _⟩, hB⟩
  exact ⟨p, T, rfl, hT.more (fun b _ h => by rcases h with h | h; exact h.elim; exact h), hb, by rw [hq]; simp [Tr.all], hB⟩
theorem two_insert (T : Tr) (p : Option Addr) (gt c i nb : Nat) (e : El) (w : World) (hbt : Blk w gt 121 #[.int .i64 c, .pointer p]) (hT : IsTree w (fun b => b ≠ gt ∧ b ≠ nb) T p) (hm : T.all.length ≤ 2000) (hi : i ≤ T.all.length) (hc2 : 2 ≤ c) (hc : c ≤ 64) (hnb : nb < w.heap.size) :
    Calls Tryd.prog 20 #[.pointer (some ⟨gt, 0, none⟩), .int .i64 i, .slice (some ⟨w.heap.size, 0, none⟩) 2 2] (w.alloc (.cells #[.int .i64 e.epoch, .int .i64 e.rep, .int .i64 e.num, .int .i32 e.char, .int .i64 e.hides, .int .i64 e.epoch, .int .i64 e.rep, .int .i64 e.num, .int .i32 e.char, .int .i64 e.hides] 36)) fun r w' => ∃ p' T', r = .returned .nilIface ∧ IsTree w' (fun b => b ≠ gt ∧ b ≠ nb) T' p' ∧ Blk w' gt 121 #[.int .i64 c, .pointer p'] ∧ T'.all.length = T.all.length + 2 ∧ But gt (w.alloc (.cells #[.int .i64 e.epoch, .int .i64 e.rep, .int .i64 e.num, .int .i32 e.char, .int .i64 e.hides, .int .i64 e.epoch, .int .i64 e.rep, .int .i64 e.num, .int .i32 e.char, .int .i64 e.hides] 36)) w' := by
  have H := insert_ok T p gt c i (some ⟨w.heap.size, 0, none⟩) 2 2 [e, e] (fun b => b ≠ gt ∧ b ≠ nb) (fun _ => True) _ (hbt.alloc (.cells #[.int .i64 e.epoch, .int .i64 e.rep, .int .i64 e.num, .int .i32 e.char, .int .i64 e.hides, .int .i64 e.epoch, .int .i64 e.rep, .int .i64 e.num, .int .i32 e.char, .int .i64 e.hides] 36)) (hT.keep (Same.alloc _ _ _)) (fun h => h.1 rfl) (Row.lit w _ [e, e] 2 _ trivial rfl (by decide) rfl) (by omega) hi hc2 hc
  refine H.mono ?_
  rintro r w' ⟨p', T', rfl, hT', hb, ⟨hq, _⟩, hB⟩
  have hl := hbt.lt
  have hs : (w.alloc (.cells #[.int .i64 e.epoch, .int .i64 e.rep, .int .i64 e.num, .int .i32 e.char, .int .i64 e.hides, .int .i64 e.epoch, .int .i64 e.rep, .int .i64 e.num, .int .i32 e.char, .int .i64 e.hides] 36)).heap.size = w.heap.size + 1 := Array.size_push _
  refine ⟨p', T', rfl, hT'.more (fun b _ h => ?_), hb, ?_, hB⟩
  · rcases h with h | h
    · exact h
    · constructor <;> omega
  · rw [hq]
    simp
    omega
/-- what stands all along -/
structure RFix (W : World) (chunk stop at_ : Int) (A : Option Addr) (nz n c zb ob pb lb g gt ga ck : Nat) : Prop where
  z : Blk W zb 24 #[.int .i64 chunk, .int .i64 stop, .int .i64 at_, .slice A nz c]
  o : Blk W ob 4 #[.bool false]
  p : Blk W pb 25 #[.pointer (some ⟨g, 0, none⟩)]
  l : Blk W lb 22 #[.slice A n c]
  g : Blk W g 31 #[.pointer (some ⟨gt, 0, none⟩), .slice none 0 0, .int .i64 (ck : Nat)]
  a : Blk W ga 29 #[.pointer (some ⟨gt, 0, none⟩)]
theorem RFix.keep {W W' : World} {chunk stop at_ : Int} {A : Option Addr} {nz n c zb ob pb lb g gt ga ck : Nat} (h : RFix W chunk stop at_ A nz n c zb ob pb lb g gt ga ck)
    (k : ∀ {b : Nat} {t : TypeId} {cs : Array Value}, Blk W b t cs → t ≠ 121 → t ≠ 3 → Blk W' b t cs) : RFix W' chunk stop at_ A nz n c zb ob pb lb g gt ga ck :=
  ⟨k h.z (by decide) (by decide), k h.o (by decide) (by decide), k h.p (by decide) (by decide), k h.l (by decide) (by decide), k h.g (by decide) (by decide), k h.a (by decide) (by decide)⟩
theorem RFix.but2 {W W' : World} {chunk stop at_ : Int} {A : Option Addr} {nz n c zb ob pb lb g gt ga ck x y : Nat} {cs ds : Array Value} (h : RFix W chunk stop at_ A nz n c zb ob pb lb g gt ga ck) (hk : But2 x y W W') (hx : Blk W x 121 cs) (hy : Blk W y 3 ds) :
    RFix W' chunk stop at_ A nz n c zb ob pb lb g gt ga ck := h.keep fun hb h1 h2 => hk.blk hb (hb.ne hx h1) (hb.ne hy h2)
theorem RFix.step {W W' : World} {chunk stop at_ : Int} {A : Option Addr} {nz n c zb ob pb lb g gt ga ck : Nat} (h : RFix W chunk stop at_ A nz n c zb ob pb lb g gt ga ck) (hb : Below W.heap.size W W') : RFix W' chunk stop at_ A nz n c zb ob pb lb g gt ga ck := h.keep fun hk _ _ => hk.step hb
/-- between two rounds: cnt have come, the tree has len elements -/
structure RI (Z W : World) (gt nb ck cnt len : Nat) : Prop where
  but : But2 gt nb Z W
  n : Blk W nb 3 #[.int .i64 cnt]
  t : ∃ p T, Blk W gt 121 #[.int .i64 ck, .pointer p] ∧ IsTree W (fun b => b ≠ gt ∧ b ≠ nb) T p ∧ T.all.length = len
theorem RI.turn {Z A B : World} {gt nb ck cnt len : Nat} (h : RI Z A gt nb ck cnt len) (hg : gt < Z.heap.size) (hn : nb < Z.heap.size) (hT : Turn 3 Z.heap.size A B) : RI Z B gt nb ck cnt len := by
  obtain ⟨p, T, h1, h2, h3⟩ := h.t
  exact ⟨h.but.turn hT, h.n.turn hT hn, p, T, h1.turn hT hg, h2.turn hT, h3⟩
theorem zipIdx_prefix {l : List El} {pre : List (El × Nat)} {x : El × Nat} (h : pre ++ [x] <+: l.zipIdx) : x.2 = pre.length ∧ l[pre.length]? = some x.1 ∧ pre.length < l.length := by
  obtain ⟨r, hr⟩ := h
  have h1 : l.zipIdx[pre.length]? = some x := by rw [← hr, List.append_assoc, List.getElem?_append_right (Nat.le_refl _)]; simp
  rw [List.getElem?_zipIdx] at h1
  cases hl : l[pre.length]? with
  | none => rw [hl] at h1; cases h1
  | some e =>
    rw [hl] at h1
    simp at h1
    subst h1
    exact ⟨rfl, rfl, (List.getElem?_eq_some_iff.1 hl).1⟩
@[go_sem] theorem eq_iter_nil (f : Fn) (a c : Array Value) (w : World) : (binOp .eql 38 (.func f a c) .nilFunc).run Tryd.prog w = .ok (.bool false) w := by kernel_rfl
theorem stop_regionIn (id : Nat) {F : Fence} {n : Nat} {P : Program} {ops : Array Oper} {b : Bool} {Q : Exit → Act → World → Prop} {a : Act} {w : World} (h : Stop ((Code.region id ops b).wpIn F n P Q a w)) : (Code.region id ops b).wpIn F n P Q a w := by unfold Stop at h; exact h
theorem roundsW_at {P : Program} {c : Code} {Q : Exit → Act → World → Prop} {n : Nat} {a : Act} {w : World} (h : Stop (roundsW P c Q n a w)) : roundsW P c Q n a w := by unfold Stop at h; exact h
theorem stop_loop {P : Program} {c : Code} {Q : Exit → Act → World → Prop} {a : Act} {w : World} (h : Stop ((Code.loop c).wp P Q a w)) : (Code.loop c).wp P Q a w := by unfold Stop at h; exact h
theorem stop_rangeFunc {P : Program} {g : Operand} {ps : Array Tmp} {x y : Code} {Q : Exit → Act → World → Prop} {a : Act} {w : World} (h : Stop ((Code.rangeFunc g ps x y).wp P Q a w)) : (Code.rangeFunc g ps x y).wp P Q a w := by unfold Stop at h; exact h
set_option maxRecDepth 200000 in
set_option maxHeartbeats 8000000 in
theorem range_short (chunk stop at_ : Int) (A : Option Addr) (n c : Nat) (ls : List El) (SB : Nat → Prop) (w : World) (hr : Row w SB A n c ls) (hn : n ≤ 200) :
    Calls Tryd.prog 3 #[.agg #[.int .i64 chunk, .int .i64 stop, .int .i64 at_, .slice A n c]] w fun e w' => e = .returned (.bool true) ∧ Below w.heap.size w w' := by
  have j1 : ¬ (n : Int) > 200 := by omega
  have HG := hid (fun W => begun_any chunk W)
  obtain ⟨ck, hck⟩ : ∃ ck, ck = 2 + (chunk % 63).toNat := ⟨_, rfl⟩
  have hck2 : 2 ≤ ck ∧ ck ≤ 64 := by
    have h1 := Int.emod_nonneg chunk (show (63 : Int) ≠ 0 by decide)
    have h2 := Int.emod_lt_of_pos chunk (show (0 : Int) < 63 by decide)
    omega
  rw [← hck] at HG
  clear hck
  have b1 : Below w.heap.size w (w.alloc (.cells #[.int .i64 chunk, .int .i64 stop, .int .i64 at_, .slice A n c] 24)) := (Below.refl _ _).alloc (Nat.le_refl _) _
  have s1 : (w.alloc (.cells #[.int .i64 chunk, .int .i64 stop, .int .i64 at_, .slice A n c] 24)).heap.size = w.heap.size + 1 := Array.size_push _
  have b2 := b1.alloc (by omega) (.cells #[.bool false] 4)
  have hz2 := (Blk.new w 24 #[.int .i64 chunk, .int .i64 stop, .int .i64 at_, .slice A n c]).alloc (.cells #[.bool false] 4)
  have ho2 := Blk.new (w.alloc (.cells #[.int .i64 chunk, .int .i64 stop, .int .i64 at_, .slice A n c] 24)) 4 #[.bool false]
  rw [s1] at ho2
  have b2s := b2.size
  have b1s := Nat.le_refl w.heap.size
  have hr2 := (hr.more (S' := fun b => b < w.heap.size) fun b h _ => h).step b2
  clear b1 hr
  refine calls_of_marks Tryd.func3 rfl ?_
  simp only [Tryd.ntmps3, List.size_toArray, List.length_cons, List.length_nil, Nat.reduceAdd, Nat.reduceSub, Array.replicate_succ, Array.replicate_zero, List.push_toArray, List.append_toArray, List.nil_append, List.cons_append]
  repeat' (first | (go_at_call 19; go_must ((with_reducible refine Calls.mono (HG.out _) ?_); rintro _ w1 ⟨g, gt, rfl, hgt, hg, hne, hbt, hbg, hb1⟩; have hz1 := hz2.step hb1; have z3 := hz1.cell 3; simp at z3; have hzl := hz1.lt; dsimp only)) | (with_reducible refine stop_region 7 ?_) | (with_reducible refine Keep.last ?_) | (with_reducible refine Keep.below (by assumption) ?_) | (with_reducible refine Keep.kept (by assumption) ?_) | (with_reducible refine Keep.alloc ?_) | (with_reducible refine Keep.same ?_) | ((with_reducible refine WpH.here ?_); first | (refine WpH.nil ?_; refine NoP.normal ?_) | (refine WpH.load (by rfl) (by rfl) (by go_simp; rfl) ?_; simp only [Act.put, List.setIfInBounds_toArray, List.set_cons_zero, List.set_cons_succ]) | (refine WpH.loadT (by rfl) (by rfl) (by go_simp; rfl) (by rintro _ _ ⟨⟩; exact ⟨_, _, _, _, _, _, by rfl, by assumption, by assumption⟩) ?_; simp only [Act.put, List.setIfInBounds_toArray, List.set_cons_zero, List.set_cons_succ]) | (refine WpH.pure (by rfl) (fun w_ => by go_simp; (try go_bits); rfl) ?_; simp only [Act.put, List.setIfInBounds_toArray, List.set_cons_zero, List.set_cons_succ]) | (refine WpH.wild1 (by rfl) (fun _ _ => ?_)) | (refine WpH.skip (by rfl) ?_; simp only [Act.put, List.setIfInBounds_toArray, List.set_cons_zero, List.set_cons_succ])) | ((with_reducible refine WpO.here ?_); first | (refine WpO.done ?_; first | refine NoP.normal ?_ | refine NoO.normal ?_) | (refine WpO.load (by rfl) (by rfl) (by go_simp; rfl) ?_; simp only [Act.put, List.setIfInBounds_toArray, List.set_cons_zero, List.set_cons_succ]) | (refine WpO.loadT (by rfl) (by rfl) (by go_simp; rfl) (by rintro _ _ ⟨⟩; exact ⟨_, _, _, _, _, _, by rfl, by assumption, by assumption⟩) ?_; simp only [Act.put, List.setIfInBounds_toArray, List.set_cons_zero, List.set_cons_succ]) | (refine WpO.pure (by rfl) (fun w_ => by go_simp; (try go_bits); rfl) ?_; simp only [Act.put, List.setIfInBounds_toArray, List.set_cons_zero, List.set_cons_succ]) | (refine WpO.skip (by rfl) ?_; simp only [Act.put, List.setIfInBounds_toArray, List.set_cons_zero, List.set_cons_succ]) | refine WpO.wild ?_ | refine WpO.two ?_ ?_ | refine WpO.three ?_ ?_ ?_) | ((with_reducible refine wildO.here ?_); first | (refine wildO.go (by rfl) (fun _ _ => ?_)) | (refine wildO.skip (by rfl) ?_; simp only [Act.put, List.setIfInBounds_toArray, List.set_cons_zero, List.set_cons_succ])) | go_values | go_skip | go_guarded | go_step | go_upon | go_back)
  refine Stop.go ?_
  skip
  have sz1 := hb1.size
  have b3 := b2.trans (hb1.mono b2.size)
  have b4 := b3.alloc b3.size (.cells #[.pointer (some ⟨g, 0, none⟩)] 25)
  have s4 : (w1.alloc (.cells #[.pointer (some ⟨g, 0, none⟩)] 25)).heap.size = w1.heap.size + 1 := Array.size_push _
  have b5 := b4.alloc b4.size (.cells #[.slice A n c] 22)
  have e5 : Below w1.heap.size w1 ((w1.alloc (.cells #[.pointer (some ⟨g, 0, none⟩)] 25)).alloc (.cells #[.slice A n c] 22)) := ((Below.refl _ _).alloc (Nat.le_refl _) _).alloc (by omega) _
  have hp5 := (Blk.new w1 25 #[.pointer (some ⟨g, 0, none⟩)]).alloc (.cells #[.slice A n c] 22)
  have hl5 := Blk.new (w1.alloc (.cells #[.pointer (some ⟨g, 0, none⟩)] 25)) 22 #[.slice A n c]
  rw [s4] at hl5
  generalize (w1.alloc (.cells #[.pointer (some ⟨g, 0, none⟩)] 25)).alloc (.cells #[.slice A n c] 22) = X at *
  have hz5 := hz1.step e5
  have ho5 := (ho2.step hb1).step e5
  have hg5 := hbg.step e5
  have hbt5 := hbt.step e5
  have hr5 := (hr2.step hb1).step e5
  have HI := hid (fill_tree X.drew gt ck hck2.1 hck2.2 hbt5.drew A n c ls _ hr5.drew (by omega))
  have p0 := hp5.cell 0
  have l0 := hl5.cell 0
  have g0 := hg5.cell 0
  simp at p0 l0 g0
  have hgtl := hbt5.lt
  have ht5l := hbt5.lt
  have hgl := hg5.lt
  clear hz1 ho2 hbg hbt hr2 hz2 z3 e5 b2 b3 b4 hb1 s4
  generalize w1.heap.size = pb at *
  have t1 : pb ≠ gt := hp5.ne hbt5 (by decide)
  have t2 : pb + 1 ≠ gt := hl5.ne hbt5 (by decide)
  have t3 : g ≠ gt := Ne.symm hne
  have q1 : X.drew.heap[pb]? = some (.cells #[.pointer (some ⟨g, 0, none⟩)] 25 (0, 0)) := hp5
  have q2 : X.drew.heap[pb + 1]? = some (.cells #[.slice A n c] 22 (0, 0)) := hl5
  have q3 : X.drew.heap[g]? = some (.cells #[.pointer (some ⟨gt, 0, none⟩), .slice none 0 0, .int .i64 (ck : Nat)] 31 (0, 0)) := hg5
  repeat' (first | ((with_reducible refine region_at 7 ?_); refine wp_region_orderT (fun b => b ≠ gt) [(0, true, false), (1, true, false), (2, true, false), (3, true, false), (4, true, false), (5, false, false), (6, true, false)] (by kernel_rfl) (by kernel_rfl) (by kernel_rfl) rfl rfl ?_) | (go_at_call 20; go_must ((with_reducible refine Calls.mono HI.out ?_); rintro _ W5 ⟨p5, T5, rfl, hT5, hbt6, hall5, hB5⟩; have hg6 := hB5.blk hg5.drew (Ne.symm hne); have hp6 := hB5.blk hp5.drew (hp5.ne hbt5 (by decide)); have p6 := hp6.cell 0; have g6 := hg6.cell 0; simp at p6 g6; have hT5' := hid hT5; have Hall := hid hall5; clear hT5 hall5; have hk5 : KeepT (fun b => b ≠ gt) X.drew W5 := ⟨hB5.size, fun b hl hb => hB5.block b hl hb⟩; dsimp only)) | (go_at_call 21; go_must ((with_reducible refine Calls.mono (all_any gt _) ?_); rintro _ _ ⟨rfl, rfl⟩; dsimp only)) | (with_reducible refine stop_loop ?_) | (with_reducible refine Keep.last ?_) | (with_reducible refine Keep.below (by assumption) ?_) | (with_reducible refine Keep.kept (by assumption) ?_) | (with_reducible refine Keep.alloc ?_) | (with_reducible refine Keep.same ?_) | ((with_reducible refine WpH.here ?_); first | (refine WpH.nil ?_; refine NoP.normal ?_) | (refine WpH.load (by rfl) (by rfl) (by go_simp; rfl) ?_; simp only [Act.put, List.setIfInBounds_toArray, List.set_cons_zero, List.set_cons_succ]) | (refine WpH.loadT (by rfl) (by rfl) (by go_simp; rfl) (by rintro _ _ ⟨⟩; exact ⟨_, _, _, _, _, _, by rfl, by assumption, by assumption⟩) ?_; simp only [Act.put, List.setIfInBounds_toArray, List.set_cons_zero, List.set_cons_succ]) | (refine WpH.pure (by rfl) (fun w_ => by go_simp; (try go_bits); rfl) ?_; simp only [Act.put, List.setIfInBounds_toArray, List.set_cons_zero, List.set_cons_succ]) | (refine WpH.wild1 (by rfl) (fun _ _ => ?_)) | (refine WpH.skip (by rfl) ?_; simp only [Act.put, List.setIfInBounds_toArray, List.set_cons_zero, List.set_cons_succ])) | ((with_reducible refine WpO.here ?_); first | (refine WpO.done ?_; first | refine NoP.normal ?_ | refine NoO.normal ?_) | (refine WpO.load (by rfl) (by rfl) (by go_simp; rfl) ?_; simp only [Act.put, List.setIfInBounds_toArray, List.set_cons_zero, List.set_cons_succ]) | (refine WpO.loadT (by rfl) (by rfl) (by go_simp; rfl) (by rintro _ _ ⟨⟩; exact ⟨_, _, _, _, _, _, by rfl, by assumption, by assumption⟩) ?_; simp only [Act.put, List.setIfInBounds_toArray, List.set_cons_zero, List.set_cons_succ]) | (refine WpO.pure (by rfl) (fun w_ => by go_simp; (try go_bits); rfl) ?_; simp only [Act.put, List.setIfInBounds_toArray, List.set_cons_zero, List.set_cons_succ]) | (refine WpO.skip (by rfl) ?_; simp only [Act.put, List.setIfInBounds_toArray, List.set_cons_zero, List.set_cons_succ]) | refine WpO.wild ?_ | refine WpO.two ?_ ?_ | refine WpO.three ?_ ?_ ?_) | ((with_reducible refine wildO.here ?_); first | (refine wildO.go (by rfl) (fun _ _ => ?_)) | (refine wildO.skip (by rfl) ?_; simp only [Act.put, List.setIfInBounds_toArray, List.set_cons_zero, List.set_cons_succ])) | go_values | go_skip | go_guarded | go_step | go_upon | go_back)
  refine Stop.go ?_
  have b6 := hB5.below_new (w' := W5) (b5.drew) (Nat.le_trans b2s hgt)
  have e6 : Below W5.heap.size W5 (W5.alloc (.cells #[.pointer (some ⟨gt, 0, none⟩)] 29)) := (Below.refl _ _).alloc (Nat.le_refl _) _
  have s6 : (W5.alloc (.cells #[.pointer (some ⟨gt, 0, none⟩)] 29)).heap.size = W5.heap.size + 1 := Array.size_push _
  have e7 := e6.alloc (by omega) (.cells #[.int .i64 0] 3)
  have ha7 := (Blk.new W5 29 #[.pointer (some ⟨gt, 0, none⟩)]).alloc (.cells #[.int .i64 0] 3)
  have hk7 := Blk.new (W5.alloc (.cells #[.pointer (some ⟨gt, 0, none⟩)] 29)) 3 #[.int .i64 0]
  rw [s6] at hk7
  generalize (W5.alloc (.cells #[.pointer (some ⟨gt, 0, none⟩)] 29)).alloc (.cells #[.int .i64 0] 3) = Y at *
  have hF7 : RFix Y chunk stop at_ A n n c w.heap.size (w.heap.size + 1) pb (pb + 1) g gt W5.heap.size ck :=
    ⟨(hB5.blk hz5.drew (hz5.ne hbt5 (by decide))).step e7, (hB5.blk ho5.drew (ho5.ne hbt5 (by decide))).step e7, hp6.step e7, (hB5.blk hl5.drew (hl5.ne hbt5 (by decide))).step e7, hg6.step e7, ha7⟩
  have b7 := b6.trans (e7.mono b6.size)
  have hT7 := (hT5'.out).step e7
  have ht7 := hbt6.step e7
  have hr7 : Row Y (fun b => b < w.heap.size) A n c ls := hr5.keep (S := fun b => b < w.heap.size) (fun b hb hl => (e7.block b (Nat.lt_of_lt_of_le hl hB5.size)).trans (hB5.block b hl (fun e => by subst e; have := Nat.le_trans b2s hgt; omega)))
  have HL := hid (tlen_any T5 p5 gt ck Y ht7 hT7)
  have p7 := hF7.p.cell 0
  have g7 := hF7.g.cell 0
  have k7 := hk7.cell 0
  simp at p7 g7 k7
  have hpl := hF7.p.lt
  have hgl7 := hF7.g.lt
  refine wp_loop_rounds 3 (roundsW_next ?_)
  repeat' (first | (go_at_call 22; go_must ((with_reducible refine Calls.mono HL.out ?_); rintro _ _ ⟨rfl, rfl⟩; dsimp only)) | (with_reducible refine stop_block 2 ?_) | (with_reducible refine Keep.last ?_) | (with_reducible refine Keep.below (by assumption) ?_) | (with_reducible refine Keep.kept (by assumption) ?_) | (with_reducible refine Keep.alloc ?_) | (with_reducible refine Keep.same ?_) | ((with_reducible refine WpH.here ?_); first | (refine WpH.nil ?_; refine NoP.normal ?_) | (refine WpH.load (by rfl) (by rfl) (by go_simp; rfl) ?_; simp only [Act.put, List.setIfInBounds_toArray, List.set_cons_zero, List.set_cons_succ]) | (refine WpH.loadT (by rfl) (by rfl) (by go_simp; rfl) (by rintro _ _ ⟨⟩; exact ⟨_, _, _, _, _, _, by rfl, by assumption, by assumption⟩) ?_; simp only [Act.put, List.setIfInBounds_toArray, List.set_cons_zero, List.set_cons_succ]) | (refine WpH.pure (by rfl) (fun w_ => by go_simp; (try go_bits); rfl) ?_; simp only [Act.put, List.setIfInBounds_toArray, List.set_cons_zero, List.set_cons_succ]) | (refine WpH.wild1 (by rfl) (fun _ _ => ?_)) | (refine WpH.skip (by rfl) ?_; simp only [Act.put, List.setIfInBounds_toArray, List.set_cons_zero, List.set_cons_succ])) | ((with_reducible refine WpO.here ?_); first | (refine WpO.done ?_; first | refine NoP.normal ?_ | refine NoO.normal ?_) | (refine WpO.load (by rfl) (by rfl) (by go_simp; rfl) ?_; simp only [Act.put, List.setIfInBounds_toArray, List.set_cons_zero, List.set_cons_succ]) | (refine WpO.loadT (by rfl) (by rfl) (by go_simp; rfl) (by rintro _ _ ⟨⟩; exact ⟨_, _, _, _, _, _, by rfl, by assumption, by assumption⟩) ?_; simp only [Act.put, List.setIfInBounds_toArray, List.set_cons_zero, List.set_cons_succ]) | (refine WpO.pure (by rfl) (fun w_ => by go_simp; (try go_bits); rfl) ?_; simp only [Act.put, List.setIfInBounds_toArray, List.set_cons_zero, List.set_cons_succ]) | (refine WpO.skip (by rfl) ?_; simp only [Act.put, List.setIfInBounds_toArray, List.set_cons_zero, List.set_cons_succ]) | refine WpO.wild ?_ | refine WpO.two ?_ ?_ | refine WpO.three ?_ ?_ ?_) | ((with_reducible refine wildO.here ?_); first | (refine wildO.go (by rfl) (fun _ _ => ?_)) | (refine wildO.skip (by rfl) ?_; simp only [Act.put, List.setIfInBounds_toArray, List.set_cons_zero, List.set_cons_succ])) | go_values | go_skip | go_guarded | go_step | go_upon | go_back)
  refine Stop.go ?_
  have eZ : Below Y.heap.size Y (Y.alloc (.cells #[.int .i64 T5.all.length] 3)) := (Below.refl _ _).alloc (Nat.le_refl _) _
  have sZ : (Y.alloc (.cells #[.int .i64 T5.all.length] 3)).heap.size = Y.heap.size + 1 := Array.size_push _
  have eZ2 := eZ.alloc (by omega) (.cells #[.int .i64 0] 3)
  have hwZ := (Blk.new Y 3 #[.int .i64 T5.all.length]).alloc (.cells #[.int .i64 0] 3)
  have hnZ := Blk.new (Y.alloc (.cells #[.int .i64 T5.all.length] 3)) 3 #[.int .i64 0]
  rw [sZ] at hnZ
  generalize (Y.alloc (.cells #[.int .i64 T5.all.length] 3)).alloc (.cells #[.int .i64 0] 3) = Z at *
  have htZ := ht7.step eZ2
  have hTZ := hT7.step eZ2
  have hTZ2 : IsTree Z (fun b => b ≠ gt ∧ b ≠ Y.heap.size + 1) T5 p5 := by
    refine ((hT7.more (S' := fun b => b < Y.heap.size ∧ b ≠ gt) fun b hl hb => ⟨hl, fun e => ?_⟩).step eZ2).more fun b _ h => ⟨h.2, by have := h.1; omega⟩
    subst e
    have := ht5l
    have hb' : X.heap.size ≤ b := hb
    omega
  have hFZ := hF7.step eZ2
  have hkZ := hk7.step eZ2
  have hrZ := hr7.step eZ2
  have bZ := b7.trans (eZ2.mono b7.size)
  have hne7 : gt ≠ Y.heap.size + 1 := fun e => by have := ht7.lt; omega
  have hlen : T5.all.length ≤ 200 := by rw [Hall.out]; have := hr7.1; omega
  refine wp_rangeFunc_block 3 (gf := 74) (lb := #[.pointer (some ⟨W5.heap.size, 0, none⟩)]) rfl (enters_fn Tryd.func74 (by kernel_rfl) rfl)
    (allSeq T5 p5 gt W5.heap.size ck (fun b => b ≠ gt ∧ b ≠ Y.heap.size + 1) Z hFZ.a htZ hTZ2 (by omega)) (fun h k => h.trans k) (fun W l o o' hl h hc => KpT.putObj W l o o' hl h hc) (fun _ => rfl)
    (fun pre W => RI Z W gt (Y.heap.size + 1) ck pre.length (T5.all.length + pre.length)) (fun W => ∃ cnt len, len ≤ 2 * T5.all.length ∧ RI Z W gt (Y.heap.size + 1) ck cnt len)
    (fun s A B h hT => h.turn htZ.lt hnZ.lt hT) (fun _ A B h hT => by obtain ⟨cnt, len, h2, h3⟩ := h; exact ⟨cnt, len, h2, h3.turn htZ.lt hnZ.lt hT⟩)
    ⟨But2.refl _ _ _, hnZ, p5, T5, htZ, hTZ2, rfl⟩ ?round ?done ?end_
  case round =>
    rintro l pre ⟨e, i⟩ W hl ⟨rc, hrc⟩ hI hG
    obtain ⟨hi, he, hlt⟩ := zipIdx_prefix hG
    simp only at hi he
    subst hi
    simp only [elNum, El.agg, putArgs2, List.setIfInBounds_toArray, List.set_cons_zero, List.set_cons_succ]
    repeat' (first | ((with_reducible refine regionIn_ff ?_); refine wpIn_region_r rfl ?_) | (with_reducible refine Keep.last ?_) | (with_reducible refine Keep.below (by assumption) ?_) | (with_reducible refine Keep.kept (by assumption) ?_) | (with_reducible refine Keep.alloc ?_) | (with_reducible refine Keep.same ?_) | ((with_reducible refine WpH.here ?_); first | (refine WpH.nil ?_; refine NoP.normal ?_) | (refine WpH.load (by rfl) (by rfl) (by go_simp; rfl) ?_; simp only [Act.put, List.setIfInBounds_toArray, List.set_cons_zero, List.set_cons_succ]) | (refine WpH.loadT (by rfl) (by rfl) (by go_simp; rfl) (by rintro _ _ ⟨⟩; exact ⟨_, _, _, _, _, _, by rfl, by assumption, by assumption⟩) ?_; simp only [Act.put, List.setIfInBounds_toArray, List.set_cons_zero, List.set_cons_succ]) | (refine WpH.pure (by rfl) (fun w_ => by go_simp; (try go_bits); rfl) ?_; simp only [Act.put, List.setIfInBounds_toArray, List.set_cons_zero, List.set_cons_succ]) | (refine WpH.wild1 (by rfl) (fun _ _ => ?_)) | (refine WpH.skip (by rfl) ?_; simp only [Act.put, List.setIfInBounds_toArray, List.set_cons_zero, List.set_cons_succ])) | ((with_reducible refine WpO.here ?_); first | (refine WpO.done ?_; first | refine NoP.normal ?_ | refine NoO.normal ?_) | (refine WpO.load (by rfl) (by rfl) (by go_simp; rfl) ?_; simp only [Act.put, List.setIfInBounds_toArray, List.set_cons_zero, List.set_cons_succ]) | (refine WpO.loadT (by rfl) (by rfl) (by go_simp; rfl) (by rintro _ _ ⟨⟩; exact ⟨_, _, _, _, _, _, by rfl, by assumption, by assumption⟩) ?_; simp only [Act.put, List.setIfInBounds_toArray, List.set_cons_zero, List.set_cons_succ]) | (refine WpO.pure (by rfl) (fun w_ => by go_simp; (try go_bits); rfl) ?_; simp only [Act.put, List.setIfInBounds_toArray, List.set_cons_zero, List.set_cons_succ]) | (refine WpO.skip (by rfl) ?_; simp only [Act.put, List.setIfInBounds_toArray, List.set_cons_zero, List.set_cons_succ]) | refine WpO.wild ?_ | refine WpO.two ?_ ?_ | refine WpO.three ?_ ?_ ?_) | ((with_reducible refine wildO.here ?_); first | (refine wildO.go (by rfl) (fun _ _ => ?_)) | (refine wildO.skip (by rfl) ?_; simp only [Act.put, List.setIfInBounds_toArray, List.set_cons_zero, List.set_cons_succ])) | go_values | go_skip | go_guarded | go_step | go_upon | go_back | (with_reducible refine NoO.normal ?_) | gi_step | gi_upon)
    have eW : Below W.heap.size W (W.alloc (.cells #[.int .i64 e.epoch, .int .i64 e.rep, .int .i64 e.num, .int .i32 e.char, .int .i64 e.hides] 36)) := (Below.refl _ _).alloc (Nat.le_refl _) _
    refine ⟨KeepN.of_below eW, KpT.of_below eW, fun W2 hB2 => ?_⟩
    obtain ⟨hbut, hn1, p1, T1, hg1, hT1, hl1⟩ := hI
    have but2 := (hbut.trans (But2.of_below eW)).begun hB2 hl
    have hn2 := hB2.blk (hn1.step eW)
    have hgt2 := hB2.blk (hg1.step eW)
    have hT2 := hB2.tree (hT1.step eW)
    have hx2 := hB2.blk (Blk.new W 36 #[.int .i64 e.epoch, .int .i64 e.rep, .int .i64 e.num, .int .i32 e.char, .int .i64 e.hides])
    have hF2 := hFZ.but2 but2 htZ hnZ
    have hk2 := but2.blk hkZ (hkZ.ne htZ (by decide)) (fun e => by have := hk7.lt; omega)
    have hw2 := but2.blk hwZ (hwZ.ne htZ (by decide)) (by omega)
    have hr2 : Row W2 (fun b => b < w.heap.size) A n c ls := hrZ.keep (S := fun b => b < w.heap.size) fun b hb hl => but2.block b hl (fun e => by subst e; have := Nat.le_trans b2s hgt; omega) (fun e => by have := b7.size; omega)
    have Hbut2 := hid but2
    have Hl1 := hid hl1
    clear hbut hn1 hg1 hT1 eW but2 hl1 hB2 hl hrc
    generalize W.heap.size = xb at *
    have hG' := hid hG
    clear hG
    generalize hm : pre.length = m at *
    have Hm := hid hm
    clear hm
    have He := hid he
    have hln : T5.all.length = n := by rw [Hall.out]; exact hr2.1
    have hmn : m < n := by omega
    obtain ⟨rb, off, e', rfl, hrb, he', c0, c1, c2, c3, c4⟩ := hr2.at_ hmn
    obtain rfl : e' = e := by rw [Hall.out] at he; exact Option.some.inj (he'.symm.trans he)
    have He' := hid he'
    have Hln := hid hln
    clear he he' hln
    have n0 := hn2.cell 0
    have w0 := hw2.cell 0
    have k0 := hk2.cell 0
    have l0' := hF2.l.cell 0
    have x0 := hx2.cell 0
    have x1 := hx2.cell 1
    have x2 := hx2.cell 2
    have x3 := hx2.cell 3
    have x4 := hx2.cell 4
    simp at n0 w0 k0 l0' x0 x1 x2 x3 x4
    have j2 : ¬ (m : Int) ≥ T5.all.length := by omega
    repeat' (first | ((with_reducible refine regionIn_at 20 ?_); refine wpIn_region_ordT (fun _ => True) rfl (.one 0 true false (.one 1 true false (.one 2 true false (.one 3 true false (.one 4 true false (.one 5 true false (.one 6 true false (.one 7 true false (.one 8 true false (.one 9 true false (.one 10 true false (.one 11 true false (.one 12 true false (.one 13 true false (.one 14 true false (.one 15 true false (.one 16 true false (.one 17 true false (.one 18 true false (.one 19 true false .nil)))))))))))))))))))) (by kernel_rfl) (by kernel_rfl) (by kernel_rfl) rfl rfl ?_) | (with_reducible refine stop_regionIn 22 ?_) | ((with_reducible refine regionIn_ff ?_); refine wpIn_region_r rfl ?_) | (with_reducible refine Keep.last ?_) | (with_reducible refine Keep.below (by assumption) ?_) | (with_reducible refine Keep.kept (by assumption) ?_) | (with_reducible refine Keep.alloc ?_) | (with_reducible refine Keep.same ?_) | ((with_reducible refine WpH.here ?_); first | (refine WpH.nil ?_; refine NoP.normal ?_) | (refine WpH.load (by rfl) (by rfl) (by go_simp; rfl) ?_; simp only [Act.put, List.setIfInBounds_toArray, List.set_cons_zero, List.set_cons_succ]) | (refine WpH.loadT (by rfl) (by rfl) (by go_simp; rfl) (by rintro _ _ ⟨⟩; exact ⟨_, _, _, _, _, _, by rfl, by assumption, by assumption⟩) ?_; simp only [Act.put, List.setIfInBounds_toArray, List.set_cons_zero, List.set_cons_succ]) | (refine WpH.pure (by rfl) (fun w_ => by go_simp; (try go_bits); rfl) ?_; simp only [Act.put, List.setIfInBounds_toArray, List.set_cons_zero, List.set_cons_succ]) | (refine WpH.wild1 (by rfl) (fun _ _ => ?_)) | (refine WpH.skip (by rfl) ?_; simp only [Act.put, List.setIfInBounds_toArray, List.set_cons_zero, List.set_cons_succ])) | ((with_reducible refine WpO.here ?_); first | (refine WpO.done ?_; first | refine NoP.normal ?_ | refine NoO.normal ?_) | (refine WpO.load (by rfl) (by rfl) (by go_simp; rfl) ?_; simp only [Act.put, List.setIfInBounds_toArray, List.set_cons_zero, List.set_cons_succ]) | (refine WpO.loadT (by rfl) (by rfl) (by go_simp; rfl) (by rintro _ _ ⟨⟩; exact ⟨_, _, _, _, _, _, by rfl, by assumption, by assumption⟩) ?_; simp only [Act.put, List.setIfInBounds_toArray, List.set_cons_zero, List.set_cons_succ]) | (refine WpO.pure (by rfl) (fun w_ => by go_simp; (try go_bits); rfl) ?_; simp only [Act.put, List.setIfInBounds_toArray, List.set_cons_zero, List.set_cons_succ]) | (refine WpO.skip (by rfl) ?_; simp only [Act.put, List.setIfInBounds_toArray, List.set_cons_zero, List.set_cons_succ]) | refine WpO.wild ?_ | refine WpO.two ?_ ?_ | refine WpO.three ?_ ?_ ?_) | ((with_reducible refine wildO.here ?_); first | (refine wildO.go (by rfl) (fun _ _ => ?_)) | (refine wildO.skip (by rfl) ?_; simp only [Act.put, List.setIfInBounds_toArray, List.set_cons_zero, List.set_cons_succ])) | go_values | go_skip | go_guarded | go_step | go_upon | go_back | (with_reducible refine NoO.normal ?_) | gi_step | gi_upon)
    refine Stop.go ?_
    have hgtV := hgt2.drew
    have hTV := hT2.drew
    have hFV := hF2.step (W' := W2.drew) (Below.refl _ _).drew
    have hbutV : But2 gt (Y.heap.size + 1) Z W2.drew := Hbut2.out.trans (But2.of_below (Below.refl _ _).drew)
    have hnV := hn2.drew
    have hxV := hx2.drew
    have k0V : W2.drew.cell? ⟨W5.heap.size + 1, 0, none⟩ = some (.int .i64 0) := k0
    have l0V : W2.drew.cell? ⟨pb + 1, 0, none⟩ = some (.slice (some ⟨rb, off, none⟩) n c) := l0'
    have kN0 : KeepN Z.heap.size W2 W2.drew := KeepN.of_below (Below.refl _ _).drew
    have kK0 : KpT Z.heap.size (fun b => b ≠ gt ∧ b ≠ Y.heap.size + 1) W2 W2.drew := KpT.of_below (Below.refl _ _).drew
    have HK0 := hid (And.intro kN0 kK0)
    clear kN0 kK0 Hbut2 hF2 hk2 hw2 hr2 n0 w0 k0 l0' x0 x1 x2 x3 x4 hgt2 hT2 hn2 hx2 c0 c1 c2 c3 c4 He' hrb
    generalize W2.drew = V at *
    have z1 := hFV.z.cell 1
    simp at z1
    obtain ⟨q, hq⟩ : ∃ q : Int, q = stop % (n + 1) := ⟨_, rfl⟩
    have HW1 := hid (fun W => within_any stop (n + 1) (by omega) (by omega) W)
    rw [← hq] at HW1
    clear hq
    by_cases hmq : (m : Int) = q
    · have j3 : ((m : Int) == q) = true := by simpa using hmq
      clear hmq
      repeat' (first | (go_at_call 23; go_must ((with_reducible refine Calls.mono (HW1.out _) ?_); rintro _ _ ⟨rfl, rfl⟩; dsimp only)) | ((with_reducible refine regionIn_ff ?_); refine wpIn_region_r rfl ?_) | (with_reducible refine Keep.last ?_) | (with_reducible refine Keep.below (by assumption) ?_) | (with_reducible refine Keep.kept (by assumption) ?_) | (with_reducible refine Keep.alloc ?_) | (with_reducible refine Keep.same ?_) | ((with_reducible refine WpH.here ?_); first | (refine WpH.nil ?_; refine NoP.normal ?_) | (refine WpH.load (by rfl) (by rfl) (by go_simp; rfl) ?_; simp only [Act.put, List.setIfInBounds_toArray, List.set_cons_zero, List.set_cons_succ]) | (refine WpH.loadT (by rfl) (by rfl) (by go_simp; rfl) (by rintro _ _ ⟨⟩; exact ⟨_, _, _, _, _, _, by rfl, by assumption, by assumption⟩) ?_; simp only [Act.put, List.setIfInBounds_toArray, List.set_cons_zero, List.set_cons_succ]) | (refine WpH.pure (by rfl) (fun w_ => by go_simp; (try go_bits); rfl) ?_; simp only [Act.put, List.setIfInBounds_toArray, List.set_cons_zero, List.set_cons_succ]) | (refine WpH.wild1 (by rfl) (fun _ _ => ?_)) | (refine WpH.skip (by rfl) ?_; simp only [Act.put, List.setIfInBounds_toArray, List.set_cons_zero, List.set_cons_succ])) | ((with_reducible refine WpO.here ?_); first | (refine WpO.done ?_; first | refine NoP.normal ?_ | refine NoO.normal ?_) | (refine WpO.load (by rfl) (by rfl) (by go_simp; rfl) ?_; simp only [Act.put, List.setIfInBounds_toArray, List.set_cons_zero, List.set_cons_succ]) | (refine WpO.loadT (by rfl) (by rfl) (by go_simp; rfl) (by rintro _ _ ⟨⟩; exact ⟨_, _, _, _, _, _, by rfl, by assumption, by assumption⟩) ?_; simp only [Act.put, List.setIfInBounds_toArray, List.set_cons_zero, List.set_cons_succ]) | (refine WpO.pure (by rfl) (fun w_ => by go_simp; (try go_bits); rfl) ?_; simp only [Act.put, List.setIfInBounds_toArray, List.set_cons_zero, List.set_cons_succ]) | (refine WpO.skip (by rfl) ?_; simp only [Act.put, List.setIfInBounds_toArray, List.set_cons_zero, List.set_cons_succ]) | refine WpO.wild ?_ | refine WpO.two ?_ ?_ | refine WpO.three ?_ ?_ ?_) | ((with_reducible refine wildO.here ?_); first | (refine wildO.go (by rfl) (fun _ _ => ?_)) | (refine wildO.skip (by rfl) ?_; simp only [Act.put, List.setIfInBounds_toArray, List.set_cons_zero, List.set_cons_succ])) | go_values | go_skip | go_guarded | go_step | go_upon | go_back | (with_reducible refine NoO.normal ?_) | gi_step | gi_upon)
      exact ⟨HK0.out.1, rfl, m, _, by omega, hbutV, hnV, p1, T1, hgtV, hTV, Hl1.out⟩
    · have j3 : ((m : Int) == q) = false := by simpa using hmq
      clear hmq
      repeat' (first | (go_at_call 23; go_must ((with_reducible refine Calls.mono (HW1.out _) ?_); rintro _ _ ⟨rfl, rfl⟩; dsimp only)) | (with_reducible refine stop_regionIn 23 ?_) | ((with_reducible refine regionIn_ff ?_); refine wpIn_region_r rfl ?_) | (with_reducible refine Keep.last ?_) | (with_reducible refine Keep.below (by assumption) ?_) | (with_reducible refine Keep.kept (by assumption) ?_) | (with_reducible refine Keep.alloc ?_) | (with_reducible refine Keep.same ?_) | ((with_reducible refine WpH.here ?_); first | (refine WpH.nil ?_; refine NoP.normal ?_) | (refine WpH.load (by rfl) (by rfl) (by go_simp; rfl) ?_; simp only [Act.put, List.setIfInBounds_toArray, List.set_cons_zero, List.set_cons_succ]) | (refine WpH.loadT (by rfl) (by rfl) (by go_simp; rfl) (by rintro _ _ ⟨⟩; exact ⟨_, _, _, _, _, _, by rfl, by assumption, by assumption⟩) ?_; simp only [Act.put, List.setIfInBounds_toArray, List.set_cons_zero, List.set_cons_succ]) | (refine WpH.pure (by rfl) (fun w_ => by go_simp; (try go_bits); rfl) ?_; simp only [Act.put, List.setIfInBounds_toArray, List.set_cons_zero, List.set_cons_succ]) | (refine WpH.wild1 (by rfl) (fun _ _ => ?_)) | (refine WpH.skip (by rfl) ?_; simp only [Act.put, List.setIfInBounds_toArray, List.set_cons_zero, List.set_cons_succ])) | ((with_reducible refine WpO.here ?_); first | (refine WpO.done ?_; first | refine NoP.normal ?_ | refine NoO.normal ?_) | (refine WpO.load (by rfl) (by rfl) (by go_simp; rfl) ?_; simp only [Act.put, List.setIfInBounds_toArray, List.set_cons_zero, List.set_cons_succ]) | (refine WpO.loadT (by rfl) (by rfl) (by go_simp; rfl) (by rintro _ _ ⟨⟩; exact ⟨_, _, _, _, _, _, by rfl, by assumption, by assumption⟩) ?_; simp only [Act.put, List.setIfInBounds_toArray, List.set_cons_zero, List.set_cons_succ]) | (refine WpO.pure (by rfl) (fun w_ => by go_simp; (try go_bits); rfl) ?_; simp only [Act.put, List.setIfInBounds_toArray, List.set_cons_zero, List.set_cons_succ]) | (refine WpO.skip (by rfl) ?_; simp only [Act.put, List.setIfInBounds_toArray, List.set_cons_zero, List.set_cons_succ]) | refine WpO.wild ?_ | refine WpO.two ?_ ?_ | refine WpO.three ?_ ?_ ?_) | ((with_reducible refine wildO.here ?_); first | (refine wildO.go (by rfl) (fun _ _ => ?_)) | (refine wildO.skip (by rfl) ?_; simp only [Act.put, List.setIfInBounds_toArray, List.set_cons_zero, List.set_cons_succ])) | go_values | go_skip | go_guarded | go_step | go_upon | go_back | (with_reducible refine NoO.normal ?_) | gi_step | gi_upon)
      refine Stop.go ?_
      have HlV := Hl1.out
      have hgl' := hgtV.lt
      have hnl' := hnV.lt
      have HR := hid (remove_ok T1 p1 gt ck 0 1 (fun b => b ≠ gt ∧ b ≠ (Y.heap.size + 1)) V.drew hgtV.drew hTV.drew (fun h => h.1 rfl) (by omega) (by omega) hck2.1 hck2.2)
      rw [show ((0 : Nat) : Int) = 0 from rfl, show ((1 : Nat) : Int) = 1 from rfl] at HR
      have tp : pb ≠ gt := hFV.p.ne hgtV (by decide)
      have tg : g ≠ gt := hFV.g.ne hgtV (by decide)
      have tz : w.heap.size ≠ gt := hFV.z.ne hgtV (by decide)
      have tx : xb ≠ gt := hxV.ne hgtV (by decide)
      have tn : (Y.heap.size + 1) ≠ gt := hnV.ne hgtV (by decide)
      have pV := hFV.p.cell 0
      have gV := hFV.g.cell 0
      simp at pV gV
      have qp : V.drew.heap[pb]? = some (.cells #[.pointer (some ⟨g, 0, none⟩)] 25 (0, 0)) := hFV.p
      have qg : V.drew.heap[g]? = some (.cells #[.pointer (some ⟨gt, 0, none⟩), .slice none 0 0, .int .i64 (ck : Nat)] 31 (0, 0)) := hFV.g
      have Hf := hid hFV
      have Hx := hid hxV
      have Hn := hid hnV
      have HT1 := hid (And.intro hgtV hTV)
      clear hFV hxV hnV hgtV hTV HlV z1 k0V l0V
      repeat' (first | ((with_reducible refine regionIn_at 23 ?_); refine wpIn_region_ordT (fun b => b ≠ gt) rfl (.one 0 true false (.one 1 true false (.one 2 true false (.one 3 true false (.one 4 false false (.one 5 true false (.one 6 true false (.one 7 true false (.one 8 true false (.one 9 true false (.one 10 true false (.one 11 true false (.one 12 true false (.one 13 true false (.one 14 true false (.one 15 true false (.one 16 true false (.one 20 true false (.one 21 true false (.two 17 22 (.one 18 true false (.two 19 22 (.one 22 false false (.one 23 false false (.one 24 true false (.one 25 true false .nil)))) (.one 19 false false (.one 23 false false (.one 24 true false (.one 25 true false .nil)))))) (.one 17 false false (.one 18 true false (.one 19 false false (.one 23 false false (.one 24 true false (.one 25 true false .nil)))))))))))))))))))))))))) (by kernel_rfl) (by kernel_rfl) (by kernel_rfl) rfl rfl ?_) | (go_at_call 24; go_must ((with_reducible refine Calls.mono HR.out ?_); rintro _ V3 ⟨p3, T3, rfl, hT3, hgt3, ⟨hq3, _⟩, hB3⟩; have hkk3 : KeepT (fun b => b ≠ gt) V.drew V3 := ⟨hB3.size, fun b hl hb => hB3.block b hl hb⟩; have hF3 := Hf.out.keep (W' := V3) (fun hb h1 _ => hB3.blk hb.drew (hb.ne HT1.out.1 h1)); have hx3 := hB3.blk Hx.out.drew tx; have hn3 := hB3.blk Hn.out.drew tn; have p3c := hF3.p.cell 0; have g3c := hF3.g.cell 0; have z3c := hF3.z.cell 2; have y0 := hx3.cell 0; have y1 := hx3.cell 1; have y2 := hx3.cell 2; have y3 := hx3.cell 3; have y4 := hx3.cell 4; simp at p3c g3c z3c y0 y1 y2 y3 y4; have rp : V3.heap[pb]? = some (.cells #[.pointer (some ⟨g, 0, none⟩)] 25 (0, 0)) := hF3.p; have rg : V3.heap[g]? = some (.cells #[.pointer (some ⟨gt, 0, none⟩), .slice none 0 0, .int .i64 (ck : Nat)] 31 (0, 0)) := hF3.g; have rz : V3.heap[w.heap.size]? = some (.cells #[.int .i64 chunk, .int .i64 stop, .int .i64 at_, .slice (some ⟨rb, off, none⟩) n c] 24 (0, 0)) := hF3.z; have rx : V3.heap[xb]? = some (.cells #[.int .i64 e'.epoch, .int .i64 e'.rep, .int .i64 e'.num, .int .i32 e'.char, .int .i64 e'.hides] 36 (0, 0)) := hx3; have hT3' := hid (hT3.more (S' := fun b => b ≠ gt ∧ b ≠ (Y.heap.size + 1)) fun b _ h => by rcases h with h | h; exact h; have h' : V.heap.size ≤ b := h; constructor <;> omega); have h3l := congrArg List.length hq3; simp only [List.take_zero, List.nil_append, List.append_nil, Nat.zero_add, List.length_drop] at h3l; have H3l := hid h3l; have HQ3 := hid hq3; have H3 := hid (And.intro hF3 (And.intro hx3 (And.intro hn3 (And.intro hgt3 hB3)))); have hlen3 : T3.all.length ≤ 2000 := (by have := Hl1.out; omega); obtain ⟨len3, hlen3e⟩ : ∃ len3, len3 = T3.all.length := ⟨_, rfl⟩; have HL3 := hid (fun W h1 h2 => tlen_any (S := fun b => b ≠ gt ∧ b ≠ (Y.heap.size + 1)) T3 p3 gt ck W h1 h2); rw [← hlen3e] at HL3; obtain ⟨i3, hi3⟩ : ∃ i3 : Nat, at_ % ((len3 : Int) + 1) = i3 := ⟨(at_ % ((len3 : Int) + 1)).toNat, by have := Int.emod_nonneg at_ (show ((len3 : Int) + 1) ≠ 0 by omega); omega⟩; have hi3l : i3 ≤ len3 := (by have := Int.emod_lt_of_pos at_ (show (0 : Int) < (len3 : Int) + 1 by omega); omega); have HW3 := hid (fun W => within_any at_ (len3 + 1) (by omega) (by omega) W); rw [hi3] at HW3; have Hlen3 := hid hlen3e; have hl3b : len3 ≤ 2000 := (by omega); clear hlen3e hT3 h3l hq3 hF3 hx3 hn3 hi3 hB3; dsimp only)) | (go_at_call 22; go_must ((with_reducible refine Calls.mono (HL3.out _ (by first | exact H3.out.2.2.2.1 | exact H3.out.2.2.2.1.alloc _) (by first | exact hT3'.out | exact hT3'.out.keep (Same.alloc _ _ _))) ?_); rintro _ _ ⟨rfl, rfl⟩; dsimp only)) | (go_at_call 23; go_must ((with_reducible refine Calls.mono (HW3.out _) ?_); rintro _ _ ⟨rfl, rfl⟩; dsimp only)) | (go_at_call 20; go_must ((with_reducible refine Calls.mono (two_insert T3 p3 gt ck i3 _ e' V3 H3.out.2.2.2.1 hT3'.out (by omega) (by rw [← Hlen3.out]; exact hi3l) hck2.1 hck2.2 H3.out.2.2.1.lt) ?_); rintro _ V5 ⟨p5', T5', rfl, hT5', hgt5', hl5', hB5'⟩; have hkk5 : KeepT (fun b => b ≠ gt) _ V5 := ⟨hB5'.size, fun b hl hb => hB5'.block b hl hb⟩; have hn5 := hB5'.blk (H3.out.2.2.1.alloc _) tn; have n5 := hn5.cell 0; have nf5 := hn5.frozen 0; simp at n5; have HB5 := hid hB5'; have Hl5 := hid hl5'; clear hB5' hl5'; dsimp only)) | ((with_reducible refine regionIn_ff ?_); refine wpIn_region_r rfl ?_) | (with_reducible refine Keep.last ?_) | (with_reducible refine Keep.below (by assumption) ?_) | (with_reducible refine Keep.kept (by assumption) ?_) | (with_reducible refine Keep.alloc ?_) | (with_reducible refine Keep.same ?_) | ((with_reducible refine WpH.here ?_); first | (refine WpH.nil ?_; refine NoP.normal ?_) | (refine WpH.load (by rfl) (by rfl) (by go_simp; rfl) ?_; simp only [Act.put, List.setIfInBounds_toArray, List.set_cons_zero, List.set_cons_succ]) | (refine WpH.loadT (by rfl) (by rfl) (by go_simp; rfl) (by rintro _ _ ⟨⟩; exact ⟨_, _, _, _, _, _, by rfl, by assumption, by assumption⟩) ?_; simp only [Act.put, List.setIfInBounds_toArray, List.set_cons_zero, List.set_cons_succ]) | (refine WpH.pure (by rfl) (fun w_ => by go_simp; (try go_bits); rfl) ?_; simp only [Act.put, List.setIfInBounds_toArray, List.set_cons_zero, List.set_cons_succ]) | (refine WpH.wild1 (by rfl) (fun _ _ => ?_)) | (refine WpH.skip (by rfl) ?_; simp only [Act.put, List.setIfInBounds_toArray, List.set_cons_zero, List.set_cons_succ])) | ((with_reducible refine WpO.here ?_); first | (refine WpO.done ?_; first | refine NoP.normal ?_ | refine NoO.normal ?_) | (refine WpO.load (by rfl) (by rfl) (by go_simp; rfl) ?_; simp only [Act.put, List.setIfInBounds_toArray, List.set_cons_zero, List.set_cons_succ]) | (refine WpO.loadT (by rfl) (by rfl) (by go_simp; rfl) (by rintro _ _ ⟨⟩; exact ⟨_, _, _, _, _, _, by rfl, by assumption, by assumption⟩) ?_; simp only [Act.put, List.setIfInBounds_toArray, List.set_cons_zero, List.set_cons_succ]) | (refine WpO.pure (by rfl) (fun w_ => by go_simp; (try go_bits); rfl) ?_; simp only [Act.put, List.setIfInBounds_toArray, List.set_cons_zero, List.set_cons_succ]) | (refine WpO.skip (by rfl) ?_; simp only [Act.put, List.setIfInBounds_toArray, List.set_cons_zero, List.set_cons_succ]) | refine WpO.wild ?_ | refine WpO.two ?_ ?_ | refine WpO.three ?_ ?_ ?_) | ((with_reducible refine wildO.here ?_); first | (refine wildO.go (by rfl) (fun _ _ => ?_)) | (refine wildO.skip (by rfl) ?_; simp only [Act.put, List.setIfInBounds_toArray, List.set_cons_zero, List.set_cons_succ])) | go_values | go_skip | go_guarded | go_step | go_upon | go_back | (with_reducible refine NoO.normal ?_) | gi_step | gi_upon)
      all_goals
        have ea : Below V3.heap.size V3 (V3.alloc (.cells #[.int .i64 e'.epoch, .int .i64 e'.rep, .int .i64 e'.num, .int .i32 e'.char, .int .i64 e'.hides, .int .i64 e'.epoch, .int .i64 e'.rep, .int .i64 e'.num, .int .i32 e'.char, .int .i64 e'.hides] 36)) := (Below.refl _ _).alloc (Nat.le_refl _) _
        have d1 : But2 gt ((Y.heap.size + 1)) V V5 := (((But2.of_below (Below.refl _ _).drew).trans (But2.of_but H3.out.2.2.2.2)).trans (But2.of_below ea)).trans (But2.of_but HB5.out)
        have d2 := d1.trans (But2.setY (x := gt) (y := (Y.heap.size + 1)) V5 (.int .i64 ((m : Int) + 1)))
        have hpre : (pre ++ [(e', m)]).length = m + 1 := by rw [List.length_append, Hm.out]; rfl
        have hl5 := Hl5.out
        have hl3 := H3l.out
        have hl1 := Hl1.out
        refine ⟨HK0.out.1.trans (d2.keepN HT1.out.1 Hn.out), HK0.out.2.trans (d2.kpT htZ.lt hnZ.lt (fun h => h.1 rfl) (fun h => h.2 rfl)), ?_⟩
        show RI Z _ gt ((Y.heap.size + 1)) ck (pre ++ [(e', m)]).length (T5.all.length + (pre ++ [(e', m)]).length)
        rw [hpre]
        exact ⟨hbutV.trans d2, by simpa using hn5.set_ 0 (.int .i64 ((m : Int) + 1)), p5', T5', hgt5'.far (Ne.symm tn) _, hT5'.keep (Same.setCell (S := fun b => b ≠ gt ∧ b ≠ (Y.heap.size + 1)) V5 (fun h => h.2 rfl) _), by omega⟩
  case done =>
    rintro xs W rfl hI
    exact ⟨_, _, by rw [List.length_zipIdx]; omega, hI⟩
  case end_ =>
    rintro D W hD ⟨cnt, len1, hlen1, hI⟩ hK
    have hkW := hI.but.blk hkZ (hkZ.ne htZ (by decide)) (fun e => by have := hk7.lt; omega)
    have kW := hkW.cell 0
    simp at kW
    have hFW := hFZ.but2 hI.but htZ hnZ
    have hkl := hkW.lt
    have hDge : w.heap.size ≤ D := Nat.le_trans bZ.size hD
    have HI := hid hI
    have HD := hid hD
    have HK := hid hK
    clear hI hD hK
    repeat' (first | (with_reducible refine roundsW_at ?_) | (with_reducible refine Keep.last ?_) | (with_reducible refine Keep.below (by assumption) ?_) | (with_reducible refine Keep.kept (by assumption) ?_) | (with_reducible refine Keep.alloc ?_) | (with_reducible refine Keep.same ?_) | ((with_reducible refine WpH.here ?_); first | (refine WpH.nil ?_; refine NoP.normal ?_) | (refine WpH.load (by rfl) (by rfl) (by go_simp; rfl) ?_; simp only [Act.put, List.setIfInBounds_toArray, List.set_cons_zero, List.set_cons_succ]) | (refine WpH.loadT (by rfl) (by rfl) (by go_simp; rfl) (by rintro _ _ ⟨⟩; exact ⟨_, _, _, _, _, _, by rfl, by assumption, by assumption⟩) ?_; simp only [Act.put, List.setIfInBounds_toArray, List.set_cons_zero, List.set_cons_succ]) | (refine WpH.pure (by rfl) (fun w_ => by go_simp; (try go_bits); rfl) ?_; simp only [Act.put, List.setIfInBounds_toArray, List.set_cons_zero, List.set_cons_succ]) | (refine WpH.wild1 (by rfl) (fun _ _ => ?_)) | (refine WpH.skip (by rfl) ?_; simp only [Act.put, List.setIfInBounds_toArray, List.set_cons_zero, List.set_cons_succ])) | ((with_reducible refine WpO.here ?_); first | (refine WpO.done ?_; first | refine NoP.normal ?_ | refine NoO.normal ?_) | (refine WpO.load (by rfl) (by rfl) (by go_simp; rfl) ?_; simp only [Act.put, List.setIfInBounds_toArray, List.set_cons_zero, List.set_cons_succ]) | (refine WpO.loadT (by rfl) (by rfl) (by go_simp; rfl) (by rintro _ _ ⟨⟩; exact ⟨_, _, _, _, _, _, by rfl, by assumption, by assumption⟩) ?_; simp only [Act.put, List.setIfInBounds_toArray, List.set_cons_zero, List.set_cons_succ]) | (refine WpO.pure (by rfl) (fun w_ => by go_simp; (try go_bits); rfl) ?_; simp only [Act.put, List.setIfInBounds_toArray, List.set_cons_zero, List.set_cons_succ]) | (refine WpO.skip (by rfl) ?_; simp only [Act.put, List.setIfInBounds_toArray, List.set_cons_zero, List.set_cons_succ]) | refine WpO.wild ?_ | refine WpO.two ?_ ?_ | refine WpO.three ?_ ?_ ?_) | ((with_reducible refine wildO.here ?_); first | (refine wildO.go (by rfl) (fun _ _ => ?_)) | (refine wildO.skip (by rfl) ?_; simp only [Act.put, List.setIfInBounds_toArray, List.set_cons_zero, List.set_cons_succ])) | go_values | go_skip | go_guarded | go_step | go_upon | go_back)
    refine Stop.go ?_
    refine roundsW_next ?_
    obtain ⟨hbutW, hnW, p1, T1, htW, hTW, hl1⟩ := HI.out
    have hDl := lt_of_heap HK.out
    have eU : Below W.heap.size W (W.alloc (.cells #[.int .i64 1] 3)) := (Below.refl _ _).alloc (Nat.le_refl _) _
    have hkU := Blk.new W 3 #[.int .i64 1]
    generalize W.alloc (.cells #[.int .i64 1] 3) = U at *
    have hlen1' : T1.all.length ≤ 400 := by omega
    have hwg : w.heap.size ≤ gt := Nat.le_trans b2s hgt
    have bW : Below w.heap.size w W := hbutW.below bZ (Nat.le_refl _) hwg (by have := b7.size; omega)
    have bU := bW.trans (eU.mono bW.size)
    have hFU := hFW.step eU
    have htU := htW.step eU
    have hTU := hTW.step eU
    have hKU : U.heap[D]? = some (.deferred (some [])) := (eU.block D hDl).trans HK.out
    have HKU := hid hKU
    have Hl1 := hid hl1
    have HL2 := hid (tlen_any T1 p1 gt ck U htU hTU)
    have pU := hFU.p.cell 0
    have gU := hFU.g.cell 0
    have kU := hkU.cell 0
    simp at pU gU kU
    have hplU := hFU.p.lt
    have hglU := hFU.g.lt
    have HBW := hid (And.intro hbutW (And.intro hnW (And.intro htW hTW)))
    clear hbutW hnW htW hTW hkW kW hFW HI eU hl1 hKU
    generalize W.heap.size = kb at *
    repeat' (first | (go_at_call 22; go_must ((with_reducible refine Calls.mono HL2.out ?_); rintro _ _ ⟨rfl, rfl⟩; dsimp only)) | (with_reducible refine stop_block 2 ?_) | (with_reducible refine Keep.last ?_) | (with_reducible refine Keep.below (by assumption) ?_) | (with_reducible refine Keep.kept (by assumption) ?_) | (with_reducible refine Keep.alloc ?_) | (with_reducible refine Keep.same ?_) | ((with_reducible refine WpH.here ?_); first | (refine WpH.nil ?_; refine NoP.normal ?_) | (refine WpH.load (by rfl) (by rfl) (by go_simp; rfl) ?_; simp only [Act.put, List.setIfInBounds_toArray, List.set_cons_zero, List.set_cons_succ]) | (refine WpH.loadT (by rfl) (by rfl) (by go_simp; rfl) (by rintro _ _ ⟨⟩; exact ⟨_, _, _, _, _, _, by rfl, by assumption, by assumption⟩) ?_; simp only [Act.put, List.setIfInBounds_toArray, List.set_cons_zero, List.set_cons_succ]) | (refine WpH.pure (by rfl) (fun w_ => by go_simp; (try go_bits); rfl) ?_; simp only [Act.put, List.setIfInBounds_toArray, List.set_cons_zero, List.set_cons_succ]) | (refine WpH.wild1 (by rfl) (fun _ _ => ?_)) | (refine WpH.skip (by rfl) ?_; simp only [Act.put, List.setIfInBounds_toArray, List.set_cons_zero, List.set_cons_succ])) | ((with_reducible refine WpO.here ?_); first | (refine WpO.done ?_; first | refine NoP.normal ?_ | refine NoO.normal ?_) | (refine WpO.load (by rfl) (by rfl) (by go_simp; rfl) ?_; simp only [Act.put, List.setIfInBounds_toArray, List.set_cons_zero, List.set_cons_succ]) | (refine WpO.loadT (by rfl) (by rfl) (by go_simp; rfl) (by rintro _ _ ⟨⟩; exact ⟨_, _, _, _, _, _, by rfl, by assumption, by assumption⟩) ?_; simp only [Act.put, List.setIfInBounds_toArray, List.set_cons_zero, List.set_cons_succ]) | (refine WpO.pure (by rfl) (fun w_ => by go_simp; (try go_bits); rfl) ?_; simp only [Act.put, List.setIfInBounds_toArray, List.set_cons_zero, List.set_cons_succ]) | (refine WpO.skip (by rfl) ?_; simp only [Act.put, List.setIfInBounds_toArray, List.set_cons_zero, List.set_cons_succ]) | refine WpO.wild ?_ | refine WpO.two ?_ ?_ | refine WpO.three ?_ ?_ ?_) | ((with_reducible refine wildO.here ?_); first | (refine wildO.go (by rfl) (fun _ _ => ?_)) | (refine wildO.skip (by rfl) ?_; simp only [Act.put, List.setIfInBounds_toArray, List.set_cons_zero, List.set_cons_succ])) | go_values | go_skip | go_guarded | go_step | go_upon | go_back)
    refine Stop.go ?_
    have eV : Below U.heap.size U (U.alloc (.cells #[.int .i64 T1.all.length] 3)) := (Below.refl _ _).alloc (Nat.le_refl _) _
    have sV : (U.alloc (.cells #[.int .i64 T1.all.length] 3)).heap.size = U.heap.size + 1 := Array.size_push _
    have eV2 := eV.alloc (by omega) (.cells #[.int .i64 0] 3)
    have hwV := (Blk.new U 3 #[.int .i64 T1.all.length]).alloc (.cells #[.int .i64 0] 3)
    have hnV := Blk.new (U.alloc (.cells #[.int .i64 T1.all.length] 3)) 3 #[.int .i64 0]
    rw [sV] at hnV
    generalize (U.alloc (.cells #[.int .i64 T1.all.length] 3)).alloc (.cells #[.int .i64 0] 3) = Z2 at *
    have htV := htU.step eV2
    have hTV2 : IsTree Z2 (fun b => b ≠ gt ∧ b ≠ U.heap.size + 1) T1 p1 := ((hTU.more (S' := fun b => b < U.heap.size ∧ b ≠ gt) fun b hl hb => ⟨hl, hb.1⟩).step eV2).more fun b _ h => ⟨h.2, by have := h.1; omega⟩
    have hFV := hFU.step eV2
    have hkV := hkU.step eV2
    have bV := bU.trans (eV2.mono bU.size)
    have hneV : gt ≠ U.heap.size + 1 := fun e => by have := htU.lt; omega
    have hkUl := hkU.lt
    have hKV : Z2.heap[D]? = some (.deferred (some [])) := (eV2.block D (lt_of_heap HKU.out)).trans HKU.out
    have HKV := hid hKV
    clear hKV pU gU kU
    refine wp_rangeFunc_block 3 (gf := 74) (lb := #[.pointer (some ⟨W5.heap.size, 0, none⟩)]) rfl (enters_fn Tryd.func74 (by kernel_rfl) rfl)
      (allSeq T1 p1 gt W5.heap.size ck (fun b => b ≠ gt ∧ b ≠ U.heap.size + 1) Z2 hFV.a htV hTV2 (by omega)) (fun h k => h.trans k) (fun W l o o' hl h hc => KpT.putObj W l o o' hl h hc) (fun _ => rfl)
      (fun pre W => RI Z2 W gt (U.heap.size + 1) ck pre.length (T1.all.length + pre.length)) (fun W => ∃ len, RI Z2 W gt (U.heap.size + 1) ck T1.all.length len)
      (fun s A B h hT => h.turn htV.lt hnV.lt hT) (fun _ A B h hT => by obtain ⟨len, h3⟩ := h; exact ⟨len, h3.turn htV.lt hnV.lt hT⟩)
      ⟨But2.refl _ _ _, hnV, p1, T1, htV, hTV2, rfl⟩ ?round2 ?done2 ?end2
    case round2 =>
      rintro l pre ⟨e', i⟩ W3 hl ⟨rc, hrc⟩ hI hG
      obtain ⟨hi, he, hlt⟩ := zipIdx_prefix hG
      simp only at hi he
      subst hi
      simp only [elNum, El.agg, putArgs2, List.setIfInBounds_toArray, List.set_cons_zero, List.set_cons_succ]
      repeat' (first | ((with_reducible refine regionIn_ff ?_); refine wpIn_region_r rfl ?_) | (with_reducible refine Keep.last ?_) | (with_reducible refine Keep.below (by assumption) ?_) | (with_reducible refine Keep.kept (by assumption) ?_) | (with_reducible refine Keep.alloc ?_) | (with_reducible refine Keep.same ?_) | ((with_reducible refine WpH.here ?_); first | (refine WpH.nil ?_; refine NoP.normal ?_) | (refine WpH.load (by rfl) (by rfl) (by go_simp; rfl) ?_; simp only [Act.put, List.setIfInBounds_toArray, List.set_cons_zero, List.set_cons_succ]) | (refine WpH.loadT (by rfl) (by rfl) (by go_simp; rfl) (by rintro _ _ ⟨⟩; exact ⟨_, _, _, _, _, _, by rfl, by assumption, by assumption⟩) ?_; simp only [Act.put, List.setIfInBounds_toArray, List.set_cons_zero, List.set_cons_succ]) | (refine WpH.pure (by rfl) (fun w_ => by go_simp; (try go_bits); rfl) ?_; simp only [Act.put, List.setIfInBounds_toArray, List.set_cons_zero, List.set_cons_succ]) | (refine WpH.wild1 (by rfl) (fun _ _ => ?_)) | (refine WpH.skip (by rfl) ?_; simp only [Act.put, List.setIfInBounds_toArray, List.set_cons_zero, List.set_cons_succ])) | ((with_reducible refine WpO.here ?_); first | (refine WpO.done ?_; first | refine NoP.normal ?_ | refine NoO.normal ?_) | (refine WpO.load (by rfl) (by rfl) (by go_simp; rfl) ?_; simp only [Act.put, List.setIfInBounds_toArray, List.set_cons_zero, List.set_cons_succ]) | (refine WpO.loadT (by rfl) (by rfl) (by go_simp; rfl) (by rintro _ _ ⟨⟩; exact ⟨_, _, _, _, _, _, by rfl, by assumption, by assumption⟩) ?_; simp only [Act.put, List.setIfInBounds_toArray, List.set_cons_zero, List.set_cons_succ]) | (refine WpO.pure (by rfl) (fun w_ => by go_simp; (try go_bits); rfl) ?_; simp only [Act.put, List.setIfInBounds_toArray, List.set_cons_zero, List.set_cons_succ]) | (refine WpO.skip (by rfl) ?_; simp only [Act.put, List.setIfInBounds_toArray, List.set_cons_zero, List.set_cons_succ]) | refine WpO.wild ?_ | refine WpO.two ?_ ?_ | refine WpO.three ?_ ?_ ?_) | ((with_reducible refine wildO.here ?_); first | (refine wildO.go (by rfl) (fun _ _ => ?_)) | (refine wildO.skip (by rfl) ?_; simp only [Act.put, List.setIfInBounds_toArray, List.set_cons_zero, List.set_cons_succ])) | go_values | go_skip | go_guarded | go_step | go_upon | go_back | (with_reducible refine NoO.normal ?_) | gi_step | gi_upon)
      have eW : Below W3.heap.size W3 (W3.alloc (.cells #[.int .i64 e'.epoch, .int .i64 e'.rep, .int .i64 e'.num, .int .i32 e'.char, .int .i64 e'.hides] 36)) := (Below.refl _ _).alloc (Nat.le_refl _) _
      refine ⟨KeepN.of_below eW, KpT.of_below eW, fun W2 hB2 => ?_⟩
      obtain ⟨hbut, hn1, pI, TI, hg1, hT1, hl1⟩ := hI
      have but2 := (hbut.trans (But2.of_below eW)).begun hB2 hl
      have hn2 := hB2.blk (hn1.step eW)
      have hgt2 := hB2.blk (hg1.step eW)
      have hT2 := hB2.tree (hT1.step eW)
      have hx2 := hB2.blk (Blk.new W3 36 #[.int .i64 e'.epoch, .int .i64 e'.rep, .int .i64 e'.num, .int .i32 e'.char, .int .i64 e'.hides])
      have hF2 := hFV.but2 but2 htV hnV
      have hk2 := but2.blk hkV (hkV.ne htV (by decide)) (by omega)
      have hw2 := but2.blk hwV (hwV.ne htV (by decide)) (by omega)
      have Hbut2 := hid but2
      have Hl1 := hid hl1
      clear hbut hn1 hg1 hT1 eW but2 hl1 hB2 hl hrc he
      generalize W3.heap.size = xb at *
      have hG' := hid hG
      clear hG
      generalize hm : pre.length = m at *
      have Hm := hid hm
      clear hm
      have n0 := hn2.cell 0
      have w0 := hw2.cell 0
      have k0 := hk2.cell 0
      simp at n0 w0 k0
      have j2 : ¬ (m : Int) ≥ T1.all.length := by omega
      have htZ2 := htV
      have hnZ2 := hnV
      repeat' (first | ((with_reducible refine regionIn_at 20 ?_); refine wpIn_region_ordT (fun _ => True) rfl (.one 0 true false (.one 1 true false (.one 2 true false (.one 3 true false (.one 4 true false (.one 5 true false (.one 6 true false (.one 7 true false (.one 8 true false (.one 9 true false (.one 10 true false (.one 11 true false (.one 12 true false (.one 13 true false (.one 14 true false (.one 15 true false (.one 16 true false (.one 17 true false (.one 18 true false (.one 19 true false .nil)))))))))))))))))))) (by kernel_rfl) (by kernel_rfl) (by kernel_rfl) rfl rfl ?_) | (with_reducible refine stop_regionIn 22 ?_) | ((with_reducible refine regionIn_ff ?_); refine wpIn_region_r rfl ?_) | (with_reducible refine Keep.last ?_) | (with_reducible refine Keep.below (by assumption) ?_) | (with_reducible refine Keep.kept (by assumption) ?_) | (with_reducible refine Keep.alloc ?_) | (with_reducible refine Keep.same ?_) | ((with_reducible refine WpH.here ?_); first | (refine WpH.nil ?_; refine NoP.normal ?_) | (refine WpH.load (by rfl) (by rfl) (by go_simp; rfl) ?_; simp only [Act.put, List.setIfInBounds_toArray, List.set_cons_zero, List.set_cons_succ]) | (refine WpH.loadT (by rfl) (by rfl) (by go_simp; rfl) (by rintro _ _ ⟨⟩; exact ⟨_, _, _, _, _, _, by rfl, by assumption, by assumption⟩) ?_; simp only [Act.put, List.setIfInBounds_toArray, List.set_cons_zero, List.set_cons_succ]) | (refine WpH.pure (by rfl) (fun w_ => by go_simp; (try go_bits); rfl) ?_; simp only [Act.put, List.setIfInBounds_toArray, List.set_cons_zero, List.set_cons_succ]) | (refine WpH.wild1 (by rfl) (fun _ _ => ?_)) | (refine WpH.skip (by rfl) ?_; simp only [Act.put, List.setIfInBounds_toArray, List.set_cons_zero, List.set_cons_succ])) | ((with_reducible refine WpO.here ?_); first | (refine WpO.done ?_; first | refine NoP.normal ?_ | refine NoO.normal ?_) | (refine WpO.load (by rfl) (by rfl) (by go_simp; rfl) ?_; simp only [Act.put, List.setIfInBounds_toArray, List.set_cons_zero, List.set_cons_succ]) | (refine WpO.loadT (by rfl) (by rfl) (by go_simp; rfl) (by rintro _ _ ⟨⟩; exact ⟨_, _, _, _, _, _, by rfl, by assumption, by assumption⟩) ?_; simp only [Act.put, List.setIfInBounds_toArray, List.set_cons_zero, List.set_cons_succ]) | (refine WpO.pure (by rfl) (fun w_ => by go_simp; (try go_bits); rfl) ?_; simp only [Act.put, List.setIfInBounds_toArray, List.set_cons_zero, List.set_cons_succ]) | (refine WpO.skip (by rfl) ?_; simp only [Act.put, List.setIfInBounds_toArray, List.set_cons_zero, List.set_cons_succ]) | refine WpO.wild ?_ | refine WpO.two ?_ ?_ | refine WpO.three ?_ ?_ ?_) | ((with_reducible refine wildO.here ?_); first | (refine wildO.go (by rfl) (fun _ _ => ?_)) | (refine wildO.skip (by rfl) ?_; simp only [Act.put, List.setIfInBounds_toArray, List.set_cons_zero, List.set_cons_succ])) | go_values | go_skip | go_guarded | go_step | go_upon | go_back | (with_reducible refine NoO.normal ?_) | gi_step | gi_upon)
      refine Stop.go ?_
      have hgtV := hgt2.drew
      have hTV := hT2.drew
      have hFV := hF2.step (W' := W2.drew) (Below.refl _ _).drew
      have hbutV : But2 gt (U.heap.size + 1) Z2 W2.drew := Hbut2.out.trans (But2.of_below (Below.refl _ _).drew)
      have hnV := hn2.drew
      have hxV := hx2.drew
      have k0V : W2.drew.cell? ⟨kb, 0, none⟩ = some (.int .i64 1) := k0
      have kN0 : KeepN Z2.heap.size W2 W2.drew := KeepN.of_below (Below.refl _ _).drew
      have kK0 : KpT Z2.heap.size (fun b => b ≠ gt ∧ b ≠ U.heap.size + 1) W2 W2.drew := KpT.of_below (Below.refl _ _).drew
      have HK0 := hid (And.intro kN0 kK0)
      clear kN0 kK0 Hbut2 hF2 hk2 hw2 n0 w0 k0 hgt2 hT2 hn2 hx2
      generalize W2.drew = V at *
      have z1 := hFV.z.cell 1
      have l0V : V.cell? ⟨pb + 1, 0, none⟩ = some (.slice A n c) := hFV.l.cell 0
      repeat' (first | (with_reducible refine stop_regionIn 23 ?_) | ((with_reducible refine regionIn_ff ?_); refine wpIn_region_r rfl ?_) | (with_reducible refine Keep.last ?_) | (with_reducible refine Keep.below (by assumption) ?_) | (with_reducible refine Keep.kept (by assumption) ?_) | (with_reducible refine Keep.alloc ?_) | (with_reducible refine Keep.same ?_) | ((with_reducible refine WpH.here ?_); first | (refine WpH.nil ?_; refine NoP.normal ?_) | (refine WpH.load (by rfl) (by rfl) (by go_simp; rfl) ?_; simp only [Act.put, List.setIfInBounds_toArray, List.set_cons_zero, List.set_cons_succ]) | (refine WpH.loadT (by rfl) (by rfl) (by go_simp; rfl) (by rintro _ _ ⟨⟩; exact ⟨_, _, _, _, _, _, by rfl, by assumption, by assumption⟩) ?_; simp only [Act.put, List.setIfInBounds_toArray, List.set_cons_zero, List.set_cons_succ]) | (refine WpH.pure (by rfl) (fun w_ => by go_simp; (try go_bits); rfl) ?_; simp only [Act.put, List.setIfInBounds_toArray, List.set_cons_zero, List.set_cons_succ]) | (refine WpH.wild1 (by rfl) (fun _ _ => ?_)) | (refine WpH.skip (by rfl) ?_; simp only [Act.put, List.setIfInBounds_toArray, List.set_cons_zero, List.set_cons_succ])) | ((with_reducible refine WpO.here ?_); first | (refine WpO.done ?_; first | refine NoP.normal ?_ | refine NoO.normal ?_) | (refine WpO.load (by rfl) (by rfl) (by go_simp; rfl) ?_; simp only [Act.put, List.setIfInBounds_toArray, List.set_cons_zero, List.set_cons_succ]) | (refine WpO.loadT (by rfl) (by rfl) (by go_simp; rfl) (by rintro _ _ ⟨⟩; exact ⟨_, _, _, _, _, _, by rfl, by assumption, by assumption⟩) ?_; simp only [Act.put, List.setIfInBounds_toArray, List.set_cons_zero, List.set_cons_succ]) | (refine WpO.pure (by rfl) (fun w_ => by go_simp; (try go_bits); rfl) ?_; simp only [Act.put, List.setIfInBounds_toArray, List.set_cons_zero, List.set_cons_succ]) | (refine WpO.skip (by rfl) ?_; simp only [Act.put, List.setIfInBounds_toArray, List.set_cons_zero, List.set_cons_succ]) | refine WpO.wild ?_ | refine WpO.two ?_ ?_ | refine WpO.three ?_ ?_ ?_) | ((with_reducible refine wildO.here ?_); first | (refine wildO.go (by rfl) (fun _ _ => ?_)) | (refine wildO.skip (by rfl) ?_; simp only [Act.put, List.setIfInBounds_toArray, List.set_cons_zero, List.set_cons_succ])) | go_values | go_skip | go_guarded | go_step | go_upon | go_back | (with_reducible refine NoO.normal ?_) | gi_step | gi_upon)
      refine Stop.go ?_
      have HlV := Hl1.out
      have hgl' := hgtV.lt
      have hnl' := hnV.lt
      have HR := hid (remove_ok TI pI gt ck 0 1 (fun b => b ≠ gt ∧ b ≠ (U.heap.size + 1)) V.drew hgtV.drew hTV.drew (fun h => h.1 rfl) (by omega) (by omega) hck2.1 hck2.2)
      rw [show ((0 : Nat) : Int) = 0 from rfl, show ((1 : Nat) : Int) = 1 from rfl] at HR
      have tp : pb ≠ gt := hFV.p.ne hgtV (by decide)
      have tg : g ≠ gt := hFV.g.ne hgtV (by decide)
      have tz : w.heap.size ≠ gt := hFV.z.ne hgtV (by decide)
      have tx : xb ≠ gt := hxV.ne hgtV (by decide)
      have tn : (U.heap.size + 1) ≠ gt := hnV.ne hgtV (by decide)
      have pV := hFV.p.cell 0
      have gV := hFV.g.cell 0
      simp at pV gV
      have qp : V.drew.heap[pb]? = some (.cells #[.pointer (some ⟨g, 0, none⟩)] 25 (0, 0)) := hFV.p
      have qg : V.drew.heap[g]? = some (.cells #[.pointer (some ⟨gt, 0, none⟩), .slice none 0 0, .int .i64 (ck : Nat)] 31 (0, 0)) := hFV.g
      have Hf := hid hFV
      have Hx := hid hxV
      have Hn := hid hnV
      have HT1 := hid (And.intro hgtV hTV)
      clear hFV hxV hnV hgtV hTV HlV z1 k0V l0V
      repeat' (first | ((with_reducible refine regionIn_at 23 ?_); refine wpIn_region_ordT (fun b => b ≠ gt) rfl (.one 0 true false (.one 1 true false (.one 2 true false (.one 3 true false (.one 4 false false (.one 5 true false (.one 6 true false (.one 7 true false (.one 8 true false (.one 9 true false (.one 10 true false (.one 11 true false (.one 12 true false (.one 13 true false (.one 14 true false (.one 15 true false (.one 16 true false (.one 20 true false (.one 21 true false (.two 17 22 (.one 18 true false (.two 19 22 (.one 22 false false (.one 23 false false (.one 24 true false (.one 25 true false .nil)))) (.one 19 false false (.one 23 false false (.one 24 true false (.one 25 true false .nil)))))) (.one 17 false false (.one 18 true false (.one 19 false false (.one 23 false false (.one 24 true false (.one 25 true false .nil)))))))))))))))))))))))))) (by kernel_rfl) (by kernel_rfl) (by kernel_rfl) rfl rfl ?_) | (go_at_call 24; go_must ((with_reducible refine Calls.mono HR.out ?_); rintro _ V3 ⟨p3, T3, rfl, hT3, hgt3, ⟨hq3, _⟩, hB3⟩; have hkk3 : KeepT (fun b => b ≠ gt) V.drew V3 := ⟨hB3.size, fun b hl hb => hB3.block b hl hb⟩; have hF3 := Hf.out.keep (W' := V3) (fun hb h1 _ => hB3.blk hb.drew (hb.ne HT1.out.1 h1)); have hx3 := hB3.blk Hx.out.drew tx; have hn3 := hB3.blk Hn.out.drew tn; have p3c := hF3.p.cell 0; have g3c := hF3.g.cell 0; have z3c := hF3.z.cell 2; have y0 := hx3.cell 0; have y1 := hx3.cell 1; have y2 := hx3.cell 2; have y3 := hx3.cell 3; have y4 := hx3.cell 4; simp at p3c g3c z3c y0 y1 y2 y3 y4; have rp : V3.heap[pb]? = some (.cells #[.pointer (some ⟨g, 0, none⟩)] 25 (0, 0)) := hF3.p; have rg : V3.heap[g]? = some (.cells #[.pointer (some ⟨gt, 0, none⟩), .slice none 0 0, .int .i64 (ck : Nat)] 31 (0, 0)) := hF3.g; have rz : V3.heap[w.heap.size]? = some (.cells #[.int .i64 chunk, .int .i64 stop, .int .i64 at_, .slice A n c] 24 (0, 0)) := hF3.z; have rx : V3.heap[xb]? = some (.cells #[.int .i64 e'.epoch, .int .i64 e'.rep, .int .i64 e'.num, .int .i32 e'.char, .int .i64 e'.hides] 36 (0, 0)) := hx3; have hT3' := hid (hT3.more (S' := fun b => b ≠ gt ∧ b ≠ (U.heap.size + 1)) fun b _ h => by rcases h with h | h; exact h; have h' : V.heap.size ≤ b := h; constructor <;> omega); have h3l := congrArg List.length hq3; simp only [List.take_zero, List.nil_append, List.append_nil, Nat.zero_add, List.length_drop] at h3l; have H3l := hid h3l; have HQ3 := hid hq3; have H3 := hid (And.intro hF3 (And.intro hx3 (And.intro hn3 (And.intro hgt3 hB3)))); have hlen3 : T3.all.length ≤ 2000 := (by have := Hl1.out; omega); obtain ⟨len3, hlen3e⟩ : ∃ len3, len3 = T3.all.length := ⟨_, rfl⟩; have HL3 := hid (fun W h1 h2 => tlen_any (S := fun b => b ≠ gt ∧ b ≠ (U.heap.size + 1)) T3 p3 gt ck W h1 h2); rw [← hlen3e] at HL3; obtain ⟨i3, hi3⟩ : ∃ i3 : Nat, at_ % ((len3 : Int) + 1) = i3 := ⟨(at_ % ((len3 : Int) + 1)).toNat, by have := Int.emod_nonneg at_ (show ((len3 : Int) + 1) ≠ 0 by omega); omega⟩; have hi3l : i3 ≤ len3 := (by have := Int.emod_lt_of_pos at_ (show (0 : Int) < (len3 : Int) + 1 by omega); omega); have HW3 := hid (fun W => within_any at_ (len3 + 1) (by omega) (by omega) W); rw [hi3] at HW3; have Hlen3 := hid hlen3e; have hl3b : len3 ≤ 2000 := (by omega); clear hlen3e hT3 h3l hq3 hF3 hx3 hn3 hi3 hB3; dsimp only)) | (go_at_call 22; go_must ((with_reducible refine Calls.mono (HL3.out _ (by first | exact H3.out.2.2.2.1 | exact H3.out.2.2.2.1.alloc _) (by first | exact hT3'.out | exact hT3'.out.keep (Same.alloc _ _ _))) ?_); rintro _ _ ⟨rfl, rfl⟩; dsimp only)) | (go_at_call 23; go_must ((with_reducible refine Calls.mono (HW3.out _) ?_); rintro _ _ ⟨rfl, rfl⟩; dsimp only)) | (go_at_call 20; go_must ((with_reducible refine Calls.mono (two_insert T3 p3 gt ck i3 _ e' V3 H3.out.2.2.2.1 hT3'.out (by omega) (by rw [← Hlen3.out]; exact hi3l) hck2.1 hck2.2 H3.out.2.2.1.lt) ?_); rintro _ V5 ⟨p5', T5', rfl, hT5', hgt5', hl5', hB5'⟩; have hkk5 : KeepT (fun b => b ≠ gt) _ V5 := ⟨hB5'.size, fun b hl hb => hB5'.block b hl hb⟩; have hn5 := hB5'.blk (H3.out.2.2.1.alloc _) tn; have n5 := hn5.cell 0; have nf5 := hn5.frozen 0; simp at n5; have HB5 := hid hB5'; have Hl5 := hid hl5'; clear hB5' hl5'; dsimp only)) | ((with_reducible refine regionIn_ff ?_); refine wpIn_region_r rfl ?_) | (with_reducible refine Keep.last ?_) | (with_reducible refine Keep.below (by assumption) ?_) | (with_reducible refine Keep.kept (by assumption) ?_) | (with_reducible refine Keep.alloc ?_) | (with_reducible refine Keep.same ?_) | ((with_reducible refine WpH.here ?_); first | (refine WpH.nil ?_; refine NoP.normal ?_) | (refine WpH.load (by rfl) (by rfl) (by go_simp; rfl) ?_; simp only [Act.put, List.setIfInBounds_toArray, List.set_cons_zero, List.set_cons_succ]) | (refine WpH.loadT (by rfl) (by rfl) (by go_simp; rfl) (by rintro _ _ ⟨⟩; exact ⟨_, _, _, _, _, _, by rfl, by assumption, by assumption⟩) ?_; simp only [Act.put, List.setIfInBounds_toArray, List.set_cons_zero, List.set_cons_succ]) | (refine WpH.pure (by rfl) (fun w_ => by go_simp; (try go_bits); rfl) ?_; simp only [Act.put, List.setIfInBounds_toArray, List.set_cons_zero, List.set_cons_succ]) | (refine WpH.wild1 (by rfl) (fun _ _ => ?_)) | (refine WpH.skip (by rfl) ?_; simp only [Act.put, List.setIfInBounds_toArray, List.set_cons_zero, List.set_cons_succ])) | ((with_reducible refine WpO.here ?_); first | (refine WpO.done ?_; first | refine NoP.normal ?_ | refine NoO.normal ?_) | (refine WpO.load (by rfl) (by rfl) (by go_simp; rfl) ?_; simp only [Act.put, List.setIfInBounds_toArray, List.set_cons_zero, List.set_cons_succ]) | (refine WpO.loadT (by rfl) (by rfl) (by go_simp; rfl) (by rintro _ _ ⟨⟩; exact ⟨_, _, _, _, _, _, by rfl, by assumption, by assumption⟩) ?_; simp only [Act.put, List.setIfInBounds_toArray, List.set_cons_zero, List.set_cons_succ]) | (refine WpO.pure (by rfl) (fun w_ => by go_simp; (try go_bits); rfl) ?_; simp only [Act.put, List.setIfInBounds_toArray, List.set_cons_zero, List.set_cons_succ]) | (refine WpO.skip (by rfl) ?_; simp only [Act.put, List.setIfInBounds_toArray, List.set_cons_zero, List.set_cons_succ]) | refine WpO.wild ?_ | refine WpO.two ?_ ?_ | refine WpO.three ?_ ?_ ?_) | ((with_reducible refine wildO.here ?_); first | (refine wildO.go (by rfl) (fun _ _ => ?_)) | (refine wildO.skip (by rfl) ?_; simp only [Act.put, List.setIfInBounds_toArray, List.set_cons_zero, List.set_cons_succ])) | go_values | go_skip | go_guarded | go_step | go_upon | go_back | (with_reducible refine NoO.normal ?_) | gi_step | gi_upon)
      all_goals
        have ea : Below V3.heap.size V3 (V3.alloc (.cells #[.int .i64 e'.epoch, .int .i64 e'.rep, .int .i64 e'.num, .int .i32 e'.char, .int .i64 e'.hides, .int .i64 e'.epoch, .int .i64 e'.rep, .int .i64 e'.num, .int .i32 e'.char, .int .i64 e'.hides] 36)) := (Below.refl _ _).alloc (Nat.le_refl _) _
        have d1 : But2 gt ((U.heap.size + 1)) V V5 := (((But2.of_below (Below.refl _ _).drew).trans (But2.of_but H3.out.2.2.2.2)).trans (But2.of_below ea)).trans (But2.of_but HB5.out)
        have d2 := d1.trans (But2.setY (x := gt) (y := (U.heap.size + 1)) V5 (.int .i64 ((m : Int) + 1)))
        have hpre : (pre ++ [(e', m)]).length = m + 1 := by rw [List.length_append, Hm.out]; rfl
        have hl5 := Hl5.out
        have hl3 := H3l.out
        have hl1 := Hl1.out
        refine ⟨HK0.out.1.trans (d2.keepN HT1.out.1 Hn.out), HK0.out.2.trans (d2.kpT htZ2.lt hnZ2.lt (fun h => h.1 rfl) (fun h => h.2 rfl)), ?_⟩
        show RI Z2 _ gt ((U.heap.size + 1)) ck (pre ++ [(e', m)]).length (T1.all.length + (pre ++ [(e', m)]).length)
        rw [hpre]
        exact ⟨hbutV.trans d2, by simpa using hn5.set_ 0 (.int .i64 ((m : Int) + 1)), p5', T5', hgt5'.far (Ne.symm tn) _, hT5'.keep (Same.setCell (S := fun b => b ≠ gt ∧ b ≠ (U.heap.size + 1)) V5 (fun h => h.2 rfl) _), by omega⟩
    case done2 =>
      rintro xs W rfl hI
      rw [List.length_zipIdx] at hI
      exact ⟨_, hI⟩
    case end2 =>
      rintro D2 W hD ⟨len1, hI⟩ hK
      have hkW := hI.but.blk hkV (hkV.ne htV (by decide)) (by omega)
      have hwW := hI.but.blk hwV (hwV.ne htV (by decide)) (by omega)
      have kW := hkW.cell 0
      have nW := hI.n.cell 0
      have wW := hwW.cell 0
      simp at kW nW wW
      have hkl := hkW.lt
      have HI := hid hI
      have HD := hid hD
      have HK := hid hK
      clear hI hD hK
      repeat' (first | (with_reducible refine roundsW_at ?_) | (with_reducible refine Keep.last ?_) | (with_reducible refine Keep.below (by assumption) ?_) | (with_reducible refine Keep.kept (by assumption) ?_) | (with_reducible refine Keep.alloc ?_) | (with_reducible refine Keep.same ?_) | ((with_reducible refine WpH.here ?_); first | (refine WpH.nil ?_; refine NoP.normal ?_) | (refine WpH.load (by rfl) (by rfl) (by go_simp; rfl) ?_; simp only [Act.put, List.setIfInBounds_toArray, List.set_cons_zero, List.set_cons_succ]) | (refine WpH.loadT (by rfl) (by rfl) (by go_simp; rfl) (by rintro _ _ ⟨⟩; exact ⟨_, _, _, _, _, _, by rfl, by assumption, by assumption⟩) ?_; simp only [Act.put, List.setIfInBounds_toArray, List.set_cons_zero, List.set_cons_succ]) | (refine WpH.pure (by rfl) (fun w_ => by go_simp; (try go_bits); rfl) ?_; simp only [Act.put, List.setIfInBounds_toArray, List.set_cons_zero, List.set_cons_succ]) | (refine WpH.wild1 (by rfl) (fun _ _ => ?_)) | (refine WpH.skip (by rfl) ?_; simp only [Act.put, List.setIfInBounds_toArray, List.set_cons_zero, List.set_cons_succ])) | ((with_reducible refine WpO.here ?_); first | (refine WpO.done ?_; first | refine NoP.normal ?_ | refine NoO.normal ?_) | (refine WpO.load (by rfl) (by rfl) (by go_simp; rfl) ?_; simp only [Act.put, List.setIfInBounds_toArray, List.set_cons_zero, List.set_cons_succ]) | (refine WpO.loadT (by rfl) (by rfl) (by go_simp; rfl) (by rintro _ _ ⟨⟩; exact ⟨_, _, _, _, _, _, by rfl, by assumption, by assumption⟩) ?_; simp only [Act.put, List.setIfInBounds_toArray, List.set_cons_zero, List.set_cons_succ]) | (refine WpO.pure (by rfl) (fun w_ => by go_simp; (try go_bits); rfl) ?_; simp only [Act.put, List.setIfInBounds_toArray, List.set_cons_zero, List.set_cons_succ]) | (refine WpO.skip (by rfl) ?_; simp only [Act.put, List.setIfInBounds_toArray, List.set_cons_zero, List.set_cons_succ]) | refine WpO.wild ?_ | refine WpO.two ?_ ?_ | refine WpO.three ?_ ?_ ?_) | ((with_reducible refine wildO.here ?_); first | (refine wildO.go (by rfl) (fun _ _ => ?_)) | (refine wildO.skip (by rfl) ?_; simp only [Act.put, List.setIfInBounds_toArray, List.set_cons_zero, List.set_cons_succ])) | go_values | go_skip | go_guarded | go_step | go_upon | go_back)
      refine Stop.go ?_
      refine roundsW_next ?_
      have hFW := hFV.but2 HI.out.but htV hnV
      have hDW : W.heap[D]? = some (.deferred (some [])) := by
        refine (HI.out.but.block D (lt_of_heap HKV.out) (fun e => ?_) (fun e => ?_)).trans HKV.out
        · subst e; have h1 := HKV.out; unfold Blk at htV; rw [htV] at h1; cases h1
        · subst e; have h1 := HKV.out; unfold Blk at hnV; rw [hnV] at h1; cases h1
      have HDW := hid hDW
      have bW2 : Below w.heap.size w W := HI.out.but.below bV (Nat.le_refl _) hwg (by have := bU.size; omega)
      clear hDW
      repeat' (first | (go_at_call 25; go_must ((with_reducible refine Calls.mono (wakes4_any _) ?_); rintro _ W8 ⟨rfl, hb8⟩; have hO8 := (hFW.o.alloc (.cells #[.int .i64 2] 3)).step hb8; have o8 := hO8.cell 0; have f8 := hO8.frozen 0; simp at o8; have ol8 := hO8.lt; dsimp only)) | (with_reducible refine Keep.last ?_) | (with_reducible refine Keep.below (by assumption) ?_) | (with_reducible refine Keep.kept (by assumption) ?_) | (with_reducible refine Keep.alloc ?_) | (with_reducible refine Keep.same ?_) | ((with_reducible refine WpH.here ?_); first | (refine WpH.nil ?_; refine NoP.normal ?_) | (refine WpH.load (by rfl) (by rfl) (by go_simp; rfl) ?_; simp only [Act.put, List.setIfInBounds_toArray, List.set_cons_zero, List.set_cons_succ]) | (refine WpH.loadT (by rfl) (by rfl) (by go_simp; rfl) (by rintro _ _ ⟨⟩; exact ⟨_, _, _, _, _, _, by rfl, by assumption, by assumption⟩) ?_; simp only [Act.put, List.setIfInBounds_toArray, List.set_cons_zero, List.set_cons_succ]) | (refine WpH.pure (by rfl) (fun w_ => by go_simp; (try go_bits); rfl) ?_; simp only [Act.put, List.setIfInBounds_toArray, List.set_cons_zero, List.set_cons_succ]) | (refine WpH.wild1 (by rfl) (fun _ _ => ?_)) | (refine WpH.skip (by rfl) ?_; simp only [Act.put, List.setIfInBounds_toArray, List.set_cons_zero, List.set_cons_succ])) | ((with_reducible refine WpO.here ?_); first | (refine WpO.done ?_; first | refine NoP.normal ?_ | refine NoO.normal ?_) | (refine WpO.load (by rfl) (by rfl) (by go_simp; rfl) ?_; simp only [Act.put, List.setIfInBounds_toArray, List.set_cons_zero, List.set_cons_succ]) | (refine WpO.loadT (by rfl) (by rfl) (by go_simp; rfl) (by rintro _ _ ⟨⟩; exact ⟨_, _, _, _, _, _, by rfl, by assumption, by assumption⟩) ?_; simp only [Act.put, List.setIfInBounds_toArray, List.set_cons_zero, List.set_cons_succ]) | (refine WpO.pure (by rfl) (fun w_ => by go_simp; (try go_bits); rfl) ?_; simp only [Act.put, List.setIfInBounds_toArray, List.set_cons_zero, List.set_cons_succ]) | (refine WpO.skip (by rfl) ?_; simp only [Act.put, List.setIfInBounds_toArray, List.set_cons_zero, List.set_cons_succ]) | refine WpO.wild ?_ | refine WpO.two ?_ ?_ | refine WpO.three ?_ ?_ ?_) | ((with_reducible refine wildO.here ?_); first | (refine wildO.go (by rfl) (fun _ _ => ?_)) | (refine wildO.skip (by rfl) ?_; simp only [Act.put, List.setIfInBounds_toArray, List.set_cons_zero, List.set_cons_succ])) | go_values | go_skip | go_guarded | go_step | go_upon | go_back)
      have eX : Below W.heap.size W (W.alloc (.cells #[.int .i64 2] 3)) := (Below.refl _ _).alloc (Nat.le_refl _) _
      have e8 : Below W.heap.size W W8 := eX.trans (hb8.mono eX.size)
      have k1 : (W8.setCell ⟨w.heap.size + 1, 0, none⟩ (.bool true)).heap[D2]? = some (.deferred (some [])) := (Below.heap_setCell _ _ _ _ (fun e => by have h1 := HK.out; have e' : D2 = w.heap.size + 1 := e; rw [e'] at h1; have h2 := hFW.o; unfold Blk at h2; rw [h2] at h1; cases h1)).trans ((e8.block D2 (lt_of_heap HK.out)).trans HK.out)
      have k2 : (W8.setCell ⟨w.heap.size + 1, 0, none⟩ (.bool true)).heap[D]? = some (.deferred (some [])) := (Below.heap_setCell _ _ _ _ (fun e => by have h1 := HDW.out; have e' : D = w.heap.size + 1 := e; rw [e'] at h1; have h2 := hFW.o; unfold Blk at h2; rw [h2] at h1; cases h1)).trans ((e8.block D (lt_of_heap HDW.out)).trans HDW.out)
      have hO9 := hO8.set_ 0 (.bool true)
      have n1 : w.heap.size + 1 ≠ D2 := fun e => by have h1 := HK.out; rw [← e] at h1; have h2 := hFW.o; unfold Blk at h2; rw [h2] at h1; cases h1
      have n2 : w.heap.size + 1 ≠ D := fun e => by have h1 := HDW.out; rw [← e] at h1; have h2 := hFW.o; unfold Blk at h2; rw [h2] at h1; cases h1
      refine leaves2 (v := .bool true) k1 k2 (by have h1 := lt_of_heap HKV.out; have h2 := HD.out; omega) ?_ ⟨rfl, ?_⟩
      · rintro w' rfl
        have c9 : ((((W8.setCell ⟨w.heap.size + 1, 0, none⟩ (.bool true)).putObj D2 (.deferred none)).putObj D (.deferred none)).cell? ⟨w.heap.size + 1, 0, none⟩) = some (.bool true) :=
          (World.cell?_of_block ((World.putObj_heap_other n2).trans (World.putObj_heap_other n1))).trans (hO9.cell 0)
        simp [results, Tryd.results3, go_sem, c9]
      · have bw8 := bW2.trans (e8.mono bW2.size)
        have hz := b1s
        have q1 := (bw8.setCell (p := ⟨w.heap.size + 1, 0, none⟩) (Nat.le_succ _) (.bool true))
        exact ⟨q1.os, q1.tape, q1.output, by simpa using q1.size, fun k hk => ((World.putObj_heap_other (by have := HKV.out; have := HD.out; have := hDge; omega)).trans (World.putObj_heap_other (by have := HD.out; have := bV.size; omega))).trans (q1.block k hk)⟩
set_option maxRecDepth 200000 in
set_option maxHeartbeats 8000000 in
theorem range_long (chunk stop at_ : Int) (A : Option Addr) (nz c : Nat) (ls0 : List El) (SB : Nat → Prop) (w : World) (hr0 : Row w SB A nz c ls0) (hn0 : 200 < nz) :
    Calls Tryd.prog 3 #[.agg #[.int .i64 chunk, .int .i64 stop, .int .i64 at_, .slice A nz c]] w fun e w' => e = .returned (.bool true) ∧ Below w.heap.size w w' := by
  have j1 : (nz : Int) > 200 := by omega
  have hr := hr0.take_ (k := 200) (by omega)
  have hcc := hr0.2.1
  clear hr0
  have HG := hid (fun W => begun_any chunk W)
  obtain ⟨ck, hck⟩ : ∃ ck, ck = 2 + (chunk % 63).toNat := ⟨_, rfl⟩
  have hck2 : 2 ≤ ck ∧ ck ≤ 64 := by
    have h1 := Int.emod_nonneg chunk (show (63 : Int) ≠ 0 by decide)
    have h2 := Int.emod_lt_of_pos chunk (show (0 : Int) < 63 by decide)
    omega
  rw [← hck] at HG
  clear hck
  have b1 : Below w.heap.size w (w.alloc (.cells #[.int .i64 chunk, .int .i64 stop, .int .i64 at_, .slice A nz c] 24)) := (Below.refl _ _).alloc (Nat.le_refl _) _
  have s1 : (w.alloc (.cells #[.int .i64 chunk, .int .i64 stop, .int .i64 at_, .slice A nz c] 24)).heap.size = w.heap.size + 1 := Array.size_push _
  have b2 := b1.alloc (by omega) (.cells #[.bool false] 4)
  have hz2 := (Blk.new w 24 #[.int .i64 chunk, .int .i64 stop, .int .i64 at_, .slice A nz c]).alloc (.cells #[.bool false] 4)
  have ho2 := Blk.new (w.alloc (.cells #[.int .i64 chunk, .int .i64 stop, .int .i64 at_, .slice A nz c] 24)) 4 #[.bool false]
  rw [s1] at ho2
  have b2s := b2.size
  have b1s := Nat.le_refl w.heap.size
  have hr2 := (hr.more (S' := fun b => b < w.heap.size) fun b h _ => h).step b2
  clear b1 hr
  refine calls_of_marks Tryd.func3 rfl ?_
  simp only [Tryd.ntmps3, List.size_toArray, List.length_cons, List.length_nil, Nat.reduceAdd, Nat.reduceSub, Array.replicate_succ, Array.replicate_zero, List.push_toArray, List.append_toArray, List.nil_append, List.cons_append]
  repeat' (first | (go_at_call 19; go_must ((with_reducible refine Calls.mono (HG.out _) ?_); rintro _ w1 ⟨g, gt, rfl, hgt, hg, hne, hbt, hbg, hb1⟩; have hz1 := hz2.step hb1; have z3 := hz1.cell 3; simp at z3; have hzl := hz1.lt; dsimp only)) | (with_reducible refine stop_region 7 ?_) | (with_reducible refine Keep.last ?_) | (with_reducible refine Keep.below (by assumption) ?_) | (with_reducible refine Keep.kept (by assumption) ?_) | (with_reducible refine Keep.alloc ?_) | (with_reducible refine Keep.same ?_) | ((with_reducible refine WpH.here ?_); first | (refine WpH.nil ?_; refine NoP.normal ?_) | (refine WpH.load (by rfl) (by rfl) (by go_simp; rfl) ?_; simp only [Act.put, List.setIfInBounds_toArray, List.set_cons_zero, List.set_cons_succ]) | (refine WpH.loadT (by rfl) (by rfl) (by go_simp; rfl) (by rintro _ _ ⟨⟩; exact ⟨_, _, _, _, _, _, by rfl, by assumption, by assumption⟩) ?_; simp only [Act.put, List.setIfInBounds_toArray, List.set_cons_zero, List.set_cons_succ]) | (refine WpH.pure (by rfl) (fun w_ => by go_simp; (try go_bits); rfl) ?_; simp only [Act.put, List.setIfInBounds_toArray, List.set_cons_zero, List.set_cons_succ]) | (refine WpH.wild1 (by rfl) (fun _ _ => ?_)) | (refine WpH.skip (by rfl) ?_; simp only [Act.put, List.setIfInBounds_toArray, List.set_cons_zero, List.set_cons_succ])) | ((with_reducible refine WpO.here ?_); first | (refine WpO.done ?_; first | refine NoP.normal ?_ | refine NoO.normal ?_) | (refine WpO.load (by rfl) (by rfl) (by go_simp; rfl) ?_; simp only [Act.put, List.setIfInBounds_toArray, List.set_cons_zero, List.set_cons_succ]) | (refine WpO.loadT (by rfl) (by rfl) (by go_simp; rfl) (by rintro _ _ ⟨⟩; exact ⟨_, _, _, _, _, _, by rfl, by assumption, by assumption⟩) ?_; simp only [Act.put, List.setIfInBounds_toArray, List.set_cons_zero, List.set_cons_succ]) | (refine WpO.pure (by rfl) (fun w_ => by go_simp; (try go_bits); rfl) ?_; simp only [Act.put, List.setIfInBounds_toArray, List.set_cons_zero, List.set_cons_succ]) | (refine WpO.skip (by rfl) ?_; simp only [Act.put, List.setIfInBounds_toArray, List.set_cons_zero, List.set_cons_succ]) | refine WpO.wild ?_ | refine WpO.two ?_ ?_ | refine WpO.three ?_ ?_ ?_) | ((with_reducible refine wildO.here ?_); first | (refine wildO.go (by rfl) (fun _ _ => ?_)) | (refine wildO.skip (by rfl) ?_; simp only [Act.put, List.setIfInBounds_toArray, List.set_cons_zero, List.set_cons_succ])) | go_values | go_skip | go_guarded | go_step | go_upon | go_back)
  refine Stop.go ?_
  (generalize hM : (200 : Nat) = n at hr2 ⊢; have hn : n ≤ 200 := (by omega); clear hM; generalize ls0.take n = ls at hr2)
  have sz1 := hb1.size
  have b3 := b2.trans (hb1.mono b2.size)
  have b4 := b3.alloc b3.size (.cells #[.pointer (some ⟨g, 0, none⟩)] 25)
  have s4 : (w1.alloc (.cells #[.pointer (some ⟨g, 0, none⟩)] 25)).heap.size = w1.heap.size + 1 := Array.size_push _
  have b5 := b4.alloc b4.size (.cells #[.slice A n c] 22)
  have e5 : Below w1.heap.size w1 ((w1.alloc (.cells #[.pointer (some ⟨g, 0, none⟩)] 25)).alloc (.cells #[.slice A n c] 22)) := ((Below.refl _ _).alloc (Nat.le_refl _) _).alloc (by omega) _
  have hp5 := (Blk.new w1 25 #[.pointer (some ⟨g, 0, none⟩)]).alloc (.cells #[.slice A n c] 22)
  have hl5 := Blk.new (w1.alloc (.cells #[.pointer (some ⟨g, 0, none⟩)] 25)) 22 #[.slice A n c]
  rw [s4] at hl5
  generalize (w1.alloc (.cells #[.pointer (some ⟨g, 0, none⟩)] 25)).alloc (.cells #[.slice A n c] 22) = X at *
  have hz5 := hz1.step e5
  have ho5 := (ho2.step hb1).step e5
  have hg5 := hbg.step e5
  have hbt5 := hbt.step e5
  have hr5 := (hr2.step hb1).step e5
  have HI := hid (fill_tree X.drew gt ck hck2.1 hck2.2 hbt5.drew A n c ls _ hr5.drew (by omega))
  have p0 := hp5.cell 0
  have l0 := hl5.cell 0
  have g0 := hg5.cell 0
  simp at p0 l0 g0
  have hgtl := hbt5.lt
  have ht5l := hbt5.lt
  have hgl := hg5.lt
  clear hz1 ho2 hbg hbt hr2 hz2 z3 e5 b2 b3 b4 hb1 s4
  generalize w1.heap.size = pb at *
  have t1 : pb ≠ gt := hp5.ne hbt5 (by decide)
  have t2 : pb + 1 ≠ gt := hl5.ne hbt5 (by decide)
  have t3 : g ≠ gt := Ne.symm hne
  have q1 : X.drew.heap[pb]? = some (.cells #[.pointer (some ⟨g, 0, none⟩)] 25 (0, 0)) := hp5
  have q2 : X.drew.heap[pb + 1]? = some (.cells #[.slice A n c] 22 (0, 0)) := hl5
  have q3 : X.drew.heap[g]? = some (.cells #[.pointer (some ⟨gt, 0, none⟩), .slice none 0 0, .int .i64 (ck : Nat)] 31 (0, 0)) := hg5
  repeat' (first | ((with_reducible refine region_at 7 ?_); refine wp_region_orderT (fun b => b ≠ gt) [(0, true, false), (1, true, false), (2, true, false), (3, true, false), (4, true, false), (5, false, false), (6, true, false)] (by kernel_rfl) (by kernel_rfl) (by kernel_rfl) rfl rfl ?_) | (go_at_call 20; go_must ((with_reducible refine Calls.mono HI.out ?_); rintro _ W5 ⟨p5, T5, rfl, hT5, hbt6, hall5, hB5⟩; have hg6 := hB5.blk hg5.drew (Ne.symm hne); have hp6 := hB5.blk hp5.drew (hp5.ne hbt5 (by decide)); have p6 := hp6.cell 0; have g6 := hg6.cell 0; simp at p6 g6; have hT5' := hid hT5; have Hall := hid hall5; clear hT5 hall5; have hk5 : KeepT (fun b => b ≠ gt) X.drew W5 := ⟨hB5.size, fun b hl hb => hB5.block b hl hb⟩; dsimp only)) | (go_at_call 21; go_must ((with_reducible refine Calls.mono (all_any gt _) ?_); rintro _ _ ⟨rfl, rfl⟩; dsimp only)) | (with_reducible refine stop_loop ?_) | (with_reducible refine Keep.last ?_) | (with_reducible refine Keep.below (by assumption) ?_) | (with_reducible refine Keep.kept (by assumption) ?_) | (with_reducible refine Keep.alloc ?_) | (with_reducible refine Keep.same ?_) | ((with_reducible refine WpH.here ?_); first | (refine WpH.nil ?_; refine NoP.normal ?_) | (refine WpH.load (by rfl) (by rfl) (by go_simp; rfl) ?_; simp only [Act.put, List.setIfInBounds_toArray, List.set_cons_zero, List.set_cons_succ]) | (refine WpH.loadT (by rfl) (by rfl) (by go_simp; rfl) (by rintro _ _ ⟨⟩; exact ⟨_, _, _, _, _, _, by rfl, by assumption, by assumption⟩) ?_; simp only [Act.put, List.setIfInBounds_toArray, List.set_cons_zero, List.set_cons_succ]) | (refine WpH.pure (by rfl) (fun w_ => by go_simp; (try go_bits); rfl) ?_; simp only [Act.put, List.setIfInBounds_toArray, List.set_cons_zero, List.set_cons_succ]) | (refine WpH.wild1 (by rfl) (fun _ _ => ?_)) | (refine WpH.skip (by rfl) ?_; simp only [Act.put, List.setIfInBounds_toArray, List.set_cons_zero, List.set_cons_succ])) | ((with_reducible refine WpO.here ?_); first | (refine WpO.done ?_; first | refine NoP.normal ?_ | refine NoO.normal ?_) | (refine WpO.load (by rfl) (by rfl) (by go_simp; rfl) ?_; simp only [Act.put, List.setIfInBounds_toArray, List.set_cons_zero, List.set_cons_succ]) | (refine WpO.loadT (by rfl) (by rfl) (by go_simp; rfl) (by rintro _ _ ⟨⟩; exact ⟨_, _, _, _, _, _, by rfl, by assumption, by assumption⟩) ?_; simp only [Act.put, List.setIfInBounds_toArray, List.set_cons_zero, List.set_cons_succ]) | (refine WpO.pure (by rfl) (fun w_ => by go_simp; (try go_bits); rfl) ?_; simp only [Act.put, List.setIfInBounds_toArray, List.set_cons_zero, List.set_cons_succ]) | (refine WpO.skip (by rfl) ?_; simp only [Act.put, List.setIfInBounds_toArray, List.set_cons_zero, List.set_cons_succ]) | refine WpO.wild ?_ | refine WpO.two ?_ ?_ | refine WpO.three ?_ ?_ ?_) | ((with_reducible refine wildO.here ?_); first | (refine wildO.go (by rfl) (fun _ _ => ?_)) | (refine wildO.skip (by rfl) ?_; simp only [Act.put, List.setIfInBounds_toArray, List.set_cons_zero, List.set_cons_succ])) | go_values | go_skip | go_guarded | go_step | go_upon | go_back)
  refine Stop.go ?_
  have b6 := hB5.below_new (w' := W5) (b5.drew) (Nat.le_trans b2s hgt)
  have e6 : Below W5.heap.size W5 (W5.alloc (.cells #[.pointer (some ⟨gt, 0, none⟩)] 29)) := (Below.refl _ _).alloc (Nat.le_refl _) _
  have s6 : (W5.alloc (.cells #[.pointer (some ⟨gt, 0, none⟩)] 29)).heap.size = W5.heap.size + 1 := Array.size_push _
  have e7 := e6.alloc (by omega) (.cells #[.int .i64 0] 3)
  have ha7 := (Blk.new W5 29 #[.pointer (some ⟨gt, 0, none⟩)]).alloc (.cells #[.int .i64 0] 3)
  have hk7 := Blk.new (W5.alloc (.cells #[.pointer (some ⟨gt, 0, none⟩)] 29)) 3 #[.int .i64 0]
  rw [s6] at hk7
  generalize (W5.alloc (.cells #[.pointer (some ⟨gt, 0, none⟩)] 29)).alloc (.cells #[.int .i64 0] 3) = Y at *
  have hF7 : RFix Y chunk stop at_ A nz n c w.heap.size (w.heap.size + 1) pb (pb + 1) g gt W5.heap.size ck :=
    ⟨(hB5.blk hz5.drew (hz5.ne hbt5 (by decide))).step e7, (hB5.blk ho5.drew (ho5.ne hbt5 (by decide))).step e7, hp6.step e7, (hB5.blk hl5.drew (hl5.ne hbt5 (by decide))).step e7, hg6.step e7, ha7⟩
  have b7 := b6.trans (e7.mono b6.size)
  have hT7 := (hT5'.out).step e7
  have ht7 := hbt6.step e7
  have hr7 : Row Y (fun b => b < w.heap.size) A n c ls := hr5.keep (S := fun b => b < w.heap.size) (fun b hb hl => (e7.block b (Nat.lt_of_lt_of_le hl hB5.size)).trans (hB5.block b hl (fun e => by subst e; have := Nat.le_trans b2s hgt; omega)))
  have HL := hid (tlen_any T5 p5 gt ck Y ht7 hT7)
  have p7 := hF7.p.cell 0
  have g7 := hF7.g.cell 0
  have k7 := hk7.cell 0
  simp at p7 g7 k7
  have hpl := hF7.p.lt
  have hgl7 := hF7.g.lt
  refine wp_loop_rounds 3 (roundsW_next ?_)
  repeat' (first | (go_at_call 22; go_must ((with_reducible refine Calls.mono HL.out ?_); rintro _ _ ⟨rfl, rfl⟩; dsimp only)) | (with_reducible refine stop_block 2 ?_) | (with_reducible refine Keep.last ?_) | (with_reducible refine Keep.below (by assumption) ?_) | (with_reducible refine Keep.kept (by assumption) ?_) | (with_reducible refine Keep.alloc ?_) | (with_reducible refine Keep.same ?_) | ((with_reducible refine WpH.here ?_); first | (refine WpH.nil ?_; refine NoP.normal ?_) | (refine WpH.load (by rfl) (by rfl) (by go_simp; rfl) ?_; simp only [Act.put, List.setIfInBounds_toArray, List.set_cons_zero, List.set_cons_succ]) | (refine WpH.loadT (by rfl) (by rfl) (by go_simp; rfl) (by rintro _ _ ⟨⟩; exact ⟨_, _, _, _, _, _, by rfl, by assumption, by assumption⟩) ?_; simp only [Act.put, List.setIfInBounds_toArray, List.set_cons_zero, List.set_cons_succ]) | (refine WpH.pure (by rfl) (fun w_ => by go_simp; (try go_bits); rfl) ?_; simp only [Act.put, List.setIfInBounds_toArray, List.set_cons_zero, List.set_cons_succ]) | (refine WpH.wild1 (by rfl) (fun _ _ => ?_)) | (refine WpH.skip (by rfl) ?_; simp only [Act.put, List.setIfInBounds_toArray, List.set_cons_zero, List.set_cons_succ])) | ((with_reducible refine WpO.here ?_); first | (refine WpO.done ?_; first | refine NoP.normal ?_ | refine NoO.normal ?_) | (refine WpO.load (by rfl) (by rfl) (by go_simp; rfl) ?_; simp only [Act.put, List.setIfInBounds_toArray, List.set_cons_zero, List.set_cons_succ]) | (refine WpO.loadT (by rfl) (by rfl) (by go_simp; rfl) (by rintro _ _ ⟨⟩; exact ⟨_, _, _, _, _, _, by rfl, by assumption, by assumption⟩) ?_; simp only [Act.put, List.setIfInBounds_toArray, List.set_cons_zero, List.set_cons_succ]) | (refine WpO.pure (by rfl) (fun w_ => by go_simp; (try go_bits); rfl) ?_; simp only [Act.put, List.setIfInBounds_toArray, List.set_cons_zero, List.set_cons_succ]) | (refine WpO.skip (by rfl) ?_; simp only [Act.put, List.setIfInBounds_toArray, List.set_cons_zero, List.set_cons_succ]) | refine WpO.wild ?_ | refine WpO.two ?_ ?_ | refine WpO.three ?_ ?_ ?_) | ((with_reducible refine wildO.here ?_); first | (refine wildO.go (by rfl) (fun _ _ => ?_)) | (refine wildO.skip (by rfl) ?_; simp only [Act.put, List.setIfInBounds_toArray, List.set_cons_zero, List.set_cons_succ])) | go_values | go_skip | go_guarded | go_step | go_upon | go_back)
  refine Stop.go ?_
  have eZ : Below Y.heap.size Y (Y.alloc (.cells #[.int .i64 T5.all.length] 3)) := (Below.refl _ _).alloc (Nat.le_refl _) _
  have sZ : (Y.alloc (.cells #[.int .i64 T5.all.length] 3)).heap.size = Y.heap.size + 1 := Array.size_push _
  have eZ2 := eZ.alloc (by omega) (.cells #[.int .i64 0] 3)
  have hwZ := (Blk.new Y 3 #[.int .i64 T5.all.length]).alloc (.cells #[.int .i64 0] 3)
  have hnZ := Blk.new (Y.alloc (.cells #[.int .i64 T5.all.length] 3)) 3 #[.int .i64 0]
  rw [sZ] at hnZ
  generalize (Y.alloc (.cells #[.int .i64 T5.all.length] 3)).alloc (.cells #[.int .i64 0] 3) = Z at *
  have htZ := ht7.step eZ2
  have hTZ := hT7.step eZ2
  have hTZ2 : IsTree Z (fun b => b ≠ gt ∧ b ≠ Y.heap.size + 1) T5 p5 := by
    refine ((hT7.more (S' := fun b => b < Y.heap.size ∧ b ≠ gt) fun b hl hb => ⟨hl, fun e => ?_⟩).step eZ2).more fun b _ h => ⟨h.2, by have := h.1; omega⟩
    subst e
    have := ht5l
    have hb' : X.heap.size ≤ b := hb
    omega
  have hFZ := hF7.step eZ2
  have hkZ := hk7.step eZ2
  have hrZ := hr7.step eZ2
  have bZ := b7.trans (eZ2.mono b7.size)
  have hne7 : gt ≠ Y.heap.size + 1 := fun e => by have := ht7.lt; omega
  have hlen : T5.all.length ≤ 200 := by rw [Hall.out]; have := hr7.1; omega
  refine wp_rangeFunc_block 3 (gf := 74) (lb := #[.pointer (some ⟨W5.heap.size, 0, none⟩)]) rfl (enters_fn Tryd.func74 (by kernel_rfl) rfl)
    (allSeq T5 p5 gt W5.heap.size ck (fun b => b ≠ gt ∧ b ≠ Y.heap.size + 1) Z hFZ.a htZ hTZ2 (by omega)) (fun h k => h.trans k) (fun W l o o' hl h hc => KpT.putObj W l o o' hl h hc) (fun _ => rfl)
    (fun pre W => RI Z W gt (Y.heap.size + 1) ck pre.length (T5.all.length + pre.length)) (fun W => ∃ cnt len, len ≤ 2 * T5.all.length ∧ RI Z W gt (Y.heap.size + 1) ck cnt len)
    (fun s A B h hT => h.turn htZ.lt hnZ.lt hT) (fun _ A B h hT => by obtain ⟨cnt, len, h2, h3⟩ := h; exact ⟨cnt, len, h2, h3.turn htZ.lt hnZ.lt hT⟩)
    ⟨But2.refl _ _ _, hnZ, p5, T5, htZ, hTZ2, rfl⟩ ?round ?done ?end_
  case round =>
    rintro l pre ⟨e, i⟩ W hl ⟨rc, hrc⟩ hI hG
    obtain ⟨hi, he, hlt⟩ := zipIdx_prefix hG
    simp only at hi he
    subst hi
    simp only [elNum, El.agg, putArgs2, List.setIfInBounds_toArray, List.set_cons_zero, List.set_cons_succ]
    repeat' (first | ((with_reducible refine regionIn_ff ?_); refine wpIn_region_r rfl ?_) | (with_reducible refine Keep.last ?_) | (with_reducible refine Keep.below (by assumption) ?_) | (with_reducible refine Keep.kept (by assumption) ?_) | (with_reducible refine Keep.alloc ?_) | (with_reducible refine Keep.same ?_) | ((with_reducible refine WpH.here ?_); first | (refine WpH.nil ?_; refine NoP.normal ?_) | (refine WpH.load (by rfl) (by rfl) (by go_simp; rfl) ?_; simp only [Act.put, List.setIfInBounds_toArray, List.set_cons_zero, List.set_cons_succ]) | (refine WpH.loadT (by rfl) (by rfl) (by go_simp; rfl) (by rintro _ _ ⟨⟩; exact ⟨_, _, _, _, _, _, by rfl, by assumption, by assumption⟩) ?_; simp only [Act.put, List.setIfInBounds_toArray, List.set_cons_zero, List.set_cons_succ]) | (refine WpH.pure (by rfl) (fun w_ => by go_simp; (try go_bits); rfl) ?_; simp only [Act.put, List.setIfInBounds_toArray, List.set_cons_zero, List.set_cons_succ]) | (refine WpH.wild1 (by rfl) (fun _ _ => ?_)) | (refine WpH.skip (by rfl) ?_; simp only [Act.put, List.setIfInBounds_toArray, List.set_cons_zero, List.set_cons_succ])) | ((with_reducible refine WpO.here ?_); first | (refine WpO.done ?_; first | refine NoP.normal ?_ | refine NoO.normal ?_) | (refine WpO.load (by rfl) (by rfl) (by go_simp; rfl) ?_; simp only [Act.put, List.setIfInBounds_toArray, List.set_cons_zero, List.set_cons_succ]) | (refine WpO.loadT (by rfl) (by rfl) (by go_simp; rfl) (by rintro _ _ ⟨⟩; exact ⟨_, _, _, _, _, _, by rfl, by assumption, by assumption⟩) ?_; simp only [Act.put, List.setIfInBounds_toArray, List.set_cons_zero, List.set_cons_succ]) | (refine WpO.pure (by rfl) (fun w_ => by go_simp; (try go_bits); rfl) ?_; simp only [Act.put, List.setIfInBounds_toArray, List.set_cons_zero, List.set_cons_succ]) | (refine WpO.skip (by rfl) ?_; simp only [Act.put, List.setIfInBounds_toArray, List.set_cons_zero, List.set_cons_succ]) | refine WpO.wild ?_ | refine WpO.two ?_ ?_ | refine WpO.three ?_ ?_ ?_) | ((with_reducible refine wildO.here ?_); first | (refine wildO.go (by rfl) (fun _ _ => ?_)) | (refine wildO.skip (by rfl) ?_; simp only [Act.put, List.setIfInBounds_toArray, List.set_cons_zero, List.set_cons_succ])) | go_values | go_skip | go_guarded | go_step | go_upon | go_back | (with_reducible refine NoO.normal ?_) | gi_step | gi_upon)
    have eW : Below W.heap.size W (W.alloc (.cells #[.int .i64 e.epoch, .int .i64 e.rep, .int .i64 e.num, .int .i32 e.char, .int .i64 e.hides] 36)) := (Below.refl _ _).alloc (Nat.le_refl _) _
    refine ⟨KeepN.of_below eW, KpT.of_below eW, fun W2 hB2 => ?_⟩
    obtain ⟨hbut, hn1, p1, T1, hg1, hT1, hl1⟩ := hI
    have but2 := (hbut.trans (But2.of_below eW)).begun hB2 hl
    have hn2 := hB2.blk (hn1.step eW)
    have hgt2 := hB2.blk (hg1.step eW)
    have hT2 := hB2.tree (hT1.step eW)
    have hx2 := hB2.blk (Blk.new W 36 #[.int .i64 e.epoch, .int .i64 e.rep, .int .i64 e.num, .int .i32 e.char, .int .i64 e.hides])
    have hF2 := hFZ.but2 but2 htZ hnZ
    have hk2 := but2.blk hkZ (hkZ.ne htZ (by decide)) (fun e => by have := hk7.lt; omega)
    have hw2 := but2.blk hwZ (hwZ.ne htZ (by decide)) (by omega)
    have hr2 : Row W2 (fun b => b < w.heap.size) A n c ls := hrZ.keep (S := fun b => b < w.heap.size) fun b hb hl => but2.block b hl (fun e => by subst e; have := Nat.le_trans b2s hgt; omega) (fun e => by have := b7.size; omega)
    have Hbut2 := hid but2
    have Hl1 := hid hl1
    clear hbut hn1 hg1 hT1 eW but2 hl1 hB2 hl hrc
    generalize W.heap.size = xb at *
    have hG' := hid hG
    clear hG
    generalize hm : pre.length = m at *
    have Hm := hid hm
    clear hm
    have He := hid he
    have hln : T5.all.length = n := by rw [Hall.out]; exact hr2.1
    have hmn : m < n := by omega
    obtain ⟨rb, off, e', rfl, hrb, he', c0, c1, c2, c3, c4⟩ := hr2.at_ hmn
    obtain rfl : e' = e := by rw [Hall.out] at he; exact Option.some.inj (he'.symm.trans he)
    have He' := hid he'
    have Hln := hid hln
    clear he he' hln
    have n0 := hn2.cell 0
    have w0 := hw2.cell 0
    have k0 := hk2.cell 0
    have l0' := hF2.l.cell 0
    have x0 := hx2.cell 0
    have x1 := hx2.cell 1
    have x2 := hx2.cell 2
    have x3 := hx2.cell 3
    have x4 := hx2.cell 4
    simp at n0 w0 k0 l0' x0 x1 x2 x3 x4
    have j2 : ¬ (m : Int) ≥ T5.all.length := by omega
    repeat' (first | ((with_reducible refine regionIn_at 20 ?_); refine wpIn_region_ordT (fun _ => True) rfl (.one 0 true false (.one 1 true false (.one 2 true false (.one 3 true false (.one 4 true false (.one 5 true false (.one 6 true false (.one 7 true false (.one 8 true false (.one 9 true false (.one 10 true false (.one 11 true false (.one 12 true false (.one 13 true false (.one 14 true false (.one 15 true false (.one 16 true false (.one 17 true false (.one 18 true false (.one 19 true false .nil)))))))))))))))))))) (by kernel_rfl) (by kernel_rfl) (by kernel_rfl) rfl rfl ?_) | (with_reducible refine stop_regionIn 22 ?_) | ((with_reducible refine regionIn_ff ?_); refine wpIn_region_r rfl ?_) | (with_reducible refine Keep.last ?_) | (with_reducible refine Keep.below (by assumption) ?_) | (with_reducible refine Keep.kept (by assumption) ?_) | (with_reducible refine Keep.alloc ?_) | (with_reducible refine Keep.same ?_) | ((with_reducible refine WpH.here ?_); first | (refine WpH.nil ?_; refine NoP.normal ?_) | (refine WpH.load (by rfl) (by rfl) (by go_simp; rfl) ?_; simp only [Act.put, List.setIfInBounds_toArray, List.set_cons_zero, List.set_cons_succ]) | (refine WpH.loadT (by rfl) (by rfl) (by go_simp; rfl) (by rintro _ _ ⟨⟩; exact ⟨_, _, _, _, _, _, by rfl, by assumption, by assumption⟩) ?_; simp only [Act.put, List.setIfInBounds_toArray, List.set_cons_zero, List.set_cons_succ]) | (refine WpH.pure (by rfl) (fun w_ => by go_simp; (try go_bits); rfl) ?_; simp only [Act.put, List.setIfInBounds_toArray, List.set_cons_zero, List.set_cons_succ]) | (refine WpH.wild1 (by rfl) (fun _ _ => ?_)) | (refine WpH.skip (by rfl) ?_; simp only [Act.put, List.setIfInBounds_toArray, List.set_cons_zero, List.set_cons_succ])) | ((with_reducible refine WpO.here ?_); first | (refine WpO.done ?_; first | refine NoP.normal ?_ | refine NoO.normal ?_) | (refine WpO.load (by rfl) (by rfl) (by go_simp; rfl) ?_; simp only [Act.put, List.setIfInBounds_toArray, List.set_cons_zero, List.set_cons_succ]) | (refine WpO.loadT (by rfl) (by rfl) (by go_simp; rfl) (by rintro _ _ ⟨⟩; exact ⟨_, _, _, _, _, _, by rfl, by assumption, by assumption⟩) ?_; simp only [Act.put, List.setIfInBounds_toArray, List.set_cons_zero, List.set_cons_succ]) | (refine WpO.pure (by rfl) (fun w_ => by go_simp; (try go_bits); rfl) ?_; simp only [Act.put, List.setIfInBounds_toArray, List.set_cons_zero, List.set_cons_succ]) | (refine WpO.skip (by rfl) ?_; simp only [Act.put, List.setIfInBounds_toArray, List.set_cons_zero, List.set_cons_succ]) | refine WpO.wild ?_ | refine WpO.two ?_ ?_ | refine WpO.three ?_ ?_ ?_) | ((with_reducible refine wildO.here ?_); first | (refine wildO.go (by rfl) (fun _ _ => ?_)) | (refine wildO.skip (by rfl) ?_; simp only [Act.put, List.setIfInBounds_toArray, List.set_cons_zero, List.set_cons_succ])) | go_values | go_skip | go_guarded | go_step | go_upon | go_back | (with_reducible refine NoO.normal ?_) | gi_step | gi_upon)
    refine Stop.go ?_
    have hgtV := hgt2.drew
    have hTV := hT2.drew
    have hFV := hF2.step (W' := W2.drew) (Below.refl _ _).drew
    have hbutV : But2 gt (Y.heap.size + 1) Z W2.drew := Hbut2.out.trans (But2.of_below (Below.refl _ _).drew)
    have hnV := hn2.drew
    have hxV := hx2.drew
    have k0V : W2.drew.cell? ⟨W5.heap.size + 1, 0, none⟩ = some (.int .i64 0) := k0
    have l0V : W2.drew.cell? ⟨pb + 1, 0, none⟩ = some (.slice (some ⟨rb, off, none⟩) n c) := l0'
    have kN0 : KeepN Z.heap.size W2 W2.drew := KeepN.of_below (Below.refl _ _).drew
    have kK0 : KpT Z.heap.size (fun b => b ≠ gt ∧ b ≠ Y.heap.size + 1) W2 W2.drew := KpT.of_below (Below.refl _ _).drew
    have HK0 := hid (And.intro kN0 kK0)
    clear kN0 kK0 Hbut2 hF2 hk2 hw2 hr2 n0 w0 k0 l0' x0 x1 x2 x3 x4 hgt2 hT2 hn2 hx2 c0 c1 c2 c3 c4 He' hrb
    generalize W2.drew = V at *
    have z1 := hFV.z.cell 1
    simp at z1
    obtain ⟨q, hq⟩ : ∃ q : Int, q = stop % (n + 1) := ⟨_, rfl⟩
    have HW1 := hid (fun W => within_any stop (n + 1) (by omega) (by omega) W)
    rw [← hq] at HW1
    clear hq
    by_cases hmq : (m : Int) = q
    · have j3 : ((m : Int) == q) = true := by simpa using hmq
      clear hmq
      repeat' (first | (go_at_call 23; go_must ((with_reducible refine Calls.mono (HW1.out _) ?_); rintro _ _ ⟨rfl, rfl⟩; dsimp only)) | ((with_reducible refine regionIn_ff ?_); refine wpIn_region_r rfl ?_) | (with_reducible refine Keep.last ?_) | (with_reducible refine Keep.below (by assumption) ?_) | (with_reducible refine Keep.kept (by assumption) ?_) | (with_reducible refine Keep.alloc ?_) | (with_reducible refine Keep.same ?_) | ((with_reducible refine WpH.here ?_); first | (refine WpH.nil ?_; refine NoP.normal ?_) | (refine WpH.load (by rfl) (by rfl) (by go_simp; rfl) ?_; simp only [Act.put, List.setIfInBounds_toArray, List.set_cons_zero, List.set_cons_succ]) | (refine WpH.loadT (by rfl) (by rfl) (by go_simp; rfl) (by rintro _ _ ⟨⟩; exact ⟨_, _, _, _, _, _, by rfl, by assumption, by assumption⟩) ?_; simp only [Act.put, List.setIfInBounds_toArray, List.set_cons_zero, List.set_cons_succ]) | (refine WpH.pure (by rfl) (fun w_ => by go_simp; (try go_bits); rfl) ?_; simp only [Act.put, List.setIfInBounds_toArray, List.set_cons_zero, List.set_cons_succ]) | (refine WpH.wild1 (by rfl) (fun _ _ => ?_)) | (refine WpH.skip (by rfl) ?_; simp only [Act.put, List.setIfInBounds_toArray, List.set_cons_zero, List.set_cons_succ])) | ((with_reducible refine WpO.here ?_); first | (refine WpO.done ?_; first | refine NoP.normal ?_ | refine NoO.normal ?_) | (refine WpO.load (by rfl) (by rfl) (by go_simp; rfl) ?_; simp only [Act.put, List.setIfInBounds_toArray, List.set_cons_zero, List.set_cons_succ]) | (refine WpO.loadT (by rfl) (by rfl) (by go_simp; rfl) (by rintro _ _ ⟨⟩; exact ⟨_, _, _, _, _, _, by rfl, by assumption, by assumption⟩) ?_; simp only [Act.put, List.setIfInBounds_toArray, List.set_cons_zero, List.set_cons_succ]) | (refine WpO.pure (by rfl) (fun w_ => by go_simp; (try go_bits); rfl) ?_; simp only [Act.put, List.setIfInBounds_toArray, List.set_cons_zero, List.set_cons_succ]) | (refine WpO.skip (by rfl) ?_; simp only [Act.put, List.setIfInBounds_toArray, List.set_cons_zero, List.set_cons_succ]) | refine WpO.wild ?_ | refine WpO.two ?_ ?_ | refine WpO.three ?_ ?_ ?_) | ((with_reducible refine wildO.here ?_); first | (refine wildO.go (by rfl) (fun _ _ => ?_)) | (refine wildO.skip (by rfl) ?_; simp only [Act.put, List.setIfInBounds_toArray, List.set_cons_zero, List.set_cons_succ])) | go_values | go_skip | go_guarded | go_step | go_upon | go_back | (with_reducible refine NoO.normal ?_) | gi_step | gi_upon)
      exact ⟨HK0.out.1, rfl, m, _, by omega, hbutV, hnV, p1, T1, hgtV, hTV, Hl1.out⟩
    · have j3 : ((m : Int) == q) = false := by simpa using hmq
      clear hmq
      repeat' (first | (go_at_call 23; go_must ((with_reducible refine Calls.mono (HW1.out _) ?_); rintro _ _ ⟨rfl, rfl⟩; dsimp only)) | (with_reducible refine stop_regionIn 23 ?_) | ((with_reducible refine regionIn_ff ?_); refine wpIn_region_r rfl ?_) | (with_reducible refine Keep.last ?_) | (with_reducible refine Keep.below (by assumption) ?_) | (with_reducible refine Keep.kept (by assumption) ?_) | (with_reducible refine Keep.alloc ?_) | (with_reducible refine Keep.same ?_) | ((with_reducible refine WpH.here ?_); first | (refine WpH.nil ?_; refine NoP.normal ?_) | (refine WpH.load (by rfl) (by rfl) (by go_simp; rfl) ?_; simp only [Act.put, List.setIfInBounds_toArray, List.set_cons_zero, List.set_cons_succ]) | (refine WpH.loadT (by rfl) (by rfl) (by go_simp; rfl) (by rintro _ _ ⟨⟩; exact ⟨_, _, _, _, _, _, by rfl, by assumption, by assumption⟩) ?_; simp only [Act.put, List.setIfInBounds_toArray, List.set_cons_zero, List.set_cons_succ]) | (refine WpH.pure (by rfl) (fun w_ => by go_simp; (try go_bits); rfl) ?_; simp only [Act.put, List.setIfInBounds_toArray, List.set_cons_zero, List.set_cons_succ]) | (refine WpH.wild1 (by rfl) (fun _ _ => ?_)) | (refine WpH.skip (by rfl) ?_; simp only [Act.put, List.setIfInBounds_toArray, List.set_cons_zero, List.set_cons_succ])) | ((with_reducible refine WpO.here ?_); first | (refine WpO.done ?_; first | refine NoP.normal ?_ | refine NoO.normal ?_) | (refine WpO.load (by rfl) (by rfl) (by go_simp; rfl) ?_; simp only [Act.put, List.setIfInBounds_toArray, List.set_cons_zero, List.set_cons_succ]) | (refine WpO.loadT (by rfl) (by rfl) (by go_simp; rfl) (by rintro _ _ ⟨⟩; exact ⟨_, _, _, _, _, _, by rfl, by assumption, by assumption⟩) ?_; simp only [Act.put, List.setIfInBounds_toArray, List.set_cons_zero, List.set_cons_succ]) | (refine WpO.pure (by rfl) (fun w_ => by go_simp; (try go_bits); rfl) ?_; simp only [Act.put, List.setIfInBounds_toArray, List.set_cons_zero, List.set_cons_succ]) | (refine WpO.skip (by rfl) ?_; simp only [Act.put, List.setIfInBounds_toArray, List.set_cons_zero, List.set_cons_succ]) | refine WpO.wild ?_ | refine WpO.two ?_ ?_ | refine WpO.three ?_ ?_ ?_) | ((with_reducible refine wildO.here ?_); first | (refine wildO.go (by rfl) (fun _ _ => ?_)) | (refine wildO.skip (by rfl) ?_; simp only [Act.put, List.setIfInBounds_toArray, List.set_cons_zero, List.set_cons_succ])) | go_values | go_skip | go_guarded | go_step | go_upon | go_back | (with_reducible refine NoO.normal ?_) | gi_step | gi_upon)
      refine Stop.go ?_
      have HlV := Hl1.out
      have hgl' := hgtV.lt
      have hnl' := hnV.lt
      have HR := hid (remove_ok T1 p1 gt ck 0 1 (fun b => b ≠ gt ∧ b ≠ (Y.heap.size + 1)) V.drew hgtV.drew hTV.drew (fun h => h.1 rfl) (by omega) (by omega) hck2.1 hck2.2)
      rw [show ((0 : Nat) : Int) = 0 from rfl, show ((1 : Nat) : Int) = 1 from rfl] at HR
      have tp : pb ≠ gt := hFV.p.ne hgtV (by decide)
      have tg : g ≠ gt := hFV.g.ne hgtV (by decide)
      have tz : w.heap.size ≠ gt := hFV.z.ne hgtV (by decide)
      have tx : xb ≠ gt := hxV.ne hgtV (by decide)
      have tn : (Y.heap.size + 1) ≠ gt := hnV.ne hgtV (by decide)
      have pV := hFV.p.cell 0
      have gV := hFV.g.cell 0
      simp at pV gV
      have qp : V.drew.heap[pb]? = some (.cells #[.pointer (some ⟨g, 0, none⟩)] 25 (0, 0)) := hFV.p
      have qg : V.drew.heap[g]? = some (.cells #[.pointer (some ⟨gt, 0, none⟩), .slice none 0 0, .int .i64 (ck : Nat)] 31 (0, 0)) := hFV.g
      have Hf := hid hFV
      have Hx := hid hxV
      have Hn := hid hnV
      have HT1 := hid (And.intro hgtV hTV)
      clear hFV hxV hnV hgtV hTV HlV z1 k0V l0V
      repeat' (first | ((with_reducible refine regionIn_at 23 ?_); refine wpIn_region_ordT (fun b => b ≠ gt) rfl (.one 0 true false (.one 1 true false (.one 2 true false (.one 3 true false (.one 4 false false (.one 5 true false (.one 6 true false (.one 7 true false (.one 8 true false (.one 9 true false (.one 10 true false (.one 11 true false (.one 12 true false (.one 13 true false (.one 14 true false (.one 15 true false (.one 16 true false (.one 20 true false (.one 21 true false (.two 17 22 (.one 18 true false (.two 19 22 (.one 22 false false (.one 23 false false (.one 24 true false (.one 25 true false .nil)))) (.one 19 false false (.one 23 false false (.one 24 true false (.one 25 true false .nil)))))) (.one 17 false false (.one 18 true false (.one 19 false false (.one 23 false false (.one 24 true false (.one 25 true false .nil)))))))))))))))))))))))))) (by kernel_rfl) (by kernel_rfl) (by kernel_rfl) rfl rfl ?_) | (go_at_call 24; go_must ((with_reducible refine Calls.mono HR.out ?_); rintro _ V3 ⟨p3, T3, rfl, hT3, hgt3, ⟨hq3, _⟩, hB3⟩; have hkk3 : KeepT (fun b => b ≠ gt) V.drew V3 := ⟨hB3.size, fun b hl hb => hB3.block b hl hb⟩; have hF3 := Hf.out.keep (W' := V3) (fun hb h1 _ => hB3.blk hb.drew (hb.ne HT1.out.1 h1)); have hx3 := hB3.blk Hx.out.drew tx; have hn3 := hB3.blk Hn.out.drew tn; have p3c := hF3.p.cell 0; have g3c := hF3.g.cell 0; have z3c := hF3.z.cell 2; have y0 := hx3.cell 0; have y1 := hx3.cell 1; have y2 := hx3.cell 2; have y3 := hx3.cell 3; have y4 := hx3.cell 4; simp at p3c g3c z3c y0 y1 y2 y3 y4; have rp : V3.heap[pb]? = some (.cells #[.pointer (some ⟨g, 0, none⟩)] 25 (0, 0)) := hF3.p; have rg : V3.heap[g]? = some (.cells #[.pointer (some ⟨gt, 0, none⟩), .slice none 0 0, .int .i64 (ck : Nat)] 31 (0, 0)) := hF3.g; have rz : V3.heap[w.heap.size]? = some (.cells #[.int .i64 chunk, .int .i64 stop, .int .i64 at_, .slice (some ⟨rb, off, none⟩) nz c] 24 (0, 0)) := hF3.z; have rx : V3.heap[xb]? = some (.cells #[.int .i64 e'.epoch, .int .i64 e'.rep, .int .i64 e'.num, .int .i32 e'.char, .int .i64 e'.hides] 36 (0, 0)) := hx3; have hT3' := hid (hT3.more (S' := fun b => b ≠ gt ∧ b ≠ (Y.heap.size + 1)) fun b _ h => by rcases h with h | h; exact h; have h' : V.heap.size ≤ b := h; constructor <;> omega); have h3l := congrArg List.length hq3; simp only [List.take_zero, List.nil_append, List.append_nil, Nat.zero_add, List.length_drop] at h3l; have H3l := hid h3l; have HQ3 := hid hq3; have H3 := hid (And.intro hF3 (And.intro hx3 (And.intro hn3 (And.intro hgt3 hB3)))); have hlen3 : T3.all.length ≤ 2000 := (by have := Hl1.out; omega); obtain ⟨len3, hlen3e⟩ : ∃ len3, len3 = T3.all.length := ⟨_, rfl⟩; have HL3 := hid (fun W h1 h2 => tlen_any (S := fun b => b ≠ gt ∧ b ≠ (Y.heap.size + 1)) T3 p3 gt ck W h1 h2); rw [← hlen3e] at HL3; obtain ⟨i3, hi3⟩ : ∃ i3 : Nat, at_ % ((len3 : Int) + 1) = i3 := ⟨(at_ % ((len3 : Int) + 1)).toNat, by have := Int.emod_nonneg at_ (show ((len3 : Int) + 1) ≠ 0 by omega); omega⟩; have hi3l : i3 ≤ len3 := (by have := Int.emod_lt_of_pos at_ (show (0 : Int) < (len3 : Int) + 1 by omega); omega); have HW3 := hid (fun W => within_any at_ (len3 + 1) (by omega) (by omega) W); rw [hi3] at HW3; have Hlen3 := hid hlen3e; have hl3b : len3 ≤ 2000 := (by omega); clear hlen3e hT3 h3l hq3 hF3 hx3 hn3 hi3 hB3; dsimp only)) | (go_at_call 22; go_must ((with_reducible refine Calls.mono (HL3.out _ (by first | exact H3.out.2.2.2.1 | exact H3.out.2.2.2.1.alloc _) (by first | exact hT3'.out | exact hT3'.out.keep (Same.alloc _ _ _))) ?_); rintro _ _ ⟨rfl, rfl⟩; dsimp only)) | (go_at_call 23; go_must ((with_reducible refine Calls.mono (HW3.out _) ?_); rintro _ _ ⟨rfl, rfl⟩; dsimp only)) | (go_at_call 20; go_must ((with_reducible refine Calls.mono (two_insert T3 p3 gt ck i3 _ e' V3 H3.out.2.2.2.1 hT3'.out (by omega) (by rw [← Hlen3.out]; exact hi3l) hck2.1 hck2.2 H3.out.2.2.1.lt) ?_); rintro _ V5 ⟨p5', T5', rfl, hT5', hgt5', hl5', hB5'⟩; have hkk5 : KeepT (fun b => b ≠ gt) _ V5 := ⟨hB5'.size, fun b hl hb => hB5'.block b hl hb⟩; have hn5 := hB5'.blk (H3.out.2.2.1.alloc _) tn; have n5 := hn5.cell 0; have nf5 := hn5.frozen 0; simp at n5; have HB5 := hid hB5'; have Hl5 := hid hl5'; clear hB5' hl5'; dsimp only)) | ((with_reducible refine regionIn_ff ?_); refine wpIn_region_r rfl ?_) | (with_reducible refine Keep.last ?_) | (with_reducible refine Keep.below (by assumption) ?_) | (with_reducible refine Keep.kept (by assumption) ?_) | (with_reducible refine Keep.alloc ?_) | (with_reducible refine Keep.same ?_) | ((with_reducible refine WpH.here ?_); first | (refine WpH.nil ?_; refine NoP.normal ?_) | (refine WpH.load (by rfl) (by rfl) (by go_simp; rfl) ?_; simp only [Act.put, List.setIfInBounds_toArray, List.set_cons_zero, List.set_cons_succ]) | (refine WpH.loadT (by rfl) (by rfl) (by go_simp; rfl) (by rintro _ _ ⟨⟩; exact ⟨_, _, _, _, _, _, by rfl, by assumption, by assumption⟩) ?_; simp only [Act.put, List.setIfInBounds_toArray, List.set_cons_zero, List.set_cons_succ]) | (refine WpH.pure (by rfl) (fun w_ => by go_simp; (try go_bits); rfl) ?_; simp only [Act.put, List.setIfInBounds_toArray, List.set_cons_zero, List.set_cons_succ]) | (refine WpH.wild1 (by rfl) (fun _ _ => ?_)) | (refine WpH.skip (by rfl) ?_; simp only [Act.put, List.setIfInBounds_toArray, List.set_cons_zero, List.set_cons_succ])) | ((with_reducible refine WpO.here ?_); first | (refine WpO.done ?_; first | refine NoP.normal ?_ | refine NoO.normal ?_) | (refine WpO.load (by rfl) (by rfl) (by go_simp; rfl) ?_; simp only [Act.put, List.setIfInBounds_toArray, List.set_cons_zero, List.set_cons_succ]) | (refine WpO.loadT (by rfl) (by rfl) (by go_simp; rfl) (by rintro _ _ ⟨⟩; exact ⟨_, _, _, _, _, _, by rfl, by assumption, by assumption⟩) ?_; simp only [Act.put, List.setIfInBounds_toArray, List.set_cons_zero, List.set_cons_succ]) | (refine WpO.pure (by rfl) (fun w_ => by go_simp; (try go_bits); rfl) ?_; simp only [Act.put, List.setIfInBounds_toArray, List.set_cons_zero, List.set_cons_succ]) | (refine WpO.skip (by rfl) ?_; simp only [Act.put, List.setIfInBounds_toArray, List.set_cons_zero, List.set_cons_succ]) | refine WpO.wild ?_ | refine WpO.two ?_ ?_ | refine WpO.three ?_ ?_ ?_) | ((with_reducible refine wildO.here ?_); first | (refine wildO.go (by rfl) (fun _ _ => ?_)) | (refine wildO.skip (by rfl) ?_; simp only [Act.put, List.setIfInBounds_toArray, List.set_cons_zero, List.set_cons_succ])) | go_values | go_skip | go_guarded | go_step | go_upon | go_back | (with_reducible refine NoO.normal ?_) | gi_step | gi_upon)
      all_goals
        have ea : Below V3.heap.size V3 (V3.alloc (.cells #[.int .i64 e'.epoch, .int .i64 e'.rep, .int .i64 e'.num, .int .i32 e'.char, .int .i64 e'.hides, .int .i64 e'.epoch, .int .i64 e'.rep, .int .i64 e'.num, .int .i32 e'.char, .int .i64 e'.hides] 36)) := (Below.refl _ _).alloc (Nat.le_refl _) _
        have d1 : But2 gt ((Y.heap.size + 1)) V V5 := (((But2.of_below (Below.refl _ _).drew).trans (But2.of_but H3.out.2.2.2.2)).trans (But2.of_below ea)).trans (But2.of_but HB5.out)
        have d2 := d1.trans (But2.setY (x := gt) (y := (Y.heap.size + 1)) V5 (.int .i64 ((m : Int) + 1)))
        have hpre : (pre ++ [(e', m)]).length = m + 1 := by rw [List.length_append, Hm.out]; rfl
        have hl5 := Hl5.out
        have hl3 := H3l.out
        have hl1 := Hl1.out
        refine ⟨HK0.out.1.trans (d2.keepN HT1.out.1 Hn.out), HK0.out.2.trans (d2.kpT htZ.lt hnZ.lt (fun h => h.1 rfl) (fun h => h.2 rfl)), ?_⟩
        show RI Z _ gt ((Y.heap.size + 1)) ck (pre ++ [(e', m)]).length (T5.all.length + (pre ++ [(e', m)]).length)
        rw [hpre]
        exact ⟨hbutV.trans d2, by simpa using hn5.set_ 0 (.int .i64 ((m : Int) + 1)), p5', T5', hgt5'.far (Ne.symm tn) _, hT5'.keep (Same.setCell (S := fun b => b ≠ gt ∧ b ≠ (Y.heap.size + 1)) V5 (fun h => h.2 rfl) _), by omega⟩
  case done =>
    rintro xs W rfl hI
    exact ⟨_, _, by rw [List.length_zipIdx]; omega, hI⟩
  case end_ =>
    rintro D W hD ⟨cnt, len1, hlen1, hI⟩ hK
    have hkW := hI.but.blk hkZ (hkZ.ne htZ (by decide)) (fun e => by have := hk7.lt; omega)
    have kW := hkW.cell 0
    simp at kW
    have hFW := hFZ.but2 hI.but htZ hnZ
    have hkl := hkW.lt
    have hDge : w.heap.size ≤ D := Nat.le_trans bZ.size hD
    have HI := hid hI
    have HD := hid hD
    have HK := hid hK
    clear hI hD hK
    repeat' (first | (with_reducible refine roundsW_at ?_) | (with_reducible refine Keep.last ?_) | (with_reducible refine Keep.below (by assumption) ?_) | (with_reducible refine Keep.kept (by assumption) ?_) | (with_reducible refine Keep.alloc ?_) | (with_reducible refine Keep.same ?_) | ((with_reducible refine WpH.here ?_); first | (refine WpH.nil ?_; refine NoP.normal ?_) | (refine WpH.load (by rfl) (by rfl) (by go_simp; rfl) ?_; simp only [Act.put, List.setIfInBounds_toArray, List.set_cons_zero, List.set_cons_succ]) | (refine WpH.loadT (by rfl) (by rfl) (by go_simp; rfl) (by rintro _ _ ⟨⟩; exact ⟨_, _, _, _, _, _, by rfl, by assumption, by assumption⟩) ?_; simp only [Act.put, List.setIfInBounds_toArray, List.set_cons_zero, List.set_cons_succ]) | (refine WpH.pure (by rfl) (fun w_ => by go_simp; (try go_bits); rfl) ?_; simp only [Act.put, List.setIfInBounds_toArray, List.set_cons_zero, List.set_cons_succ]) | (refine WpH.wild1 (by rfl) (fun _ _ => ?_)) | (refine WpH.skip (by rfl) ?_; simp only [Act.put, List.setIfInBounds_toArray, List.set_cons_zero, List.set_cons_succ])) | ((with_reducible refine WpO.here ?_); first | (refine WpO.done ?_; first | refine NoP.normal ?_ | refine NoO.normal ?_) | (refine WpO.load (by rfl) (by rfl) (by go_simp; rfl) ?_; simp only [Act.put, List.setIfInBounds_toArray, List.set_cons_zero, List.set_cons_succ]) | (refine WpO.loadT (by rfl) (by rfl) (by go_simp; rfl) (by rintro _ _ ⟨⟩; exact ⟨_, _, _, _, _, _, by rfl, by assumption, by assumption⟩) ?_; simp only [Act.put, List.setIfInBounds_toArray, List.set_cons_zero, List.set_cons_succ]) | (refine WpO.pure (by rfl) (fun w_ => by go_simp; (try go_bits); rfl) ?_; simp only [Act.put, List.setIfInBounds_toArray, List.set_cons_zero, List.set_cons_succ]) | (refine WpO.skip (by rfl) ?_; simp only [Act.put, List.setIfInBounds_toArray, List.set_cons_zero, List.set_cons_succ]) | refine WpO.wild ?_ | refine WpO.two ?_ ?_ | refine WpO.three ?_ ?_ ?_) | ((with_reducible refine wildO.here ?_); first | (refine wildO.go (by rfl) (fun _ _ => ?_)) | (refine wildO.skip (by rfl) ?_; simp only [Act.put, List.setIfInBounds_toArray, List.set_cons_zero, List.set_cons_succ])) | go_values | go_skip | go_guarded | go_step | go_upon | go_back)
    refine Stop.go ?_
    refine roundsW_next ?_
    obtain ⟨hbutW, hnW, p1, T1, htW, hTW, hl1⟩ := HI.out
    have hDl := lt_of_heap HK.out
    have eU : Below W.heap.size W (W.alloc (.cells #[.int .i64 1] 3)) := (Below.refl _ _).alloc (Nat.le_refl _) _
    have hkU := Blk.new W 3 #[.int .i64 1]
    generalize W.alloc (.cells #[.int .i64 1] 3) = U at *
    have hlen1' : T1.all.length ≤ 400 := by omega
    have hwg : w.heap.size ≤ gt := Nat.le_trans b2s hgt
    have bW : Below w.heap.size w W := hbutW.below bZ (Nat.le_refl _) hwg (by have := b7.size; omega)
    have bU := bW.trans (eU.mono bW.size)
    have hFU := hFW.step eU
    have htU := htW.step eU
    have hTU := hTW.step eU
    have hKU : U.heap[D]? = some (.deferred (some [])) := (eU.block D hDl).trans HK.out
    have HKU := hid hKU
    have Hl1 := hid hl1
    have HL2 := hid (tlen_any T1 p1 gt ck U htU hTU)
    have pU := hFU.p.cell 0
    have gU := hFU.g.cell 0
    have kU := hkU.cell 0
    simp at pU gU kU
    have hplU := hFU.p.lt
    have hglU := hFU.g.lt
    have HBW := hid (And.intro hbutW (And.intro hnW (And.intro htW hTW)))
    clear hbutW hnW htW hTW hkW kW hFW HI eU hl1 hKU
    generalize W.heap.size = kb at *
    repeat' (first | (go_at_call 22; go_must ((with_reducible refine Calls.mono HL2.out ?_); rintro _ _ ⟨rfl, rfl⟩; dsimp only)) | (with_reducible refine stop_block 2 ?_) | (with_reducible refine Keep.last ?_) | (with_reducible refine Keep.below (by assumption) ?_) | (with_reducible refine Keep.kept (by assumption) ?_) | (with_reducible refine Keep.alloc ?_) | (with_reducible refine Keep.same ?_) | ((with_reducible refine WpH.here ?_); first | (refine WpH.nil ?_; refine NoP.normal ?_) | (refine WpH.load (by rfl) (by rfl) (by go_simp; rfl) ?_; simp only [Act.put, List.setIfInBounds_toArray, List.set_cons_zero, List.set_cons_succ]) | (refine WpH.loadT (by rfl) (by rfl) (by go_simp; rfl) (by rintro _ _ ⟨⟩; exact ⟨_, _, _, _, _, _, by rfl, by assumption, by assumption⟩) ?_; simp only [Act.put, List.setIfInBounds_toArray, List.set_cons_zero, List.set_cons_succ]) | (refine WpH.pure (by rfl) (fun w_ => by go_simp; (try go_bits); rfl) ?_; simp only [Act.put, List.setIfInBounds_toArray, List.set_cons_zero, List.set_cons_succ]) | (refine WpH.wild1 (by rfl) (fun _ _ => ?_)) | (refine WpH.skip (by rfl) ?_; simp only [Act.put, List.setIfInBounds_toArray, List.set_cons_zero, List.set_cons_succ])) | ((with_reducible refine WpO.here ?_); first | (refine WpO.done ?_; first | refine NoP.normal ?_ | refine NoO.normal ?_) | (refine WpO.load (by rfl) (by rfl) (by go_simp; rfl) ?_; simp only [Act.put, List.setIfInBounds_toArray, List.set_cons_zero, List.set_cons_succ]) | (refine WpO.loadT (by rfl) (by rfl) (by go_simp; rfl) (by rintro _ _ ⟨⟩; exact ⟨_, _, _, _, _, _, by rfl, by assumption, by assumption⟩) ?_; simp only [Act.put, List.setIfInBounds_toArray, List.set_cons_zero, List.set_cons_succ]) | (refine WpO.pure (by rfl) (fun w_ => by go_simp; (try go_bits); rfl) ?_; simp only [Act.put, List.setIfInBounds_toArray, List.set_cons_zero, List.set_cons_succ]) | (refine WpO.skip (by rfl) ?_; simp only [Act.put, List.setIfInBounds_toArray, List.set_cons_zero, List.set_cons_succ]) | refine WpO.wild ?_ | refine WpO.two ?_ ?_ | refine WpO.three ?_ ?_ ?_) | ((with_reducible refine wildO.here ?_); first | (refine wildO.go (by rfl) (fun _ _ => ?_)) | (refine wildO.skip (by rfl) ?_; simp only [Act.put, List.setIfInBounds_toArray, List.set_cons_zero, List.set_cons_succ])) | go_values | go_skip | go_guarded | go_step | go_upon | go_back)
    refine Stop.go ?_
    have eV : Below U.heap.size U (U.alloc (.cells #[.int .i64 T1.all.length] 3)) := (Below.refl _ _).alloc (Nat.le_refl _) _
    have sV : (U.alloc (.cells #[.int .i64 T1.all.length] 3)).heap.size = U.heap.size + 1 := Array.size_push _
    have eV2 := eV.alloc (by omega) (.cells #[.int .i64 0] 3)
    have hwV := (Blk.new U 3 #[.int .i64 T1.all.length]).alloc (.cells #[.int .i64 0] 3)
    have hnV := Blk.new (U.alloc (.cells #[.int .i64 T1.all.length] 3)) 3 #[.int .i64 0]
    rw [sV] at hnV
    generalize (U.alloc (.cells #[.int .i64 T1.all.length] 3)).alloc (.cells #[.int .i64 0] 3) = Z2 at *
    have htV := htU.step eV2
    have hTV2 : IsTree Z2 (fun b => b ≠ gt ∧ b ≠ U.heap.size + 1) T1 p1 := ((hTU.more (S' := fun b => b < U.heap.size ∧ b ≠ gt) fun b hl hb => ⟨hl, hb.1⟩).step eV2).more fun b _ h => ⟨h.2, by have := h.1; omega⟩
    have hFV := hFU.step eV2
    have hkV := hkU.step eV2
    have bV := bU.trans (eV2.mono bU.size)
    have hneV : gt ≠ U.heap.size + 1 := fun e => by have := htU.lt; omega
    have hkUl := hkU.lt
    have hKV : Z2.heap[D]? = some (.deferred (some [])) := (eV2.block D (lt_of_heap HKU.out)).trans HKU.out
    have HKV := hid hKV
    clear hKV pU gU kU
    refine wp_rangeFunc_block 3 (gf := 74) (lb := #[.pointer (some ⟨W5.heap.size, 0, none⟩)]) rfl (enters_fn Tryd.func74 (by kernel_rfl) rfl)
      (allSeq T1 p1 gt W5.heap.size ck (fun b => b ≠ gt ∧ b ≠ U.heap.size + 1) Z2 hFV.a htV hTV2 (by omega)) (fun h k => h.trans k) (fun W l o o' hl h hc => KpT.putObj W l o o' hl h hc) (fun _ => rfl)
      (fun pre W => RI Z2 W gt (U.heap.size + 1) ck pre.length (T1.all.length + pre.length)) (fun W => ∃ len, RI Z2 W gt (U.heap.size + 1) ck T1.all.length len)
      (fun s A B h hT => h.turn htV.lt hnV.lt hT) (fun _ A B h hT => by obtain ⟨len, h3⟩ := h; exact ⟨len, h3.turn htV.lt hnV.lt hT⟩)
      ⟨But2.refl _ _ _, hnV, p1, T1, htV, hTV2, rfl⟩ ?round2 ?done2 ?end2
    case round2 =>
      rintro l pre ⟨e', i⟩ W3 hl ⟨rc, hrc⟩ hI hG
      obtain ⟨hi, he, hlt⟩ := zipIdx_prefix hG
      simp only at hi he
      subst hi
      simp only [elNum, El.agg, putArgs2, List.setIfInBounds_toArray, List.set_cons_zero, List.set_cons_succ]
      repeat' (first | ((with_reducible refine regionIn_ff ?_); refine wpIn_region_r rfl ?_) | (with_reducible refine Keep.last ?_) | (with_reducible refine Keep.below (by assumption) ?_) | (with_reducible refine Keep.kept (by assumption) ?_) | (with_reducible refine Keep.alloc ?_) | (with_reducible refine Keep.same ?_) | ((with_reducible refine WpH.here ?_); first | (refine WpH.nil ?_; refine NoP.normal ?_) | (refine WpH.load (by rfl) (by rfl) (by go_simp; rfl) ?_; simp only [Act.put, List.setIfInBounds_toArray, List.set_cons_zero, List.set_cons_succ]) | (refine WpH.loadT (by rfl) (by rfl) (by go_simp; rfl) (by rintro _ _ ⟨⟩; exact ⟨_, _, _, _, _, _, by rfl, by assumption, by assumption⟩) ?_; simp only [Act.put, List.setIfInBounds_toArray, List.set_cons_zero, List.set_cons_succ]) | (refine WpH.pure (by rfl) (fun w_ => by go_simp; (try go_bits); rfl) ?_; simp only [Act.put, List.setIfInBounds_toArray, List.set_cons_zero, List.set_cons_succ]) | (refine WpH.wild1 (by rfl) (fun _ _ => ?_)) | (refine WpH.skip (by rfl) ?_; simp only [Act.put, List.setIfInBounds_toArray, List.set_cons_zero, List.set_cons_succ])) | ((with_reducible refine WpO.here ?_); first | (refine WpO.done ?_; first | refine NoP.normal ?_ | refine NoO.normal ?_) | (refine WpO.load (by rfl) (by rfl) (by go_simp; rfl) ?_; simp only [Act.put, List.setIfInBounds_toArray, List.set_cons_zero, List.set_cons_succ]) | (refine WpO.loadT (by rfl) (by rfl) (by go_simp; rfl) (by rintro _ _ ⟨⟩; exact ⟨_, _, _, _, _, _, by rfl, by assumption, by assumption⟩) ?_; simp only [Act.put, List.setIfInBounds_toArray, List.set_cons_zero, List.set_cons_succ]) | (refine WpO.pure (by rfl) (fun w_ => by go_simp; (try go_bits); rfl) ?_; simp only [Act.put, List.setIfInBounds_toArray, List.set_cons_zero, List.set_cons_succ]) | (refine WpO.skip (by rfl) ?_; simp only [Act.put, List.setIfInBounds_toArray, List.set_cons_zero, List.set_cons_succ]) | refine WpO.wild ?_ | refine WpO.two ?_ ?_ | refine WpO.three ?_ ?_ ?_) | ((with_reducible refine wildO.here ?_); first | (refine wildO.go (by rfl) (fun _ _ => ?_)) | (refine wildO.skip (by rfl) ?_; simp only [Act.put, List.setIfInBounds_toArray, List.set_cons_zero, List.set_cons_succ])) | go_values | go_skip | go_guarded | go_step | go_upon | go_back | (with_reducible refine NoO.normal ?_) | gi_step | gi_upon)
      have eW : Below W3.heap.size W3 (W3.alloc (.cells #[.int .i64 e'.epoch, .int .i64 e'.rep, .int .i64 e'.num, .int .i32 e'.char, .int .i64 e'.hides] 36)) := (Below.refl _ _).alloc (Nat.le_refl _) _
      refine ⟨KeepN.of_below eW, KpT.of_below eW, fun W2 hB2 => ?_⟩
      obtain ⟨hbut, hn1, pI, TI, hg1, hT1, hl1⟩ := hI
      have but2 := (hbut.trans (But2.of_below eW)).begun hB2 hl
      have hn2 := hB2.blk (hn1.step eW)
      have hgt2 := hB2.blk (hg1.step eW)
      have hT2 := hB2.tree (hT1.step eW)
      have hx2 := hB2.blk (Blk.new W3 36 #[.int .i64 e'.epoch, .int .i64 e'.rep, .int .i64 e'.num, .int .i32 e'.char, .int .i64 e'.hides])
      have hF2 := hFV.but2 but2 htV hnV
      have hk2 := but2.blk hkV (hkV.ne htV (by decide)) (by omega)
      have hw2 := but2.blk hwV (hwV.ne htV (by decide)) (by omega)
      have Hbut2 := hid but2
      have Hl1 := hid hl1
      clear hbut hn1 hg1 hT1 eW but2 hl1 hB2 hl hrc he
      generalize W3.heap.size = xb at *
      have hG' := hid hG
      clear hG
      generalize hm : pre.length = m at *
      have Hm := hid hm
      clear hm
      have n0 := hn2.cell 0
      have w0 := hw2.cell 0
      have k0 := hk2.cell 0
      simp at n0 w0 k0
      have j2 : ¬ (m : Int) ≥ T1.all.length := by omega
      have htZ2 := htV
      have hnZ2 := hnV
      repeat' (first | ((with_reducible refine regionIn_at 20 ?_); refine wpIn_region_ordT (fun _ => True) rfl (.one 0 true false (.one 1 true false (.one 2 true false (.one 3 true false (.one 4 true false (.one 5 true false (.one 6 true false (.one 7 true false (.one 8 true false (.one 9 true false (.one 10 true false (.one 11 true false (.one 12 true false (.one 13 true false (.one 14 true false (.one 15 true false (.one 16 true false (.one 17 true false (.one 18 true false (.one 19 true false .nil)))))))))))))))))))) (by kernel_rfl) (by kernel_rfl) (by kernel_rfl) rfl rfl ?_) | (with_reducible refine stop_regionIn 22 ?_) | ((with_reducible refine regionIn_ff ?_); refine wpIn_region_r rfl ?_) | (with_reducible refine Keep.last ?_) | (with_reducible refine Keep.below (by assumption) ?_) | (with_reducible refine Keep.kept (by assumption) ?_) | (with_reducible refine Keep.alloc ?_) | (with_reducible refine Keep.same ?_) | ((with_reducible refine WpH.here ?_); first | (refine WpH.nil ?_; refine NoP.normal ?_) | (refine WpH.load (by rfl) (by rfl) (by go_simp; rfl) ?_; simp only [Act.put, List.setIfInBounds_toArray, List.set_cons_zero, List.set_cons_succ]) | (refine WpH.loadT (by rfl) (by rfl) (by go_simp; rfl) (by rintro _ _ ⟨⟩; exact ⟨_, _, _, _, _, _, by rfl, by assumption, by assumption⟩) ?_; simp only [Act.put, List.setIfInBounds_toArray, List.set_cons_zero, List.set_cons_succ]) | (refine WpH.pure (by rfl) (fun w_ => by go_simp; (try go_bits); rfl) ?_; simp only [Act.put, List.setIfInBounds_toArray, List.set_cons_zero, List.set_cons_succ]) | (refine WpH.wild1 (by rfl) (fun _ _ => ?_)) | (refine WpH.skip (by rfl) ?_; simp only [Act.put, List.setIfInBounds_toArray, List.set_cons_zero, List.set_cons_succ])) | ((with_reducible refine WpO.here ?_); first | (refine WpO.done ?_; first | refine NoP.normal ?_ | refine NoO.normal ?_) | (refine WpO.load (by rfl) (by rfl) (by go_simp; rfl) ?_; simp only [Act.put, List.setIfInBounds_toArray, List.set_cons_zero, List.set_cons_succ]) | (refine WpO.loadT (by rfl) (by rfl) (by go_simp; rfl) (by rintro _ _ ⟨⟩; exact ⟨_, _, _, _, _, _, by rfl, by assumption, by assumption⟩) ?_; simp only [Act.put, List.setIfInBounds_toArray, List.set_cons_zero, List.set_cons_succ]) | (refine WpO.pure (by rfl) (fun w_ => by go_simp; (try go_bits); rfl) ?_; simp only [Act.put, List.setIfInBounds_toArray, List.set_cons_zero, List.set_cons_succ]) | (refine WpO.skip (by rfl) ?_; simp only [Act.put, List.setIfInBounds_toArray, List.set_cons_zero, List.set_cons_succ]) | refine WpO.wild ?_ | refine WpO.two ?_ ?_ | refine WpO.three ?_ ?_ ?_) | ((with_reducible refine wildO.here ?_); first | (refine wildO.go (by rfl) (fun _ _ => ?_)) | (refine wildO.skip (by rfl) ?_; simp only [Act.put, List.setIfInBounds_toArray, List.set_cons_zero, List.set_cons_succ])) | go_values | go_skip | go_guarded | go_step | go_upon | go_back | (with_reducible refine NoO.normal ?_) | gi_step | gi_upon)
      refine Stop.go ?_
      have hgtV := hgt2.drew
      have hTV := hT2.drew
      have hFV := hF2.step (W' := W2.drew) (Below.refl _ _).drew
      have hbutV : But2 gt (U.heap.size + 1) Z2 W2.drew := Hbut2.out.trans (But2.of_below (Below.refl _ _).drew)
      have hnV := hn2.drew
      have hxV := hx2.drew
      have k0V : W2.drew.cell? ⟨kb, 0, none⟩ = some (.int .i64 1) := k0
      have kN0 : KeepN Z2.heap.size W2 W2.drew := KeepN.of_below (Below.refl _ _).drew
      have kK0 : KpT Z2.heap.size (fun b => b ≠ gt ∧ b ≠ U.heap.size + 1) W2 W2.drew := KpT.of_below (Below.refl _ _).drew
      have HK0 := hid (And.intro kN0 kK0)
      clear kN0 kK0 Hbut2 hF2 hk2 hw2 n0 w0 k0 hgt2 hT2 hn2 hx2
      generalize W2.drew = V at *
      have z1 := hFV.z.cell 1
      have l0V : V.cell? ⟨pb + 1, 0, none⟩ = some (.slice A n c) := hFV.l.cell 0
      repeat' (first | (with_reducible refine stop_regionIn 23 ?_) | ((with_reducible refine regionIn_ff ?_); refine wpIn_region_r rfl ?_) | (with_reducible refine Keep.last ?_) | (with_reducible refine Keep.below (by assumption) ?_) | (with_reducible refine Keep.kept (by assumption) ?_) | (with_reducible refine Keep.alloc ?_) | (with_reducible refine Keep.same ?_) | ((with_reducible refine WpH.here ?_); first | (refine WpH.nil ?_; refine NoP.normal ?_) | (refine WpH.load (by rfl) (by rfl) (by go_simp; rfl) ?_; simp only [Act.put, List.setIfInBounds_toArray, List.set_cons_zero, List.set_cons_succ]) | (refine WpH.loadT (by rfl) (by rfl) (by go_simp; rfl) (by rintro _ _ ⟨⟩; exact ⟨_, _, _, _, _, _, by rfl, by assumption, by assumption⟩) ?_; simp only [Act.put, List.setIfInBounds_toArray, List.set_cons_zero, List.set_cons_succ]) | (refine WpH.pure (by rfl) (fun w_ => by go_simp; (try go_bits); rfl) ?_; simp only [Act.put, List.setIfInBounds_toArray, List.set_cons_zero, List.set_cons_succ]) | (refine WpH.wild1 (by rfl) (fun _ _ => ?_)) | (refine WpH.skip (by rfl) ?_; simp only [Act.put, List.setIfInBounds_toArray, List.set_cons_zero, List.set_cons_succ])) | ((with_reducible refine WpO.here ?_); first | (refine WpO.done ?_; first | refine NoP.normal ?_ | refine NoO.normal ?_) | (refine WpO.load (by rfl) (by rfl) (by go_simp; rfl) ?_; simp only [Act.put, List.setIfInBounds_toArray, List.set_cons_zero, List.set_cons_succ]) | (refine WpO.loadT (by rfl) (by rfl) (by go_simp; rfl) (by rintro _ _ ⟨⟩; exact ⟨_, _, _, _, _, _, by rfl, by assumption, by assumption⟩) ?_; simp only [Act.put, List.setIfInBounds_toArray, List.set_cons_zero, List.set_cons_succ]) | (refine WpO.pure (by rfl) (fun w_ => by go_simp; (try go_bits); rfl) ?_; simp only [Act.put, List.setIfInBounds_toArray, List.set_cons_zero, List.set_cons_succ]) | (refine WpO.skip (by rfl) ?_; simp only [Act.put, List.setIfInBounds_toArray, List.set_cons_zero, List.set_cons_succ]) | refine WpO.wild ?_ | refine WpO.two ?_ ?_ | refine WpO.three ?_ ?_ ?_) | ((with_reducible refine wildO.here ?_); first | (refine wildO.go (by rfl) (fun _ _ => ?_)) | (refine wildO.skip (by rfl) ?_; simp only [Act.put, List.setIfInBounds_toArray, List.set_cons_zero, List.set_cons_succ])) | go_values | go_skip | go_guarded | go_step | go_upon | go_back | (with_reducible refine NoO.normal ?_) | gi_step | gi_upon)
      refine Stop.go ?_
      have HlV := Hl1.out
      have hgl' := hgtV.lt
      have hnl' := hnV.lt
      have HR := hid (remove_ok TI pI gt ck 0 1 (fun b => b ≠ gt ∧ b ≠ (U.heap.size + 1)) V.drew hgtV.drew hTV.drew (fun h => h.1 rfl) (by omega) (by omega) hck2.1 hck2.2)
      rw [show ((0 : Nat) : Int) = 0 from rfl, show ((1 : Nat) : Int) = 1 from rfl] at HR
      have tp : pb ≠ gt := hFV.p.ne hgtV (by decide)
      have tg : g ≠ gt := hFV.g.ne hgtV (by decide)
      have tz : w.heap.size ≠ gt := hFV.z.ne hgtV (by decide)
      have tx : xb ≠ gt := hxV.ne hgtV (by decide)
      have tn : (U.heap.size + 1) ≠ gt := hnV.ne hgtV (by decide)
      have pV := hFV.p.cell 0
      have gV := hFV.g.cell 0
      simp at pV gV
      have qp : V.drew.heap[pb]? = some (.cells #[.pointer (some ⟨g, 0, none⟩)] 25 (0, 0)) := hFV.p
      have qg : V.drew.heap[g]? = some (.cells #[.pointer (some ⟨gt, 0, none⟩), .slice none 0 0, .int .i64 (ck : Nat)] 31 (0, 0)) := hFV.g
      have Hf := hid hFV
      have Hx := hid hxV
      have Hn := hid hnV
      have HT1 := hid (And.intro hgtV hTV)
      clear hFV hxV hnV hgtV hTV HlV z1 k0V l0V
      repeat' (first | ((with_reducible refine regionIn_at 23 ?_); refine wpIn_region_ordT (fun b => b ≠ gt) rfl (.one 0 true false (.one 1 true false (.one 2 true false (.one 3 true false (.one 4 false false (.one 5 true false (.one 6 true false (.one 7 true false (.one 8 true false (.one 9 true false (.one 10 true false (.one 11 true false (.one 12 true false (.one 13 true false (.one 14 true false (.one 15 true false (.one 16 true false (.one 20 true false (.one 21 true false (.two 17 22 (.one 18 true false (.two 19 22 (.one 22 false false (.one 23 false false (.one 24 true false (.one 25 true false .nil)))) (.one 19 false false (.one 23 false false (.one 24 true false (.one 25 true false .nil)))))) (.one 17 false false (.one 18 true false (.one 19 false false (.one 23 false false (.one 24 true false (.one 25 true false .nil)))))))))))))))))))))))))) (by kernel_rfl) (by kernel_rfl) (by kernel_rfl) rfl rfl ?_) | (go_at_call 24; go_must ((with_reducible refine Calls.mono HR.out ?_); rintro _ V3 ⟨p3, T3, rfl, hT3, hgt3, ⟨hq3, _⟩, hB3⟩; have hkk3 : KeepT (fun b => b ≠ gt) V.drew V3 := ⟨hB3.size, fun b hl hb => hB3.block b hl hb⟩; have hF3 := Hf.out.keep (W' := V3) (fun hb h1 _ => hB3.blk hb.drew (hb.ne HT1.out.1 h1)); have hx3 := hB3.blk Hx.out.drew tx; have hn3 := hB3.blk Hn.out.drew tn; have p3c := hF3.p.cell 0; have g3c := hF3.g.cell 0; have z3c := hF3.z.cell 2; have y0 := hx3.cell 0; have y1 := hx3.cell 1; have y2 := hx3.cell 2; have y3 := hx3.cell 3; have y4 := hx3.cell 4; simp at p3c g3c z3c y0 y1 y2 y3 y4; have rp : V3.heap[pb]? = some (.cells #[.pointer (some ⟨g, 0, none⟩)] 25 (0, 0)) := hF3.p; have rg : V3.heap[g]? = some (.cells #[.pointer (some ⟨gt, 0, none⟩), .slice none 0 0, .int .i64 (ck : Nat)] 31 (0, 0)) := hF3.g; have rz : V3.heap[w.heap.size]? = some (.cells #[.int .i64 chunk, .int .i64 stop, .int .i64 at_, .slice A nz c] 24 (0, 0)) := hF3.z; have rx : V3.heap[xb]? = some (.cells #[.int .i64 e'.epoch, .int .i64 e'.rep, .int .i64 e'.num, .int .i32 e'.char, .int .i64 e'.hides] 36 (0, 0)) := hx3; have hT3' := hid (hT3.more (S' := fun b => b ≠ gt ∧ b ≠ (U.heap.size + 1)) fun b _ h => by rcases h with h | h; exact h; have h' : V.heap.size ≤ b := h; constructor <;> omega); have h3l := congrArg List.length hq3; simp only [List.take_zero, List.nil_append, List.append_nil, Nat.zero_add, List.length_drop] at h3l; have H3l := hid h3l; have HQ3 := hid hq3; have H3 := hid (And.intro hF3 (And.intro hx3 (And.intro hn3 (And.intro hgt3 hB3)))); have hlen3 : T3.all.length ≤ 2000 := (by have := Hl1.out; omega); obtain ⟨len3, hlen3e⟩ : ∃ len3, len3 = T3.all.length := ⟨_, rfl⟩; have HL3 := hid (fun W h1 h2 => tlen_any (S := fun b => b ≠ gt ∧ b ≠ (U.heap.size + 1)) T3 p3 gt ck W h1 h2); rw [← hlen3e] at HL3; obtain ⟨i3, hi3⟩ : ∃ i3 : Nat, at_ % ((len3 : Int) + 1) = i3 := ⟨(at_ % ((len3 : Int) + 1)).toNat, by have := Int.emod_nonneg at_ (show ((len3 : Int) + 1) ≠ 0 by omega); omega⟩; have hi3l : i3 ≤ len3 := (by have := Int.emod_lt_of_pos at_ (show (0 : Int) < (len3 : Int) + 1 by omega); omega); have HW3 := hid (fun W => within_any at_ (len3 + 1) (by omega) (by omega) W); rw [hi3] at HW3; have Hlen3 := hid hlen3e; have hl3b : len3 ≤ 2000 := (by omega); clear hlen3e hT3 h3l hq3 hF3 hx3 hn3 hi3 hB3; dsimp only)) | (go_at_call 22; go_must ((with_reducible refine Calls.mono (HL3.out _ (by first | exact H3.out.2.2.2.1 | exact H3.out.2.2.2.1.alloc _) (by first | exact hT3'.out | exact hT3'.out.keep (Same.alloc _ _ _))) ?_); rintro _ _ ⟨rfl, rfl⟩; dsimp only)) | (go_at_call 23; go_must ((with_reducible refine Calls.mono (HW3.out _) ?_); rintro _ _ ⟨rfl, rfl⟩; dsimp only)) | (go_at_call 20; go_must ((with_reducible refine Calls.mono (two_insert T3 p3 gt ck i3 _ e' V3 H3.out.2.2.2.1 hT3'.out (by omega) (by rw [← Hlen3.out]; exact hi3l) hck2.1 hck2.2 H3.out.2.2.1.lt) ?_); rintro _ V5 ⟨p5', T5', rfl, hT5', hgt5', hl5', hB5'⟩; have hkk5 : KeepT (fun b => b ≠ gt) _ V5 := ⟨hB5'.size, fun b hl hb => hB5'.block b hl hb⟩; have hn5 := hB5'.blk (H3.out.2.2.1.alloc _) tn; have n5 := hn5.cell 0; have nf5 := hn5.frozen 0; simp at n5; have HB5 := hid hB5'; have Hl5 := hid hl5'; clear hB5' hl5'; dsimp only)) | ((with_reducible refine regionIn_ff ?_); refine wpIn_region_r rfl ?_) | (with_reducible refine Keep.last ?_) | (with_reducible refine Keep.below (by assumption) ?_) | (with_reducible refine Keep.kept (by assumption) ?_) | (with_reducible refine Keep.alloc ?_) | (with_reducible refine Keep.same ?_) | ((with_reducible refine WpH.here ?_); first | (refine WpH.nil ?_; refine NoP.normal ?_) | (refine WpH.load (by rfl) (by rfl) (by go_simp; rfl) ?_; simp only [Act.put, List.setIfInBounds_toArray, List.set_cons_zero, List.set_cons_succ]) | (refine WpH.loadT (by rfl) (by rfl) (by go_simp; rfl) (by rintro _ _ ⟨⟩; exact ⟨_, _, _, _, _, _, by rfl, by assumption, by assumption⟩) ?_; simp only [Act.put, List.setIfInBounds_toArray, List.set_cons_zero, List.set_cons_succ]) | (refine WpH.pure (by rfl) (fun w_ => by go_simp; (try go_bits); rfl) ?_; simp only [Act.put, List.setIfInBounds_toArray, List.set_cons_zero, List.set_cons_succ]) | (refine WpH.wild1 (by rfl) (fun _ _ => ?_)) | (refine WpH.skip (by rfl) ?_; simp only [Act.put, List.setIfInBounds_toArray, List.set_cons_zero, List.set_cons_succ])) | ((with_reducible refine WpO.here ?_); first | (refine WpO.done ?_; first | refine NoP.normal ?_ | refine NoO.normal ?_) | (refine WpO.load (by rfl) (by rfl) (by go_simp; rfl) ?_; simp only [Act.put, List.setIfInBounds_toArray, List.set_cons_zero, List.set_cons_succ]) | (refine WpO.loadT (by rfl) (by rfl) (by go_simp; rfl) (by rintro _ _ ⟨⟩; exact ⟨_, _, _, _, _, _, by rfl, by assumption, by assumption⟩) ?_; simp only [Act.put, List.setIfInBounds_toArray, List.set_cons_zero, List.set_cons_succ]) | (refine WpO.pure (by rfl) (fun w_ => by go_simp; (try go_bits); rfl) ?_; simp only [Act.put, List.setIfInBounds_toArray, List.set_cons_zero, List.set_cons_succ]) | (refine WpO.skip (by rfl) ?_; simp only [Act.put, List.setIfInBounds_toArray, List.set_cons_zero, List.set_cons_succ]) | refine WpO.wild ?_ | refine WpO.two ?_ ?_ | refine WpO.three ?_ ?_ ?_) | ((with_reducible refine wildO.here ?_); first | (refine wildO.go (by rfl) (fun _ _ => ?_)) | (refine wildO.skip (by rfl) ?_; simp only [Act.put, List.setIfInBounds_toArray, List.set_cons_zero, List.set_cons_succ])) | go_values | go_skip | go_guarded | go_step | go_upon | go_back | (with_reducible refine NoO.normal ?_) | gi_step | gi_upon)
      all_goals
        have ea : Below V3.heap.size V3 (V3.alloc (.cells #[.int .i64 e'.epoch, .int .i64 e'.rep, .int .i64 e'.num, .int .i32 e'.char, .int .i64 e'.hides, .int .i64 e'.epoch, .int .i64 e'.rep, .int .i64 e'.num, .int .i32 e'.char, .int .i64 e'.hides] 36)) := (Below.refl _ _).alloc (Nat.le_refl _) _
        have d1 : But2 gt ((U.heap.size + 1)) V V5 := (((But2.of_below (Below.refl _ _).drew).trans (But2.of_but H3.out.2.2.2.2)).trans (But2.of_below ea)).trans (But2.of_but HB5.out)
        have d2 := d1.trans (But2.setY (x := gt) (y := (U.heap.size + 1)) V5 (.int .i64 ((m : Int) + 1)))
        have hpre : (pre ++ [(e', m)]).length = m + 1 := by rw [List.length_append, Hm.out]; rfl
        have hl5 := Hl5.out
        have hl3 := H3l.out
        have hl1 := Hl1.out
        refine ⟨HK0.out.1.trans (d2.keepN HT1.out.1 Hn.out), HK0.out.2.trans (d2.kpT htZ2.lt hnZ2.lt (fun h => h.1 rfl) (fun h => h.2 rfl)), ?_⟩
        show RI Z2 _ gt ((U.heap.size + 1)) ck (pre ++ [(e', m)]).length (T1.all.length + (pre ++ [(e', m)]).length)
        rw [hpre]
        exact ⟨hbutV.trans d2, by simpa using hn5.set_ 0 (.int .i64 ((m : Int) + 1)), p5', T5', hgt5'.far (Ne.symm tn) _, hT5'.keep (Same.setCell (S := fun b => b ≠ gt ∧ b ≠ (U.heap.size + 1)) V5 (fun h => h.2 rfl) _), by omega⟩
    case done2 =>
      rintro xs W rfl hI
      rw [List.length_zipIdx] at hI
      exact ⟨_, hI⟩
    case end2 =>
      rintro D2 W hD ⟨len1, hI⟩ hK
      have hkW := hI.but.blk hkV (hkV.ne htV (by decide)) (by omega)
      have hwW := hI.but.blk hwV (hwV.ne htV (by decide)) (by omega)
      have kW := hkW.cell 0
      have nW := hI.n.cell 0
      have wW := hwW.cell 0
      simp at kW nW wW
      have hkl := hkW.lt
      have HI := hid hI
      have HD := hid hD
      have HK := hid hK
      clear hI hD hK
      repeat' (first | (with_reducible refine roundsW_at ?_) | (with_reducible refine Keep.last ?_) | (with_reducible refine Keep.below (by assumption) ?_) | (with_reducible refine Keep.kept (by assumption) ?_) | (with_reducible refine Keep.alloc ?_) | (with_reducible refine Keep.same ?_) | ((with_reducible refine WpH.here ?_); first | (refine WpH.nil ?_; refine NoP.normal ?_) | (refine WpH.load (by rfl) (by rfl) (by go_simp; rfl) ?_; simp only [Act.put, List.setIfInBounds_toArray, List.set_cons_zero, List.set_cons_succ]) | (refine WpH.loadT (by rfl) (by rfl) (by go_simp; rfl) (by rintro _ _ ⟨⟩; exact ⟨_, _, _, _, _, _, by rfl, by assumption, by assumption⟩) ?_; simp only [Act.put, List.setIfInBounds_toArray, List.set_cons_zero, List.set_cons_succ]) | (refine WpH.pure (by rfl) (fun w_ => by go_simp; (try go_bits); rfl) ?_; simp only [Act.put, List.setIfInBounds_toArray, List.set_cons_zero, List.set_cons_succ]) | (refine WpH.wild1 (by rfl) (fun _ _ => ?_)) | (refine WpH.skip (by rfl) ?_; simp only [Act.put, List.setIfInBounds_toArray, List.set_cons_zero, List.set_cons_succ])) | ((with_reducible refine WpO.here ?_); first | (refine WpO.done ?_; first | refine NoP.normal ?_ | refine NoO.normal ?_) | (refine WpO.load (by rfl) (by rfl) (by go_simp; rfl) ?_; simp only [Act.put, List.setIfInBounds_toArray, List.set_cons_zero, List.set_cons_succ]) | (refine WpO.loadT (by rfl) (by rfl) (by go_simp; rfl) (by rintro _ _ ⟨⟩; exact ⟨_, _, _, _, _, _, by rfl, by assumption, by assumption⟩) ?_; simp only [Act.put, List.setIfInBounds_toArray, List.set_cons_zero, List.set_cons_succ]) | (refine WpO.pure (by rfl) (fun w_ => by go_simp; (try go_bits); rfl) ?_; simp only [Act.put, List.setIfInBounds_toArray, List.set_cons_zero, List.set_cons_succ]) | (refine WpO.skip (by rfl) ?_; simp only [Act.put, List.setIfInBounds_toArray, List.set_cons_zero, List.set_cons_succ]) | refine WpO.wild ?_ | refine WpO.two ?_ ?_ | refine WpO.three ?_ ?_ ?_) | ((with_reducible refine wildO.here ?_); first | (refine wildO.go (by rfl) (fun _ _ => ?_)) | (refine wildO.skip (by rfl) ?_; simp only [Act.put, List.setIfInBounds_toArray, List.set_cons_zero, List.set_cons_succ])) | go_values | go_skip | go_guarded | go_step | go_upon | go_back)
      refine Stop.go ?_
      refine roundsW_next ?_
      have hFW := hFV.but2 HI.out.but htV hnV
      have hDW : W.heap[D]? = some (.deferred (some [])) := by
        refine (HI.out.but.block D (lt_of_heap HKV.out) (fun e => ?_) (fun e => ?_)).trans HKV.out
        · subst e; have h1 := HKV.out; unfold Blk at htV; rw [htV] at h1; cases h1
        · subst e; have h1 := HKV.out; unfold Blk at hnV; rw [hnV] at h1; cases h1
      have HDW := hid hDW
      have bW2 : Below w.heap.size w W := HI.out.but.below bV (Nat.le_refl _) hwg (by have := bU.size; omega)
      clear hDW
      repeat' (first | (go_at_call 25; go_must ((with_reducible refine Calls.mono (wakes4_any _) ?_); rintro _ W8 ⟨rfl, hb8⟩; have hO8 := (hFW.o.alloc (.cells #[.int .i64 2] 3)).step hb8; have o8 := hO8.cell 0; have f8 := hO8.frozen 0; simp at o8; have ol8 := hO8.lt; dsimp only)) | (with_reducible refine Keep.last ?_) | (with_reducible refine Keep.below (by assumption) ?_) | (with_reducible refine Keep.kept (by assumption) ?_) | (with_reducible refine Keep.alloc ?_) | (with_reducible refine Keep.same ?_) | ((with_reducible refine WpH.here ?_); first | (refine WpH.nil ?_; refine NoP.normal ?_) | (refine WpH.load (by rfl) (by rfl) (by go_simp; rfl) ?_; simp only [Act.put, List.setIfInBounds_toArray, List.set_cons_zero, List.set_cons_succ]) | (refine WpH.loadT (by rfl) (by rfl) (by go_simp; rfl) (by rintro _ _ ⟨⟩; exact ⟨_, _, _, _, _, _, by rfl, by assumption, by assumption⟩) ?_; simp only [Act.put, List.setIfInBounds_toArray, List.set_cons_zero, List.set_cons_succ]) | (refine WpH.pure (by rfl) (fun w_ => by go_simp; (try go_bits); rfl) ?_; simp only [Act.put, List.setIfInBounds_toArray, List.set_cons_zero, List.set_cons_succ]) | (refine WpH.wild1 (by rfl) (fun _ _ => ?_)) | (refine WpH.skip (by rfl) ?_; simp only [Act.put, List.setIfInBounds_toArray, List.set_cons_zero, List.set_cons_succ])) | ((with_reducible refine WpO.here ?_); first | (refine WpO.done ?_; first | refine NoP.normal ?_ | refine NoO.normal ?_) | (refine WpO.load (by rfl) (by rfl) (by go_simp; rfl) ?_; simp only [Act.put, List.setIfInBounds_toArray, List.set_cons_zero, List.set_cons_succ]) | (refine WpO.loadT (by rfl) (by rfl) (by go_simp; rfl) (by rintro _ _ ⟨⟩; exact ⟨_, _, _, _, _, _, by rfl, by assumption, by assumption⟩) ?_; simp only [Act.put, List.setIfInBounds_toArray, List.set_cons_zero, List.set_cons_succ]) | (refine WpO.pure (by rfl) (fun w_ => by go_simp; (try go_bits); rfl) ?_; simp only [Act.put, List.setIfInBounds_toArray, List.set_cons_zero, List.set_cons_succ]) | (refine WpO.skip (by rfl) ?_; simp only [Act.put, List.setIfInBounds_toArray, List.set_cons_zero, List.set_cons_succ]) | refine WpO.wild ?_ | refine WpO.two ?_ ?_ | refine WpO.three ?_ ?_ ?_) | ((with_reducible refine wildO.here ?_); first | (refine wildO.go (by rfl) (fun _ _ => ?_)) | (refine wildO.skip (by rfl) ?_; simp only [Act.put, List.setIfInBounds_toArray, List.set_cons_zero, List.set_cons_succ])) | go_values | go_skip | go_guarded | go_step | go_upon | go_back)
      have eX : Below W.heap.size W (W.alloc (.cells #[.int .i64 2] 3)) := (Below.refl _ _).alloc (Nat.le_refl _) _
      have e8 : Below W.heap.size W W8 := eX.trans (hb8.mono eX.size)
      have k1 : (W8.setCell ⟨w.heap.size + 1, 0, none⟩ (.bool true)).heap[D2]? = some (.deferred (some [])) := (Below.heap_setCell _ _ _ _ (fun e => by have h1 := HK.out; have e' : D2 = w.heap.size + 1 := e; rw [e'] at h1; have h2 := hFW.o; unfold Blk at h2; rw [h2] at h1; cases h1)).trans ((e8.block D2 (lt_of_heap HK.out)).trans HK.out)
      have k2 : (W8.setCell ⟨w.heap.size + 1, 0, none⟩ (.bool true)).heap[D]? = some (.deferred (some [])) := (Below.heap_setCell _ _ _ _ (fun e => by have h1 := HDW.out; have e' : D = w.heap.size + 1 := e; rw [e'] at h1; have h2 := hFW.o; unfold Blk at h2; rw [h2] at h1; cases h1)).trans ((e8.block D (lt_of_heap HDW.out)).trans HDW.out)
      have hO9 := hO8.set_ 0 (.bool true)
      have n1 : w.heap.size + 1 ≠ D2 := fun e => by have h1 := HK.out; rw [← e] at h1; have h2 := hFW.o; unfold Blk at h2; rw [h2] at h1; cases h1
      have n2 : w.heap.size + 1 ≠ D := fun e => by have h1 := HDW.out; rw [← e] at h1; have h2 := hFW.o; unfold Blk at h2; rw [h2] at h1; cases h1
      refine leaves2 (v := .bool true) k1 k2 (by have h1 := lt_of_heap HKV.out; have h2 := HD.out; omega) ?_ ⟨rfl, ?_⟩
      · rintro w' rfl
        have c9 : ((((W8.setCell ⟨w.heap.size + 1, 0, none⟩ (.bool true)).putObj D2 (.deferred none)).putObj D (.deferred none)).cell? ⟨w.heap.size + 1, 0, none⟩) = some (.bool true) :=
          (World.cell?_of_block ((World.putObj_heap_other n2).trans (World.putObj_heap_other n1))).trans (hO9.cell 0)
        simp [results, Tryd.results3, go_sem, c9]
      · have bw8 := bW2.trans (e8.mono bW2.size)
        have hz := b1s
        have q1 := (bw8.setCell (p := ⟨w.heap.size + 1, 0, none⟩) (Nat.le_succ _) (.bool true))
        exact ⟨q1.os, q1.tape, q1.output, by simpa using q1.size, fun k hk => ((World.putObj_heap_other (by have := HKV.out; have := HD.out; have := hDge; omega)).trans (World.putObj_heap_other (by have := HD.out; have := bV.size; omega))).trans (q1.block k hk)⟩
theorem range_true (chunk stop at_ : Int) (A : Option Addr) (n c : Nat) (ls : List El) (SB : Nat → Prop) (w : World) (hr : Row w SB A n c ls) :
    Calls Tryd.prog 3 #[.agg #[.int .i64 chunk, .int .i64 stop, .int .i64 at_, .slice A n c]] w fun e w' => e = .returned (.bool true) ∧ Below w.heap.size w w' := by
  by_cases h : n ≤ 200
  · exact range_short chunk stop at_ A n c ls SB w hr h
  · exact range_long chunk stop at_ A n c ls SB w hr (by omega)
end Go.Proofs.YtogkbddniacgiaaDoor
