/- barrowlaw05.ModelAll: the walk: it returns true, old memory stands. Conditions: the row and the reasons lie in memory, the numbers fit their kinds. -/
import Derived.Test.YtfihjajllfihjaaDoorMAll
import Derived.Test.YtfihjajllfihjaaDoorMPurge
import Derived.Test.YtfihjajllfihjaaDoorWakes5
import Derived.Test.YtfihjajllfihjaaDoorBegun5
import Derived.Laws.StructEq
namespace Go.Proofs.YtfihjajllfihjaaDoor
set_option linter.unusedSimpArgs false
set_option linter.unusedVariables false
open Go Go.RowKit
variable {a : Nat → Addr}
theorem box3 (w : World) (t u s : TypeId) (x y z : Array Value) : let W := ((w.alloc (.cells x t)).alloc (.cells y u)).alloc (.cells z s)
    Blk W w.heap.size t x ∧ Blk W (w.heap.size + 1) u y ∧ Blk W (w.heap.size + 1 + 1) s z ∧ Below w.heap.size w W := by
  intro W
  have s1 : (w.alloc (.cells x t)).heap.size = w.heap.size + 1 := Array.size_push _
  have s2 : ((w.alloc (.cells x t)).alloc (.cells y u)).heap.size = w.heap.size + 1 + 1 := by rw [← s1]; exact Array.size_push _
  refine ⟨((Blk.new w t x).alloc _).alloc _, ?_, ?_, balloc (balloc (balloc (Below.refl _ _)))⟩
  · have := (Blk.new (w.alloc (.cells x t)) u y).alloc (.cells z s)
    rw [s1] at this
    exact this
  · have := Blk.new ((w.alloc (.cells x t)).alloc (.cells y u)) s z
    rw [s2] at this
    exact this
/-- what may be written while it is ranged over -/
def X3 (nb gt gm : Nat) (b : Nat) : Prop := b = nb ∨ b = gt ∨ b = gm
theorem MdlAt.turn {A B : World} {base mb gt gm K : Nat} {l : List El} (h : MdlAt A (fun _ => True) mb gt gm l K) (hT : Turn 3 base A B) (h1 : mb < base) (h2 : gt < base) (h3 : gm < base) : MdlAt B (fun _ => True) mb gt gm l K := by
  obtain ⟨p, T, k1, k2, k3, k4, k5, k6⟩ := h
  exact ⟨p, T, k1.turn hT h1, k2.turn hT h2, k3.turn hT, k4, k5.heap (hT.low _ k5.lt h3), k6⟩
theorem MdlAt.begun {A B : World} {ll mb gt gm K : Nat} {l : List El} (h : MdlAt A (fun _ => True) mb gt gm l K) (hB : Begun ll A B) (h3 : gm < ll) : MdlAt B (fun _ => True) mb gt gm l K := by
  obtain ⟨p, T, k1, k2, k3, k4, k5, k6⟩ := h
  exact ⟨p, T, hB.blk k1, hB.blk k2, hB.tree k3, k4, k5.heap (hB.block _ (by omega)), k6⟩
theorem MdlAt.step {A B : World} {S : Nat → Prop} {mb gt gm K : Nat} {l : List El} (h : MdlAt A S mb gt gm l K) (hb : Below A.heap.size A B) : MdlAt B S mb gt gm l K := by
  obtain ⟨p, T, k1, k2, k3, k4, k5, k6⟩ := h
  exact ⟨p, T, k1.step hb, k2.step hb, k3.step hb, k4, k5.heap (hb.block _ k5.lt), k6⟩
theorem MdlAt.all {A : World} {S : Nat → Prop} {mb gt gm K : Nat} {l : List El} (h : MdlAt A S mb gt gm l K) : MdlAt A (fun _ => True) mb gt gm l K := by
  obtain ⟨p, T, k1, k2, k3, k4, k5, k6, k7, k8, k9⟩ := h
  exact ⟨p, T, k1, k2, k3.more fun b _ h => ⟨trivial, h.2⟩, k4, k5, trivial, trivial, trivial, k9⟩
theorem MdlAt.setBox {A : World} {mb gt gm K nb : Nat} {l : List El} {t : TypeId} {v u : Value} (h : MdlAt A (fun _ => True) mb gt gm l K) (hn : Blk A nb t #[v]) : MdlAt (A.setCell ⟨nb, 0, none⟩ u) (fun _ => True) mb gt gm l K := by
  obtain ⟨p, T, k1, k2, k3, k4, k5, k6⟩ := h
  have big : ∀ {b : Nat} {w x : Value} {s : TypeId}, Blk A b s #[w, x] → b ≠ nb := fun {b w x s} hb e => by
    subst e
    unfold Blk at hb hn
    rw [hb] at hn
    injection hn with hn
    injection hn with hn _ _
    exact absurd (congrArg Array.size hn) (by simp)
  refine ⟨p, T, k1.far (big k1) _, k2.far (big k2) _, (k3.strict.keep (w' := A.setCell ⟨nb, 0, none⟩ u) fun b hb _ => Below.heap_setCell _ _ _ _ fun e => ?_).more fun _ _ h => h.1, k4, k5.heap (Below.heap_setCell _ _ _ _ fun e => ?_), k6⟩
  · have e : b = nb := e
    subst e
    obtain ⟨cs, u', z, hc, hz⟩ := hb.2
    unfold Blk at hn
    rw [hn] at hc
    injection hc with hc
    injection hc with hc _ _
    subst hc
    simp at hz
  · have e : gm = nb := e
    subst e
    exact k5.ne_blk hn rfl
/-- between two rounds: cnt have come -/
structure MI (Z V : World) (mb gt gm nb : Nat) (L : List El) (K cnt : Nat) : Prop where
  out : Out (X3 nb gt gm) Z V
  n : Blk V nb 3 #[.int .i64 cnt]
  m : ∃ L', (L' = L ∨ L' = purgeOf L) ∧ MdlAt V (fun _ => True) mb gt gm L' K
theorem Out.turn {S : Nat → Prop} {Z A B : World} {t : TypeId} {base : Nat} (h : Out S Z A) (hT : Turn t base A B) (hz : Z.heap.size ≤ base) : Out S Z B :=
  ⟨hT.os.trans h.os, hT.tape.trans h.tape, hT.output.trans h.output, Nat.le_trans h.size hT.size, fun k hk hn => (hT.low k (Nat.lt_of_lt_of_le hk h.size) (by omega)).trans (h.block k hk hn)⟩
theorem Out.begun {S : Nat → Prop} {Z A B : World} {l : Nat} (h : Out S Z A) (hB : Begun l A B) (hl : Z.heap.size ≤ l) : Out S Z B :=
  ⟨hB.os.trans h.os, hB.tape.trans h.tape, hB.output.trans h.output, by rw [hB.size]; exact h.size, fun k hk hn => (hB.block k (by omega)).trans (h.block k hk hn)⟩
theorem MI.turn {Z A B : World} {mb gt gm nb K cnt : Nat} {L : List El} (h : MI Z A mb gt gm nb L K cnt) (hT : Turn 3 Z.heap.size A B) (h1 : mb < Z.heap.size) (h2 : gt < Z.heap.size) (h3 : gm < Z.heap.size) (h4 : nb < Z.heap.size) : MI Z B mb gt gm nb L K cnt := by
  obtain ⟨L', hL, hm⟩ := h.m
  exact ⟨h.out.turn hT (Nat.le_refl _), h.n.turn hT h4, L', hL, hm.turn hT h1 h2 h3⟩
theorem MI.begun {Z A B : World} {mb gt gm nb K cnt l : Nat} {L : List El} (h : MI Z A mb gt gm nb L K cnt) (hB : Begun l A B) (hl : Z.heap.size ≤ l) (h3 : gm < Z.heap.size) : MI Z B mb gt gm nb L K cnt := by
  obtain ⟨L', hL, hm⟩ := h.m
  exact ⟨h.out.begun hB hl, hB.blk h.n, L', hL, hm.begun hB (by omega)⟩
theorem MI.step {Z A B : World} {mb gt gm nb K cnt : Nat} {L : List El} (h : MI Z A mb gt gm nb L K cnt) (hb : Below A.heap.size A B) : MI Z B mb gt gm nb L K cnt := by
  obtain ⟨L', hL, hm⟩ := h.m
  exact ⟨h.out.trans (Out.of_below (S := X3 nb gt gm) hb) fun _ _ h => h, h.n.step hb, L', hL, hm.step hb⟩
/-- the nodes of a tree hold more than a box, and are no map -/
theorem MdlAt.nodes {A : World} {mb gt gm K nb : Nat} {l : List El} {t : TypeId} {v : Value} (h : MdlAt A (fun _ => True) mb gt gm l K) (hn : Blk A nb t #[v]) :
    ∃ p T, Blk A mb 138 #[.pointer (some ⟨gt, 0, none⟩), .map (some gm)] ∧ Blk A gt 181 #[.int .i64 64, .pointer p] ∧ IsTree A (fun b => ¬ X3 nb gt gm b) T p ∧ T.all = l := by
  obtain ⟨p, T, k1, k2, k3, k4, k5, -⟩ := h
  refine ⟨p, T, k1, k2, k3.strict.more fun b _ hb h3 => ?_, k4⟩
  obtain ⟨⟨-, hne⟩, cs, u, z, hc, hz⟩ := hb
  rcases h3 with rfl | rfl | rfl
  · unfold Blk at hn
    rw [hn] at hc
    injection hc with hc
    injection hc with hc _ _
    subst hc
    simp at hz
  · exact hne rfl
  · obtain ⟨n, D, ⟨es, clock, hm, _⟩, _⟩ := k5
    rw [hm] at hc
    cases hc
/-- a round that writes there only keeps what is to be kept -/
theorem Out.rounds {Z A B : World} {nb gt gm : Nat} {t : TypeId} {v : Value} (h : Out (X3 nb gt gm) A B) (h1 : gt < Z.heap.size) (h2 : gm < Z.heap.size) (h3 : nb < Z.heap.size) : KeepN Z.heap.size A B ∧ KpM Z.heap.size (fun b => ¬ X3 nb gt gm b) A B := by
  have lt : ∀ b, X3 nb gt gm b → b < Z.heap.size := fun b hb => by rcases hb with rfl | rfl | rfl <;> assumption
  refine ⟨fun b o hb ho _ => (h.block b (lt_of_heap ho) fun hx => ?_).trans ho, KpT.of_same (X := X3 nb gt gm) h.size (fun b hb hn => h.block b hb hn) (fun b hx _ hs => hs hx) lt, fun b v hb hbx => h.block b hbx.lt fun hx => ?_⟩
  · have := lt b hx; omega
  · have := lt b hx; omega
@[go_sem] theorem eq_iter1_nil (f : Fn) (a c : Array Value) (w : World) : (binOp .eql 37 (.func f a c) .nilFunc).run Tryd.prog w = .ok (.bool false) w := by kernel_rfl
/-- what stands all along -/
structure AFix (W : World) (A : Option Addr) (n c : Nat) (stop : Int) (lb px ga pb mb : Nat) (v : Value) : Prop where
  l : Blk W lb 22 #[.slice A n c]
  s : Blk W (lb + 1) 3 #[.int .i64 stop]
  r : Blk W (lb + 2) 4 #[.bool false]
  x : Blk W px 23 #[.pointer (some ⟨pb, 0, none⟩)]
  g : Blk W ga 27 #[.pointer (some ⟨mb, 0, none⟩)]
  p : Blk W pb 29 #[.pointer (some ⟨mb, 0, none⟩), v]
theorem AFix.keep {W W' : World} {A : Option Addr} {n c : Nat} {stop : Int} {lb px ga pb mb : Nat} {v : Value} (h : AFix W A n c stop lb px ga pb mb v)
    (k : ∀ b, (b = lb ∨ b = lb + 1 ∨ b = lb + 2 ∨ b = px ∨ b = ga ∨ b = pb) → b < W.heap.size → W'.heap[b]? = W.heap[b]?) : AFix W' A n c stop lb px ga pb mb v :=
  ⟨(k _ (by simp) h.l.lt).trans h.l, (k _ (by simp) h.s.lt).trans h.s, (k _ (by simp) h.r.lt).trans h.r, (k _ (by simp) h.x.lt).trans h.x, (k _ (by simp) h.g.lt).trans h.g, (k _ (by simp) h.p.lt).trans h.p⟩
theorem AFix.step {W W' : World} {A : Option Addr} {n c : Nat} {stop : Int} {lb px ga pb mb : Nat} {v : Value} (h : AFix W A n c stop lb px ga pb mb v) (hb : Below W.heap.size W W') : AFix W' A n c stop lb px ga pb mb v := h.keep fun b _ hl => hb.block b hl
theorem AFix.out {W W' : World} {A : Option Addr} {n c : Nat} {stop : Int} {lb px ga pb mb : Nat} {v : Value} {S : Nat → Prop} (h : AFix W A n c stop lb px ga pb mb v) (hO : Out S W W')
    (hx : ∀ b, (b = lb ∨ b = lb + 1 ∨ b = lb + 2 ∨ b = px ∨ b = ga ∨ b = pb) → ¬ S b) : AFix W' A n c stop lb px ga pb mb v := h.keep fun b hb hl => hO.block b hl (hx b hb)
theorem purgeOf_idem (l : List El) : purgeOf (purgeOf l) = purgeOf l := by
  unfold purgeOf
  rw [List.filter_filter]
  congr 1
  funext x
  simp
theorem purge_same {L L' : List El} (h : L' = L ∨ L' = purgeOf L) : purgeOf L' = purgeOf L := by
  rcases h with rfl | rfl
  · rfl
  · exact purgeOf_idem _
theorem prefix_at {L pre : List El} {x : El} (h : pre ++ [x] <+: L) : L[pre.length]? = some x ∧ pre.length < L.length := by
  obtain ⟨r, rfl⟩ := h
  refine ⟨?_, by simp⟩
  rw [List.append_assoc, List.getElem?_append_right (Nat.le_refl _)]
  simp
theorem Row.away {W : World} {S : Nat → Prop} {A : Option Addr} {n c nb gt gm K : Nat} {es l : List El} {mb : Nat} {t : TypeId} {v : Value} (h : Row W S A n c es) (hm : MdlAt W (fun _ => True) mb gt gm l K) (hn : Blk W nb t #[v]) (hg : ∀ b, S b → b ≠ gt) : Row W (fun b => ¬ X3 nb gt gm b) A n c es := by
  obtain ⟨p, T, k1, k2, k3, k4, k5, -⟩ := hm
  refine h.strict.more fun b _ hb h3 => ?_
  obtain ⟨hS, cs, u, z, hc, hz⟩ := hb
  rcases h3 with rfl | rfl | rfl
  · unfold Blk at hn
    rw [hn] at hc
    injection hc with hc
    injection hc with hc _ _
    subst hc
    simp at hz
  · exact hg b hS rfl
  · obtain ⟨n, D, ⟨es, clock, hm, _⟩, _⟩ := k5
    rw [hm] at hc
    cases hc
theorem within_ex (n m : Int) (hm : m ≠ 0) (w : World) : Calls Tryd.prog 26 #[.int .i64 n, .int .i64 m] w fun e w' => (∃ q : Int, e = .returned (.int .i64 q)) ∧ w = w' := by
  have hm' : (m == 0) = false := by simpa using hm
  go_enter Tryd.func26, Tryd.ntmps26
  repeat' (first | (with_reducible refine Keep.last ?_) | (with_reducible refine Keep.below (by assumption) ?_) | (with_reducible refine Keep.kept (by assumption) ?_) | (with_reducible refine Keep.alloc ?_) | (with_reducible refine Keep.same ?_) | ((with_reducible refine WpH.here ?_); first | (refine WpH.nil ?_; refine NoP.normal ?_) | (refine WpH.load (by rfl) (by rfl) (by go_simp; rfl) ?_; simp only [Act.put, List.setIfInBounds_toArray, List.set_cons_zero, List.set_cons_succ]) | (refine WpH.loadT (by rfl) (by rfl) (by go_simp; rfl) (by rintro _ _ ⟨⟩; exact ⟨_, _, _, _, _, _, by rfl, by assumption, by assumption⟩) ?_; simp only [Act.put, List.setIfInBounds_toArray, List.set_cons_zero, List.set_cons_succ]) | (refine WpH.pure (by rfl) (fun w_ => by go_simp; (try go_bits); rfl) ?_; simp only [Act.put, List.setIfInBounds_toArray, List.set_cons_zero, List.set_cons_succ]) | (refine WpH.wild1 (by rfl) (fun _ _ => ?_)) | (refine WpH.skip (by rfl) ?_; simp only [Act.put, List.setIfInBounds_toArray, List.set_cons_zero, List.set_cons_succ])) | go_values | go_skip | go_guarded | go_step | go_upon | go_back)
  skip
  all_goals
    go_ret
    exact ⟨⟨_, rfl⟩, rfl⟩
theorem wrap_ne (n : Nat) (h : n ≤ 9223372036854775807) : wrap64 ((n : Int) + 1) ≠ 0 := by
  unfold wrap64
  omega
theorem beq_or (m q : Int) : (m == q) = true ∨ (m == q) = false := by
  cases m == q
  · exact .inr rfl
  · exact .inl rfl
theorem stop_regionIn' (id : Nat) {F : Fence} {n : Nat} {P : Program} {ops : Array Oper} {b : Bool} {Q : Exit → Act → World → Prop} {a : Act} {w : World} (h : Stop ((Code.region id ops b).wpIn F n P Q a w)) : (Code.region id ops b).wpIn F n P Q a w := by unfold Stop at h; exact h
theorem roundsW_at' {P : Program} {c : Code} {Q : Exit → Act → World → Prop} {n : Nat} {a : Act} {w : World} (h : Stop (roundsW P c Q n a w)) : roundsW P c Q n a w := by unfold Stop at h; exact h
theorem stop_loop' {P : Program} {c : Code} {Q : Exit → Act → World → Prop} {a : Act} {w : World} (h : Stop ((Code.loop c).wp P Q a w)) : (Code.loop c).wp P Q a w := by unfold Stop at h; exact h
set_option maxRecDepth 100000 in
set_option maxHeartbeats 4000000 in
theorem mall_no (w : World) (A : Option Addr) (n c j : Nat) (stop : Int) (ls : List El) (ej : El) (S S' : Nat → Prop) (hr : Row w S A n c ls) (hg : AllRight ((ls.take (min n 100)).take j)) (hj : (ls.take (min n 100))[j]? = some ej) (hw : wrongS (((ls.take (min n 100)).take j).map El.nm) ej ≠ 0) (hin : ∀ e ∈ ls, e.In) (hs : Sents w S' a) :
    Calls Tryd.prog 4 #[.slice A n c, .int .i64 stop] w fun e w' => e = .returned (.bool true) ∧ Below w.heap.size w w' := by
  obtain ⟨hl0, hs0, hr0, b0⟩ := box3 w 22 3 4 #[.slice A n c] #[.int .i64 stop] #[.bool false]
  have HB := hid (begun5_no (a := a) _ A n c j ls ej S S' (hr.step b0) hg hj hw hin (hs.step b0))
  have HK := hid wakes5_any
  have l0 := hl0.cell 0
  simp at l0
  have ll := hl0.lt
  clear hr hg hj hw hin hs
  go_enter Tryd.func4, Tryd.ntmps4
  repeat' (first | (with_reducible refine stop_region 1 ?_) | (with_reducible refine Keep.last ?_) | (with_reducible refine Keep.below (by assumption) ?_) | (with_reducible refine Keep.kept (by assumption) ?_) | (with_reducible refine Keep.alloc ?_) | (with_reducible refine Keep.same ?_) | ((with_reducible refine WpH.here ?_); first | (refine WpH.nil ?_; refine NoP.normal ?_) | (refine WpH.load (by rfl) (by rfl) (by go_simp; rfl) ?_; simp only [Act.put, List.setIfInBounds_toArray, List.set_cons_zero, List.set_cons_succ]) | (refine WpH.loadT (by rfl) (by rfl) (by go_simp; rfl) (by rintro _ _ ⟨⟩; exact ⟨_, _, _, _, _, _, by rfl, by assumption, by assumption⟩) ?_; simp only [Act.put, List.setIfInBounds_toArray, List.set_cons_zero, List.set_cons_succ]) | (refine WpH.pure (by rfl) (fun w_ => by go_simp; (try go_bits); rfl) ?_; simp only [Act.put, List.setIfInBounds_toArray, List.set_cons_zero, List.set_cons_succ]) | (refine WpH.wild1 (by rfl) (fun _ _ => ?_)) | (refine WpH.skip (by rfl) ?_; simp only [Act.put, List.setIfInBounds_toArray, List.set_cons_zero, List.set_cons_succ])) | go_values | go_skip | go_guarded | go_step | go_upon | go_back)
  refine Stop.go ?_
  generalize ((w.alloc (.cells #[.slice A n c] 22)).alloc (.cells #[.int .i64 stop] 3)).alloc (.cells #[.bool false] 4) = X at *
  repeat' (first | (go_at_call 16; go_must ((with_reducible refine Calls.mono HB.out ?_); rintro _ w1 ⟨rfl, hb1⟩; dsimp only)) | (go_at_call 17; go_must ((with_reducible refine Calls.mono (HK.out _) ?_); rintro _ w9 ⟨rfl, hb9⟩; have hr9 := ((hr0.step hb1).alloc (.cells #[.pointer none] 23)).step hb9; have r9 := hr9.cell 0; have f9 := hr9.frozen 0; have rl9 := hr9.lt; simp at r9; dsimp only)) | (with_reducible refine Keep.last ?_) | (with_reducible refine Keep.below (by assumption) ?_) | (with_reducible refine Keep.kept (by assumption) ?_) | (with_reducible refine Keep.alloc ?_) | (with_reducible refine Keep.same ?_) | ((with_reducible refine WpH.here ?_); first | (refine WpH.nil ?_; refine NoP.normal ?_) | (refine WpH.load (by rfl) (by rfl) (by go_simp; rfl) ?_; simp only [Act.put, List.setIfInBounds_toArray, List.set_cons_zero, List.set_cons_succ]) | (refine WpH.loadT (by rfl) (by rfl) (by go_simp; rfl) (by rintro _ _ ⟨⟩; exact ⟨_, _, _, _, _, _, by rfl, by assumption, by assumption⟩) ?_; simp only [Act.put, List.setIfInBounds_toArray, List.set_cons_zero, List.set_cons_succ]) | (refine WpH.pure (by rfl) (fun w_ => by go_simp; (try go_bits); rfl) ?_; simp only [Act.put, List.setIfInBounds_toArray, List.set_cons_zero, List.set_cons_succ]) | (refine WpH.wild1 (by rfl) (fun _ _ => ?_)) | (refine WpH.skip (by rfl) ?_; simp only [Act.put, List.setIfInBounds_toArray, List.set_cons_zero, List.set_cons_succ])) | go_values | go_skip | go_guarded | go_step | go_upon | go_back)
  skip
  have hrt := (hr9.set_ 0 (.bool true)).cell 0
  simp at hrt
  refine bodyPost_ret (v := .bool true) (by simp [results, Tryd.results4, go_sem, hrt]) rfl ⟨rfl, ?_⟩
  have e1 := bvia hb1 (balloc (o := .cells #[.pointer none] 23) (Below.refl _ w1))
  exact bset (bvia b0 (bvia e1 hb9)) (by show w.heap.size ≤ w.heap.size + 1 + 1; omega)
end Go.Proofs.YtfihjajllfihjaaDoor
