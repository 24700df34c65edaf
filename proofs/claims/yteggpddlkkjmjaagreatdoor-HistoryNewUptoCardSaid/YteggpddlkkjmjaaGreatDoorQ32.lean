/- Part of a proof: what functions of the program compute. Conditions: as each theorem says. -/
import Derived.Maps.RangeWalk
import Derived.Test.YteggpddlkkjmjaaGreatDoorQ18
import Derived.Test.YteggpddlkkjmjaaGreatDoorQ19
set_option linter.unusedSimpArgs false
set_option linter.unusedVariables false
set_option maxHeartbeats 4000000
set_option maxRecDepth 100000
namespace Go.Proofs.YteggpddlkkjmjaaGreatDoor
open Go Go.RowKit
def lgVals (ep : Int) (bm mb : Nat) (A : Option Addr) (n c : Nat) (B : Option Addr) (m d : Nat) (k : Clk) : Array Value :=
 #[.int .i64 ep, .map (some bm), .pointer (some ⟨mb, 0, none⟩), .slice A n c, .slice B m d, .int .i64 k.c0, .int .i64 k.c1, .int .i64 k.c2, .int .i64 k.c3, .int .i64 k.c4, .int .i64 k.c5, .int .i64 k.c6, .int .i64 k.c7]
structure LgIn (w : World) (gb bm mb : Nat) (A : Option Addr) (c : Nat) (B : Option Addr) (d : Nat) (SM : Nat → Prop) (s : Lg) (K : Nat) : Prop where
 g : Blk w gb 100 (lgVals s.ep bm mb A s.acts.length c B s.forms.length d s.clk)
 i : IsSet w bm K (s.base.map El.nm)
 m : Mdl w SM mb s.l K
 a : GOwn 46 w 0 A s.acts.length c s.acts
 b : GOwn 37 w 0 B s.forms.length d s.forms
 sm : ∀ b, SM b → b < w.heap.size ∧ b ≠ gb ∧ b ≠ bm ∧ (∀ x, A = some x → x.block ≠ b) ∧ (∀ x, B = some x → x.block ≠ b)
theorem GOwn.ne_blk {α : Type} [Enc α] {t u : TypeId} {w : World} {base n c g : Nat} {A : Option Addr} {es : List α} {cs : Array Value} (htu : t ≠ u) (h : GOwn t w base A n c es) (k : Blk w g u cs) : ∀ x, A = some x → x.block ≠ g := by
 intro x hx e
 subst hx
 obtain ⟨a', rfl⟩ := h.head
 have e' : a' = g := e
 subst e'
 rcases h.2.2 with ⟨h0, _⟩ | ⟨g1, cap, cur, h1, _, hh, _⟩
 · injection h0 with h0; cases h0
 · injection h1 with h1; injection h1 with h1; injection h1 with h1
   subst h1
   unfold Blk at k
   rw [k] at hh
   injection hh with hh
   injection hh with _ hh
   exact htu hh.symm
theorem GOwn.ne_ids {α : Type} [Enc α] {t : TypeId} {w : World} {base n c bm K : Nat} {A : Option Addr} {es : List α} {s : List Nm} (h : GOwn t w base A n c es) (k : IsIds w bm K s) : ∀ x, A = some x → x.block ≠ bm := by
 intro x hx e
 subst hx
 obtain ⟨a', rfl⟩ := h.head
 have e' : a' = bm := e
 subst e'
 rcases h.2.2 with ⟨h0, _⟩ | ⟨g1, cap, cur, h1, _, hh, _⟩
 · injection h0 with h0; cases h0
 · injection h1 with h1; injection h1 with h1; injection h1 with h1
   subst h1
   obtain ⟨n, D, ⟨es, clock, hm, _⟩, _⟩ := k
   rw [hm] at hh
   cases hh
section
variable {w w' : World} {gb bm mb c d K c' d' : Nat} {A B A' B' : Option Addr} {SM : Nat → Prop} {s : Lg}
theorem LgIn.step (h : LgIn w gb bm mb A c B d SM s K) (hb : Below w.heap.size w w') : LgIn w' gb bm mb A c B d SM s K :=
 ⟨h.g.step hb, h.i.heap (hb.block _ h.i.lt), h.m.step hb, h.a.step hb, h.b.step hb, fun b hs => ⟨Nat.lt_of_lt_of_le (h.sm b hs).1 hb.size, (h.sm b hs).2⟩⟩
theorem LgIn.monoK (h : LgIn w gb bm mb A c B d SM s K) {K' : Nat} (hk : K ≤ K') : LgIn w gb bm mb A c B d SM s K' :=
 ⟨h.g, h.i.monoK hk, h.m.monoK hk, h.a, h.b, h.sm⟩
theorem LgIn.gbm (h : LgIn w gb bm mb A c B d SM s K) : gb ≠ bm := fun e => h.i.ne_blk (e ▸ h.g) rfl
def LgBlk (gb bm : Nat) (A B : Option Addr) (SM : Nat → Prop) (b : Nat) : Prop := SM b ∨ b = gb ∨ b = bm ∨ (∃ x, A = some x ∧ b = x.block) ∨ ∃ x, B = some x ∧ b = x.block
theorem LgIn.keep (h : LgIn w gb bm mb A c B d SM s K) (hz : w.heap.size ≤ w'.heap.size) (hk : ∀ b, b < w.heap.size → LgBlk gb bm A B SM b → w'.heap[b]? = w.heap[b]?) : LgIn w' gb bm mb A c B d SM s K :=
 ⟨(hk _ h.g.lt (.inr (.inl rfl))).trans h.g, h.i.heap (hk _ h.i.lt (.inr (.inr (.inl rfl)))), h.m.keep fun b hb hs => hk b hb (.inl hs),
  h.a.keep (S := fun b => LgBlk gb bm A B SM b) (fun b hb hl => hk b hl hb) fun x hx => .inr (.inr (.inr (.inl ⟨x, hx, rfl⟩))),
  h.b.keep (S := fun b => LgBlk gb bm A B SM b) (fun b hb hl => hk b hl hb) fun x hx => .inr (.inr (.inr (.inr ⟨x, hx, rfl⟩))), fun b hs => ⟨Nat.lt_of_lt_of_le (h.sm b hs).1 hz, (h.sm b hs).2⟩⟩
theorem LgIn.model (h : LgIn w gb bm mb A c B d SM s K) {l' : List El} {K' : Nat} (hM : Mdl w' (Fr w SM) mb l' K') (hO : Out SM w w') (hk : K ≤ K') : LgIn w' gb bm mb A c B d (fun b => Fr w SM b ∧ b < w'.heap.size) { s with l := l' } K' := by
 have ne : ∀ b, SM b → b ≠ gb ∧ b ≠ bm := fun b hs => ⟨(h.sm b hs).2.1, (h.sm b hs).2.2.1⟩
 have ig := h.g.lt
 have ii := h.i.lt
 refine ⟨hO.blk h.g fun hs => (ne _ hs).1 rfl, (h.i.heap (hO.block _ ii fun hs => (ne _ hs).2 rfl)).monoK hk, hM.more fun b hl hs => ⟨hs, hl⟩, ?_, ?_, fun b hs => ⟨hs.2, ?_, ?_, ?_, ?_⟩⟩
 · exact h.a.keep hO.same fun x hx hs => (h.sm _ hs).2.2.2.1 x hx rfl
 · exact h.b.keep hO.same fun x hx hs => (h.sm _ hs).2.2.2.2 x hx rfl
 · rcases hs.1 with h1 | h1
   · exact (ne b h1).1
   · omega
 · rcases hs.1 with h1 | h1
   · exact (ne b h1).2
   · omega
 · intro x hx
   rcases hs.1 with h1 | h1
   · exact (h.sm b h1).2.2.2.1 x hx
   · have := (h.a.block x hx).2; omega
 · intro x hx
   rcases hs.1 with h1 | h1
   · exact (h.sm b h1).2.2.2.2 x hx
   · have := (h.b.block x hx).2; omega
theorem set_sameT {p : Addr} {v : Value} {T : Nat → Prop} (hp : ¬ T p.block) : Same T w (w.setCell p v) := fun b hb _ => Below.heap_setCell _ _ _ _ fun e => hp (e ▸ hb)
theorem LgIn.act (h : LgIn w gb bm mb A c B d SM s K) {x : Actn} (h1 : GOwn 46 w' 0 A' (s.acts.length + 1) c' (s.acts ++ [x])) (h2 : Same (fun k => ∀ g, A = some g → g.block ≠ k) w w') (hz : w.heap.size ≤ w'.heap.size) (hA : A' = A ∨ ∃ g, A' = some ⟨g, 0, none⟩ ∧ w.heap.size ≤ g) :
 LgIn (w'.setCell ⟨gb, 3, none⟩ (.slice A' (s.acts.length + 1) c')) gb bm mb A' c' B d SM { s with acts := s.acts ++ [x] } K := by
 have gA := h.a.ne_blk (by decide) h.g
 have iA := h.a.ne_ids h.i.ids
 have hg : Blk w' gb _ _ := (h2 gb gA h.g.lt).trans h.g
 have ne' : ∀ {q : Nat}, q < w.heap.size → (∀ x, A = some x → x.block ≠ q) → ∀ x, A' = some x → x.block ≠ q := fun {q} hq hx x hx' => by
  rcases hA with rfl | ⟨g, rfl, hg⟩
  · exact hx x hx'
  · injection hx' with hx'
    subst hx'
    show g ≠ q
    omega
 have set_ : ∀ b, b ≠ gb → (w'.setCell ⟨gb, 3, none⟩ (.slice A' (s.acts.length + 1) c')).heap[b]? = w'.heap[b]? := fun b hb => Below.heap_setCell _ _ _ _ hb
 refine ⟨?_, ?_, ?_, ?_, ?_, fun b hs => ⟨?_, (h.sm b hs).2.1, (h.sm b hs).2.2.1, ne' (h.sm b hs).1 (h.sm b hs).2.2.2.1, (h.sm b hs).2.2.2.2⟩⟩
 · have := hg.set_ 3 (.slice A' (s.acts.length + 1) c')
   rw [List.length_append]
   exact this
 · exact (h.i.heap (h2 bm iA h.i.lt)).heap (set_ bm h.gbm.symm)
 · exact h.m.keep fun b hb hs => (set_ b (h.sm b hs).2.1).trans (h2 b (h.sm b hs).2.2.2.1 hb)
 · rw [List.length_append]
   exact h1.keep (set_sameT (T := fun b => b ≠ gb) (fun hh => hh rfl)) fun x hx => ne' h.g.lt gA x hx
 · exact (h.b.apartT (by decide) h.a h2).keep (set_sameT (T := fun b => b ≠ gb) (fun hh => hh rfl)) fun x hx => h.b.ne_blk (by decide) h.g x hx
 · have := (h.sm b hs).1
   simp [World.setCell]
   omega
theorem LgIn.form (h : LgIn w gb bm mb A c B d SM s K) {x : Opn} (h1 : GOwn 37 w' 0 B' (s.forms.length + 1) d' (s.forms ++ [x])) (h2 : Same (fun k => ∀ g, B = some g → g.block ≠ k) w w') (hz : w.heap.size ≤ w'.heap.size) (hB : B' = B ∨ ∃ g, B' = some ⟨g, 0, none⟩ ∧ w.heap.size ≤ g) :
 LgIn (w'.setCell ⟨gb, 4, none⟩ (.slice B' (s.forms.length + 1) d')) gb bm mb A c B' d' SM { s with forms := s.forms ++ [x] } K := by
 have gB := h.b.ne_blk (by decide) h.g
 have iB := h.b.ne_ids h.i.ids
 have hg : Blk w' gb _ _ := (h2 gb gB h.g.lt).trans h.g
 have ne' : ∀ {q : Nat}, q < w.heap.size → (∀ x, B = some x → x.block ≠ q) → ∀ x, B' = some x → x.block ≠ q := fun {q} hq hx x hx' => by
  rcases hB with rfl | ⟨g, rfl, hg⟩
  · exact hx x hx'
  · injection hx' with hx'
    subst hx'
    show g ≠ q
    omega
 have set_ : ∀ b, b ≠ gb → (w'.setCell ⟨gb, 4, none⟩ (.slice B' (s.forms.length + 1) d')).heap[b]? = w'.heap[b]? := fun b hb => Below.heap_setCell _ _ _ _ hb
 refine ⟨?_, ?_, ?_, ?_, ?_, fun b hs => ⟨?_, (h.sm b hs).2.1, (h.sm b hs).2.2.1, (h.sm b hs).2.2.2.1, ne' (h.sm b hs).1 (h.sm b hs).2.2.2.2⟩⟩
 · have := hg.set_ 4 (.slice B' (s.forms.length + 1) d')
   rw [List.length_append]
   exact this
 · exact (h.i.heap (h2 bm iB h.i.lt)).heap (set_ bm h.gbm.symm)
 · exact h.m.keep fun b hb hs => (set_ b (h.sm b hs).2.1).trans (h2 b (h.sm b hs).2.2.2.2 hb)
 · exact (h.a.apartT (by decide) h.b h2).keep (set_sameT (T := fun b => b ≠ gb) (fun hh => hh rfl)) fun x hx => h.a.ne_blk (by decide) h.g x hx
 · rw [List.length_append]
   exact h1.keep (set_sameT (T := fun b => b ≠ gb) (fun hh => hh rfl)) fun x hx => ne' h.g.lt gB x hx
 · have := (h.sm b hs).1
   simp [World.setCell]
   omega
theorem lgVals_set (ep : Int) (bm mb : Nat) (A : Option Addr) (n c : Nat) (B : Option Addr) (m d : Nat) (q : Clk) {k : Nat} (hk : k < 8) (v : Int) :
 (lgVals ep bm mb A n c B m d q).setIfInBounds (5 + k) (.int .i64 v) = lgVals ep bm mb A n c B m d (q.set k v) := by
 rcases lt8 hk with rfl | rfl | rfl | rfl | rfl | rfl | rfl | rfl <;> rfl
theorem lgVals_clk (ep : Int) (bm mb : Nat) (A : Option Addr) (n c : Nat) (B : Option Addr) (m d : Nat) (q : Clk) {k : Nat} (hk : k < 8) : (lgVals ep bm mb A n c B m d q)[5 + k]? = some (.int .i64 (q.get k)) := by
 rcases lt8 hk with rfl | rfl | rfl | rfl | rfl | rfl | rfl | rfl <;> rfl
theorem LgIn.tick (h : LgIn w gb bm mb A c B d SM s K) {k : Nat} (hk : k < 8) (v : Int) : LgIn (w.setCell ⟨gb, 5 + k, none⟩ (.int .i64 v)) gb bm mb A c B d SM { s with clk := s.clk.set k v } K := by
 have set_ : ∀ b, b ≠ gb → (w.setCell ⟨gb, 5 + k, none⟩ (.int .i64 v)).heap[b]? = w.heap[b]? := fun b hb => Below.heap_setCell _ _ _ _ hb
 refine ⟨?_, h.i.heap (set_ bm h.gbm.symm), h.m.keep fun b _ hs => set_ b (h.sm b hs).2.1, ?_, ?_, fun b hs => ⟨?_, (h.sm b hs).2⟩⟩
 · have := h.g.set_ (5 + k) (.int .i64 v)
   rw [lgVals_set _ _ _ _ _ _ _ _ _ _ hk] at this
   exact this
 · exact h.a.keep (set_sameT (T := fun b => b ≠ gb) (fun hh => hh rfl)) fun x hx => h.a.ne_blk (by decide) h.g x hx
 · exact h.b.keep (set_sameT (T := fun b => b ≠ gb) (fun hh => hh rfl)) fun x hx => h.b.ne_blk (by decide) h.g x hx
 · have := (h.sm b hs).1
   simp [World.setCell]
   omega
end
theorem Tryz.infoOp : (Tryz.prog.info? 37).map (fun i => (i.zero, i.size, i.bytes)) = some (some (.agg #[.int .i64 0, .int .i64 0, .int .i32 0, .int .i64 0]), 4, 32) := by kernel_rfl
theorem wp_append_ops {ac : Act} {K : Act → World → Prop} {Q : Exit → Act → World → Prop} {w : World} {dst : Option Tmp} {s x : Operand} {ty : TypeId} {pos : String} {after : Array Edge} {guard : Option (Nat × Bool)}
 (base : Nat) (A B : Option Addr) (n c m d : Nat) (es fs : List Opn) (S : Nat → Prop) (hs : ac.eval s = .slice A n c) (hx : ac.eval x = .slice B m d) (hown : GOwn 37 w base A n c es) (hrow : GRow w S B m d fs) (hb : base ≤ w.heap.size) (hbd : n + m ≤ 1099511627776)
 (h : ∀ A' c' w', GOwn 37 w' base A' (n + m) c' (es ++ fs) → Below base w w' → Same (fun k => ∀ g, A = some g → g.block ≠ k) w w' → (A' = A ∨ ∃ g, A' = some ⟨g, 0, none⟩ ∧ w.heap.size ≤ g) → w.heap.size ≤ w'.heap.size → K (ac.put dst (.slice A' (n + m) c')) w') :
 Oper.wp Tryz.prog ⟨dst, .call ⟨.builtin .append, #[s, x], #[75, 75]⟩, ty, pos, after, guard⟩ ac w K Q :=
 wp_append_g (α := Opn) 75 37 _ 32 Tryz.underlying75 Tryz.infoOp rfl (by decide) (by decide) (by decide) base A B n c m d es fs S hs hx hown hrow hb hbd h
theorem app_ops_here {ac : Act} {K : Act → World → Prop} {Q : Exit → Act → World → Prop} {w : World} {dst : Option Tmp} {s x : Operand} {ty : TypeId} {pos : String} {after : Array Edge} {guard : Option (Nat × Bool)}
 (h : Oper.wp Tryz.prog ⟨dst, .call ⟨.builtin .append, #[s, x], #[75, 75]⟩, ty, pos, after, guard⟩ ac w K Q) : Oper.wp Tryz.prog ⟨dst, .call ⟨.builtin .append, #[s, x], #[75, 75]⟩, ty, pos, after, guard⟩ ac w K Q := h
variable {a : Nat → Addr}
theorem apply_yes (w : World) (S : Nat → Prop) (mb : Nat) (l : List El) (K : Nat) (o : Opn) (id : Nm) (h : Mdl w S mb l K) (hl : l.length ≤ 536870912) (hK : K ≤ 1099511627776) (hi : id.In) (hc : Calm 1000000 l) (hw : whyOf l o id = 0) :
 Calls Tryz.prog 102 #[.pointer (some ⟨mb, 0, none⟩), o.agg, id.val] w fun e w' => e = .returned .nilIface ∧ Mdl w' (Fr w S) mb (appOf l o id) (K + 1) ∧ Out S w w' := by
 refine (apply_ok w S mb l K o id h hl hK (why_can hw hc (by decide) hi)).mono ?_
 rintro e w' ⟨rfl, hM, hO⟩
 rw [appOf_done hw]
 exact ⟨rfl, hM, hO⟩
theorem apply_nay (w : World) (S S' : Nat → Prop) (mb : Nat) (l : List El) (K : Nat) (o : Opn) (id : Nm) (h : Mdl w S mb l K) (hl : l.length ≤ 536870912) (hi : id.In) (hs : Sents w S' a) (hw : whyOf l o id ≠ 0) :
 Calls Tryz.prog 102 #[.pointer (some ⟨mb, 0, none⟩), o.agg, id.val] w fun e w' => ∃ v, e = .returned v ∧ IsErr w' (Fr w S') a (chOf o (whyOf l o id)) (whyOf l o id) v ∧ Below w.heap.size w w' := by
 rcases why_cases l o id with ⟨h1, h2⟩ | ⟨h1, h2, h3⟩ | ⟨h1, h2, h3, h4⟩ | ⟨h1, h2, h3⟩
 · rw [h1]; exact apply_arg w mb o id h2 hs
 · rw [h1]; exact apply_range w S mb l K o id h h2 h3 hs
 · rw [h1]; exact apply_twice w S mb l K o id h hl h3 h2 hi h4 hs
 · exact absurd h1 hw
theorem named_log (w : World) (gb bm mb c d K : Nat) (A B : Option Addr) (SM : Nat → Prop) (s : Lg) (x : Actn) (h : LgIn w gb bm mb A c B d SM s K) :
 Calls Tryz.prog 103 #[.pointer (some ⟨gb, 0, none⟩), x.agg] w fun e w' => e = .returned (s.name x).val ∧ Below w.heap.size w w' := by
 obtain ⟨hX, hY, e0⟩ := twoBoxes w 46 70 x.vals #[.int .i64 0, .int .i64 0, .int .i64 0]
 have g0 : (((w.alloc (.cells x.vals 46)).alloc (.cells #[.int .i64 0, .int .i64 0, .int .i64 0] 70)).cell? ⟨gb, 0, none⟩) = some (.int .i64 s.ep) := (h.g.step e0).cell 0
 have gl := (h.g.step e0).lt
 have x3 : (((w.alloc (.cells x.vals 46)).alloc (.cells #[.int .i64 0, .int .i64 0, .int .i64 0] 70)).cell? ⟨w.heap.size, 3, none⟩) = some (.int .i64 x.op.rep) := hX.cell 3
 have x4 : (((w.alloc (.cells x.vals 46)).alloc (.cells #[.int .i64 0, .int .i64 0, .int .i64 0] 70)).cell? ⟨w.heap.size, 4, none⟩) = some (.int .i64 x.num) := hX.cell 4
 have xl := hX.lt
 have yl := hY.lt
 have HY := hid hY
 clear h hX hY
 simp only [Actn.agg, Actn.vals, Nm.val, Lg.name] at *
 go_enter Tryz.func103, Tryz.ntmps103
 repeat' (first | (with_reducible refine stop_region 1 ?_) | go_step)
 refine Stop.go ?_
 generalize (w.alloc (.cells #[.int .i64 x.op.kind, .int .i64 x.op.at_, .int .i32 x.op.char, .int .i64 x.op.rep, .int .i64 x.num, .int .i64 x.clk.c0, .int .i64 x.clk.c1, .int .i64 x.clk.c2, .int .i64 x.clk.c3, .int .i64 x.clk.c4, .int .i64 x.clk.c5, .int .i64 x.clk.c6, .int .i64 x.clk.c7] 46)).alloc (.cells #[.int .i64 0, .int .i64 0, .int .i64 0] 70) = X at *
 have y0 : X.cell? ⟨w.heap.size + 1, 0, none⟩ = some (.int .i64 0) := HY.out.cell 0
 have y1 : X.cell? ⟨w.heap.size + 1, 1, none⟩ = some (.int .i64 0) := HY.out.cell 1
 have y2 : X.cell? ⟨w.heap.size + 1, 2, none⟩ = some (.int .i64 0) := HY.out.cell 2
 have f0 := HY.out.frozen 0
 have f1 := HY.out.frozen 1
 have f2 := HY.out.frozen 2
 repeat' (first | ((with_reducible refine region_at 1 ?_); refine wp_region_order (rgl [0,4,8,12,16,20,24,28,32,36,43]) (by kernel_rfl) (by kernel_rfl) (by kernel_rfl) rfl rfl ?_) | (with_reducible refine Keep.last ?_) | ((with_reducible refine WpH.here ?_); first | (refine WpH.nil ?_; refine NoP.normal ?_) | ((first | refine WpH.load (by rfl) (by rfl) (by go_simp; rfl) ?_ | refine WpH.pure (by rfl) (fun w_ => by go_simp; (try go_bits); rfl) ?_); go_frame) | (refine WpH.wild1 (by rfl) (fun _ _ => ?_))) | go_step)
 have hz := (((HY.out.set_ 0 (.int .i64 s.ep)).set_ 1 (.int .i64 x.op.rep)).set_ 2 (.int .i64 x.num)).drew
 have z0 := hz.cell 0
 have z1 := hz.cell 1
 have z2 := hz.cell 2
 simp at z0 z1 z2
 refine bodyPost_ret (v := .agg #[.int .i64 s.ep, .int .i64 x.op.rep, .int .i64 x.num]) (by simp [results, Tryz.results103, go_sem, z0, z1, z2]) rfl ⟨rfl, (bset (bset (bset e0 (by show w.heap.size ≤ w.heap.size + 1; omega)) (by show w.heap.size ≤ w.heap.size + 1; omega)) (by show w.heap.size ≤ w.heap.size + 1; omega)).drew⟩
structure Lg.Fits (s : Lg) (K : Nat) : Prop where
 l : s.l.length ≤ 1048576
 acts : s.acts.length ≤ 1048576
 forms : s.forms.length ≤ 1048576
 k : K ≤ 1099511627775
 calm : Calm 900000 s.l
theorem deliver_no (w : World) (gb bm mb c d K : Nat) (A B : Option Addr) (SM S' : Nat → Prop) (s : Lg) (x : Actn) (f : Opn) (h : LgIn w gb bm mb A c B d SM s K) (hz : s.Fits K) (hn : (s.name x).In) (hs : Sents w S' a) (hw : whyOf s.l f (s.name x) ≠ 0) :
 Calls Tryz.prog 65 #[.pointer (some ⟨gb, 0, none⟩), x.agg, f.agg] w fun e w' => ∃ v, e = .returned v ∧ IsErr w' (Fr w S') a (chOf f (whyOf s.l f (s.name x))) (whyOf s.l f (s.name x)) v ∧ Below w.heap.size w w' := by
 have hsw := hs.step (balloc (o := .cells (opCells f) 37) (balloc (o := .cells x.vals 46) (Below.refl _ w)))
 have Hs := hid hsw
 have HA := hid (fun W (hb : Below (((w.alloc (.cells x.vals 46)).alloc (.cells (opCells f) 37))).heap.size (((w.alloc (.cells x.vals 46)).alloc (.cells (opCells f) 37))) W) => apply_nay (a := a) W SM S' mb s.l K f (s.name x) ((h.step (balloc (balloc (Below.refl _ w)))).m.step hb) (by have := hz.l; omega) hn (hsw.step hb) hw)
 clear hs hsw hz
 obtain ⟨hX, hY, e0⟩ := twoBoxes w 46 37 x.vals (opCells f)
 have h0 := h.step e0
 have hnm := hn
 have HN := hid (fun W (hb : Below (((w.alloc (.cells x.vals 46)).alloc (.cells (opCells f) 37))).heap.size (((w.alloc (.cells x.vals 46)).alloc (.cells (opCells f) 37))) W) => named_log W gb bm mb c d K A B SM s x (h0.step hb))
 have Hx := hid hX
 have Hy := hid hY
 have Hh := hid h0
 have xl := hX.lt
 have yl := hY.lt
 have gl := h0.g.lt
 have ne1 : gb ≠ w.heap.size := fun e => by have := h.g.lt; omega
 have ne2 : gb ≠ w.heap.size + 1 := fun e => by have := h.g.lt; omega
 have hw2 : w.heap.size + 1 < (((w.alloc (.cells x.vals 46)).alloc (.cells (opCells f) 37))).heap.size := hY.lt
 clear hX hY h0
 simp only [Actn.agg, Opn.agg] at *
 unfold Actn.vals opCells at *
 go_enter Tryz.func65, Tryz.ntmps65
 repeat' (first | (with_reducible refine stop_region 1 ?_) | go_step)
 refine Stop.go ?_
 generalize (w.alloc (.cells #[.int .i64 x.op.kind, .int .i64 x.op.at_, .int .i32 x.op.char, .int .i64 x.op.rep, .int .i64 x.num, .int .i64 x.clk.c0, .int .i64 x.clk.c1, .int .i64 x.clk.c2, .int .i64 x.clk.c3, .int .i64 x.clk.c4, .int .i64 x.clk.c5, .int .i64 x.clk.c6, .int .i64 x.clk.c7] 46)).alloc (.cells #[.int .i64 f.kind, .int .i64 f.at_, .int .i32 f.char, .int .i64 f.rep] 37) = X at *
 have q2 : X.drew.cell? ⟨gb, 2, none⟩ = some (.pointer (some ⟨mb, 0, none⟩)) := Hh.out.g.drew.cell 2
 obtain ⟨x0, x1, x2, x3, x4, x5, x6, x7, x8, x9, x10, x11, x12⟩ := cl13 (w := X.drew) (g := w.heap.size) Hx.out.drew
 obtain ⟨y0, y1, y2, y3⟩ := cl4 (w := X.drew) (g := w.heap.size + 1) Hy.out.drew
 repeat' (first | ((with_reducible refine region_at 1 ?_); refine wp_region_order (rgl [0,4,8,12,16,20,24,29,33,36]) (by kernel_rfl) (by kernel_rfl) (by kernel_rfl) rfl rfl ?_) | (go_at_call 103; go_must ((with_reducible refine Calls.mono (HN.out _ (by (repeat' (first | (with_reducible exact Below.refl _ _) | (with_reducible refine bdrew ?_))))) ?_); rintro _ w1 ⟨rfl, hb1⟩; have D1 := bvia (show Below X.heap.size X _ by (repeat' (first | (with_reducible exact Below.refl _ _) | (with_reducible refine bdrew ?_)))) hb1; dsimp only)) | (go_at_call 102; go_must ((with_reducible refine Calls.mono (HA.out _ D1) ?_); rintro _ w2 ⟨v, rfl, hE, hb2⟩; obtain ⟨tv, xv, rfl⟩ := hE.notNil; have D2 := bvia D1 hb2; dsimp only)) | (with_reducible refine Keep.below (by assumption) ?_) | ((with_reducible refine WpH.here ?_); first | (refine WpH.nil ?_; refine NoP.normal ?_) | ((first | refine WpH.load (by rfl) (by rfl) (by go_simp; rfl) ?_ | refine WpH.pure (by rfl) (fun w_ => by go_simp; (try go_bits); rfl) ?_); go_frame) | (refine WpH.wild1 (by rfl) (fun _ _ => ?_))) | go_step)
 go_ret
 exact ⟨_, rfl, hE.more fun b _ hh => hh.imp id fun h' => by have := e0.size; have := D1.size; have h2 : w1.heap.size ≤ b := h'; show w.heap.size ≤ b; omega, bvia e0 D2⟩
def LogAt (w : World) (S : Nat → Prop) (gb : Nat) (s : Lg) (K : Nat) : Prop := ∃ bm mb A c B d SM, LgIn w gb bm mb A c B d SM s K ∧ ∀ b, LgBlk gb bm A B SM b → S b
theorem drew_below (w : World) : Below w.heap.size w w.drew := (Below.refl _ _).drew
theorem deliver_ok (w : World) (gb bm mb c d K : Nat) (A B : Option Addr) (SM S : Nat → Prop) (s : Lg) (x : Actn) (f : Opn) (h : LgIn w gb bm mb A c B d SM s K) (hS : ∀ b, LgBlk gb bm A B SM b → S b) (hz : s.Fits K) (hn : (s.name x).In) (hr : x.op.rep = f.rep) (hw : whyOf s.l f (s.name x) = 0) :
 Calls Tryz.prog 65 #[.pointer (some ⟨gb, 0, none⟩), x.agg, f.agg] w fun e w' => e = .returned .nilIface ∧ LogAt w' (Fr w S) gb (s.deliver x f) (K + 1) ∧ Out S w w' := by
 have HA := hid (fun W (hb : Below (((w.alloc (.cells x.vals 46)).alloc (.cells (opCells f) 37))).heap.size (((w.alloc (.cells x.vals 46)).alloc (.cells (opCells f) 37))) W) => apply_yes W SM mb s.l K f (s.name x) ((h.step (balloc (balloc (Below.refl _ w)))).m.step hb) (by have := hz.l; omega) (by have := hz.k; omega) hn (fun e he => by have := hz.calm e he; constructor <;> omega) hw)
 have Hz := hid hz
 have HS := hid hS
 have hAl : ∀ y, A = some y → y.block < w.heap.size := fun y hy => (h.a.block y hy).2
 have hBl : ∀ y, B = some y → y.block < w.heap.size := fun y hy => (h.b.block y hy).2
 have hsm0 : ∀ b, SM b → b < w.heap.size ∧ b ≠ gb := fun b hb => ⟨(h.sm b hb).1, (h.sm b hb).2.1⟩
 have Hw := hid hw
 have Hr := hid hr
 have hgw := h.g.lt
 clear hz hS hw hr
 obtain ⟨hX, hY, e0⟩ := twoBoxes w 46 37 x.vals (opCells f)
 have h0 := h.step e0
 have hnm := hn
 have HN := hid (fun W (hb : Below (((w.alloc (.cells x.vals 46)).alloc (.cells (opCells f) 37))).heap.size (((w.alloc (.cells x.vals 46)).alloc (.cells (opCells f) 37))) W) => named_log W gb bm mb c d K A B SM s x (h0.step hb))
 have Hx := hid hX
 have Hy := hid hY
 have Hh := hid h0
 have xl := hX.lt
 have yl := hY.lt
 have gl := h0.g.lt
 have ne1 : gb ≠ w.heap.size := fun e => by have := h.g.lt; omega
 have ne2 : gb ≠ w.heap.size + 1 := fun e => by have := h.g.lt; omega
 have hw2 : w.heap.size + 1 < (((w.alloc (.cells x.vals 46)).alloc (.cells (opCells f) 37))).heap.size := hY.lt
 clear hX hY h0
 simp only [Actn.agg, Opn.agg] at *
 unfold Actn.vals opCells at *
 go_enter Tryz.func65, Tryz.ntmps65
 repeat' (first | (with_reducible refine stop_region 1 ?_) | go_step)
 refine Stop.go ?_
 generalize (w.alloc (.cells #[.int .i64 x.op.kind, .int .i64 x.op.at_, .int .i32 x.op.char, .int .i64 x.op.rep, .int .i64 x.num, .int .i64 x.clk.c0, .int .i64 x.clk.c1, .int .i64 x.clk.c2, .int .i64 x.clk.c3, .int .i64 x.clk.c4, .int .i64 x.clk.c5, .int .i64 x.clk.c6, .int .i64 x.clk.c7] 46)).alloc (.cells #[.int .i64 f.kind, .int .i64 f.at_, .int .i32 f.char, .int .i64 f.rep] 37) = X at *
 have q2 : X.drew.cell? ⟨gb, 2, none⟩ = some (.pointer (some ⟨mb, 0, none⟩)) := Hh.out.g.drew.cell 2
 obtain ⟨x0, x1, x2, x3, x4, x5, x6, x7, x8, x9, x10, x11, x12⟩ := cl13 (w := X.drew) (g := w.heap.size) Hx.out.drew
 obtain ⟨y0, y1, y2, y3⟩ := cl4 (w := X.drew) (g := w.heap.size + 1) Hy.out.drew
 have qg : X.drew.heap[gb]? = some (.cells (lgVals s.ep bm mb A s.acts.length c B s.forms.length d s.clk) 100 (0, 0)) := Hh.out.g
 have qx : X.drew.heap[w.heap.size]? = some (.cells _ 46 (0, 0)) := Hx.out
 have qy : X.drew.heap[w.heap.size + 1]? = some (.cells _ 37 (0, 0)) := Hy.out
 have n1 : ¬ SM gb := fun hh => (hsm0 gb hh).2 rfl
 have n2 : ¬ SM w.heap.size := fun hh => by have := (hsm0 _ hh).1; omega
 have n3 : ¬ SM (w.heap.size + 1) := fun hh => by have := (hsm0 _ hh).1; omega
 repeat' (first | ((with_reducible refine region_at 1 ?_); refine wp_region_orderT (fun b => ¬ SM b) (rgl [0,4,8,12,16,20,24,29,33,36]) (by kernel_rfl) (by kernel_rfl) (by kernel_rfl) rfl rfl ?_) | (go_at_call 103; go_must ((with_reducible refine Calls.mono (HN.out _ (by (repeat' (first | (with_reducible exact Below.refl _ _) | (with_reducible refine bdrew ?_))))) ?_); rintro _ w1 ⟨rfl, hb1⟩; have D1 := bvia (show Below X.heap.size X _ by (repeat' (first | (with_reducible exact Below.refl _ _) | (with_reducible refine bdrew ?_)))) hb1; have hk1 : KeepT (fun b => ¬ SM b) X.drew w1 := ⟨hb1.size, fun b hl _ => hb1.block b hl⟩; dsimp only)) | (go_at_call 102; go_must ((with_reducible refine Calls.mono (HA.out _ D1) ?_); rintro _ w2 ⟨rfl, hM2, hO2⟩; have hk2 : KeepT (fun b => ¬ SM b) w1 w2 := ⟨hO2.size, fun b hl hb => hO2.block b hl hb⟩; dsimp only)) | (with_reducible refine stop_region 4 ?_) | (with_reducible first | refine Keep.below (by assumption) ?_ | refine Keep.kept (by assumption) ?_) | ((with_reducible refine WpH.here ?_); first | (refine WpH.nil ?_; refine NoP.normal ?_) | ((first | refine WpH.loadT (by rfl) (by rfl) (by go_simp; rfl) (by rintro _ _ ⟨⟩; exact ⟨_, _, _, _, _, _, by rfl, by assumption, by assumption⟩) ?_ | refine WpH.pure (by rfl) (fun w_ => by go_simp; (try go_bits); rfl) ?_); go_frame) | (refine WpH.wild1 (by rfl) (fun _ _ => ?_))) | go_step)
 refine Stop.go ?_
 have L2 := (Hh.out.step D1).model hM2 hO2 (Nat.le_succ K)
 have hx2 := hO2.blk (Hx.out.step D1) n2
 have hy2 := hO2.blk (Hy.out.step D1) n3
 have O2 : Out S w w2 := (Out.of_below (S := S) (bvia e0 D1)).trans hO2 fun b _ hs => HS.out b (.inl hs)
 have hw12 : w.heap.size ≤ w1.heap.size := (bvia e0 D1).size
 have hSM2 : ∀ b, (Fr w1 SM b ∧ b < w2.heap.size) → Fr w S b := fun b hb => hb.1.imp (fun h => HS.out b (.inl h)) fun h => by have h' : w1.heap.size ≤ b := h; show w.heap.size ≤ b; omega
 obtain ⟨SM2, hSMq⟩ : ∃ Q : Nat → Prop, Q = fun b => Fr w1 SM b ∧ b < w2.heap.size := ⟨_, rfl⟩
 rw [← hSMq] at L2
 have hSM2 : ∀ b, SM2 b → Fr w S b := by rw [hSMq]; exact hSM2
 clear hSMq
 clear hM2 hO2 hk1 hk2 hb1 D1 q2 x0 x1 x2 x3 x4 x5 x6 x7 x8 x9 x10 x11 x12 y0 y1 y2 y3 qg qx qy n1 n2 n3 HA HN Hh Hx Hy xl yl gl hw2
 have hw2 : w.heap.size + 1 < w2.heap.size := hy2.lt
 have HL2 := hid L2
 have q3 : w2.drew.cell? ⟨gb, 3, none⟩ = some (.slice A s.acts.length c) := L2.g.drew.cell 3
 obtain ⟨x0, x1, x2, x3, x4, x5, x6, x7, x8, x9, x10, x11, x12⟩ := cl13 (w := w2.drew) (g := w.heap.size) hx2.drew
 have gl := L2.g.lt
 have xl := hx2.lt
 have qg : w2.drew.heap[gb]? = some (.cells (lgVals s.ep bm mb A s.acts.length c B s.forms.length d s.clk) 100 (0, 0)) := L2.g
 have qx : w2.drew.heap[w.heap.size]? = some (.cells _ 46 (0, 0)) := hx2
 have t1 : ∀ g, A = some g → g.block ≠ gb := L2.a.ne_blk (by decide) L2.g
 have t2 : ∀ g, A = some g → g.block ≠ w.heap.size := fun g hg => by have := hAl g hg; omega
 have eX : Below w2.heap.size w2 (w2.alloc (.cells #[.int .i64 x.op.kind, .int .i64 x.op.at_, .int .i32 x.op.char, .int .i64 x.op.rep, .int .i64 x.num, .int .i64 x.clk.c0, .int .i64 x.clk.c1, .int .i64 x.clk.c2, .int .i64 x.clk.c3, .int .i64 x.clk.c4, .int .i64 x.clk.c5, .int .i64 x.clk.c6, .int .i64 x.clk.c7] 46)) := balloc (Below.refl _ _)
 have hA3 := (L2.a.step eX).step (drew_below _)
 have hrow3 := (grow_act w2 x).step (drew_below _)
 unfold Actn.vals at hrow3
 have Hz1 := Hz.out.acts
 have HX2 := hid hx2
 have HY2 := hid hy2
 clear L2 hx2 hy2
 repeat' (first | ((with_reducible refine region_at 4 ?_); refine wp_region_orderT (fun b => ∀ g, A = some g → g.block ≠ b) (rgl [0,4,8,12,16,20,25,29,32,36,43]) (by kernel_rfl) (by kernel_rfl) (by kernel_rfl) rfl rfl ?_) | (with_reducible refine Keep.allocD ?_) | ((with_reducible refine app_acts_here ?_); refine wp_append_acts 0 A _ s.acts.length c 1 1 s.acts [x] (fun _ => True) (by rfl) (by rfl) hA3 hrow3 (Nat.zero_le _) (by omega) ?_; intro A' c' w5 hA5 hb5 hsm5 hat5 hz5; have hk5 : KeepT (fun b => ∀ g, A = some g → g.block ≠ b) _ w5 := ⟨hz5, fun b hb ht => hsm5 b ht hb⟩; have g5 : Blk w5 gb _ _ := (hsm5 gb t1 (HL2.out.step (bvia eX (drew_below _))).g.lt).trans (HL2.out.step (bvia eX (drew_below _))).g; have f5 := g5.frozen 3; have gl5 := g5.lt; have g35 : w5.cell? ⟨gb, 3, none⟩ = some (.slice A s.acts.length c) := g5.cell 3) | (with_reducible refine stop_region 5 ?_) | (with_reducible first | refine Keep.last ?_ | refine Keep.kept (by assumption) ?_) | ((with_reducible refine WpH.here ?_); first | (refine WpH.nil ?_; refine NoP.normal ?_) | ((first | refine WpH.loadT (by rfl) (by rfl) (by go_simp; rfl) (by rintro _ _ ⟨⟩; exact ⟨_, _, _, _, _, _, by rfl, by assumption, by assumption⟩) ?_ | refine WpH.pure (by rfl) (fun w_ => by go_simp; (try go_bits); rfl) ?_); go_frame) | (refine WpH.wild1 (by rfl) (fun _ _ => ?_))) | go_step)
 refine Stop.go ?_
 have e3 := bvia eX (drew_below _)
 have L5 := (HL2.out.step e3).act hA5 hsm5 hz5 hat5
 have same6 : ∀ b, b < w2.heap.size → (∀ g, A = some g → g.block ≠ b) → b ≠ gb → (w5.setCell ⟨gb, 3, none⟩ (.slice A' (s.acts.length + 1) c')).heap[b]? = w2.heap[b]? := fun b hb h1 h2 => (Below.heap_setCell _ _ _ _ h2).trans ((hsm5 b h1 (Nat.lt_of_lt_of_le hb e3.size)).trans (e3.block b hb))
 have hx6 := (same6 _ HX2.out.lt t2 ne1.symm).trans HX2.out
 have hy6 := (same6 _ HY2.out.lt (fun g hg => by have := hAl g hg; omega) ne2.symm).trans HY2.out
 have O6 : Out S w (w5.setCell ⟨gb, 3, none⟩ (.slice A' (s.acts.length + 1) c')) := by
  refine (O2.trans (Out.of_below (S := S) e3) fun _ _ h => h).trans ?_ fun _ _ h => h
  refine Out.trans (S' := S) (⟨hb5.os, hb5.tape, hb5.output, hz5, fun b hb hn => hsm5 b (fun g hg e => hn (HS.out b (.inr (.inr (.inr (.inl ⟨g, hg, e.symm⟩)))))) hb⟩ : Out S _ w5) (Out.setCell (S := S) (p := ⟨gb, 3, none⟩) (HS.out gb (.inr (.inl rfl))) _) fun _ _ h => h
 have hA' : ∀ y, A' = some y → Fr w S y.block := fun y hy => by
  rcases hat5 with rfl | ⟨g, rfl, hg⟩
  · exact .inl (HS.out _ (.inr (.inr (.inr (.inl ⟨y, hy, rfl⟩)))))
  · injection hy with hy
    subst hy
    refine .inr ?_
    show w.heap.size ≤ g
    have := O2.size
    have := e3.size
    omega
 clear hA5 hsm5 hat5 hk5 g5 f5 gl5 g35 q3 x0 x1 x2 x3 x4 x5 x6 x7 x8 x9 x10 x11 x12 qg qx t1 t2 eX e3 hA3 hrow3 HX2 HY2 HL2 gl xl same6 Hz1 hw2 O2 hb5 hz5
 generalize w5.setCell ⟨gb, 3, none⟩ (.slice A' (s.acts.length + 1) c') = w6 at *
 have q3 : w6.drew.cell? ⟨gb, 4, none⟩ = some (.slice B s.forms.length d) := L5.g.drew.cell 4
 have y0 : w6.drew.cell? ⟨w.heap.size + 1, 0, none⟩ = some (.int .i64 f.kind) := Blk.cell (Blk.drew hy6) 0
 have y1 : w6.drew.cell? ⟨w.heap.size + 1, 1, none⟩ = some (.int .i64 f.at_) := Blk.cell (Blk.drew hy6) 1
 have y2 : w6.drew.cell? ⟨w.heap.size + 1, 2, none⟩ = some (.int .i32 f.char) := Blk.cell (Blk.drew hy6) 2
 have y3 : w6.drew.cell? ⟨w.heap.size + 1, 3, none⟩ = some (.int .i64 f.rep) := Blk.cell (Blk.drew hy6) 3
 have gl := L5.g.lt
 have yl := Blk.lt hy6
 have qg : w6.drew.heap[gb]? = some (.cells _ 100 (0, 0)) := L5.g
 have qy : w6.drew.heap[w.heap.size + 1]? = some (.cells _ 37 (0, 0)) := hy6
 have t1 : ∀ g, B = some g → g.block ≠ gb := L5.b.ne_blk (by decide) L5.g
 have t2 : ∀ g, B = some g → g.block ≠ w.heap.size + 1 := fun g hg => by have := hBl g hg; omega
 have eX : Below w6.heap.size w6 (w6.alloc (.cells #[.int .i64 f.kind, .int .i64 f.at_, .int .i32 f.char, .int .i64 f.rep] 37)) := balloc (Below.refl _ _)
 have hB3 := (L5.b.step eX).step (drew_below _)
 have hrow3 := (grow_opn w6 f).step (drew_below _)
 unfold opCells at hrow3
 have Hz1 := Hz.out.forms
 have HL5 := hid L5
 have HX6 := hid hx6
 have HY6 := hid hy6
 clear L5 hx6 hy6
 dsimp only at hB3
 repeat' (first | ((with_reducible refine region_at 5 ?_); refine wp_region_orderT (fun b => ∀ g, B = some g → g.block ≠ b) (rgl [0,4,8,12,16,20,25,29,32,36,43]) (by kernel_rfl) (by kernel_rfl) (by kernel_rfl) rfl rfl ?_) | (with_reducible refine Keep.allocD ?_) | ((with_reducible refine app_ops_here ?_); refine wp_append_ops 0 B _ s.forms.length d 1 1 s.forms [f] (fun _ => True) (by rfl) (by rfl) hB3 hrow3 (Nat.zero_le _) (by omega) ?_; intro B' d' w7 hB7 hb7 hsm7 hat7 hz7; have hk7 : KeepT (fun b => ∀ g, B = some g → g.block ≠ b) _ w7 := ⟨hz7, fun b hb ht => hsm7 b ht hb⟩; have g7 : Blk w7 gb _ _ := (hsm7 gb t1 (HL5.out.step (bvia eX (drew_below _))).g.lt).trans (HL5.out.step (bvia eX (drew_below _))).g; have f7 := g7.frozen 4; have gl7 := g7.lt; have g47 : w7.cell? ⟨gb, 4, none⟩ = some (.slice B s.forms.length d) := g7.cell 4) | (with_reducible refine stop_region 6 ?_) | (with_reducible first | refine Keep.last ?_ | refine Keep.kept (by assumption) ?_) | ((with_reducible refine WpH.here ?_); first | (refine WpH.nil ?_; refine NoP.normal ?_) | ((first | refine WpH.loadT (by rfl) (by rfl) (by go_simp; rfl) (by rintro _ _ ⟨⟩; exact ⟨_, _, _, _, _, _, by rfl, by assumption, by assumption⟩) ?_ | refine WpH.pure (by rfl) (fun w_ => by go_simp; (try go_bits); rfl) ?_); go_frame) | (refine WpH.wild1 (by rfl) (fun _ _ => ?_))) | go_step)
 refine Stop.go ?_
 have e3 := bvia eX (drew_below _)
 have L7 := (HL5.out.step e3).form hB7 hsm7 hz7 hat7
 have same7 : ∀ b, b < w6.heap.size → (∀ g, B = some g → g.block ≠ b) → b ≠ gb → (w7.setCell ⟨gb, 4, none⟩ (.slice B' (s.forms.length + 1) d')).heap[b]? = w6.heap[b]? := fun b hb h1 h2 => (Below.heap_setCell _ _ _ _ h2).trans ((hsm7 b h1 (Nat.lt_of_lt_of_le hb e3.size)).trans (e3.block b hb))
 have hx7 := (same7 _ (Blk.lt HX6.out) (fun g hg => by have := hBl g hg; omega) ne1.symm).trans HX6.out
 have O7 : Out S w (w7.setCell ⟨gb, 4, none⟩ (.slice B' (s.forms.length + 1) d')) := by
  refine (O6.trans (Out.of_below (S := S) e3) fun _ _ h => h).trans ?_ fun _ _ h => h
  refine Out.trans (S' := S) (⟨hb7.os, hb7.tape, hb7.output, hz7, fun b hb hn => hsm7 b (fun g hg e => hn (HS.out b (.inr (.inr (.inr (.inr ⟨g, hg, e.symm⟩)))))) hb⟩ : Out S _ w7) (Out.setCell (S := S) (p := ⟨gb, 4, none⟩) (HS.out gb (.inr (.inl rfl))) _) fun _ _ h => h
 have hB' : ∀ y, B' = some y → Fr w S y.block := fun y hy => by
  rcases hat7 with rfl | ⟨g, rfl, hg⟩
  · exact .inl (HS.out _ (.inr (.inr (.inr (.inr ⟨y, hy, rfl⟩)))))
  · injection hy with hy
    subst hy
    refine .inr ?_
    show w.heap.size ≤ g
    have := O6.size
    have := e3.size
    omega
 clear hB7 hsm7 hat7 hk7 g7 f7 gl7 g47 q3 y0 y1 y2 y3 qg qy t1 t2 eX e3 hB3 hrow3 HX6 HY6 HL5 gl yl same7 Hz1 O6 hb7 hz7
 generalize w7.setCell ⟨gb, 4, none⟩ (.slice B' (s.forms.length + 1) d') = w8 at *
 have hrg : 0 ≤ f.rep ∧ f.rep < 8 := by
  rcases why_cases s.l f (s.name x) with ⟨h1, -⟩ | ⟨h1, -⟩ | ⟨h1, -⟩ | ⟨-, h2, -⟩
  · rw [Hw.out] at h1; cases h1
  · rw [Hw.out] at h1; cases h1
  · rw [Hw.out] at h1; cases h1
  · have h3 := valid_right h2
    unfold rightOp at h3
    by_cases h4 : f.rep < 0 ∨ 8 ≤ f.rep
    · rw [if_pos h4] at h3; cases h3
    · omega
 obtain ⟨k, hk⟩ := Int.eq_ofNat_of_zero_le hrg.1
 have hk8 : k < 8 := by omega
 have hk' : (k : Int) < 8 := by omega
 have x3 : w8.drew.cell? ⟨w.heap.size, 3, none⟩ = some (.int .i64 (k : Nat)) := by
  have h1 := Blk.cell (Blk.drew hx7) 3
  rw [show ((k : Nat) : Int) = x.op.rep from by rw [Hr.out, hk]]
  exact h1
 have x4 : w8.drew.cell? ⟨w.heap.size, 4, none⟩ = some (.int .i64 x.num) := Blk.cell (Blk.drew hx7) 4
 have gl := L7.g.lt
 have xl := Blk.lt hx7
 have g5k : w8.cell? ⟨gb, 5 + k, none⟩ = some (.int .i64 (s.clk.get k)) := (L7.g.cell (5 + k)).trans (lgVals_clk _ _ _ _ _ _ _ _ _ _ hk8)
 have f5k := L7.g.frozen (5 + k)
 have hkr : x.op.rep.toNat = k := by rw [Hr.out, hk]; rfl
 have HKr := hid hkr
 have HL7 := hid L7
 clear L7 hx7 hk hkr hrg
 repeat' (first | ((with_reducible refine region_at 6 ?_); refine wp_region_order (rgl [0,4,8,12,16,20,24,28,32,39]) (by kernel_rfl) (by kernel_rfl) (by kernel_rfl) rfl rfl ?_) | (with_reducible refine Keep.last ?_) | ((with_reducible refine WpH.here ?_); first | (refine WpH.nil ?_; refine NoP.normal ?_) | ((first | refine WpH.load (by rfl) (by rfl) (by go_simp; rfl) ?_ | refine WpH.pure (by rfl) (fun w_ => by go_simp; (try go_bits); rfl) ?_); go_frame) | (refine WpH.wild1 (by rfl) (fun _ _ => ?_))) | go_step)
 go_ret
 have L9 := (HL7.out.tick hk8 x.num).step (drew_below _)
 refine ⟨rfl, ⟨bm, mb, A', c', B', d', SM2, ?_, ?_⟩, ?_⟩
 · unfold Lg.deliver
   rw [if_pos Hw.out, HKr.out]
   exact L9
 · rintro b (hb | hb | hb | ⟨y, hy, rfl⟩ | ⟨y, hy, rfl⟩)
   · exact hSM2 b hb
   · exact .inl (HS.out b (.inr (.inl hb)))
   · exact .inl (HS.out b (.inr (.inr (.inl hb))))
   · exact hA' y hy
   · exact hB' y hy
 · exact (O7.trans (Out.setCell (S := S) (p := ⟨gb, 5 + k, none⟩) (HS.out gb (.inr (.inl rfl))) _) fun _ _ h => h).trans (Out.drew (S := S)) fun _ _ h => h
end Go.Proofs.YteggpddlkkjmjaaGreatDoor
namespace Go.Proofs.YteggpddlkkjmjaaGreatDoor
open Go Go.RowKit
def rgVals (ep : Int) (E : Option Addr) (ne ce : Nat) (A : Option Addr) (n c : Nat) (B : Option Addr) (m d : Nat) (k : Clk) (L : Option Addr) (nl cl : Nat) : Array Value :=
 #[.int .i64 ep, .slice E ne ce, .slice A n c, .slice B m d, .int .i64 k.c0, .int .i64 k.c1, .int .i64 k.c2, .int .i64 k.c3, .int .i64 k.c4, .int .i64 k.c5, .int .i64 k.c6, .int .i64 k.c7, .slice L nl cl]
structure RgIn (w : World) (rb : Nat) (E : Option Addr) (ce : Nat) (A : Option Addr) (c : Nat) (B : Option Addr) (d : Nat) (L : Option Addr) (cl : Nat) (SR : Nat → Prop) (s : Lg) : Prop where
 g : Blk w rb 89 (rgVals s.ep E s.base.length ce A s.acts.length c B s.forms.length d s.clk L s.l.length cl)
 e : Row w SR E s.base.length ce s.base
 l : Row w SR L s.l.length cl s.l
 a : GOwn 46 w 0 A s.acts.length c s.acts
 b : GOwn 37 w 0 B s.forms.length d s.forms
 sr : ∀ b, SR b → b < w.heap.size ∧ b ≠ rb ∧ (∀ x, A = some x → x.block ≠ b) ∧ (∀ x, B = some x → x.block ≠ b)
section
variable {w w' : World} {rb ce c d cl c' d' : Nat} {E A B L A' B' : Option Addr} {SR : Nat → Prop} {s : Lg}
theorem RgIn.step (h : RgIn w rb E ce A c B d L cl SR s) (hb : Below w.heap.size w w') : RgIn w' rb E ce A c B d L cl SR s :=
 ⟨h.g.step hb, h.e.step hb, h.l.step hb, h.a.step hb, h.b.step hb, fun b hs => ⟨Nat.lt_of_lt_of_le (h.sr b hs).1 hb.size, (h.sr b hs).2⟩⟩
def RgBlk (rb : Nat) (A B : Option Addr) (SR : Nat → Prop) (b : Nat) : Prop := SR b ∨ b = rb ∨ (∃ x, A = some x ∧ b = x.block) ∨ ∃ x, B = some x ∧ b = x.block
theorem RgIn.keep (h : RgIn w rb E ce A c B d L cl SR s) (hz : w.heap.size ≤ w'.heap.size) (hk : ∀ b, b < w.heap.size → RgBlk rb A B SR b → w'.heap[b]? = w.heap[b]?) : RgIn w' rb E ce A c B d L cl SR s :=
 ⟨(hk _ h.g.lt (.inr (.inl rfl))).trans h.g, h.e.keep fun b hb hl => hk b hl (.inl hb), h.l.keep fun b hb hl => hk b hl (.inl hb),
  h.a.keep (S := fun b => RgBlk rb A B SR b) (fun b hb hl => hk b hl hb) fun x hx => .inr (.inr (.inl ⟨x, hx, rfl⟩)),
  h.b.keep (S := fun b => RgBlk rb A B SR b) (fun b hb hl => hk b hl hb) fun x hx => .inr (.inr (.inr ⟨x, hx, rfl⟩)), fun b hs => ⟨Nat.lt_of_lt_of_le (h.sr b hs).1 hz, (h.sr b hs).2⟩⟩
theorem RgIn.row (h : RgIn w rb E ce A c B d L cl SR s) {L' : Option Addr} {cl' : Nat} {l' : List El} (hb : Below w.heap.size w w') (hr : Row w' (Fr w SR) L' l'.length cl' l') :
 RgIn (w'.setCell ⟨rb, 12, none⟩ (.slice L' l'.length cl')) rb E ce A c B d L' cl' (fun b => Fr w SR b ∧ b < w'.heap.size) { s with l := l' } := by
 have hS := h.step hb
 have ne : ∀ b, Fr w SR b → b < w'.heap.size → b ≠ rb ∧ (∀ x, A = some x → x.block ≠ b) ∧ (∀ x, B = some x → x.block ≠ b) := fun b hs _ => by
  rcases hs with hs | hs
  · exact (h.sr b hs).2
  · have hs' : w.heap.size ≤ b := hs
    exact ⟨fun e => by have := h.g.lt; omega, fun x hx => by have := (h.a.block x hx).2; omega, fun x hx => by have := (h.b.block x hx).2; omega⟩
 have set_ : ∀ b, b ≠ rb → (w'.setCell ⟨rb, 12, none⟩ (.slice L' l'.length cl')).heap[b]? = w'.heap[b]? := fun b hb => Below.heap_setCell _ _ _ _ hb
 have sz : (w'.setCell ⟨rb, 12, none⟩ (.slice L' l'.length cl')).heap.size = w'.heap.size := by simp [World.setCell]
 refine ⟨hS.g.set_ 12 (.slice L' l'.length cl'), ?_, ?_, ?_, ?_, fun b hs => ⟨by rw [sz]; exact hs.2, ne b hs.1 hs.2⟩⟩
 · exact (hS.e.more (S' := fun b => Fr w SR b ∧ b < w'.heap.size) fun b hl h => ⟨.inl h, hl⟩).keep fun b hb hl => set_ b (ne b hb.1 hb.2).1
 · exact (hr.more (S' := fun b => Fr w SR b ∧ b < w'.heap.size) fun b hl h => ⟨h, hl⟩).keep fun b hb hl => set_ b (ne b hb.1 hb.2).1
 · exact hS.a.keep (set_sameT (T := fun b => b ≠ rb) (fun hh => hh rfl)) fun x hx => hS.a.ne_blk (by decide) hS.g x hx
 · exact hS.b.keep (set_sameT (T := fun b => b ≠ rb) (fun hh => hh rfl)) fun x hx => hS.b.ne_blk (by decide) hS.g x hx
theorem RgIn.act (h : RgIn w rb E ce A c B d L cl SR s) {x : Actn} (h1 : GOwn 46 w' 0 A' (s.acts.length + 1) c' (s.acts ++ [x])) (h2 : Same (fun k => ∀ g, A = some g → g.block ≠ k) w w') (hz : w.heap.size ≤ w'.heap.size) (hA : A' = A ∨ ∃ g, A' = some ⟨g, 0, none⟩ ∧ w.heap.size ≤ g) :
 RgIn (w'.setCell ⟨rb, 2, none⟩ (.slice A' (s.acts.length + 1) c')) rb E ce A' c' B d L cl SR { s with acts := s.acts ++ [x] } := by
 have gA := h.a.ne_blk (by decide) h.g
 have hg : Blk w' rb _ _ := (h2 rb gA h.g.lt).trans h.g
 have ne' : ∀ {q : Nat}, q < w.heap.size → (∀ x, A = some x → x.block ≠ q) → ∀ x, A' = some x → x.block ≠ q := fun {q} hq hx x hx' => by
  rcases hA with rfl | ⟨g, rfl, hg⟩
  · exact hx x hx'
  · injection hx' with hx'
    subst hx'
    show g ≠ q
    omega
 have set_ : ∀ b, b ≠ rb → (w'.setCell ⟨rb, 2, none⟩ (.slice A' (s.acts.length + 1) c')).heap[b]? = w'.heap[b]? := fun b hb => Below.heap_setCell _ _ _ _ hb
 refine ⟨?_, ?_, ?_, ?_, ?_, fun b hs => ⟨?_, (h.sr b hs).2.1, ne' (h.sr b hs).1 (h.sr b hs).2.2.1, (h.sr b hs).2.2.2⟩⟩
 · have := hg.set_ 2 (.slice A' (s.acts.length + 1) c')
   rw [List.length_append]
   exact this
 · exact h.e.keep fun b hs hb => (set_ b (h.sr b hs).2.1).trans (h2 b (h.sr b hs).2.2.1 hb)
 · exact h.l.keep fun b hs hb => (set_ b (h.sr b hs).2.1).trans (h2 b (h.sr b hs).2.2.1 hb)
 · rw [List.length_append]
   exact h1.keep (set_sameT (T := fun b => b ≠ rb) (fun hh => hh rfl)) fun x hx => ne' h.g.lt gA x hx
 · exact (h.b.apartT (by decide) h.a h2).keep (set_sameT (T := fun b => b ≠ rb) (fun hh => hh rfl)) fun x hx => h.b.ne_blk (by decide) h.g x hx
 · have := (h.sr b hs).1
   simp [World.setCell]
   omega
theorem RgIn.form (h : RgIn w rb E ce A c B d L cl SR s) {x : Opn} (h1 : GOwn 37 w' 0 B' (s.forms.length + 1) d' (s.forms ++ [x])) (h2 : Same (fun k => ∀ g, B = some g → g.block ≠ k) w w') (hz : w.heap.size ≤ w'.heap.size) (hB : B' = B ∨ ∃ g, B' = some ⟨g, 0, none⟩ ∧ w.heap.size ≤ g) :
 RgIn (w'.setCell ⟨rb, 3, none⟩ (.slice B' (s.forms.length + 1) d')) rb E ce A c B' d' L cl SR { s with forms := s.forms ++ [x] } := by
 have gB := h.b.ne_blk (by decide) h.g
 have hg : Blk w' rb _ _ := (h2 rb gB h.g.lt).trans h.g
 have ne' : ∀ {q : Nat}, q < w.heap.size → (∀ x, B = some x → x.block ≠ q) → ∀ x, B' = some x → x.block ≠ q := fun {q} hq hx x hx' => by
  rcases hB with rfl | ⟨g, rfl, hg⟩
  · exact hx x hx'
  · injection hx' with hx'
    subst hx'
    show g ≠ q
    omega
 have set_ : ∀ b, b ≠ rb → (w'.setCell ⟨rb, 3, none⟩ (.slice B' (s.forms.length + 1) d')).heap[b]? = w'.heap[b]? := fun b hb => Below.heap_setCell _ _ _ _ hb
 refine ⟨?_, ?_, ?_, ?_, ?_, fun b hs => ⟨?_, (h.sr b hs).2.1, (h.sr b hs).2.2.1, ne' (h.sr b hs).1 (h.sr b hs).2.2.2⟩⟩
 · have := hg.set_ 3 (.slice B' (s.forms.length + 1) d')
   rw [List.length_append]
   exact this
 · exact h.e.keep fun b hs hb => (set_ b (h.sr b hs).2.1).trans (h2 b (h.sr b hs).2.2.2 hb)
 · exact h.l.keep fun b hs hb => (set_ b (h.sr b hs).2.1).trans (h2 b (h.sr b hs).2.2.2 hb)
 · exact (h.a.apartT (by decide) h.b h2).keep (set_sameT (T := fun b => b ≠ rb) (fun hh => hh rfl)) fun x hx => h.a.ne_blk (by decide) h.g x hx
 · rw [List.length_append]
   exact h1.keep (set_sameT (T := fun b => b ≠ rb) (fun hh => hh rfl)) fun x hx => ne' h.g.lt gB x hx
 · have := (h.sr b hs).1
   simp [World.setCell]
   omega
theorem rgVals_set (ep : Int) (E : Option Addr) (ne ce : Nat) (A : Option Addr) (n c : Nat) (B : Option Addr) (m d : Nat) (q : Clk) (L : Option Addr) (nl cl : Nat) {k : Nat} (hk : k < 8) (v : Int) :
 (rgVals ep E ne ce A n c B m d q L nl cl).setIfInBounds (4 + k) (.int .i64 v) = rgVals ep E ne ce A n c B m d (q.set k v) L nl cl := by
 rcases lt8 hk with rfl | rfl | rfl | rfl | rfl | rfl | rfl | rfl <;> rfl
theorem rgVals_clk (ep : Int) (E : Option Addr) (ne ce : Nat) (A : Option Addr) (n c : Nat) (B : Option Addr) (m d : Nat) (q : Clk) (L : Option Addr) (nl cl : Nat) {k : Nat} (hk : k < 8) : (rgVals ep E ne ce A n c B m d q L nl cl)[4 + k]? = some (.int .i64 (q.get k)) := by
 rcases lt8 hk with rfl | rfl | rfl | rfl | rfl | rfl | rfl | rfl <;> rfl
theorem RgIn.tick (h : RgIn w rb E ce A c B d L cl SR s) {k : Nat} (hk : k < 8) (v : Int) : RgIn (w.setCell ⟨rb, 4 + k, none⟩ (.int .i64 v)) rb E ce A c B d L cl SR { s with clk := s.clk.set k v } := by
 have set_ : ∀ b, b ≠ rb → (w.setCell ⟨rb, 4 + k, none⟩ (.int .i64 v)).heap[b]? = w.heap[b]? := fun b hb => Below.heap_setCell _ _ _ _ hb
 refine ⟨?_, h.e.keep fun b hs _ => set_ b (h.sr b hs).2.1, h.l.keep fun b hs _ => set_ b (h.sr b hs).2.1, ?_, ?_, fun b hs => ⟨?_, (h.sr b hs).2⟩⟩
 · have := h.g.set_ (4 + k) (.int .i64 v)
   rw [rgVals_set _ _ _ _ _ _ _ _ _ _ _ _ _ _ hk] at this
   exact this
 · exact h.a.keep (set_sameT (T := fun b => b ≠ rb) (fun hh => hh rfl)) fun x hx => h.a.ne_blk (by decide) h.g x hx
 · exact h.b.keep (set_sameT (T := fun b => b ≠ rb) (fun hh => hh rfl)) fun x hx => h.b.ne_blk (by decide) h.g x hx
 · have := (h.sr b hs).1
   simp [World.setCell]
   omega
end
def RLogAt (w : World) (S : Nat → Prop) (rb : Nat) (s : Lg) : Prop := ∃ E ce A c B d L cl SR, RgIn w rb E ce A c B d L cl SR s ∧ ∀ b, RgBlk rb A B SR b → S b
variable {a : Nat → Addr}
def ErrAns (w : World) (S : Nat → Prop) (a : Nat → Addr) (ch : List Lk) (code : Nat) (v : Value) : Prop := code = 0 ∧ v = .nilIface ∨ IsErr w S a ch code v
theorem NoAns.shape {w : World} {S : Nat → Prop} {ch : List Lk} {code : Nat} {v : Value} (h : NoAns w S ch code v) : ∃ B m d C q r, v = .agg #[.int .i64 code, .slice B m d, .slice C q r] := by
 rcases h with ⟨rfl, rfl⟩ | ⟨_, A, n, c, B, d, rfl, _⟩
 · exact ⟨none, 0, 0, none, 0, 0, rfl⟩
 · exact ⟨A, n, c, B, 1, d, rfl⟩
theorem NoAns.keep {w w' : World} {S : Nat → Prop} {ch : List Lk} {code : Nat} {v : Value} (h : NoAns w S ch code v) (hz : w.heap.size ≤ w'.heap.size) (hs : Same S w w') : NoAns w' S ch code v :=
 h.imp id fun h => h.keepS hz hs
theorem NoAns.more {w : World} {S S' : Nat → Prop} {ch : List Lk} {code : Nat} {v : Value} (h : NoAns w S ch code v) (hs : ∀ b, b < w.heap.size → S b → S' b) : NoAns w S' ch code v := by
 refine h.imp id fun h => ?_
 obtain ⟨h1, A, n, c, B, d, rfl, hr1, hr2⟩ := h
 exact ⟨h1, A, n, c, B, d, rfl, hr1.more hs, hr2.more hs⟩
theorem refApply_step (A : Option Addr) (n c : Nat) (es : List El) (S S' : Nat → Prop) (o : Opn) (id : Nm) (w : World) (h : Row w S A n c es) (hn : n ≤ 1073741824) (hc : Calm 1000000 es) :
 Calls Tryz.prog 139 #[.slice A n c, o.agg, id.val] w fun e w' => ∃ A' c' v, e = .returned (.tuple #[.slice A' (appOf es o id).length c', v]) ∧ Row w' (Fr w S) A' (appOf es o id).length c' (appOf es o id) ∧ NoAns w' (Fr w S') (chOf o (whyOf es o id)) (whyOf es o id) v ∧ Below w.heap.size w w' := by
 have hlen := h.1
 have no : ∀ (ch : List Lk) (code : Nat), code ≠ 0 → whyOf es o id = code → chOf o code = ch → ∀ (e : Ending) (w' : World), (∃ v, e = .returned (.tuple #[.slice A n c, v]) ∧ IsNo w' (Fr w S') ch code v ∧ Below w.heap.size w w') →
  ∃ A' c' v, e = .returned (.tuple #[.slice A' (appOf es o id).length c', v]) ∧ Row w' (Fr w S) A' (appOf es o id).length c' (appOf es o id) ∧ NoAns w' (Fr w S') (chOf o (whyOf es o id)) (whyOf es o id) v ∧ Below w.heap.size w w' := by
  rintro ch code h0 hw hch e w' ⟨v, rfl, hv, hb⟩
  rw [appOf_not (by rw [hw]; exact h0), hlen]
  exact ⟨A, c, v, rfl, (h.step hb).more fun b _ h => .inl h, .inr (by rw [hw, hch]; exact hv), hb⟩
 rcases why_cases es o id with ⟨h1, h2⟩ | ⟨h1, h2, h3⟩ | ⟨h1, h2, h3, h4⟩ | ⟨h1, h2, h3⟩
 · exact (refApply_arg A n c o id S' w h2).mono (no _ 1 (by decide) h1 rfl)
 · exact (refApply_range A n c o id S' w h2 (by rw [← hlen]; exact h3)).mono (no _ 2 (by decide) h1 rfl)
 · exact (refApply_twice A n c es S S' o id w h hn (by rw [← hlen]; exact h2) h3 h4).mono (no _ 9 (by decide) h1 rfl)
 · obtain ⟨hro, h0, hh⟩ := validOp_right h2
   rw [appOf_done h1, h1]
   rw [hlen] at h2
   obtain ⟨k, t, c', r⟩ := o
   dsimp only at h0 hh h3
   obtain ⟨i, rfl⟩ : ∃ i : Nat, t = i := ⟨t.toNat, by omega⟩
   have yes : ∀ (es' : List El) (m : Nat), doneOp es ⟨k, i, c', r⟩ id = es' → ∀ (e : Ending) (w' : World), (∃ A' d, e = .returned (.tuple #[.slice A' m d, noNone]) ∧ Own w' w.heap.size A' m d es' ∧ Below w.heap.size w w') →
    ∃ A' d v, e = .returned (.tuple #[.slice A' (doneOp es ⟨k, i, c', r⟩ id).length d, v]) ∧ Row w' (Fr w S) A' (doneOp es ⟨k, i, c', r⟩ id).length d (doneOp es ⟨k, i, c', r⟩ id) ∧ NoAns w' (Fr w S') (chOf ⟨k, i, c', r⟩ 0) 0 v ∧ Below w.heap.size w w' := by
    rintro es' m rfl e w' ⟨A', d, rfl, ho, hb⟩
    have h1 := ho.1
    rw [h1]
    exact ⟨A', d, _, rfl, ho.row fun b h _ => .inr h, .inl ⟨rfl, rfl⟩, hb⟩
   rcases rightOp_kind hro with ⟨h5, h6⟩ | h5 | h5
   · simp only at h5
     subst h5
     exact (refApply_ins A n c i es S c' r id w h hn h2 (h3 rfl)).mono (yes _ _ (by simp [doneOp]))
   · simp only at h5
     subst h5
     have hi : i < es.length := by omega
     have he : es[i]? = some es[i] := List.getElem?_eq_getElem hi
     have hb := hc _ (List.getElem_mem hi)
     exact (refApply_era A n c i es S es[i] c' r id w h hn h2 he (by unfold fairH; simp; omega)).mono (yes _ _ (by simp [doneOp, he]))
   · simp only at h5
     subst h5
     have hi : i < es.length := by omega
     have he : es[i]? = some es[i] := List.getElem?_eq_getElem hi
     have hb := hc _ (List.getElem_mem hi)
     exact (refApply_res A n c i es S es[i] c' r id w h hn h2 he (by unfold fairH; simp; omega)).mono (yes _ _ (by simp [doneOp, he]))
theorem Sents.all {w : World} {S : Nat → Prop} (h : Sents w S a) : Sents w (fun _ => True) a := ⟨h.cell, fun _ _ _ => trivial, fun _ _ _ => trivial, h.inj, h.plain⟩
theorem refused_step (ch : List Lk) (code : Nat) (e v : Value) (S S' S'' : Nat → Prop) (w : World) (he : ErrAns w S a ch code e) (hno : NoAns w S' ch code v) (hs : Sents w S'' a) (hn : ch.length ≤ 1073741824) :
 Calls Tryz.prog 27 #[e, v] w fun e w' => e = .returned (.bool true) ∧ Below w.heap.size w w' := by
 rcases he with ⟨h1, rfl⟩ | h1
 · rcases hno with ⟨_, rfl⟩ | ⟨h2, _⟩
   · exact refused_none w
   · omega
 · rcases hno with ⟨h2, rfl⟩ | h2
   · exfalso
     subst h2
     have : ∀ ch v, ¬ IsErr w S a ch 0 v := fun ch => by
      induction ch with
      | nil => rintro v ⟨h, _⟩; omega
      | cons l r ih => rintro v ⟨_, _, _, _, _, h⟩; exact ih _ h
     exact this _ _ h1
   · exact refused_any (S := fun _ => True) ch code e v S' w (h1.more fun _ _ _ => trivial) h2 hs.all hn
theorem chOf_length (o : Opn) (n : Nat) : (chOf o n).length ≤ 1073741824 := by
 unfold chOf
 split <;> simp
end Go.Proofs.YteggpddlkkjmjaaGreatDoor
namespace Go.Proofs.YteggpddlkkjmjaaGreatDoor
open Go Go.RowKit
variable {a : Nat → Addr}
theorem name_rlog (w : World) (rb ce c d cl : Nat) (E A B L : Option Addr) (SR : Nat → Prop) (s : Lg) (x : Actn) (h : RgIn w rb E ce A c B d L cl SR s) :
 Calls Tryz.prog 140 #[.pointer (some ⟨rb, 0, none⟩), x.agg] w fun e w' => e = .returned (s.name x).val ∧ Below w.heap.size w w' := by
 obtain ⟨hX, hY, e0⟩ := twoBoxes w 46 70 x.vals #[.int .i64 0, .int .i64 0, .int .i64 0]
 have g0 : (((w.alloc (.cells x.vals 46)).alloc (.cells #[.int .i64 0, .int .i64 0, .int .i64 0] 70)).cell? ⟨rb, 0, none⟩) = some (.int .i64 s.ep) := (h.g.step e0).cell 0
 have gl := (h.g.step e0).lt
 have x3 : (((w.alloc (.cells x.vals 46)).alloc (.cells #[.int .i64 0, .int .i64 0, .int .i64 0] 70)).cell? ⟨w.heap.size, 3, none⟩) = some (.int .i64 x.op.rep) := hX.cell 3
 have x4 : (((w.alloc (.cells x.vals 46)).alloc (.cells #[.int .i64 0, .int .i64 0, .int .i64 0] 70)).cell? ⟨w.heap.size, 4, none⟩) = some (.int .i64 x.num) := hX.cell 4
 have xl := hX.lt
 have yl := hY.lt
 have HY := hid hY
 clear h hX hY
 simp only [Actn.agg, Actn.vals, Nm.val, Lg.name] at *
 go_enter Tryz.func140, Tryz.ntmps140
 repeat' (first | (with_reducible refine stop_region 1 ?_) | go_step)
 refine Stop.go ?_
 generalize (w.alloc (.cells #[.int .i64 x.op.kind, .int .i64 x.op.at_, .int .i32 x.op.char, .int .i64 x.op.rep, .int .i64 x.num, .int .i64 x.clk.c0, .int .i64 x.clk.c1, .int .i64 x.clk.c2, .int .i64 x.clk.c3, .int .i64 x.clk.c4, .int .i64 x.clk.c5, .int .i64 x.clk.c6, .int .i64 x.clk.c7] 46)).alloc (.cells #[.int .i64 0, .int .i64 0, .int .i64 0] 70) = X at *
 have y0 : X.cell? ⟨w.heap.size + 1, 0, none⟩ = some (.int .i64 0) := HY.out.cell 0
 have y1 : X.cell? ⟨w.heap.size + 1, 1, none⟩ = some (.int .i64 0) := HY.out.cell 1
 have y2 : X.cell? ⟨w.heap.size + 1, 2, none⟩ = some (.int .i64 0) := HY.out.cell 2
 have f0 := HY.out.frozen 0
 have f1 := HY.out.frozen 1
 have f2 := HY.out.frozen 2
 repeat' (first | ((with_reducible refine region_at 1 ?_); refine wp_region_order (rgl [0,4,8,12,16,20,24,28,32,36,43]) (by kernel_rfl) (by kernel_rfl) (by kernel_rfl) rfl rfl ?_) | (with_reducible refine Keep.last ?_) | ((with_reducible refine WpH.here ?_); first | (refine WpH.nil ?_; refine NoP.normal ?_) | ((first | refine WpH.load (by rfl) (by rfl) (by go_simp; rfl) ?_ | refine WpH.pure (by rfl) (fun w_ => by go_simp; (try go_bits); rfl) ?_); go_frame) | (refine WpH.wild1 (by rfl) (fun _ _ => ?_))) | go_step)
 have hz := (((HY.out.set_ 0 (.int .i64 s.ep)).set_ 1 (.int .i64 x.op.rep)).set_ 2 (.int .i64 x.num)).drew
 have z0 := hz.cell 0
 have z1 := hz.cell 1
 have z2 := hz.cell 2
 simp at z0 z1 z2
 refine bodyPost_ret (v := .agg #[.int .i64 s.ep, .int .i64 x.op.rep, .int .i64 x.num]) (by simp [results, Tryz.results140, go_sem, z0, z1, z2]) rfl ⟨rfl, (bset (bset (bset e0 (by show w.heap.size ≤ w.heap.size + 1; omega)) (by show w.heap.size ≤ w.heap.size + 1; omega)) (by show w.heap.size ≤ w.heap.size + 1; omega)).drew⟩
theorem refApply_yes (A : Option Addr) (n c : Nat) (es : List El) (S : Nat → Prop) (o : Opn) (id : Nm) (w : World) (h : Row w S A n c es) (hn : n ≤ 1073741824) (hc : Calm 1000000 es) (hw : whyOf es o id = 0) :
 Calls Tryz.prog 139 #[.slice A n c, o.agg, id.val] w fun e w' => ∃ A' c', e = .returned (.tuple #[.slice A' (appOf es o id).length c', noNone]) ∧ Row w' (Fr w S) A' (appOf es o id).length c' (appOf es o id) ∧ Below w.heap.size w w' := by
 refine (refApply_step A n c es S (fun _ => False) o id w h hn hc).mono ?_
 rintro e w' ⟨A', c', v, rfl, hr, hno, hb⟩
 rcases hno with ⟨-, rfl⟩ | hno
 · exact ⟨A', c', rfl, hr, hb⟩
 · have := hno.1
   omega
theorem refApply_nay (A : Option Addr) (n c : Nat) (es : List El) (S S' : Nat → Prop) (o : Opn) (id : Nm) (w : World) (h : Row w S A n c es) (hn : n ≤ 1073741824) (hc : Calm 1000000 es) (hw : whyOf es o id ≠ 0) :
 Calls Tryz.prog 139 #[.slice A n c, o.agg, id.val] w fun e w' => ∃ A' c' v, e = .returned (.tuple #[.slice A' n c', v]) ∧ IsNo w' (Fr w S') (chOf o (whyOf es o id)) (whyOf es o id) v ∧ Below w.heap.size w w' := by
 refine (refApply_step A n c es S S' o id w h hn hc).mono ?_
 rintro e w' ⟨A', c', v, rfl, hr, hno, hb⟩
 rw [appOf_not hw, h.1]
 rcases hno with ⟨h0, -⟩ | hno
 · exact absurd h0 hw
 · exact ⟨A', c', v, rfl, hno, hb⟩
theorem Out.new {S : Nat → Prop} {w w1 : World} (h : Out S w w1) {p : Addr} (hp : w.heap.size ≤ p.block) (v : Value) : Out S w (w1.setCell p v) :=
 ⟨h.os, h.tape, h.output, by have := h.size; simp [World.setCell]; omega, fun k hk hn => (Below.heap_setCell _ _ _ _ (by omega)).trans (h.block k hk hn)⟩
theorem rep_why {l : List El} {f : Opn} {id : Nm} (hw : whyOf l f id = 0) : ∃ k : Nat, f.rep = k ∧ k < 8 := by
 rcases why_cases l f id with ⟨h1, -⟩ | ⟨h1, -⟩ | ⟨h1, -⟩ | ⟨-, h2, -⟩
 · rw [hw] at h1; cases h1
 · rw [hw] at h1; cases h1
 · rw [hw] at h1; cases h1
 · have h3 := valid_right h2
   unfold rightOp at h3
   by_cases h4 : f.rep < 0 ∨ 8 ≤ f.rep
   · rw [if_pos h4] at h3; cases h3
   · exact ⟨f.rep.toNat, by omega, by omega⟩
theorem heap_set8 {w : World} {p : Addr} {v : Value} {b : Nat} (h : b ≠ p.block) : (w.setCell p v).heap[b]? = w.heap[b]? := Below.heap_setCell _ _ _ _ h
theorem rdeliver_ok (w : World) (rb ce c d cl : Nat) (E A B L : Option Addr) (SR S : Nat → Prop) (s : Lg) (x : Actn) (f : Opn) (h : RgIn w rb E ce A c B d L cl SR s) (hS : ∀ b, RgBlk rb A B SR b → S b) (hz : s.l.length ≤ 1048576 ∧ s.acts.length ≤ 1048576 ∧ s.forms.length ≤ 1048576) (hc : Calm 1000000 s.l) (hr : x.op.rep = f.rep) (hw : whyOf s.l f (s.name x) = 0) :
 Calls Tryz.prog 105 #[.pointer (some ⟨rb, 0, none⟩), x.agg, f.agg] w fun e w' => e = .returned noNone ∧ RLogAt w' (Fr w S) rb (s.deliver x f) ∧ Out S w w' := by
 have HA := hid (fun W (hb : Below ((((w.alloc (.cells x.vals 46)).alloc (.cells (opCells f) 37)).alloc (.cells #[.int .i64 0, .slice none 0 0, .slice none 0 0] 62))).heap.size ((((w.alloc (.cells x.vals 46)).alloc (.cells (opCells f) 37)).alloc (.cells #[.int .i64 0, .slice none 0 0, .slice none 0 0] 62))) W) => refApply_yes L s.l.length cl s.l SR f (s.name x) W ((h.step (balloc (balloc (balloc (Below.refl _ w))))).l.step hb) (by have := hz.1; omega) hc hw)
 have Hzz := hid hz
 have HS := hid hS
 have hAl : ∀ y, A = some y → y.block < w.heap.size := fun y hy => (h.a.block y hy).2
 have hBl : ∀ y, B = some y → y.block < w.heap.size := fun y hy => (h.b.block y hy).2
 have hsr0 : ∀ b, SR b → b < w.heap.size := fun b hb => (h.sr b hb).1
 have Hw := hid hw
 have Hr := hid hr
 clear hz hS hw hr hc
 unfold noNone at HA
 obtain ⟨hX, hY, hZ, e0⟩ := boxes3 w 46 37 62 x.vals (opCells f) #[.int .i64 0, .slice none 0 0, .slice none 0 0]
 have h0 := h.step e0
 have HN := hid (fun W (hb : Below ((((w.alloc (.cells x.vals 46)).alloc (.cells (opCells f) 37)).alloc (.cells #[.int .i64 0, .slice none 0 0, .slice none 0 0] 62))).heap.size ((((w.alloc (.cells x.vals 46)).alloc (.cells (opCells f) 37)).alloc (.cells #[.int .i64 0, .slice none 0 0, .slice none 0 0] 62))) W) => name_rlog W rb ce c d cl E A B L SR s x (h0.step hb))
 have Hx := hid hX
 have Hy := hid hY
 have Hz0 := hid hZ
 have Hh := hid h0
 have xl := hX.lt
 have yl := hY.lt
 have zl := hZ.lt
 have gl := h0.g.lt
 have ne1 : rb ≠ w.heap.size := fun e => by have := h.g.lt; omega
 have ne2 : rb ≠ w.heap.size + 1 := fun e => by have := h.g.lt; omega
 have ne3 : rb ≠ w.heap.size + 1 + 1 := fun e => by have := h.g.lt; omega
 have hw2 : w.heap.size + 1 + 1 < ((((w.alloc (.cells x.vals 46)).alloc (.cells (opCells f) 37)).alloc (.cells #[.int .i64 0, .slice none 0 0, .slice none 0 0] 62))).heap.size := hZ.lt
 have hrw := h.g.lt
 clear hX hY hZ h0
 simp only [Actn.agg, Opn.agg] at *
 unfold Actn.vals opCells at *
 go_enter Tryz.func105, Tryz.ntmps105
 repeat' (first | (with_reducible refine stop_region 1 ?_) | go_step)
 refine Stop.go ?_
 generalize ((w.alloc (.cells #[.int .i64 x.op.kind, .int .i64 x.op.at_, .int .i32 x.op.char, .int .i64 x.op.rep, .int .i64 x.num, .int .i64 x.clk.c0, .int .i64 x.clk.c1, .int .i64 x.clk.c2, .int .i64 x.clk.c3, .int .i64 x.clk.c4, .int .i64 x.clk.c5, .int .i64 x.clk.c6, .int .i64 x.clk.c7] 46)).alloc (.cells #[.int .i64 f.kind, .int .i64 f.at_, .int .i32 f.char, .int .i64 f.rep] 37)).alloc (.cells #[.int .i64 0, .slice none 0 0, .slice none 0 0] 62) = X at *
 have q12 : X.cell? ⟨rb, 12, none⟩ = some (.slice L s.l.length cl) := Hh.out.g.cell 12
 obtain ⟨x0, x1, x2, x3, x4, x5, x6, x7, x8, x9, x10, x11, x12⟩ := cl13 (w := X) (g := w.heap.size) Hx.out
 obtain ⟨y0, y1, y2, y3⟩ := cl4 (w := X) (g := w.heap.size + 1) Hy.out
 have hTB := Blk.new X 62 #[.int .i64 0, .slice none 0 0, .slice none 0 0]
 repeat' (first | ((with_reducible refine region_at 1 ?_); refine wp_region_ordT (fun _ => True) (rgo [0,4,8,12,16,20,24] (.two 7 12 (.two 8 12 (rgo [36,40,44,49,52,59] .nil) (rgo [33,36,40,44,52,59] .nil)) (rgo [29,33,36,40,44,52,59] .nil))) (by kernel_rfl) (by kernel_rfl) (by kernel_rfl) rfl rfl ?_) | (with_reducible refine Keep.allocD ?_) | (go_at_call 140; go_must ((with_reducible refine Calls.mono (HN.out _ (by (repeat' (first | (with_reducible exact Below.refl _ _) | (with_reducible refine balloc ?_) | (with_reducible refine bdrew ?_))))) ?_); rintro _ w1 ⟨rfl, hb1⟩; have D1 := bvia (show Below X.heap.size X _ by (repeat' (first | (with_reducible exact Below.refl _ _) | (with_reducible refine balloc ?_) | (with_reducible refine bdrew ?_)))) hb1; (try (have hT1 := hTB.drew.step hb1; obtain ⟨tl, t0, t1, t2, tf0, tf1, tf2⟩ := bl3 hT1)); dsimp only)) | (go_at_call 139; go_must ((with_reducible refine Calls.mono (HA.out _ (by (repeat' (first | (with_reducible assumption) | (with_reducible refine balloc ?_))))) ?_); rintro _ w2 ⟨L', cl', rfl, hr2, hb2⟩; have D2 := bvia (show Below X.heap.size X _ by (repeat' (first | (with_reducible assumption) | (with_reducible refine balloc ?_)))) hb2; (try (have hT2 := hT1.step hb2; clear t0 t1 t2 tf0 tf1 tf2 tl; have hr4 : Row w2 (fun b => (SR b ∨ X.heap.size ≤ b) ∧ b ≠ X.heap.size) L' _ cl' _ := hr2.more (fun b _ hb => (by have h9 := hT1.lt; have h8 := hw2; rcases hb with hb | hb; exact ⟨.inl hb, by have := hsr0 b hb; omega⟩; have hb' : w1.heap.size ≤ b := hb; exact ⟨.inr (by omega), by omega⟩)); obtain ⟨tl, t0, t1, t2, tf0, tf1, tf2⟩ := bl3 hT2)); (try (have hT2 := (Blk.new w1 62 #[.int .i64 0, .slice none 0 0, .slice none 0 0]).step hb2; have hr4 : Row w2 (fun b => (SR b ∨ X.heap.size ≤ b) ∧ b ≠ w1.heap.size) L' _ cl' _ := hr2.more (fun b _ hb => (by have h9 := (Blk.new w1 62 #[.int .i64 0, .slice none 0 0, .slice none 0 0]).lt; have h7 := D1.size; have h8 := hw2; rcases hb with hb | hb; exact ⟨.inl hb, by have := hsr0 b hb; omega⟩; have hb' : (w1.alloc (.cells #[.int .i64 0, .slice none 0 0, .slice none 0 0] 62)).heap.size ≤ b := hb; exact ⟨.inr (by omega), by omega⟩)); obtain ⟨tl, t0, t1, t2, tf0, tf1, tf2⟩ := bl3 hT2)); dsimp only)) | (with_reducible refine stop_region 2 ?_) | (with_reducible first | refine Keep.last ?_ | refine Keep.below (by assumption) ?_ | refine Keep.alloc ?_) | ((with_reducible refine WpO.here ?_); first | (refine WpO.done ?_; refine NoP.normal ?_) | ((first | refine WpO.load (by rfl) (by rfl) (by go_simp; rfl) ?_ | refine WpO.pure (by rfl) (fun w_ => by go_simp; (try go_bits); rfl) ?_); go_frame) | refine WpO.wild ?_ | refine WpO.two ?_ ?_) | ((with_reducible refine wildO.here ?_); (refine wildO.go (by rfl) (fun _ _ => ?_))) | go_step)
 all_goals
  refine Stop.go ?_
  first
  | (have hT : Blk (((w2.setCell ⟨w1.heap.size, 0, none⟩ (.int .i64 0)).setCell ⟨w1.heap.size, 1, none⟩ (.slice none 0 0)).setCell ⟨w1.heap.size, 2, none⟩ (.slice none 0 0)) w1.heap.size 62 #[.int .i64 0, .slice none 0 0, .slice none 0 0] := ((hT2.set_ 0 (.int .i64 0)).set_ 1 (.slice none 0 0)).set_ 2 (.slice none 0 0); have DW : Below X.heap.size X (((w2.setCell ⟨w1.heap.size, 0, none⟩ (.int .i64 0)).setCell ⟨w1.heap.size, 1, none⟩ (.slice none 0 0)).setCell ⟨w1.heap.size, 2, none⟩ (.slice none 0 0)) := bset (bset (bset D2 (by have := D1.size; show X.heap.size ≤ w1.heap.size; omega)) (by have := D1.size; show X.heap.size ≤ w1.heap.size; omega)) (by have := D1.size; show X.heap.size ≤ w1.heap.size; omega); have hrow : Row (((w2.setCell ⟨w1.heap.size, 0, none⟩ (.int .i64 0)).setCell ⟨w1.heap.size, 1, none⟩ (.slice none 0 0)).setCell ⟨w1.heap.size, 2, none⟩ (.slice none 0 0)) (fun b => SR b ∨ X.heap.size ≤ b) L' _ cl' _ := (hr4.keep (w' := ((w2.setCell ⟨w1.heap.size, 0, none⟩ (.int .i64 0)).setCell ⟨w1.heap.size, 1, none⟩ (.slice none 0 0)).setCell ⟨w1.heap.size, 2, none⟩ (.slice none 0 0)) (fun b hb hl => (by rw [heap_set8 hb.2, heap_set8 hb.2, heap_set8 hb.2]))).more (fun b _ hb => hb.1); clear hT2 t0 t1 t2 tf0 tf1 tf2 tl hr4; generalize ((w2.setCell ⟨w1.heap.size, 0, none⟩ (.int .i64 0)).setCell ⟨w1.heap.size, 1, none⟩ (.slice none 0 0)).setCell ⟨w1.heap.size, 2, none⟩ (.slice none 0 0) = W1 at *; generalize w1.heap.size = tb at hT ⊢)
  | (have hT : Blk (((w2.setCell ⟨X.heap.size, 0, none⟩ (.int .i64 0)).setCell ⟨X.heap.size, 1, none⟩ (.slice none 0 0)).setCell ⟨X.heap.size, 2, none⟩ (.slice none 0 0)) X.heap.size 62 #[.int .i64 0, .slice none 0 0, .slice none 0 0] := ((hT2.set_ 0 (.int .i64 0)).set_ 1 (.slice none 0 0)).set_ 2 (.slice none 0 0); have DW : Below X.heap.size X (((w2.setCell ⟨X.heap.size, 0, none⟩ (.int .i64 0)).setCell ⟨X.heap.size, 1, none⟩ (.slice none 0 0)).setCell ⟨X.heap.size, 2, none⟩ (.slice none 0 0)) := bset (bset (bset D2 (by have := D1.size; show X.heap.size ≤ X.heap.size; omega)) (by have := D1.size; show X.heap.size ≤ X.heap.size; omega)) (by have := D1.size; show X.heap.size ≤ X.heap.size; omega); have hrow : Row (((w2.setCell ⟨X.heap.size, 0, none⟩ (.int .i64 0)).setCell ⟨X.heap.size, 1, none⟩ (.slice none 0 0)).setCell ⟨X.heap.size, 2, none⟩ (.slice none 0 0)) (fun b => SR b ∨ X.heap.size ≤ b) L' _ cl' _ := (hr4.keep (w' := ((w2.setCell ⟨X.heap.size, 0, none⟩ (.int .i64 0)).setCell ⟨X.heap.size, 1, none⟩ (.slice none 0 0)).setCell ⟨X.heap.size, 2, none⟩ (.slice none 0 0)) (fun b hb hl => (by rw [heap_set8 hb.2, heap_set8 hb.2, heap_set8 hb.2]))).more (fun b _ hb => hb.1); clear hT2 t0 t1 t2 tf0 tf1 tf2 tl hr4; generalize ((w2.setCell ⟨X.heap.size, 0, none⟩ (.int .i64 0)).setCell ⟨X.heap.size, 1, none⟩ (.slice none 0 0)).setCell ⟨X.heap.size, 2, none⟩ (.slice none 0 0) = W1 at *; generalize X.heap.size = tb at hT ⊢)
  | (have eW := balloc (o := (.cells #[.int .i64 0, .slice none 0 0, .slice none 0 0] 62)) (Below.refl _ w2); have hT := Blk.new w2 62 #[.int .i64 0, .slice none 0 0, .slice none 0 0]; have DW := bvia D2 eW; have hrow : Row (w2.alloc (.cells #[.int .i64 0, .slice none 0 0, .slice none 0 0] 62)) (fun b => SR b ∨ X.heap.size ≤ b) L' _ cl' _ := (hr2.step eW).more (fun b _ hb => hb.imp id (fun h => Nat.le_trans D1.size h)); clear eW; generalize w2.alloc (.cells #[.int .i64 0, .slice none 0 0, .slice none 0 0] 62) = W1 at *; generalize w2.heap.size = tb at *)
  have R1 := (Hh.out.row (L' := L') (cl' := cl') DW (hrow.more fun b _ hb => hb))
  have hS2 : ∀ b, (Fr X SR b ∧ b < W1.heap.size) → Fr w S b := fun b hb => hb.1.imp (fun h => HS.out b (.inl h)) fun h => by have h' : X.heap.size ≤ b := h; show w.heap.size ≤ b; omega
  obtain ⟨SR2, hSq⟩ : ∃ Q : Nat → Prop, Q = fun b => Fr X SR b ∧ b < W1.heap.size := ⟨_, rfl⟩
  rw [← hSq] at R1
  have hSR2 : ∀ b, SR2 b → Fr w S b := by rw [hSq]; exact hS2
  have hSRn : ∀ b, SR2 b → b ≠ w.heap.size + 1 + 1 := by
   rw [hSq]
   rintro b ⟨hb | hb, -⟩
   · have := hsr0 b hb; omega
   · have hb' : X.heap.size ≤ b := hb
     omega
  have t0 := hT.cell 0
  have tl := hT.lt
  simp at t0
  have g12 : W1.cell? ⟨rb, 12, none⟩ = some (.slice L s.l.length cl) := (Hh.out.step DW).g.cell 12
  have fg12 := (Hh.out.step DW).g.frozen 12
  have gl1 := (Hh.out.step DW).g.lt
  have hx1 := Hx.out.step DW
  have hy1 := Hy.out.step DW
  have hz1 := Hz0.out.step DW
  have OW : Out S w W1 := Out.of_below (bvia e0 DW)
  clear hSq hS2 q12 x0 x1 x2 x3 x4 x5 x6 x7 x8 x9 x10 x11 x12 y0 y1 y2 y3 hTB hr2 D1 D2 hb1 hb2 hrow xl yl zl gl HN HA
  repeat' (first | (with_reducible refine stop_region 5 ?_) | go_step)
  refine Stop.go ?_
  have hx2 : Blk (W1.setCell ⟨rb, 12, none⟩ (.slice L' (appOf s.l f (s.name x)).length cl')) w.heap.size _ _ := hx1.far ne1.symm _
  have hy2 : Blk (W1.setCell ⟨rb, 12, none⟩ (.slice L' (appOf s.l f (s.name x)).length cl')) (w.heap.size + 1) _ _ := hy1.far ne2.symm _
  have hz2 : Blk (W1.setCell ⟨rb, 12, none⟩ (.slice L' (appOf s.l f (s.name x)).length cl')) (w.heap.size + 1 + 1) _ _ := hz1.far ne3.symm _
  have O2 := OW.trans (Out.setCell (S := S) (p := ⟨rb, 12, none⟩) (HS.out rb (.inr (.inl rfl))) (.slice L' (appOf s.l f (s.name x)).length cl')) fun _ _ h => h
  clear t0 tl g12 fg12 gl1 hx1 hy1 hz1 OW hT DW Hh Hx Hy Hz0
  generalize W1.setCell ⟨rb, 12, none⟩ (.slice L' (appOf s.l f (s.name x)).length cl') = W2 at *
  have hw2 : w.heap.size + 1 + 1 < W2.heap.size := hz2.lt
  have q2 : W2.drew.cell? ⟨rb, 2, none⟩ = some (.slice A s.acts.length c) := R1.g.drew.cell 2
  have x0 : W2.drew.cell? ⟨w.heap.size, 0, none⟩ = some (.int .i64 x.op.kind) := Blk.cell (Blk.drew hx2) 0
  have x1 : W2.drew.cell? ⟨w.heap.size, 1, none⟩ = some (.int .i64 x.op.at_) := Blk.cell (Blk.drew hx2) 1
  have x2 : W2.drew.cell? ⟨w.heap.size, 2, none⟩ = some (.int .i32 x.op.char) := Blk.cell (Blk.drew hx2) 2
  have x3 : W2.drew.cell? ⟨w.heap.size, 3, none⟩ = some (.int .i64 x.op.rep) := Blk.cell (Blk.drew hx2) 3
  have x4 : W2.drew.cell? ⟨w.heap.size, 4, none⟩ = some (.int .i64 x.num) := Blk.cell (Blk.drew hx2) 4
  have x5 : W2.drew.cell? ⟨w.heap.size, 5, none⟩ = some (.int .i64 x.clk.c0) := Blk.cell (Blk.drew hx2) 5
  have x6 : W2.drew.cell? ⟨w.heap.size, 6, none⟩ = some (.int .i64 x.clk.c1) := Blk.cell (Blk.drew hx2) 6
  have x7 : W2.drew.cell? ⟨w.heap.size, 7, none⟩ = some (.int .i64 x.clk.c2) := Blk.cell (Blk.drew hx2) 7
  have x8 : W2.drew.cell? ⟨w.heap.size, 8, none⟩ = some (.int .i64 x.clk.c3) := Blk.cell (Blk.drew hx2) 8
  have x9 : W2.drew.cell? ⟨w.heap.size, 9, none⟩ = some (.int .i64 x.clk.c4) := Blk.cell (Blk.drew hx2) 9
  have x10 : W2.drew.cell? ⟨w.heap.size, 10, none⟩ = some (.int .i64 x.clk.c5) := Blk.cell (Blk.drew hx2) 10
  have x11 : W2.drew.cell? ⟨w.heap.size, 11, none⟩ = some (.int .i64 x.clk.c6) := Blk.cell (Blk.drew hx2) 11
  have x12 : W2.drew.cell? ⟨w.heap.size, 12, none⟩ = some (.int .i64 x.clk.c7) := Blk.cell (Blk.drew hx2) 12
  have gl := R1.g.lt
  have xl := hx2.lt
  have qg : W2.drew.heap[rb]? = some (.cells _ 89 (0, 0)) := R1.g
  have qx : W2.drew.heap[w.heap.size]? = some (.cells _ 46 (0, 0)) := hx2
  have t1 : ∀ g, A = some g → g.block ≠ rb := R1.a.ne_blk (by decide) R1.g
  have t2 : ∀ g, A = some g → g.block ≠ w.heap.size := fun g hg => by have := hAl g hg; omega
  have eX : Below W2.heap.size W2 (W2.alloc (.cells #[.int .i64 x.op.kind, .int .i64 x.op.at_, .int .i32 x.op.char, .int .i64 x.op.rep, .int .i64 x.num, .int .i64 x.clk.c0, .int .i64 x.clk.c1, .int .i64 x.clk.c2, .int .i64 x.clk.c3, .int .i64 x.clk.c4, .int .i64 x.clk.c5, .int .i64 x.clk.c6, .int .i64 x.clk.c7] 46)) := balloc (Below.refl _ _)
  have hA3 := (R1.a.step eX).step (drew_below _)
  have hrow3 := (grow_act W2 x).step (drew_below _)
  unfold Actn.vals at hrow3
  have Hz1 := Hzz.out.2.1
  have HX2 := hid hx2
  have HY2 := hid hy2
  have HZ2 := hid hz2
  have HL2 := hid R1
  clear R1 hx2 hy2 hz2
  dsimp only at hA3
  repeat' (first | ((with_reducible refine region_at 5 ?_); refine wp_region_orderT (fun b => ∀ g, A = some g → g.block ≠ b) (rgl [0,4,8,12,16,20,25,29,32,36,43]) (by kernel_rfl) (by kernel_rfl) (by kernel_rfl) rfl rfl ?_) | (with_reducible refine Keep.allocD ?_) | ((with_reducible refine app_acts_here ?_); refine wp_append_acts 0 A _ s.acts.length c 1 1 s.acts [x] (fun _ => True) (by rfl) (by rfl) hA3 hrow3 (Nat.zero_le _) (by omega) ?_; intro A' c' w5 hA5 hb5 hsm5 hat5 hz5; have hk5 : KeepT (fun b => ∀ g, A = some g → g.block ≠ b) _ w5 := ⟨hz5, fun b hb ht => hsm5 b ht hb⟩; have g5 : Blk w5 rb _ _ := (hsm5 rb t1 (HL2.out.step (bvia eX (drew_below _))).g.lt).trans (HL2.out.step (bvia eX (drew_below _))).g; have f5 := g5.frozen 2; have gl5 := g5.lt; have g35 : w5.cell? ⟨rb, 2, none⟩ = some (.slice A s.acts.length c) := g5.cell 2) | (with_reducible refine stop_region 6 ?_) | (with_reducible first | refine Keep.last ?_ | refine Keep.kept (by assumption) ?_) | ((with_reducible refine WpH.here ?_); first | (refine WpH.nil ?_; refine NoP.normal ?_) | ((first | refine WpH.loadT (by rfl) (by rfl) (by go_simp; rfl) (by rintro _ _ ⟨⟩; exact ⟨_, _, _, _, _, _, by rfl, by assumption, by assumption⟩) ?_ | refine WpH.pure (by rfl) (fun w_ => by go_simp; (try go_bits); rfl) ?_); go_frame) | (refine WpH.wild1 (by rfl) (fun _ _ => ?_))) | go_step)
  refine Stop.go ?_
  have e3 := bvia eX (drew_below _)
  have L5 := (HL2.out.step e3).act hA5 hsm5 hz5 hat5
  have same6 : ∀ b, b < W2.heap.size → (∀ g, A = some g → g.block ≠ b) → b ≠ rb → (w5.setCell ⟨rb, 2, none⟩ (.slice A' (s.acts.length + 1) c')).heap[b]? = W2.heap[b]? := fun b hb h1 h2 => (Below.heap_setCell _ _ _ _ h2).trans ((hsm5 b h1 (Nat.lt_of_lt_of_le hb e3.size)).trans (e3.block b hb))
  have hx6 := (same6 _ HX2.out.lt t2 ne1.symm).trans HX2.out
  have hy6 := (same6 _ HY2.out.lt (fun g hg => by have := hAl g hg; omega) ne2.symm).trans HY2.out
  have hz6 := (same6 _ HZ2.out.lt (fun g hg => by have := hAl g hg; omega) ne3.symm).trans HZ2.out
  have O6 : Out S w (w5.setCell ⟨rb, 2, none⟩ (.slice A' (s.acts.length + 1) c')) := by
   refine (O2.trans (Out.of_below (S := S) e3) fun _ _ h => h).trans ?_ fun _ _ h => h
   refine Out.trans (S' := S) (⟨hb5.os, hb5.tape, hb5.output, hz5, fun b hb hn => hsm5 b (fun g hg e => hn (HS.out b (.inr (.inr (.inl ⟨g, hg, e.symm⟩))))) hb⟩ : Out S _ w5) (Out.setCell (S := S) (p := ⟨rb, 2, none⟩) (HS.out rb (.inr (.inl rfl))) _) fun _ _ h => h
  have hA' : ∀ y, A' = some y → Fr w S y.block := fun y hy => by
   rcases hat5 with rfl | ⟨g, rfl, hg⟩
   · exact .inl (HS.out _ (.inr (.inr (.inl ⟨y, hy, rfl⟩))))
   · injection hy with hy
     subst hy
     refine .inr ?_
     show w.heap.size ≤ g
     have := O2.size
     have := e3.size
     omega
  clear hA5 hsm5 hat5 hk5 g5 f5 gl5 g35 q2 x0 x1 x2 x3 x4 x5 x6 x7 x8 x9 x10 x11 x12 qg qx t1 t2 eX e3 hA3 hrow3 HX2 HY2 HZ2 HL2 gl xl same6 Hz1 hw2 O2 hb5 hz5
  generalize w5.setCell ⟨rb, 2, none⟩ (.slice A' (s.acts.length + 1) c') = w6 at *
  have q3 : w6.drew.cell? ⟨rb, 3, none⟩ = some (.slice B s.forms.length d) := L5.g.drew.cell 3
  have y0 : w6.drew.cell? ⟨w.heap.size + 1, 0, none⟩ = some (.int .i64 f.kind) := Blk.cell (Blk.drew hy6) 0
  have y1 : w6.drew.cell? ⟨w.heap.size + 1, 1, none⟩ = some (.int .i64 f.at_) := Blk.cell (Blk.drew hy6) 1
  have y2 : w6.drew.cell? ⟨w.heap.size + 1, 2, none⟩ = some (.int .i32 f.char) := Blk.cell (Blk.drew hy6) 2
  have y3 : w6.drew.cell? ⟨w.heap.size + 1, 3, none⟩ = some (.int .i64 f.rep) := Blk.cell (Blk.drew hy6) 3
  have gl := L5.g.lt
  have yl := Blk.lt hy6
  have qg : w6.drew.heap[rb]? = some (.cells _ 89 (0, 0)) := L5.g
  have qy : w6.drew.heap[w.heap.size + 1]? = some (.cells _ 37 (0, 0)) := hy6
  have t1 : ∀ g, B = some g → g.block ≠ rb := L5.b.ne_blk (by decide) L5.g
  have t2 : ∀ g, B = some g → g.block ≠ w.heap.size + 1 := fun g hg => by have := hBl g hg; omega
  have eX : Below w6.heap.size w6 (w6.alloc (.cells #[.int .i64 f.kind, .int .i64 f.at_, .int .i32 f.char, .int .i64 f.rep] 37)) := balloc (Below.refl _ _)
  have hB3 := (L5.b.step eX).step (drew_below _)
  have hrow3 := (grow_opn w6 f).step (drew_below _)
  unfold opCells at hrow3
  have Hz1 := Hzz.out.2.2
  have HL5 := hid L5
  have HX6 := hid hx6
  have HY6 := hid hy6
  have HZ6 := hid hz6
  clear L5 hx6 hy6 hz6
  dsimp only at hB3
  repeat' (first | ((with_reducible refine region_at 6 ?_); refine wp_region_orderT (fun b => ∀ g, B = some g → g.block ≠ b) (rgl [0,4,8,12,16,20,25,29,32,36,43]) (by kernel_rfl) (by kernel_rfl) (by kernel_rfl) rfl rfl ?_) | (with_reducible refine Keep.allocD ?_) | ((with_reducible refine app_ops_here ?_); refine wp_append_ops 0 B _ s.forms.length d 1 1 s.forms [f] (fun _ => True) (by rfl) (by rfl) hB3 hrow3 (Nat.zero_le _) (by omega) ?_; intro B' d' w7 hB7 hb7 hsm7 hat7 hz7; have hk7 : KeepT (fun b => ∀ g, B = some g → g.block ≠ b) _ w7 := ⟨hz7, fun b hb ht => hsm7 b ht hb⟩; have g7 : Blk w7 rb _ _ := (hsm7 rb t1 (HL5.out.step (bvia eX (drew_below _))).g.lt).trans (HL5.out.step (bvia eX (drew_below _))).g; have f7 := g7.frozen 3; have gl7 := g7.lt; have g47 : w7.cell? ⟨rb, 3, none⟩ = some (.slice B s.forms.length d) := g7.cell 3) | (with_reducible refine stop_region 7 ?_) | (with_reducible first | refine Keep.last ?_ | refine Keep.kept (by assumption) ?_) | ((with_reducible refine WpH.here ?_); first | (refine WpH.nil ?_; refine NoP.normal ?_) | ((first | refine WpH.loadT (by rfl) (by rfl) (by go_simp; rfl) (by rintro _ _ ⟨⟩; exact ⟨_, _, _, _, _, _, by rfl, by assumption, by assumption⟩) ?_ | refine WpH.pure (by rfl) (fun w_ => by go_simp; (try go_bits); rfl) ?_); go_frame) | (refine WpH.wild1 (by rfl) (fun _ _ => ?_))) | go_step)
  refine Stop.go ?_
  have e3 := bvia eX (drew_below _)
  have L7 := (HL5.out.step e3).form hB7 hsm7 hz7 hat7
  have same7 : ∀ b, b < w6.heap.size → (∀ g, B = some g → g.block ≠ b) → b ≠ rb → (w7.setCell ⟨rb, 3, none⟩ (.slice B' (s.forms.length + 1) d')).heap[b]? = w6.heap[b]? := fun b hb h1 h2 => (Below.heap_setCell _ _ _ _ h2).trans ((hsm7 b h1 (Nat.lt_of_lt_of_le hb e3.size)).trans (e3.block b hb))
  have hx7 := (same7 _ (Blk.lt HX6.out) (fun g hg => by have := hBl g hg; omega) ne1.symm).trans HX6.out
  have hz7b := (same7 _ (Blk.lt HZ6.out) (fun g hg => by have := hBl g hg; omega) ne3.symm).trans HZ6.out
  have O7 : Out S w (w7.setCell ⟨rb, 3, none⟩ (.slice B' (s.forms.length + 1) d')) := by
   refine (O6.trans (Out.of_below (S := S) e3) fun _ _ h => h).trans ?_ fun _ _ h => h
   refine Out.trans (S' := S) (⟨hb7.os, hb7.tape, hb7.output, hz7, fun b hb hn => hsm7 b (fun g hg e => hn (HS.out b (.inr (.inr (.inr ⟨g, hg, e.symm⟩))))) hb⟩ : Out S _ w7) (Out.setCell (S := S) (p := ⟨rb, 3, none⟩) (HS.out rb (.inr (.inl rfl))) _) fun _ _ h => h
  have hB' : ∀ y, B' = some y → Fr w S y.block := fun y hy => by
   rcases hat7 with rfl | ⟨g, rfl, hg⟩
   · exact .inl (HS.out _ (.inr (.inr (.inr ⟨y, hy, rfl⟩))))
   · injection hy with hy
     subst hy
     refine .inr ?_
     show w.heap.size ≤ g
     have := O6.size
     have := e3.size
     omega
  clear hB7 hsm7 hat7 hk7 g7 f7 gl7 g47 q3 y0 y1 y2 y3 qg qy t1 t2 eX e3 hB3 hrow3 HX6 HY6 HZ6 HL5 gl yl same7 Hz1 O6 hb7 hz7
  generalize w7.setCell ⟨rb, 3, none⟩ (.slice B' (s.forms.length + 1) d') = w8 at *
  obtain ⟨k, hk, hk8⟩ := rep_why Hw.out
  have hk' : (k : Int) < 8 := by omega
  have x3 : w8.drew.cell? ⟨w.heap.size, 3, none⟩ = some (.int .i64 (k : Nat)) := by
   have h1 := Blk.cell (Blk.drew hx7) 3
   rw [show ((k : Nat) : Int) = x.op.rep from by rw [Hr.out, hk]]
   exact h1
  have x4 : w8.drew.cell? ⟨w.heap.size, 4, none⟩ = some (.int .i64 x.num) := Blk.cell (Blk.drew hx7) 4
  have gl := L7.g.lt
  have xl := Blk.lt hx7
  have g5k : w8.cell? ⟨rb, 4 + k, none⟩ = some (.int .i64 (s.clk.get k)) := (L7.g.cell (4 + k)).trans (rgVals_clk _ _ _ _ _ _ _ _ _ _ _ _ _ _ hk8)
  have f5k := L7.g.frozen (4 + k)
  have hkr : x.op.rep.toNat = k := by rw [Hr.out, hk]; rfl
  have HKr := hid hkr
  have HL7 := hid L7
  have Hz7 := hid hz7b
  clear L7 hx7 hk hkr hz7b
  repeat' (first | ((with_reducible refine region_at 7 ?_); refine wp_region_order (rgl [0,4,8,12,16,20,24,28,32,39]) (by kernel_rfl) (by kernel_rfl) (by kernel_rfl) rfl rfl ?_) | (with_reducible refine stop_region 8 ?_) | (with_reducible refine Keep.last ?_) | ((with_reducible refine WpH.here ?_); first | (refine WpH.nil ?_; refine NoP.normal ?_) | ((first | refine WpH.load (by rfl) (by rfl) (by go_simp; rfl) ?_ | refine WpH.pure (by rfl) (fun w_ => by go_simp; (try go_bits); rfl) ?_); go_frame) | (refine WpH.wild1 (by rfl) (fun _ _ => ?_))) | go_step)
  refine Stop.go ?_
  have L9 := (HL7.out.tick hk8 x.num).step (drew_below _)
  have hz9 : Blk (w8.setCell ⟨rb, 4 + k, none⟩ (.int .i64 x.num)).drew (w.heap.size + 1 + 1) _ _ := (Blk.far Hz7.out ne3.symm _).drew
  have O9 := (O7.trans (Out.setCell (S := S) (p := ⟨rb, 4 + k, none⟩) (HS.out rb (.inr (.inl rfl))) (.int .i64 x.num)) fun _ _ h => h).trans (Out.drew (S := S)) fun _ _ h => h
  clear x3 x4 gl xl g5k f5k HL7 Hz7 O7
  generalize (w8.setCell ⟨rb, 4 + k, none⟩ (.int .i64 x.num)).drew = w9 at *
  have z0 : w9.cell? ⟨w.heap.size + 1 + 1, 0, none⟩ = some (.int .i64 0) := hz9.cell 0
  have z1 : w9.cell? ⟨w.heap.size + 1 + 1, 1, none⟩ = some (.slice none 0 0) := hz9.cell 1
  have z2 : w9.cell? ⟨w.heap.size + 1 + 1, 2, none⟩ = some (.slice none 0 0) := hz9.cell 2
  have fz0 := hz9.frozen 0
  have fz1 := hz9.frozen 1
  have fz2 := hz9.frozen 2
  have zl := hz9.lt
  repeat' (first | go_step)
  have hzz := ((hz9.set_ 0 (.int .i64 0)).set_ 1 (.slice none 0 0)).set_ 2 (.slice none 0 0)
  have u0 := hzz.cell 0
  have u1 := hzz.cell 1
  have u2 := hzz.cell 2
  simp at u0 u1 u2
  have LL := L9.keep (w' := ((w9.setCell ⟨w.heap.size + 1 + 1, 0, none⟩ (.int .i64 0)).setCell ⟨w.heap.size + 1 + 1, 1, none⟩ (.slice none 0 0)).setCell ⟨w.heap.size + 1 + 1, 2, none⟩ (.slice none 0 0)) (Nat.le_of_eq (by simp [World.setCell])) fun b hb hq => by
   have hne : b ≠ w.heap.size + 1 + 1 := by
    rcases hq with hq | hq | ⟨y, hy, rfl⟩ | ⟨y, hy, rfl⟩
    · exact hSRn b hq
    · rw [hq]; exact ne3
    · exact L9.a.ne_blk (by decide) hz9 y hy
    · exact L9.b.ne_blk (by decide) hz9 y hy
   rw [heap_set8 hne, heap_set8 hne, heap_set8 hne]
  refine bodyPost_ret (v := noNone) (by simp [results, Tryz.results105, go_sem, u0, u1, u2]; rfl) rfl ⟨rfl, ⟨E, ce, A', c', B', d', L', cl', SR2, ?_, ?_⟩, ?_⟩
  · unfold Lg.deliver
    rw [if_pos Hw.out, HKr.out]
    exact LL
  · rintro b (hb | hb | ⟨y, hy, rfl⟩ | ⟨y, hy, rfl⟩)
    · exact hSR2 b hb
    · exact .inl (HS.out b (.inr (.inl hb)))
    · exact hA' y hy
    · exact hB' y hy
  · exact ((O9.new (by show w.heap.size ≤ w.heap.size + 1 + 1; omega) _).new (by show w.heap.size ≤ w.heap.size + 1 + 1; omega) _).new (by show w.heap.size ≤ w.heap.size + 1 + 1; omega) _
theorem rdeliver_no (w : World) (rb ce c d cl : Nat) (E A B L : Option Addr) (SR : Nat → Prop) (s : Lg) (x : Actn) (f : Opn) (h : RgIn w rb E ce A c B d L cl SR s) (hz : s.l.length ≤ 1048576) (hc : Calm 1000000 s.l) (hw : whyOf s.l f (s.name x) ≠ 0) :
 Calls Tryz.prog 105 #[.pointer (some ⟨rb, 0, none⟩), x.agg, f.agg] w fun e w' => ∃ v, e = .returned v ∧ IsNo w' (fun b => w.heap.size ≤ b) (chOf f (whyOf s.l f (s.name x))) (whyOf s.l f (s.name x)) v ∧ Below w.heap.size w w' := by
 have HA := hid (fun W (hb : Below ((((w.alloc (.cells x.vals 46)).alloc (.cells (opCells f) 37)).alloc (.cells #[.int .i64 0, .slice none 0 0, .slice none 0 0] 62))).heap.size ((((w.alloc (.cells x.vals 46)).alloc (.cells (opCells f) 37)).alloc (.cells #[.int .i64 0, .slice none 0 0, .slice none 0 0] 62))) W) => refApply_nay L s.l.length cl s.l SR (fun _ => False) f (s.name x) W ((h.step (balloc (balloc (balloc (Below.refl _ w))))).l.step hb) (by omega) hc hw)
 have hw0 : ¬ ((whyOf s.l f (s.name x) : Nat) : Int) = 0 := by omega
 have hw1 : (((whyOf s.l f (s.name x) : Nat) : Int) != 0) = true := by simpa using hw0
 clear hw hc
 obtain ⟨hX, hY, hZ, e0⟩ := boxes3 w 46 37 62 x.vals (opCells f) #[.int .i64 0, .slice none 0 0, .slice none 0 0]
 have h0 := h.step e0
 have HN := hid (fun W (hb : Below ((((w.alloc (.cells x.vals 46)).alloc (.cells (opCells f) 37)).alloc (.cells #[.int .i64 0, .slice none 0 0, .slice none 0 0] 62))).heap.size ((((w.alloc (.cells x.vals 46)).alloc (.cells (opCells f) 37)).alloc (.cells #[.int .i64 0, .slice none 0 0, .slice none 0 0] 62))) W) => name_rlog W rb ce c d cl E A B L SR s x (h0.step hb))
 have Hx := hid hX
 have Hy := hid hY
 have Hz0 := hid hZ
 have Hh := hid h0
 have xl := hX.lt
 have yl := hY.lt
 have zl := hZ.lt
 have gl := h0.g.lt
 have ne1 : rb ≠ w.heap.size := fun e => by have := h.g.lt; omega
 have ne2 : rb ≠ w.heap.size + 1 := fun e => by have := h.g.lt; omega
 have ne3 : rb ≠ w.heap.size + 1 + 1 := fun e => by have := h.g.lt; omega
 have hw2 : w.heap.size + 1 + 1 < ((((w.alloc (.cells x.vals 46)).alloc (.cells (opCells f) 37)).alloc (.cells #[.int .i64 0, .slice none 0 0, .slice none 0 0] 62))).heap.size := hZ.lt
 have hrw := h.g.lt
 clear hX hY hZ h0
 simp only [Actn.agg, Opn.agg] at *
 unfold Actn.vals opCells at *
 go_enter Tryz.func105, Tryz.ntmps105
 repeat' (first | (with_reducible refine stop_region 1 ?_) | go_step)
 refine Stop.go ?_
 generalize ((w.alloc (.cells #[.int .i64 x.op.kind, .int .i64 x.op.at_, .int .i32 x.op.char, .int .i64 x.op.rep, .int .i64 x.num, .int .i64 x.clk.c0, .int .i64 x.clk.c1, .int .i64 x.clk.c2, .int .i64 x.clk.c3, .int .i64 x.clk.c4, .int .i64 x.clk.c5, .int .i64 x.clk.c6, .int .i64 x.clk.c7] 46)).alloc (.cells #[.int .i64 f.kind, .int .i64 f.at_, .int .i32 f.char, .int .i64 f.rep] 37)).alloc (.cells #[.int .i64 0, .slice none 0 0, .slice none 0 0] 62) = X at *
 have q12 : X.cell? ⟨rb, 12, none⟩ = some (.slice L s.l.length cl) := Hh.out.g.cell 12
 obtain ⟨x0, x1, x2, x3, x4, x5, x6, x7, x8, x9, x10, x11, x12⟩ := cl13 (w := X) (g := w.heap.size) Hx.out
 obtain ⟨y0, y1, y2, y3⟩ := cl4 (w := X) (g := w.heap.size + 1) Hy.out
 have hTB := Blk.new X 62 #[.int .i64 0, .slice none 0 0, .slice none 0 0]
 repeat' (first | ((with_reducible refine region_at 1 ?_); refine wp_region_ordT (fun _ => True) (rgo [0,4,8,12,16,20,24] (.two 7 12 (.two 8 12 (rgo [36,40,44,49,52,59] .nil) (rgo [33,36,40,44,52,59] .nil)) (rgo [29,33,36,40,44,52,59] .nil))) (by kernel_rfl) (by kernel_rfl) (by kernel_rfl) rfl rfl ?_) | (with_reducible refine Keep.allocD ?_) | (go_at_call 140; go_must ((with_reducible refine Calls.mono (HN.out _ (by (repeat' (first | (with_reducible exact Below.refl _ _) | (with_reducible refine balloc ?_) | (with_reducible refine bdrew ?_))))) ?_); rintro _ w1 ⟨rfl, hb1⟩; have D1 := bvia (show Below X.heap.size X _ by (repeat' (first | (with_reducible exact Below.refl _ _) | (with_reducible refine balloc ?_) | (with_reducible refine bdrew ?_)))) hb1; (try (have hT1 := hTB.drew.step hb1; obtain ⟨tl, t0, t1, t2, tf0, tf1, tf2⟩ := bl3 hT1)); dsimp only)) | (go_at_call 139; go_must ((with_reducible refine Calls.mono (HA.out _ (by (repeat' (first | (with_reducible assumption) | (with_reducible refine balloc ?_))))) ?_); rintro _ w2 ⟨L', cl', v, rfl, hno, hb2⟩; obtain ⟨G, gm, ge, H, hq, rfl⟩ : ∃ G gm ge H hq, v = .agg #[.int .i64 (whyOf s.l f (s.name x) : Nat), .slice G gm ge, .slice H 1 hq] := (by obtain ⟨-, G, gm, ge, H, hq, hv, -⟩ := hno; exact ⟨G, gm, ge, H, hq, hv⟩); have D2 := bvia (show Below X.heap.size X _ by (repeat' (first | (with_reducible assumption) | (with_reducible refine balloc ?_)))) hb2; (try (have hT2 := hT1.step hb2; clear t0 t1 t2 tf0 tf1 tf2 tl; have hno4 : IsNo w2 (fun b => X.heap.size ≤ b ∧ b ≠ X.heap.size) _ _ (.agg #[.int .i64 (whyOf s.l f (s.name x) : Nat), .slice G gm ge, .slice H 1 hq]) := hno.moreS (fun b hb => (by have h9 := hT1.lt; rcases hb with hb | hb; exact hb.elim; have hb' : w1.heap.size ≤ b := hb; exact ⟨by omega, by omega⟩)); obtain ⟨tl, t0, t1, t2, tf0, tf1, tf2⟩ := bl3 hT2)); (try (have hT2 := (Blk.new w1 62 #[.int .i64 0, .slice none 0 0, .slice none 0 0]).step hb2; have hno4 : IsNo w2 (fun b => X.heap.size ≤ b ∧ b ≠ w1.heap.size) _ _ (.agg #[.int .i64 (whyOf s.l f (s.name x) : Nat), .slice G gm ge, .slice H 1 hq]) := hno.moreS (fun b hb => (by have h9 := (Blk.new w1 62 #[.int .i64 0, .slice none 0 0, .slice none 0 0]).lt; have h7 := D1.size; rcases hb with hb | hb; exact hb.elim; have hb' : (w1.alloc (.cells #[.int .i64 0, .slice none 0 0, .slice none 0 0] 62)).heap.size ≤ b := hb; exact ⟨by omega, by omega⟩)); obtain ⟨tl, t0, t1, t2, tf0, tf1, tf2⟩ := bl3 hT2)); dsimp only)) | (with_reducible refine stop_region 2 ?_) | (with_reducible first | refine Keep.last ?_ | refine Keep.below (by assumption) ?_ | refine Keep.alloc ?_) | ((with_reducible refine WpO.here ?_); first | (refine WpO.done ?_; refine NoP.normal ?_) | ((first | refine WpO.load (by rfl) (by rfl) (by go_simp; rfl) ?_ | refine WpO.pure (by rfl) (fun w_ => by go_simp; (try go_bits); rfl) ?_); go_frame) | refine WpO.wild ?_ | refine WpO.two ?_ ?_) | ((with_reducible refine wildO.here ?_); (refine wildO.go (by rfl) (fun _ _ => ?_))) | go_step)
 all_goals
  refine Stop.go ?_
  first
  | (have hT : Blk (((w2.setCell ⟨w1.heap.size, 0, none⟩ (.int .i64 (whyOf s.l f (s.name x) : Nat))).setCell ⟨w1.heap.size, 1, none⟩ (.slice G gm ge)).setCell ⟨w1.heap.size, 2, none⟩ (.slice H 1 hq)) w1.heap.size 62 #[.int .i64 (whyOf s.l f (s.name x) : Nat), .slice G gm ge, .slice H 1 hq] := ((hT2.set_ 0 (.int .i64 (whyOf s.l f (s.name x) : Nat))).set_ 1 (.slice G gm ge)).set_ 2 (.slice H 1 hq); have DW : Below X.heap.size X (((w2.setCell ⟨w1.heap.size, 0, none⟩ (.int .i64 (whyOf s.l f (s.name x) : Nat))).setCell ⟨w1.heap.size, 1, none⟩ (.slice G gm ge)).setCell ⟨w1.heap.size, 2, none⟩ (.slice H 1 hq)) := bset (bset (bset D2 (by have := D1.size; show X.heap.size ≤ w1.heap.size; omega)) (by have := D1.size; show X.heap.size ≤ w1.heap.size; omega)) (by have := D1.size; show X.heap.size ≤ w1.heap.size; omega); have hnoW : IsNo (((w2.setCell ⟨w1.heap.size, 0, none⟩ (.int .i64 (whyOf s.l f (s.name x) : Nat))).setCell ⟨w1.heap.size, 1, none⟩ (.slice G gm ge)).setCell ⟨w1.heap.size, 2, none⟩ (.slice H 1 hq)) (fun b => X.heap.size ≤ b) _ _ (.agg #[.int .i64 (whyOf s.l f (s.name x) : Nat), .slice G gm ge, .slice H 1 hq]) := (hno4.keepS (w' := ((w2.setCell ⟨w1.heap.size, 0, none⟩ (.int .i64 (whyOf s.l f (s.name x) : Nat))).setCell ⟨w1.heap.size, 1, none⟩ (.slice G gm ge)).setCell ⟨w1.heap.size, 2, none⟩ (.slice H 1 hq)) (Nat.le_of_eq (by simp [World.setCell])) (fun b hb hl => (by rw [heap_set8 hb.2, heap_set8 hb.2, heap_set8 hb.2]))).moreS (fun b hb => hb.1); clear hT2 t0 t1 t2 tf0 tf1 tf2 tl hno4 hno; generalize ((w2.setCell ⟨w1.heap.size, 0, none⟩ (.int .i64 (whyOf s.l f (s.name x) : Nat))).setCell ⟨w1.heap.size, 1, none⟩ (.slice G gm ge)).setCell ⟨w1.heap.size, 2, none⟩ (.slice H 1 hq) = W1 at *; generalize w1.heap.size = tb at hT ⊢)
  | (have hT : Blk (((w2.setCell ⟨X.heap.size, 0, none⟩ (.int .i64 (whyOf s.l f (s.name x) : Nat))).setCell ⟨X.heap.size, 1, none⟩ (.slice G gm ge)).setCell ⟨X.heap.size, 2, none⟩ (.slice H 1 hq)) X.heap.size 62 #[.int .i64 (whyOf s.l f (s.name x) : Nat), .slice G gm ge, .slice H 1 hq] := ((hT2.set_ 0 (.int .i64 (whyOf s.l f (s.name x) : Nat))).set_ 1 (.slice G gm ge)).set_ 2 (.slice H 1 hq); have DW : Below X.heap.size X (((w2.setCell ⟨X.heap.size, 0, none⟩ (.int .i64 (whyOf s.l f (s.name x) : Nat))).setCell ⟨X.heap.size, 1, none⟩ (.slice G gm ge)).setCell ⟨X.heap.size, 2, none⟩ (.slice H 1 hq)) := bset (bset (bset D2 (by have := D1.size; show X.heap.size ≤ X.heap.size; omega)) (by have := D1.size; show X.heap.size ≤ X.heap.size; omega)) (by have := D1.size; show X.heap.size ≤ X.heap.size; omega); have hnoW : IsNo (((w2.setCell ⟨X.heap.size, 0, none⟩ (.int .i64 (whyOf s.l f (s.name x) : Nat))).setCell ⟨X.heap.size, 1, none⟩ (.slice G gm ge)).setCell ⟨X.heap.size, 2, none⟩ (.slice H 1 hq)) (fun b => X.heap.size ≤ b) _ _ (.agg #[.int .i64 (whyOf s.l f (s.name x) : Nat), .slice G gm ge, .slice H 1 hq]) := (hno4.keepS (w' := ((w2.setCell ⟨X.heap.size, 0, none⟩ (.int .i64 (whyOf s.l f (s.name x) : Nat))).setCell ⟨X.heap.size, 1, none⟩ (.slice G gm ge)).setCell ⟨X.heap.size, 2, none⟩ (.slice H 1 hq)) (Nat.le_of_eq (by simp [World.setCell])) (fun b hb hl => (by rw [heap_set8 hb.2, heap_set8 hb.2, heap_set8 hb.2]))).moreS (fun b hb => hb.1); clear hT2 t0 t1 t2 tf0 tf1 tf2 tl hno4 hno; generalize ((w2.setCell ⟨X.heap.size, 0, none⟩ (.int .i64 (whyOf s.l f (s.name x) : Nat))).setCell ⟨X.heap.size, 1, none⟩ (.slice G gm ge)).setCell ⟨X.heap.size, 2, none⟩ (.slice H 1 hq) = W1 at *; generalize X.heap.size = tb at hT ⊢)
  | (have eW := balloc (o := (.cells #[.int .i64 (whyOf s.l f (s.name x) : Nat), .slice G gm ge, .slice H 1 hq] 62)) (Below.refl _ w2); have hT := Blk.new w2 62 #[.int .i64 (whyOf s.l f (s.name x) : Nat), .slice G gm ge, .slice H 1 hq]; have DW := bvia D2 eW; have hnoW : IsNo (w2.alloc (.cells #[.int .i64 (whyOf s.l f (s.name x) : Nat), .slice G gm ge, .slice H 1 hq] 62)) (fun b => X.heap.size ≤ b) _ _ (.agg #[.int .i64 (whyOf s.l f (s.name x) : Nat), .slice G gm ge, .slice H 1 hq]) := (hno.keepS eW.size (Same.of_below eW)).moreS (fun b hb => (by rcases hb with hb | hb; exact hb.elim; exact Nat.le_trans D1.size hb)); clear eW hno; generalize w2.alloc (.cells #[.int .i64 (whyOf s.l f (s.name x) : Nat), .slice G gm ge, .slice H 1 hq] 62) = W1 at *; generalize w2.heap.size = tb at *)
  have t0 := hT.cell 0
  have t1 := hT.cell 1
  have t2 := hT.cell 2
  have tl := hT.lt
  simp at t0 t1 t2
  have hz1 := Hz0.out.step DW
  have z0 : W1.cell? ⟨w.heap.size + 1 + 1, 0, none⟩ = some (.int .i64 0) := hz1.cell 0
  have z1 : W1.cell? ⟨w.heap.size + 1 + 1, 1, none⟩ = some (.slice none 0 0) := hz1.cell 1
  have z2 : W1.cell? ⟨w.heap.size + 1 + 1, 2, none⟩ = some (.slice none 0 0) := hz1.cell 2
  have fz0 := hz1.frozen 0
  have fz1 := hz1.frozen 1
  have fz2 := hz1.frozen 2
  have zl1 := hz1.lt
  clear q12 x0 x1 x2 x3 x4 x5 x6 x7 x8 x9 x10 x11 x12 y0 y1 y2 y3 hTB D1 D2 hb1 hb2 xl yl zl gl HN HA hw0
  repeat' (first | go_step)
  have hzz := ((hz1.set_ 0 (.int .i64 (whyOf s.l f (s.name x) : Nat))).set_ 1 (.slice G gm ge)).set_ 2 (.slice H 1 hq)
  have u0 := hzz.cell 0
  have u1 := hzz.cell 1
  have u2 := hzz.cell 2
  simp at u0 u1 u2
  have hnoF := (hnoW.keepS (w' := ((W1.setCell ⟨w.heap.size + 1 + 1, 0, none⟩ (.int .i64 (whyOf s.l f (s.name x) : Nat))).setCell ⟨w.heap.size + 1 + 1, 1, none⟩ (.slice G gm ge)).setCell ⟨w.heap.size + 1 + 1, 2, none⟩ (.slice H 1 hq)) (Nat.le_of_eq (by simp [World.setCell])) fun b hb hl => by
   have hne : b ≠ w.heap.size + 1 + 1 := by omega
   rw [heap_set8 hne, heap_set8 hne, heap_set8 hne]).moreS (S' := fun b => w.heap.size ≤ b) fun b hb => by omega
  refine bodyPost_ret (v := .agg #[.int .i64 (whyOf s.l f (s.name x) : Nat), .slice G gm ge, .slice H 1 hq]) (by simp [results, Tryz.results105, go_sem, u0, u1, u2]) rfl ⟨_, rfl, hnoF, ?_⟩
  exact bset (bset (bset (bvia e0 DW) (by show w.heap.size ≤ w.heap.size + 1 + 1; omega)) (by show w.heap.size ≤ w.heap.size + 1 + 1; omega)) (by show w.heap.size ≤ w.heap.size + 1 + 1; omega)
end Go.Proofs.YteggpddlkkjmjaaGreatDoor
