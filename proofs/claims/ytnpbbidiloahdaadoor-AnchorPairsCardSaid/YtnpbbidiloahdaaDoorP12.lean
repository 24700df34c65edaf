/- The leaves of a tree gone over, till told to leave off: the walk of leaves, by induction on the tree, whatever is called at each leaf. Condition: the tree lies in memory. All of a tree: what it hands back is an iterator that tells the elements with their numbers. Conditions: the tree lies in memory, fewer than 2^30 elements; a round that goes on leaves the tree's blocks and the iterator's boxes as they were. What an iterator's doing, a round's beginning leave standing: trees, rows, blocks of cells; two blocks turned; a loop unrolled. No condition. -/
import Derived.Test.YtnpbbidiloahdaaDoorP11
import Derived.Test.YtnpbbidiloahdaaDoorP10
namespace Go.Proofs.YtnpbbidiloahdaaDoor
set_option linter.unusedSimpArgs false
set_option linter.unusedVariables false
open Go Go.RowKit
/-- the blocks of S stand, and none is gone -/
structure KS (S : Nat → Prop) (W W' : World) : Prop where
  size : W.heap.size ≤ W'.heap.size
  same : Same S W W'
theorem KS.refl (S : Nat → Prop) (W : World) : KS S W W := ⟨Nat.le_refl _, Same.refl _ _⟩
theorem KS.trans {S : Nat → Prop} {A B C : World} (h : KS S A B) (k : KS S B C) : KS S A C := ⟨Nat.le_trans h.size k.size, h.same.trans h.size k.same⟩
theorem KS.cell {S : Nat → Prop} {W W' : World} (h : KS S W W') {b o : Nat} (hb : S b) {v : Value} (hc : W.cell? ⟨b, o, none⟩ = some v) : W'.cell? ⟨b, o, none⟩ = some v := h.same.cell (a := ⟨b, o, none⟩) hb hc
/-- what a call at a leaf does -/
def EachRet (S : Nat → Prop) (It : List El → World → Prop) (Jx : World → Prop) (pre : List El) (W : World) (e : Ending) (W' : World) : Prop :=
  (e = .returned (.bool true) ∧ It pre W' ∧ KS S W W') ∨ (e = .returned (.bool false) ∧ Jx W')
theorem calls_at (g : Nat) {P : Program} {args : Array Value} {w : World} {R : Ending → World → Prop} (h : Calls P g args w R) : Calls P g args w R := h
set_option maxRecDepth 100000 in
set_option maxHeartbeats 2000000 in
theorem leaves_any (g : Nat) (cap : Array Value) (hg : ∀ args w, (callFunc g args).run Tryd.prog w = .ok (.enter g args) w) (S : Nat → Prop) (It : List El → World → Prop) (Jx : World → Prop) (all : List El)
    (hE : ∀ (pre : List El) A n c row post W, It pre W → Row W S A n c row → row ≠ [] → all = pre ++ row ++ post → Calls Tryd.prog g (#[.slice A n c] ++ cap) W (EachRet S It Jx (pre ++ row) W)) (t : Tr) :
    ∀ (p : Option Addr) (pre post : List El) (W : World), IsTree W S t p → It pre W → all = pre ++ t.all ++ post →
      Calls Tryd.prog 76 #[.pointer p, .func (.func g) #[] cap] W (EachRet S It Jx (pre ++ t.all) W) := by
  induction t with
  | nil =>
    intro p pre post W ht hI _
    obtain rfl := ht
    go_enter Tryd.func76, Tryd.ntmps76
    repeat' (first | go_values | go_skip | go_guarded | go_step | go_upon | go_back)
    go_ret
    exact .inl ⟨rfl, by simpa [Tr.all] using hI, KS.refl _ _⟩
  | node l row r ihl ihr =>
    intro p pre post W ht hI hall
    obtain ⟨hne, b, A, n, c, pl, pr, rfl, hS, hrow, hl, hr, c0, c1, c2, c3, c4, c5, c6⟩ := ht
    clear c3 c4 c5 c6
    have hlt := lt_of_cell' c0
    simp only [Tr.all] at hall ⊢
    have h1 := hid (ihl pl pre (row ++ r.all ++ post) W hl hI (by rw [hall]; simp))
    have h2 := hid (fun W1 (hI1 : It (pre ++ l.all) W1) (hk : KS S W W1) => hE (pre ++ l.all) A n c row (r.all ++ post) W1 hI1 (hrow.keep hk.same) hne (by rw [hall]; simp))
    have h3 := hid (fun W2 (hI2 : It (pre ++ l.all ++ row) W2) (hk : KS S W W2) => ihr pr (pre ++ l.all ++ row) post W2 (hr.keep hk.same) hI2 (by rw [hall]; simp))
    clear ihl ihr hE hall
    go_enter Tryd.func76, Tryd.ntmps76
    repeat' (first | (go_at_call 76; first | ((with_reducible refine Calls.mono H3.out ?_); clear H3; rintro _ W3 (⟨rfl, hI3, hk3⟩ | ⟨rfl, hx3⟩); all_goals dsimp only) | (go_must ((with_reducible refine Calls.mono h1.out ?_); clear h1; rintro _ W1 (⟨rfl, hI1, hk1⟩ | ⟨rfl, hx1⟩); (have H2 := hid (h2.out W1 hI1 hk1); have d0 := hk1.cell hS c0; have d2 := hk1.cell hS c2); all_goals dsimp only))) | ((with_reducible refine calls_at g ?_); go_must ((with_reducible refine Calls.mono H2.out ?_); clear H2; rintro _ W2 (⟨rfl, hI2, hk2⟩ | ⟨rfl, hx2⟩); (have hk12 := hk1.trans hk2; have H3 := hid (h3.out W2 hI2 hk12); have e2 := hk2.cell hS d2; clear d2 d0); all_goals dsimp only)) | go_values | go_skip | go_guarded | go_step | go_upon | go_back)
    all_goals go_ret
    · exact .inl ⟨rfl, by simpa [List.append_assoc] using hI3, hk12.trans hk3⟩
    · exact .inr ⟨rfl, hx3⟩
    · exact .inr ⟨rfl, hx2⟩
    · exact .inr ⟨rfl, hx1⟩
end Go.Proofs.YtnpbbidiloahdaaDoor
namespace Go.Proofs.YtnpbbidiloahdaaDoor
set_option linter.unusedSimpArgs false
set_option linter.unusedVariables false
open Go Go.RowKit
/-- what a round that goes on keeps: the blocks of S that lay below n₀, boxes of one int or one yield beyond -/
structure KpT (n₀ : Nat) (S : Nat → Prop) (W W' : World) : Prop where
  size : W.heap.size ≤ W'.heap.size
  low : ∀ b, b < n₀ → S b → b < W.heap.size → W'.heap[b]? = W.heap[b]?
  box : ∀ b v, n₀ ≤ b → (Blk W b 3 #[v] ∨ Blk W b 134 #[v]) → W'.heap[b]? = W.heap[b]?
theorem KpT.trans {n₀ : Nat} {S : Nat → Prop} {A B C : World} (h : KpT n₀ S A B) (k : KpT n₀ S B C) : KpT n₀ S A C :=
  ⟨Nat.le_trans h.size k.size, fun b h1 h2 h3 => (k.low b h1 h2 (Nat.lt_of_lt_of_le h3 h.size)).trans (h.low b h1 h2 h3), fun b v h1 h2 => by
    have e := h.box b v h1 h2
    exact (k.box b v h1 (h2.imp (fun x => e.trans x) (fun x => e.trans x))).trans e⟩
theorem KpT.refl (n₀ : Nat) (S : Nat → Prop) (W : World) : KpT n₀ S W W := ⟨Nat.le_refl _, fun _ _ _ _ => rfl, fun _ _ _ _ => rfl⟩
theorem KpT.of_below {n₀ : Nat} {S : Nat → Prop} {W W' : World} (h : Below W.heap.size W W') : KpT n₀ S W W' := ⟨h.size, fun b _ _ hb => h.block b hb, fun b v _ hb => h.block b (by rcases hb with hb | hb <;> exact hb.lt)⟩
theorem KpT.putObj {n₀ : Nat} {S : Nat → Prop} (W : World) (l : Nat) (o o' : Obj) (hl : n₀ ≤ l) (h : W.heap[l]? = some o) (hc : o.isCells = false) : KpT n₀ S W (W.putObj l o') :=
  ⟨by simp, fun b hb _ _ => World.putObj_heap_other (by omega), fun b v _ hb => World.putObj_heap_other fun e => by
    subst e
    rcases hb with hb | hb <;> (unfold Blk at hb; rw [hb] at h; injection h with h; subst h; cases hc)⟩
def elNum (x : El × Nat) : Array Value := #[.int .i64 x.2, x.1.agg]
/-- how far the iterator is -/
structure AllAt (J : List (El × Nat) → World → Prop) (l yb ab : Nat) (es : List El) (W : World) : Prop where
  j : J es.zipIdx W
  y : Blk W yb 134 #[.func (.yield l) #[] #[]]
  a : Blk W ab 3 #[.int .i64 es.length]
theorem region_atW (id : Nat) {P : Program} {ops : Array Oper} {Q : Exit → Act → World → Prop} {a : Act} {w : World} {b : Bool} (h : (Code.region id ops b).wp P Q a w) : (Code.region id ops b).wp P Q a w := h
theorem KpT.yb {n₀ g : Nat} {S : Nat → Prop} {W W' : World} {v : Value} (h : KpT n₀ S W W') (hg : n₀ ≤ g) (hb : Blk W g 134 #[v]) : Blk W' g 134 #[v] := (h.box g v hg (.inr hb)).trans hb
theorem KpT.ab {n₀ g : Nat} {S : Nat → Prop} {W W' : World} {v : Value} (h : KpT n₀ S W W') (hg : n₀ ≤ g) (hb : Blk W g 3 #[v]) : Blk W' g 3 #[v] := (h.box g v hg (.inl hb)).trans hb
theorem roundIn_at {F : Fence} {n : Nat} {P : Program} {l : Nat} {f : FuncId} {tmps : Array Value} {assign body : Code} {w : World} {R : Ending → World → Prop} {p : Prop} (h : p ∧ RoundIn F n P l f tmps assign body w R) : p ∧ RoundIn F n P l f tmps assign body w R := h
theorem zipIdx_snoc (l : List El) (e : El) : (l ++ [e]).zipIdx = l.zipIdx ++ [(e, l.length)] := by simp [List.zipIdx_append]
set_option maxRecDepth 100000 in
set_option maxHeartbeats 2000000 in
theorem each_any (l yb ab base n₀ : Nat) (S : Nat → Prop) (J Jx : List (El × Nat) → World → Prop) (all : List El) (hall : all.length ≤ 1073741824) (hSn : ∀ b, S b → b < n₀) (hnb : n₀ ≤ base) (hyb : base ≤ yb) (hab : base ≤ ab)
    (hJ : Abides 3 base J)
    (hY : ∀ pre x W, J pre W → pre ++ [x] <+: all.zipIdx → YieldW Tryd.prog l (elNum x) W fun e W' => (e = .returned (.bool true) ∧ J (pre ++ [x]) W' ∧ KpT n₀ S W W') ∨ (e = .returned (.bool false) ∧ Jx (pre ++ [x]) W'))
    (pre : List El) (A : Option Addr) (n c : Nat) (row post : List El) (W : World) (hI : AllAt J l yb ab pre W) (hrow : Row W S A n c row) (hpa : all = pre ++ row ++ post) :
    Calls Tryd.prog 77 (#[.slice A n c] ++ #[.pointer (some ⟨yb, 0, none⟩), .pointer (some ⟨ab, 0, none⟩)]) W (EachRet S (AllAt J l yb ab) (fun W' => ∃ q, Jx q W') (pre ++ row) W) := by
  have hpl : pre.length + row.length ≤ 1073741824 := by rw [hpa] at hall; simp only [List.length_append] at hall; omega
  have hn := hrow.1
  have hnc := hrow.2.1
  have hHI := hid hI
  have Hrow := hid hrow
  have Hpa := hid hpa
  clear hI hrow hpa hall
  simp only [List.append_toArray, List.cons_append, List.nil_append]
  go_enter Tryd.func77, Tryd.ntmps77
  repeat' (first | go_values | go_skip | go_guarded | go_step | go_upon | go_back)
  go_loopw [9] (fun i wr => ∃ k : Nat, i = .int .i64 k ∧ k ≤ n ∧ AllAt J l yb ab (pre ++ row.take k) wr ∧ KS S W wr) (fun i wr => n - (intOf i).toNat)
  case atStart => exact ⟨0, rfl, by omega, by simpa using hHI.out, KS.refl _ _⟩
  case round =>
    obtain ⟨k, rfl, hk, hA, hks⟩ := hrel
    by_cases hlt : k < n
    · obtain ⟨b, off, e, rfl, hS, he, c0, c1, c2, c3, c4⟩ := (Hrow.out.keep hks.same).at_ hlt
      have hbl := lt_of_cell' c0
      have htk := take_snoc_el he
      obtain ⟨m, hm⟩ : ∃ m, m = pre.length + k := ⟨_, rfl⟩
      have hlen : (pre ++ row.take k).length = m := by rw [List.length_append, List.length_take]; omega
      have hmb : m ≤ 1073741824 := by omega
      have hb1 : Below wr.heap.size wr (wr.alloc (.cells #[.int .i64 e.epoch, .int .i64 e.rep, .int .i64 e.num, .int .i32 e.char, .int .i64 e.hides] 48)) := (Below.refl _ _).alloc (Nat.le_refl _) _
      have hy1 := hA.y.step hb1
      have ha1 := hA.a.step hb1
      rw [hlen] at ha1
      have y0 := hy1.cell 0
      have a0 := ha1.cell 0
      simp at y0 a0
      have hyl := hA.y.lt
      have hal := hA.a.lt
      have hpre : (pre ++ row.take k).zipIdx ++ [(e, m)] <+: all.zipIdx := by
        rw [← hlen, ← zipIdx_snoc, List.append_assoc, ← htk]
        refine ⟨(row.drop (k + 1) ++ post).zipIdx (0 + (pre ++ row.take (k + 1)).length), ?_⟩
        rw [← List.zipIdx_append, Hpa.out]
        congr 1
        rw [List.append_assoc, List.append_assoc, ← List.append_assoc (row.take _), List.take_append_drop]
      obtain ⟨fn, tmps, assign, body, hy, hR⟩ := hY _ (e, m) _ (hJ _ _ _ hA.j (Turn.of_below hb1)) hpre
      simp only [elNum, El.agg] at hy
      have HH := hid (And.intro htk (And.intro hlen hpre))
      have Hm := hid hm
      have Hy1 := hid (And.intro hy1 ha1)
      have HA := hid hA
      clear htk hlen hpre hy1 ha1 hA he hm hY
      repeat' (first | ((with_reducible refine region_atW 4 ?_); refine (wpIn_wide (n := 0)).1 (wpIn_region_lit ?_)) | ((with_reducible refine roundIn_at ?_); go_must (refine ⟨rfl, ?_⟩; refine RoundIn.mono hR ?_; clear hR; rintro _ W3 (⟨rfl, hJ3, hk3⟩ | ⟨rfl, hx3⟩); (have hy3 := KpT.yb hk3 (Nat.le_trans hnb hyb) Hy1.out.1; have ha3 := KpT.ab hk3 (Nat.le_trans hnb hab) Hy1.out.2; have a3 := ha3.cell 0; have f3 := ha3.frozen 0; simp at a3; have HK := hid hk3; clear hk3); all_goals dsimp only)) | gi_guarded | gi_step | gi_upon | (with_reducible refine Keep.last ?_) | (with_reducible refine Keep.below (by assumption) ?_) | (with_reducible refine Keep.kept (by assumption) ?_) | (with_reducible refine Keep.alloc ?_) | (with_reducible refine Keep.same ?_) | ((with_reducible refine WpH.here ?_); first | (refine WpH.nil ?_; refine NoP.normal ?_) | (refine WpH.load (by rfl) (by rfl) (by go_simp; rfl) ?_; simp only [Act.put, List.setIfInBounds_toArray, List.set_cons_zero, List.set_cons_succ]) | (refine WpH.loadT (by rfl) (by rfl) (by go_simp; rfl) (by rintro _ _ ⟨⟩; exact ⟨_, _, _, _, _, _, by rfl, by assumption, by assumption⟩) ?_; simp only [Act.put, List.setIfInBounds_toArray, List.set_cons_zero, List.set_cons_succ]) | (refine WpH.pure (by rfl) (fun w_ => by go_simp; (try go_bits); rfl) ?_; simp only [Act.put, List.setIfInBounds_toArray, List.set_cons_zero, List.set_cons_succ]) | (refine WpH.wild1 (by rfl) (fun _ _ => ?_)) | (refine WpH.skip (by rfl) ?_; simp only [Act.put, List.setIfInBounds_toArray, List.set_cons_zero, List.set_cons_succ])) | go_values | go_skip | go_guarded | go_step | go_upon | go_back)
      · go_roundw
        case rel =>
          obtain ⟨h1, h2, _⟩ := HH.out
          have hne : yb ≠ ab := hy3.ne ha3 (by decide)
          have hna : ¬ S ab := fun h => by have := hSn _ h; omega
          refine ⟨k + 1, by go_num, by omega, ⟨?_, hy3.far hne _, ?_⟩, ?_⟩
          · rw [h1, ← List.append_assoc, zipIdx_snoc, h2]
            exact hJ _ _ _ hJ3 (Turn.setBox hab ha3)
          · rw [h1, ← List.append_assoc, List.length_append, h2]
            simpa using ha3.set_ 0 _
          · refine (hks.trans ⟨hb1.size, Same.of_below hb1⟩).trans (KS.trans ⟨HK.out.size, fun b hS hl => HK.out.low b (hSn b hS) hS hl⟩ ⟨by simp [World.setCell], Same.setCell _ hna _⟩)
        case measure => simp [intOf]; omega
      · go_ret
        exact .inr ⟨rfl, _, hx3⟩
    · obtain rfl : k = n := by omega
      have hl : row.take k = row := List.take_of_length_le (by omega)
      rw [hl] at hA
      clear hl
      repeat' (first | (with_reducible refine Keep.last ?_) | (with_reducible refine Keep.below (by assumption) ?_) | (with_reducible refine Keep.kept (by assumption) ?_) | (with_reducible refine Keep.alloc ?_) | (with_reducible refine Keep.same ?_) | ((with_reducible refine WpH.here ?_); first | (refine WpH.nil ?_; refine NoP.normal ?_) | (refine WpH.load (by rfl) (by rfl) (by go_simp; rfl) ?_; simp only [Act.put, List.setIfInBounds_toArray, List.set_cons_zero, List.set_cons_succ]) | (refine WpH.loadT (by rfl) (by rfl) (by go_simp; rfl) (by rintro _ _ ⟨⟩; exact ⟨_, _, _, _, _, _, by rfl, by assumption, by assumption⟩) ?_; simp only [Act.put, List.setIfInBounds_toArray, List.set_cons_zero, List.set_cons_succ]) | (refine WpH.pure (by rfl) (fun w_ => by go_simp; (try go_bits); rfl) ?_; simp only [Act.put, List.setIfInBounds_toArray, List.set_cons_zero, List.set_cons_succ]) | (refine WpH.wild1 (by rfl) (fun _ _ => ?_)) | (refine WpH.skip (by rfl) ?_; simp only [Act.put, List.setIfInBounds_toArray, List.set_cons_zero, List.set_cons_succ])) | go_values | go_skip | go_guarded | go_step | go_upon | go_back)
      go_ret
      exact .inl ⟨rfl, hA, hks⟩
theorem enters_fn {P : Program} {f : FuncId} {fn : Func} {c : Code} (hf : P.funcs[f]? = some fn) (hname : (fn.name == "runtime.NumGoroutine") = false) (hb : fn.body = some c) : ∀ args w, (callFunc f args).run P w = .ok (.enter f args) w := fun args w => enters_of hf hname hb args w
set_option maxRecDepth 100000 in
set_option maxHeartbeats 2000000 in
theorem allSeq (T : Tr) (p : Option Addr) (bt g chunk : Nat) (S : Nat → Prop) (w : World) (hg : Blk w g 75 #[.pointer (some ⟨bt, 0, none⟩)]) (hblk : Blk w bt 127 #[.int .i64 chunk, .pointer p]) (hT : IsTree w S T p) (hbd : T.all.length ≤ 1073741824) :
    SeqT Tryd.prog 3 75 #[.pointer (some ⟨g, 0, none⟩)] elNum (KpT w.heap.size S) (fun xs => xs = T.all.zipIdx) (fun pre x => pre ++ [x] <+: T.all.zipIdx) w := by
  intro l J Jx W hbW hJ hJx hY h0
  have hTW : IsTree W (fun b => S b ∧ b < w.heap.size) T p := (hT.more (S' := fun b => S b ∧ b < w.heap.size) fun b hl hs => ⟨hs, hl⟩).step hbW
  have hgW := hg.step hbW
  have hbkW := hblk.step hbW
  have hsz := hbW.size
  have b1 : Below W.heap.size W (W.alloc (.cells #[.func (.yield l) #[] #[]] 134)) := (Below.refl _ _).alloc (Nat.le_refl _) _
  have hs1 : (W.alloc (.cells #[.func (.yield l) #[] #[]] 134)).heap.size = W.heap.size + 1 := Array.size_push _
  have b2 := b1.alloc (by omega) (.cells #[.int .i64 0] 3)
  have hyb := (Blk.new W 134 #[.func (.yield l) #[] #[]]).alloc (.cells #[.int .i64 0] 3)
  have hab := Blk.new (W.alloc (.cells #[.func (.yield l) #[] #[]] 134)) 3 #[.int .i64 0]
  rw [hs1] at hab
  have hE := fun (pre : List El) A n c row post W1 hI hrow (hne : row ≠ []) hpa => each_any l W.heap.size (W.heap.size + 1) W.heap.size w.heap.size (fun b => S b ∧ b < w.heap.size) J Jx T.all hbd (fun b h => h.2) hsz (Nat.le_refl _) (Nat.le_succ _) hJ
    (fun pre x W h1 h2 => (hY pre x W h1 h2).mono fun e W' h => h.imp (fun ⟨e1, e2, e3⟩ => ⟨e1, e2, ⟨e3.size, fun b hb hs hl => e3.low b hb hs.1 hl, e3.box⟩⟩) id) pre A n c row post W1 hI hrow hpa
  have hL := hid (leaves_any 77 #[.pointer (some ⟨W.heap.size, 0, none⟩), .pointer (some ⟨W.heap.size + 1, 0, none⟩)] (enters_fn Tryd.func77 (by kernel_rfl) rfl) (fun b => S b ∧ b < w.heap.size) (AllAt J l W.heap.size (W.heap.size + 1)) (fun W' => ∃ q, Jx q W') T.all hE T p [] []
    _ (hTW.step b2) ⟨by simpa using hJ _ _ _ h0 (Turn.of_below b2), hyb, hab⟩ (by simp))
  have c0 := (hgW.step b2).cell 0
  have c1 := (hbkW.step b2).cell 1
  simp at c0 c1
  have hgl := hgW.lt
  have hbl := hbkW.lt
  clear hE hY hyb hab b1 b2 hg hgW hbkW hblk h0
  go_enter Tryd.func75, Tryd.ntmps75
  repeat' (first | (go_at_call 76; go_must ((with_reducible refine Calls.mono hL.out ?_); rintro _ W3 (⟨rfl, hI3, hk3⟩ | ⟨rfl, q, hx3⟩); all_goals dsimp only)) | go_values | go_skip | go_guarded | go_step | go_upon | go_back)
  · go_end0
    exact ⟨⟨_, rfl⟩, .inl ⟨_, rfl, by simpa using hI3.j⟩⟩
  · go_end0
    exact ⟨⟨_, rfl⟩, .inr ⟨q, hx3⟩⟩
theorem all_any (bt : Nat) (w : World) :
    Calls Tryd.prog 55 #[.pointer (some ⟨bt, 0, none⟩)] w fun e w' => e = .returned (.func (.func 75) #[] #[.pointer (some ⟨w.heap.size, 0, none⟩)]) ∧ w' = w.alloc (.cells #[.pointer (some ⟨bt, 0, none⟩)] 75) := by
  go_enter Tryd.func55, Tryd.ntmps55
  go_wp2
  go_ret
  exact ⟨rfl, rfl⟩
end Go.Proofs.YtnpbbidiloahdaaDoor
namespace Go.Proofs.YtnpbbidiloahdaaDoor
set_option linter.unusedSimpArgs false
set_option linter.unusedVariables false
open Go Go.RowKit

/-- block b is one of two cells or more -/
def Big (W : World) (b : Nat) : Prop := ∃ cs u z, W.heap[b]? = some (.cells cs u z) ∧ 2 ≤ cs.size
theorem Big.of_cell {W : World} {b o : Nat} {v : Value} (h : W.cell? ⟨b, o, none⟩ = some v) (ho : 1 ≤ o) : Big W b := by
  unfold World.cell? at h
  cases hh : W.heap[b]? with
  | none => rw [show ((⟨b, o, none⟩ : Addr)).block = b from rfl, hh] at h; cases h
  | some x =>
    rw [show ((⟨b, o, none⟩ : Addr)).block = b from rfl, hh] at h
    cases x with
    | cells cs u z =>
      simp at h
      refine ⟨cs, u, z, hh, ?_⟩
      have := (Array.getElem?_eq_some_iff.1 h).1
      omega
    | _ => cases h
theorem Row.strict {w : World} {S : Nat → Prop} {A : Option Addr} {n c : Nat} {es : List El} (h : Row w S A n c es) : Row w (fun b => S b ∧ Big w b) A n c es := by
  refine ⟨h.1, h.2.1, h.2.2.1, fun hn => ?_⟩
  obtain ⟨b, off, e, hs, hc⟩ := h.2.2.2 hn
  refine ⟨b, off, e, ⟨hs, ?_⟩, hc⟩
  have hl : 1 < (cellsOf es).length := by rw [cellsOf_length, h.1]; omega
  exact Big.of_cell (o := off + 1) (hc 1 _ (List.getElem?_eq_getElem hl)) (by omega)
theorem IsTree.strict {w : World} {S : Nat → Prop} : ∀ {t : Tr} {p : Option Addr}, IsTree w S t p → IsTree w (fun b => S b ∧ Big w b) t p := by
  intro t
  induction t with
  | nil => intro p h; exact h
  | node l row r ihl ihr =>
    rintro p ⟨hne, b, A, n, c, pl, pr, rfl, hs, hr, hl, hr', c0, c1, c2, c3, c4, c5, c6⟩
    exact ⟨hne, b, A, n, c, pl, pr, rfl, ⟨hs, Big.of_cell c1 (Nat.le_refl _)⟩, hr.strict, ihl hl, ihr hr', c0, c1, c2, c3, c4, c5, c6⟩
theorem Turn.big {t : TypeId} {base : Nat} {A B : World} (h : Turn t base A B) {S : Nat → Prop} : Same (fun b => S b ∧ Big A b) A B := fun b hb _ => by
  obtain ⟨cs, u, z, hc, hz⟩ := hb.2
  exact h.cells b cs u z hc fun ⟨_, _, h1⟩ => by omega
theorem IsTree.turn {t : TypeId} {base : Nat} {A B : World} {S : Nat → Prop} {T : Tr} {p : Option Addr} (h : IsTree A S T p) (hT : Turn t base A B) : IsTree B S T p := ((h.strict).keep hT.big).more fun _ _ h => h.1
theorem Row.turn {t : TypeId} {base : Nat} {A B : World} {S : Nat → Prop} {a : Option Addr} {n c : Nat} {es : List El} (h : Row A S a n c es) (hT : Turn t base A B) : Row B S a n c es := ((h.strict).keep hT.big).more fun _ _ h => h.1
theorem Blk.turn {t u : TypeId} {base g : Nat} {A B : World} {cs : Array Value} (h : Blk A g u cs) (hT : Turn t base A B) (hg : g < base) : Blk B g u cs := (hT.low g h.lt hg).trans h
theorem Begun.big {l : Nat} {A B : World} (h : Begun l A B) {S : Nat → Prop} : Same (fun b => S b ∧ Big A b) A B := fun b hb _ => by
  obtain ⟨cs, u, z, hc, _⟩ := hb.2
  obtain ⟨r, r', hr, _⟩ := h.record
  exact h.block b fun e => by subst e; rw [hr] at hc; cases hc
theorem Begun.row {l : Nat} {A B : World} {S : Nat → Prop} {a : Option Addr} {n c : Nat} {es : List El} (hT : Begun l A B) (h : Row A S a n c es) : Row B S a n c es := ((h.strict).keep hT.big).more fun _ _ h => h.1
theorem Begun.blk {l g : Nat} {u : TypeId} {A B : World} {cs : Array Value} (hT : Begun l A B) (h : Blk A g u cs) : Blk B g u cs := by
  obtain ⟨r, r', hr, _⟩ := hT.record
  exact (hT.block g fun e => by subst e; unfold Blk at h; rw [hr] at h; cases h).trans h

/-- all but blocks x and y stands -/
structure But2 (x y : Nat) (w w' : World) : Prop where
  os : w'.os = w.os
  tape : w'.tape = w.tape
  output : w'.output = w.output
  size : w.heap.size ≤ w'.heap.size
  block : ∀ k, k < w.heap.size → k ≠ x → k ≠ y → w'.heap[k]? = w.heap[k]?
section
variable {x y : Nat} {w w' w'' : World}
theorem But2.refl (x y : Nat) (w : World) : But2 x y w w := ⟨rfl, rfl, rfl, Nat.le_refl _, fun _ _ _ _ => rfl⟩
theorem But2.trans (h : But2 x y w w') (k : But2 x y w' w'') : But2 x y w w'' :=
  ⟨k.os.trans h.os, k.tape.trans h.tape, k.output.trans h.output, Nat.le_trans h.size k.size, fun b hb h1 h2 => (k.block b (Nat.lt_of_lt_of_le hb h.size) h1 h2).trans (h.block b hb h1 h2)⟩
theorem But2.of_below (h : Below w.heap.size w w') : But2 x y w w' := ⟨h.os, h.tape, h.output, h.size, fun b hb _ _ => h.block b hb⟩
theorem But2.of_but (h : But x w w') : But2 x y w w' := ⟨h.os, h.tape, h.output, h.size, fun b hb h1 _ => h.block b hb h1⟩
theorem But2.blk {g : Nat} {t : TypeId} {cs : Array Value} (h : But2 x y w w') (hb : Blk w g t cs) (h1 : g ≠ x) (h2 : g ≠ y) : Blk w' g t cs := (h.block g hb.lt h1 h2).trans hb
theorem But2.same (h : But2 x y w w') : Same (fun b => b ≠ x ∧ b ≠ y) w w' := fun b hb hl => h.block b hl hb.1 hb.2
theorem But2.below {base : Nat} (h : But2 x y w' w'') (hb : Below base w w') (hbs : base ≤ w.heap.size) (hx : base ≤ x) (hy : base ≤ y) : Below base w w'' :=
  ⟨h.os.trans hb.os, h.tape.trans hb.tape, h.output.trans hb.output, Nat.le_trans hb.size h.size, fun k hk => (h.block k (by have := hb.size; omega) (by omega) (by omega)).trans (hb.block k hk)⟩
theorem But2.begun {l : Nat} (h : But2 x y w w') (hg : Begun l w' w'') (hl : w.heap.size ≤ l) : But2 x y w w'' :=
  ⟨hg.os.trans h.os, hg.tape.trans h.tape, hg.output.trans h.output, by rw [hg.size]; exact h.size, fun k hk h1 h2 => (hg.block k (by omega)).trans (h.block k hk h1 h2)⟩
theorem But2.turn {t : TypeId} (h : But2 x y w w') (hT : Turn t w.heap.size w' w'') : But2 x y w w'' :=
  ⟨hT.os.trans h.os, hT.tape.trans h.tape, hT.output.trans h.output, Nat.le_trans h.size hT.size, fun k hk h1 h2 => (hT.low k (Nat.lt_of_lt_of_le hk h.size) hk).trans (h.block k hk h1 h2)⟩
end
theorem zipIdx_prefix {l : List El} {pre : List (El × Nat)} {x : El × Nat} (h : pre ++ [x] <+: l.zipIdx) : x.2 = pre.length ∧ l[pre.length]? = some x.1 ∧ pre.length < l.length := by
  obtain ⟨r, hr⟩ := h
  have h1 : l.zipIdx[pre.length]? = some x := by rw [← hr, List.append_assoc, List.getElem?_append_right (Nat.le_refl _)]; simp
  rw [List.getElem?_zipIdx] at h1
  cases hl : l[pre.length]? with
  | none => rw [hl] at h1; cases h1
  | some e =>
    rw [hl] at h1
    simp at h1
    subst h1
    exact ⟨rfl, rfl, (List.getElem?_eq_some_iff.1 hl).1⟩
/-- a loop of a few rounds, unrolled -/
def roundsW (P : Program) (c : Code) (Q : Exit → Act → World → Prop) : Nat → Act → World → Prop
  | 0, _, _ => False
  | n + 1, a, w => c.wp P (Exit.then (roundsW P c Q n) Q) a w
theorem stop_block (id : Nat) {P : Program} {c : Code} {Q : Exit → Act → World → Prop} {a : Act} {w : World} (h : Stop ((Code.block id c).wp P Q a w)) : (Code.block id c).wp P Q a w := by unfold Stop at h; exact h
attribute [irreducible] roundsW
end Go.Proofs.YtnpbbidiloahdaaDoor
