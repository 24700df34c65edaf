/- Words for this program's memory: elements, rows of elements, trees of leaves; what keeps them. No condition. No program in sight. What a node of the tree tells, and what elements weigh: walks of size, high, weighs, plus, Weight, weigh. Conditions: the tree or the row lies in memory; sums stay far below the word. append of elements to a slice that the call has made: what it leaves. Conditions: the appended slice reads as elements; all together fewer than 2^40. -/
import Derived.Below
import Derived.Laws.OwnMore
import Derived.Maps.AppendAt
import Derived.Tactics
import Derived.Test.YtnpbbidiloahdaaDoorProg
import Derived.Test.YtnpbbidiloahdaaDoorSRegion
import Derived.WalkKit
import Derived.WalkSpells
import Derived.WalkLawsBesides
namespace Go.Proofs.YtnpbbidiloahdaaDoor
set_option linter.unusedSimpArgs false
set_option linter.unusedVariables false
open Go Go.RowKit

theorem hid {p : Prop} (h : p) : Hid p := h

/-- an element: its ID, its character, how often it is hidden -/
structure El where
  epoch : Int
  rep : Int
  num : Int
  char : Int
  hides : Int
deriving DecidableEq
def El.cells (e : El) : List Value := [.int .i64 e.epoch, .int .i64 e.rep, .int .i64 e.num, .int .i32 e.char, .int .i64 e.hides]
def El.live (e : El) : Nat := if e.hides > 0 then 0 else 1
def El.lines (e : El) : Nat := if e.hides > 0 then 0 else if e.char = 10 then 1 else 0
def liveOf (l : List El) : Nat := (l.map El.live).sum
def linesOf (l : List El) : Nat := (l.map El.lines).sum
def cellsOf (l : List El) : List Value := l.flatMap El.cells

theorem El.live_le (e : El) : e.live ≤ 1 := by unfold El.live; split <;> omega
theorem El.lines_le (e : El) : e.lines ≤ e.live := by
  unfold El.live El.lines
  split
  · omega
  · split <;> omega
theorem liveOf_append (a b : List El) : liveOf (a ++ b) = liveOf a + liveOf b := by simp [liveOf]
theorem linesOf_append (a b : List El) : linesOf (a ++ b) = linesOf a + linesOf b := by simp [linesOf]
theorem liveOf_cons (e : El) (b : List El) : liveOf (e :: b) = e.live + liveOf b := by simp [liveOf]
theorem linesOf_cons (e : El) (b : List El) : linesOf (e :: b) = e.lines + linesOf b := by simp [linesOf]
theorem liveOf_le (l : List El) : liveOf l ≤ l.length := by
  induction l with
  | nil => simp [liveOf]
  | cons e l ih => have := e.live_le; rw [liveOf_cons, List.length_cons]; omega
theorem linesOf_le (l : List El) : linesOf l ≤ l.length := by
  induction l with
  | nil => simp [linesOf]
  | cons e l ih => have := e.lines_le; have := e.live_le; rw [linesOf_cons, List.length_cons]; omega

theorem cellsOf_cons (e : El) (l : List El) : cellsOf (e :: l) = e.cells ++ cellsOf l := by simp [cellsOf]
theorem cellsOf_append (a b : List El) : cellsOf (a ++ b) = cellsOf a ++ cellsOf b := by simp [cellsOf]
theorem El.cells_length (e : El) : e.cells.length = 5 := rfl
theorem cellsOf_length (l : List El) : (cellsOf l).length = l.length * 5 := by
  induction l with
  | nil => rfl
  | cons e l ih => rw [cellsOf_cons, List.length_append, ih, El.cells_length, List.length_cons]; omega
theorem cellsOf_take (l : List El) (k : Nat) : (cellsOf l).take (k * 5) = cellsOf (l.take k) := by
  induction l generalizing k with
  | nil => simp [cellsOf]
  | cons e l ih =>
    cases k with
    | zero => simp [cellsOf]
    | succ k =>
      rw [List.take_succ_cons, cellsOf_cons, cellsOf_cons, List.take_append, El.cells_length, List.take_of_length_le (by rw [El.cells_length]; omega)]
      rw [show (k + 1) * 5 - 5 = k * 5 from by omega, ih]
theorem cellsOf_drop (l : List El) (k : Nat) : (cellsOf l).drop (k * 5) = cellsOf (l.drop k) := by
  induction l generalizing k with
  | nil => simp [cellsOf]
  | cons e l ih =>
    cases k with
    | zero => simp
    | succ k =>
      rw [List.drop_succ_cons, cellsOf_cons, List.drop_append, El.cells_length, List.drop_of_length_le (by rw [El.cells_length]; omega)]
      rw [show (k + 1) * 5 - 5 = k * 5 from by omega, ih, List.nil_append]
theorem cellsOf_at {l : List El} {i : Nat} {e : El} (h : l[i]? = some e) {j : Nat} (hj : j < 5) : (cellsOf l)[i * 5 + j]? = e.cells[j]? := by
  have h1 : ((cellsOf l).drop (i * 5))[j]? = e.cells[j]? := by
    rw [cellsOf_drop]
    have hlt : i < l.length := (List.getElem?_eq_some_iff.1 h).1
    have he : l[i] = e := (List.getElem?_eq_some_iff.1 h).2
    rw [List.drop_eq_getElem_cons hlt, he, cellsOf_cons, List.getElem?_append_left (by rw [El.cells_length]; exact hj)]
  rw [← h1, List.getElem?_drop]
theorem cellsOf_oneCell (l : List El) : ∀ u ∈ cellsOf l, u.oneCell' = true := by
  intro u hu
  obtain ⟨e, _, hu⟩ := List.mem_flatMap.1 hu
  simp only [El.cells, List.mem_cons, List.not_mem_nil, or_false] at hu
  rcases hu with rfl | rfl | rfl | rfl | rfl <;> rfl

/-- blocks of S that there are stand as they stood -/
def Same (S : Nat → Prop) (w w' : World) : Prop := ∀ b, S b → b < w.heap.size → w'.heap[b]? = w.heap[b]?
theorem Same.refl (S : Nat → Prop) (w : World) : Same S w w := fun _ _ _ => rfl
theorem Same.of_below {S : Nat → Prop} {w w' : World} (h : Below w.heap.size w w') : Same S w w' := fun b _ hb => h.block b hb
theorem Same.alloc (S : Nat → Prop) (w : World) (o : Obj) : Same S w (w.alloc o) := fun b _ hb => Below.heap_alloc w o b hb
theorem Same.drew (S : Nat → Prop) (w : World) : Same S w w.drew := fun _ _ _ => rfl
theorem Same.setCell {S : Nat → Prop} (w : World) {p : Addr} (hp : ¬ S p.block) (u : Value) : Same S w (w.setCell p u) :=
  fun b hb _ => Below.heap_setCell w p u b (fun e => hp (e ▸ hb))
theorem Same.trans {S : Nat → Prop} {a b c : World} (h : Same S a b) (hs : a.heap.size ≤ b.heap.size) (k : Same S b c) : Same S a c :=
  fun x hx hl => (k x hx (Nat.lt_of_lt_of_le hl hs)).trans (h x hx hl)
theorem Same.sub {S S' : Nat → Prop} {a b : World} (h : Same S a b) (hs : ∀ x, S' x → S x) : Same S' a b := fun x hx hl => h x (hs x hx) hl

theorem lt_of_heap' {w : World} {b : Nat} {o : Obj} (h : w.heap[b]? = some o) : b < w.heap.size := (Array.getElem?_eq_some_iff.1 h).1
theorem lt_of_cell' {w : World} {a : Addr} {v : Value} (h : w.cell? a = some v) : a.block < w.heap.size := by
  unfold World.cell? at h
  cases hh : w.heap[a.block]? with
  | none => rw [hh] at h; cases h
  | some o => exact lt_of_heap' hh
theorem Same.cell {S : Nat → Prop} {w w' : World} (h : Same S w w') {a : Addr} (ha : S a.block) {v : Value} (hc : w.cell? a = some v) : w'.cell? a = some v :=
  (World.cell?_of_block (h a.block ha (lt_of_cell' hc))).trans hc

/-- the slice of n elements and capacity c at A reads as es; its block is in S -/
def Row (w : World) (S : Nat → Prop) (A : Option Addr) (n c : Nat) (es : List El) : Prop :=
  es.length = n ∧ n ≤ c ∧ c ≤ maxLen ∧ (0 < n → ∃ b off, A = some ⟨b, off, none⟩ ∧ S b ∧ ∀ j u, (cellsOf es)[j]? = some u → w.cell? ⟨b, off + j, none⟩ = some u)
section
variable {w w' : World} {S S' : Nat → Prop} {A : Option Addr} {n c : Nat} {es : List El}
theorem Row.keep (h : Row w S A n c es) (hk : Same S w w') : Row w' S A n c es := by
  refine ⟨h.1, h.2.1, h.2.2.1, fun hn => ?_⟩
  obtain ⟨b, off, e, hs, hc⟩ := h.2.2.2 hn
  exact ⟨b, off, e, hs, fun j u hu => hk.cell (a := ⟨b, off + j, none⟩) hs (hc j u hu)⟩
theorem Row.more (h : Row w S A n c es) (hs : ∀ b, b < w.heap.size → S b → S' b) : Row w S' A n c es := by
  refine ⟨h.1, h.2.1, h.2.2.1, fun hn => ?_⟩
  obtain ⟨b, off, e, hs', hc⟩ := h.2.2.2 hn
  refine ⟨b, off, e, hs b ?_ hs', hc⟩
  have hl : 0 < (cellsOf es).length := by rw [cellsOf_length, h.1]; omega
  exact lt_of_cell' (hc 0 _ (List.getElem?_eq_getElem hl))
theorem Row.nil (w : World) (S : Nat → Prop) (A : Option Addr) (c : Nat) (hc : c ≤ maxLen) : Row w S A 0 c [] := ⟨rfl, Nat.zero_le _, hc, fun h => absurd h (by omega)⟩
theorem Row.len_le (h : Row w S A n c es) : n ≤ maxLen := Nat.le_trans h.2.1 h.2.2.1
/-- an element's five cells -/
theorem Row.at_ (h : Row w S A n c es) {k : Nat} (hk : k < n) : ∃ b off e, A = some ⟨b, off, none⟩ ∧ S b ∧ es[k]? = some e ∧
    w.cell? ⟨b, off + k * 5, none⟩ = some (.int .i64 e.epoch) ∧ w.cell? ⟨b, off + k * 5 + 1, none⟩ = some (.int .i64 e.rep) ∧ w.cell? ⟨b, off + k * 5 + 2, none⟩ = some (.int .i64 e.num) ∧
    w.cell? ⟨b, off + k * 5 + 3, none⟩ = some (.int .i32 e.char) ∧ w.cell? ⟨b, off + k * 5 + 4, none⟩ = some (.int .i64 e.hides) := by
  obtain ⟨hl, hc, hm, hr⟩ := h
  obtain ⟨b, off, hA, hs, hcell⟩ := hr (by omega)
  have hk' : k < es.length := by omega
  have he : es[k]? = some es[k] := List.getElem?_eq_getElem hk'
  have cell : ∀ j u, es[k].cells[j]? = some u → j < 5 → w.cell? ⟨b, off + (k * 5 + j), none⟩ = some u := fun j u hu hj => hcell _ _ (by rw [cellsOf_at he hj]; exact hu)
  refine ⟨b, off, es[k], hA, hs, he, ?_, ?_, ?_, ?_, ?_⟩
  · exact cell 0 _ rfl (by omega)
  · exact cell 1 _ rfl (by omega)
  · exact cell 2 _ rfl (by omega)
  · exact cell 3 _ rfl (by omega)
  · exact cell 4 _ rfl (by omega)
/-- the first k elements -/
theorem Row.take_ (h : Row w S A n c es) {k : Nat} (hk : k ≤ n) : Row w S A k c (es.take k) := by
  refine ⟨by rw [List.length_take, h.1]; omega, by have := h.2.1; omega, h.2.2.1, fun h0 => ?_⟩
  obtain ⟨b, off, e, hs, hc⟩ := h.2.2.2 (by omega)
  refine ⟨b, off, e, hs, fun j u hu => hc j u ?_⟩
  rw [← cellsOf_take, List.getElem?_take] at hu
  split at hu
  · exact hu
  · cases hu
/-- the elements from the k-th on -/
theorem Row.drop_ (h : Row w S A n c es) {k : Nat} (hk : k ≤ n) : Row w S (if c = k then A else A.map (·.add (k * 5))) (n - k) (c - k) (es.drop k) := by
  refine ⟨by rw [List.length_drop, h.1], by have := h.2.1; omega, by have := h.2.2.1; omega, fun h0 => ?_⟩
  obtain ⟨b, off, rfl, hs, hc⟩ := h.2.2.2 (by omega)
  have hck : ¬ c = k := by have := h.2.1; omega
  rw [if_neg hck]
  refine ⟨b, off + k * 5, ?_, hs, fun j u hu => ?_⟩
  · simp [Addr.add]
  · rw [Nat.add_assoc]
    refine hc _ u ?_
    rw [← hu, ← cellsOf_drop, List.getElem?_drop]
end

/-- a tree of leaves -/
inductive Tr where
  | nil
  | node (l : Tr) (row : List El) (r : Tr)
def Tr.rows : Tr → List (List El)
  | .nil => []
  | .node l row r => l.rows ++ row :: r.rows
def Tr.all : Tr → List El
  | .nil => []
  | .node l row r => l.all ++ row ++ r.all
def Tr.high : Tr → Nat
  | .nil => 0
  | .node l _ r => max l.high r.high + 1
theorem Tr.all_eq (t : Tr) : t.all = t.rows.flatten := by
  induction t with
  | nil => rfl
  | node l row r ihl ihr => simp [Tr.all, Tr.rows, ihl, ihr]
/-- the tree lies in w at p, its blocks in S; lengths, heights and weights are kept in its nodes; no leaf is empty -/
def IsTree (w : World) (S : Nat → Prop) : Tr → Option Addr → Prop
  | .nil, p => p = none
  | .node l row r, p => row ≠ [] ∧ ∃ b A n c pl pr, p = some ⟨b, 0, none⟩ ∧ S b ∧ Row w S A n c row ∧ IsTree w S l pl ∧ IsTree w S r pr ∧
      w.cell? ⟨b, 0, none⟩ = some (.slice A n c) ∧ w.cell? ⟨b, 1, none⟩ = some (.pointer pl) ∧ w.cell? ⟨b, 2, none⟩ = some (.pointer pr) ∧
      w.cell? ⟨b, 3, none⟩ = some (.int .i64 (Tr.node l row r).all.length) ∧ w.cell? ⟨b, 4, none⟩ = some (.int .i64 (Tr.node l row r).high) ∧
      w.cell? ⟨b, 5, none⟩ = some (.int .i64 (liveOf (Tr.node l row r).all)) ∧ w.cell? ⟨b, 6, none⟩ = some (.int .i64 (linesOf (Tr.node l row r).all))
theorem IsTree.nil {w : World} {S : Nat → Prop} {p : Option Addr} : IsTree w S .nil p ↔ p = none := Iff.rfl
theorem IsTree.keep {w w' : World} {S : Nat → Prop} (hk : Same S w w') : ∀ {t : Tr} {p : Option Addr}, IsTree w S t p → IsTree w' S t p := by
  intro t
  induction t with
  | nil => intro p h; exact h
  | node l row r ihl ihr =>
    rintro p ⟨hne, b, A, n, c, pl, pr, rfl, hs, hr, hl, hr', c0, c1, c2, c3, c4, c5, c6⟩
    exact ⟨hne, b, A, n, c, pl, pr, rfl, hs, hr.keep hk, ihl hl, ihr hr', hk.cell hs c0, hk.cell hs c1, hk.cell hs c2, hk.cell hs c3, hk.cell hs c4, hk.cell hs c5, hk.cell hs c6⟩
theorem IsTree.more {w : World} {S S' : Nat → Prop} (hs : ∀ b, b < w.heap.size → S b → S' b) : ∀ {t : Tr} {p : Option Addr}, IsTree w S t p → IsTree w S' t p := by
  intro t
  induction t with
  | nil => intro p h; exact h
  | node l row r ihl ihr =>
    rintro p ⟨hne, b, A, n, c, pl, pr, rfl, hsb, hr, hl, hr', c0, c1, c2, c3, c4, c5, c6⟩
    exact ⟨hne, b, A, n, c, pl, pr, rfl, hs b (lt_of_cell' c0) hsb, hr.more hs, ihl hl, ihr hr', c0, c1, c2, c3, c4, c5, c6⟩
theorem IsTree.high_le {w : World} {S : Nat → Prop} {t : Tr} {p : Option Addr} (h : IsTree w S t p) : t.high ≤ t.all.length := by
  induction t generalizing p with
  | nil => exact Nat.le_refl _
  | node l row r ihl ihr =>
    obtain ⟨hne, b, A, n, c, pl, pr, _, _, _, hl, hr', _⟩ := h
    have h1 := ihl hl
    have h2 := ihr hr'
    have : 0 < row.length := List.length_pos_iff.2 hne
    simp only [Tr.high, Tr.all, List.length_append]
    omega
/-- what was there and is in S, and what is new -/
def Fr (w : World) (S : Nat → Prop) : Nat → Prop := fun b => S b ∨ w.heap.size ≤ b
theorem Fr.new {w : World} {S : Nat → Prop} {b : Nat} (h : w.heap.size ≤ b) : Fr w S b := .inr h
/-- a tree behind a call that only makes memory -/
theorem IsTree.step {w w' : World} {S : Nat → Prop} {t : Tr} {p : Option Addr} (h : IsTree w S t p) (hb : Below w.heap.size w w') : IsTree w' S t p := h.keep (Same.of_below hb)
theorem Row.step {w w' : World} {S : Nat → Prop} {A : Option Addr} {n c : Nat} {es : List El} (h : Row w S A n c es) (hb : Below w.heap.size w w') : Row w' S A n c es := h.keep (Same.of_below hb)
/-- cells and marks behind a call that only makes memory, in the walk's form -/
theorem bcell {W w1 : World} (hb : Below W.heap.size W w1) : (∀ b o, b < W.heap.size → w1.cell? ⟨b, o, none⟩ = W.cell? ⟨b, o, none⟩) ∧ (∀ b o, b < W.heap.size → w1.frozen? ⟨b, o, none⟩ = W.frozen? ⟨b, o, none⟩) :=
  ⟨fun b o h => hb.cell (p := ⟨b, o, none⟩) h, fun b o h => hb.frozen (p := ⟨b, o, none⟩) h⟩

/-- block g is just these cells of type t, none of them frozen -/
def Blk (w : World) (g : Nat) (t : TypeId) (cs : Array Value) : Prop := w.heap[g]? = some (.cells cs t (0, 0))
section
variable {w w' : World} {g : Nat} {t : TypeId} {cs : Array Value}
theorem Blk.lt (h : Blk w g t cs) : g < w.heap.size := lt_of_heap' h
theorem Blk.cell (h : Blk w g t cs) (i : Nat) : w.cell? ⟨g, i, none⟩ = cs[i]? := by unfold Blk at h; simp [World.cell?, h]
theorem Blk.frozen (h : Blk w g t cs) (i : Nat) : w.frozen? ⟨g, i, none⟩ = false := by unfold Blk at h; simp [World.frozen?, h]
theorem Blk.new (w : World) (t : TypeId) (cs : Array Value) : Blk (w.alloc (.cells cs t)) w.heap.size t cs := by
  show (w.heap.push _)[w.heap.size]? = _
  simp
theorem Blk.keep {S : Nat → Prop} (h : Blk w g t cs) (hs : S g) (hk : Same S w w') : Blk w' g t cs := (hk g hs h.lt).trans h
theorem Blk.drew (h : Blk w g t cs) : Blk w.drew g t cs := h
theorem Blk.alloc (h : Blk w g t cs) (o : Obj) : Blk (w.alloc o) g t cs := (Below.heap_alloc w o g h.lt).trans h
theorem Blk.set_ (h : Blk w g t cs) (i : Nat) (u : Value) : Blk (w.setCell ⟨g, i, none⟩ u) g t (cs.setIfInBounds i u) := by
  unfold Blk at h ⊢
  simp [World.setCell, Array.getElem?_modify, h]
theorem Blk.far (h : Blk w g t cs) {p : Addr} (hp : g ≠ p.block) (u : Value) : Blk (w.setCell p u) g t cs := (Below.heap_setCell w p u g hp).trans h
theorem Blk.below {B : Nat} (h : Blk w g t cs) (hb : Below B w w') (hg : g < B) : Blk w' g t cs := (hb.block g hg).trans h
theorem Blk.step (h : Blk w g t cs) (hb : Below w.heap.size w w') : Blk w' g t cs := h.below hb h.lt
theorem Blk.ne {g' : Nat} {t' : TypeId} {cs' : Array Value} (h : Blk w g t cs) (h' : Blk w g' t' cs') (hne : t ≠ t') : g ≠ g' := by
  rintro rfl
  unfold Blk at h h'
  rw [h] at h'
  injection h' with h'
  injection h' with _ ht
  exact hne ht
/-- a block of two cells: what the walk wants of it -/
theorem Blk.two {x y : Value} (h : Blk w g t #[x, y]) : w.cell? ⟨g, 0, none⟩ = some x ∧ w.cell? ⟨g, 1, none⟩ = some y ∧ w.frozen? ⟨g, 0, none⟩ = false ∧ w.frozen? ⟨g, 1, none⟩ = false :=
  ⟨h.cell 0, h.cell 1, h.frozen 0, h.frozen 1⟩
theorem Blk.set2 {x y x' y' : Value} (h : Blk w g t #[x, y]) : Blk ((w.setCell ⟨g, 0, none⟩ x').setCell ⟨g, 1, none⟩ y') g t #[x', y'] := (h.set_ 0 x').set_ 1 y'
end

theorem Fr.shrink {w w1 : World} {S : Nat → Prop} (hb : w.heap.size ≤ w1.heap.size) (b : Nat) (h : Fr w1 (Fr w S) b) : Fr w S b := by
  rcases h with h | h
  · exact h
  · exact .inr (by omega)
/-- a call hands back a tree for which Q holds, over new memory and S -/
def TreeRet (w : World) (S : Nat → Prop) (Q : Tr → Prop) (e : Ending) (w' : World) : Prop :=
  ∃ p t, e = .returned (.pointer p) ∧ IsTree w' (Fr w S) t p ∧ Q t ∧ Below w.heap.size w w'
theorem TreeRet.mono {w : World} {S : Nat → Prop} {Q Q' : Tr → Prop} (hq : ∀ t, Q t → Q' t) {e : Ending} {w' : World} (h : TreeRet w S Q e w') : TreeRet w S Q' e w' := by
  obtain ⟨p, t, he, ht, hq', hb⟩ := h
  exact ⟨p, t, he, ht, hq t hq', hb⟩
def Tr.joined (l : Tr) (row : List El) (r t : Tr) : Prop := t.rows = l.rows ++ row :: r.rows
theorem Tr.joined.all {l : Tr} {row : List El} {r t : Tr} (h : Tr.joined l row r t) : t.all = l.all ++ row ++ r.all := by
  rw [Tr.all_eq, h, Tr.all_eq, Tr.all_eq]
  simp
theorem undrew {w w1 : World} (h : Below w.drew.heap.size w.drew w1) : Below w.heap.size w w1 := ⟨h.os, h.tape, h.output, h.size, h.block⟩
theorem IsTree.drew {w : World} {S : Nat → Prop} {t : Tr} {p : Option Addr} (h : IsTree w S t p) : IsTree w.drew S t p := h.keep (Same.drew _ _)
theorem Row.drew {w : World} {S : Nat → Prop} {A : Option Addr} {n c : Nat} {es : List El} (h : Row w S A n c es) : Row w.drew S A n c es := h.keep (Same.drew _ _)
theorem IsTree.fr {w w' : World} {S : Nat → Prop} {t : Tr} {p : Option Addr} (h : IsTree w' S t p) : IsTree w' (Fr w S) t p := h.more fun _ _ h => .inl h
theorem Row.fr {w w' : World} {S : Nat → Prop} {A : Option Addr} {n c : Nat} {es : List El} (h : Row w' S A n c es) : Row w' (Fr w S) A n c es := h.more fun _ _ h => .inl h
/-- two calls, the second over what the first has made -/
theorem TreeRet.after {w w1 : World} {S : Nat → Prop} {Q : Tr → Prop} {e : Ending} {w' : World} (h : TreeRet w1 (Fr w S) Q e w') (hb : Below w.heap.size w w1) : TreeRet w S Q e w' := by
  obtain ⟨p, t, he, ht, hq, hb'⟩ := h
  exact ⟨p, t, he, ht.more fun b _ h => Fr.shrink hb.size b h, hq, hb.trans (hb'.mono hb.size)⟩
theorem TreeRet.undrew {w : World} {S : Nat → Prop} {Q : Tr → Prop} {e : Ending} {w' : World} (h : TreeRet w.drew S Q e w') : TreeRet w S Q e w' := by
  obtain ⟨p, t, he, ht, hq, hb'⟩ := h
  exact ⟨p, t, he, ht.more fun b _ h => h, hq, Go.Proofs.YtnpbbidiloahdaaDoor.undrew hb'⟩
theorem TreeRet.of {w : World} {S : Nat → Prop} {Q : Tr → Prop} {p : Option Addr} {t : Tr} {w' : World} (ht : IsTree w' (Fr w S) t p) (hq : Q t) (hb : Below w.heap.size w w') : TreeRet w S Q (.returned (.pointer p)) w' :=
  ⟨p, t, rfl, ht, hq, hb⟩
theorem undrew2 {w w1 : World} (h : Below w.drew.drew.heap.size w.drew.drew w1) : Below w.heap.size w w1 := undrew (undrew h)
end Go.Proofs.YtnpbbidiloahdaaDoor
namespace Go.Proofs.YtnpbbidiloahdaaDoor
set_option linter.unusedSimpArgs false
set_option linter.unusedVariables false
open Go Go.RowKit

theorem plus_any (a b c d : Int) (w : World) :
    Calls Tryd.prog 78 #[.agg #[.int .i64 a, .int .i64 b], .agg #[.int .i64 c, .int .i64 d]] w fun e w' => e = .returned (.agg #[.int .i64 (wrap64 (a + c)), .int .i64 (wrap64 (b + d))]) ∧ Below w.heap.size w w' := by
  go_enter Tryd.func78, Tryd.ntmps78
  go_wp2
  exact bodyPost_ret (v := .agg #[.int .i64 (wrap64 (a + c)), .int .i64 (wrap64 (b + d))]) (by simp [results, Tryd.results78, go_sem]) rfl ⟨rfl, (((Below.refl _ _).alloc (Nat.le_refl _) _).alloc (by simp) _).alloc (by simp; omega) _⟩
/-- two weights of which the sums do not wrap -/
theorem plus_in (a b c d : Int) (w : World) (h1 : 0 ≤ a) (h2 : 0 ≤ b) (h3 : 0 ≤ c) (h4 : 0 ≤ d) (h5 : a + c ≤ 4611686018427387904) (h6 : b + d ≤ 4611686018427387904) :
    Calls Tryd.prog 78 #[.agg #[.int .i64 a, .int .i64 b], .agg #[.int .i64 c, .int .i64 d]] w fun e w' => e = .returned (.agg #[.int .i64 (a + c), .int .i64 (b + d)]) ∧ Below w.heap.size w w' := by
  have h := plus_any a b c d w
  rw [IntWalk.wrap64_in _ ⟨by omega, by omega⟩, IntWalk.wrap64_in _ ⟨by omega, by omega⟩] at h
  exact h
theorem weight_any (e : El) (w : World) :
    Calls Tryd.prog 58 #[.agg #[.int .i64 e.epoch, .int .i64 e.rep, .int .i64 e.num, .int .i32 e.char, .int .i64 e.hides]] w fun en w' => en = .returned (.agg #[.int .i64 e.live, .int .i64 e.lines]) ∧ Below w.heap.size w w' := by
  go_enter Tryd.func58, Tryd.ntmps58
  go_wp2
  · have h : 0 < e.hides := by assumption
    exact bodyPost_ret (v := .agg #[.int .i64 0, .int .i64 0]) (by simp [results, Tryd.results58, go_sem]) rfl ⟨by simp [El.live, El.lines, h], (((Below.refl _ _).alloc (Nat.le_refl _) _).alloc (by simp) _)⟩
  · have h : e.hides ≤ 0 := by assumption
    have hc : (e.char == 10) = true := by assumption
    have hc' : e.char = 10 := by simpa using hc
    have h' : ¬ 0 < e.hides := by omega
    exact bodyPost_ret (v := .agg #[.int .i64 1, .int .i64 1]) (by simp [results, Tryd.results58, go_sem]) rfl ⟨by simp [El.live, El.lines, h', hc'], (((Below.refl _ _).alloc (Nat.le_refl _) _).alloc (by simp) _)⟩
  · have h : e.hides ≤ 0 := by assumption
    have hc : (e.char == 10) = false := by assumption
    have hc' : ¬ e.char = 10 := by simpa using hc
    have h' : ¬ 0 < e.hides := by omega
    exact bodyPost_ret (v := .agg #[.int .i64 1, .int .i64 0]) (by simp [results, Tryd.results58, go_sem]) rfl ⟨by simp [El.live, El.lines, h', hc'], (((Below.refl _ _).alloc (Nat.le_refl _) _).alloc (by simp) _)⟩

theorem size_any (t : Tr) (p : Option Addr) (S : Nat → Prop) (w : World) (h : IsTree w S t p) :
    Calls Tryd.prog 69 #[.pointer p] w fun e w' => e = .returned (.int .i64 t.all.length) ∧ w = w' := by
  cases t with
  | nil =>
    obtain rfl := h
    go_enter Tryd.func69, Tryd.ntmps69
    go_wp2
    go_ret
    exact ⟨rfl, rfl⟩
  | node l row r =>
    obtain ⟨hne, b, A, n, c, pl, pr, rfl, hs, hr, hl, hr', c0, c1, c2, c3, c4, c5, c6⟩ := h
    clear hr hl hr' c0 c1 c2 c4 c5 c6
    go_enter Tryd.func69, Tryd.ntmps69
    go_wp2
    go_ret
    exact ⟨rfl, rfl⟩
theorem high_any (t : Tr) (p : Option Addr) (S : Nat → Prop) (w : World) (h : IsTree w S t p) :
    Calls Tryd.prog 91 #[.pointer p] w fun e w' => e = .returned (.int .i64 t.high) ∧ w = w' := by
  cases t with
  | nil =>
    obtain rfl := h
    go_enter Tryd.func91, Tryd.ntmps91
    go_wp2
    go_ret
    exact ⟨rfl, rfl⟩
  | node l row r =>
    obtain ⟨hne, b, A, n, c, pl, pr, rfl, hs, hr, hl, hr', c0, c1, c2, c3, c4, c5, c6⟩ := h
    clear hr hl hr' c0 c1 c2 c3 c5 c6
    go_enter Tryd.func91, Tryd.ntmps91
    go_wp2
    go_ret
    exact ⟨rfl, rfl⟩
theorem weighs_any (t : Tr) (p : Option Addr) (S : Nat → Prop) (w : World) (h : IsTree w S t p) :
    Calls Tryd.prog 79 #[.pointer p] w fun e w' => e = .returned (.agg #[.int .i64 (liveOf t.all), .int .i64 (linesOf t.all)]) ∧ Below w.heap.size w w' := by
  cases t with
  | nil =>
    obtain rfl := h
    go_enter Tryd.func79, Tryd.ntmps79
    go_wp2
    exact bodyPost_ret (v := .agg #[.int .i64 0, .int .i64 0]) (by simp [results, Tryd.results79, go_sem]) rfl ⟨rfl, ((Below.refl _ _).alloc (Nat.le_refl _) _)⟩
  | node l row r =>
    obtain ⟨hne, b, A, n, c, pl, pr, rfl, hs, hr, hl, hr', c0, c1, c2, c3, c4, c5, c6⟩ := h
    clear hr hl hr' c0 c1 c2 c3 c4
    have hb := lt_of_cell' c5
    go_enter Tryd.func79, Tryd.ntmps79
    go_wp2
    exact bodyPost_ret (v := .agg #[.int .i64 (liveOf (Tr.node l row r).all), .int .i64 (linesOf (Tr.node l row r).all)]) (by simp [results, Tryd.results79, go_sem]) rfl ⟨rfl, ((Below.refl _ _).alloc (Nat.le_refl _) _)⟩
end Go.Proofs.YtnpbbidiloahdaaDoor
namespace Go.Proofs.YtnpbbidiloahdaaDoor
set_option linter.unusedSimpArgs false
set_option linter.unusedVariables false
open Go Go.RowKit

/-- the slice is the call's own (nil, or at the head of a block from base on) and holds es -/
def Own (w : World) (base : Nat) (A : Option Addr) (n c : Nat) (es : List El) : Prop := es.length = n ∧ w.ownsRow base 48 5 (.slice A n c) n (cellsOf es)
section
variable {w w' : World} {base : Nat} {A : Option Addr} {n c : Nat} {es : List El}
theorem Own.nil (w : World) (base : Nat) : Own w base none 0 0 [] := ⟨rfl, World.ownsRow_nil w base _ 5⟩
theorem Own.row (h : Own w base A n c es) {S : Nat → Prop} (hS : ∀ b, base ≤ b → b < w.heap.size → S b) : Row w S A n c es := by
  obtain ⟨hl, h⟩ := h
  have h0 : Row w (fun b => base ≤ b ∧ b < w.heap.size) A n c es := by
    rcases h.2 with ⟨e, h0⟩ | ⟨g, cap, cur, e, hbg, hh, hn, hm, _, _⟩
    · injection e with e1 e2 e3
      subst e3
      exact ⟨hl, by omega, by unfold maxLen; omega, fun h' => by omega⟩
    · injection e with e1 e2 e3
      subst e1 e3
      refine ⟨hl, hn, hm, fun h0 => ⟨g, 0, rfl, ⟨hbg, lt_of_heap' hh⟩, fun j u hu => ?_⟩⟩
      have := h.cells (g := g) rfl j u hu
      rw [show ((⟨g, 0, none⟩ : Addr).add j) = ⟨g, 0 + j, none⟩ from by unfold Addr.add; split <;> simp_all] at this
      exact this
  exact h0.more fun b _ h => hS b h.1 h.2
theorem Own.block (h : Own w base A n c es) : ∀ a, A = some a → base ≤ a.block ∧ a.block < w.heap.size := by
  intro a ha
  exact h.2.lt a.block (by rw [ha]; rfl)
theorem Own.head {a : Addr} (h : Own w base (some a) n c es) : ∃ g, a = ⟨g, 0, none⟩ := by
  rcases h.2.2 with ⟨e, _⟩ | ⟨g, cap, cur, e, _⟩
  · injection e with e1 e2 e3
    cases e1
  · injection e with e1 e2 e3
    injection e1 with e1
    exact ⟨g, e1⟩
theorem Own.keep {S : Nat → Prop} (h : Own w base A n c es) (hk : Same S w w') (hS : ∀ a, A = some a → S a.block) : Own w' base A n c es := by
  refine ⟨h.1, h.2.1, ?_⟩
  rcases h.2.2 with h0 | ⟨g, cap, cur, e, hbg, hh, r⟩
  · exact .inl h0
  · refine .inr ⟨g, cap, cur, e, hbg, ?_, r⟩
    have hA : A = some ⟨g, 0, none⟩ := by injection e
    exact (hk g (hS _ hA) (lt_of_heap' hh)).trans hh
theorem Own.mono {base' : Nat} (h : Own w base A n c es) (hb : base' ≤ base) : Own w base' A n c es := by
  refine ⟨h.1, h.2.1, ?_⟩
  rcases h.2.2 with h0 | ⟨g, cap, cur, e, hbg, hh, r⟩
  · exact .inl h0
  · exact .inr ⟨g, cap, cur, e, by omega, hh, r⟩
theorem Own.cap_le (h : Own w base A n c es) : n ≤ c ∧ c ≤ maxLen := by
  rcases h.2.2 with ⟨e, h0⟩ | ⟨g, cap, cur, e, hbg, hh, hn, hm, _⟩
  · injection e with e1 e2 e3
    subst e3
    exact ⟨by omega, by unfold maxLen; omega⟩
  · injection e with e1 e2 e3
    subst e3
    exact ⟨hn, hm⟩
end

theorem Tryd.infoEl : (Tryd.prog.info? 48).map (fun i => (i.zero, i.size, i.bytes)) = some (some (.agg #[.int .i64 0, .int .i64 0, .int .i64 0, .int .i32 0, .int .i64 0]), 5, 40) := by kernel_rfl

theorem run_append_el (w : World) (ty : TypeId) (base : Nat) (A B : Option Addr) (n c m d : Nat) (es fs : List El) (S : Nat → Prop) (hown : Own w base A n c es) (hrow : Row w S B m d fs) (hb : base ≤ w.heap.size) (hbd : n + m ≤ 1099511627776) :
    ∃ A' c' w', (Builtin.append_ #[22, 22] ty #[.slice A n c, .slice B m d]).run Tryd.prog w = .ok (.slice A' (n + m) c') w' ∧ Own w' base A' (n + m) c' (es ++ fs) ∧ w.grownBy w' (A.map (·.block)) ∧
      (A' = A ∨ ∃ g, A' = some ⟨g, 0, none⟩ ∧ w.heap.size ≤ g) := by
  obtain ⟨i0, hi0, hz0, hz1, hz2⟩ := info_parts Tryd.infoEl
  rcases Nat.eq_zero_or_pos m with h0 | h0
  · subst h0
    have hfs : fs = [] := List.eq_nil_of_length_eq_zero hrow.1
    subst hfs
    refine ⟨A, c, w, ?_, by simpa using hown, ⟨rfl, rfl, rfl, Nat.le_refl _, fun _ _ _ => rfl⟩, .inl rfl⟩
    have hc := hown.cap_le.1
    rcases A with _ | a <;> rcases B with _ | b <;>
      simp [Builtin.append_, run_underlying Tryd.underlying22, sizeOf, typeInfo, hi0, Builtin.lenOf, Builtin.firstCells, loadCells, loadCellsFrom, storeCells, hc]
  · obtain ⟨b, off, rfl, _, hcell⟩ := hrow.2.2.2 h0
    have hcells : ∀ j u, (cellsOf fs)[j]? = some u → w.cell? ((⟨b, off, none⟩ : Addr).add j) = some u := fun j u hu => by
      rw [show ((⟨b, off, none⟩ : Addr).add j) = ⟨b, off + j, none⟩ from by unfold Addr.add; split <;> simp_all]
      exact hcell j u hu
    have hmx : n + m ≤ maxLen := by have : maxLen = 9223372036854775807 := rfl; omega
    have hby : (n + m) * 40 ≤ 140737488355328 := by omega
    obtain ⟨v', w', hrun, h2, h3, h4, h5⟩ := run_append_own_at (P := Tryd.prog) w base _ ty _ i0 _ 5 40 Tryd.underlying22 hi0 hz0 hz1 hz2 rfl (by omega) _ n (cellsOf es) hown.2 ⟨b, off, none⟩ m d (cellsOf fs) (by rw [cellsOf_length, hrow.1]) hcells (cellsOf_oneCell fs)
      hmx hby hb
    have hform : ∃ g cap, v' = .slice (some ⟨g, 0, none⟩) (n + m) cap := by
      rcases h2.2 with ⟨_, h⟩ | ⟨g, cap, cur, hv, _⟩
      · omega
      · exact ⟨g, cap, hv⟩
    obtain ⟨g, cap, rfl⟩ := hform
    have hob : (Value.slice A n c).ownBlock = A.map (·.block) := by cases A <;> rfl
    refine ⟨_, cap, w', hrun, ⟨by simp [hown.1, hrow.1], by rw [cellsOf_append]; exact h2⟩, by rw [← hob]; exact h3, ?_⟩
    rcases h5 with h5 | h5
    · cases A with
      | none => simp [Value.ownBlock] at h5
      | some a =>
        left
        obtain ⟨g', rfl⟩ := hown.head
        have : g = g' := by simpa [Value.ownBlock] using h5
        rw [this]
    · right
      have : g = w.heap.size := by simpa [Value.ownBlock] using h5
      exact ⟨g, rfl, by omega⟩

/-- append at its operation. Behind it: the new slice is the call's own; all blocks but the old slice's own stand; it lies in the old one's block or in a new one -/
theorem wp_append_el {a : Act} {K : Act → World → Prop} {Q : Exit → Act → World → Prop} {w : World} {dst : Option Tmp} {s x : Operand} {ty : TypeId} {pos : String} {after : Array Edge} {guard : Option (Nat × Bool)}
    (base : Nat) (A B : Option Addr) (n c m d : Nat) (es fs : List El) (S : Nat → Prop) (hs : a.eval s = .slice A n c) (hx : a.eval x = .slice B m d) (hown : Own w base A n c es) (hrow : Row w S B m d fs) (hb : base ≤ w.heap.size) (hbd : n + m ≤ 1099511627776)
    (h : ∀ A' c' w', Own w' base A' (n + m) c' (es ++ fs) → Below base w w' → Same (fun k => ∀ g, A = some g → g.block ≠ k) w w' → (A' = A ∨ ∃ g, A' = some ⟨g, 0, none⟩ ∧ w.heap.size ≤ g) → w.heap.size ≤ w'.heap.size → K (a.put dst (.slice A' (n + m) c')) w') :
    Oper.wp Tryd.prog ⟨dst, .call ⟨.builtin .append, #[s, x], #[22, 22]⟩, ty, pos, after, guard⟩ a w K Q := by
  obtain ⟨A', c', w', hrun, h2, h3, h4⟩ := run_append_el w ty base A B n c m d es fs S hown hrow hb hbd
  unfold Oper.wp execOp
  simp only [resolve, invoke, builtin, Sem.run_bind, Sem.run_pure, Result.andThen_ok, List.map_toArray, List.map_cons, List.map_nil, hs, hx, hrun]
  refine h A' c' w' h2 ?_ ?_ h4 h3.size
  · refine (Below.refl _ _).grown h3 hb fun k hk => ?_
    cases A with
    | none => cases hk
    | some a =>
      have := hown.block a rfl
      have : a.block = k := by simpa using hk
      omega
  · intro k hk hl
    refine h3.block k hl fun e => ?_
    cases A with
    | none => cases e
    | some a => exact hk a rfl (by simpa using e.symm)
/-- append to nil: a copy -/
theorem wp_append_nil {a : Act} {K : Act → World → Prop} {Q : Exit → Act → World → Prop} {w : World} {dst : Option Tmp} {s x : Operand} {ty : TypeId} {pos : String} {after : Array Edge} {guard : Option (Nat × Bool)}
    (B : Option Addr) (m d : Nat) (fs : List El) (S : Nat → Prop) (hs : a.eval s = .slice none 0 0) (hx : a.eval x = .slice B m d) (hrow : Row w S B m d fs) (hbd : m ≤ 1099511627776)
    (h : ∀ A' c' w', Own w' w.heap.size A' m c' fs → Below w.heap.size w w' → K (a.put dst (.slice A' m c')) w') :
    Oper.wp Tryd.prog ⟨dst, .call ⟨.builtin .append, #[s, x], #[22, 22]⟩, ty, pos, after, guard⟩ a w K Q := by
  refine wp_append_el w.heap.size none B 0 0 m d [] fs S hs hx (Own.nil _ _) hrow (Nat.le_refl _) (by omega) ?_
  intro A' c' w' h1 h2 _ _ _
  rw [Nat.zero_add, List.nil_append] at *
  exact h A' c' w' h1 h2

/-- a look at the goal alone: is it an append of elements? -/
theorem append_here {a : Act} {K : Act → World → Prop} {Q : Exit → Act → World → Prop} {w : World} {dst : Option Tmp} {s x : Operand} {ty : TypeId} {pos : String} {after : Array Edge} {guard : Option (Nat × Bool)}
    (h : Oper.wp Tryd.prog ⟨dst, .call ⟨.builtin .append, #[s, x], #[22, 22]⟩, ty, pos, after, guard⟩ a w K Q) : Oper.wp Tryd.prog ⟨dst, .call ⟨.builtin .append, #[s, x], #[22, 22]⟩, ty, pos, after, guard⟩ a w K Q := h
/-- apart from the block that A points into -/
def Away (A : Option Addr) (b : Nat) : Prop := ∀ a, A = some a → a.block ≠ b
/-- what is kept apart from a slice of the call's own is so behind an append to it -/
theorem IsTree.apart {w w' : World} {ST : Nat → Prop} {A A' : Option Addr} {t : Tr} {p : Option Addr} (h : IsTree w ST t p) (hS : ∀ b, ST b → Away A b) (hs : Same (fun k => ∀ g, A = some g → g.block ≠ k) w w') (hat : A' = A ∨ ∃ g, A' = some ⟨g, 0, none⟩ ∧ w.heap.size ≤ g) :
    IsTree w' (fun b => ST b ∧ Away A' b) t p := by
  have h1 : IsTree w (fun b => ST b ∧ Away A' b) t p := h.more fun b hb hst => ⟨hst, by
    rcases hat with rfl | ⟨g, rfl, hg⟩
    · exact hS b hst
    · intro a ha
      injection ha with ha
      subst ha
      show g ≠ b
      omega⟩
  exact h1.keep (hs.sub fun b hb => hS b hb.1)
theorem Row.apart {w w' : World} {ST : Nat → Prop} {A A' : Option Addr} {B : Option Addr} {n c : Nat} {es : List El} (h : Row w ST B n c es) (hS : ∀ b, ST b → Away A b) (hs : Same (fun k => ∀ g, A = some g → g.block ≠ k) w w') (hat : A' = A ∨ ∃ g, A' = some ⟨g, 0, none⟩ ∧ w.heap.size ≤ g) :
    Row w' (fun b => ST b ∧ Away A' b) B n c es := by
  have h1 : Row w (fun b => ST b ∧ Away A' b) B n c es := h.more fun b hb hst => ⟨hst, by
    rcases hat with rfl | ⟨g, rfl, hg⟩
    · exact hS b hst
    · intro a ha
      injection ha with ha
      subst ha
      show g ≠ b
      omega⟩
  exact h1.keep (hs.sub fun b hb => hS b hb.1)
/-- what there is stands apart from a slice made later -/
theorem IsTree.before {w w' : World} {ST : Nat → Prop} {A : Option Addr} {n c : Nat} {es : List El} {t : Tr} {p : Option Addr} (h : IsTree w ST t p) (hb : Below w.heap.size w w') (ho : Own w' w.heap.size A n c es) : IsTree w' (fun b => ST b ∧ Away A b) t p :=
  (h.more (S' := fun b => ST b ∧ Away A b) fun b hl hst => ⟨hst, fun a ha => by have := (ho.block a ha).1; omega⟩).step hb
theorem Row.before {w w' : World} {ST : Nat → Prop} {A B : Option Addr} {n c m d : Nat} {es fs : List El} (h : Row w ST B m d fs) (hb : Below w.heap.size w w') (ho : Own w' w.heap.size A n c es) : Row w' (fun b => ST b ∧ Away A b) B m d fs :=
  (h.more (S' := fun b => ST b ∧ Away A b) fun b hl hst => ⟨hst, fun a ha => by have := (ho.block a ha).1; omega⟩).step hb
/-- and from one that a later call has left alone -/
theorem Away.fr {w : World} {ST : Nat → Prop} {base : Nat} {A : Option Addr} {n c : Nat} {es : List El} (ho : Own w base A n c es) (hS : ∀ b, ST b → Away A b) : ∀ b, Fr w ST b → Away A b := by
  intro b hb a ha
  rcases hb with hb | hb
  · exact hS b hb a ha
  · have := (ho.block a ha).2
    omega
theorem stop_append {a : Act} {K : Act → World → Prop} {Q : Exit → Act → World → Prop} {w : World} {dst : Option Tmp} {s x : Operand} {ty : TypeId} {pos : String} {after : Array Edge} {guard : Option (Nat × Bool)}
    (h : Stop (Oper.wp Tryd.prog ⟨dst, .call ⟨.builtin .append, #[s, x], #[22, 22]⟩, ty, pos, after, guard⟩ a w K Q)) : Oper.wp Tryd.prog ⟨dst, .call ⟨.builtin .append, #[s, x], #[22, 22]⟩, ty, pos, after, guard⟩ a w K Q := by unfold Stop at h; exact h
end Go.Proofs.YtnpbbidiloahdaaDoor
