/- A row in order, what stood equal as it stood: the plain law of a stable sort, of its merge by halves, and of the document's way to sort. No condition. No program in sight. Rows of anchors with their gaps: what is written there, cell by cell. Conditions: as each theorem says. Two parts of a row of anchors change places: the walks of swapRange and rotate. Conditions: the row is the call's own. -/
import Derived.Test.YtnpbbidiloahdaaDoorP15
import Derived.Test.YtnpbbidiloahdaaDoorP10
namespace Go.Proofs.YtnpbbidiloahdaaDoor
set_option linter.unusedSimpArgs false
set_option linter.unusedVariables false
open Go Go.RowKit
section
variable {α : Type} (key : α → Int)
/-- xs is es in the order of the keys; of one key, in the order of es -/
structure StSort (es xs : List α) : Prop where
  ord : xs.Pairwise fun x y => key x ≤ key y
  fil : ∀ p : Int, xs.filter (fun x => decide (key x = p)) = es.filter fun x => decide (key x = p)
variable {key}
theorem StSort.mem {es xs : List α} (h : StSort key es xs) (x : α) : x ∈ xs ↔ x ∈ es := by
  have h1 : ∀ l : List α, x ∈ l ↔ x ∈ l.filter fun y => decide (key y = key x) := fun l => by simp [List.mem_filter]
  rw [h1 xs, h.fil, ← h1 es]
theorem StSort.refl {es : List α} (h : es.Pairwise fun x y => key x ≤ key y) : StSort key es es := ⟨h, fun _ => rfl⟩
theorem filter_none {l : List α} {p : Int} (h : ∀ x ∈ l, key x ≠ p) : l.filter (fun x => decide (key x = p)) = [] := by
  refine List.filter_eq_nil_iff.2 fun x hx => ?_
  simpa using h x hx
theorem StSort.length {es : List α} : ∀ {xs : List α}, StSort key es xs → xs.length = es.length := by
  -- by counting for each key: induction on es
  intro xs h
  have key1 : ∀ (n : Nat) (es xs : List α), es.length + xs.length ≤ n → (∀ p : Int, xs.filter (fun x => decide (key x = p)) = es.filter fun x => decide (key x = p)) → xs.length = es.length := by
    intro n
    induction n with
    | zero =>
      intro es xs hn _
      omega
    | succ n ih =>
      intro es xs hn hf
      cases es with
      | nil =>
        cases xs with
        | nil => rfl
        | cons x xs =>
          have := hf (key x)
          simp at this
      | cons e es =>
        have hfe := hf (key e)
        have hlen : ∀ l : List α, l.length = (l.filter fun x => decide (key x = key e)).length + (l.filter fun x => ! decide (key x = key e)).length := fun l => by
          induction l with
          | nil => rfl
          | cons a l ih => by_cases ha : key a = key e <;> simp [List.filter_cons, ha] <;> omega
        have h1 := hlen xs
        have h2 := hlen (e :: es)
        rw [hfe] at h1
        have hpos : 0 < ((e :: es).filter fun x => decide (key x = key e)).length := by simp
        have h3 := ih ((e :: es).filter fun x => ! decide (key x = key e)) (xs.filter fun x => ! decide (key x = key e)) (by omega) fun p => by
          rw [List.filter_filter, List.filter_filter]
          by_cases hp : p = key e
          · subst hp
            have : ∀ l : List α, l.filter (fun x => decide (key x = key e) && ! decide (key x = key e)) = [] := fun l => by
              refine List.filter_eq_nil_iff.2 fun x _ => ?_
              by_cases h : key x = key e <;> simp [h]
            rw [this, this]
          · have : ∀ l : List α, l.filter (fun x => decide (key x = p) && ! decide (key x = key e)) = l.filter fun x => decide (key x = p) := fun l => by
              refine List.filter_congr fun x _ => ?_
              by_cases h : key x = p
              · have : ¬ key x = key e := fun h' => hp (h ▸ h')
                simp [h, this]
                omega
              · simp [h]
            rw [this, this]
            exact hf p
        omega
  exact key1 _ es xs (Nat.le_refl _) h.fil
/-- such a row is one alone -/
theorem StSort.one {es : List α} : ∀ {xs ys : List α}, StSort key es xs → StSort key es ys → xs = ys := by
  have key1 : ∀ (xs ys : List α), (xs.Pairwise fun x y => key x ≤ key y) → (ys.Pairwise fun x y => key x ≤ key y) → (∀ p : Int, xs.filter (fun x => decide (key x = p)) = ys.filter fun x => decide (key x = p)) → xs = ys := by
    intro xs
    induction xs with
    | nil =>
      intro ys _ _ hf
      cases ys with
      | nil => rfl
      | cons y ys =>
        have := hf (key y)
        simp at this
    | cons x xs ih =>
      intro ys hx hy hf
      cases ys with
      | nil =>
        have := hf (key x)
        simp at this
      | cons y ys =>
        have hx1 := List.pairwise_cons.1 hx
        have hy1 := List.pairwise_cons.1 hy
        have mem : ∀ (z : α), z ∈ x :: xs ↔ z ∈ y :: ys := fun z => by
          have h1 : ∀ l : List α, z ∈ l ↔ z ∈ l.filter fun y => decide (key y = key z) := fun l => by simp [List.mem_filter]
          rw [h1 (x :: xs), hf, ← h1 (y :: ys)]
        have hk : key x = key y := by
          have h1 : key y ≤ key x := by
            rcases List.mem_cons.1 ((mem x).1 (List.mem_cons_self ..)) with h | h
            · rw [h]; exact Int.le_refl _
            · exact hy1.1 x h
          have h2 : key x ≤ key y := by
            rcases List.mem_cons.1 ((mem y).2 (List.mem_cons_self ..)) with h | h
            · rw [h]; exact Int.le_refl _
            · exact hx1.1 y h
          omega
        have hf1 := hf (key x)
        rw [List.filter_cons_of_pos (by simp), List.filter_cons_of_pos (by simp [hk])] at hf1
        injection hf1 with e1 e2
        subst e1
        rw [ih ys hx1.2 hy1.2 fun p => ?_]
        have := hf p
        by_cases hp : key x = p
        · rw [List.filter_cons_of_pos (by simpa using hp), List.filter_cons_of_pos (by simpa using hp)] at this
          injection this
        · rwa [List.filter_cons_of_neg (by simpa using hp), List.filter_cons_of_neg (by simpa using hp)] at this
  intro xs ys h k
  exact key1 xs ys h.ord k.ord fun p => by rw [h.fil, k.fil]
/-- two rows each in order: first halves, then second halves -/
theorem StSort.halves {L1 L2 R1 R2 X1 X2 : List α} (h1 : StSort key (L1 ++ R1) X1) (h2 : StSort key (L2 ++ R2) X2) (hl : ∀ x ∈ L1, ∀ y ∈ L2, key x ≤ key y) (hr : ∀ x ∈ R1, ∀ y ∈ R2, key x ≤ key y) (h12 : ∀ x ∈ L1, ∀ y ∈ R2, key x ≤ key y) (h21 : ∀ x ∈ R1, ∀ y ∈ L2, key x < key y) : StSort key ((L1 ++ L2) ++ (R1 ++ R2)) (X1 ++ X2) := by
  refine ⟨List.pairwise_append.2 ⟨h1.ord, h2.ord, fun x hx y hy => ?_⟩, fun p => ?_⟩
  · rcases List.mem_append.1 ((h1.mem x).1 hx) with hx | hx <;> rcases List.mem_append.1 ((h2.mem y).1 hy) with hy | hy
    · exact hl x hx y hy
    · exact h12 x hx y hy
    · exact Int.le_of_lt (h21 x hx y hy)
    · exact hr x hx y hy
  · rw [List.filter_append, h1.fil, h2.fil]
    simp only [List.filter_append]
    have hc : L2.filter (fun x => decide (key x = p)) = [] ∨ R1.filter (fun x => decide (key x = p)) = [] := by
      by_cases hh : ∃ x ∈ R1, key x = p
      · obtain ⟨x, hx, e⟩ := hh
        exact .inl (filter_none fun y hy e' => by have := h21 x hx y hy; omega)
      · exact .inr (filter_none fun x hx e => hh ⟨x, hx, e⟩)
    rcases hc with h | h <;> simp [h]
/-- one ahead of a row in order is put where it belongs -/
theorem StSort.down {x : α} {R1 R2 : List α} (hr : (R1 ++ R2).Pairwise fun x y => key x ≤ key y) (h1 : ∀ y ∈ R1, key y < key x) (h2 : ∀ y ∈ R2, key x ≤ key y) : StSort key (x :: (R1 ++ R2)) (R1 ++ x :: R2) := by
  obtain ⟨p1, p2, p3⟩ := List.pairwise_append.1 hr
  have := StSort.halves (key := key) (L1 := []) (L2 := [x]) (R1 := R1) (R2 := R2) (X1 := R1) (X2 := x :: R2) (StSort.refl p1) (StSort.refl (List.pairwise_cons.2 ⟨h2, p2⟩)) (by simp) p3 (by simp) (fun y hy z hz => by rw [List.mem_singleton.1 hz]; exact h1 y hy)
  simpa using this
/-- one behind a row in order is put where it belongs -/
theorem StSort.up {y : α} {L1 L2 : List α} (hl : (L1 ++ L2).Pairwise fun x y => key x ≤ key y) (h1 : ∀ x ∈ L1, key x ≤ key y) (h2 : ∀ x ∈ L2, key y < key x) : StSort key ((L1 ++ L2) ++ [y]) (L1 ++ y :: L2) := by
  obtain ⟨p1, p2, p3⟩ := List.pairwise_append.1 hl
  refine ⟨List.pairwise_append.2 ⟨p1, List.pairwise_cons.2 ⟨fun x hx => Int.le_of_lt (h2 x hx), p2⟩, fun x hx z hz => ?_⟩, fun p => ?_⟩
  · rcases List.mem_cons.1 hz with rfl | hz
    · exact h1 x hx
    · exact p3 x hx z hz
  · simp only [List.filter_append]
    by_cases hp : key y = p
    · have hn : L2.filter (fun x => decide (key x = p)) = [] := filter_none fun x hx e => by have := h2 x hx; omega
      rw [List.filter_cons_of_pos (by simpa using hp), hn]
      simp [hp]
    · rw [List.filter_cons_of_neg (by simpa using hp)]
      simp [hp]
theorem StSort.ahead {es ys xs : List α} (h : StSort key es ys) {fs : List α} (k : StSort key (ys ++ fs) xs) : StSort key (es ++ fs) xs :=
  ⟨k.ord, fun p => by rw [k.fil, List.filter_append, List.filter_append, h.fil]⟩
theorem StSort.both {es fs ys zs xs : List α} (h : StSort key es ys) (g : StSort key fs zs) (k : StSort key (ys ++ zs) xs) : StSort key (es ++ fs) xs :=
  ⟨k.ord, fun p => by rw [k.fil, List.filter_append, List.filter_append, h.fil, g.fil]⟩
/-- the document's way: key by key -/
theorem StSort.keys (es : List α) (n : Nat) (hk : ∀ x ∈ es, 0 ≤ key x ∧ key x < n) : StSort key es ((List.range n).flatMap fun (k : Nat) => es.filter fun x => decide (key x = (k : Int))) := by
  refine ⟨?_, fun p => ?_⟩
  · rw [List.pairwise_flatMap]
    refine ⟨fun k _ => ?_, ?_⟩
    · refine List.pairwise_iff_getElem.2 fun i j hi hj _ => ?_
      have h1 := (List.mem_filter.1 (List.getElem_mem hi)).2
      have h2 := (List.mem_filter.1 (List.getElem_mem hj)).2
      simp only [decide_eq_true_eq] at h1 h2
      omega
    · refine List.pairwise_iff_getElem.2 fun i j hi hj hij => ?_
      intro x hx y hy
      have h1 := (List.mem_filter.1 hx).2
      have h2 := (List.mem_filter.1 hy).2
      simp only [decide_eq_true_eq, List.getElem_range] at h1 h2
      omega
  · have hsum : ∀ m : Nat, ((List.range m).flatMap fun (k : Nat) => es.filter fun x => decide (key x = (k : Int))).filter (fun x => decide (key x = p)) = if 0 ≤ p ∧ p < m then es.filter (fun x => decide (key x = p)) else [] := by
      intro m
      induction m with
      | zero => rw [if_neg (by omega)]; rfl
      | succ m ih =>
        rw [List.range_succ, List.flatMap_append, List.filter_append, ih]
        simp only [List.flatMap_cons, List.flatMap_nil, List.append_nil]
        rw [List.filter_filter]
        by_cases hp : p = (m : Int)
        · subst hp
          rw [if_neg (by omega), if_pos (by omega), List.nil_append]
          refine List.filter_congr fun x _ => ?_
          by_cases h : key x = (m : Int) <;> simp [h]
        · have hn : es.filter (fun x => decide (key x = p) && decide (key x = (m : Int))) = [] := by
            refine List.filter_eq_nil_iff.2 fun x _ => ?_
            simp only [Bool.and_eq_true, decide_eq_true_eq]
            omega
          rw [hn, List.append_nil]
          by_cases h : 0 ≤ p ∧ p < (m : Int)
          · rw [if_pos h, if_pos (by omega)]
          · rw [if_neg h, if_neg (by omega)]
    rw [hsum n]
    split
    · rfl
    · next h => exact (filter_none fun x hx e => h (by have := hk x hx; omega)).symm
end
end Go.Proofs.YtnpbbidiloahdaaDoor
namespace Go.Proofs.YtnpbbidiloahdaaDoor
set_option linter.unusedSimpArgs false
set_option linter.unusedVariables false
open Go Go.RowKit
/-- an anchor and its gap -/
structure Pl where
  a : Anc
  p : Int
def Pl.agg (x : Pl) : Value := .agg #[.bool x.a.front, .int .i64 x.a.id.epoch, .int .i64 x.a.id.rep, .int .i64 x.a.id.num, .int .i64 x.p]
def Pl.In (x : Pl) : Prop := 0 ≤ x.p ∧ x.p ≤ 1000000000
instance : Enc Pl where
  k := 5
  cells x := [.bool x.a.front, .int .i64 x.a.id.epoch, .int .i64 x.a.id.rep, .int .i64 x.a.id.num, .int .i64 x.p]
  len _ := rfl
  one := by
    intro a u hu
    simp only [List.mem_cons, List.not_mem_nil, or_false] at hu
    rcases hu with rfl | rfl | rfl | rfl | rfl <;> rfl
theorem gown_at' {α : Type} [Enc α] {t : TypeId} {w : World} {base : Nat} {A : Option Addr} {n c : Nat} {es : List α} (h : GOwn t w base A n c es) (hn : 0 < n) : ∃ g cur, A = some ⟨g, 0, none⟩ ∧ base ≤ g ∧ Blk w g t cur ∧ cur.size = c * Enc.k α ∧ n ≤ c ∧ cur.toList.take (gcells es).length = gcells es := by
  rcases h.2.2 with ⟨_, h0⟩ | ⟨g, cap, cur, e, hbg, hh, h1, h2, h3, h4⟩
  · omega
  · injection e with e1 e2 e3
    subst e3
    have hl : (gcells es).length = n * Enc.k α := by rw [gcells_length, h.1]
    exact ⟨g, cur, e1, hbg, hh, h3, h1, by rw [hl]; exact h4⟩
theorem foldl_set_off (off : Nat) : ∀ (cs : List Value) (n : Nat) (L : List Value), off + n + cs.length ≤ L.length → (cs.zipIdx n).foldl (fun c p => c.set (off + p.2) p.1) L = L.take (off + n) ++ cs ++ L.drop (off + n + cs.length)
  | [], n, L, h => by simp
  | u :: cs, n, L, h => by
    rw [List.length_cons] at h
    rw [List.zipIdx_cons, List.foldl_cons, foldl_set_off off cs (n + 1) _ (by rw [List.length_set]; omega)]
    have h1 : (L.set (off + n) u).take (off + (n + 1)) = L.take (off + n) ++ [u] := by
      rw [show off + (n + 1) = (off + n) + 1 from rfl, List.take_add_one, List.take_set_of_le (Nat.le_refl _), List.getElem?_set_self (by omega)]
      rfl
    have h2 : (L.set (off + n) u).drop (off + (n + 1) + cs.length) = L.drop (off + n + (u :: cs).length) := by
      rw [List.drop_set_of_lt (by omega), List.length_cons]
      congr 1
      omega
    rw [h1, h2, List.append_assoc, List.append_assoc, List.append_assoc]
    rfl
/-- the cells of the i-th of a row, written one by one -/
def cellsAt {α : Type} [Enc α] (i : Nat) (x : α) : List (Nat × Value) := (Enc.cells x).zipIdx.map fun p => (i * Enc.k α + p.2, p.1)
theorem gcells_sets {α : Type} [Enc α] (es : List α) (i : Nat) (x : α) (hi : i < es.length) : (cellsAt i x).foldl (fun c p => c.set p.1 p.2) (gcells es) = gcells (es.set i x) := by
  have hm : (i + 1) * Enc.k α = i * Enc.k α + Enc.k α := Nat.succ_mul _ _
  have hle : (i + 1) * Enc.k α ≤ es.length * Enc.k α := Nat.mul_le_mul_right _ hi
  have h1 := foldl_set_off (i * Enc.k α) (Enc.cells x) 0 (gcells es) (by rw [Enc.len, gcells_length]; omega)
  unfold cellsAt
  rw [List.foldl_map, h1, Nat.add_zero, Enc.len, ← hm, gcells_take, gcells_drop, List.set_eq_take_append_cons_drop, if_pos hi, gcells_append, gcells_cons, List.append_assoc]
theorem toList_sets : ∀ (l : List (Nat × Value)) (c : Array Value), (l.foldl (fun c p => c.setIfInBounds p.1 p.2) c).toList = l.foldl (fun c p => c.set p.1 p.2) c.toList
  | [], _ => rfl
  | p :: l, c => by rw [List.foldl_cons, List.foldl_cons, toList_sets l, Array.toList_setIfInBounds]
theorem take_sets (m : Nat) : ∀ (l : List (Nat × Value)) (L : List Value), (l.foldl (fun c p => c.set p.1 p.2) L).take m = l.foldl (fun c p => c.set p.1 p.2) (L.take m)
  | [], _ => rfl
  | p :: l, L => by rw [List.foldl_cons, List.foldl_cons, take_sets m l, List.take_set]
theorem size_sets : ∀ (l : List (Nat × Value)) (c : Array Value), (l.foldl (fun c p => c.setIfInBounds p.1 p.2) c).size = c.size
  | [], _ => rfl
  | p :: l, c => by rw [List.foldl_cons, size_sets l, Array.size_setIfInBounds]
/-- the cells of block b written, one by one -/
def setsAt (b : Nat) (l : List (Nat × Value)) (w : World) : World := l.foldl (fun W p => W.setCell ⟨b, p.1, none⟩ p.2) w
theorem Blk.sets {b : Nat} {w : World} {t : TypeId} {cs : Array Value} (l : List (Nat × Value)) (h : Blk w b t cs) : Blk (setsAt b l w) b t (l.foldl (fun c p => c.setIfInBounds p.1 p.2) cs) := by
  induction l generalizing w cs with
  | nil => exact h
  | cons p l ih => exact ih (h.set_ p.1 p.2)
theorem Out.setsS {S : Nat → Prop} {w w1 : World} {b : Nat} (l : List (Nat × Value)) (h : Out S w w1) (hb : S b) : Out S w (setsAt b l w1) := by
  induction l generalizing w1 with
  | nil => exact h
  | cons p l ih => exact ih (h.trans (Out.setCell (p := ⟨b, p.1, none⟩) hb p.2) fun _ _ x => x)
/-- a slice of the call's own, one of it written -/
theorem GOwn.setsG {α : Type} [Enc α] {t : TypeId} {w : World} {base g n c i : Nat} {es : List α} (h : GOwn t w base (some ⟨g, 0, none⟩) n c es) (x : α) (hi : i < n) : GOwn t (setsAt g (cellsAt i x) w) base (some ⟨g, 0, none⟩) n c (es.set i x) := by
  have hc := h.cap_le
  obtain ⟨g', cur, e1, hbg, hb, hs, hnc, ht⟩ := gown_at' h (by omega)
  injection e1 with e1
  injection e1 with e1
  subst e1
  have hl : (gcells (es.set i x)).length = (gcells es).length := by rw [gcells_length, gcells_length, List.length_set]
  have hl2 : (gcells es).length = n * Enc.k α := by rw [gcells_length, h.1]
  refine ⟨by simpa using h.1, by rw [hl, hl2], .inr ⟨g, c, _, rfl, hbg, hb.sets (cellsAt i x), hnc, hc.2, by rw [size_sets]; exact hs, ?_⟩⟩
  rw [toList_sets, take_sets, ← hl2, ht, gcells_sets es i x (by rw [h.1]; exact hi)]
abbrev PR (w : World) (base g n c : Nat) (es : List Pl) : Prop := GOwn 60 w base (some ⟨g, 0, none⟩) n c es
/-- what the walk wants of the p-th -/
structure At5 (w : World) (g p : Nat) (x : Pl) : Prop where
  c0 : w.cell? ⟨g, p * 5, none⟩ = some (.bool x.a.front)
  c1 : w.cell? ⟨g, p * 5 + 1, none⟩ = some (.int .i64 x.a.id.epoch)
  c2 : w.cell? ⟨g, p * 5 + 2, none⟩ = some (.int .i64 x.a.id.rep)
  c3 : w.cell? ⟨g, p * 5 + 3, none⟩ = some (.int .i64 x.a.id.num)
  c4 : w.cell? ⟨g, p * 5 + 4, none⟩ = some (.int .i64 x.p)
  f : ∀ j, w.frozen? ⟨g, p * 5 + j, none⟩ = false
theorem PR.lt {w : World} {base g n c p : Nat} {es : List Pl} {x : Pl} (h : PR w base g n c es) (hx : es[p]? = some x) : p < n ∧ base ≤ g ∧ g < w.heap.size := by
  have hp : p < n := by
    have := (List.getElem?_eq_some_iff.1 hx).1
    rw [h.1] at this
    exact this
  obtain ⟨g', cur, e1, hbg, hb, hs, hnc, ht⟩ := gown_at' h (by omega)
  injection e1 with e1
  injection e1 with e1
  subst e1
  exact ⟨hp, hbg, hb.lt⟩
theorem PR.at5 {w : World} {base g n c p : Nat} {es : List Pl} {x : Pl} (h : PR w base g n c es) (hx : es[p]? = some x) : At5 w g p x := by
  have hp : p < n := (h.lt hx).1
  obtain ⟨g', cur, e1, hbg, hb, hs, hnc, ht⟩ := gown_at' h (by omega)
  injection e1 with e1
  injection e1 with e1
  subst e1
  have hc : ∀ j u, (Enc.cells x)[j]? = some u → w.cell? ⟨g, p * 5 + j, none⟩ = some u := by
    intro j u hu
    have hj : j < 5 := by
      have := (List.getElem?_eq_some_iff.1 hu).1
      rwa [Enc.len] at this
    have h1 : (gcells es)[p * 5 + j]? = some u := (gcells_at hx (j := j) hj).trans hu
    rw [hb.cell, ← Array.getElem?_toList]
    rw [← ht, List.getElem?_take] at h1
    split at h1
    · exact h1
    · cases h1
  exact ⟨hc 0 _ rfl, hc 1 _ rfl, hc 2 _ rfl, hc 3 _ rfl, hc 4 _ rfl, fun j => hb.frozen _⟩
theorem sets5 (W : World) (g p : Nat) (x : Pl) : setsAt g (cellsAt p x) W = ((((((W).setCell ⟨g, p * 5, none⟩ (.bool x.a.front)).setCell ⟨g, p * 5 + 1, none⟩ (.int .i64 x.a.id.epoch)).setCell ⟨g, p * 5 + 2, none⟩ (.int .i64 x.a.id.rep)).setCell ⟨g, p * 5 + 3, none⟩ (.int .i64 x.a.id.num)).setCell ⟨g, p * 5 + 4, none⟩ (.int .i64 x.p)) := rfl
theorem PR.set5 {w : World} {base g n c p : Nat} {es : List Pl} (h : PR w base g n c es) (x : Pl) (hp : p < n) : PR ((((((w).setCell ⟨g, p * 5, none⟩ (.bool x.a.front)).setCell ⟨g, p * 5 + 1, none⟩ (.int .i64 x.a.id.epoch)).setCell ⟨g, p * 5 + 2, none⟩ (.int .i64 x.a.id.rep)).setCell ⟨g, p * 5 + 3, none⟩ (.int .i64 x.a.id.num)).setCell ⟨g, p * 5 + 4, none⟩ (.int .i64 x.p)) base g n c (es.set p x) := by
  rw [← sets5]
  exact h.setsG x hp
theorem PR.drew {w : World} {base g n c : Nat} {es : List Pl} (h : PR w base g n c es) : PR w.drew base g n c es := GOwn.step h (Below.refl _ _).drew
theorem Out.set5 {w W : World} {g : Nat} (h : Out (fun k => k = g) w W) (p : Nat) (x : Pl) : Out (fun k => k = g) w ((((((W).setCell ⟨g, p * 5, none⟩ (.bool x.a.front)).setCell ⟨g, p * 5 + 1, none⟩ (.int .i64 x.a.id.epoch)).setCell ⟨g, p * 5 + 2, none⟩ (.int .i64 x.a.id.rep)).setCell ⟨g, p * 5 + 3, none⟩ (.int .i64 x.a.id.num)).setCell ⟨g, p * 5 + 4, none⟩ (.int .i64 x.p)) := by
  rw [← sets5]
  exact Out.setsS _ h rfl
theorem Out.drewS {S : Nat → Prop} {w W : World} (h : Out S w W) : Out S w W.drew := h.trans Out.drew fun _ _ h => h
end Go.Proofs.YtnpbbidiloahdaaDoor
namespace Go.Proofs.YtnpbbidiloahdaaDoor
set_option linter.unusedSimpArgs false
set_option linter.unusedVariables false
open Go Go.RowKit
theorem set_mid {α : Type} (A B : List α) (x y : α) : (A ++ x :: B).set A.length y = A ++ y :: B := by simp
theorem get_mid {α : Type} (A B : List α) (x : α) : (A ++ x :: B)[A.length]? = some x := by simp
theorem drop_at {α : Type} {l : List α} {k : Nat} {x : α} (h : l[k]? = some x) : l.drop k = x :: l.drop (k + 1) := by
  obtain ⟨hk, rfl⟩ := List.getElem?_eq_some_iff.1 h
  exact List.drop_eq_getElem_cons hk
theorem take_at {α : Type} {l : List α} {k : Nat} {x : α} (h : l[k]? = some x) : l.take (k + 1) = l.take k ++ [x] := by rw [List.take_add_one, h]; rfl
def swk {α : Type} (P X M Y Q : List α) (k : Nat) : List α := P ++ (Y.take k ++ (X.drop k ++ (M ++ (X.take k ++ (Y.drop k ++ Q)))))
theorem swk_zero {α : Type} (P X M Y Q : List α) : swk P X M Y Q 0 = P ++ (X ++ (M ++ (Y ++ Q))) := by simp [swk]
theorem swk_all {α : Type} {P X M Y Q : List α} (h : X.length = Y.length) : swk P X M Y Q X.length = P ++ (Y ++ (M ++ (X ++ Q))) := by
  unfold swk
  rw [List.drop_length, List.take_length, h, List.drop_length, List.take_length]
  simp
theorem swk_step {α : Type} {P X M Y Q : List α} {k : Nat} {x y : α} (h : X.length = Y.length) (hx : X[k]? = some x) (hy : Y[k]? = some y) :
    (swk P X M Y Q k)[P.length + k]? = some x ∧ (swk P X M Y Q k)[P.length + (X.length + M.length) + k]? = some y ∧ ((swk P X M Y Q k).set (P.length + k) y).set (P.length + (X.length + M.length) + k) x = swk P X M Y Q (k + 1) := by
  have hk := (List.getElem?_eq_some_iff.1 hx).1
  have e1 : swk P X M Y Q k = (P ++ Y.take k) ++ x :: (X.drop (k + 1) ++ (M ++ (X.take k ++ (Y.drop k ++ Q)))) := by
    unfold swk
    rw [drop_at hx]
    simp
  have l1 : (P ++ Y.take k).length = P.length + k := by simp; omega
  have e2 : swk P X M Y Q k = (P ++ (Y.take k ++ (X.drop k ++ (M ++ X.take k)))) ++ y :: (Y.drop (k + 1) ++ Q) := by
    unfold swk
    rw [drop_at hy]
    simp
  have l2 : (P ++ (Y.take k ++ (X.drop k ++ (M ++ X.take k)))).length = P.length + (X.length + M.length) + k := by simp; omega
  have e3 : (P ++ Y.take k) ++ y :: (X.drop (k + 1) ++ (M ++ (X.take k ++ (Y.drop k ++ Q)))) = (P ++ (Y.take k ++ (y :: (X.drop (k + 1) ++ (M ++ X.take k))))) ++ y :: (Y.drop (k + 1) ++ Q) := by
    rw [drop_at hy]
    simp
  have l3 : (P ++ (Y.take k ++ (y :: (X.drop (k + 1) ++ (M ++ X.take k))))).length = P.length + (X.length + M.length) + k := by simp; omega
  refine ⟨by rw [e1, ← l1]; exact get_mid _ _ _, by rw [e2, ← l2]; exact get_mid _ _ _, ?_⟩
  rw [e1, ← l1, set_mid, e3, ← l3, set_mid]
  unfold swk
  rw [take_at hx, take_at hy]
  simp
set_option maxRecDepth 50000 in
set_option maxHeartbeats 4000000 in
theorem swapRange_any (w : World) (base g n c a b m : Nat) (fv : Value) (P X M Y Q : List Pl) (h : PR w base g n c (P ++ (X ++ (M ++ (Y ++ Q))))) (hb : base ≤ w.heap.size) (hn : n ≤ 1048576) (ha : a = P.length) (hX : X.length = m) (hY : Y.length = m) (hbm : b = a + (m + M.length)) :
    Calls Tryd.prog 88 #[.slice (some ⟨g, 0, none⟩) n c, .int .i64 a, .int .i64 b, .int .i64 m, fv] w fun e w' => e = .returned (.tuple #[]) ∧ PR w' base g n c (P ++ (Y ++ (M ++ (X ++ Q)))) ∧ Out (fun k => k = g) w w' := by
  have hl := h.1
  simp only [List.length_append] at hl
  have h0 : PR w base g n c (swk P X M Y Q 0) := by rw [swk_zero]; exact h
  have H0 := hid h0
  have HA := hid (And.intro ha (And.intro hX (And.intro hY (And.intro hbm hl))))
  clear h h0 ha hX hY hbm hl
  go_enter Tryd.func88, Tryd.ntmps88
  repeat' (first | go_values | go_skip | go_guarded | go_step | go_upon | go_back)
  go_loopw [10] (fun i wr => ∃ k : Nat, i = .int .i64 k ∧ k ≤ m ∧ PR wr base g n c (swk P X M Y Q k) ∧ Out (fun k => k = g) w wr) (fun i _ => m - (intOf i).toNat)
  case atStart => exact ⟨0, rfl, Nat.zero_le _, H0.out, Out.refl _ _⟩
  case round =>
    clear H0
    obtain ⟨k, rfl, hk, hown, hO⟩ := hrel
    by_cases hlt : k < m
    · obtain ⟨ha, hX, hY, hbm, hl⟩ := HA.out
      obtain ⟨x, hx⟩ : ∃ x, X[k]? = some x := ⟨_, List.getElem?_eq_getElem (by omega)⟩
      obtain ⟨y, hy⟩ : ∃ y, Y[k]? = some y := ⟨_, List.getElem?_eq_getElem (by omega)⟩
      obtain ⟨ex, ey, es⟩ := swk_step (P := P) (M := M) (Q := Q) (hX.trans hY.symm) hx hy
      rw [← ha] at ex
      rw [hX, ← ha, ← hbm] at ey es
      obtain ⟨p, hp⟩ : ∃ p, p = a + k := ⟨_, rfl⟩
      obtain ⟨q, hq⟩ : ∃ q, q = b + k := ⟨_, rfl⟩
      rw [← hp] at ex es
      rw [← hq] at ey es
      have hown' : PR wr.drew base g n c (swk P X M Y Q k) := PR.drew hown
      have xp := hown'.at5 ex
      have yq := hown'.at5 ey
      obtain ⟨hpn, hbg, hgl⟩ := hown'.lt ex
      have hqn := (hown'.lt ey).1
      have hpa : (a : Int) + (k : Int) = (p : Int) := by omega
      have hqa : (b : Int) + (k : Int) = (q : Int) := by omega
      have hpI : (p : Int) < n := by omega
      have hqI : (q : Int) < n := by omega
      have hkm : (k : Int) < m := by omega
      have hpq : ¬ p = q := by omega
      have hpq2 : ¬ q = p := by omega
      have hpq3 : ¬ p * 5 = q * 5 := by omega
      have hpq4 : ¬ q * 5 = p * 5 := by omega
      have xp' := hown.at5 ex
      have yq' := hown.at5 ey
      have z0 := xp.c0; have z1 := xp.c1; have z2 := xp.c2; have z3 := xp.c3; have z4 := xp.c4; have f0 := xp.f 0; have f1 := xp.f 1; have f2 := xp.f 2; have f3 := xp.f 3; have f4 := xp.f 4; rw [Nat.add_zero] at f0
      have y0 := yq.c0; have y1 := yq.c1; have y2 := yq.c2; have y3 := yq.c3; have y4 := yq.c4; have e0 := yq.f 0; have e1 := yq.f 1; have e2 := yq.f 2; have e3 := yq.f 3; have e4 := yq.f 4; rw [Nat.add_zero] at e0
      have u0 := xp'.c0; have u1 := xp'.c1; have u2 := xp'.c2; have u3 := xp'.c3; have u4 := xp'.c4; have r0 := xp'.f 0; have r1 := xp'.f 1; have r2 := xp'.f 2; have r3 := xp'.f 3; have r4 := xp'.f 4; rw [Nat.add_zero] at r0
      have v0 := yq'.c0; have v1 := yq'.c1; have v2 := yq'.c2; have v3 := yq'.c3; have v4 := yq'.c4; have s0 := yq'.f 0; have s1 := yq'.f 1; have s2 := yq'.f 2; have s3 := yq'.f 3; have s4 := yq'.f 4; rw [Nat.add_zero] at s0
      have Hes := hid es
      have Hw := hid hown
      have Hq := hid (And.intro hp hq)
      clear xp yq xp' yq' ex ey es hown hown' hx hy hp hq ha hX hY hbm hl
      repeat' (first | ((with_reducible refine region_at 3 ?_); refine wp_region_order [(0, true, false), (1, true, false), (2, true, false), (3, true, false), (4, true, false), (5, true, false), (6, true, false), (7, true, false), (8, true, false), (9, true, false), (10, true, false), (11, true, false), (12, true, false), (13, true, false), (14, true, false), (15, true, false), (16, true, false), (17, true, false), (18, true, false), (19, true, false), (20, true, false), (21, false, true), (22, true, false), (23, false, true)] (by kernel_rfl) (by kernel_rfl) (by kernel_rfl) rfl rfl ?_) | (with_reducible refine Keep.last ?_) | (with_reducible refine Keep.below (by assumption) ?_) | (with_reducible refine Keep.kept (by assumption) ?_) | (with_reducible refine Keep.alloc ?_) | (with_reducible refine Keep.same ?_) | ((with_reducible refine WpH.here ?_); first | (refine WpH.nil ?_; refine NoP.normal ?_) | (refine WpH.load (by rfl) (by rfl) (by go_simp; rfl) ?_; simp only [Act.put, List.setIfInBounds_toArray, List.set_cons_zero, List.set_cons_succ]) | (refine WpH.loadT (by rfl) (by rfl) (by go_simp; rfl) (by rintro _ _ ⟨⟩; exact ⟨_, _, _, _, _, _, by rfl, by assumption, by assumption⟩) ?_; simp only [Act.put, List.setIfInBounds_toArray, List.set_cons_zero, List.set_cons_succ]) | (refine WpH.pure (by rfl) (fun w_ => by go_simp; (try go_bits); rfl) ?_; simp only [Act.put, List.setIfInBounds_toArray, List.set_cons_zero, List.set_cons_succ]) | (refine WpH.wild1 (by rfl) (fun _ _ => ?_)) | (refine WpH.skip (by rfl) ?_; simp only [Act.put, List.setIfInBounds_toArray, List.set_cons_zero, List.set_cons_succ])) | go_values | go_skip | go_guarded | go_step | go_upon | go_back)
      skip
      go_roundw
      case rel => exact ⟨k + 1, by go_num, by omega, by rw [← Hes.out]; exact PR.drew ((Hw.out.set5 y hpn).set5 x hqn), ((hO.set5 p y).set5 q x).drewS⟩
      case measure => simp [intOf]; omega
    · obtain rfl : k = m := by omega
      have Hw := hid hown
      clear hown
      repeat' (first | (with_reducible refine Keep.last ?_) | (with_reducible refine Keep.below (by assumption) ?_) | (with_reducible refine Keep.kept (by assumption) ?_) | (with_reducible refine Keep.alloc ?_) | (with_reducible refine Keep.same ?_) | ((with_reducible refine WpH.here ?_); first | (refine WpH.nil ?_; refine NoP.normal ?_) | (refine WpH.load (by rfl) (by rfl) (by go_simp; rfl) ?_; simp only [Act.put, List.setIfInBounds_toArray, List.set_cons_zero, List.set_cons_succ]) | (refine WpH.loadT (by rfl) (by rfl) (by go_simp; rfl) (by rintro _ _ ⟨⟩; exact ⟨_, _, _, _, _, _, by rfl, by assumption, by assumption⟩) ?_; simp only [Act.put, List.setIfInBounds_toArray, List.set_cons_zero, List.set_cons_succ]) | (refine WpH.pure (by rfl) (fun w_ => by go_simp; (try go_bits); rfl) ?_; simp only [Act.put, List.setIfInBounds_toArray, List.set_cons_zero, List.set_cons_succ]) | (refine WpH.wild1 (by rfl) (fun _ _ => ?_)) | (refine WpH.skip (by rfl) ?_; simp only [Act.put, List.setIfInBounds_toArray, List.set_cons_zero, List.set_cons_succ])) | go_values | go_skip | go_guarded | go_step | go_upon | go_back)
      skip
      go_end0
      refine ⟨rfl, ?_, hO⟩
      have := Hw.out
      obtain ⟨ha, hX, hY, hbm, hl⟩ := HA.out
      rw [← hX, swk_all (hX.trans hY.symm)] at this
      exact this
set_option maxRecDepth 50000 in
set_option maxHeartbeats 4000000 in
theorem rotate_any (w : World) (base g n c a m b : Nat) (fv : Value) (P X Y Q : List Pl) (h : PR w base g n c (P ++ (X ++ (Y ++ Q)))) (hb : base ≤ w.heap.size) (hn : n ≤ 1048576) (ha : a = P.length) (hm : m = a + X.length) (hbm : b = m + Y.length) (hX0 : 0 < X.length) (hY0 : 0 < Y.length) :
    Calls Tryd.prog 81 #[.slice (some ⟨g, 0, none⟩) n c, .int .i64 a, .int .i64 m, .int .i64 b, fv] w fun e w' => e = .returned (.tuple #[]) ∧ PR w' base g n c (P ++ (Y ++ (X ++ Q))) ∧ Out (fun k => k = g) w w' := by
  have hl := h.1
  simp only [List.length_append] at hl
  have H0 := hid h
  have HA := hid (And.intro ha (And.intro hm (And.intro hbm (And.intro hX0 (And.intro hY0 hl)))))
  have hma : (m : Int) - a = ((X.length : Nat) : Int) := by omega
  have hbmI : (b : Int) - m = ((Y.length : Nat) : Int) := by omega
  have hmB : m ≤ 1048576 := by omega
  have hbB : b ≤ 1048576 := by omega
  have haB : a ≤ 1048576 := by omega
  obtain ⟨x0, hx0⟩ : ∃ x0, x0 = X.length := ⟨_, rfl⟩
  obtain ⟨y0, hy0⟩ : ∃ y0, y0 = Y.length := ⟨_, rfl⟩
  rw [← hx0] at hma
  rw [← hy0] at hbmI
  have HX := hid (And.intro hx0 hy0)
  clear h ha hm hbm hX0 hY0 hl hx0 hy0
  go_enter Tryd.func81, Tryd.ntmps81
  repeat' (first | go_values | go_skip | go_guarded | go_step | go_upon | go_back)
  go_loopw [10, 11] (fun i j wr => ∃ (x y : Nat) (P' X' Y' Q' : List Pl), i = .int .i64 x ∧ j = .int .i64 y ∧ x = X'.length ∧ y = Y'.length ∧ 0 < x ∧ 0 < y ∧ P' ++ (Y' ++ (X' ++ Q')) = P ++ (Y ++ (X ++ Q)) ∧ P'.length + x = m ∧ PR wr base g n c (P' ++ (X' ++ (Y' ++ Q'))) ∧ Out (fun k => k = g) w wr) (fun i j _ => (intOf i).toNat + (intOf j).toNat)
  case atStart =>
    obtain ⟨ha, hm, hbm, hX0, hY0, hl⟩ := HA.out
    obtain ⟨hx0, hy0⟩ := HX.out
    subst hx0 hy0
    exact ⟨_, _, P, X, Y, Q, rfl, rfl, rfl, rfl, hX0, hY0, rfl, by omega, H0.out, Out.refl _ _⟩
  case round =>
    clear H0 HA HX hma hbmI
    obtain ⟨i, j, P', X', Y', Q', rfl, rfl, hi, hj, hX0, hY0, he, hm, hown, hO⟩ := hrel
    have hl := hown.1
    simp only [List.length_append] at hl
    obtain ⟨p, hp⟩ : ∃ p, p = P'.length := ⟨_, rfl⟩
    have hpI : (m : Int) - (i : Int) = (p : Int) := by omega
    have hiB : i ≤ 1048576 := by omega
    have hjB : j ≤ 1048576 := by omega
    have Hw := hid hown
    rcases Nat.lt_trichotomy i j with hij | hij | hij
    · -- the right part is longer
      have hle : ¬ (i : Int) = j := by omega
      have hgt : ¬ (i : Int) > j := by omega
      obtain ⟨q, hq⟩ : ∃ q, q = m + j - i := ⟨_, rfl⟩
      obtain ⟨U, V, hUV, hU, hV⟩ : ∃ U V, Y' = U ++ V ∧ U.length = j - i ∧ V.length = i := ⟨Y'.take (j - i), Y'.drop (j - i), (List.take_append_drop _ _).symm, by simp; omega, by simp; omega⟩
      have HS := hid (swapRange_any wr base g n c p q i fv P' X' U V Q' (by rw [hUV] at hown; simpa using hown) (by have := hO.size; omega) hn hp hi.symm hV (by omega))
      have hmj : (m : Int) + (j : Int) - (i : Int) = (q : Int) := by omega
      obtain ⟨r, hr⟩ : ∃ r, r = m + j := ⟨_, rfl⟩
      have hmj1 : (m : Int) + (j : Int) = (r : Int) := by omega
      have hrB : r ≤ 2097152 := by omega
      have hrq : (r : Int) - (i : Int) = (q : Int) := by omega
      obtain ⟨d, hd⟩ : ∃ d, d = j - i := ⟨_, rfl⟩
      have hdI : (j : Int) - (i : Int) = (d : Int) := by omega
      have Hf := hid (And.intro hi (And.intro hj (And.intro he (And.intro hm (And.intro hp (And.intro hq (And.intro hUV (And.intro hU (And.intro hV hd)))))))))
      clear hi hj he hm hp hq hUV hU hV hd hr hmj hown hl
      repeat' (first | (go_at_call 88; go_must ((with_reducible refine Calls.mono HS.out ?_); rintro _ w2 ⟨rfl, hown2, hO2⟩; dsimp only)) | go_values | go_skip | go_guarded | go_step | go_upon | go_back)
      skip
      go_roundw
      case rel =>
        obtain ⟨hi, hj, he, hm, hp, hq, hUV, hU, hV, hd⟩ := Hf.out
        refine ⟨i, d, P', V, U, X' ++ Q', rfl, by go_num, hV.symm, by omega, by omega, by omega, ?_, by omega, by simpa using hown2, hO.trans hO2 fun _ _ h => h⟩
        rw [← he, hUV]
        simp
      case measure => simp [intOf]; omega
    · -- alike
      subst hij
      have HS := hid (swapRange_any wr base g n c p m i fv P' X' [] Y' Q' (by simpa using hown) (by have := hO.size; omega) hn hp hi.symm hj.symm (by simp; omega))
      have Hf := hid (And.intro hi (And.intro hj he))
      clear hi hj he hm hp hown hl
      repeat' (first | (go_at_call 88; go_must ((with_reducible refine Calls.mono HS.out ?_); rintro _ w2 ⟨rfl, hown2, hO2⟩; dsimp only)) | go_values | go_skip | go_guarded | go_step | go_upon | go_back)
      skip
      go_end0
      obtain ⟨hi, hj, he⟩ := Hf.out
      refine ⟨rfl, ?_, hO.trans hO2 fun _ _ h => h⟩
      rw [← he]
      simpa using hown2
    · -- the left part is longer
      have hle : ¬ (i : Int) = j := by omega
      have hgt : (i : Int) > j := by omega
      obtain ⟨U, V, hUV, hU, hV⟩ : ∃ U V, X' = U ++ V ∧ U.length = j ∧ V.length = i - j := ⟨X'.take j, X'.drop j, (List.take_append_drop _ _).symm, by simp; omega, by simp; omega⟩
      have HS := hid (swapRange_any wr base g n c p m j fv P' U V Y' Q' (by rw [hUV] at hown; simpa using hown) (by have := hO.size; omega) hn hp hU hj.symm (by omega))
      obtain ⟨d, hd⟩ : ∃ d, d = i - j := ⟨_, rfl⟩
      have hdI : (i : Int) - (j : Int) = (d : Int) := by omega
      have Hf := hid (And.intro hi (And.intro hj (And.intro he (And.intro hm (And.intro hp (And.intro hUV (And.intro hU (And.intro hV hd))))))))
      clear hi hj he hm hp hUV hU hV hd hown hl
      repeat' (first | (go_at_call 88; go_must ((with_reducible refine Calls.mono HS.out ?_); rintro _ w2 ⟨rfl, hown2, hO2⟩; dsimp only)) | go_values | go_skip | go_guarded | go_step | go_upon | go_back)
      skip
      go_roundw
      case rel =>
        obtain ⟨hi, hj, he, hm, hp, hUV, hU, hV, hd⟩ := Hf.out
        refine ⟨d, j, P' ++ Y', V, U, Q', by go_num, rfl, by omega, hU.symm, by omega, by omega, ?_, by simp; omega, by simpa using hown2, hO.trans hO2 fun _ _ h => h⟩
        rw [← he, hUV]
        simp
      case measure => simp [intOf]; omega
end Go.Proofs.YtnpbbidiloahdaaDoor
