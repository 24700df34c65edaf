/- append of elements to a slice that the call has made: what it leaves. Conditions: the appended slice reads as elements; all together fewer than 2^40. Rows of whatever is kept in cells of one kind each: a slice that reads as a list; one that is the call's own; what append leaves. Conditions: what is appended reads as a list; all together fewer than 2^40. -/
import Derived.Test.YtfihjajllfihjaaGreatDoorP2
namespace Go.Proofs.YtfihjajllfihjaaGreatDoor
set_option linter.unusedSimpArgs false
set_option linter.unusedVariables false
open Go Go.RowKit

/-- the slice is the call's own (nil, or at the head of a block from base on) and holds es -/
def Own (w : World) (base : Nat) (A : Option Addr) (n c : Nat) (es : List El) : Prop := es.length = n ∧ w.ownsRow base 32 5 (.slice A n c) n (cellsOf es)
section
variable {w w' : World} {base : Nat} {A : Option Addr} {n c : Nat} {es : List El}
theorem Own.nil (w : World) (base : Nat) : Own w base none 0 0 [] := ⟨rfl, World.ownsRow_nil w base _ 5⟩
theorem Own.row (h : Own w base A n c es) {S : Nat → Prop} (hS : ∀ b, base ≤ b → b < w.heap.size → S b) : Row w S A n c es := by
  obtain ⟨hl, h⟩ := h
  have h0 : Row w (fun b => base ≤ b ∧ b < w.heap.size) A n c es := by
    rcases h.2 with ⟨e, h0⟩ | ⟨g, cap, cur, e, hbg, hh, hn, hm, _, _⟩
    · injection e with e1 e2 e3
      subst e3
      exact ⟨hl, by omega, by unfold maxLen; omega, fun h' => by omega⟩
    · injection e with e1 e2 e3
      subst e1 e3
      refine ⟨hl, hn, hm, fun h0 => ⟨g, 0, rfl, ⟨hbg, lt_of_heap' hh⟩, fun j u hu => ?_⟩⟩
      have := h.cells (g := g) rfl j u hu
      rw [show ((⟨g, 0, none⟩ : Addr).add j) = ⟨g, 0 + j, none⟩ from by unfold Addr.add; split <;> simp_all] at this
      exact this
  exact h0.more fun b _ h => hS b h.1 h.2
theorem Own.block (h : Own w base A n c es) : ∀ a, A = some a → base ≤ a.block ∧ a.block < w.heap.size := by
  intro a ha
  exact h.2.lt a.block (by rw [ha]; rfl)
theorem Own.head {a : Addr} (h : Own w base (some a) n c es) : ∃ g, a = ⟨g, 0, none⟩ := by
  rcases h.2.2 with ⟨e, _⟩ | ⟨g, cap, cur, e, _⟩
  · injection e with e1 e2 e3
    cases e1
  · injection e with e1 e2 e3
    injection e1 with e1
    exact ⟨g, e1⟩
theorem Own.keep {S : Nat → Prop} (h : Own w base A n c es) (hk : Same S w w') (hS : ∀ a, A = some a → S a.block) : Own w' base A n c es := by
  refine ⟨h.1, h.2.1, ?_⟩
  rcases h.2.2 with h0 | ⟨g, cap, cur, e, hbg, hh, r⟩
  · exact .inl h0
  · refine .inr ⟨g, cap, cur, e, hbg, ?_, r⟩
    have hA : A = some ⟨g, 0, none⟩ := by injection e
    exact (hk g (hS _ hA) (lt_of_heap' hh)).trans hh
theorem Own.mono {base' : Nat} (h : Own w base A n c es) (hb : base' ≤ base) : Own w base' A n c es := by
  refine ⟨h.1, h.2.1, ?_⟩
  rcases h.2.2 with h0 | ⟨g, cap, cur, e, hbg, hh, r⟩
  · exact .inl h0
  · exact .inr ⟨g, cap, cur, e, by omega, hh, r⟩
theorem Own.cap_le (h : Own w base A n c es) : n ≤ c ∧ c ≤ maxLen := by
  rcases h.2.2 with ⟨e, h0⟩ | ⟨g, cap, cur, e, hbg, hh, hn, hm, _⟩
  · injection e with e1 e2 e3
    subst e3
    exact ⟨by omega, by unfold maxLen; omega⟩
  · injection e with e1 e2 e3
    subst e3
    exact ⟨hn, hm⟩
end

theorem Tryz.infoEl : (Tryz.prog.info? 32).map (fun i => (i.zero, i.size, i.bytes)) = some (some (.agg #[.int .i64 0, .int .i64 0, .int .i64 0, .int .i32 0, .int .i64 0]), 5, 40) := by kernel_rfl

theorem run_append_el (w : World) (ty : TypeId) (base : Nat) (A B : Option Addr) (n c m d : Nat) (es fs : List El) (S : Nat → Prop) (hown : Own w base A n c es) (hrow : Row w S B m d fs) (hb : base ≤ w.heap.size) (hbd : n + m ≤ 1099511627776) :
    ∃ A' c' w', (Builtin.append_ #[22, 22] ty #[.slice A n c, .slice B m d]).run Tryz.prog w = .ok (.slice A' (n + m) c') w' ∧ Own w' base A' (n + m) c' (es ++ fs) ∧ w.grownBy w' (A.map (·.block)) ∧
      (A' = A ∨ ∃ g, A' = some ⟨g, 0, none⟩ ∧ w.heap.size ≤ g) := by
  obtain ⟨i0, hi0, hz0, hz1, hz2⟩ := info_parts Tryz.infoEl
  rcases Nat.eq_zero_or_pos m with h0 | h0
  · subst h0
    have hfs : fs = [] := List.eq_nil_of_length_eq_zero hrow.1
    subst hfs
    refine ⟨A, c, w, ?_, by simpa using hown, ⟨rfl, rfl, rfl, Nat.le_refl _, fun _ _ _ => rfl⟩, .inl rfl⟩
    have hc := hown.cap_le.1
    rcases A with _ | a <;> rcases B with _ | b <;>
      simp [Builtin.append_, run_underlying Tryz.underlying22, sizeOf, typeInfo, hi0, Builtin.lenOf, Builtin.firstCells, loadCells, loadCellsFrom, storeCells, hc]
  · obtain ⟨b, off, rfl, _, hcell⟩ := hrow.2.2.2 h0
    have hcells : ∀ j u, (cellsOf fs)[j]? = some u → w.cell? ((⟨b, off, none⟩ : Addr).add j) = some u := fun j u hu => by
      rw [show ((⟨b, off, none⟩ : Addr).add j) = ⟨b, off + j, none⟩ from by unfold Addr.add; split <;> simp_all]
      exact hcell j u hu
    have hmx : n + m ≤ maxLen := by have : maxLen = 9223372036854775807 := rfl; omega
    have hby : (n + m) * 40 ≤ 140737488355328 := by omega
    obtain ⟨v', w', hrun, h2, h3, h4, h5⟩ := run_append_own_at (P := Tryz.prog) w base _ ty _ i0 _ 5 40 Tryz.underlying22 hi0 hz0 hz1 hz2 rfl (by omega) _ n (cellsOf es) hown.2 ⟨b, off, none⟩ m d (cellsOf fs) (by rw [cellsOf_length, hrow.1]) hcells (cellsOf_oneCell fs)
      hmx hby hb
    have hform : ∃ g cap, v' = .slice (some ⟨g, 0, none⟩) (n + m) cap := by
      rcases h2.2 with ⟨_, h⟩ | ⟨g, cap, cur, hv, _⟩
      · omega
      · exact ⟨g, cap, hv⟩
    obtain ⟨g, cap, rfl⟩ := hform
    have hob : (Value.slice A n c).ownBlock = A.map (·.block) := by cases A <;> rfl
    refine ⟨_, cap, w', hrun, ⟨by simp [hown.1, hrow.1], by rw [cellsOf_append]; exact h2⟩, by rw [← hob]; exact h3, ?_⟩
    rcases h5 with h5 | h5
    · cases A with
      | none => simp [Value.ownBlock] at h5
      | some a =>
        left
        obtain ⟨g', rfl⟩ := hown.head
        have : g = g' := by simpa [Value.ownBlock] using h5
        rw [this]
    · right
      have : g = w.heap.size := by simpa [Value.ownBlock] using h5
      exact ⟨g, rfl, by omega⟩

/-- append at its operation. Behind it: the new slice is the call's own; all blocks but the old slice's own stand; it lies in the old one's block or in a new one -/
theorem wp_append_el {a : Act} {K : Act → World → Prop} {Q : Exit → Act → World → Prop} {w : World} {dst : Option Tmp} {s x : Operand} {ty : TypeId} {pos : String} {after : Array Edge} {guard : Option (Nat × Bool)}
    (base : Nat) (A B : Option Addr) (n c m d : Nat) (es fs : List El) (S : Nat → Prop) (hs : a.eval s = .slice A n c) (hx : a.eval x = .slice B m d) (hown : Own w base A n c es) (hrow : Row w S B m d fs) (hb : base ≤ w.heap.size) (hbd : n + m ≤ 1099511627776)
    (h : ∀ A' c' w', Own w' base A' (n + m) c' (es ++ fs) → Below base w w' → Same (fun k => ∀ g, A = some g → g.block ≠ k) w w' → (A' = A ∨ ∃ g, A' = some ⟨g, 0, none⟩ ∧ w.heap.size ≤ g) → w.heap.size ≤ w'.heap.size → K (a.put dst (.slice A' (n + m) c')) w') :
    Oper.wp Tryz.prog ⟨dst, .call ⟨.builtin .append, #[s, x], #[22, 22]⟩, ty, pos, after, guard⟩ a w K Q := by
  obtain ⟨A', c', w', hrun, h2, h3, h4⟩ := run_append_el w ty base A B n c m d es fs S hown hrow hb hbd
  unfold Oper.wp execOp
  simp only [resolve, invoke, builtin, Sem.run_bind, Sem.run_pure, Result.andThen_ok, List.map_toArray, List.map_cons, List.map_nil, hs, hx, hrun]
  refine h A' c' w' h2 ?_ ?_ h4 h3.size
  · refine (Below.refl _ _).grown h3 hb fun k hk => ?_
    cases A with
    | none => cases hk
    | some a =>
      have := hown.block a rfl
      have : a.block = k := by simpa using hk
      omega
  · intro k hk hl
    refine h3.block k hl fun e => ?_
    cases A with
    | none => cases e
    | some a => exact hk a rfl (by simpa using e.symm)
/-- append to nil: a copy -/
theorem wp_append_nil {a : Act} {K : Act → World → Prop} {Q : Exit → Act → World → Prop} {w : World} {dst : Option Tmp} {s x : Operand} {ty : TypeId} {pos : String} {after : Array Edge} {guard : Option (Nat × Bool)}
    (B : Option Addr) (m d : Nat) (fs : List El) (S : Nat → Prop) (hs : a.eval s = .slice none 0 0) (hx : a.eval x = .slice B m d) (hrow : Row w S B m d fs) (hbd : m ≤ 1099511627776)
    (h : ∀ A' c' w', Own w' w.heap.size A' m c' fs → Below w.heap.size w w' → K (a.put dst (.slice A' m c')) w') :
    Oper.wp Tryz.prog ⟨dst, .call ⟨.builtin .append, #[s, x], #[22, 22]⟩, ty, pos, after, guard⟩ a w K Q := by
  refine wp_append_el w.heap.size none B 0 0 m d [] fs S hs hx (Own.nil _ _) hrow (Nat.le_refl _) (by omega) ?_
  intro A' c' w' h1 h2 _ _ _
  rw [Nat.zero_add, List.nil_append] at *
  exact h A' c' w' h1 h2

/-- a look at the goal alone: is it an append of elements? -/
theorem append_here {a : Act} {K : Act → World → Prop} {Q : Exit → Act → World → Prop} {w : World} {dst : Option Tmp} {s x : Operand} {ty : TypeId} {pos : String} {after : Array Edge} {guard : Option (Nat × Bool)}
    (h : Oper.wp Tryz.prog ⟨dst, .call ⟨.builtin .append, #[s, x], #[22, 22]⟩, ty, pos, after, guard⟩ a w K Q) : Oper.wp Tryz.prog ⟨dst, .call ⟨.builtin .append, #[s, x], #[22, 22]⟩, ty, pos, after, guard⟩ a w K Q := h
/-- apart from the block that A points into -/
def Away (A : Option Addr) (b : Nat) : Prop := ∀ a, A = some a → a.block ≠ b
/-- what is kept apart from a slice of the call's own is so behind an append to it -/
theorem IsTree.apart {w w' : World} {ST : Nat → Prop} {A A' : Option Addr} {t : Tr} {p : Option Addr} (h : IsTree w ST t p) (hS : ∀ b, ST b → Away A b) (hs : Same (fun k => ∀ g, A = some g → g.block ≠ k) w w') (hat : A' = A ∨ ∃ g, A' = some ⟨g, 0, none⟩ ∧ w.heap.size ≤ g) :
    IsTree w' (fun b => ST b ∧ Away A' b) t p := by
  have h1 : IsTree w (fun b => ST b ∧ Away A' b) t p := h.more fun b hb hst => ⟨hst, by
    rcases hat with rfl | ⟨g, rfl, hg⟩
    · exact hS b hst
    · intro a ha
      injection ha with ha
      subst ha
      show g ≠ b
      omega⟩
  exact h1.keep (hs.sub fun b hb => hS b hb.1)
theorem Row.apart {w w' : World} {ST : Nat → Prop} {A A' : Option Addr} {B : Option Addr} {n c : Nat} {es : List El} (h : Row w ST B n c es) (hS : ∀ b, ST b → Away A b) (hs : Same (fun k => ∀ g, A = some g → g.block ≠ k) w w') (hat : A' = A ∨ ∃ g, A' = some ⟨g, 0, none⟩ ∧ w.heap.size ≤ g) :
    Row w' (fun b => ST b ∧ Away A' b) B n c es := by
  have h1 : Row w (fun b => ST b ∧ Away A' b) B n c es := h.more fun b hb hst => ⟨hst, by
    rcases hat with rfl | ⟨g, rfl, hg⟩
    · exact hS b hst
    · intro a ha
      injection ha with ha
      subst ha
      show g ≠ b
      omega⟩
  exact h1.keep (hs.sub fun b hb => hS b hb.1)
/-- what there is stands apart from a slice made later -/
theorem IsTree.before {w w' : World} {ST : Nat → Prop} {A : Option Addr} {n c : Nat} {es : List El} {t : Tr} {p : Option Addr} (h : IsTree w ST t p) (hb : Below w.heap.size w w') (ho : Own w' w.heap.size A n c es) : IsTree w' (fun b => ST b ∧ Away A b) t p :=
  (h.more (S' := fun b => ST b ∧ Away A b) fun b hl hst => ⟨hst, fun a ha => by have := (ho.block a ha).1; omega⟩).step hb
theorem Row.before {w w' : World} {ST : Nat → Prop} {A B : Option Addr} {n c m d : Nat} {es fs : List El} (h : Row w ST B m d fs) (hb : Below w.heap.size w w') (ho : Own w' w.heap.size A n c es) : Row w' (fun b => ST b ∧ Away A b) B m d fs :=
  (h.more (S' := fun b => ST b ∧ Away A b) fun b hl hst => ⟨hst, fun a ha => by have := (ho.block a ha).1; omega⟩).step hb
/-- and from one that a later call has left alone -/
theorem Away.fr {w : World} {ST : Nat → Prop} {base : Nat} {A : Option Addr} {n c : Nat} {es : List El} (ho : Own w base A n c es) (hS : ∀ b, ST b → Away A b) : ∀ b, Fr w ST b → Away A b := by
  intro b hb a ha
  rcases hb with hb | hb
  · exact hS b hb a ha
  · have := (ho.block a ha).2
    omega
theorem stop_append {a : Act} {K : Act → World → Prop} {Q : Exit → Act → World → Prop} {w : World} {dst : Option Tmp} {s x : Operand} {ty : TypeId} {pos : String} {after : Array Edge} {guard : Option (Nat × Bool)}
    (h : Stop (Oper.wp Tryz.prog ⟨dst, .call ⟨.builtin .append, #[s, x], #[22, 22]⟩, ty, pos, after, guard⟩ a w K Q)) : Oper.wp Tryz.prog ⟨dst, .call ⟨.builtin .append, #[s, x], #[22, 22]⟩, ty, pos, after, guard⟩ a w K Q := by unfold Stop at h; exact h
end Go.Proofs.YtfihjajllfihjaaGreatDoor
namespace Go.Proofs.YtfihjajllfihjaaGreatDoor
set_option linter.unusedSimpArgs false
set_option linter.unusedVariables false
open Go Go.RowKit

/-- what lies in k cells -/
class Enc (α : Type) where
  k : Nat
  cells : α → List Value
  len : ∀ a, (cells a).length = k
  one : ∀ a, ∀ u ∈ cells a, u.oneCell' = true
variable {α : Type} [Enc α]
def gcells (l : List α) : List Value := l.flatMap Enc.cells
theorem gcells_cons (e : α) (l : List α) : gcells (e :: l) = Enc.cells e ++ gcells l := by simp [gcells]
theorem gcells_append (a b : List α) : gcells (a ++ b) = gcells a ++ gcells b := by simp [gcells]
theorem gcells_length (l : List α) : (gcells l).length = l.length * Enc.k α := by
  induction l with
  | nil => simp [gcells]
  | cons e l ih => rw [gcells_cons, List.length_append, ih, Enc.len, List.length_cons, Nat.succ_mul]; omega
theorem gcells_take (l : List α) (k : Nat) : (gcells l).take (k * Enc.k α) = gcells (l.take k) := by
  induction l generalizing k with
  | nil => simp [gcells]
  | cons e l ih =>
    cases k with
    | zero => simp [gcells]
    | succ k =>
      have hm : (k + 1) * Enc.k α = k * Enc.k α + Enc.k α := Nat.succ_mul _ _
      rw [List.take_succ_cons, gcells_cons, gcells_cons, List.take_append, Enc.len, List.take_of_length_le (by rw [Enc.len]; omega)]
      rw [show (k + 1) * Enc.k α - Enc.k α = k * Enc.k α from by omega, ih]
theorem gcells_drop (l : List α) (k : Nat) : (gcells l).drop (k * Enc.k α) = gcells (l.drop k) := by
  induction l generalizing k with
  | nil => simp [gcells]
  | cons e l ih =>
    cases k with
    | zero => simp
    | succ k =>
      have hm : (k + 1) * Enc.k α = k * Enc.k α + Enc.k α := Nat.succ_mul _ _
      rw [List.drop_succ_cons, gcells_cons, List.drop_append, Enc.len, List.drop_of_length_le (by rw [Enc.len]; omega)]
      rw [show (k + 1) * Enc.k α - Enc.k α = k * Enc.k α from by omega, ih, List.nil_append]
theorem gcells_at {l : List α} {i : Nat} {e : α} (h : l[i]? = some e) {j : Nat} (hj : j < Enc.k α) : (gcells l)[i * Enc.k α + j]? = (Enc.cells e)[j]? := by
  have h1 : ((gcells l).drop (i * Enc.k α))[j]? = (Enc.cells e)[j]? := by
    rw [gcells_drop]
    have hlt : i < l.length := (List.getElem?_eq_some_iff.1 h).1
    have he : l[i] = e := (List.getElem?_eq_some_iff.1 h).2
    rw [List.drop_eq_getElem_cons hlt, he, gcells_cons, List.getElem?_append_left (by rw [Enc.len]; exact hj)]
  rw [← h1, List.getElem?_drop]
theorem gcells_oneCell (l : List α) : ∀ u ∈ gcells l, u.oneCell' = true := by
  intro u hu
  obtain ⟨e, _, hu⟩ := List.mem_flatMap.1 hu
  exact Enc.one e u hu

/-- the slice of n elements and capacity c at A reads as es; its block is in S -/
def GRow (w : World) (S : Nat → Prop) (A : Option Addr) (n c : Nat) (es : List α) : Prop :=
  es.length = n ∧ n ≤ c ∧ c ≤ maxLen ∧ (0 < n → ∃ b off, A = some ⟨b, off, none⟩ ∧ S b ∧ b < w.heap.size ∧ ∀ j u, (gcells es)[j]? = some u → w.cell? ⟨b, off + j, none⟩ = some u)
section
variable {w w' : World} {S S' : Nat → Prop} {A : Option Addr} {n c : Nat} {es : List α}
theorem GRow.keep (h : GRow w S A n c es) (hsz : w.heap.size ≤ w'.heap.size) (hk : Same S w w') : GRow w' S A n c es := by
  refine ⟨h.1, h.2.1, h.2.2.1, fun hn => ?_⟩
  obtain ⟨b, off, e, hs, hb, hc⟩ := h.2.2.2 hn
  exact ⟨b, off, e, hs, Nat.lt_of_lt_of_le hb hsz, fun j u hu => hk.cell (a := ⟨b, off + j, none⟩) hs (hc j u hu)⟩
theorem GRow.more (h : GRow w S A n c es) (hs : ∀ b, b < w.heap.size → S b → S' b) : GRow w S' A n c es := by
  refine ⟨h.1, h.2.1, h.2.2.1, fun hn => ?_⟩
  obtain ⟨b, off, e, hs', hb, hc⟩ := h.2.2.2 hn
  exact ⟨b, off, e, hs b hb hs', hb, hc⟩
theorem GRow.nil (w : World) (S : Nat → Prop) (A : Option Addr) (c : Nat) (hc : c ≤ maxLen) : GRow w S A 0 c ([] : List α) := ⟨rfl, Nat.zero_le _, hc, fun h => absurd h (by omega)⟩
theorem GRow.len_le (h : GRow w S A n c es) : n ≤ maxLen := Nat.le_trans h.2.1 h.2.2.1
theorem GRow.step (h : GRow w S A n c es) (hb : Below w.heap.size w w') : GRow w' S A n c es := h.keep hb.size (Same.of_below hb)
theorem GRow.drew (h : GRow w S A n c es) : GRow w.drew S A n c es := h.keep (Nat.le_refl _) (Same.drew _ _)
/-- an element's cells -/
theorem GRow.at_ (h : GRow w S A n c es) {i : Nat} (hi : i < n) : ∃ b off e, A = some ⟨b, off, none⟩ ∧ S b ∧ b < w.heap.size ∧ es[i]? = some e ∧ ∀ j u, (Enc.cells e)[j]? = some u → w.cell? ⟨b, off + i * Enc.k α + j, none⟩ = some u := by
  obtain ⟨hl, hc, hm, hr⟩ := h
  obtain ⟨b, off, hA, hs, hb, hcell⟩ := hr (by omega)
  have hi' : i < es.length := by omega
  have he : es[i]? = some es[i] := List.getElem?_eq_getElem hi'
  refine ⟨b, off, es[i], hA, hs, hb, he, fun j u hu => ?_⟩
  have hj : j < Enc.k α := by
    have := (List.getElem?_eq_some_iff.1 hu).1
    rw [Enc.len] at this
    exact this
  rw [Nat.add_assoc]
  exact hcell _ _ (by rw [gcells_at he hj]; exact hu)
/-- the first i elements -/
theorem GRow.take_ (h : GRow w S A n c es) {i : Nat} (hi : i ≤ n) : GRow w S A i c (es.take i) := by
  refine ⟨by rw [List.length_take, h.1]; omega, by have := h.2.1; omega, h.2.2.1, fun h0 => ?_⟩
  obtain ⟨b, off, e, hs, hb, hc⟩ := h.2.2.2 (by omega)
  refine ⟨b, off, e, hs, hb, fun j u hu => hc j u ?_⟩
  rw [← gcells_take, List.getElem?_take] at hu
  split at hu
  · exact hu
  · cases hu
end

/-- the slice is the call's own (nil, or at the head of a block from base on) and holds es -/
def GOwn (t : TypeId) (w : World) (base : Nat) (A : Option Addr) (n c : Nat) (es : List α) : Prop := es.length = n ∧ w.ownsRow base t (Enc.k α) (.slice A n c) n (gcells es)
section
variable {t : TypeId} {w w' : World} {base : Nat} {A : Option Addr} {n c : Nat} {es : List α}
theorem GOwn.nil (t : TypeId) (w : World) (base : Nat) : GOwn t w base none 0 0 ([] : List α) := ⟨rfl, World.ownsRow_nil w base _ _⟩
theorem GOwn.row (h : GOwn t w base A n c es) {S : Nat → Prop} (hS : ∀ b, base ≤ b → b < w.heap.size → S b) : GRow w S A n c es := by
  obtain ⟨hl, h⟩ := h
  have h0 : GRow w (fun b => base ≤ b ∧ b < w.heap.size) A n c es := by
    rcases h.2 with ⟨e, h0⟩ | ⟨g, cap, cur, e, hbg, hh, hn, hm, _, _⟩
    · injection e with e1 e2 e3
      subst e3
      exact ⟨hl, by omega, by unfold maxLen; omega, fun h' => by omega⟩
    · injection e with e1 e2 e3
      subst e1 e3
      refine ⟨hl, hn, hm, fun h0 => ⟨g, 0, rfl, ⟨hbg, lt_of_heap' hh⟩, lt_of_heap' hh, fun j u hu => ?_⟩⟩
      have := h.cells (g := g) rfl j u hu
      rw [show ((⟨g, 0, none⟩ : Addr).add j) = ⟨g, 0 + j, none⟩ from by unfold Addr.add; split <;> simp_all] at this
      exact this
  exact h0.more fun b _ h => hS b h.1 h.2
theorem GOwn.block (h : GOwn t w base A n c es) : ∀ a, A = some a → base ≤ a.block ∧ a.block < w.heap.size := by
  intro a ha
  exact h.2.lt a.block (by rw [ha]; rfl)
theorem GOwn.head {a : Addr} (h : GOwn t w base (some a) n c es) : ∃ g, a = ⟨g, 0, none⟩ := by
  rcases h.2.2 with ⟨e, _⟩ | ⟨g, cap, cur, e, _⟩
  · injection e with e1 e2 e3
    cases e1
  · injection e with e1 e2 e3
    injection e1 with e1
    exact ⟨g, e1⟩
theorem GOwn.keep {S : Nat → Prop} (h : GOwn t w base A n c es) (hk : Same S w w') (hS : ∀ a, A = some a → S a.block) : GOwn t w' base A n c es := by
  refine ⟨h.1, h.2.1, ?_⟩
  rcases h.2.2 with h0 | ⟨g, cap, cur, e, hbg, hh, r⟩
  · exact .inl h0
  · refine .inr ⟨g, cap, cur, e, hbg, ?_, r⟩
    have hA : A = some ⟨g, 0, none⟩ := by injection e
    exact (hk g (hS _ hA) (lt_of_heap' hh)).trans hh
theorem GOwn.step (h : GOwn t w base A n c es) (hb : Below w.heap.size w w') : GOwn t w' base A n c es := h.keep (Same.of_below (S := fun _ => True) hb) fun _ _ => trivial
theorem GOwn.cap_le (h : GOwn t w base A n c es) : n ≤ c ∧ c ≤ maxLen := by
  rcases h.2.2 with ⟨e, h0⟩ | ⟨g, cap, cur, e, hbg, hh, hn, hm, _⟩
  · injection e with e1 e2 e3
    subst e3
    exact ⟨by omega, by unfold maxLen; omega⟩
  · injection e with e1 e2 e3
    subst e3
    exact ⟨hn, hm⟩
end
theorem GOwn.mono {t : TypeId} {w : World} {base base' : Nat} {A : Option Addr} {n c : Nat} {es : List α} (h : GOwn t w base A n c es) (hb : base' ≤ base) : GOwn t w base' A n c es := by
  refine ⟨h.1, h.2.1, ?_⟩
  rcases h.2.2 with h0 | ⟨g, cap, cur, e, hbg, hh, r⟩
  · exact .inl h0
  · exact .inr ⟨g, cap, cur, e, by omega, hh, r⟩
/-- a literal slice -/
theorem GOwn.lit {t : TypeId} (w : World) (cs : Array Value) (es : List α) (base : Nat) (hb : base ≤ w.heap.size) (hm : es.length ≤ maxLen) (hc : cs.toList = gcells es) : GOwn t (w.alloc (.cells cs t)) base (some ⟨w.heap.size, 0, none⟩) es.length es.length es := by
  refine ⟨rfl, ?_⟩
  rw [← hc]
  refine World.ownsRow_lit w cs es.length hb hm ?_
  rw [← Array.length_toList, hc, gcells_length]

theorem run_append_g (P : Program) (ts t : TypeId) (nm : String) (i0 : TypeInfo) (z : Value) (by_ : Nat) (hu : P.underlying ts = some (.slice t)) (hi0 : P.info? t = some i0) (hz0 : i0.zero = some z) (hz1 : i0.size = Enc.k α) (hz2 : i0.bytes = by_) (hzc : z.cells.size = Enc.k α) (hk0 : 0 < Enc.k α) (hb0 : 0 < by_) (hbb : by_ ≤ 100)
    (w : World) (ty : TypeId) (base : Nat) (A B : Option Addr) (n c m d : Nat) (es fs : List α) (S : Nat → Prop) (hown : GOwn t w base A n c es) (hrow : GRow w S B m d fs) (hb : base ≤ w.heap.size) (hbd : n + m ≤ 1099511627776) :
    ∃ A' c' w', (Builtin.append_ #[ts, ts] ty #[.slice A n c, .slice B m d]).run P w = .ok (.slice A' (n + m) c') w' ∧ GOwn t w' base A' (n + m) c' (es ++ fs) ∧ w.grownBy w' (A.map (·.block)) ∧
      (A' = A ∨ ∃ g, A' = some ⟨g, 0, none⟩ ∧ w.heap.size ≤ g) := by
  rcases Nat.eq_zero_or_pos m with h0 | h0
  · subst h0
    have hfs : fs = [] := List.eq_nil_of_length_eq_zero hrow.1
    subst hfs
    refine ⟨A, c, w, ?_, by simpa using hown, ⟨rfl, rfl, rfl, Nat.le_refl _, fun _ _ _ => rfl⟩, .inl rfl⟩
    have hc := hown.cap_le.1
    rcases A with _ | a <;> rcases B with _ | b <;>
      simp [Builtin.append_, run_underlying hu, sizeOf, typeInfo, hi0, Builtin.lenOf, Builtin.firstCells, loadCells, loadCellsFrom, storeCells, hc]
  · obtain ⟨b, off, rfl, _, _, hcell⟩ := hrow.2.2.2 h0
    have hcells : ∀ j u, (gcells fs)[j]? = some u → w.cell? ((⟨b, off, none⟩ : Addr).add j) = some u := fun j u hu => by
      rw [show ((⟨b, off, none⟩ : Addr).add j) = ⟨b, off + j, none⟩ from by unfold Addr.add; split <;> simp_all]
      exact hcell j u hu
    have hmx : n + m ≤ maxLen := by have : maxLen = 9223372036854775807 := rfl; omega
    have hby : (n + m) * by_ ≤ 140737488355328 := Nat.le_trans (Nat.mul_le_mul hbd hbb) (by decide)
    obtain ⟨v', w', hrun, h2, h3, h4, h5⟩ := run_append_own_at (P := P) w base ts ty t i0 z (Enc.k α) by_ hu hi0 hz0 hz1 hz2 hzc hk0 _ n (gcells es) hown.2 ⟨b, off, none⟩ m d (gcells fs) (by rw [gcells_length, hrow.1]) hcells (gcells_oneCell fs)
      hmx hby hb
    have hform : ∃ g cap, v' = .slice (some ⟨g, 0, none⟩) (n + m) cap := by
      rcases h2.2 with ⟨_, h⟩ | ⟨g, cap, cur, hv, _⟩
      · omega
      · exact ⟨g, cap, hv⟩
    obtain ⟨g, cap, rfl⟩ := hform
    have hob : (Value.slice A n c).ownBlock = A.map (·.block) := by cases A <;> rfl
    refine ⟨_, cap, w', hrun, ⟨by simp [hown.1, hrow.1], by rw [gcells_append]; exact h2⟩, by rw [← hob]; exact h3, ?_⟩
    rcases h5 with h5 | h5
    · cases A with
      | none => simp [Value.ownBlock] at h5
      | some a =>
        left
        obtain ⟨g', rfl⟩ := hown.head
        have : g = g' := by simpa [Value.ownBlock] using h5
        rw [this]
    · right
      have : g = w.heap.size := by simpa [Value.ownBlock] using h5
      exact ⟨g, rfl, by omega⟩
end Go.Proofs.YtfihjajllfihjaaGreatDoor
