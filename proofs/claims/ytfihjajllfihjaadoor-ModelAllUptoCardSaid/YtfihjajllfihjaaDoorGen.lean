/- Rows of whatever is kept in cells of one kind each: a slice that reads as a list; one that is the call's own; what append leaves. Conditions: what is appended reads as a list; all together fewer than 2^40. -/
import Derived.Test.YtfihjajllfihjaaDoorAppend
namespace Go.Proofs.YtfihjajllfihjaaDoor
set_option linter.unusedSimpArgs false
set_option linter.unusedVariables false
open Go Go.RowKit

/-- what lies in k cells -/
class Enc (α : Type) where
  k : Nat
  cells : α → List Value
  len : ∀ a, (cells a).length = k
  one : ∀ a, ∀ u ∈ cells a, u.oneCell' = true
variable {α : Type} [Enc α]
def gcells (l : List α) : List Value := l.flatMap Enc.cells
theorem gcells_nil : gcells ([] : List α) = [] := rfl
theorem gcells_cons (e : α) (l : List α) : gcells (e :: l) = Enc.cells e ++ gcells l := by simp [gcells]
theorem gcells_append (a b : List α) : gcells (a ++ b) = gcells a ++ gcells b := by simp [gcells]
theorem gcells_length (l : List α) : (gcells l).length = l.length * Enc.k α := by
  induction l with
  | nil => simp [gcells]
  | cons e l ih => rw [gcells_cons, List.length_append, ih, Enc.len, List.length_cons, Nat.succ_mul]; omega
theorem gcells_take (l : List α) (k : Nat) : (gcells l).take (k * Enc.k α) = gcells (l.take k) := by
  induction l generalizing k with
  | nil => simp [gcells]
  | cons e l ih =>
    cases k with
    | zero => simp [gcells]
    | succ k =>
      have hm : (k + 1) * Enc.k α = k * Enc.k α + Enc.k α := Nat.succ_mul _ _
      rw [List.take_succ_cons, gcells_cons, gcells_cons, List.take_append, Enc.len, List.take_of_length_le (by rw [Enc.len]; omega)]
      rw [show (k + 1) * Enc.k α - Enc.k α = k * Enc.k α from by omega, ih]
theorem gcells_drop (l : List α) (k : Nat) : (gcells l).drop (k * Enc.k α) = gcells (l.drop k) := by
  induction l generalizing k with
  | nil => simp [gcells]
  | cons e l ih =>
    cases k with
    | zero => simp
    | succ k =>
      have hm : (k + 1) * Enc.k α = k * Enc.k α + Enc.k α := Nat.succ_mul _ _
      rw [List.drop_succ_cons, gcells_cons, List.drop_append, Enc.len, List.drop_of_length_le (by rw [Enc.len]; omega)]
      rw [show (k + 1) * Enc.k α - Enc.k α = k * Enc.k α from by omega, ih, List.nil_append]
theorem gcells_at {l : List α} {i : Nat} {e : α} (h : l[i]? = some e) {j : Nat} (hj : j < Enc.k α) : (gcells l)[i * Enc.k α + j]? = (Enc.cells e)[j]? := by
  have h1 : ((gcells l).drop (i * Enc.k α))[j]? = (Enc.cells e)[j]? := by
    rw [gcells_drop]
    have hlt : i < l.length := (List.getElem?_eq_some_iff.1 h).1
    have he : l[i] = e := (List.getElem?_eq_some_iff.1 h).2
    rw [List.drop_eq_getElem_cons hlt, he, gcells_cons, List.getElem?_append_left (by rw [Enc.len]; exact hj)]
  rw [← h1, List.getElem?_drop]
theorem gcells_oneCell (l : List α) : ∀ u ∈ gcells l, u.oneCell' = true := by
  intro u hu
  obtain ⟨e, _, hu⟩ := List.mem_flatMap.1 hu
  exact Enc.one e u hu

/-- the slice of n elements and capacity c at A reads as es; its block is in S -/
def GRow (w : World) (S : Nat → Prop) (A : Option Addr) (n c : Nat) (es : List α) : Prop :=
  es.length = n ∧ n ≤ c ∧ c ≤ maxLen ∧ (0 < n → ∃ b off, A = some ⟨b, off, none⟩ ∧ S b ∧ b < w.heap.size ∧ ∀ j u, (gcells es)[j]? = some u → w.cell? ⟨b, off + j, none⟩ = some u)
section
variable {w w' : World} {S S' : Nat → Prop} {A : Option Addr} {n c : Nat} {es : List α}
theorem GRow.keep (h : GRow w S A n c es) (hsz : w.heap.size ≤ w'.heap.size) (hk : Same S w w') : GRow w' S A n c es := by
  refine ⟨h.1, h.2.1, h.2.2.1, fun hn => ?_⟩
  obtain ⟨b, off, e, hs, hb, hc⟩ := h.2.2.2 hn
  exact ⟨b, off, e, hs, Nat.lt_of_lt_of_le hb hsz, fun j u hu => hk.cell (a := ⟨b, off + j, none⟩) hs (hc j u hu)⟩
theorem GRow.more (h : GRow w S A n c es) (hs : ∀ b, b < w.heap.size → S b → S' b) : GRow w S' A n c es := by
  refine ⟨h.1, h.2.1, h.2.2.1, fun hn => ?_⟩
  obtain ⟨b, off, e, hs', hb, hc⟩ := h.2.2.2 hn
  exact ⟨b, off, e, hs b hb hs', hb, hc⟩
theorem GRow.nil (w : World) (S : Nat → Prop) (A : Option Addr) (c : Nat) (hc : c ≤ maxLen) : GRow w S A 0 c ([] : List α) := ⟨rfl, Nat.zero_le _, hc, fun h => absurd h (by omega)⟩
theorem GRow.len_le (h : GRow w S A n c es) : n ≤ maxLen := Nat.le_trans h.2.1 h.2.2.1
theorem GRow.step (h : GRow w S A n c es) (hb : Below w.heap.size w w') : GRow w' S A n c es := h.keep hb.size (Same.of_below hb)
theorem GRow.drew (h : GRow w S A n c es) : GRow w.drew S A n c es := h.keep (Nat.le_refl _) (Same.drew _ _)
/-- an element's cells -/
theorem GRow.at_ (h : GRow w S A n c es) {i : Nat} (hi : i < n) : ∃ b off e, A = some ⟨b, off, none⟩ ∧ S b ∧ b < w.heap.size ∧ es[i]? = some e ∧ ∀ j u, (Enc.cells e)[j]? = some u → w.cell? ⟨b, off + i * Enc.k α + j, none⟩ = some u := by
  obtain ⟨hl, hc, hm, hr⟩ := h
  obtain ⟨b, off, hA, hs, hb, hcell⟩ := hr (by omega)
  have hi' : i < es.length := by omega
  have he : es[i]? = some es[i] := List.getElem?_eq_getElem hi'
  refine ⟨b, off, es[i], hA, hs, hb, he, fun j u hu => ?_⟩
  have hj : j < Enc.k α := by
    have := (List.getElem?_eq_some_iff.1 hu).1
    rw [Enc.len] at this
    exact this
  rw [Nat.add_assoc]
  exact hcell _ _ (by rw [gcells_at he hj]; exact hu)
/-- the first i elements -/
theorem GRow.take_ (h : GRow w S A n c es) {i : Nat} (hi : i ≤ n) : GRow w S A i c (es.take i) := by
  refine ⟨by rw [List.length_take, h.1]; omega, by have := h.2.1; omega, h.2.2.1, fun h0 => ?_⟩
  obtain ⟨b, off, e, hs, hb, hc⟩ := h.2.2.2 (by omega)
  refine ⟨b, off, e, hs, hb, fun j u hu => hc j u ?_⟩
  rw [← gcells_take, List.getElem?_take] at hu
  split at hu
  · exact hu
  · cases hu
end

/-- the slice is the call's own (nil, or at the head of a block from base on) and holds es -/
def GOwn (t : TypeId) (w : World) (base : Nat) (A : Option Addr) (n c : Nat) (es : List α) : Prop := es.length = n ∧ w.ownsRow base t (Enc.k α) (.slice A n c) n (gcells es)
section
variable {t : TypeId} {w w' : World} {base : Nat} {A : Option Addr} {n c : Nat} {es : List α}
theorem GOwn.nil (t : TypeId) (w : World) (base : Nat) : GOwn t w base none 0 0 ([] : List α) := ⟨rfl, World.ownsRow_nil w base _ _⟩
theorem GOwn.row (h : GOwn t w base A n c es) {S : Nat → Prop} (hS : ∀ b, base ≤ b → b < w.heap.size → S b) : GRow w S A n c es := by
  obtain ⟨hl, h⟩ := h
  have h0 : GRow w (fun b => base ≤ b ∧ b < w.heap.size) A n c es := by
    rcases h.2 with ⟨e, h0⟩ | ⟨g, cap, cur, e, hbg, hh, hn, hm, _, _⟩
    · injection e with e1 e2 e3
      subst e3
      exact ⟨hl, by omega, by unfold maxLen; omega, fun h' => by omega⟩
    · injection e with e1 e2 e3
      subst e1 e3
      refine ⟨hl, hn, hm, fun h0 => ⟨g, 0, rfl, ⟨hbg, lt_of_heap' hh⟩, lt_of_heap' hh, fun j u hu => ?_⟩⟩
      have := h.cells (g := g) rfl j u hu
      rw [show ((⟨g, 0, none⟩ : Addr).add j) = ⟨g, 0 + j, none⟩ from by unfold Addr.add; split <;> simp_all] at this
      exact this
  exact h0.more fun b _ h => hS b h.1 h.2
theorem GOwn.block (h : GOwn t w base A n c es) : ∀ a, A = some a → base ≤ a.block ∧ a.block < w.heap.size := by
  intro a ha
  exact h.2.lt a.block (by rw [ha]; rfl)
theorem GOwn.head {a : Addr} (h : GOwn t w base (some a) n c es) : ∃ g, a = ⟨g, 0, none⟩ := by
  rcases h.2.2 with ⟨e, _⟩ | ⟨g, cap, cur, e, _⟩
  · injection e with e1 e2 e3
    cases e1
  · injection e with e1 e2 e3
    injection e1 with e1
    exact ⟨g, e1⟩
theorem GOwn.keep {S : Nat → Prop} (h : GOwn t w base A n c es) (hk : Same S w w') (hS : ∀ a, A = some a → S a.block) : GOwn t w' base A n c es := by
  refine ⟨h.1, h.2.1, ?_⟩
  rcases h.2.2 with h0 | ⟨g, cap, cur, e, hbg, hh, r⟩
  · exact .inl h0
  · refine .inr ⟨g, cap, cur, e, hbg, ?_, r⟩
    have hA : A = some ⟨g, 0, none⟩ := by injection e
    exact (hk g (hS _ hA) (lt_of_heap' hh)).trans hh
theorem GOwn.step (h : GOwn t w base A n c es) (hb : Below w.heap.size w w') : GOwn t w' base A n c es := h.keep (Same.of_below (S := fun _ => True) hb) fun _ _ => trivial
theorem GOwn.cap_le (h : GOwn t w base A n c es) : n ≤ c ∧ c ≤ maxLen := by
  rcases h.2.2 with ⟨e, h0⟩ | ⟨g, cap, cur, e, hbg, hh, hn, hm, _⟩
  · injection e with e1 e2 e3
    subst e3
    exact ⟨by omega, by unfold maxLen; omega⟩
  · injection e with e1 e2 e3
    subst e3
    exact ⟨hn, hm⟩
end
theorem GOwn.mono {t : TypeId} {w : World} {base base' : Nat} {A : Option Addr} {n c : Nat} {es : List α} (h : GOwn t w base A n c es) (hb : base' ≤ base) : GOwn t w base' A n c es := by
  refine ⟨h.1, h.2.1, ?_⟩
  rcases h.2.2 with h0 | ⟨g, cap, cur, e, hbg, hh, r⟩
  · exact .inl h0
  · exact .inr ⟨g, cap, cur, e, by omega, hh, r⟩
/-- a literal slice -/
theorem GOwn.lit {t : TypeId} (w : World) (cs : Array Value) (es : List α) (base : Nat) (hb : base ≤ w.heap.size) (hm : es.length ≤ maxLen) (hc : cs.toList = gcells es) : GOwn t (w.alloc (.cells cs t)) base (some ⟨w.heap.size, 0, none⟩) es.length es.length es := by
  refine ⟨rfl, ?_⟩
  rw [← hc]
  refine World.ownsRow_lit w cs es.length hb hm ?_
  rw [← Array.length_toList, hc, gcells_length]

theorem run_append_g (P : Program) (ts t : TypeId) (nm : String) (i0 : TypeInfo) (z : Value) (by_ : Nat) (hu : P.underlying ts = some (.slice t)) (hi0 : P.info? t = some i0) (hz0 : i0.zero = some z) (hz1 : i0.size = Enc.k α) (hz2 : i0.bytes = by_) (hzc : z.cells.size = Enc.k α) (hk0 : 0 < Enc.k α) (hb0 : 0 < by_) (hbb : by_ ≤ 100)
    (w : World) (ty : TypeId) (base : Nat) (A B : Option Addr) (n c m d : Nat) (es fs : List α) (S : Nat → Prop) (hown : GOwn t w base A n c es) (hrow : GRow w S B m d fs) (hb : base ≤ w.heap.size) (hbd : n + m ≤ 1099511627776) :
    ∃ A' c' w', (Builtin.append_ #[ts, ts] ty #[.slice A n c, .slice B m d]).run P w = .ok (.slice A' (n + m) c') w' ∧ GOwn t w' base A' (n + m) c' (es ++ fs) ∧ w.grownBy w' (A.map (·.block)) ∧
      (A' = A ∨ ∃ g, A' = some ⟨g, 0, none⟩ ∧ w.heap.size ≤ g) := by
  rcases Nat.eq_zero_or_pos m with h0 | h0
  · subst h0
    have hfs : fs = [] := List.eq_nil_of_length_eq_zero hrow.1
    subst hfs
    refine ⟨A, c, w, ?_, by simpa using hown, ⟨rfl, rfl, rfl, Nat.le_refl _, fun _ _ _ => rfl⟩, .inl rfl⟩
    have hc := hown.cap_le.1
    rcases A with _ | a <;> rcases B with _ | b <;>
      simp [Builtin.append_, run_underlying hu, sizeOf, typeInfo, hi0, Builtin.lenOf, Builtin.firstCells, loadCells, loadCellsFrom, storeCells, hc]
  · obtain ⟨b, off, rfl, _, _, hcell⟩ := hrow.2.2.2 h0
    have hcells : ∀ j u, (gcells fs)[j]? = some u → w.cell? ((⟨b, off, none⟩ : Addr).add j) = some u := fun j u hu => by
      rw [show ((⟨b, off, none⟩ : Addr).add j) = ⟨b, off + j, none⟩ from by unfold Addr.add; split <;> simp_all]
      exact hcell j u hu
    have hmx : n + m ≤ maxLen := by have : maxLen = 9223372036854775807 := rfl; omega
    have hby : (n + m) * by_ ≤ 140737488355328 := Nat.le_trans (Nat.mul_le_mul hbd hbb) (by decide)
    obtain ⟨v', w', hrun, h2, h3, h4, h5⟩ := run_append_own_at (P := P) w base ts ty t i0 z (Enc.k α) by_ hu hi0 hz0 hz1 hz2 hzc hk0 _ n (gcells es) hown.2 ⟨b, off, none⟩ m d (gcells fs) (by rw [gcells_length, hrow.1]) hcells (gcells_oneCell fs)
      hmx hby hb
    have hform : ∃ g cap, v' = .slice (some ⟨g, 0, none⟩) (n + m) cap := by
      rcases h2.2 with ⟨_, h⟩ | ⟨g, cap, cur, hv, _⟩
      · omega
      · exact ⟨g, cap, hv⟩
    obtain ⟨g, cap, rfl⟩ := hform
    have hob : (Value.slice A n c).ownBlock = A.map (·.block) := by cases A <;> rfl
    refine ⟨_, cap, w', hrun, ⟨by simp [hown.1, hrow.1], by rw [gcells_append]; exact h2⟩, by rw [← hob]; exact h3, ?_⟩
    rcases h5 with h5 | h5
    · cases A with
      | none => simp [Value.ownBlock] at h5
      | some a =>
        left
        obtain ⟨g', rfl⟩ := hown.head
        have : g = g' := by simpa [Value.ownBlock] using h5
        rw [this]
    · right
      have : g = w.heap.size := by simpa [Value.ownBlock] using h5
      exact ⟨g, rfl, by omega⟩
end Go.Proofs.YtfihjajllfihjaaDoor
