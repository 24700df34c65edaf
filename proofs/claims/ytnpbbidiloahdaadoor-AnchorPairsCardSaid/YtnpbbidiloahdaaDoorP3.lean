/- Rows of whatever is kept in cells of one kind each: a slice that reads as a list; one that is the call's own; what append leaves. Conditions: what is appended reads as a list; all together fewer than 2^40. Refusals: where the reasons lie, what a refusal is in memory; made, named, numbered. Conditions: the reasons lie in memory, no two alike. A refusal gone through: its number, its reasons' numbers. Conditions: the refusal and the reasons lie in memory. -/
import Derived.Test.YtnpbbidiloahdaaDoorP2
import Derived.LaidEql
namespace Go.Proofs.YtnpbbidiloahdaaDoor
set_option linter.unusedSimpArgs false
set_option linter.unusedVariables false
open Go Go.RowKit

/-- what lies in k cells -/
class Enc (α : Type) where
  k : Nat
  cells : α → List Value
  len : ∀ a, (cells a).length = k
  one : ∀ a, ∀ u ∈ cells a, u.oneCell' = true
variable {α : Type} [Enc α]
def gcells (l : List α) : List Value := l.flatMap Enc.cells
theorem gcells_cons (e : α) (l : List α) : gcells (e :: l) = Enc.cells e ++ gcells l := by simp [gcells]
theorem gcells_append (a b : List α) : gcells (a ++ b) = gcells a ++ gcells b := by simp [gcells]
theorem gcells_length (l : List α) : (gcells l).length = l.length * Enc.k α := by
  induction l with
  | nil => simp [gcells]
  | cons e l ih => rw [gcells_cons, List.length_append, ih, Enc.len, List.length_cons, Nat.succ_mul]; omega
theorem gcells_take (l : List α) (k : Nat) : (gcells l).take (k * Enc.k α) = gcells (l.take k) := by
  induction l generalizing k with
  | nil => simp [gcells]
  | cons e l ih =>
    cases k with
    | zero => simp [gcells]
    | succ k =>
      have hm : (k + 1) * Enc.k α = k * Enc.k α + Enc.k α := Nat.succ_mul _ _
      rw [List.take_succ_cons, gcells_cons, gcells_cons, List.take_append, Enc.len, List.take_of_length_le (by rw [Enc.len]; omega)]
      rw [show (k + 1) * Enc.k α - Enc.k α = k * Enc.k α from by omega, ih]
theorem gcells_drop (l : List α) (k : Nat) : (gcells l).drop (k * Enc.k α) = gcells (l.drop k) := by
  induction l generalizing k with
  | nil => simp [gcells]
  | cons e l ih =>
    cases k with
    | zero => simp
    | succ k =>
      have hm : (k + 1) * Enc.k α = k * Enc.k α + Enc.k α := Nat.succ_mul _ _
      rw [List.drop_succ_cons, gcells_cons, List.drop_append, Enc.len, List.drop_of_length_le (by rw [Enc.len]; omega)]
      rw [show (k + 1) * Enc.k α - Enc.k α = k * Enc.k α from by omega, ih, List.nil_append]
theorem gcells_at {l : List α} {i : Nat} {e : α} (h : l[i]? = some e) {j : Nat} (hj : j < Enc.k α) : (gcells l)[i * Enc.k α + j]? = (Enc.cells e)[j]? := by
  have h1 : ((gcells l).drop (i * Enc.k α))[j]? = (Enc.cells e)[j]? := by
    rw [gcells_drop]
    have hlt : i < l.length := (List.getElem?_eq_some_iff.1 h).1
    have he : l[i] = e := (List.getElem?_eq_some_iff.1 h).2
    rw [List.drop_eq_getElem_cons hlt, he, gcells_cons, List.getElem?_append_left (by rw [Enc.len]; exact hj)]
  rw [← h1, List.getElem?_drop]
theorem gcells_oneCell (l : List α) : ∀ u ∈ gcells l, u.oneCell' = true := by
  intro u hu
  obtain ⟨e, _, hu⟩ := List.mem_flatMap.1 hu
  exact Enc.one e u hu

/-- the slice of n elements and capacity c at A reads as es; its block is in S -/
def GRow (w : World) (S : Nat → Prop) (A : Option Addr) (n c : Nat) (es : List α) : Prop :=
  es.length = n ∧ n ≤ c ∧ c ≤ maxLen ∧ (0 < n → ∃ b off, A = some ⟨b, off, none⟩ ∧ S b ∧ b < w.heap.size ∧ ∀ j u, (gcells es)[j]? = some u → w.cell? ⟨b, off + j, none⟩ = some u)
section
variable {w w' : World} {S S' : Nat → Prop} {A : Option Addr} {n c : Nat} {es : List α}
theorem GRow.keep (h : GRow w S A n c es) (hsz : w.heap.size ≤ w'.heap.size) (hk : Same S w w') : GRow w' S A n c es := by
  refine ⟨h.1, h.2.1, h.2.2.1, fun hn => ?_⟩
  obtain ⟨b, off, e, hs, hb, hc⟩ := h.2.2.2 hn
  exact ⟨b, off, e, hs, Nat.lt_of_lt_of_le hb hsz, fun j u hu => hk.cell (a := ⟨b, off + j, none⟩) hs (hc j u hu)⟩
theorem GRow.more (h : GRow w S A n c es) (hs : ∀ b, b < w.heap.size → S b → S' b) : GRow w S' A n c es := by
  refine ⟨h.1, h.2.1, h.2.2.1, fun hn => ?_⟩
  obtain ⟨b, off, e, hs', hb, hc⟩ := h.2.2.2 hn
  exact ⟨b, off, e, hs b hb hs', hb, hc⟩
theorem GRow.nil (w : World) (S : Nat → Prop) (A : Option Addr) (c : Nat) (hc : c ≤ maxLen) : GRow w S A 0 c ([] : List α) := ⟨rfl, Nat.zero_le _, hc, fun h => absurd h (by omega)⟩
theorem GRow.len_le (h : GRow w S A n c es) : n ≤ maxLen := Nat.le_trans h.2.1 h.2.2.1
theorem GRow.step (h : GRow w S A n c es) (hb : Below w.heap.size w w') : GRow w' S A n c es := h.keep hb.size (Same.of_below hb)
theorem GRow.drew (h : GRow w S A n c es) : GRow w.drew S A n c es := h.keep (Nat.le_refl _) (Same.drew _ _)
/-- an element's cells -/
theorem GRow.at_ (h : GRow w S A n c es) {i : Nat} (hi : i < n) : ∃ b off e, A = some ⟨b, off, none⟩ ∧ S b ∧ b < w.heap.size ∧ es[i]? = some e ∧ ∀ j u, (Enc.cells e)[j]? = some u → w.cell? ⟨b, off + i * Enc.k α + j, none⟩ = some u := by
  obtain ⟨hl, hc, hm, hr⟩ := h
  obtain ⟨b, off, hA, hs, hb, hcell⟩ := hr (by omega)
  have hi' : i < es.length := by omega
  have he : es[i]? = some es[i] := List.getElem?_eq_getElem hi'
  refine ⟨b, off, es[i], hA, hs, hb, he, fun j u hu => ?_⟩
  have hj : j < Enc.k α := by
    have := (List.getElem?_eq_some_iff.1 hu).1
    rw [Enc.len] at this
    exact this
  rw [Nat.add_assoc]
  exact hcell _ _ (by rw [gcells_at he hj]; exact hu)
/-- the first i elements -/
theorem GRow.take_ (h : GRow w S A n c es) {i : Nat} (hi : i ≤ n) : GRow w S A i c (es.take i) := by
  refine ⟨by rw [List.length_take, h.1]; omega, by have := h.2.1; omega, h.2.2.1, fun h0 => ?_⟩
  obtain ⟨b, off, e, hs, hb, hc⟩ := h.2.2.2 (by omega)
  refine ⟨b, off, e, hs, hb, fun j u hu => hc j u ?_⟩
  rw [← gcells_take, List.getElem?_take] at hu
  split at hu
  · exact hu
  · cases hu
end

/-- the slice is the call's own (nil, or at the head of a block from base on) and holds es -/
def GOwn (t : TypeId) (w : World) (base : Nat) (A : Option Addr) (n c : Nat) (es : List α) : Prop := es.length = n ∧ w.ownsRow base t (Enc.k α) (.slice A n c) n (gcells es)
section
variable {t : TypeId} {w w' : World} {base : Nat} {A : Option Addr} {n c : Nat} {es : List α}
theorem GOwn.nil (t : TypeId) (w : World) (base : Nat) : GOwn t w base none 0 0 ([] : List α) := ⟨rfl, World.ownsRow_nil w base _ _⟩
theorem GOwn.row (h : GOwn t w base A n c es) {S : Nat → Prop} (hS : ∀ b, base ≤ b → b < w.heap.size → S b) : GRow w S A n c es := by
  obtain ⟨hl, h⟩ := h
  have h0 : GRow w (fun b => base ≤ b ∧ b < w.heap.size) A n c es := by
    rcases h.2 with ⟨e, h0⟩ | ⟨g, cap, cur, e, hbg, hh, hn, hm, _, _⟩
    · injection e with e1 e2 e3
      subst e3
      exact ⟨hl, by omega, by unfold maxLen; omega, fun h' => by omega⟩
    · injection e with e1 e2 e3
      subst e1 e3
      refine ⟨hl, hn, hm, fun h0 => ⟨g, 0, rfl, ⟨hbg, lt_of_heap' hh⟩, lt_of_heap' hh, fun j u hu => ?_⟩⟩
      have := h.cells (g := g) rfl j u hu
      rw [show ((⟨g, 0, none⟩ : Addr).add j) = ⟨g, 0 + j, none⟩ from by unfold Addr.add; split <;> simp_all] at this
      exact this
  exact h0.more fun b _ h => hS b h.1 h.2
theorem GOwn.block (h : GOwn t w base A n c es) : ∀ a, A = some a → base ≤ a.block ∧ a.block < w.heap.size := by
  intro a ha
  exact h.2.lt a.block (by rw [ha]; rfl)
theorem GOwn.head {a : Addr} (h : GOwn t w base (some a) n c es) : ∃ g, a = ⟨g, 0, none⟩ := by
  rcases h.2.2 with ⟨e, _⟩ | ⟨g, cap, cur, e, _⟩
  · injection e with e1 e2 e3
    cases e1
  · injection e with e1 e2 e3
    injection e1 with e1
    exact ⟨g, e1⟩
theorem GOwn.keep {S : Nat → Prop} (h : GOwn t w base A n c es) (hk : Same S w w') (hS : ∀ a, A = some a → S a.block) : GOwn t w' base A n c es := by
  refine ⟨h.1, h.2.1, ?_⟩
  rcases h.2.2 with h0 | ⟨g, cap, cur, e, hbg, hh, r⟩
  · exact .inl h0
  · refine .inr ⟨g, cap, cur, e, hbg, ?_, r⟩
    have hA : A = some ⟨g, 0, none⟩ := by injection e
    exact (hk g (hS _ hA) (lt_of_heap' hh)).trans hh
theorem GOwn.step (h : GOwn t w base A n c es) (hb : Below w.heap.size w w') : GOwn t w' base A n c es := h.keep (Same.of_below (S := fun _ => True) hb) fun _ _ => trivial
theorem GOwn.cap_le (h : GOwn t w base A n c es) : n ≤ c ∧ c ≤ maxLen := by
  rcases h.2.2 with ⟨e, h0⟩ | ⟨g, cap, cur, e, hbg, hh, hn, hm, _⟩
  · injection e with e1 e2 e3
    subst e3
    exact ⟨by omega, by unfold maxLen; omega⟩
  · injection e with e1 e2 e3
    subst e3
    exact ⟨hn, hm⟩
end
theorem GOwn.mono {t : TypeId} {w : World} {base base' : Nat} {A : Option Addr} {n c : Nat} {es : List α} (h : GOwn t w base A n c es) (hb : base' ≤ base) : GOwn t w base' A n c es := by
  refine ⟨h.1, h.2.1, ?_⟩
  rcases h.2.2 with h0 | ⟨g, cap, cur, e, hbg, hh, r⟩
  · exact .inl h0
  · exact .inr ⟨g, cap, cur, e, by omega, hh, r⟩
/-- a literal slice -/
theorem GOwn.lit {t : TypeId} (w : World) (cs : Array Value) (es : List α) (base : Nat) (hb : base ≤ w.heap.size) (hm : es.length ≤ maxLen) (hc : cs.toList = gcells es) : GOwn t (w.alloc (.cells cs t)) base (some ⟨w.heap.size, 0, none⟩) es.length es.length es := by
  refine ⟨rfl, ?_⟩
  rw [← hc]
  refine World.ownsRow_lit w cs es.length hb hm ?_
  rw [← Array.length_toList, hc, gcells_length]

theorem run_append_g (P : Program) (ts t : TypeId) (nm : String) (i0 : TypeInfo) (z : Value) (by_ : Nat) (hu : P.underlying ts = some (.slice t)) (hi0 : P.info? t = some i0) (hz0 : i0.zero = some z) (hz1 : i0.size = Enc.k α) (hz2 : i0.bytes = by_) (hzc : z.cells.size = Enc.k α) (hk0 : 0 < Enc.k α) (hb0 : 0 < by_) (hbb : by_ ≤ 100)
    (w : World) (ty : TypeId) (base : Nat) (A B : Option Addr) (n c m d : Nat) (es fs : List α) (S : Nat → Prop) (hown : GOwn t w base A n c es) (hrow : GRow w S B m d fs) (hb : base ≤ w.heap.size) (hbd : n + m ≤ 1099511627776) :
    ∃ A' c' w', (Builtin.append_ #[ts, ts] ty #[.slice A n c, .slice B m d]).run P w = .ok (.slice A' (n + m) c') w' ∧ GOwn t w' base A' (n + m) c' (es ++ fs) ∧ w.grownBy w' (A.map (·.block)) ∧
      (A' = A ∨ ∃ g, A' = some ⟨g, 0, none⟩ ∧ w.heap.size ≤ g) := by
  rcases Nat.eq_zero_or_pos m with h0 | h0
  · subst h0
    have hfs : fs = [] := List.eq_nil_of_length_eq_zero hrow.1
    subst hfs
    refine ⟨A, c, w, ?_, by simpa using hown, ⟨rfl, rfl, rfl, Nat.le_refl _, fun _ _ _ => rfl⟩, .inl rfl⟩
    have hc := hown.cap_le.1
    rcases A with _ | a <;> rcases B with _ | b <;>
      simp [Builtin.append_, run_underlying hu, sizeOf, typeInfo, hi0, Builtin.lenOf, Builtin.firstCells, loadCells, loadCellsFrom, storeCells, hc]
  · obtain ⟨b, off, rfl, _, _, hcell⟩ := hrow.2.2.2 h0
    have hcells : ∀ j u, (gcells fs)[j]? = some u → w.cell? ((⟨b, off, none⟩ : Addr).add j) = some u := fun j u hu => by
      rw [show ((⟨b, off, none⟩ : Addr).add j) = ⟨b, off + j, none⟩ from by unfold Addr.add; split <;> simp_all]
      exact hcell j u hu
    have hmx : n + m ≤ maxLen := by have : maxLen = 9223372036854775807 := rfl; omega
    have hby : (n + m) * by_ ≤ 140737488355328 := Nat.le_trans (Nat.mul_le_mul hbd hbb) (by decide)
    obtain ⟨v', w', hrun, h2, h3, h4, h5⟩ := run_append_own_at (P := P) w base ts ty t i0 z (Enc.k α) by_ hu hi0 hz0 hz1 hz2 hzc hk0 _ n (gcells es) hown.2 ⟨b, off, none⟩ m d (gcells fs) (by rw [gcells_length, hrow.1]) hcells (gcells_oneCell fs)
      hmx hby hb
    have hform : ∃ g cap, v' = .slice (some ⟨g, 0, none⟩) (n + m) cap := by
      rcases h2.2 with ⟨_, h⟩ | ⟨g, cap, cur, hv, _⟩
      · omega
      · exact ⟨g, cap, hv⟩
    obtain ⟨g, cap, rfl⟩ := hform
    have hob : (Value.slice A n c).ownBlock = A.map (·.block) := by cases A <;> rfl
    refine ⟨_, cap, w', hrun, ⟨by simp [hown.1, hrow.1], by rw [gcells_append]; exact h2⟩, by rw [← hob]; exact h3, ?_⟩
    rcases h5 with h5 | h5
    · cases A with
      | none => simp [Value.ownBlock] at h5
      | some a =>
        left
        obtain ⟨g', rfl⟩ := hown.head
        have : g = g' := by simpa [Value.ownBlock] using h5
        rw [this]
    · right
      have : g = w.heap.size := by simpa [Value.ownBlock] using h5
      exact ⟨g, rfl, by omega⟩
end Go.Proofs.YtnpbbidiloahdaaDoor
namespace Go.Proofs.YtnpbbidiloahdaaDoor
set_option linter.unusedSimpArgs false
set_option linter.unusedVariables false
open Go Go.RowKit

/-- the variable that holds the reason of a number -/
def gOf : Nat → Nat
  | 1 => 0
  | 2 => 1
  | 3 => 2
  | 4 => 4
  | 5 => 5
  | 6 => 6
  | 7 => 7
  | 8 => 8
  | 9 => 3
  | 10 => 9
  | 11 => 10
  | 12 => 11
  | 13 => 12
  | _ => 0
abbrev reason (a : Addr) : Value := .iface 152 (.pointer (some a))
/-- the reasons 1 to 13 lie at a; their blocks in S -/
structure Sents (w : World) (S : Nat → Prop) (a : Nat → Addr) : Prop where
  cell : ∀ k, 1 ≤ k → k ≤ 13 → w.cell? ⟨gOf k, 0, none⟩ = some (reason (a k))
  gIn : ∀ k, 1 ≤ k → k ≤ 13 → S (gOf k)
  aIn : ∀ k, 1 ≤ k → k ≤ 13 → S (a k).block
  inj : ∀ j k, 1 ≤ j → j ≤ 13 → 1 ≤ k → k ≤ 13 → a j = a k → j = k
  plain : ∀ k, 1 ≤ k → k ≤ 13 → ∃ cs t, w.heap[(a k).block]? = some (.cells cs t (0, 0))
theorem Sents.keep {w w' : World} {S : Nat → Prop} {a : Nat → Addr} (h : Sents w S a) (hk : Same S w w') : Sents w' S a :=
  ⟨fun k h1 h2 => hk.cell (a := ⟨gOf k, 0, none⟩) (h.gIn k h1 h2) (h.cell k h1 h2), h.gIn, h.aIn, h.inj, fun k h1 h2 => by
    obtain ⟨cs, t, e⟩ := h.plain k h1 h2
    exact ⟨cs, t, (hk _ (h.aIn k h1 h2) (lt_of_heap' e)).trans e⟩⟩
theorem Sents.step {w w' : World} {S : Nat → Prop} {a : Nat → Addr} (h : Sents w S a) (hb : Below w.heap.size w w') : Sents w' S a := h.keep (Same.of_below hb)
theorem Sents.drew {w : World} {S : Nat → Prop} {a : Nat → Addr} (h : Sents w S a) : Sents w.drew S a := h.keep (Same.drew _ _)

/-- a place on a refusal's way -/
structure Lk where
  layer : ByteArray
  call : ByteArray
  at_ : Int
instance : Enc Lk where
  k := 3
  cells l := [.string l.layer, .string l.call, .int .i64 l.at_]
  len _ := rfl
  one := by
    intro a u hu
    simp only [List.mem_cons, List.not_mem_nil, or_false] at hu
    rcases hu with rfl | rfl | rfl <;> rfl
instance : Enc Int where
  k := 1
  cells x := [.int .i64 x]
  len _ := rfl
  one := by
    intro a u hu
    simp only [List.mem_cons, List.not_mem_nil, or_false] at hu
    subst hu
    rfl
/-- a refusal at w: its way, the number of its reason -/
def IsErr (w : World) (S : Nat → Prop) (a : Nat → Addr) : List Lk → Nat → Value → Prop
  | [], code, e => 1 ≤ code ∧ code ≤ 13 ∧ e = reason (a code)
  | l :: r, code, e => ∃ g v, e = .iface 103 (.pointer (some ⟨g, 0, none⟩)) ∧ S g ∧ Blk w g 105 #[.string l.layer, .string l.call, .int .i64 l.at_, v] ∧ IsErr w S a r code v
theorem IsErr.keep {w w' : World} {S : Nat → Prop} {a : Nat → Addr} (hk : Same S w w') : ∀ {ch : List Lk} {code : Nat} {e : Value}, IsErr w S a ch code e → IsErr w' S a ch code e := by
  intro ch
  induction ch with
  | nil => intro code e h; exact h
  | cons l r ih =>
    rintro code e ⟨g, v, rfl, hs, hb, h⟩
    exact ⟨g, v, rfl, hs, hb.keep hs hk, ih h⟩
theorem IsErr.more {w : World} {S S' : Nat → Prop} {a : Nat → Addr} (hs : ∀ b, b < w.heap.size → S b → S' b) : ∀ {ch : List Lk} {code : Nat} {e : Value}, IsErr w S a ch code e → IsErr w S' a ch code e := by
  intro ch
  induction ch with
  | nil => intro code e h; exact h
  | cons l r ih =>
    rintro code e ⟨g, v, rfl, hs', hb, h⟩
    exact ⟨g, v, rfl, hs _ hb.lt hs', hb, ih h⟩
theorem IsErr.step {w w' : World} {S : Nat → Prop} {a : Nat → Addr} {ch : List Lk} {code : Nat} {e : Value} (h : IsErr w S a ch code e) (hb : Below w.heap.size w w') : IsErr w' S a ch code e := h.keep (Same.of_below hb)
theorem IsErr.notNil {w : World} {S : Nat → Prop} {a : Nat → Addr} {ch : List Lk} {code : Nat} {e : Value} (h : IsErr w S a ch code e) : ∃ t x, e = .iface t (.pointer (some x)) := by
  cases ch with
  | nil => exact ⟨_, _, h.2.2⟩
  | cons l r => obtain ⟨g, v, rfl, _⟩ := h; exact ⟨_, _, rfl⟩
theorem new_any (l c : ByteArray) (n : Int) (t : TypeId) (x : Option Addr) (w : World) :
    Calls Tryd.prog 28 #[.string l, .string c, .int .i64 n, .iface t (.pointer x)] w fun e w' => ∃ g, e = .returned (.iface 103 (.pointer (some ⟨g, 0, none⟩))) ∧ w.heap.size ≤ g ∧
      Blk w' g 105 #[.string l, .string c, .int .i64 (if n < -1 then -1 else n), .iface t (.pointer x)] ∧ Below w.heap.size w w' := by
  go_enter Tryd.func28, Tryd.ntmps28
  go_wp2
  all_goals go_ret
  all_goals exact ⟨w.heap.size, rfl, Nat.le_refl _, Blk.new _ _ _, (Below.refl _ _).alloc (Nat.le_refl _) _⟩

theorem named_any (k : Nat) (h1 : 1 ≤ k) (h2 : k ≤ 13) (v : Value) (w : World) (hv : w.cell? ⟨gOf k, 0, none⟩ = some v) :
    Calls Tryd.prog 85 #[.int .i64 k] w fun e w' => e = .returned v ∧ w = w' := by
  rcases (show k = 1 ∨ k = 2 ∨ k = 3 ∨ k = 4 ∨ k = 5 ∨ k = 6 ∨ k = 7 ∨ k = 8 ∨ k = 9 ∨ k = 10 ∨ k = 11 ∨ k = 12 ∨ k = 13 from by omega) with rfl | rfl | rfl | rfl | rfl | rfl | rfl | rfl | rfl | rfl | rfl | rfl | rfl
  all_goals
    simp only [gOf] at hv
    go_enter Tryd.func85, Tryd.ntmps85
    go_wp2
    go_ret
    exact ⟨rfl, rfl⟩
theorem Tryd.compES : (Tryd.prog.info? 152).map (·.comparable) = some true := by kernel_rfl
theorem Tryd.sizeES : (Tryd.prog.info? 169).map (fun i => decide (i.size = 0)) = some false := by kernel_rfl
theorem eq_reason {w : World} {S : Nat → Prop} {a : Nat → Addr} (h : Sents w S a) {j k : Nat} (h1 : 1 ≤ j) (h2 : j ≤ 13) (h3 : 1 ≤ k) (h4 : k ≤ 13) :
    (binOp .eql 50 (reason (a j)) (reason (a k))).run Tryd.prog w = .ok (.bool (decide (j = k))) w := by
  obtain ⟨i, hi, hc⟩ := Option.map_eq_some_iff.1 Tryd.compES
  obtain ⟨m, hm, hz⟩ := Option.map_eq_some_iff.1 Tryd.sizeES
  by_cases e : j = k
  · subst e
    rw [decide_eq_true rfl]
    exact run_eql_iface_ptr_same w (a j) Tryd.underlying50 Tryd.underlying152 hi hc hm
  · rw [decide_eq_false e]
    obtain ⟨cs, t, hb⟩ := h.plain j h1 h2
    obtain ⟨cs', t', hb'⟩ := h.plain k h3 h4
    exact run_eql_iface_ptr_other w Tryd.underlying50 Tryd.underlying152 hi hc hm (of_decide_eq_false hz) (fun e' => e (h.inj j k h1 h2 h3 h4 e')) hb hb'
theorem eq_fault {w : World} (x : Option Addr) (y : Addr) : (binOp .eql 50 (.iface 103 (.pointer x)) (reason y)).run Tryd.prog w = .ok (.bool false) w := by
  have h : ∀ d : Nat, (Op.equalIn (d + 2) 50 (.iface 103 (.pointer x)) (reason y)).run Tryd.prog w = .ok false w := fun d => by
    simp [Op.equalIn, reason, run_underlying Tryd.underlying50]
  simp only [binOp]
  simp [Op.equal, Op.maxDepth, h 9998]
set_option maxRecDepth 20000 in
theorem number_reason (j : Nat) (h1 : 1 ≤ j) (h2 : j ≤ 13) (S : Nat → Prop) (a : Nat → Addr) (w : World) (hs : Sents w S a) :
    Calls Tryd.prog 66 #[reason (a j)] w fun e w' => e = .returned (.int .i64 j) ∧ w = w' := by
  go_enter Tryd.func66, Tryd.ntmps66
  go_wp2
  go_loopw [3] (fun i wr => ∃ k : Nat, i = .int .i64 k ∧ 1 ≤ k ∧ k ≤ j ∧ w = wr) (fun i _ => 14 - (intOf i).toNat)
  case atStart => exact ⟨1, rfl, Nat.le_refl _, h1, rfl⟩
  case round =>
    obtain ⟨k, rfl, hk1, hk2, rfl⟩ := hrel
    have hq := hid (eq_reason hs h1 h2 hk1 (show k ≤ 13 by omega))
    by_cases e : j = k
    · subst e
      repeat' (first | (go_at_call 85; (with_reducible refine (named_any j h1 h2 _ w (hs.cell j h1 h2)).mono ?_); rintro _ _ ⟨rfl, rfl⟩; dsimp only) | (rw [hq.out]) | go_values | go_skip | go_guarded | go_step | go_upon | go_back)
      go_ret
      exact ⟨rfl, rfl⟩
    · repeat' (first | (go_at_call 85; (with_reducible refine (named_any k hk1 (by omega) _ w (hs.cell k hk1 (by omega))).mono ?_); rintro _ _ ⟨rfl, rfl⟩; dsimp only) | (rw [hq.out]) | go_values | go_skip | go_guarded | go_step | go_upon | go_back)
      go_roundw
      case rel => exact ⟨k + 1, by go_num, by omega, by omega, trivial⟩
      case measure => simp [intOf]; omega
set_option maxRecDepth 20000 in
theorem number_fault (x : Option Addr) (S : Nat → Prop) (a : Nat → Addr) (w : World) (hs : Sents w S a) :
    Calls Tryd.prog 66 #[.iface 103 (.pointer x)] w fun e w' => e = .returned (.int .i64 0) ∧ w = w' := by
  go_enter Tryd.func66, Tryd.ntmps66
  go_wp2
  go_loopw [3] (fun i wr => ∃ k : Nat, i = .int .i64 k ∧ 1 ≤ k ∧ k ≤ 14 ∧ w = wr) (fun i _ => 14 - (intOf i).toNat)
  case atStart => exact ⟨1, rfl, Nat.le_refl _, by omega, rfl⟩
  case round =>
    obtain ⟨k, rfl, hk1, hk2, rfl⟩ := hrel
    by_cases e : k ≤ 13
    · have hq := hid (eq_fault (w := w) x (a k))
      repeat' (first | (go_at_call 85; (with_reducible refine (named_any k hk1 (by omega) _ w (hs.cell k hk1 (by omega))).mono ?_); rintro _ _ ⟨rfl, rfl⟩; dsimp only) | (rw [hq.out]) | go_values | go_skip | go_guarded | go_step | go_upon | go_back)
      go_roundw
      case rel => exact ⟨k + 1, by go_num, by omega, by omega, trivial⟩
      case measure => simp [intOf]; omega
    · obtain rfl : k = 14 := by omega
      go_wp2
      go_ret
      exact ⟨rfl, rfl⟩
end Go.Proofs.YtnpbbidiloahdaaDoor
namespace Go.Proofs.YtnpbbidiloahdaaDoor
set_option linter.unusedSimpArgs false
set_option linter.unusedVariables false
open Go Go.RowKit
variable {S : Nat → Prop} {a : Nat → Addr}

@[go_sem] theorem as_ff (v : Value) (w : World) : (Instr.typeAssert (.iface 103 v) 50 103 true).run Tryd.prog w = .ok (.tuple #[v, .bool true]) w := by kernel_rfl
@[go_sem] theorem as_fm (v : Value) (w : World) : (Instr.typeAssert (.iface 103 v) 50 142 true).run Tryd.prog w = .ok (.tuple #[.pointer none, .bool false]) w := by kernel_rfl
@[go_sem] theorem as_ef (v : Value) (w : World) : (Instr.typeAssert (.iface 152 v) 50 103 true).run Tryd.prog w = .ok (.tuple #[.pointer none, .bool false]) w := by kernel_rfl
@[go_sem] theorem as_em (v : Value) (w : World) : (Instr.typeAssert (.iface 152 v) 50 142 true).run Tryd.prog w = .ok (.tuple #[.pointer none, .bool false]) w := by kernel_rfl
theorem unwrap_any (l : Lk) (g : Nat) (v : Value) (w : World) (hb : Blk w g 105 #[.string l.layer, .string l.call, .int .i64 l.at_, v]) :
    Calls Tryd.prog 83 #[.pointer (some ⟨g, 0, none⟩)] w fun e w' => e = .returned v ∧ w = w' := by
  have h3 : w.cell? ⟨g, 3, none⟩ = some v := hb.cell 3
  go_enter Tryd.func83, Tryd.ntmps83
  go_wp2
  go_ret
  exact ⟨rfl, rfl⟩
theorem code1_reason (j : Nat) (h1 : 1 ≤ j) (h2 : j ≤ 13) (cb : Nat) (x : Int) (w : World) (hs : Sents w S a) (hc : Blk w cb 3 #[.int .i64 x]) :
    Calls Tryd.prog 65 #[reason (a j), .pointer (some ⟨cb, 0, none⟩)] w fun e w' => e = .returned (.bool false) ∧ w' = w.setCell ⟨cb, 0, none⟩ (.int .i64 j) := by
  have c0 : w.cell? ⟨cb, 0, none⟩ = some (.int .i64 x) := hc.cell 0
  have f0 := hc.frozen 0
  go_enter Tryd.func65, Tryd.ntmps65
  repeat' (first | (go_at_call 66; (with_reducible refine (number_reason j h1 h2 S a w hs).mono ?_); rintro _ _ ⟨rfl, rfl⟩; dsimp only) | go_values | go_skip | go_guarded | go_step | go_upon | go_back)
  go_ret
  refine ⟨?_, rfl⟩
  show Ending.returned (.bool ((j : Int) == 0)) = _
  rw [show ((j : Int) == 0) = false from by simp; omega]
theorem code1_fault (x : Option Addr) (p : Option Addr) (w : World) (hs : Sents w S a) :
    Calls Tryd.prog 65 #[.iface 103 (.pointer x), .pointer p] w fun e w' => e = .returned (.bool true) ∧ w = w' := by
  go_enter Tryd.func65, Tryd.ntmps65
  repeat' (first | (go_at_call 66; (with_reducible refine (number_fault x S a w hs).mono ?_); rintro _ _ ⟨rfl, rfl⟩; dsimp only) | go_values | go_skip | go_guarded | go_step | go_upon | go_back)
  go_ret
  exact ⟨rfl, rfl⟩
theorem codes1_fault (x : Option Addr) (p : Option Addr) (w : World) (hs : Sents w S a) :
    Calls Tryd.prog 68 #[.iface 103 (.pointer x), .pointer p] w fun e w' => e = .returned (.bool true) ∧ w = w' := by
  go_enter Tryd.func68, Tryd.ntmps68
  repeat' (first | (go_at_call 66; (with_reducible refine (number_fault x S a w hs).mono ?_); rintro _ _ ⟨rfl, rfl⟩; dsimp only) | go_values | go_skip | go_guarded | go_step | go_upon | go_back)
  go_ret
  exact ⟨rfl, rfl⟩
set_option maxRecDepth 20000 in
/-- the closure that Code hands over: a refusal gone through with it -/
theorem through_code (cb : Nat) (x : Int) (code : Nat) : ∀ (ch : List Lk) (v : Value) (w : World), IsErr w S a ch code v → Sents w S a → Blk w cb 3 #[.int .i64 x] →
    Calls Tryd.prog 64 #[v, .func (.func 65) #[] #[.pointer (some ⟨cb, 0, none⟩)]] w fun e w' => e = .returned (.bool false) ∧ w' = w.setCell ⟨cb, 0, none⟩ (.int .i64 code) := by
  intro ch
  induction ch with
  | nil =>
    rintro v w ⟨h1, h2, rfl⟩ hs hc
    go_enter Tryd.func64, Tryd.ntmps64
    repeat' (first | (go_at_call 65; (with_reducible refine (code1_reason code h1 h2 cb x w hs hc).mono ?_); rintro _ _ ⟨rfl, rfl⟩; dsimp only) | go_values | go_skip | go_guarded | go_step | go_upon | go_back)
    go_ret
    exact ⟨rfl, rfl⟩
  | cons l r ih =>
    rintro v w ⟨g, v, rfl, hg, hb, he⟩ hs hc
    have Hih := hid (ih v w he hs hc)
    clear ih
    go_enter Tryd.func64, Tryd.ntmps64
    repeat' (first | (go_at_call 65; (with_reducible refine (code1_fault _ _ w hs).mono ?_); rintro _ _ ⟨rfl, rfl⟩; dsimp only) | (go_at_call 83; (with_reducible refine (unwrap_any l g v w hb).mono ?_); rintro _ _ ⟨rfl, rfl⟩; dsimp only) | (go_at_call 64; (with_reducible refine (Calls.mono Hih.out ?_)); rintro _ _ ⟨rfl, rfl⟩; dsimp only) | go_values | go_skip | go_guarded | go_step | go_upon | go_back)
    go_ret
    exact ⟨rfl, rfl⟩
theorem code_any (ch : List Lk) (code : Nat) (v : Value) (w : World) (h : IsErr w S a ch code v) (hs : Sents w S a) :
    Calls Tryd.prog 40 #[v] w fun e w' => e = .returned (.int .i64 code) ∧ Below w.heap.size w w' := by
  obtain ⟨t, x, hv⟩ := h.notNil
  have hb0 : Below w.heap.size w (w.alloc (.cells #[.int .i64 99] 3)) := (Below.refl _ _).alloc (Nat.le_refl _) _
  have hnb := Blk.new w 3 #[.int .i64 99]
  have HT := hid (through_code w.heap.size 99 code ch v _ (h.step hb0) (hs.step hb0) hnb)
  have hc2 : ((w.alloc (.cells #[.int .i64 99] 3)).setCell ⟨w.heap.size, 0, none⟩ (.int .i64 code)).cell? ⟨w.heap.size, 0, none⟩ = some (.int .i64 code) := (hnb.set_ 0 _).cell 0
  have HC := hid hc2
  clear hnb hc2
  subst hv
  go_enter Tryd.func40, Tryd.ntmps40
  repeat' (first | (go_at_call 64; (with_reducible refine (Calls.mono HT.out ?_)); rintro _ _ ⟨rfl, rfl⟩; have hc3 := HC.out; dsimp only) | go_values | go_skip | go_guarded | go_step | go_upon | go_back)
  go_ret
  exact ⟨rfl, (Below.refl _ _).alloc (Nat.le_refl _) _⟩
end Go.Proofs.YtnpbbidiloahdaaDoor
