/- What an iterator's doing, a round's beginning leave standing: trees, rows, blocks of cells; two blocks turned; a loop unrolled. No condition. -/
import Derived.Test.YtfihjajllfihjaaGreatDoorP16
namespace Go.Proofs.YtfihjajllfihjaaGreatDoor
set_option linter.unusedSimpArgs false
set_option linter.unusedVariables false
open Go Go.RowKit

/-- block b is one of two cells or more -/
def Big (W : World) (b : Nat) : Prop := ∃ cs u z, W.heap[b]? = some (.cells cs u z) ∧ 2 ≤ cs.size
theorem Big.of_cell {W : World} {b o : Nat} {v : Value} (h : W.cell? ⟨b, o, none⟩ = some v) (ho : 1 ≤ o) : Big W b := by
  unfold World.cell? at h
  cases hh : W.heap[b]? with
  | none => rw [show ((⟨b, o, none⟩ : Addr)).block = b from rfl, hh] at h; cases h
  | some x =>
    rw [show ((⟨b, o, none⟩ : Addr)).block = b from rfl, hh] at h
    cases x with
    | cells cs u z =>
      simp at h
      refine ⟨cs, u, z, hh, ?_⟩
      have := (Array.getElem?_eq_some_iff.1 h).1
      omega
    | _ => cases h
theorem Row.strict {w : World} {S : Nat → Prop} {A : Option Addr} {n c : Nat} {es : List El} (h : Row w S A n c es) : Row w (fun b => S b ∧ Big w b) A n c es := by
  refine ⟨h.1, h.2.1, h.2.2.1, fun hn => ?_⟩
  obtain ⟨b, off, e, hs, hc⟩ := h.2.2.2 hn
  refine ⟨b, off, e, ⟨hs, ?_⟩, hc⟩
  have hl : 1 < (cellsOf es).length := by rw [cellsOf_length, h.1]; omega
  exact Big.of_cell (o := off + 1) (hc 1 _ (List.getElem?_eq_getElem hl)) (by omega)
theorem IsTree.strict {w : World} {S : Nat → Prop} : ∀ {t : Tr} {p : Option Addr}, IsTree w S t p → IsTree w (fun b => S b ∧ Big w b) t p := by
  intro t
  induction t with
  | nil => intro p h; exact h
  | node l row r ihl ihr =>
    rintro p ⟨hne, b, A, n, c, pl, pr, rfl, hs, hr, hl, hr', c0, c1, c2, c3, c4, c5, c6⟩
    exact ⟨hne, b, A, n, c, pl, pr, rfl, ⟨hs, Big.of_cell c1 (Nat.le_refl _)⟩, hr.strict, ihl hl, ihr hr', c0, c1, c2, c3, c4, c5, c6⟩
theorem Turn.big {t : TypeId} {base : Nat} {A B : World} (h : Turn t base A B) {S : Nat → Prop} : Same (fun b => S b ∧ Big A b) A B := fun b hb _ => by
  obtain ⟨cs, u, z, hc, hz⟩ := hb.2
  exact h.cells b cs u z hc fun ⟨_, _, h1⟩ => by omega
theorem IsTree.turn {t : TypeId} {base : Nat} {A B : World} {S : Nat → Prop} {T : Tr} {p : Option Addr} (h : IsTree A S T p) (hT : Turn t base A B) : IsTree B S T p := ((h.strict).keep hT.big).more fun _ _ h => h.1
theorem Row.turn {t : TypeId} {base : Nat} {A B : World} {S : Nat → Prop} {a : Option Addr} {n c : Nat} {es : List El} (h : Row A S a n c es) (hT : Turn t base A B) : Row B S a n c es := ((h.strict).keep hT.big).more fun _ _ h => h.1
theorem Blk.turn {t u : TypeId} {base g : Nat} {A B : World} {cs : Array Value} (h : Blk A g u cs) (hT : Turn t base A B) (hg : g < base) : Blk B g u cs := (hT.low g h.lt hg).trans h
theorem Begun.big {l : Nat} {A B : World} (h : Begun l A B) {S : Nat → Prop} : Same (fun b => S b ∧ Big A b) A B := fun b hb _ => by
  obtain ⟨cs, u, z, hc, _⟩ := hb.2
  obtain ⟨r, r', hr, _⟩ := h.record
  exact h.block b fun e => by subst e; rw [hr] at hc; cases hc
theorem Begun.row {l : Nat} {A B : World} {S : Nat → Prop} {a : Option Addr} {n c : Nat} {es : List El} (hT : Begun l A B) (h : Row A S a n c es) : Row B S a n c es := ((h.strict).keep hT.big).more fun _ _ h => h.1
theorem Begun.blk {l g : Nat} {u : TypeId} {A B : World} {cs : Array Value} (hT : Begun l A B) (h : Blk A g u cs) : Blk B g u cs := by
  obtain ⟨r, r', hr, _⟩ := hT.record
  exact (hT.block g fun e => by subst e; unfold Blk at h; rw [hr] at h; cases h).trans h

/-- all but blocks x and y stands -/
structure But2 (x y : Nat) (w w' : World) : Prop where
  os : w'.os = w.os
  tape : w'.tape = w.tape
  output : w'.output = w.output
  size : w.heap.size ≤ w'.heap.size
  block : ∀ k, k < w.heap.size → k ≠ x → k ≠ y → w'.heap[k]? = w.heap[k]?
section
variable {x y : Nat} {w w' w'' : World}
theorem But2.refl (x y : Nat) (w : World) : But2 x y w w := ⟨rfl, rfl, rfl, Nat.le_refl _, fun _ _ _ _ => rfl⟩
theorem But2.trans (h : But2 x y w w') (k : But2 x y w' w'') : But2 x y w w'' :=
  ⟨k.os.trans h.os, k.tape.trans h.tape, k.output.trans h.output, Nat.le_trans h.size k.size, fun b hb h1 h2 => (k.block b (Nat.lt_of_lt_of_le hb h.size) h1 h2).trans (h.block b hb h1 h2)⟩
theorem But2.of_below (h : Below w.heap.size w w') : But2 x y w w' := ⟨h.os, h.tape, h.output, h.size, fun b hb _ _ => h.block b hb⟩
theorem But2.of_but (h : But x w w') : But2 x y w w' := ⟨h.os, h.tape, h.output, h.size, fun b hb h1 _ => h.block b hb h1⟩
theorem But2.blk {g : Nat} {t : TypeId} {cs : Array Value} (h : But2 x y w w') (hb : Blk w g t cs) (h1 : g ≠ x) (h2 : g ≠ y) : Blk w' g t cs := (h.block g hb.lt h1 h2).trans hb
theorem But2.same (h : But2 x y w w') : Same (fun b => b ≠ x ∧ b ≠ y) w w' := fun b hb hl => h.block b hl hb.1 hb.2
theorem But2.below {base : Nat} (h : But2 x y w' w'') (hb : Below base w w') (hbs : base ≤ w.heap.size) (hx : base ≤ x) (hy : base ≤ y) : Below base w w'' :=
  ⟨h.os.trans hb.os, h.tape.trans hb.tape, h.output.trans hb.output, Nat.le_trans hb.size h.size, fun k hk => (h.block k (by have := hb.size; omega) (by omega) (by omega)).trans (hb.block k hk)⟩
theorem But2.begun {l : Nat} (h : But2 x y w w') (hg : Begun l w' w'') (hl : w.heap.size ≤ l) : But2 x y w w'' :=
  ⟨hg.os.trans h.os, hg.tape.trans h.tape, hg.output.trans h.output, by rw [hg.size]; exact h.size, fun k hk h1 h2 => (hg.block k (by omega)).trans (h.block k hk h1 h2)⟩
theorem But2.turn {t : TypeId} (h : But2 x y w w') (hT : Turn t w.heap.size w' w'') : But2 x y w w'' :=
  ⟨hT.os.trans h.os, hT.tape.trans h.tape, hT.output.trans h.output, Nat.le_trans h.size hT.size, fun k hk h1 h2 => (hT.low k (Nat.lt_of_lt_of_le hk h.size) hk).trans (h.block k hk h1 h2)⟩
end
theorem zipIdx_prefix {l : List El} {pre : List (El × Nat)} {x : El × Nat} (h : pre ++ [x] <+: l.zipIdx) : x.2 = pre.length ∧ l[pre.length]? = some x.1 ∧ pre.length < l.length := by
  obtain ⟨r, hr⟩ := h
  have h1 : l.zipIdx[pre.length]? = some x := by rw [← hr, List.append_assoc, List.getElem?_append_right (Nat.le_refl _)]; simp
  rw [List.getElem?_zipIdx] at h1
  cases hl : l[pre.length]? with
  | none => rw [hl] at h1; cases h1
  | some e =>
    rw [hl] at h1
    simp at h1
    subst h1
    exact ⟨rfl, rfl, (List.getElem?_eq_some_iff.1 hl).1⟩
/-- a loop of a few rounds, unrolled -/
def roundsW (P : Program) (c : Code) (Q : Exit → Act → World → Prop) : Nat → Act → World → Prop
  | 0, _, _ => False
  | n + 1, a, w => c.wp P (Exit.then (roundsW P c Q n) Q) a w
/-- a range over a function that may be broken off: both ways go on alike -/
theorem wp_rangeFunc_block {α : Type} {P : Program} {id : Nat} {g : Operand} {ps : Array Tmp} {assign body : Code} {Q : Exit → Act → World → Prop} {a : Act} {w : World} (t : TypeId)
    {gf : Nat} {lb : Array Value} (hg : a.eval g = .func (.func gf) #[] lb) (eg : ∀ args w, (callFunc gf args).run P w = .ok (.enter gf args) w)
    {encs : α → Array Value} {Kp : World → World → Prop} {S : List α → Prop} {G : List α → α → Prop} (hseq : SeqT P t gf lb encs Kp S G w)
    (hKt : ∀ {A B C : World}, Kp A B → Kp B C → Kp A C) (hKb : ∀ (W : World) (l : Nat) (o o' : Obj), w.heap.size ≤ l → W.heap[l]? = some o → o.isCells = false → Kp W (W.putObj l o')) (hps : ∀ x, (encs x).size = ps.size)
    (I : List α → World → Prop) (E : World → Prop) (hI : Abides t w.heap.size I) (hE : Abides t w.heap.size (fun (_ : Unit) => E)) (h0 : I [] w)
    (hround : ∀ (l : Nat) (pre : List α) (x : α) (W : World), w.heap.size ≤ l → (∃ r, W.heap[l]? = some (.loop r)) → I pre W → G pre x →
      assign.wpIn (Wr l) 0 P (Exit.then (fun a' W' => KeepN w.heap.size W W' ∧ Kp W W' ∧ ∀ W2, Begun l W' W2 → body.wpIn (Wr l) 0 P (roundEnd w.heap.size Kp I (fun c _ W => c = .exit id ∧ E W) (pre ++ [x]) W2) a' W2) (fun _ _ _ => False))
        { tmps := putArgs ps (encs x) a.tmps, defers := [] } W)
    (hdone : ∀ xs W, S xs → I xs W → E W)
    (hend : ∀ (D : Nat) (W : World), w.heap.size ≤ D → E W → W.heap[D]? = some (.deferred (some [])) → Q .normal { a with defers := { target := .collected D, args := #[] } :: a.defers } W) :
    (Code.block id (Code.rangeFunc g ps assign body)).wp P Q a w := by
  refine wp_block (wp_rangeFunc t hg eg hseq hKt hKb hps I (fun c _ W => c = .exit id ∧ E W) hI (fun c s A B h hT => ⟨h.1, hE () A B h.2 hT⟩) h0 hround ?_ ?_)
  · intro D xs W hD hS hi hK
    exact hend D W hD (hdone xs W hS hi) hK
  · rintro D c pre W hD ⟨rfl, he⟩ hK
    refine wp_exit ?_
    simp only [Exit.inBlock, if_true]
    exact hend D W hD he hK
theorem stop_block (id : Nat) {P : Program} {c : Code} {Q : Exit → Act → World → Prop} {a : Act} {w : World} (h : Stop ((Code.block id c).wp P Q a w)) : (Code.block id c).wp P Q a w := by unfold Stop at h; exact h
attribute [irreducible] roundsW
end Go.Proofs.YtfihjajllfihjaaGreatDoor
