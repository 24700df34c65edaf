/- A refusal of the document, reasons, in a later world. No condition. -/
import Derived.Test.YtfihjajllfihjaaDoorErr4
namespace Go.Proofs.YtfihjajllfihjaaDoor
set_option linter.unusedSimpArgs false
set_option linter.unusedVariables false
open Go Go.RowKit
variable {a : Nat → Addr}
theorem IsNo.re {w w' : World} {S S' : Nat → Prop} {ch : List Lk} {code : Nat} {v : Value} (h : IsNo w S ch code v) (hz : w.heap.size ≤ w'.heap.size) (hs : Same S w w') (hS : ∀ b, S b → S' b) : IsNo w' S' ch code v := by
  obtain ⟨h1, A, n, c, B, d, rfl, hr1, hr2⟩ := h
  exact ⟨h1, A, n, c, B, d, rfl, (hr1.keep hz hs).more fun b _ h => hS b h, (hr2.keep hz hs).more fun b _ h => hS b h⟩
theorem Sents.wide {w : World} {S : Nat → Prop} (h : Sents w S a) : Sents w (fun _ => True) a := ⟨h.cell, fun _ _ _ => trivial, fun _ _ _ => trivial, h.inj, h.plain⟩
theorem Sents.narrow {w : World} {S : Nat → Prop} (h : Sents w S a) : Sents w (fun b => b < w.heap.size) a := ⟨h.cell, fun k h1 h2 => lt_of_cell' (h.cell k h1 h2), fun k h1 h2 => (h.plain k h1 h2).elim fun _ h => h.elim fun _ h => lt_of_heap' h, h.inj, h.plain⟩
end Go.Proofs.YtfihjajllfihjaaDoor
