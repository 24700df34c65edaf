/- Part of a proof: what functions of the program compute. Conditions: as each theorem says. -/
import Derived.Test.YteggpddlkkjmjaaGreatDoorQ62
set_option linter.unusedSimpArgs false
set_option linter.unusedVariables false
set_option maxRecDepth 100000
namespace Go.Proofs.YteggpddlkkjmjaaGreatDoor
open Go Go.RowKit Go.ChangeShapes Go.WideShapes Go.ChangeAt Go.Deep
section
variable {H : Type} {enc : TypeId × Value → H} {W : World} {fuel : Nat}
theorem ints8_of_cells {v : Value} {y : DataW H × List MemPlace} (h : DataW.trod enc Tryz.prog W 0 (fun _ => true) true fuel 60 [v] = some y) :
 ∃ A n c, ∃ es : List Int, v = .slice A n c ∧ GRow W (fun b => b < W.heap.size) A n c es ∧ ∀ e ∈ es, I64 e :=
 grow_of_cells (α := Int) (t := 3) Tryz.underlying60 (by kernel_rfl) (by decide) I64 (fun fuel cs x hl h => by
  match cs, hl with
  | [u], _ =>
   obtain ⟨n, e, q⟩ := one_of_trod Tryz.underlying3 h rfl
   exact ⟨n, e, wf_i64 q⟩) h
end
section
variable {H : Type} {enc : TypeId × Value → H} {W : World} {v : Value} {d : DataW H} {p : List MemPlace} {r : Reach} {b0 : Nat}
theorem ints8_of_trod (hv : Value.okWide Tryz.prog W r b0 60 v) (h : DataW.Trod enc Tryz.prog W 0 (fun _ => true) true 60 v d p) :
 ∃ A n c, ∃ es : List Int, v = .slice A n c ∧ GRow W (fun b => b < W.heap.size) A n c es ∧ ∀ e ∈ es, I64 e := by
 obtain ⟨fuel, h⟩ := h
 obtain ⟨a', len', cap', rfl⟩ := okWide_slice Tryz.underlying60 hv
 exact ints8_of_cells h
end
end Go.Proofs.YteggpddlkkjmjaaGreatDoor
