/- Part of a proof: what functions of the program compute. Conditions: as each theorem says. -/
import Derived.Test.YteggpddlkkjmjaaGreatDoorQ27
set_option linter.unusedSimpArgs false
set_option linter.unusedVariables false
set_option maxRecDepth 100000
namespace Go.Proofs.YteggpddlkkjmjaaGreatDoor
open Go Go.RowKit Go.ChangeShapes Go.WideShapes Go.ChangeAt Go.Deep
theorem okWide_arr {P : Program} {w : World} {r : Reach} {base : Nat} {t : TypeId} {v : Value} {n : Nat} {e : TypeId} (ht : P.underlying t = some (.array n e)) (h : Value.okWide P w r base t v) : ∃ cs, v = .agg cs ∧ cs.size = P.cellsOf t := by
 simp only [Value.okWide, ht] at h
 obtain ⟨cs, h1, h2, _⟩ := h
 exact ⟨cs, h1, h2⟩
section
variable {H : Type} {enc : TypeId × Value → H} {W : World} {v : Value} {d : DataW H} {p : List MemPlace} {r : Reach} {b0 : Nat}
theorem clk8_of_trod (hv : Value.okWide Tryz.prog W r b0 44 v) (h : DataW.Trod enc Tryz.prog W 0 (fun _ => true) true 44 v d p) :
 ∃ q : Clk, v = q.agg ∧ q.In := by
 obtain ⟨fuel, h⟩ := h
 obtain ⟨cs, rfl, hcs⟩ := okWide_arr Tryz.underlying44 hv
 have c8 : Tryz.prog.cellsOf 44 = 8 := by kernel_rfl
 rw [c8] at hcs
 obtain ⟨q, e, hq⟩ := clk_of_trod (cs := cs.toList) (by simpa using hcs) (by simpa [Value.cells] using h)
 exact ⟨q, by unfold Clk.agg; rw [← Array.toList_inj.1 e], hq⟩
end
end Go.Proofs.YteggpddlkkjmjaaGreatDoor
