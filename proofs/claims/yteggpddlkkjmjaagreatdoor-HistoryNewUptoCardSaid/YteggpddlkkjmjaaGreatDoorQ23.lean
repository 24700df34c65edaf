/- Part of a proof: what functions of the program compute. Conditions: as each theorem says. -/
import Derived.Test.YteggpddlkkjmjaaGreatDoorQ13
set_option linter.unusedSimpArgs false
set_option linter.unusedVariables false
namespace Go.Proofs.YteggpddlkkjmjaaGreatDoor
open Go Go.RowKit
theorem ixOf_mem {l : List El} {id : Nm} (h : id ∈ l.map El.nm) : ∃ k, ixOf l id = some k := by
 cases hk : ixOf l id with
 | some k => exact ⟨k, rfl⟩
 | none =>
  unfold ixOf at hk
  rw [List.findIdx?_eq_none_iff] at hk
  obtain ⟨x, hx, hn⟩ := List.mem_map.1 h
  have := hk x hx
  simp [hn] at this
end Go.Proofs.YteggpddlkkjmjaaGreatDoor
