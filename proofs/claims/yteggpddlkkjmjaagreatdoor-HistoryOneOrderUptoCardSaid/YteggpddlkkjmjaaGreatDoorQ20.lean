/- Part of a proof: what functions of the program compute. Conditions: as each theorem says. -/
import Derived.Test.YteggpddlkkjmjaaGreatDoorQ13
set_option linter.unusedSimpArgs false
set_option linter.unusedVariables false
namespace Go.Proofs.YteggpddlkkjmjaaGreatDoor
open Go Go.RowKit
theorem Tof_kind (a b : Opn) : (Tof a b).kind = a.kind := by unfold Tof; split <;> rfl
def fitOf (o : Opn) (n : Nat) (r : Int) : Opn × Bool :=
 if 1 + o.kind % 3 = 1 then (⟨1, o.at_ % ((n : Int) + 1), if rightC o.char then o.char else 99, r⟩, true)
 else if n = 0 then (⟨1 + o.kind % 3, o.at_, 0, r⟩, false) else (⟨1 + o.kind % 3, o.at_ % n, 0, r⟩, true)
theorem Tof_fold_kind (s : Lg) : ∀ (L : List Actn) (p : List Bool × Opn), (L.foldl (metStep s) p).2.kind = p.2.kind
 | [], p => rfl
 | y :: L, p => by
  rw [List.foldl_cons, Tof_fold_kind s L]
  unfold metStep
  split
  · exact Tof_kind _ _
  · rfl
theorem form_kind (s : Lg) (x : Actn) : (s.form x).kind = x.op.kind := Tof_fold_kind s _ _
end Go.Proofs.YteggpddlkkjmjaaGreatDoor
