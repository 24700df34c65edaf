/- Part of a proof: what functions of the program compute. Conditions: as each theorem says. -/
import Derived.Carry
import Derived.Deep.DeepCutAuto
import Derived.Deep.DeepHandedRow
import Derived.Deep.Slices
import Derived.Deep.Strs
import Derived.DeepKeys4
import Derived.LaidEql
import Derived.LaidSub
import Derived.Laws.StructEq
import Derived.MakeChecks
import Derived.Maps.OwnSet
import Derived.OpenShut
import Derived.OrdersIn
import Derived.ProofKit
import Derived.RangeFuncBound
import Derived.RangeFuncCalls
import Derived.RangeFuncLeaves
import Derived.RangeFuncNested
import Derived.Shelf.Abstract
import Derived.Stop.LaidTwo
import Derived.TacticsIn
import Derived.Test.YteggpddlkkjmjaaGreatDoorCards
import Derived.Test.YteggpddlkkjmjaaGreatDoorTie
import Derived.Test.YteggpddlkkjmjaaGreatDoorQ2
set_option linter.unusedSimpArgs false
set_option linter.unusedVariables false
namespace Go.Proofs.YteggpddlkkjmjaaGreatDoor
open Go Go.RowKit
theorem gown_at {α : Type} [Enc α] {t : TypeId} {w : World} {base : Nat} {A : Option Addr} {n c : Nat} {es : List α} (h : GOwn t w base A n c es) (hn : 0 < n) : ∃ g cur, A = some ⟨g, 0, none⟩ ∧ base ≤ g ∧ Blk w g t cur ∧ cur.size = c * Enc.k α ∧ n ≤ c ∧ cur.toList.take (n * Enc.k α) = gcells es := by
 rcases h.2.2 with ⟨_, h0⟩ | ⟨g, cap, cur, e, hbg, hh, h1, h2, h3, h4⟩
 · omega
 · injection e with e1 e2 e3
   subst e3
   exact ⟨g, cur, e1, hbg, hh, h3, h1, h4⟩
end Go.Proofs.YteggpddlkkjmjaaGreatDoor
