/- Part of a proof: what functions of the program compute. Conditions: as each theorem says. -/
import Derived.Carry
import Derived.Deep.DeepCutAuto
import Derived.Deep.DeepHandedRow
import Derived.Deep.Slices
import Derived.Deep.Strs
import Derived.DeepKeys4
import Derived.LaidEql
import Derived.LaidSub
import Derived.Laws.Externs
import Derived.Laws.StructEq
import Derived.MakeChecks
import Derived.Maps.OwnSet
import Derived.OpenShut
import Derived.OrdersIn
import Derived.ProofKit
import Derived.RangeFuncBound
import Derived.RangeFuncCalls
import Derived.RangeFuncLeaves
import Derived.RangeFuncNested
import Derived.Shelf.Abstract
import Derived.Shelf.Strings.BuilderK
import Derived.Shelf.Strings.BuilderRune
import Derived.Stop.LaidTwo
import Derived.TacticsIn
import Derived.Test.YteggpddlkkjmjaaGreatDoorCards
import Derived.Test.YteggpddlkkjmjaaGreatDoorTie
import Derived.Test.YteggpddlkkjmjaaGreatDoorQ2
set_option linter.unusedSimpArgs false
set_option linter.unusedVariables false
namespace Go.Proofs.YteggpddlkkjmjaaGreatDoor
open Go Go.RowKit
theorem GOwn.otherT {α : Type} [Enc α] {u : TypeId} {w w' : World} {base n c : Nat} {P : Option Addr} {es : List α} (h : GOwn u w base P n c es) (hs : Same (fun k => ∀ g, P = some g → g.block ≠ k) w w') {b : Nat} {o : Obj} (hb : w.heap[b]? = some o) (ho : ∀ cs z, o ≠ .cells cs u z) :
 w'.heap[b]? = some o := by
 refine (hs b (fun g hg e => ?_) (lt_of_heap hb)).trans hb
 rcases h.2.2 with h0 | ⟨g', cap, cur, e', hbg, hh, r⟩
 · injection h0.1 with h0
   rw [hg] at h0
   cases h0
 · injection e' with e1 e2 e3
   rw [hg] at e1
   injection e1 with e1
   subst e1
   have e : g' = b := e
   subst e
   rw [hh] at hb
   injection hb with hb
   exact ho _ _ hb.symm
end Go.Proofs.YteggpddlkkjmjaaGreatDoor
