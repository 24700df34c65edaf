/-
  DERIVED. GIVEN WITH THE SEED: THE CARDS: each row of YtogkbddniacgiaaDoorRows.lean that lists a variable, with what it lists TIED to the program's text (the seventh form; the later family's looks); each row that meets fmt, with fmt's text TOLD by the authors' own Lean function (tested against real Go, not proved from fmt's source: count such statements apart). THE CARD IS WHAT COUNTS. Prove the row's statement (the work); the ties are given (YtogkbddniacgiaaDoorTie.lean); close each card by the builder's one call (the guide's Derived/Test/ToyasCard.lean, 'card_holds'). Laid BY PROGRAM, IN A SANDBOX (cutbox-door.mjs). By AI agents, Wed Nov 11 2026. No macro, syntax, notation, axiom, sorry.
-/
import Derived.Test.YtogkbddniacgiaaDoorRows
import GoSem.ClaimSeven
namespace Go.Proofs.YtogkbddniacgiaaDoor
namespace Rows

/-- THE TIED CARD OF 'barrowlaw04.TreeRange'. -/
def treeRangeCard : Claim7 := { stood := { row := treeRangeRow, standIns := [], harness := (true, "ee9f810fc8643b82e2d59c3c575d9a50dc5371cf5a9ed7ef55b98133243384ca"), looks := true }, kinds := [], alts := [], laidByText := true, laidKinds := [.sentinel, .sentinel], laidTests := true, laidLooks := .later }
def TreeRangeCardSaid : Prop := Claim7.holds Tryd.pinned (.plain (OpenSpec.ofChange treeRangeSpec)) treeRangeCard

/-- THE TIED CARD OF 'barrowlaw04.TreeNews'. -/
def treeNewsCard : Claim7 := { stood := { row := treeNewsRow, standIns := [], harness := (true, "ee9f810fc8643b82e2d59c3c575d9a50dc5371cf5a9ed7ef55b98133243384ca"), looks := true }, kinds := [], alts := [], laidByText := true, laidKinds := [.sentinel, .sentinel, .sentinel, .sentinel, .sentinel, .sentinel, .sentinel, .sentinel, .sentinel, .sentinel, .sentinel, .sentinel, .sentinel, .sentinel], laidTests := true, laidLooks := .later }
def TreeNewsCardSaid : Prop := Claim7.holds Tryd.pinned (.plain (OpenSpec.ofChange treeNewsSpec)) treeNewsCard

/-- THE TIED CARD OF 'barrowlaw07.XformT'. -/
def xformTCard : Claim7 := { stood := { row := xformTRow, standIns := [], harness := (true, "ee9f810fc8643b82e2d59c3c575d9a50dc5371cf5a9ed7ef55b98133243384ca"), looks := true }, kinds := [], alts := [], laidByText := true, laidKinds := [.sentinel, .sentinel, .sentinel, .sentinel], laidTests := true, laidLooks := .later }
def XformTCardSaid : Prop := Claim7.holds Tryd.pinned (.plain (OpenSpec.ofChange xformTSpec)) xformTCard

/-- THE TIED CARD OF 'barrowlaw07.XformTwo'. -/
def xformTwoCard : Claim7 := { stood := { row := xformTwoRow, standIns := [], harness := (true, "ee9f810fc8643b82e2d59c3c575d9a50dc5371cf5a9ed7ef55b98133243384ca"), looks := true }, kinds := [], alts := [], laidByText := true, laidKinds := [.sentinel, .sentinel, .sentinel, .sentinel], laidTests := true, laidLooks := .later }
def XformTwoCardSaid : Prop := Claim7.holds Tryd.pinned (.plain (OpenSpec.ofChange xformTwoSpec)) xformTwoCard

/-- THE TIED CARD OF 'barrowlaw07.XformThree'. -/
def xformThreeCard : Claim7 := { stood := { row := xformThreeRow, standIns := [], harness := (true, "ee9f810fc8643b82e2d59c3c575d9a50dc5371cf5a9ed7ef55b98133243384ca"), looks := true }, kinds := [], alts := [], laidByText := true, laidKinds := [.sentinel, .sentinel, .sentinel, .sentinel], laidTests := true, laidLooks := .later }
def XformThreeCardSaid : Prop := Claim7.holds Tryd.pinned (.plain (OpenSpec.ofChange xformThreeSpec)) xformThreeCard

/-- THE TIED CARD OF 'barrowlaw07.XformNames'. -/
def xformNamesCard : Claim7 := { stood := { row := xformNamesRow, standIns := [], harness := (true, "ee9f810fc8643b82e2d59c3c575d9a50dc5371cf5a9ed7ef55b98133243384ca"), looks := true }, kinds := [], alts := [], laidByText := true, laidKinds := [.sentinel, .sentinel, .sentinel, .sentinel], laidTests := true, laidLooks := .later }
def XformNamesCardSaid : Prop := Claim7.holds Tryd.pinned (.plain (OpenSpec.ofChange xformNamesSpec)) xformNamesCard

/-- THE TIED CARD OF 'barrowlaw04.TreeChunks'. -/
def treeChunksCard : Claim7 := { stood := { row := treeChunksRow, standIns := [], harness := (true, "ee9f810fc8643b82e2d59c3c575d9a50dc5371cf5a9ed7ef55b98133243384ca"), looks := true }, kinds := [], alts := [], laidByText := true, laidKinds := [.sentinel, .sentinel, .sentinel, .sentinel, .sentinel, .sentinel, .sentinel, .sentinel, .sentinel, .sentinel, .sentinel, .sentinel, .sentinel, .sentinel], laidTests := true, laidLooks := .later }
def TreeChunksCardSaid : Prop := Claim7.holds Tryd.pinned (.plain (OpenSpec.ofChange treeChunksSpec)) treeChunksCard

/-- THE TIED CARD OF 'barrowlaw07.XformBack'. -/
def xformBackCard : Claim7 := { stood := { row := xformBackRow, standIns := [], harness := (true, "ee9f810fc8643b82e2d59c3c575d9a50dc5371cf5a9ed7ef55b98133243384ca"), looks := true }, kinds := [], alts := [], laidByText := true, laidKinds := [.sentinel, .sentinel, .sentinel, .sentinel], laidTests := true, laidLooks := .later }
def XformBackCardSaid : Prop := Claim7.holds Tryd.pinned (.plain (OpenSpec.ofChange xformBackSpec)) xformBackCard

/-- THE TIED CARD OF 'barrowlaw07.XformRight'. -/
def xformRightCard : Claim7 := { stood := { row := xformRightRow, standIns := [], harness := (true, "ee9f810fc8643b82e2d59c3c575d9a50dc5371cf5a9ed7ef55b98133243384ca"), looks := true }, kinds := [], alts := [], laidByText := true, laidKinds := [.sentinel, .sentinel, .sentinel, .sentinel], laidTests := true, laidLooks := .later }
def XformRightCardSaid : Prop := Claim7.holds Tryd.pinned (.plain (OpenSpec.ofChange xformRightSpec)) xformRightCard

/-- THE TIED CARD OF 'barrowlaw07.XformCross'. -/
def xformCrossCard : Claim7 := { stood := { row := xformCrossRow, standIns := [], harness := (true, "ee9f810fc8643b82e2d59c3c575d9a50dc5371cf5a9ed7ef55b98133243384ca"), looks := true }, kinds := [], alts := [], laidByText := true, laidKinds := [.sentinel, .sentinel, .sentinel, .sentinel], laidTests := true, laidLooks := .later }
def XformCrossCardSaid : Prop := Claim7.holds Tryd.pinned (.plain (OpenSpec.ofChange xformCrossSpec)) xformCrossCard

/-- THE TIED CARD OF 'barrowlaw07.XformLists'. -/
def xformListsCard : Claim7 := { stood := { row := xformListsRow, standIns := [], harness := (true, "ee9f810fc8643b82e2d59c3c575d9a50dc5371cf5a9ed7ef55b98133243384ca"), looks := true }, kinds := [], alts := [], laidByText := true, laidKinds := [.sentinel, .sentinel, .sentinel, .sentinel], laidTests := true, laidLooks := .later }
def XformListsCardSaid : Prop := Claim7.holds Tryd.pinned (.plain (OpenSpec.ofChange xformListsSpec)) xformListsCard

/-- THE TIED CARD OF 'barrowlaw04.TreeFinds'. -/
def treeFindsCard : Claim7 := { stood := { row := treeFindsRow, standIns := [], harness := (true, "ee9f810fc8643b82e2d59c3c575d9a50dc5371cf5a9ed7ef55b98133243384ca"), looks := true }, kinds := [], alts := [], laidByText := true, laidKinds := [.sentinel, .sentinel, .sentinel, .sentinel, .sentinel, .sentinel, .sentinel, .sentinel, .sentinel, .sentinel, .sentinel, .sentinel, .sentinel, .sentinel], laidTests := true, laidLooks := .later }
def TreeFindsCardSaid : Prop := Claim7.holds Tryd.pinned (.plain (OpenSpec.ofChange treeFindsSpec)) treeFindsCard

/-- THE TIED CARD OF 'barrowlaw07.XformSwap'. -/
def xformSwapCard : Claim7 := { stood := { row := xformSwapRow, standIns := [], harness := (true, "ee9f810fc8643b82e2d59c3c575d9a50dc5371cf5a9ed7ef55b98133243384ca"), looks := true }, kinds := [], alts := [], laidByText := true, laidKinds := [.sentinel, .sentinel, .sentinel, .sentinel], laidTests := true, laidLooks := .later }
def XformSwapCardSaid : Prop := Claim7.holds Tryd.pinned (.plain (OpenSpec.ofChange xformSwapSpec)) xformSwapCard

/-- THE TIED CARD OF 'barrowlaw04.TreeExact'. -/
def treeExactCard : Claim7 := { stood := { row := treeExactRow, standIns := [], harness := (true, "ee9f810fc8643b82e2d59c3c575d9a50dc5371cf5a9ed7ef55b98133243384ca"), looks := true }, kinds := [], alts := [], laidByText := true, laidKinds := [.sentinel, .sentinel, .sentinel, .sentinel, .sentinel, .sentinel, .sentinel, .sentinel, .sentinel, .sentinel, .sentinel, .sentinel, .sentinel, .sentinel], laidTests := true, laidLooks := .later }
def TreeExactCardSaid : Prop := Claim7.holds Tryd.pinned (.plain (OpenSpec.ofChange treeExactSpec)) treeExactCard

/-- THE TIED CARD OF 'barrowlaw07.XformInverse'. -/
def xformInverseCard : Claim7 := { stood := { row := xformInverseRow, standIns := [], harness := (true, "ee9f810fc8643b82e2d59c3c575d9a50dc5371cf5a9ed7ef55b98133243384ca"), looks := true }, kinds := [], alts := [], laidByText := true, laidKinds := [.sentinel, .sentinel, .sentinel, .sentinel], laidTests := true, laidLooks := .later }
def XformInverseCardSaid : Prop := Claim7.holds Tryd.pinned (.plain (OpenSpec.ofChange xformInverseSpec)) xformInverseCard

/-- THE TIED CARD OF 'barrowlaw07.XformApply'. -/
def xformApplyCard : Claim7 := { stood := { row := xformApplyRow, standIns := [], harness := (true, "ee9f810fc8643b82e2d59c3c575d9a50dc5371cf5a9ed7ef55b98133243384ca"), looks := true }, kinds := [], alts := [], laidByText := true, laidKinds := [.sentinel, .sentinel, .sentinel, .sentinel, .sentinel, .sentinel, .sentinel, .sentinel, .sentinel, .sentinel, .sentinel, .sentinel, .sentinel, .sentinel], laidTests := true, laidLooks := .later }
def XformApplyCardSaid : Prop := Claim7.holds Tryd.pinned (.plain (OpenSpec.ofChange xformApplySpec)) xformApplyCard

/-- THE SECOND FORM's CARD OF 'barrowlaw04.TreeRange'. -/
def treeRangeUptoCard : Claim7 := { stood := { row := treeRangeUptoRow, standIns := [], harness := (true, "ee9f810fc8643b82e2d59c3c575d9a50dc5371cf5a9ed7ef55b98133243384ca"), looks := true }, kinds := [], alts := [], laidByText := true, laidKinds := [.sentinel, .sentinel], laidTests := true, laidLooks := .later }
def TreeRangeUptoCardSaid : Prop := Claim7.holds Tryd.pinned (.plain (OpenSpec.upto treeRangeSpec)) treeRangeUptoCard

/-- THE SECOND FORM's CARD OF 'barrowlaw04.TreeNews'. -/
def treeNewsUptoCard : Claim7 := { stood := { row := treeNewsUptoRow, standIns := [], harness := (true, "ee9f810fc8643b82e2d59c3c575d9a50dc5371cf5a9ed7ef55b98133243384ca"), looks := true }, kinds := [], alts := [], laidByText := true, laidKinds := [.sentinel, .sentinel, .sentinel, .sentinel, .sentinel, .sentinel, .sentinel, .sentinel, .sentinel, .sentinel, .sentinel, .sentinel, .sentinel, .sentinel], laidTests := true, laidLooks := .later }
def TreeNewsUptoCardSaid : Prop := Claim7.holds Tryd.pinned (.plain (OpenSpec.upto treeNewsSpec)) treeNewsUptoCard

/-- THE SECOND FORM's CARD OF 'barrowlaw07.XformT'. -/
def xformTUptoCard : Claim7 := { stood := { row := xformTUptoRow, standIns := [], harness := (true, "ee9f810fc8643b82e2d59c3c575d9a50dc5371cf5a9ed7ef55b98133243384ca"), looks := true }, kinds := [], alts := [], laidByText := true, laidKinds := [.sentinel, .sentinel, .sentinel, .sentinel], laidTests := true, laidLooks := .later }
def XformTUptoCardSaid : Prop := Claim7.holds Tryd.pinned (.plain (OpenSpec.upto xformTSpec)) xformTUptoCard

/-- THE SECOND FORM's CARD OF 'barrowlaw07.XformTwo'. -/
def xformTwoUptoCard : Claim7 := { stood := { row := xformTwoUptoRow, standIns := [], harness := (true, "ee9f810fc8643b82e2d59c3c575d9a50dc5371cf5a9ed7ef55b98133243384ca"), looks := true }, kinds := [], alts := [], laidByText := true, laidKinds := [.sentinel, .sentinel, .sentinel, .sentinel], laidTests := true, laidLooks := .later }
def XformTwoUptoCardSaid : Prop := Claim7.holds Tryd.pinned (.plain (OpenSpec.upto xformTwoSpec)) xformTwoUptoCard

/-- THE SECOND FORM's CARD OF 'barrowlaw07.XformThree'. -/
def xformThreeUptoCard : Claim7 := { stood := { row := xformThreeUptoRow, standIns := [], harness := (true, "ee9f810fc8643b82e2d59c3c575d9a50dc5371cf5a9ed7ef55b98133243384ca"), looks := true }, kinds := [], alts := [], laidByText := true, laidKinds := [.sentinel, .sentinel, .sentinel, .sentinel], laidTests := true, laidLooks := .later }
def XformThreeUptoCardSaid : Prop := Claim7.holds Tryd.pinned (.plain (OpenSpec.upto xformThreeSpec)) xformThreeUptoCard

/-- THE SECOND FORM's CARD OF 'barrowlaw07.XformNames'. -/
def xformNamesUptoCard : Claim7 := { stood := { row := xformNamesUptoRow, standIns := [], harness := (true, "ee9f810fc8643b82e2d59c3c575d9a50dc5371cf5a9ed7ef55b98133243384ca"), looks := true }, kinds := [], alts := [], laidByText := true, laidKinds := [.sentinel, .sentinel, .sentinel, .sentinel], laidTests := true, laidLooks := .later }
def XformNamesUptoCardSaid : Prop := Claim7.holds Tryd.pinned (.plain (OpenSpec.upto xformNamesSpec)) xformNamesUptoCard

/-- THE SECOND FORM's CARD OF 'barrowlaw04.TreeChunks'. -/
def treeChunksUptoCard : Claim7 := { stood := { row := treeChunksUptoRow, standIns := [], harness := (true, "ee9f810fc8643b82e2d59c3c575d9a50dc5371cf5a9ed7ef55b98133243384ca"), looks := true }, kinds := [], alts := [], laidByText := true, laidKinds := [.sentinel, .sentinel, .sentinel, .sentinel, .sentinel, .sentinel, .sentinel, .sentinel, .sentinel, .sentinel, .sentinel, .sentinel, .sentinel, .sentinel], laidTests := true, laidLooks := .later }
def TreeChunksUptoCardSaid : Prop := Claim7.holds Tryd.pinned (.plain (OpenSpec.upto treeChunksSpec)) treeChunksUptoCard

/-- THE SECOND FORM's CARD OF 'barrowlaw07.XformBack'. -/
def xformBackUptoCard : Claim7 := { stood := { row := xformBackUptoRow, standIns := [], harness := (true, "ee9f810fc8643b82e2d59c3c575d9a50dc5371cf5a9ed7ef55b98133243384ca"), looks := true }, kinds := [], alts := [], laidByText := true, laidKinds := [.sentinel, .sentinel, .sentinel, .sentinel], laidTests := true, laidLooks := .later }
def XformBackUptoCardSaid : Prop := Claim7.holds Tryd.pinned (.plain (OpenSpec.upto xformBackSpec)) xformBackUptoCard

/-- THE SECOND FORM's CARD OF 'barrowlaw07.XformRight'. -/
def xformRightUptoCard : Claim7 := { stood := { row := xformRightUptoRow, standIns := [], harness := (true, "ee9f810fc8643b82e2d59c3c575d9a50dc5371cf5a9ed7ef55b98133243384ca"), looks := true }, kinds := [], alts := [], laidByText := true, laidKinds := [.sentinel, .sentinel, .sentinel, .sentinel], laidTests := true, laidLooks := .later }
def XformRightUptoCardSaid : Prop := Claim7.holds Tryd.pinned (.plain (OpenSpec.upto xformRightSpec)) xformRightUptoCard

/-- THE SECOND FORM's CARD OF 'barrowlaw07.XformCross'. -/
def xformCrossUptoCard : Claim7 := { stood := { row := xformCrossUptoRow, standIns := [], harness := (true, "ee9f810fc8643b82e2d59c3c575d9a50dc5371cf5a9ed7ef55b98133243384ca"), looks := true }, kinds := [], alts := [], laidByText := true, laidKinds := [.sentinel, .sentinel, .sentinel, .sentinel], laidTests := true, laidLooks := .later }
def XformCrossUptoCardSaid : Prop := Claim7.holds Tryd.pinned (.plain (OpenSpec.upto xformCrossSpec)) xformCrossUptoCard

/-- THE SECOND FORM's CARD OF 'barrowlaw07.XformLists'. -/
def xformListsUptoCard : Claim7 := { stood := { row := xformListsUptoRow, standIns := [], harness := (true, "ee9f810fc8643b82e2d59c3c575d9a50dc5371cf5a9ed7ef55b98133243384ca"), looks := true }, kinds := [], alts := [], laidByText := true, laidKinds := [.sentinel, .sentinel, .sentinel, .sentinel], laidTests := true, laidLooks := .later }
def XformListsUptoCardSaid : Prop := Claim7.holds Tryd.pinned (.plain (OpenSpec.upto xformListsSpec)) xformListsUptoCard

/-- THE SECOND FORM's CARD OF 'barrowlaw04.TreeFinds'. -/
def treeFindsUptoCard : Claim7 := { stood := { row := treeFindsUptoRow, standIns := [], harness := (true, "ee9f810fc8643b82e2d59c3c575d9a50dc5371cf5a9ed7ef55b98133243384ca"), looks := true }, kinds := [], alts := [], laidByText := true, laidKinds := [.sentinel, .sentinel, .sentinel, .sentinel, .sentinel, .sentinel, .sentinel, .sentinel, .sentinel, .sentinel, .sentinel, .sentinel, .sentinel, .sentinel], laidTests := true, laidLooks := .later }
def TreeFindsUptoCardSaid : Prop := Claim7.holds Tryd.pinned (.plain (OpenSpec.upto treeFindsSpec)) treeFindsUptoCard

/-- THE SECOND FORM's CARD OF 'barrowlaw07.XformSwap'. -/
def xformSwapUptoCard : Claim7 := { stood := { row := xformSwapUptoRow, standIns := [], harness := (true, "ee9f810fc8643b82e2d59c3c575d9a50dc5371cf5a9ed7ef55b98133243384ca"), looks := true }, kinds := [], alts := [], laidByText := true, laidKinds := [.sentinel, .sentinel, .sentinel, .sentinel], laidTests := true, laidLooks := .later }
def XformSwapUptoCardSaid : Prop := Claim7.holds Tryd.pinned (.plain (OpenSpec.upto xformSwapSpec)) xformSwapUptoCard

/-- THE SECOND FORM's CARD OF 'barrowlaw04.TreeExact'. -/
def treeExactUptoCard : Claim7 := { stood := { row := treeExactUptoRow, standIns := [], harness := (true, "ee9f810fc8643b82e2d59c3c575d9a50dc5371cf5a9ed7ef55b98133243384ca"), looks := true }, kinds := [], alts := [], laidByText := true, laidKinds := [.sentinel, .sentinel, .sentinel, .sentinel, .sentinel, .sentinel, .sentinel, .sentinel, .sentinel, .sentinel, .sentinel, .sentinel, .sentinel, .sentinel], laidTests := true, laidLooks := .later }
def TreeExactUptoCardSaid : Prop := Claim7.holds Tryd.pinned (.plain (OpenSpec.upto treeExactSpec)) treeExactUptoCard

/-- THE SECOND FORM's CARD OF 'barrowlaw07.XformInverse'. -/
def xformInverseUptoCard : Claim7 := { stood := { row := xformInverseUptoRow, standIns := [], harness := (true, "ee9f810fc8643b82e2d59c3c575d9a50dc5371cf5a9ed7ef55b98133243384ca"), looks := true }, kinds := [], alts := [], laidByText := true, laidKinds := [.sentinel, .sentinel, .sentinel, .sentinel], laidTests := true, laidLooks := .later }
def XformInverseUptoCardSaid : Prop := Claim7.holds Tryd.pinned (.plain (OpenSpec.upto xformInverseSpec)) xformInverseUptoCard

/-- THE SECOND FORM's CARD OF 'barrowlaw07.XformApply'. -/
def xformApplyUptoCard : Claim7 := { stood := { row := xformApplyUptoRow, standIns := [], harness := (true, "ee9f810fc8643b82e2d59c3c575d9a50dc5371cf5a9ed7ef55b98133243384ca"), looks := true }, kinds := [], alts := [], laidByText := true, laidKinds := [.sentinel, .sentinel, .sentinel, .sentinel, .sentinel, .sentinel, .sentinel, .sentinel, .sentinel, .sentinel, .sentinel, .sentinel, .sentinel, .sentinel], laidTests := true, laidLooks := .later }
def XformApplyUptoCardSaid : Prop := Claim7.holds Tryd.pinned (.plain (OpenSpec.upto xformApplySpec)) xformApplyUptoCard
end Rows
end Go.Proofs.YtogkbddniacgiaaDoor
