/-
  DERIVED. GIVEN WITH THE SEED: THE CARDS: each row of YtfihjajllfihjaaGreatDoorRows.lean that lists a variable, with what it lists TIED to the program's text (the seventh form; the later family's looks); each row that meets fmt, with fmt's text TOLD by the authors' own Lean function (tested against real Go, not proved from fmt's source: count such statements apart). THE CARD IS WHAT COUNTS. Prove the row's statement (the work); the ties are given (YtfihjajllfihjaaGreatDoorTie.lean); close each card by the builder's one call (the guide's Derived/Test/ToyasCard.lean, 'card_holds'). Laid BY PROGRAM, IN A SANDBOX (cutbox-door.mjs). By AI agents, Wed Nov 11 2026. No macro, syntax, notation, axiom, sorry.
-/
import Derived.Test.YtfihjajllfihjaaGreatDoorRows
import GoSem.ClaimSeven
namespace Go.Proofs.YtfihjajllfihjaaGreatDoor
namespace Rows

/-- THE TIED CARD OF 'barrowlaw05.ModelExact'. -/
def modelExactCard : Claim7 := { stood := { row := modelExactRow, standIns := [], harness := (true, "10ccec6a3668a518103aee0100f9c344f308cfd65a320d2d5859320c27e61ca8"), looks := true }, kinds := [], alts := [], laidByText := true, laidKinds := [.sentinel, .sentinel, .sentinel, .sentinel, .sentinel, .sentinel, .sentinel, .sentinel, .sentinel, .sentinel, .sentinel, .sentinel, .sentinel, .sentinel], laidTests := true, laidLooks := .later }
def ModelExactCardSaid : Prop := Claim7.holds Tryz.pinned (.plain (OpenSpec.ofChange modelExactSpec)) modelExactCard

/-- THE TIED CARD OF 'barrowlaw05.ModelNew'. -/
def modelNewCard : Claim7 := { stood := { row := modelNewRow, standIns := [], harness := (true, "10ccec6a3668a518103aee0100f9c344f308cfd65a320d2d5859320c27e61ca8"), looks := true }, kinds := [], alts := [], laidByText := true, laidKinds := [.sentinel, .sentinel, .sentinel, .sentinel, .sentinel, .sentinel, .sentinel, .sentinel, .sentinel, .sentinel, .sentinel, .sentinel, .sentinel, .sentinel], laidTests := true, laidLooks := .later }
def ModelNewCardSaid : Prop := Claim7.holds Tryz.pinned (.plain (OpenSpec.ofChange modelNewSpec)) modelNewCard

/-- THE TIED CARD OF 'barrowlaw05.ModelCopy'. -/
def modelCopyCard : Claim7 := { stood := { row := modelCopyRow, standIns := [], harness := (true, "10ccec6a3668a518103aee0100f9c344f308cfd65a320d2d5859320c27e61ca8"), looks := true }, kinds := [], alts := [], laidByText := true, laidKinds := [.sentinel, .sentinel, .sentinel, .sentinel, .sentinel, .sentinel, .sentinel, .sentinel, .sentinel, .sentinel, .sentinel, .sentinel, .sentinel, .sentinel], laidTests := true, laidLooks := .later }
def ModelCopyCardSaid : Prop := Claim7.holds Tryz.pinned (.plain (OpenSpec.ofChange modelCopySpec)) modelCopyCard

/-- THE TIED CARD OF 'barrowlaw06.LinesBack'. -/
def linesBackCard : Claim7 := { stood := { row := linesBackRow, standIns := [], harness := (true, "10ccec6a3668a518103aee0100f9c344f308cfd65a320d2d5859320c27e61ca8"), looks := true }, kinds := [], alts := [], laidByText := true, laidKinds := [.data, .sentinel, .sentinel, .sentinel, .sentinel, .sentinel, .sentinel, .sentinel, .sentinel, .sentinel, .sentinel, .sentinel, .sentinel, .sentinel, .sentinel, .pinned], laidTests := true, laidLooks := .later }
def LinesBackCardSaid : Prop := Claim7.holds Tryz.pinned (.plain (OpenSpec.ofChange linesBackSpec)) linesBackCard

/-- THE SECOND FORM's CARD OF 'barrowlaw05.ModelExact'. -/
def modelExactUptoCard : Claim7 := { stood := { row := modelExactUptoRow, standIns := [], harness := (true, "10ccec6a3668a518103aee0100f9c344f308cfd65a320d2d5859320c27e61ca8"), looks := true }, kinds := [], alts := [], laidByText := true, laidKinds := [.sentinel, .sentinel, .sentinel, .sentinel, .sentinel, .sentinel, .sentinel, .sentinel, .sentinel, .sentinel, .sentinel, .sentinel, .sentinel, .sentinel], laidTests := true, laidLooks := .later }
def ModelExactUptoCardSaid : Prop := Claim7.holds Tryz.pinned (.plain (OpenSpec.upto modelExactSpec)) modelExactUptoCard

/-- THE SECOND FORM's CARD OF 'barrowlaw05.ModelNew'. -/
def modelNewUptoCard : Claim7 := { stood := { row := modelNewUptoRow, standIns := [], harness := (true, "10ccec6a3668a518103aee0100f9c344f308cfd65a320d2d5859320c27e61ca8"), looks := true }, kinds := [], alts := [], laidByText := true, laidKinds := [.sentinel, .sentinel, .sentinel, .sentinel, .sentinel, .sentinel, .sentinel, .sentinel, .sentinel, .sentinel, .sentinel, .sentinel, .sentinel, .sentinel], laidTests := true, laidLooks := .later }
def ModelNewUptoCardSaid : Prop := Claim7.holds Tryz.pinned (.plain (OpenSpec.upto modelNewSpec)) modelNewUptoCard

/-- THE SECOND FORM's CARD OF 'barrowlaw05.ModelCopy'. -/
def modelCopyUptoCard : Claim7 := { stood := { row := modelCopyUptoRow, standIns := [], harness := (true, "10ccec6a3668a518103aee0100f9c344f308cfd65a320d2d5859320c27e61ca8"), looks := true }, kinds := [], alts := [], laidByText := true, laidKinds := [.sentinel, .sentinel, .sentinel, .sentinel, .sentinel, .sentinel, .sentinel, .sentinel, .sentinel, .sentinel, .sentinel, .sentinel, .sentinel, .sentinel], laidTests := true, laidLooks := .later }
def ModelCopyUptoCardSaid : Prop := Claim7.holds Tryz.pinned (.plain (OpenSpec.upto modelCopySpec)) modelCopyUptoCard

/-- THE SECOND FORM's CARD OF 'barrowlaw06.LinesBack'. -/
def linesBackUptoCard : Claim7 := { stood := { row := linesBackUptoRow, standIns := [], harness := (true, "10ccec6a3668a518103aee0100f9c344f308cfd65a320d2d5859320c27e61ca8"), looks := true }, kinds := [], alts := [], laidByText := true, laidKinds := [.data, .sentinel, .sentinel, .sentinel, .sentinel, .sentinel, .sentinel, .sentinel, .sentinel, .sentinel, .sentinel, .sentinel, .sentinel, .sentinel, .sentinel, .pinned], laidTests := true, laidLooks := .later }
def LinesBackUptoCardSaid : Prop := Claim7.holds Tryz.pinned (.plain (OpenSpec.upto linesBackSpec)) linesBackUptoCard
end Rows
end Go.Proofs.YtfihjajllfihjaaGreatDoor
