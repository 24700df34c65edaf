/-
  DERIVED. GIVEN WITH THE SEED: THE CARDS: each row of YtfihjajllfihjaaDoorRows.lean that lists a variable, with what it lists TIED to the program's text (the seventh form; the later family's looks); each row that meets fmt, with fmt's text TOLD by the authors' own Lean function (tested against real Go, not proved from fmt's source: count such statements apart). THE CARD IS WHAT COUNTS. Prove the row's statement (the work); the ties are given (YtfihjajllfihjaaDoorTie.lean); close each card by the builder's one call (the guide's Derived/Test/ToyasCard.lean, 'card_holds'). Laid BY PROGRAM, IN A SANDBOX (cutbox-door.mjs). By AI agents, Wed Nov 11 2026. No macro, syntax, notation, axiom, sorry.
-/
import Derived.Test.YtfihjajllfihjaaDoorRows
import GoSem.ClaimSeven
namespace Go.Proofs.YtfihjajllfihjaaDoor
namespace Rows

/-- THE TIED CARD OF 'barrowlaw05.ModelPurge'. -/
def modelPurgeCard : Claim7 := { stood := { row := modelPurgeRow, standIns := [], harness := (true, "75c85a304fa4de818ab340cf79ae4883f63be54b0b6c21312bcceb51838c07e2"), looks := true }, kinds := [], alts := [], laidByText := true, laidKinds := [.sentinel, .sentinel, .sentinel, .sentinel, .sentinel, .sentinel, .sentinel, .sentinel, .sentinel, .sentinel, .sentinel, .sentinel, .sentinel, .sentinel], laidTests := true, laidLooks := .later }
def ModelPurgeCardSaid : Prop := Claim7.holds Tryd.pinned (.plain (OpenSpec.ofChange modelPurgeSpec)) modelPurgeCard

/-- THE TIED CARD OF 'barrowlaw05.ModelAll'. -/
def modelAllCard : Claim7 := { stood := { row := modelAllRow, standIns := [], harness := (true, "75c85a304fa4de818ab340cf79ae4883f63be54b0b6c21312bcceb51838c07e2"), looks := true }, kinds := [], alts := [], laidByText := true, laidKinds := [.sentinel, .sentinel, .sentinel, .sentinel, .sentinel, .sentinel, .sentinel, .sentinel, .sentinel, .sentinel, .sentinel, .sentinel, .sentinel, .sentinel], laidTests := true, laidLooks := .later }
def ModelAllCardSaid : Prop := Claim7.holds Tryd.pinned (.plain (OpenSpec.ofChange modelAllSpec)) modelAllCard

/-- THE TIED CARD OF 'barrowlaw05.ModelBack'. -/
def modelBackCard : Claim7 := { stood := { row := modelBackRow, standIns := [], harness := (true, "75c85a304fa4de818ab340cf79ae4883f63be54b0b6c21312bcceb51838c07e2"), looks := true }, kinds := [], alts := [], laidByText := true, laidKinds := [.sentinel, .sentinel, .sentinel, .sentinel, .sentinel, .sentinel, .sentinel, .sentinel, .sentinel, .sentinel, .sentinel, .sentinel, .sentinel, .sentinel], laidTests := true, laidLooks := .later }
def ModelBackCardSaid : Prop := Claim7.holds Tryd.pinned (.plain (OpenSpec.ofChange modelBackSpec)) modelBackCard

/-- THE TIED CARD OF 'barrowlaw13.AnchorBack'. -/
def anchorBackCard : Claim7 := { stood := { row := anchorBackRow, standIns := [], harness := (true, "75c85a304fa4de818ab340cf79ae4883f63be54b0b6c21312bcceb51838c07e2"), looks := true }, kinds := [], alts := [], laidByText := true, laidKinds := [.sentinel, .sentinel, .sentinel, .sentinel, .sentinel, .sentinel, .sentinel, .sentinel, .sentinel, .sentinel, .sentinel, .sentinel, .sentinel, .sentinel], laidTests := true, laidLooks := .later }
def AnchorBackCardSaid : Prop := Claim7.holds Tryd.pinned (.plain (OpenSpec.ofChange anchorBackSpec)) anchorBackCard

/-- THE TIED CARD OF 'barrowlaw05.ModelApart'. -/
def modelApartCard : Claim7 := { stood := { row := modelApartRow, standIns := [], harness := (true, "75c85a304fa4de818ab340cf79ae4883f63be54b0b6c21312bcceb51838c07e2"), looks := true }, kinds := [], alts := [], laidByText := true, laidKinds := [.sentinel, .sentinel, .sentinel, .sentinel, .sentinel, .sentinel, .sentinel, .sentinel, .sentinel, .sentinel, .sentinel, .sentinel, .sentinel, .sentinel], laidTests := true, laidLooks := .later }
def ModelApartCardSaid : Prop := Claim7.holds Tryd.pinned (.plain (OpenSpec.ofChange modelApartSpec)) modelApartCard

/-- THE TIED CARD OF 'barrowlaw13.AnchorExact'. -/
def anchorExactCard : Claim7 := { stood := { row := anchorExactRow, standIns := [], harness := (true, "75c85a304fa4de818ab340cf79ae4883f63be54b0b6c21312bcceb51838c07e2"), looks := true }, kinds := [], alts := [], laidByText := true, laidKinds := [.sentinel, .sentinel, .sentinel, .sentinel, .sentinel, .sentinel, .sentinel, .sentinel, .sentinel, .sentinel, .sentinel, .sentinel, .sentinel, .sentinel], laidTests := true, laidLooks := .later }
def AnchorExactCardSaid : Prop := Claim7.holds Tryd.pinned (.plain (OpenSpec.ofChange anchorExactSpec)) anchorExactCard

/-- THE TIED CARD OF 'barrowlaw13.AnchorStays'. -/
def anchorStaysCard : Claim7 := { stood := { row := anchorStaysRow, standIns := [], harness := (true, "75c85a304fa4de818ab340cf79ae4883f63be54b0b6c21312bcceb51838c07e2"), looks := true }, kinds := [], alts := [], laidByText := true, laidKinds := [.sentinel, .sentinel, .sentinel, .sentinel, .sentinel, .sentinel, .sentinel, .sentinel, .sentinel, .sentinel, .sentinel, .sentinel, .sentinel, .sentinel], laidTests := true, laidLooks := .later }
def AnchorStaysCardSaid : Prop := Claim7.holds Tryd.pinned (.plain (OpenSpec.ofChange anchorStaysSpec)) anchorStaysCard

/-- THE TIED CARD OF 'barrowlaw13.AnchorPurge'. -/
def anchorPurgeCard : Claim7 := { stood := { row := anchorPurgeRow, standIns := [], harness := (true, "75c85a304fa4de818ab340cf79ae4883f63be54b0b6c21312bcceb51838c07e2"), looks := true }, kinds := [], alts := [], laidByText := true, laidKinds := [.sentinel, .sentinel, .sentinel, .sentinel, .sentinel, .sentinel, .sentinel, .sentinel, .sentinel, .sentinel, .sentinel, .sentinel, .sentinel, .sentinel], laidTests := true, laidLooks := .later }
def AnchorPurgeCardSaid : Prop := Claim7.holds Tryd.pinned (.plain (OpenSpec.ofChange anchorPurgeSpec)) anchorPurgeCard

/-- THE TIED CARD OF 'barrowlaw06.LinesExact'. -/
def linesExactCard : Claim7 := { stood := { row := linesExactRow, standIns := [], harness := (true, "75c85a304fa4de818ab340cf79ae4883f63be54b0b6c21312bcceb51838c07e2"), looks := true }, kinds := [], alts := [], laidByText := true, laidKinds := [.sentinel, .sentinel, .sentinel, .sentinel, .sentinel, .sentinel, .sentinel, .sentinel, .sentinel, .sentinel, .sentinel, .sentinel, .sentinel, .sentinel], laidTests := true, laidLooks := .later }
def LinesExactCardSaid : Prop := Claim7.holds Tryd.pinned (.plain (OpenSpec.ofChange linesExactSpec)) linesExactCard

/-- THE TIED CARD OF 'barrowlaw06.LinesPlaces'. -/
def linesPlacesCard : Claim7 := { stood := { row := linesPlacesRow, standIns := [], harness := (true, "75c85a304fa4de818ab340cf79ae4883f63be54b0b6c21312bcceb51838c07e2"), looks := true }, kinds := [], alts := [], laidByText := true, laidKinds := [.sentinel, .sentinel, .sentinel, .sentinel, .sentinel, .sentinel, .sentinel, .sentinel, .sentinel, .sentinel, .sentinel, .sentinel, .sentinel, .sentinel], laidTests := true, laidLooks := .later }
def LinesPlacesCardSaid : Prop := Claim7.holds Tryd.pinned (.plain (OpenSpec.ofChange linesPlacesSpec)) linesPlacesCard

/-- THE TIED CARD OF 'barrowlaw06.LinesWords'. -/
def linesWordsCard : Claim7 := { stood := { row := linesWordsRow, standIns := [], harness := (true, "75c85a304fa4de818ab340cf79ae4883f63be54b0b6c21312bcceb51838c07e2"), looks := true }, kinds := [], alts := [], laidByText := true, laidKinds := [.sentinel, .sentinel, .sentinel, .sentinel, .sentinel, .sentinel, .sentinel, .sentinel, .sentinel, .sentinel, .sentinel, .sentinel, .sentinel, .sentinel], laidTests := true, laidLooks := .later }
def LinesWordsCardSaid : Prop := Claim7.holds Tryd.pinned (.plain (OpenSpec.ofChange linesWordsSpec)) linesWordsCard

/-- THE TIED CARD OF 'barrowlaw13.AnchorPairs'. -/
def anchorPairsCard : Claim7 := { stood := { row := anchorPairsRow, standIns := [], harness := (true, "75c85a304fa4de818ab340cf79ae4883f63be54b0b6c21312bcceb51838c07e2"), looks := true }, kinds := [], alts := [], laidByText := true, laidKinds := [.sentinel, .sentinel, .sentinel, .sentinel, .sentinel, .sentinel, .sentinel, .sentinel, .sentinel, .sentinel, .sentinel, .sentinel, .sentinel, .sentinel], laidTests := true, laidLooks := .later }
def AnchorPairsCardSaid : Prop := Claim7.holds Tryd.pinned (.plain (OpenSpec.ofChange anchorPairsSpec)) anchorPairsCard

/-- THE TIED CARD OF 'barrowlaw06.LinesSplit'. -/
def linesSplitCard : Claim7 := { stood := { row := linesSplitRow, standIns := [], harness := (true, "75c85a304fa4de818ab340cf79ae4883f63be54b0b6c21312bcceb51838c07e2"), looks := true }, kinds := [], alts := [], laidByText := true, laidKinds := [.data, .sentinel, .sentinel, .sentinel, .sentinel, .sentinel, .sentinel, .sentinel, .sentinel, .sentinel, .sentinel, .sentinel, .sentinel, .sentinel, .sentinel, .pinned], laidTests := true, laidLooks := .later }
def LinesSplitCardSaid : Prop := Claim7.holds Tryd.pinned (.plain (OpenSpec.ofChange linesSplitSpec)) linesSplitCard

/-- THE SECOND FORM's CARD OF 'barrowlaw05.ModelPurge'. -/
def modelPurgeUptoCard : Claim7 := { stood := { row := modelPurgeUptoRow, standIns := [], harness := (true, "75c85a304fa4de818ab340cf79ae4883f63be54b0b6c21312bcceb51838c07e2"), looks := true }, kinds := [], alts := [], laidByText := true, laidKinds := [.sentinel, .sentinel, .sentinel, .sentinel, .sentinel, .sentinel, .sentinel, .sentinel, .sentinel, .sentinel, .sentinel, .sentinel, .sentinel, .sentinel], laidTests := true, laidLooks := .later }
def ModelPurgeUptoCardSaid : Prop := Claim7.holds Tryd.pinned (.plain (OpenSpec.upto modelPurgeSpec)) modelPurgeUptoCard

/-- THE SECOND FORM's CARD OF 'barrowlaw05.ModelAll'. -/
def modelAllUptoCard : Claim7 := { stood := { row := modelAllUptoRow, standIns := [], harness := (true, "75c85a304fa4de818ab340cf79ae4883f63be54b0b6c21312bcceb51838c07e2"), looks := true }, kinds := [], alts := [], laidByText := true, laidKinds := [.sentinel, .sentinel, .sentinel, .sentinel, .sentinel, .sentinel, .sentinel, .sentinel, .sentinel, .sentinel, .sentinel, .sentinel, .sentinel, .sentinel], laidTests := true, laidLooks := .later }
def ModelAllUptoCardSaid : Prop := Claim7.holds Tryd.pinned (.plain (OpenSpec.upto modelAllSpec)) modelAllUptoCard

/-- THE SECOND FORM's CARD OF 'barrowlaw05.ModelBack'. -/
def modelBackUptoCard : Claim7 := { stood := { row := modelBackUptoRow, standIns := [], harness := (true, "75c85a304fa4de818ab340cf79ae4883f63be54b0b6c21312bcceb51838c07e2"), looks := true }, kinds := [], alts := [], laidByText := true, laidKinds := [.sentinel, .sentinel, .sentinel, .sentinel, .sentinel, .sentinel, .sentinel, .sentinel, .sentinel, .sentinel, .sentinel, .sentinel, .sentinel, .sentinel], laidTests := true, laidLooks := .later }
def ModelBackUptoCardSaid : Prop := Claim7.holds Tryd.pinned (.plain (OpenSpec.upto modelBackSpec)) modelBackUptoCard

/-- THE SECOND FORM's CARD OF 'barrowlaw13.AnchorBack'. -/
def anchorBackUptoCard : Claim7 := { stood := { row := anchorBackUptoRow, standIns := [], harness := (true, "75c85a304fa4de818ab340cf79ae4883f63be54b0b6c21312bcceb51838c07e2"), looks := true }, kinds := [], alts := [], laidByText := true, laidKinds := [.sentinel, .sentinel, .sentinel, .sentinel, .sentinel, .sentinel, .sentinel, .sentinel, .sentinel, .sentinel, .sentinel, .sentinel, .sentinel, .sentinel], laidTests := true, laidLooks := .later }
def AnchorBackUptoCardSaid : Prop := Claim7.holds Tryd.pinned (.plain (OpenSpec.upto anchorBackSpec)) anchorBackUptoCard

/-- THE SECOND FORM's CARD OF 'barrowlaw05.ModelApart'. -/
def modelApartUptoCard : Claim7 := { stood := { row := modelApartUptoRow, standIns := [], harness := (true, "75c85a304fa4de818ab340cf79ae4883f63be54b0b6c21312bcceb51838c07e2"), looks := true }, kinds := [], alts := [], laidByText := true, laidKinds := [.sentinel, .sentinel, .sentinel, .sentinel, .sentinel, .sentinel, .sentinel, .sentinel, .sentinel, .sentinel, .sentinel, .sentinel, .sentinel, .sentinel], laidTests := true, laidLooks := .later }
def ModelApartUptoCardSaid : Prop := Claim7.holds Tryd.pinned (.plain (OpenSpec.upto modelApartSpec)) modelApartUptoCard

/-- THE SECOND FORM's CARD OF 'barrowlaw13.AnchorExact'. -/
def anchorExactUptoCard : Claim7 := { stood := { row := anchorExactUptoRow, standIns := [], harness := (true, "75c85a304fa4de818ab340cf79ae4883f63be54b0b6c21312bcceb51838c07e2"), looks := true }, kinds := [], alts := [], laidByText := true, laidKinds := [.sentinel, .sentinel, .sentinel, .sentinel, .sentinel, .sentinel, .sentinel, .sentinel, .sentinel, .sentinel, .sentinel, .sentinel, .sentinel, .sentinel], laidTests := true, laidLooks := .later }
def AnchorExactUptoCardSaid : Prop := Claim7.holds Tryd.pinned (.plain (OpenSpec.upto anchorExactSpec)) anchorExactUptoCard

/-- THE SECOND FORM's CARD OF 'barrowlaw13.AnchorStays'. -/
def anchorStaysUptoCard : Claim7 := { stood := { row := anchorStaysUptoRow, standIns := [], harness := (true, "75c85a304fa4de818ab340cf79ae4883f63be54b0b6c21312bcceb51838c07e2"), looks := true }, kinds := [], alts := [], laidByText := true, laidKinds := [.sentinel, .sentinel, .sentinel, .sentinel, .sentinel, .sentinel, .sentinel, .sentinel, .sentinel, .sentinel, .sentinel, .sentinel, .sentinel, .sentinel], laidTests := true, laidLooks := .later }
def AnchorStaysUptoCardSaid : Prop := Claim7.holds Tryd.pinned (.plain (OpenSpec.upto anchorStaysSpec)) anchorStaysUptoCard

/-- THE SECOND FORM's CARD OF 'barrowlaw13.AnchorPurge'. -/
def anchorPurgeUptoCard : Claim7 := { stood := { row := anchorPurgeUptoRow, standIns := [], harness := (true, "75c85a304fa4de818ab340cf79ae4883f63be54b0b6c21312bcceb51838c07e2"), looks := true }, kinds := [], alts := [], laidByText := true, laidKinds := [.sentinel, .sentinel, .sentinel, .sentinel, .sentinel, .sentinel, .sentinel, .sentinel, .sentinel, .sentinel, .sentinel, .sentinel, .sentinel, .sentinel], laidTests := true, laidLooks := .later }
def AnchorPurgeUptoCardSaid : Prop := Claim7.holds Tryd.pinned (.plain (OpenSpec.upto anchorPurgeSpec)) anchorPurgeUptoCard

/-- THE SECOND FORM's CARD OF 'barrowlaw06.LinesExact'. -/
def linesExactUptoCard : Claim7 := { stood := { row := linesExactUptoRow, standIns := [], harness := (true, "75c85a304fa4de818ab340cf79ae4883f63be54b0b6c21312bcceb51838c07e2"), looks := true }, kinds := [], alts := [], laidByText := true, laidKinds := [.sentinel, .sentinel, .sentinel, .sentinel, .sentinel, .sentinel, .sentinel, .sentinel, .sentinel, .sentinel, .sentinel, .sentinel, .sentinel, .sentinel], laidTests := true, laidLooks := .later }
def LinesExactUptoCardSaid : Prop := Claim7.holds Tryd.pinned (.plain (OpenSpec.upto linesExactSpec)) linesExactUptoCard

/-- THE SECOND FORM's CARD OF 'barrowlaw06.LinesPlaces'. -/
def linesPlacesUptoCard : Claim7 := { stood := { row := linesPlacesUptoRow, standIns := [], harness := (true, "75c85a304fa4de818ab340cf79ae4883f63be54b0b6c21312bcceb51838c07e2"), looks := true }, kinds := [], alts := [], laidByText := true, laidKinds := [.sentinel, .sentinel, .sentinel, .sentinel, .sentinel, .sentinel, .sentinel, .sentinel, .sentinel, .sentinel, .sentinel, .sentinel, .sentinel, .sentinel], laidTests := true, laidLooks := .later }
def LinesPlacesUptoCardSaid : Prop := Claim7.holds Tryd.pinned (.plain (OpenSpec.upto linesPlacesSpec)) linesPlacesUptoCard

/-- THE SECOND FORM's CARD OF 'barrowlaw06.LinesWords'. -/
def linesWordsUptoCard : Claim7 := { stood := { row := linesWordsUptoRow, standIns := [], harness := (true, "75c85a304fa4de818ab340cf79ae4883f63be54b0b6c21312bcceb51838c07e2"), looks := true }, kinds := [], alts := [], laidByText := true, laidKinds := [.sentinel, .sentinel, .sentinel, .sentinel, .sentinel, .sentinel, .sentinel, .sentinel, .sentinel, .sentinel, .sentinel, .sentinel, .sentinel, .sentinel], laidTests := true, laidLooks := .later }
def LinesWordsUptoCardSaid : Prop := Claim7.holds Tryd.pinned (.plain (OpenSpec.upto linesWordsSpec)) linesWordsUptoCard

/-- THE SECOND FORM's CARD OF 'barrowlaw13.AnchorPairs'. -/
def anchorPairsUptoCard : Claim7 := { stood := { row := anchorPairsUptoRow, standIns := [], harness := (true, "75c85a304fa4de818ab340cf79ae4883f63be54b0b6c21312bcceb51838c07e2"), looks := true }, kinds := [], alts := [], laidByText := true, laidKinds := [.sentinel, .sentinel, .sentinel, .sentinel, .sentinel, .sentinel, .sentinel, .sentinel, .sentinel, .sentinel, .sentinel, .sentinel, .sentinel, .sentinel], laidTests := true, laidLooks := .later }
def AnchorPairsUptoCardSaid : Prop := Claim7.holds Tryd.pinned (.plain (OpenSpec.upto anchorPairsSpec)) anchorPairsUptoCard

/-- THE SECOND FORM's CARD OF 'barrowlaw06.LinesSplit'. -/
def linesSplitUptoCard : Claim7 := { stood := { row := linesSplitUptoRow, standIns := [], harness := (true, "75c85a304fa4de818ab340cf79ae4883f63be54b0b6c21312bcceb51838c07e2"), looks := true }, kinds := [], alts := [], laidByText := true, laidKinds := [.data, .sentinel, .sentinel, .sentinel, .sentinel, .sentinel, .sentinel, .sentinel, .sentinel, .sentinel, .sentinel, .sentinel, .sentinel, .sentinel, .sentinel, .pinned], laidTests := true, laidLooks := .later }
def LinesSplitUptoCardSaid : Prop := Claim7.holds Tryd.pinned (.plain (OpenSpec.upto linesSplitSpec)) linesSplitUptoCard
end Rows
end Go.Proofs.YtfihjajllfihjaaDoor
