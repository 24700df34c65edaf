/-
  DERIVED. GIVEN WITH THE SEED: THE CARDS: each row of YtnpbbidiloahdaaDoorRows.lean that lists a variable, with what it lists TIED to the program's text (the seventh form; the later family's looks); each row that meets fmt, with fmt's text TOLD by the authors' own Lean function (tested against real Go, not proved from fmt's source: count such statements apart). THE CARD IS WHAT COUNTS. Prove the row's statement (the work); the ties are given (YtnpbbidiloahdaaDoorTie.lean); close each card by the builder's one call (the guide's Derived/Test/ToyasCard.lean, 'card_holds'). Laid BY PROGRAM, IN A SANDBOX (cutbox-door.mjs). By AI agents, Wed Nov 11 2026. No macro, syntax, notation, axiom, sorry.
-/
import Derived.Test.YtnpbbidiloahdaaDoorRows
import GoSem.ClaimSeven
namespace Go.Proofs.YtnpbbidiloahdaaDoor
namespace Rows

/-- THE TIED CARD OF 'barrowlaw13.AnchorPairs'. -/
def anchorPairsCard : Claim7 := { stood := { row := anchorPairsRow, standIns := [], harness := (true, "8f149264321b19d845286d1d5666f57f28eb1b0d8af24ba3554e4fe8883eca2e"), looks := true }, kinds := [], alts := [], laidByText := true, laidKinds := [.sentinel, .sentinel, .sentinel, .sentinel, .sentinel, .sentinel, .sentinel, .sentinel, .sentinel, .sentinel, .sentinel, .sentinel, .sentinel, .sentinel], laidTests := true, laidLooks := .later }
def AnchorPairsCardSaid : Prop := Claim7.holds Tryd.pinned (.plain (OpenSpec.ofChange anchorPairsSpec)) anchorPairsCard

/-- THE SECOND FORM's CARD OF 'barrowlaw13.AnchorPairs'. -/
def anchorPairsUptoCard : Claim7 := { stood := { row := anchorPairsUptoRow, standIns := [], harness := (true, "8f149264321b19d845286d1d5666f57f28eb1b0d8af24ba3554e4fe8883eca2e"), looks := true }, kinds := [], alts := [], laidByText := true, laidKinds := [.sentinel, .sentinel, .sentinel, .sentinel, .sentinel, .sentinel, .sentinel, .sentinel, .sentinel, .sentinel, .sentinel, .sentinel, .sentinel, .sentinel], laidTests := true, laidLooks := .later }
def AnchorPairsUptoCardSaid : Prop := Claim7.holds Tryd.pinned (.plain (OpenSpec.upto anchorPairsSpec)) anchorPairsUptoCard
end Rows
end Go.Proofs.YtnpbbidiloahdaaDoor
