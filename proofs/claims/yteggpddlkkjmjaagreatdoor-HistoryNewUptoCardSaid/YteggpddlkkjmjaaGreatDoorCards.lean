/-
  DERIVED. GIVEN WITH THE SEED: THE CARDS: each row of YteggpddlkkjmjaaGreatDoorRows.lean that lists a variable, with what it lists TIED to the program's text (the seventh form; the later family's looks); each row that meets fmt, with fmt's text TOLD by the authors' own Lean function (tested against real Go, not proved from fmt's source: count such statements apart). THE CARD IS WHAT COUNTS. Prove the row's statement (the work); the ties are given (YteggpddlkkjmjaaGreatDoorTie.lean); close each card by the builder's one call (the guide's Derived/Test/ToyasCard.lean, 'card_holds'). Laid BY PROGRAM, IN A SANDBOX (cutbox-door.mjs). By AI agents, Wed Nov 11 2026. No macro, syntax, notation, axiom, sorry.
-/
import Derived.Test.YteggpddlkkjmjaaGreatDoorRows
import GoSem.ClaimSeven
namespace Go.Proofs.YteggpddlkkjmjaaGreatDoor
namespace Rows

/-- THE TIED CARD OF 'barrowlaw08.HistoryForms'. -/
def historyFormsCard : Claim7 := { stood := { row := historyFormsRow, standIns := [], harness := (true, "a83a151b240cafbd81b308dff10fea0efc4006565d2d62f0cc1d865710a0b1c9"), looks := true }, kinds := [], alts := [], laidByText := true, laidKinds := [.sentinel, .sentinel, .sentinel, .sentinel, .sentinel, .sentinel, .sentinel, .sentinel, .sentinel, .sentinel, .sentinel, .sentinel, .sentinel, .sentinel], laidTests := true, laidLooks := .later }
def HistoryFormsCardSaid : Prop := Claim7.holds Tryz.pinned (.plain (OpenSpec.ofChange historyFormsSpec)) historyFormsCard

/-- THE TIED CARD OF 'barrowlaw08.HistoryOneOrder'. -/
def historyOneOrderCard : Claim7 := { stood := { row := historyOneOrderRow, standIns := [], harness := (true, "a83a151b240cafbd81b308dff10fea0efc4006565d2d62f0cc1d865710a0b1c9"), looks := true }, kinds := [], alts := [], laidByText := true, laidKinds := [.sentinel, .sentinel, .sentinel, .sentinel, .sentinel, .sentinel, .sentinel, .sentinel, .sentinel, .sentinel, .sentinel, .sentinel, .sentinel, .sentinel], laidTests := true, laidLooks := .later }
def HistoryOneOrderCardSaid : Prop := Claim7.holds Tryz.pinned (.plain (OpenSpec.ofChange historyOneOrderSpec)) historyOneOrderCard

/-- THE TIED CARD OF 'barrowlaw08.HistoryMeets'. -/
def historyMeetsCard : Claim7 := { stood := { row := historyMeetsRow, standIns := [], harness := (true, "a83a151b240cafbd81b308dff10fea0efc4006565d2d62f0cc1d865710a0b1c9"), looks := true }, kinds := [], alts := [], laidByText := true, laidKinds := [.sentinel, .sentinel, .sentinel, .sentinel, .sentinel, .sentinel, .sentinel, .sentinel, .sentinel, .sentinel, .sentinel, .sentinel, .sentinel, .sentinel], laidTests := true, laidLooks := .later }
def HistoryMeetsCardSaid : Prop := Claim7.holds Tryz.pinned (.plain (OpenSpec.ofChange historyMeetsSpec)) historyMeetsCard

/-- THE TIED CARD OF 'barrowlaw08.HistoryNew'. -/
def historyNewCard : Claim7 := { stood := { row := historyNewRow, standIns := [], harness := (true, "a83a151b240cafbd81b308dff10fea0efc4006565d2d62f0cc1d865710a0b1c9"), looks := true }, kinds := [], alts := [], laidByText := true, laidKinds := [.sentinel, .sentinel, .sentinel, .sentinel, .sentinel, .sentinel, .sentinel, .sentinel, .sentinel, .sentinel, .sentinel, .sentinel, .sentinel, .sentinel], laidTests := true, laidLooks := .later }
def HistoryNewCardSaid : Prop := Claim7.holds Tryz.pinned (.plain (OpenSpec.ofChange historyNewSpec)) historyNewCard

/-- THE TIED CARD OF 'barrowlaw08.HistoryTakes'. -/
def historyTakesCard : Claim7 := { stood := { row := historyTakesRow, standIns := [], harness := (true, "a83a151b240cafbd81b308dff10fea0efc4006565d2d62f0cc1d865710a0b1c9"), looks := true }, kinds := [], alts := [], laidByText := true, laidKinds := [.sentinel, .sentinel, .sentinel, .sentinel, .sentinel, .sentinel, .sentinel, .sentinel, .sentinel, .sentinel, .sentinel, .sentinel, .sentinel, .sentinel], laidTests := true, laidLooks := .later }
def HistoryTakesCardSaid : Prop := Claim7.holds Tryz.pinned (.plain (OpenSpec.ofChange historyTakesSpec)) historyTakesCard

/-- THE TIED CARD OF 'barrowlaw08.HistoryIssues'. -/
def historyIssuesCard : Claim7 := { stood := { row := historyIssuesRow, standIns := [], harness := (true, "a83a151b240cafbd81b308dff10fea0efc4006565d2d62f0cc1d865710a0b1c9"), looks := true }, kinds := [], alts := [], laidByText := true, laidKinds := [.sentinel, .sentinel, .sentinel, .sentinel, .sentinel, .sentinel, .sentinel, .sentinel, .sentinel, .sentinel, .sentinel, .sentinel, .sentinel, .sentinel], laidTests := true, laidLooks := .later }
def HistoryIssuesCardSaid : Prop := Claim7.holds Tryz.pinned (.plain (OpenSpec.ofChange historyIssuesSpec)) historyIssuesCard

/-- THE TIED CARD OF 'barrowlaw08.HistoryAgain'. -/
def historyAgainCard : Claim7 := { stood := { row := historyAgainRow, standIns := [], harness := (true, "a83a151b240cafbd81b308dff10fea0efc4006565d2d62f0cc1d865710a0b1c9"), looks := true }, kinds := [], alts := [], laidByText := true, laidKinds := [.sentinel, .sentinel, .sentinel, .sentinel, .sentinel, .sentinel, .sentinel, .sentinel, .sentinel, .sentinel, .sentinel, .sentinel, .sentinel, .sentinel], laidTests := true, laidLooks := .later }
def HistoryAgainCardSaid : Prop := Claim7.holds Tryz.pinned (.plain (OpenSpec.ofChange historyAgainSpec)) historyAgainCard

/-- THE TIED CARD OF 'barrowlaw08.HistorySplits'. -/
def historySplitsCard : Claim7 := { stood := { row := historySplitsRow, standIns := [], harness := (true, "a83a151b240cafbd81b308dff10fea0efc4006565d2d62f0cc1d865710a0b1c9"), looks := true }, kinds := [], alts := [], laidByText := true, laidKinds := [.sentinel, .sentinel, .sentinel, .sentinel, .sentinel, .sentinel, .sentinel, .sentinel, .sentinel, .sentinel, .sentinel, .sentinel, .sentinel, .sentinel], laidTests := true, laidLooks := .later }
def HistorySplitsCardSaid : Prop := Claim7.holds Tryz.pinned (.plain (OpenSpec.ofChange historySplitsSpec)) historySplitsCard

/-- THE TIED CARD OF 'barrowlaw08.HistoryExact'. -/
def historyExactCard : Claim7 := { stood := { row := historyExactRow, standIns := [], harness := (true, "a83a151b240cafbd81b308dff10fea0efc4006565d2d62f0cc1d865710a0b1c9"), looks := true }, kinds := [], alts := [], laidByText := true, laidKinds := [.sentinel, .sentinel, .sentinel, .sentinel, .sentinel, .sentinel, .sentinel, .sentinel, .sentinel, .sentinel, .sentinel, .sentinel, .sentinel, .sentinel], laidTests := true, laidLooks := .later }
def HistoryExactCardSaid : Prop := Claim7.holds Tryz.pinned (.plain (OpenSpec.ofChange historyExactSpec)) historyExactCard

/-- THE TIED CARD OF 'barrowlaw08.HistoryNext'. -/
def historyNextCard : Claim7 := { stood := { row := historyNextRow, standIns := [], harness := (true, "a83a151b240cafbd81b308dff10fea0efc4006565d2d62f0cc1d865710a0b1c9"), looks := true }, kinds := [], alts := [], laidByText := true, laidKinds := [.sentinel, .sentinel, .sentinel, .sentinel, .sentinel, .sentinel, .sentinel, .sentinel, .sentinel, .sentinel, .sentinel, .sentinel, .sentinel, .sentinel], laidTests := true, laidLooks := .later }
def HistoryNextCardSaid : Prop := Claim7.holds Tryz.pinned (.plain (OpenSpec.ofChange historyNextSpec)) historyNextCard

/-- THE SECOND FORM's CARD OF 'barrowlaw08.HistoryForms'. -/
def historyFormsUptoCard : Claim7 := { stood := { row := historyFormsUptoRow, standIns := [], harness := (true, "a83a151b240cafbd81b308dff10fea0efc4006565d2d62f0cc1d865710a0b1c9"), looks := true }, kinds := [], alts := [], laidByText := true, laidKinds := [.sentinel, .sentinel, .sentinel, .sentinel, .sentinel, .sentinel, .sentinel, .sentinel, .sentinel, .sentinel, .sentinel, .sentinel, .sentinel, .sentinel], laidTests := true, laidLooks := .later }
def HistoryFormsUptoCardSaid : Prop := Claim7.holds Tryz.pinned (.plain (OpenSpec.upto historyFormsSpec)) historyFormsUptoCard

/-- THE SECOND FORM's CARD OF 'barrowlaw08.HistoryOneOrder'. -/
def historyOneOrderUptoCard : Claim7 := { stood := { row := historyOneOrderUptoRow, standIns := [], harness := (true, "a83a151b240cafbd81b308dff10fea0efc4006565d2d62f0cc1d865710a0b1c9"), looks := true }, kinds := [], alts := [], laidByText := true, laidKinds := [.sentinel, .sentinel, .sentinel, .sentinel, .sentinel, .sentinel, .sentinel, .sentinel, .sentinel, .sentinel, .sentinel, .sentinel, .sentinel, .sentinel], laidTests := true, laidLooks := .later }
def HistoryOneOrderUptoCardSaid : Prop := Claim7.holds Tryz.pinned (.plain (OpenSpec.upto historyOneOrderSpec)) historyOneOrderUptoCard

/-- THE SECOND FORM's CARD OF 'barrowlaw08.HistoryMeets'. -/
def historyMeetsUptoCard : Claim7 := { stood := { row := historyMeetsUptoRow, standIns := [], harness := (true, "a83a151b240cafbd81b308dff10fea0efc4006565d2d62f0cc1d865710a0b1c9"), looks := true }, kinds := [], alts := [], laidByText := true, laidKinds := [.sentinel, .sentinel, .sentinel, .sentinel, .sentinel, .sentinel, .sentinel, .sentinel, .sentinel, .sentinel, .sentinel, .sentinel, .sentinel, .sentinel], laidTests := true, laidLooks := .later }
def HistoryMeetsUptoCardSaid : Prop := Claim7.holds Tryz.pinned (.plain (OpenSpec.upto historyMeetsSpec)) historyMeetsUptoCard

/-- THE SECOND FORM's CARD OF 'barrowlaw08.HistoryNew'. -/
def historyNewUptoCard : Claim7 := { stood := { row := historyNewUptoRow, standIns := [], harness := (true, "a83a151b240cafbd81b308dff10fea0efc4006565d2d62f0cc1d865710a0b1c9"), looks := true }, kinds := [], alts := [], laidByText := true, laidKinds := [.sentinel, .sentinel, .sentinel, .sentinel, .sentinel, .sentinel, .sentinel, .sentinel, .sentinel, .sentinel, .sentinel, .sentinel, .sentinel, .sentinel], laidTests := true, laidLooks := .later }
def HistoryNewUptoCardSaid : Prop := Claim7.holds Tryz.pinned (.plain (OpenSpec.upto historyNewSpec)) historyNewUptoCard

/-- THE SECOND FORM's CARD OF 'barrowlaw08.HistoryTakes'. -/
def historyTakesUptoCard : Claim7 := { stood := { row := historyTakesUptoRow, standIns := [], harness := (true, "a83a151b240cafbd81b308dff10fea0efc4006565d2d62f0cc1d865710a0b1c9"), looks := true }, kinds := [], alts := [], laidByText := true, laidKinds := [.sentinel, .sentinel, .sentinel, .sentinel, .sentinel, .sentinel, .sentinel, .sentinel, .sentinel, .sentinel, .sentinel, .sentinel, .sentinel, .sentinel], laidTests := true, laidLooks := .later }
def HistoryTakesUptoCardSaid : Prop := Claim7.holds Tryz.pinned (.plain (OpenSpec.upto historyTakesSpec)) historyTakesUptoCard

/-- THE SECOND FORM's CARD OF 'barrowlaw08.HistoryIssues'. -/
def historyIssuesUptoCard : Claim7 := { stood := { row := historyIssuesUptoRow, standIns := [], harness := (true, "a83a151b240cafbd81b308dff10fea0efc4006565d2d62f0cc1d865710a0b1c9"), looks := true }, kinds := [], alts := [], laidByText := true, laidKinds := [.sentinel, .sentinel, .sentinel, .sentinel, .sentinel, .sentinel, .sentinel, .sentinel, .sentinel, .sentinel, .sentinel, .sentinel, .sentinel, .sentinel], laidTests := true, laidLooks := .later }
def HistoryIssuesUptoCardSaid : Prop := Claim7.holds Tryz.pinned (.plain (OpenSpec.upto historyIssuesSpec)) historyIssuesUptoCard

/-- THE SECOND FORM's CARD OF 'barrowlaw08.HistoryAgain'. -/
def historyAgainUptoCard : Claim7 := { stood := { row := historyAgainUptoRow, standIns := [], harness := (true, "a83a151b240cafbd81b308dff10fea0efc4006565d2d62f0cc1d865710a0b1c9"), looks := true }, kinds := [], alts := [], laidByText := true, laidKinds := [.sentinel, .sentinel, .sentinel, .sentinel, .sentinel, .sentinel, .sentinel, .sentinel, .sentinel, .sentinel, .sentinel, .sentinel, .sentinel, .sentinel], laidTests := true, laidLooks := .later }
def HistoryAgainUptoCardSaid : Prop := Claim7.holds Tryz.pinned (.plain (OpenSpec.upto historyAgainSpec)) historyAgainUptoCard

/-- THE SECOND FORM's CARD OF 'barrowlaw08.HistorySplits'. -/
def historySplitsUptoCard : Claim7 := { stood := { row := historySplitsUptoRow, standIns := [], harness := (true, "a83a151b240cafbd81b308dff10fea0efc4006565d2d62f0cc1d865710a0b1c9"), looks := true }, kinds := [], alts := [], laidByText := true, laidKinds := [.sentinel, .sentinel, .sentinel, .sentinel, .sentinel, .sentinel, .sentinel, .sentinel, .sentinel, .sentinel, .sentinel, .sentinel, .sentinel, .sentinel], laidTests := true, laidLooks := .later }
def HistorySplitsUptoCardSaid : Prop := Claim7.holds Tryz.pinned (.plain (OpenSpec.upto historySplitsSpec)) historySplitsUptoCard

/-- THE SECOND FORM's CARD OF 'barrowlaw08.HistoryExact'. -/
def historyExactUptoCard : Claim7 := { stood := { row := historyExactUptoRow, standIns := [], harness := (true, "a83a151b240cafbd81b308dff10fea0efc4006565d2d62f0cc1d865710a0b1c9"), looks := true }, kinds := [], alts := [], laidByText := true, laidKinds := [.sentinel, .sentinel, .sentinel, .sentinel, .sentinel, .sentinel, .sentinel, .sentinel, .sentinel, .sentinel, .sentinel, .sentinel, .sentinel, .sentinel], laidTests := true, laidLooks := .later }
def HistoryExactUptoCardSaid : Prop := Claim7.holds Tryz.pinned (.plain (OpenSpec.upto historyExactSpec)) historyExactUptoCard

/-- THE SECOND FORM's CARD OF 'barrowlaw08.HistoryNext'. -/
def historyNextUptoCard : Claim7 := { stood := { row := historyNextUptoRow, standIns := [], harness := (true, "a83a151b240cafbd81b308dff10fea0efc4006565d2d62f0cc1d865710a0b1c9"), looks := true }, kinds := [], alts := [], laidByText := true, laidKinds := [.sentinel, .sentinel, .sentinel, .sentinel, .sentinel, .sentinel, .sentinel, .sentinel, .sentinel, .sentinel, .sentinel, .sentinel, .sentinel, .sentinel], laidTests := true, laidLooks := .later }
def HistoryNextUptoCardSaid : Prop := Claim7.holds Tryz.pinned (.plain (OpenSpec.upto historyNextSpec)) historyNextUptoCard
end Rows
end Go.Proofs.YteggpddlkkjmjaaGreatDoor
