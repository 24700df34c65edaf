/-
  NARROWER THAN 'FOR EVERY INPUT', by the rows' own cells (each row's printed sentence says how): HistoryForms: laid · HistoryOneOrder: laid · HistoryMeets: laid · HistoryNew: laid · HistoryTakes: laid · HistoryIssues: laid · HistoryAgain: laid · HistorySplits: laid · HistoryExact: laid · HistoryNext: laid.
  DERIVED. THE GIVEN ROWS OF THIS SEAT. 10 by the template 'for every input the law returns true; each argument reads behind the call as it read before'; 0 by the template 'total and deterministic' (their statements: YteggpddlkkjmjaaGreatDoorTotals.lean).
  GIVEN WITH THE SEED: the statements are not yours to turn. If you find one false, say at which input.
  Laid BY PROGRAM, IN A SANDBOX (cutbox-rows.mjs): the forced cells as the released guide's own fill.sh prints them over the translation 1eb7e49dcf36fce5… (all of the seat's roots in one cut). By AI agents, Wed Nov 11 2026. No macro, syntax, notation, axiom, sorry.
-/
import Derived.Test.YteggpddlkkjmjaaGreatDoorChecked
import GoSem.Claim
import GoSem.ClaimJoined
import GoSem.ClaimMapViews
import Derived.JoinedTies
import Derived.KernelRfl
namespace Go.Proofs.YteggpddlkkjmjaaGreatDoor
/- THE CELL 'sum', in the pinned program and in every row, IS THE sha256 OF THE DUMP (.gsa) THAT YteggpddlkkjmjaaGreatDoorProg.lean LOADS. Nothing in Lean hashes anything: it is a label: what it is worth is what the hold of that sum in a sandbox is worth. -/
noncomputable def Tryz.pinned : Pinned := { name := "yteggpddlkkjmjaagreatdoor", sum := "1eb7e49dcf36fce5f04c8c1906001ae960bc70f9407e3f20bd3aca2105ae548c", checked := Tryz.checked }
namespace Rows
def none {H : Type} : Left H := { results := [], args := [] }

/- WHAT THE LISTED PACKAGE-LEVEL VARIABLES READ AS WHEN THE CALL BEGINS. Each datum BY PROGRAM (the guide's laid-datum.mjs) off the statement by which the dump's own 'gosem.cut.vars' lays the variable. In a bare row this is a premise. The card (YteggpddlkkjmjaaGreatDoorCards.lean) ties it to the program's text. -/
def laid_barrow_api_ErrArg {H : Type} : DataW H := .iface "*errors.errorString" (.ptr (.agg [.lit (.string [98, 97, 100, 32, 97, 114, 103, 117, 109, 101, 110, 116])]))
def laid_barrow_api_ErrRange {H : Type} : DataW H := .iface "*errors.errorString" (.ptr (.agg [.lit (.string [111, 117, 116, 32, 111, 102, 32, 114, 97, 110, 103, 101])]))
def laid_barrow_api_ErrText {H : Type} : DataW H := .iface "*errors.errorString" (.ptr (.agg [.lit (.string [98, 97, 100, 32, 116, 101, 120, 116])]))
def laid_barrow_api_ErrFull {H : Type} : DataW H := .iface "*errors.errorString" (.ptr (.agg [.lit (.string [110, 111, 32, 99, 114, 101, 100, 105, 116, 32, 108, 101, 102, 116])]))
def laid_barrow_api_ErrFrozen {H : Type} : DataW H := .iface "*errors.errorString" (.ptr (.agg [.lit (.string [102, 114, 111, 122, 101, 110])]))
def laid_barrow_api_ErrForm {H : Type} : DataW H := .iface "*errors.errorString" (.ptr (.agg [.lit (.string [98, 97, 100, 32, 102, 111, 114, 109])]))
def laid_barrow_api_ErrShort {H : Type} : DataW H := .iface "*errors.errorString" (.ptr (.agg [.lit (.string [99, 117, 116, 32, 115, 104, 111, 114, 116])]))
def laid_barrow_api_ErrOrder {H : Type} : DataW H := .iface "*errors.errorString" (.ptr (.agg [.lit (.string [110, 111, 116, 32, 121, 101, 116])]))
def laid_barrow_api_ErrTwice {H : Type} : DataW H := .iface "*errors.errorString" (.ptr (.agg [.lit (.string [116, 104, 101, 114, 101, 32, 97, 108, 114, 101, 97, 100, 121])]))
def laid_barrow_api_ErrEpoch {H : Type} : DataW H := .iface "*errors.errorString" (.ptr (.agg [.lit (.string [97, 110, 111, 116, 104, 101, 114, 32, 101, 112, 111, 99, 104])]))
def laid_barrow_api_ErrBusy {H : Type} : DataW H := .iface "*errors.errorString" (.ptr (.agg [.lit (.string [98, 117, 115, 121])]))
def laid_barrow_api_ErrNone {H : Type} : DataW H := .iface "*errors.errorString" (.ptr (.agg [.lit (.string [110, 111, 116, 104, 105, 110, 103, 32, 116, 104, 101, 114, 101])]))
def laid_barrow_api_ErrRoom {H : Type} : DataW H := .iface "*errors.errorString" (.ptr (.agg [.lit (.string [110, 111, 32, 114, 111, 111, 109])]))
def laid_barrow_api_ErrOther {H : Type} : DataW H := .iface "*errors.errorString" (.ptr (.agg [.lit (.string [115, 111, 109, 101, 116, 104, 105, 110, 103, 32, 101, 108, 115, 101])]))

/-- 'barrowlaw08.HistoryForms': WHATEVER THE INPUT: true; the input reads as it did. -/
def historyFormsSpec : ChangeSpec := { name := "historyForms", fn := fun _ => fun
  | [d] => { results := [.lit (.bool true)], args := [d] }
  | _ => none }
def historyFormsRow : OpenClaim := { program := "yteggpddlkkjmjaagreatdoor", sum := "1eb7e49dcf36fce5f04c8c1906001ae960bc70f9407e3f20bd3aca2105ae548c", func := "barrow/barrowlaw08.HistoryForms", spec := "historyForms", inPlace := ["internal/abi.NoEscape"], unfollowed := true, recurses := true, named := ["barrow/api.ErrArg", "barrow/api.ErrText", "barrow/api.ErrTwice", "barrow/api.ErrRange", "barrow/api.ErrFull", "barrow/api.ErrFrozen", "barrow/api.ErrForm", "barrow/api.ErrShort", "barrow/api.ErrOrder", "barrow/api.ErrEpoch", "barrow/api.ErrBusy", "barrow/api.ErrNone", "barrow/api.ErrRoom", "barrow/api.ErrOther"], plainKeys := false, apart := false, laid := [("barrow/api.ErrArg", laid_barrow_api_ErrArg), ("barrow/api.ErrRange", laid_barrow_api_ErrRange), ("barrow/api.ErrText", laid_barrow_api_ErrText), ("barrow/api.ErrFull", laid_barrow_api_ErrFull), ("barrow/api.ErrFrozen", laid_barrow_api_ErrFrozen), ("barrow/api.ErrForm", laid_barrow_api_ErrForm), ("barrow/api.ErrShort", laid_barrow_api_ErrShort), ("barrow/api.ErrOrder", laid_barrow_api_ErrOrder), ("barrow/api.ErrTwice", laid_barrow_api_ErrTwice), ("barrow/api.ErrEpoch", laid_barrow_api_ErrEpoch), ("barrow/api.ErrBusy", laid_barrow_api_ErrBusy), ("barrow/api.ErrNone", laid_barrow_api_ErrNone), ("barrow/api.ErrRoom", laid_barrow_api_ErrRoom), ("barrow/api.ErrOther", laid_barrow_api_ErrOther)] }
def HistoryFormsSaid : Prop := historyFormsRow.holds Tryz.pinned (OpenSpec.ofChange historyFormsSpec)

/-- ITS FALSE NEIGHBOUR: 'it returns false'. Refute it at one input. -/
def historyFormsWrong : ChangeSpec := { name := "historyForms", fn := fun _ => fun
  | [d] => { results := [.lit (.bool false)], args := [d] }
  | _ => none }
def HistoryFormsWrongFalsely : Prop := historyFormsRow.holds Tryz.pinned (OpenSpec.ofChange historyFormsWrong)

/-- 'barrowlaw08.HistoryOneOrder': WHATEVER THE INPUT: true; the input reads as it did. -/
def historyOneOrderSpec : ChangeSpec := { name := "historyOneOrder", fn := fun _ => fun
  | [d] => { results := [.lit (.bool true)], args := [d] }
  | _ => none }
def historyOneOrderRow : OpenClaim := { program := "yteggpddlkkjmjaagreatdoor", sum := "1eb7e49dcf36fce5f04c8c1906001ae960bc70f9407e3f20bd3aca2105ae548c", func := "barrow/barrowlaw08.HistoryOneOrder", spec := "historyOneOrder", inPlace := ["internal/abi.NoEscape"], unfollowed := true, recurses := true, named := ["barrow/api.ErrArg", "barrow/api.ErrText", "barrow/api.ErrTwice", "barrow/api.ErrRange", "barrow/api.ErrFull", "barrow/api.ErrFrozen", "barrow/api.ErrForm", "barrow/api.ErrShort", "barrow/api.ErrOrder", "barrow/api.ErrEpoch", "barrow/api.ErrBusy", "barrow/api.ErrNone", "barrow/api.ErrRoom", "barrow/api.ErrOther"], plainKeys := false, apart := false, laid := [("barrow/api.ErrArg", laid_barrow_api_ErrArg), ("barrow/api.ErrRange", laid_barrow_api_ErrRange), ("barrow/api.ErrText", laid_barrow_api_ErrText), ("barrow/api.ErrFull", laid_barrow_api_ErrFull), ("barrow/api.ErrFrozen", laid_barrow_api_ErrFrozen), ("barrow/api.ErrForm", laid_barrow_api_ErrForm), ("barrow/api.ErrShort", laid_barrow_api_ErrShort), ("barrow/api.ErrOrder", laid_barrow_api_ErrOrder), ("barrow/api.ErrTwice", laid_barrow_api_ErrTwice), ("barrow/api.ErrEpoch", laid_barrow_api_ErrEpoch), ("barrow/api.ErrBusy", laid_barrow_api_ErrBusy), ("barrow/api.ErrNone", laid_barrow_api_ErrNone), ("barrow/api.ErrRoom", laid_barrow_api_ErrRoom), ("barrow/api.ErrOther", laid_barrow_api_ErrOther)] }
def HistoryOneOrderSaid : Prop := historyOneOrderRow.holds Tryz.pinned (OpenSpec.ofChange historyOneOrderSpec)

/-- ITS FALSE NEIGHBOUR: 'it returns false'. Refute it at one input. -/
def historyOneOrderWrong : ChangeSpec := { name := "historyOneOrder", fn := fun _ => fun
  | [d] => { results := [.lit (.bool false)], args := [d] }
  | _ => none }
def HistoryOneOrderWrongFalsely : Prop := historyOneOrderRow.holds Tryz.pinned (OpenSpec.ofChange historyOneOrderWrong)

/-- 'barrowlaw08.HistoryMeets': WHATEVER THE INPUT: true; the input reads as it did. -/
def historyMeetsSpec : ChangeSpec := { name := "historyMeets", fn := fun _ => fun
  | [d] => { results := [.lit (.bool true)], args := [d] }
  | _ => none }
def historyMeetsRow : OpenClaim := { program := "yteggpddlkkjmjaagreatdoor", sum := "1eb7e49dcf36fce5f04c8c1906001ae960bc70f9407e3f20bd3aca2105ae548c", func := "barrow/barrowlaw08.HistoryMeets", spec := "historyMeets", inPlace := ["internal/abi.NoEscape"], unfollowed := true, recurses := true, named := ["barrow/api.ErrArg", "barrow/api.ErrText", "barrow/api.ErrTwice", "barrow/api.ErrRange", "barrow/api.ErrFull", "barrow/api.ErrFrozen", "barrow/api.ErrForm", "barrow/api.ErrShort", "barrow/api.ErrOrder", "barrow/api.ErrEpoch", "barrow/api.ErrBusy", "barrow/api.ErrNone", "barrow/api.ErrRoom", "barrow/api.ErrOther"], plainKeys := false, apart := false, laid := [("barrow/api.ErrArg", laid_barrow_api_ErrArg), ("barrow/api.ErrRange", laid_barrow_api_ErrRange), ("barrow/api.ErrText", laid_barrow_api_ErrText), ("barrow/api.ErrFull", laid_barrow_api_ErrFull), ("barrow/api.ErrFrozen", laid_barrow_api_ErrFrozen), ("barrow/api.ErrForm", laid_barrow_api_ErrForm), ("barrow/api.ErrShort", laid_barrow_api_ErrShort), ("barrow/api.ErrOrder", laid_barrow_api_ErrOrder), ("barrow/api.ErrTwice", laid_barrow_api_ErrTwice), ("barrow/api.ErrEpoch", laid_barrow_api_ErrEpoch), ("barrow/api.ErrBusy", laid_barrow_api_ErrBusy), ("barrow/api.ErrNone", laid_barrow_api_ErrNone), ("barrow/api.ErrRoom", laid_barrow_api_ErrRoom), ("barrow/api.ErrOther", laid_barrow_api_ErrOther)] }
def HistoryMeetsSaid : Prop := historyMeetsRow.holds Tryz.pinned (OpenSpec.ofChange historyMeetsSpec)

/-- ITS FALSE NEIGHBOUR: 'it returns false'. Refute it at one input. -/
def historyMeetsWrong : ChangeSpec := { name := "historyMeets", fn := fun _ => fun
  | [d] => { results := [.lit (.bool false)], args := [d] }
  | _ => none }
def HistoryMeetsWrongFalsely : Prop := historyMeetsRow.holds Tryz.pinned (OpenSpec.ofChange historyMeetsWrong)

/-- 'barrowlaw08.HistoryNew': WHATEVER THE INPUT: true; the input reads as it did. -/
def historyNewSpec : ChangeSpec := { name := "historyNew", fn := fun _ => fun
  | [d1, d2] => { results := [.lit (.bool true)], args := [d1, d2] }
  | _ => none }
def historyNewRow : OpenClaim := { program := "yteggpddlkkjmjaagreatdoor", sum := "1eb7e49dcf36fce5f04c8c1906001ae960bc70f9407e3f20bd3aca2105ae548c", func := "barrow/barrowlaw08.HistoryNew", spec := "historyNew", inPlace := ["internal/abi.NoEscape"], unfollowed := true, recurses := true, named := ["barrow/api.ErrArg", "barrow/api.ErrText", "barrow/api.ErrTwice", "barrow/api.ErrRange", "barrow/api.ErrFull", "barrow/api.ErrFrozen", "barrow/api.ErrForm", "barrow/api.ErrShort", "barrow/api.ErrOrder", "barrow/api.ErrEpoch", "barrow/api.ErrBusy", "barrow/api.ErrNone", "barrow/api.ErrRoom", "barrow/api.ErrOther"], plainKeys := false, apart := false, laid := [("barrow/api.ErrArg", laid_barrow_api_ErrArg), ("barrow/api.ErrRange", laid_barrow_api_ErrRange), ("barrow/api.ErrText", laid_barrow_api_ErrText), ("barrow/api.ErrFull", laid_barrow_api_ErrFull), ("barrow/api.ErrFrozen", laid_barrow_api_ErrFrozen), ("barrow/api.ErrForm", laid_barrow_api_ErrForm), ("barrow/api.ErrShort", laid_barrow_api_ErrShort), ("barrow/api.ErrOrder", laid_barrow_api_ErrOrder), ("barrow/api.ErrTwice", laid_barrow_api_ErrTwice), ("barrow/api.ErrEpoch", laid_barrow_api_ErrEpoch), ("barrow/api.ErrBusy", laid_barrow_api_ErrBusy), ("barrow/api.ErrNone", laid_barrow_api_ErrNone), ("barrow/api.ErrRoom", laid_barrow_api_ErrRoom), ("barrow/api.ErrOther", laid_barrow_api_ErrOther)] }
def HistoryNewSaid : Prop := historyNewRow.holds Tryz.pinned (OpenSpec.ofChange historyNewSpec)

/-- ITS FALSE NEIGHBOUR: 'it returns false'. Refute it at one input. -/
def historyNewWrong : ChangeSpec := { name := "historyNew", fn := fun _ => fun
  | [d1, d2] => { results := [.lit (.bool false)], args := [d1, d2] }
  | _ => none }
def HistoryNewWrongFalsely : Prop := historyNewRow.holds Tryz.pinned (OpenSpec.ofChange historyNewWrong)

/-- 'barrowlaw08.HistoryTakes': WHATEVER THE INPUT: true; the input reads as it did. -/
def historyTakesSpec : ChangeSpec := { name := "historyTakes", fn := fun _ => fun
  | [d1, d2] => { results := [.lit (.bool true)], args := [d1, d2] }
  | _ => none }
def historyTakesRow : OpenClaim := { program := "yteggpddlkkjmjaagreatdoor", sum := "1eb7e49dcf36fce5f04c8c1906001ae960bc70f9407e3f20bd3aca2105ae548c", func := "barrow/barrowlaw08.HistoryTakes", spec := "historyTakes", inPlace := ["internal/abi.NoEscape"], unfollowed := true, recurses := true, named := ["barrow/api.ErrArg", "barrow/api.ErrText", "barrow/api.ErrTwice", "barrow/api.ErrRange", "barrow/api.ErrFull", "barrow/api.ErrFrozen", "barrow/api.ErrForm", "barrow/api.ErrShort", "barrow/api.ErrOrder", "barrow/api.ErrEpoch", "barrow/api.ErrBusy", "barrow/api.ErrNone", "barrow/api.ErrRoom", "barrow/api.ErrOther"], plainKeys := false, apart := false, laid := [("barrow/api.ErrArg", laid_barrow_api_ErrArg), ("barrow/api.ErrRange", laid_barrow_api_ErrRange), ("barrow/api.ErrText", laid_barrow_api_ErrText), ("barrow/api.ErrFull", laid_barrow_api_ErrFull), ("barrow/api.ErrFrozen", laid_barrow_api_ErrFrozen), ("barrow/api.ErrForm", laid_barrow_api_ErrForm), ("barrow/api.ErrShort", laid_barrow_api_ErrShort), ("barrow/api.ErrOrder", laid_barrow_api_ErrOrder), ("barrow/api.ErrTwice", laid_barrow_api_ErrTwice), ("barrow/api.ErrEpoch", laid_barrow_api_ErrEpoch), ("barrow/api.ErrBusy", laid_barrow_api_ErrBusy), ("barrow/api.ErrNone", laid_barrow_api_ErrNone), ("barrow/api.ErrRoom", laid_barrow_api_ErrRoom), ("barrow/api.ErrOther", laid_barrow_api_ErrOther)] }
def HistoryTakesSaid : Prop := historyTakesRow.holds Tryz.pinned (OpenSpec.ofChange historyTakesSpec)

/-- ITS FALSE NEIGHBOUR: 'it returns false'. Refute it at one input. -/
def historyTakesWrong : ChangeSpec := { name := "historyTakes", fn := fun _ => fun
  | [d1, d2] => { results := [.lit (.bool false)], args := [d1, d2] }
  | _ => none }
def HistoryTakesWrongFalsely : Prop := historyTakesRow.holds Tryz.pinned (OpenSpec.ofChange historyTakesWrong)

/-- 'barrowlaw08.HistoryIssues': WHATEVER THE INPUT: true; the input reads as it did. -/
def historyIssuesSpec : ChangeSpec := { name := "historyIssues", fn := fun _ => fun
  | [d1, d2] => { results := [.lit (.bool true)], args := [d1, d2] }
  | _ => none }
def historyIssuesRow : OpenClaim := { program := "yteggpddlkkjmjaagreatdoor", sum := "1eb7e49dcf36fce5f04c8c1906001ae960bc70f9407e3f20bd3aca2105ae548c", func := "barrow/barrowlaw08.HistoryIssues", spec := "historyIssues", inPlace := ["internal/abi.NoEscape"], unfollowed := true, recurses := true, named := ["barrow/api.ErrArg", "barrow/api.ErrText", "barrow/api.ErrTwice", "barrow/api.ErrRange", "barrow/api.ErrFull", "barrow/api.ErrFrozen", "barrow/api.ErrForm", "barrow/api.ErrShort", "barrow/api.ErrOrder", "barrow/api.ErrEpoch", "barrow/api.ErrBusy", "barrow/api.ErrNone", "barrow/api.ErrRoom", "barrow/api.ErrOther"], plainKeys := false, apart := false, laid := [("barrow/api.ErrArg", laid_barrow_api_ErrArg), ("barrow/api.ErrRange", laid_barrow_api_ErrRange), ("barrow/api.ErrText", laid_barrow_api_ErrText), ("barrow/api.ErrFull", laid_barrow_api_ErrFull), ("barrow/api.ErrFrozen", laid_barrow_api_ErrFrozen), ("barrow/api.ErrForm", laid_barrow_api_ErrForm), ("barrow/api.ErrShort", laid_barrow_api_ErrShort), ("barrow/api.ErrOrder", laid_barrow_api_ErrOrder), ("barrow/api.ErrTwice", laid_barrow_api_ErrTwice), ("barrow/api.ErrEpoch", laid_barrow_api_ErrEpoch), ("barrow/api.ErrBusy", laid_barrow_api_ErrBusy), ("barrow/api.ErrNone", laid_barrow_api_ErrNone), ("barrow/api.ErrRoom", laid_barrow_api_ErrRoom), ("barrow/api.ErrOther", laid_barrow_api_ErrOther)] }
def HistoryIssuesSaid : Prop := historyIssuesRow.holds Tryz.pinned (OpenSpec.ofChange historyIssuesSpec)

/-- ITS FALSE NEIGHBOUR: 'it returns false'. Refute it at one input. -/
def historyIssuesWrong : ChangeSpec := { name := "historyIssues", fn := fun _ => fun
  | [d1, d2] => { results := [.lit (.bool false)], args := [d1, d2] }
  | _ => none }
def HistoryIssuesWrongFalsely : Prop := historyIssuesRow.holds Tryz.pinned (OpenSpec.ofChange historyIssuesWrong)

/-- 'barrowlaw08.HistoryAgain': WHATEVER THE INPUT: true; the input reads as it did. -/
def historyAgainSpec : ChangeSpec := { name := "historyAgain", fn := fun _ => fun
  | [d] => { results := [.lit (.bool true)], args := [d] }
  | _ => none }
def historyAgainRow : OpenClaim := { program := "yteggpddlkkjmjaagreatdoor", sum := "1eb7e49dcf36fce5f04c8c1906001ae960bc70f9407e3f20bd3aca2105ae548c", func := "barrow/barrowlaw08.HistoryAgain", spec := "historyAgain", inPlace := ["internal/abi.NoEscape"], unfollowed := true, recurses := true, named := ["barrow/api.ErrArg", "barrow/api.ErrText", "barrow/api.ErrTwice", "barrow/api.ErrRange", "barrow/api.ErrFull", "barrow/api.ErrFrozen", "barrow/api.ErrForm", "barrow/api.ErrShort", "barrow/api.ErrOrder", "barrow/api.ErrEpoch", "barrow/api.ErrBusy", "barrow/api.ErrNone", "barrow/api.ErrRoom", "barrow/api.ErrOther"], plainKeys := false, apart := false, laid := [("barrow/api.ErrArg", laid_barrow_api_ErrArg), ("barrow/api.ErrRange", laid_barrow_api_ErrRange), ("barrow/api.ErrText", laid_barrow_api_ErrText), ("barrow/api.ErrFull", laid_barrow_api_ErrFull), ("barrow/api.ErrFrozen", laid_barrow_api_ErrFrozen), ("barrow/api.ErrForm", laid_barrow_api_ErrForm), ("barrow/api.ErrShort", laid_barrow_api_ErrShort), ("barrow/api.ErrOrder", laid_barrow_api_ErrOrder), ("barrow/api.ErrTwice", laid_barrow_api_ErrTwice), ("barrow/api.ErrEpoch", laid_barrow_api_ErrEpoch), ("barrow/api.ErrBusy", laid_barrow_api_ErrBusy), ("barrow/api.ErrNone", laid_barrow_api_ErrNone), ("barrow/api.ErrRoom", laid_barrow_api_ErrRoom), ("barrow/api.ErrOther", laid_barrow_api_ErrOther)] }
def HistoryAgainSaid : Prop := historyAgainRow.holds Tryz.pinned (OpenSpec.ofChange historyAgainSpec)

/-- ITS FALSE NEIGHBOUR: 'it returns false'. Refute it at one input. -/
def historyAgainWrong : ChangeSpec := { name := "historyAgain", fn := fun _ => fun
  | [d] => { results := [.lit (.bool false)], args := [d] }
  | _ => none }
def HistoryAgainWrongFalsely : Prop := historyAgainRow.holds Tryz.pinned (OpenSpec.ofChange historyAgainWrong)

/-- 'barrowlaw08.HistorySplits': WHATEVER THE INPUT: true; the input reads as it did. -/
def historySplitsSpec : ChangeSpec := { name := "historySplits", fn := fun _ => fun
  | [d1, d2] => { results := [.lit (.bool true)], args := [d1, d2] }
  | _ => none }
def historySplitsRow : OpenClaim := { program := "yteggpddlkkjmjaagreatdoor", sum := "1eb7e49dcf36fce5f04c8c1906001ae960bc70f9407e3f20bd3aca2105ae548c", func := "barrow/barrowlaw08.HistorySplits", spec := "historySplits", inPlace := ["internal/abi.NoEscape"], unfollowed := true, recurses := true, named := ["barrow/api.ErrArg", "barrow/api.ErrText", "barrow/api.ErrTwice", "barrow/api.ErrRange", "barrow/api.ErrFull", "barrow/api.ErrFrozen", "barrow/api.ErrForm", "barrow/api.ErrShort", "barrow/api.ErrOrder", "barrow/api.ErrEpoch", "barrow/api.ErrBusy", "barrow/api.ErrNone", "barrow/api.ErrRoom", "barrow/api.ErrOther"], plainKeys := false, apart := false, laid := [("barrow/api.ErrArg", laid_barrow_api_ErrArg), ("barrow/api.ErrRange", laid_barrow_api_ErrRange), ("barrow/api.ErrText", laid_barrow_api_ErrText), ("barrow/api.ErrFull", laid_barrow_api_ErrFull), ("barrow/api.ErrFrozen", laid_barrow_api_ErrFrozen), ("barrow/api.ErrForm", laid_barrow_api_ErrForm), ("barrow/api.ErrShort", laid_barrow_api_ErrShort), ("barrow/api.ErrOrder", laid_barrow_api_ErrOrder), ("barrow/api.ErrTwice", laid_barrow_api_ErrTwice), ("barrow/api.ErrEpoch", laid_barrow_api_ErrEpoch), ("barrow/api.ErrBusy", laid_barrow_api_ErrBusy), ("barrow/api.ErrNone", laid_barrow_api_ErrNone), ("barrow/api.ErrRoom", laid_barrow_api_ErrRoom), ("barrow/api.ErrOther", laid_barrow_api_ErrOther)] }
def HistorySplitsSaid : Prop := historySplitsRow.holds Tryz.pinned (OpenSpec.ofChange historySplitsSpec)

/-- ITS FALSE NEIGHBOUR: 'it returns false'. Refute it at one input. -/
def historySplitsWrong : ChangeSpec := { name := "historySplits", fn := fun _ => fun
  | [d1, d2] => { results := [.lit (.bool false)], args := [d1, d2] }
  | _ => none }
def HistorySplitsWrongFalsely : Prop := historySplitsRow.holds Tryz.pinned (OpenSpec.ofChange historySplitsWrong)

/-- 'barrowlaw08.HistoryExact': WHATEVER THE INPUT: true; the input reads as it did. -/
def historyExactSpec : ChangeSpec := { name := "historyExact", fn := fun _ => fun
  | [d1, d2] => { results := [.lit (.bool true)], args := [d1, d2] }
  | _ => none }
def historyExactRow : OpenClaim := { program := "yteggpddlkkjmjaagreatdoor", sum := "1eb7e49dcf36fce5f04c8c1906001ae960bc70f9407e3f20bd3aca2105ae548c", func := "barrow/barrowlaw08.HistoryExact", spec := "historyExact", inPlace := ["internal/abi.NoEscape"], unfollowed := true, recurses := true, named := ["barrow/api.ErrArg", "barrow/api.ErrText", "barrow/api.ErrTwice", "barrow/api.ErrRange", "barrow/api.ErrFull", "barrow/api.ErrFrozen", "barrow/api.ErrForm", "barrow/api.ErrShort", "barrow/api.ErrOrder", "barrow/api.ErrEpoch", "barrow/api.ErrBusy", "barrow/api.ErrNone", "barrow/api.ErrRoom", "barrow/api.ErrOther"], plainKeys := false, apart := false, laid := [("barrow/api.ErrArg", laid_barrow_api_ErrArg), ("barrow/api.ErrRange", laid_barrow_api_ErrRange), ("barrow/api.ErrText", laid_barrow_api_ErrText), ("barrow/api.ErrFull", laid_barrow_api_ErrFull), ("barrow/api.ErrFrozen", laid_barrow_api_ErrFrozen), ("barrow/api.ErrForm", laid_barrow_api_ErrForm), ("barrow/api.ErrShort", laid_barrow_api_ErrShort), ("barrow/api.ErrOrder", laid_barrow_api_ErrOrder), ("barrow/api.ErrTwice", laid_barrow_api_ErrTwice), ("barrow/api.ErrEpoch", laid_barrow_api_ErrEpoch), ("barrow/api.ErrBusy", laid_barrow_api_ErrBusy), ("barrow/api.ErrNone", laid_barrow_api_ErrNone), ("barrow/api.ErrRoom", laid_barrow_api_ErrRoom), ("barrow/api.ErrOther", laid_barrow_api_ErrOther)] }
def HistoryExactSaid : Prop := historyExactRow.holds Tryz.pinned (OpenSpec.ofChange historyExactSpec)

/-- ITS FALSE NEIGHBOUR: 'it returns false'. Refute it at one input. -/
def historyExactWrong : ChangeSpec := { name := "historyExact", fn := fun _ => fun
  | [d1, d2] => { results := [.lit (.bool false)], args := [d1, d2] }
  | _ => none }
def HistoryExactWrongFalsely : Prop := historyExactRow.holds Tryz.pinned (OpenSpec.ofChange historyExactWrong)

/-- 'barrowlaw08.HistoryNext': WHATEVER THE INPUT: true; the input reads as it did. -/
def historyNextSpec : ChangeSpec := { name := "historyNext", fn := fun _ => fun
  | [d1, d2] => { results := [.lit (.bool true)], args := [d1, d2] }
  | _ => none }
def historyNextRow : OpenClaim := { program := "yteggpddlkkjmjaagreatdoor", sum := "1eb7e49dcf36fce5f04c8c1906001ae960bc70f9407e3f20bd3aca2105ae548c", func := "barrow/barrowlaw08.HistoryNext", spec := "historyNext", inPlace := ["internal/abi.NoEscape"], unfollowed := true, recurses := true, named := ["barrow/api.ErrArg", "barrow/api.ErrText", "barrow/api.ErrTwice", "barrow/api.ErrRange", "barrow/api.ErrFull", "barrow/api.ErrFrozen", "barrow/api.ErrForm", "barrow/api.ErrShort", "barrow/api.ErrOrder", "barrow/api.ErrEpoch", "barrow/api.ErrBusy", "barrow/api.ErrNone", "barrow/api.ErrRoom", "barrow/api.ErrOther"], plainKeys := false, apart := false, laid := [("barrow/api.ErrArg", laid_barrow_api_ErrArg), ("barrow/api.ErrRange", laid_barrow_api_ErrRange), ("barrow/api.ErrText", laid_barrow_api_ErrText), ("barrow/api.ErrFull", laid_barrow_api_ErrFull), ("barrow/api.ErrFrozen", laid_barrow_api_ErrFrozen), ("barrow/api.ErrForm", laid_barrow_api_ErrForm), ("barrow/api.ErrShort", laid_barrow_api_ErrShort), ("barrow/api.ErrOrder", laid_barrow_api_ErrOrder), ("barrow/api.ErrTwice", laid_barrow_api_ErrTwice), ("barrow/api.ErrEpoch", laid_barrow_api_ErrEpoch), ("barrow/api.ErrBusy", laid_barrow_api_ErrBusy), ("barrow/api.ErrNone", laid_barrow_api_ErrNone), ("barrow/api.ErrRoom", laid_barrow_api_ErrRoom), ("barrow/api.ErrOther", laid_barrow_api_ErrOther)] }
def HistoryNextSaid : Prop := historyNextRow.holds Tryz.pinned (OpenSpec.ofChange historyNextSpec)

/-- ITS FALSE NEIGHBOUR: 'it returns false'. Refute it at one input. -/
def historyNextWrong : ChangeSpec := { name := "historyNext", fn := fun _ => fun
  | [d1, d2] => { results := [.lit (.bool false)], args := [d1, d2] }
  | _ => none }
def HistoryNextWrongFalsely : Prop := historyNextRow.holds Tryz.pinned (OpenSpec.ofChange historyNextWrong)

/- THE SECOND FORM. 'bulk': how many values and letters a reading holds, each counted each time it is reached (what is shared counts as often as it is met; a slice's spare places count too). A statement '..UptoSaid' is the law's where the arguments, and the package variables that the reading takes, are together of bulk at most 1048576: NARROWER than '..Said'. Prove '..Said' where nothing that the law and all that it calls make is longer than what came in: it says more and counts as full. Else prove '..UptoSaid'. A law counts once. -/
mutual
def uptoBulk {H : Type} : DataW H → Nat
  | .lit (.string bytes) => bytes.length + 1
  | .lit _ => 1
  | .nil => 1
  | .ptr d => uptoBulk d + 1
  | .slice elems spare => uptoBulkAll elems + uptoBulkAll spare + 1
  | .agg parts => uptoBulkAll parts + 1
  | .iface _ d => uptoBulk d + 1
  | .map entries => uptoBulkEntries entries + 1
  | .held _ => 1
def uptoBulkAll {H : Type} : List (DataW H) → Nat
  | [] => 0
  | d :: r => uptoBulk d + uptoBulkAll r
def uptoBulkEntries {H : Type} : List (Lit × DataW H) → Nat
  | [] => 0
  | x :: r => uptoBulkEntry x + uptoBulkEntries r
def uptoBulkEntry {H : Type} : Lit × DataW H → Nat
  | (.string bytes, d) => bytes.length + uptoBulk d + 1
  | (_, d) => uptoBulk d + 1
 end
def uptoSmall : (H : Type) → List (DataW H) → Bool := fun _ ds => decide (uptoBulkAll ds ≤ 1048576)
def OpenSpec.upto (s : _root_.Go.ChangeSpec) : _root_.Go.OpenSpec := { _root_.Go.OpenSpec.ofChange s with cond := some uptoSmall }

/-- 'barrowlaw08.HistoryForms', WHERE WHAT IT READS IS OF BULK AT MOST 1048576: true; the input reads as it did. -/
def historyFormsUptoRow : OpenClaim := { program := "yteggpddlkkjmjaagreatdoor", sum := "1eb7e49dcf36fce5f04c8c1906001ae960bc70f9407e3f20bd3aca2105ae548c", func := "barrow/barrowlaw08.HistoryForms", spec := "historyForms", inPlace := ["internal/abi.NoEscape"], unfollowed := true, recurses := true, named := ["barrow/api.ErrArg", "barrow/api.ErrText", "barrow/api.ErrTwice", "barrow/api.ErrRange", "barrow/api.ErrFull", "barrow/api.ErrFrozen", "barrow/api.ErrForm", "barrow/api.ErrShort", "barrow/api.ErrOrder", "barrow/api.ErrEpoch", "barrow/api.ErrBusy", "barrow/api.ErrNone", "barrow/api.ErrRoom", "barrow/api.ErrOther"], plainKeys := false, apart := false, laid := [("barrow/api.ErrArg", laid_barrow_api_ErrArg), ("barrow/api.ErrRange", laid_barrow_api_ErrRange), ("barrow/api.ErrText", laid_barrow_api_ErrText), ("barrow/api.ErrFull", laid_barrow_api_ErrFull), ("barrow/api.ErrFrozen", laid_barrow_api_ErrFrozen), ("barrow/api.ErrForm", laid_barrow_api_ErrForm), ("barrow/api.ErrShort", laid_barrow_api_ErrShort), ("barrow/api.ErrOrder", laid_barrow_api_ErrOrder), ("barrow/api.ErrTwice", laid_barrow_api_ErrTwice), ("barrow/api.ErrEpoch", laid_barrow_api_ErrEpoch), ("barrow/api.ErrBusy", laid_barrow_api_ErrBusy), ("barrow/api.ErrNone", laid_barrow_api_ErrNone), ("barrow/api.ErrRoom", laid_barrow_api_ErrRoom), ("barrow/api.ErrOther", laid_barrow_api_ErrOther)], narrowed := true }
def HistoryFormsUptoSaid : Prop := historyFormsUptoRow.holds Tryz.pinned (OpenSpec.upto historyFormsSpec)

/-- 'barrowlaw08.HistoryOneOrder', WHERE WHAT IT READS IS OF BULK AT MOST 1048576: true; the input reads as it did. -/
def historyOneOrderUptoRow : OpenClaim := { program := "yteggpddlkkjmjaagreatdoor", sum := "1eb7e49dcf36fce5f04c8c1906001ae960bc70f9407e3f20bd3aca2105ae548c", func := "barrow/barrowlaw08.HistoryOneOrder", spec := "historyOneOrder", inPlace := ["internal/abi.NoEscape"], unfollowed := true, recurses := true, named := ["barrow/api.ErrArg", "barrow/api.ErrText", "barrow/api.ErrTwice", "barrow/api.ErrRange", "barrow/api.ErrFull", "barrow/api.ErrFrozen", "barrow/api.ErrForm", "barrow/api.ErrShort", "barrow/api.ErrOrder", "barrow/api.ErrEpoch", "barrow/api.ErrBusy", "barrow/api.ErrNone", "barrow/api.ErrRoom", "barrow/api.ErrOther"], plainKeys := false, apart := false, laid := [("barrow/api.ErrArg", laid_barrow_api_ErrArg), ("barrow/api.ErrRange", laid_barrow_api_ErrRange), ("barrow/api.ErrText", laid_barrow_api_ErrText), ("barrow/api.ErrFull", laid_barrow_api_ErrFull), ("barrow/api.ErrFrozen", laid_barrow_api_ErrFrozen), ("barrow/api.ErrForm", laid_barrow_api_ErrForm), ("barrow/api.ErrShort", laid_barrow_api_ErrShort), ("barrow/api.ErrOrder", laid_barrow_api_ErrOrder), ("barrow/api.ErrTwice", laid_barrow_api_ErrTwice), ("barrow/api.ErrEpoch", laid_barrow_api_ErrEpoch), ("barrow/api.ErrBusy", laid_barrow_api_ErrBusy), ("barrow/api.ErrNone", laid_barrow_api_ErrNone), ("barrow/api.ErrRoom", laid_barrow_api_ErrRoom), ("barrow/api.ErrOther", laid_barrow_api_ErrOther)], narrowed := true }
def HistoryOneOrderUptoSaid : Prop := historyOneOrderUptoRow.holds Tryz.pinned (OpenSpec.upto historyOneOrderSpec)

/-- 'barrowlaw08.HistoryMeets', WHERE WHAT IT READS IS OF BULK AT MOST 1048576: true; the input reads as it did. -/
def historyMeetsUptoRow : OpenClaim := { program := "yteggpddlkkjmjaagreatdoor", sum := "1eb7e49dcf36fce5f04c8c1906001ae960bc70f9407e3f20bd3aca2105ae548c", func := "barrow/barrowlaw08.HistoryMeets", spec := "historyMeets", inPlace := ["internal/abi.NoEscape"], unfollowed := true, recurses := true, named := ["barrow/api.ErrArg", "barrow/api.ErrText", "barrow/api.ErrTwice", "barrow/api.ErrRange", "barrow/api.ErrFull", "barrow/api.ErrFrozen", "barrow/api.ErrForm", "barrow/api.ErrShort", "barrow/api.ErrOrder", "barrow/api.ErrEpoch", "barrow/api.ErrBusy", "barrow/api.ErrNone", "barrow/api.ErrRoom", "barrow/api.ErrOther"], plainKeys := false, apart := false, laid := [("barrow/api.ErrArg", laid_barrow_api_ErrArg), ("barrow/api.ErrRange", laid_barrow_api_ErrRange), ("barrow/api.ErrText", laid_barrow_api_ErrText), ("barrow/api.ErrFull", laid_barrow_api_ErrFull), ("barrow/api.ErrFrozen", laid_barrow_api_ErrFrozen), ("barrow/api.ErrForm", laid_barrow_api_ErrForm), ("barrow/api.ErrShort", laid_barrow_api_ErrShort), ("barrow/api.ErrOrder", laid_barrow_api_ErrOrder), ("barrow/api.ErrTwice", laid_barrow_api_ErrTwice), ("barrow/api.ErrEpoch", laid_barrow_api_ErrEpoch), ("barrow/api.ErrBusy", laid_barrow_api_ErrBusy), ("barrow/api.ErrNone", laid_barrow_api_ErrNone), ("barrow/api.ErrRoom", laid_barrow_api_ErrRoom), ("barrow/api.ErrOther", laid_barrow_api_ErrOther)], narrowed := true }
def HistoryMeetsUptoSaid : Prop := historyMeetsUptoRow.holds Tryz.pinned (OpenSpec.upto historyMeetsSpec)

/-- 'barrowlaw08.HistoryNew', WHERE WHAT IT READS IS OF BULK AT MOST 1048576: true; the input reads as it did. -/
def historyNewUptoRow : OpenClaim := { program := "yteggpddlkkjmjaagreatdoor", sum := "1eb7e49dcf36fce5f04c8c1906001ae960bc70f9407e3f20bd3aca2105ae548c", func := "barrow/barrowlaw08.HistoryNew", spec := "historyNew", inPlace := ["internal/abi.NoEscape"], unfollowed := true, recurses := true, named := ["barrow/api.ErrArg", "barrow/api.ErrText", "barrow/api.ErrTwice", "barrow/api.ErrRange", "barrow/api.ErrFull", "barrow/api.ErrFrozen", "barrow/api.ErrForm", "barrow/api.ErrShort", "barrow/api.ErrOrder", "barrow/api.ErrEpoch", "barrow/api.ErrBusy", "barrow/api.ErrNone", "barrow/api.ErrRoom", "barrow/api.ErrOther"], plainKeys := false, apart := false, laid := [("barrow/api.ErrArg", laid_barrow_api_ErrArg), ("barrow/api.ErrRange", laid_barrow_api_ErrRange), ("barrow/api.ErrText", laid_barrow_api_ErrText), ("barrow/api.ErrFull", laid_barrow_api_ErrFull), ("barrow/api.ErrFrozen", laid_barrow_api_ErrFrozen), ("barrow/api.ErrForm", laid_barrow_api_ErrForm), ("barrow/api.ErrShort", laid_barrow_api_ErrShort), ("barrow/api.ErrOrder", laid_barrow_api_ErrOrder), ("barrow/api.ErrTwice", laid_barrow_api_ErrTwice), ("barrow/api.ErrEpoch", laid_barrow_api_ErrEpoch), ("barrow/api.ErrBusy", laid_barrow_api_ErrBusy), ("barrow/api.ErrNone", laid_barrow_api_ErrNone), ("barrow/api.ErrRoom", laid_barrow_api_ErrRoom), ("barrow/api.ErrOther", laid_barrow_api_ErrOther)], narrowed := true }
def HistoryNewUptoSaid : Prop := historyNewUptoRow.holds Tryz.pinned (OpenSpec.upto historyNewSpec)

/-- 'barrowlaw08.HistoryTakes', WHERE WHAT IT READS IS OF BULK AT MOST 1048576: true; the input reads as it did. -/
def historyTakesUptoRow : OpenClaim := { program := "yteggpddlkkjmjaagreatdoor", sum := "1eb7e49dcf36fce5f04c8c1906001ae960bc70f9407e3f20bd3aca2105ae548c", func := "barrow/barrowlaw08.HistoryTakes", spec := "historyTakes", inPlace := ["internal/abi.NoEscape"], unfollowed := true, recurses := true, named := ["barrow/api.ErrArg", "barrow/api.ErrText", "barrow/api.ErrTwice", "barrow/api.ErrRange", "barrow/api.ErrFull", "barrow/api.ErrFrozen", "barrow/api.ErrForm", "barrow/api.ErrShort", "barrow/api.ErrOrder", "barrow/api.ErrEpoch", "barrow/api.ErrBusy", "barrow/api.ErrNone", "barrow/api.ErrRoom", "barrow/api.ErrOther"], plainKeys := false, apart := false, laid := [("barrow/api.ErrArg", laid_barrow_api_ErrArg), ("barrow/api.ErrRange", laid_barrow_api_ErrRange), ("barrow/api.ErrText", laid_barrow_api_ErrText), ("barrow/api.ErrFull", laid_barrow_api_ErrFull), ("barrow/api.ErrFrozen", laid_barrow_api_ErrFrozen), ("barrow/api.ErrForm", laid_barrow_api_ErrForm), ("barrow/api.ErrShort", laid_barrow_api_ErrShort), ("barrow/api.ErrOrder", laid_barrow_api_ErrOrder), ("barrow/api.ErrTwice", laid_barrow_api_ErrTwice), ("barrow/api.ErrEpoch", laid_barrow_api_ErrEpoch), ("barrow/api.ErrBusy", laid_barrow_api_ErrBusy), ("barrow/api.ErrNone", laid_barrow_api_ErrNone), ("barrow/api.ErrRoom", laid_barrow_api_ErrRoom), ("barrow/api.ErrOther", laid_barrow_api_ErrOther)], narrowed := true }
def HistoryTakesUptoSaid : Prop := historyTakesUptoRow.holds Tryz.pinned (OpenSpec.upto historyTakesSpec)

/-- 'barrowlaw08.HistoryIssues', WHERE WHAT IT READS IS OF BULK AT MOST 1048576: true; the input reads as it did. -/
def historyIssuesUptoRow : OpenClaim := { program := "yteggpddlkkjmjaagreatdoor", sum := "1eb7e49dcf36fce5f04c8c1906001ae960bc70f9407e3f20bd3aca2105ae548c", func := "barrow/barrowlaw08.HistoryIssues", spec := "historyIssues", inPlace := ["internal/abi.NoEscape"], unfollowed := true, recurses := true, named := ["barrow/api.ErrArg", "barrow/api.ErrText", "barrow/api.ErrTwice", "barrow/api.ErrRange", "barrow/api.ErrFull", "barrow/api.ErrFrozen", "barrow/api.ErrForm", "barrow/api.ErrShort", "barrow/api.ErrOrder", "barrow/api.ErrEpoch", "barrow/api.ErrBusy", "barrow/api.ErrNone", "barrow/api.ErrRoom", "barrow/api.ErrOther"], plainKeys := false, apart := false, laid := [("barrow/api.ErrArg", laid_barrow_api_ErrArg), ("barrow/api.ErrRange", laid_barrow_api_ErrRange), ("barrow/api.ErrText", laid_barrow_api_ErrText), ("barrow/api.ErrFull", laid_barrow_api_ErrFull), ("barrow/api.ErrFrozen", laid_barrow_api_ErrFrozen), ("barrow/api.ErrForm", laid_barrow_api_ErrForm), ("barrow/api.ErrShort", laid_barrow_api_ErrShort), ("barrow/api.ErrOrder", laid_barrow_api_ErrOrder), ("barrow/api.ErrTwice", laid_barrow_api_ErrTwice), ("barrow/api.ErrEpoch", laid_barrow_api_ErrEpoch), ("barrow/api.ErrBusy", laid_barrow_api_ErrBusy), ("barrow/api.ErrNone", laid_barrow_api_ErrNone), ("barrow/api.ErrRoom", laid_barrow_api_ErrRoom), ("barrow/api.ErrOther", laid_barrow_api_ErrOther)], narrowed := true }
def HistoryIssuesUptoSaid : Prop := historyIssuesUptoRow.holds Tryz.pinned (OpenSpec.upto historyIssuesSpec)

/-- 'barrowlaw08.HistoryAgain', WHERE WHAT IT READS IS OF BULK AT MOST 1048576: true; the input reads as it did. -/
def historyAgainUptoRow : OpenClaim := { program := "yteggpddlkkjmjaagreatdoor", sum := "1eb7e49dcf36fce5f04c8c1906001ae960bc70f9407e3f20bd3aca2105ae548c", func := "barrow/barrowlaw08.HistoryAgain", spec := "historyAgain", inPlace := ["internal/abi.NoEscape"], unfollowed := true, recurses := true, named := ["barrow/api.ErrArg", "barrow/api.ErrText", "barrow/api.ErrTwice", "barrow/api.ErrRange", "barrow/api.ErrFull", "barrow/api.ErrFrozen", "barrow/api.ErrForm", "barrow/api.ErrShort", "barrow/api.ErrOrder", "barrow/api.ErrEpoch", "barrow/api.ErrBusy", "barrow/api.ErrNone", "barrow/api.ErrRoom", "barrow/api.ErrOther"], plainKeys := false, apart := false, laid := [("barrow/api.ErrArg", laid_barrow_api_ErrArg), ("barrow/api.ErrRange", laid_barrow_api_ErrRange), ("barrow/api.ErrText", laid_barrow_api_ErrText), ("barrow/api.ErrFull", laid_barrow_api_ErrFull), ("barrow/api.ErrFrozen", laid_barrow_api_ErrFrozen), ("barrow/api.ErrForm", laid_barrow_api_ErrForm), ("barrow/api.ErrShort", laid_barrow_api_ErrShort), ("barrow/api.ErrOrder", laid_barrow_api_ErrOrder), ("barrow/api.ErrTwice", laid_barrow_api_ErrTwice), ("barrow/api.ErrEpoch", laid_barrow_api_ErrEpoch), ("barrow/api.ErrBusy", laid_barrow_api_ErrBusy), ("barrow/api.ErrNone", laid_barrow_api_ErrNone), ("barrow/api.ErrRoom", laid_barrow_api_ErrRoom), ("barrow/api.ErrOther", laid_barrow_api_ErrOther)], narrowed := true }
def HistoryAgainUptoSaid : Prop := historyAgainUptoRow.holds Tryz.pinned (OpenSpec.upto historyAgainSpec)

/-- 'barrowlaw08.HistorySplits', WHERE WHAT IT READS IS OF BULK AT MOST 1048576: true; the input reads as it did. -/
def historySplitsUptoRow : OpenClaim := { program := "yteggpddlkkjmjaagreatdoor", sum := "1eb7e49dcf36fce5f04c8c1906001ae960bc70f9407e3f20bd3aca2105ae548c", func := "barrow/barrowlaw08.HistorySplits", spec := "historySplits", inPlace := ["internal/abi.NoEscape"], unfollowed := true, recurses := true, named := ["barrow/api.ErrArg", "barrow/api.ErrText", "barrow/api.ErrTwice", "barrow/api.ErrRange", "barrow/api.ErrFull", "barrow/api.ErrFrozen", "barrow/api.ErrForm", "barrow/api.ErrShort", "barrow/api.ErrOrder", "barrow/api.ErrEpoch", "barrow/api.ErrBusy", "barrow/api.ErrNone", "barrow/api.ErrRoom", "barrow/api.ErrOther"], plainKeys := false, apart := false, laid := [("barrow/api.ErrArg", laid_barrow_api_ErrArg), ("barrow/api.ErrRange", laid_barrow_api_ErrRange), ("barrow/api.ErrText", laid_barrow_api_ErrText), ("barrow/api.ErrFull", laid_barrow_api_ErrFull), ("barrow/api.ErrFrozen", laid_barrow_api_ErrFrozen), ("barrow/api.ErrForm", laid_barrow_api_ErrForm), ("barrow/api.ErrShort", laid_barrow_api_ErrShort), ("barrow/api.ErrOrder", laid_barrow_api_ErrOrder), ("barrow/api.ErrTwice", laid_barrow_api_ErrTwice), ("barrow/api.ErrEpoch", laid_barrow_api_ErrEpoch), ("barrow/api.ErrBusy", laid_barrow_api_ErrBusy), ("barrow/api.ErrNone", laid_barrow_api_ErrNone), ("barrow/api.ErrRoom", laid_barrow_api_ErrRoom), ("barrow/api.ErrOther", laid_barrow_api_ErrOther)], narrowed := true }
def HistorySplitsUptoSaid : Prop := historySplitsUptoRow.holds Tryz.pinned (OpenSpec.upto historySplitsSpec)

/-- 'barrowlaw08.HistoryExact', WHERE WHAT IT READS IS OF BULK AT MOST 1048576: true; the input reads as it did. -/
def historyExactUptoRow : OpenClaim := { program := "yteggpddlkkjmjaagreatdoor", sum := "1eb7e49dcf36fce5f04c8c1906001ae960bc70f9407e3f20bd3aca2105ae548c", func := "barrow/barrowlaw08.HistoryExact", spec := "historyExact", inPlace := ["internal/abi.NoEscape"], unfollowed := true, recurses := true, named := ["barrow/api.ErrArg", "barrow/api.ErrText", "barrow/api.ErrTwice", "barrow/api.ErrRange", "barrow/api.ErrFull", "barrow/api.ErrFrozen", "barrow/api.ErrForm", "barrow/api.ErrShort", "barrow/api.ErrOrder", "barrow/api.ErrEpoch", "barrow/api.ErrBusy", "barrow/api.ErrNone", "barrow/api.ErrRoom", "barrow/api.ErrOther"], plainKeys := false, apart := false, laid := [("barrow/api.ErrArg", laid_barrow_api_ErrArg), ("barrow/api.ErrRange", laid_barrow_api_ErrRange), ("barrow/api.ErrText", laid_barrow_api_ErrText), ("barrow/api.ErrFull", laid_barrow_api_ErrFull), ("barrow/api.ErrFrozen", laid_barrow_api_ErrFrozen), ("barrow/api.ErrForm", laid_barrow_api_ErrForm), ("barrow/api.ErrShort", laid_barrow_api_ErrShort), ("barrow/api.ErrOrder", laid_barrow_api_ErrOrder), ("barrow/api.ErrTwice", laid_barrow_api_ErrTwice), ("barrow/api.ErrEpoch", laid_barrow_api_ErrEpoch), ("barrow/api.ErrBusy", laid_barrow_api_ErrBusy), ("barrow/api.ErrNone", laid_barrow_api_ErrNone), ("barrow/api.ErrRoom", laid_barrow_api_ErrRoom), ("barrow/api.ErrOther", laid_barrow_api_ErrOther)], narrowed := true }
def HistoryExactUptoSaid : Prop := historyExactUptoRow.holds Tryz.pinned (OpenSpec.upto historyExactSpec)

/-- 'barrowlaw08.HistoryNext', WHERE WHAT IT READS IS OF BULK AT MOST 1048576: true; the input reads as it did. -/
def historyNextUptoRow : OpenClaim := { program := "yteggpddlkkjmjaagreatdoor", sum := "1eb7e49dcf36fce5f04c8c1906001ae960bc70f9407e3f20bd3aca2105ae548c", func := "barrow/barrowlaw08.HistoryNext", spec := "historyNext", inPlace := ["internal/abi.NoEscape"], unfollowed := true, recurses := true, named := ["barrow/api.ErrArg", "barrow/api.ErrText", "barrow/api.ErrTwice", "barrow/api.ErrRange", "barrow/api.ErrFull", "barrow/api.ErrFrozen", "barrow/api.ErrForm", "barrow/api.ErrShort", "barrow/api.ErrOrder", "barrow/api.ErrEpoch", "barrow/api.ErrBusy", "barrow/api.ErrNone", "barrow/api.ErrRoom", "barrow/api.ErrOther"], plainKeys := false, apart := false, laid := [("barrow/api.ErrArg", laid_barrow_api_ErrArg), ("barrow/api.ErrRange", laid_barrow_api_ErrRange), ("barrow/api.ErrText", laid_barrow_api_ErrText), ("barrow/api.ErrFull", laid_barrow_api_ErrFull), ("barrow/api.ErrFrozen", laid_barrow_api_ErrFrozen), ("barrow/api.ErrForm", laid_barrow_api_ErrForm), ("barrow/api.ErrShort", laid_barrow_api_ErrShort), ("barrow/api.ErrOrder", laid_barrow_api_ErrOrder), ("barrow/api.ErrTwice", laid_barrow_api_ErrTwice), ("barrow/api.ErrEpoch", laid_barrow_api_ErrEpoch), ("barrow/api.ErrBusy", laid_barrow_api_ErrBusy), ("barrow/api.ErrNone", laid_barrow_api_ErrNone), ("barrow/api.ErrRoom", laid_barrow_api_ErrRoom), ("barrow/api.ErrOther", laid_barrow_api_ErrOther)], narrowed := true }
def HistoryNextUptoSaid : Prop := historyNextUptoRow.holds Tryz.pinned (OpenSpec.upto historyNextSpec)

end Rows
end Go.Proofs.YteggpddlkkjmjaaGreatDoor
