/-
  NARROWER THAN 'FOR EVERY INPUT', by the rows' own cells (each row's printed sentence says how): TreeRange: laid · TreeNews: laid · XformT: laid · XformTwo: laid · XformThree: laid · XformNames: laid · TreeChunks: laid · XformBack: laid · XformRight: laid · XformCross: laid · XformLists: laid · TreeFinds: laid · XformSwap: laid · TreeExact: laid · XformInverse: laid · XformApply: laid.
  DERIVED. THE GIVEN ROWS OF THIS SEAT. 16 by the template 'for every input the law returns true; each argument reads behind the call as it read before'; 0 by the template 'total and deterministic' (their statements: YtogkbddniacgiaaDoorTotals.lean).
  GIVEN WITH THE SEED: the statements are not yours to turn. If you find one false, say at which input.
  Laid BY PROGRAM, IN A SANDBOX (cutbox-rows.mjs): the forced cells as the released guide's own fill.sh prints them over the translation 3e507bcdf03383f4… (all of the seat's roots in one cut). By AI agents, Wed Nov 11 2026. No macro, syntax, notation, axiom, sorry.
-/
import Derived.Test.YtogkbddniacgiaaDoorChecked
import GoSem.Claim
import GoSem.ClaimJoined
import GoSem.ClaimMapViews
import Derived.JoinedTies
import Derived.KernelRfl
namespace Go.Proofs.YtogkbddniacgiaaDoor
/- THE CELL 'sum', in the pinned program and in every row, IS THE sha256 OF THE DUMP (.gsa) THAT YtogkbddniacgiaaDoorProg.lean LOADS. Nothing in Lean hashes anything: it is a label: what it is worth is what the hold of that sum in a sandbox is worth. -/
noncomputable def Tryd.pinned : Pinned := { name := "ytogkbddniacgiaadoor", sum := "3e507bcdf03383f49f4e8dfc5bdd25eeee5151d2ea5f921fbd17c20f9cd90b19", checked := Tryd.checked }
namespace Rows
def none {H : Type} : Left H := { results := [], args := [] }

/- WHAT THE LISTED PACKAGE-LEVEL VARIABLES READ AS WHEN THE CALL BEGINS. Each datum BY PROGRAM (the guide's laid-datum.mjs) off the statement by which the dump's own 'gosem.cut.vars' lays the variable. In a bare row this is a premise. The card (YtogkbddniacgiaaDoorCards.lean) ties it to the program's text. -/
def laid_barrow_api_ErrArg {H : Type} : DataW H := .iface "*errors.errorString" (.ptr (.agg [.lit (.string [98, 97, 100, 32, 97, 114, 103, 117, 109, 101, 110, 116])]))
def laid_barrow_api_ErrRange {H : Type} : DataW H := .iface "*errors.errorString" (.ptr (.agg [.lit (.string [111, 117, 116, 32, 111, 102, 32, 114, 97, 110, 103, 101])]))
def laid_barrow_api_ErrText {H : Type} : DataW H := .iface "*errors.errorString" (.ptr (.agg [.lit (.string [98, 97, 100, 32, 116, 101, 120, 116])]))
def laid_barrow_api_ErrFull {H : Type} : DataW H := .iface "*errors.errorString" (.ptr (.agg [.lit (.string [110, 111, 32, 99, 114, 101, 100, 105, 116, 32, 108, 101, 102, 116])]))
def laid_barrow_api_ErrFrozen {H : Type} : DataW H := .iface "*errors.errorString" (.ptr (.agg [.lit (.string [102, 114, 111, 122, 101, 110])]))
def laid_barrow_api_ErrForm {H : Type} : DataW H := .iface "*errors.errorString" (.ptr (.agg [.lit (.string [98, 97, 100, 32, 102, 111, 114, 109])]))
def laid_barrow_api_ErrShort {H : Type} : DataW H := .iface "*errors.errorString" (.ptr (.agg [.lit (.string [99, 117, 116, 32, 115, 104, 111, 114, 116])]))
def laid_barrow_api_ErrOrder {H : Type} : DataW H := .iface "*errors.errorString" (.ptr (.agg [.lit (.string [110, 111, 116, 32, 121, 101, 116])]))
def laid_barrow_api_ErrTwice {H : Type} : DataW H := .iface "*errors.errorString" (.ptr (.agg [.lit (.string [116, 104, 101, 114, 101, 32, 97, 108, 114, 101, 97, 100, 121])]))
def laid_barrow_api_ErrEpoch {H : Type} : DataW H := .iface "*errors.errorString" (.ptr (.agg [.lit (.string [97, 110, 111, 116, 104, 101, 114, 32, 101, 112, 111, 99, 104])]))
def laid_barrow_api_ErrBusy {H : Type} : DataW H := .iface "*errors.errorString" (.ptr (.agg [.lit (.string [98, 117, 115, 121])]))
def laid_barrow_api_ErrNone {H : Type} : DataW H := .iface "*errors.errorString" (.ptr (.agg [.lit (.string [110, 111, 116, 104, 105, 110, 103, 32, 116, 104, 101, 114, 101])]))
def laid_barrow_api_ErrRoom {H : Type} : DataW H := .iface "*errors.errorString" (.ptr (.agg [.lit (.string [110, 111, 32, 114, 111, 111, 109])]))
def laid_barrow_api_ErrOther {H : Type} : DataW H := .iface "*errors.errorString" (.ptr (.agg [.lit (.string [115, 111, 109, 101, 116, 104, 105, 110, 103, 32, 101, 108, 115, 101])]))

/-- 'barrowlaw04.TreeRange': WHATEVER THE INPUT: true; the input reads as it did. -/
def treeRangeSpec : ChangeSpec := { name := "treeRange", fn := fun _ => fun
  | [d] => { results := [.lit (.bool true)], args := [d] }
  | _ => none }
def treeRangeRow : OpenClaim := { program := "ytogkbddniacgiaadoor", sum := "3e507bcdf03383f49f4e8dfc5bdd25eeee5151d2ea5f921fbd17c20f9cd90b19", func := "barrow/barrowlaw04.TreeRange", spec := "treeRange", unfollowed := true, recurses := true, named := ["barrow/api.ErrArg", "barrow/api.ErrRange"], plainKeys := false, apart := false, laid := [("barrow/api.ErrArg", laid_barrow_api_ErrArg), ("barrow/api.ErrRange", laid_barrow_api_ErrRange)] }
def TreeRangeSaid : Prop := treeRangeRow.holds Tryd.pinned (OpenSpec.ofChange treeRangeSpec)

/-- ITS FALSE NEIGHBOUR: 'it returns false'. Refute it at one input. -/
def treeRangeWrong : ChangeSpec := { name := "treeRange", fn := fun _ => fun
  | [d] => { results := [.lit (.bool false)], args := [d] }
  | _ => none }
def TreeRangeWrongFalsely : Prop := treeRangeRow.holds Tryd.pinned (OpenSpec.ofChange treeRangeWrong)

/-- 'barrowlaw04.TreeNews': WHATEVER THE INPUT: true; the input reads as it did. -/
def treeNewsSpec : ChangeSpec := { name := "treeNews", fn := fun _ => fun
  | [d1, d2] => { results := [.lit (.bool true)], args := [d1, d2] }
  | _ => none }
def treeNewsRow : OpenClaim := { program := "ytogkbddniacgiaadoor", sum := "3e507bcdf03383f49f4e8dfc5bdd25eeee5151d2ea5f921fbd17c20f9cd90b19", func := "barrow/barrowlaw04.TreeNews", spec := "treeNews", unfollowed := true, recurses := true, named := ["barrow/api.ErrArg", "barrow/api.ErrRange", "barrow/api.ErrText", "barrow/api.ErrFull", "barrow/api.ErrFrozen", "barrow/api.ErrForm", "barrow/api.ErrShort", "barrow/api.ErrOrder", "barrow/api.ErrTwice", "barrow/api.ErrEpoch", "barrow/api.ErrBusy", "barrow/api.ErrNone", "barrow/api.ErrRoom", "barrow/api.ErrOther"], plainKeys := false, apart := false, laid := [("barrow/api.ErrArg", laid_barrow_api_ErrArg), ("barrow/api.ErrRange", laid_barrow_api_ErrRange), ("barrow/api.ErrText", laid_barrow_api_ErrText), ("barrow/api.ErrFull", laid_barrow_api_ErrFull), ("barrow/api.ErrFrozen", laid_barrow_api_ErrFrozen), ("barrow/api.ErrForm", laid_barrow_api_ErrForm), ("barrow/api.ErrShort", laid_barrow_api_ErrShort), ("barrow/api.ErrOrder", laid_barrow_api_ErrOrder), ("barrow/api.ErrTwice", laid_barrow_api_ErrTwice), ("barrow/api.ErrEpoch", laid_barrow_api_ErrEpoch), ("barrow/api.ErrBusy", laid_barrow_api_ErrBusy), ("barrow/api.ErrNone", laid_barrow_api_ErrNone), ("barrow/api.ErrRoom", laid_barrow_api_ErrRoom), ("barrow/api.ErrOther", laid_barrow_api_ErrOther)] }
def TreeNewsSaid : Prop := treeNewsRow.holds Tryd.pinned (OpenSpec.ofChange treeNewsSpec)

/-- ITS FALSE NEIGHBOUR: 'it returns false'. Refute it at one input. -/
def treeNewsWrong : ChangeSpec := { name := "treeNews", fn := fun _ => fun
  | [d1, d2] => { results := [.lit (.bool false)], args := [d1, d2] }
  | _ => none }
def TreeNewsWrongFalsely : Prop := treeNewsRow.holds Tryd.pinned (OpenSpec.ofChange treeNewsWrong)

/-- 'barrowlaw07.XformT': WHATEVER THE INPUT: true; the input reads as it did. -/
def xformTSpec : ChangeSpec := { name := "xformT", fn := fun _ => fun
  | [d1, d2] => { results := [.lit (.bool true)], args := [d1, d2] }
  | _ => none }
def xformTRow : OpenClaim := { program := "ytogkbddniacgiaadoor", sum := "3e507bcdf03383f49f4e8dfc5bdd25eeee5151d2ea5f921fbd17c20f9cd90b19", func := "barrow/barrowlaw07.XformT", spec := "xformT", unfollowed := true, recurses := true, named := ["barrow/api.ErrArg", "barrow/api.ErrText", "barrow/api.ErrTwice", "barrow/api.ErrRange"], plainKeys := false, apart := false, laid := [("barrow/api.ErrArg", laid_barrow_api_ErrArg), ("barrow/api.ErrRange", laid_barrow_api_ErrRange), ("barrow/api.ErrText", laid_barrow_api_ErrText), ("barrow/api.ErrTwice", laid_barrow_api_ErrTwice)] }
def XformTSaid : Prop := xformTRow.holds Tryd.pinned (OpenSpec.ofChange xformTSpec)

/-- ITS FALSE NEIGHBOUR: 'it returns false'. Refute it at one input. -/
def xformTWrong : ChangeSpec := { name := "xformT", fn := fun _ => fun
  | [d1, d2] => { results := [.lit (.bool false)], args := [d1, d2] }
  | _ => none }
def XformTWrongFalsely : Prop := xformTRow.holds Tryd.pinned (OpenSpec.ofChange xformTWrong)

/-- 'barrowlaw07.XformTwo': WHATEVER THE INPUT: true; the input reads as it did. -/
def xformTwoSpec : ChangeSpec := { name := "xformTwo", fn := fun _ => fun
  | [d] => { results := [.lit (.bool true)], args := [d] }
  | _ => none }
def xformTwoRow : OpenClaim := { program := "ytogkbddniacgiaadoor", sum := "3e507bcdf03383f49f4e8dfc5bdd25eeee5151d2ea5f921fbd17c20f9cd90b19", func := "barrow/barrowlaw07.XformTwo", spec := "xformTwo", unfollowed := true, recurses := true, named := ["barrow/api.ErrArg", "barrow/api.ErrText", "barrow/api.ErrTwice", "barrow/api.ErrRange"], plainKeys := false, apart := false, laid := [("barrow/api.ErrArg", laid_barrow_api_ErrArg), ("barrow/api.ErrRange", laid_barrow_api_ErrRange), ("barrow/api.ErrText", laid_barrow_api_ErrText), ("barrow/api.ErrTwice", laid_barrow_api_ErrTwice)] }
def XformTwoSaid : Prop := xformTwoRow.holds Tryd.pinned (OpenSpec.ofChange xformTwoSpec)

/-- ITS FALSE NEIGHBOUR: 'it returns false'. Refute it at one input. -/
def xformTwoWrong : ChangeSpec := { name := "xformTwo", fn := fun _ => fun
  | [d] => { results := [.lit (.bool false)], args := [d] }
  | _ => none }
def XformTwoWrongFalsely : Prop := xformTwoRow.holds Tryd.pinned (OpenSpec.ofChange xformTwoWrong)

/-- 'barrowlaw07.XformThree': WHATEVER THE INPUT: true; the input reads as it did. -/
def xformThreeSpec : ChangeSpec := { name := "xformThree", fn := fun _ => fun
  | [d] => { results := [.lit (.bool true)], args := [d] }
  | _ => none }
def xformThreeRow : OpenClaim := { program := "ytogkbddniacgiaadoor", sum := "3e507bcdf03383f49f4e8dfc5bdd25eeee5151d2ea5f921fbd17c20f9cd90b19", func := "barrow/barrowlaw07.XformThree", spec := "xformThree", unfollowed := true, recurses := true, named := ["barrow/api.ErrArg", "barrow/api.ErrText", "barrow/api.ErrTwice", "barrow/api.ErrRange"], plainKeys := false, apart := false, laid := [("barrow/api.ErrArg", laid_barrow_api_ErrArg), ("barrow/api.ErrRange", laid_barrow_api_ErrRange), ("barrow/api.ErrText", laid_barrow_api_ErrText), ("barrow/api.ErrTwice", laid_barrow_api_ErrTwice)] }
def XformThreeSaid : Prop := xformThreeRow.holds Tryd.pinned (OpenSpec.ofChange xformThreeSpec)

/-- ITS FALSE NEIGHBOUR: 'it returns false'. Refute it at one input. -/
def xformThreeWrong : ChangeSpec := { name := "xformThree", fn := fun _ => fun
  | [d] => { results := [.lit (.bool false)], args := [d] }
  | _ => none }
def XformThreeWrongFalsely : Prop := xformThreeRow.holds Tryd.pinned (OpenSpec.ofChange xformThreeWrong)

/-- 'barrowlaw07.XformNames': WHATEVER THE INPUT: true; the input reads as it did. -/
def xformNamesSpec : ChangeSpec := { name := "xformNames", fn := fun _ => fun
  | [] => { results := [.lit (.bool true)], args := [] }
  | _ => none }
def xformNamesRow : OpenClaim := { program := "ytogkbddniacgiaadoor", sum := "3e507bcdf03383f49f4e8dfc5bdd25eeee5151d2ea5f921fbd17c20f9cd90b19", func := "barrow/barrowlaw07.XformNames", spec := "xformNames", unfollowed := true, recurses := true, named := ["barrow/api.ErrArg", "barrow/api.ErrText", "barrow/api.ErrTwice", "barrow/api.ErrRange"], plainKeys := false, apart := false, laid := [("barrow/api.ErrArg", laid_barrow_api_ErrArg), ("barrow/api.ErrRange", laid_barrow_api_ErrRange), ("barrow/api.ErrText", laid_barrow_api_ErrText), ("barrow/api.ErrTwice", laid_barrow_api_ErrTwice)] }
def XformNamesSaid : Prop := xformNamesRow.holds Tryd.pinned (OpenSpec.ofChange xformNamesSpec)

/-- ITS FALSE NEIGHBOUR: 'it returns false'. Refute it at one input. -/
def xformNamesWrong : ChangeSpec := { name := "xformNames", fn := fun _ => fun
  | [] => { results := [.lit (.bool false)], args := [] }
  | _ => none }
def XformNamesWrongFalsely : Prop := xformNamesRow.holds Tryd.pinned (OpenSpec.ofChange xformNamesWrong)

/-- 'barrowlaw04.TreeChunks': WHATEVER THE INPUT: true; the input reads as it did. -/
def treeChunksSpec : ChangeSpec := { name := "treeChunks", fn := fun _ => fun
  | [d1, d2] => { results := [.lit (.bool true)], args := [d1, d2] }
  | _ => none }
def treeChunksRow : OpenClaim := { program := "ytogkbddniacgiaadoor", sum := "3e507bcdf03383f49f4e8dfc5bdd25eeee5151d2ea5f921fbd17c20f9cd90b19", func := "barrow/barrowlaw04.TreeChunks", spec := "treeChunks", unfollowed := true, recurses := true, named := ["barrow/api.ErrArg", "barrow/api.ErrRange", "barrow/api.ErrText", "barrow/api.ErrFull", "barrow/api.ErrFrozen", "barrow/api.ErrForm", "barrow/api.ErrShort", "barrow/api.ErrOrder", "barrow/api.ErrTwice", "barrow/api.ErrEpoch", "barrow/api.ErrBusy", "barrow/api.ErrNone", "barrow/api.ErrRoom", "barrow/api.ErrOther"], plainKeys := false, apart := false, laid := [("barrow/api.ErrArg", laid_barrow_api_ErrArg), ("barrow/api.ErrRange", laid_barrow_api_ErrRange), ("barrow/api.ErrText", laid_barrow_api_ErrText), ("barrow/api.ErrFull", laid_barrow_api_ErrFull), ("barrow/api.ErrFrozen", laid_barrow_api_ErrFrozen), ("barrow/api.ErrForm", laid_barrow_api_ErrForm), ("barrow/api.ErrShort", laid_barrow_api_ErrShort), ("barrow/api.ErrOrder", laid_barrow_api_ErrOrder), ("barrow/api.ErrTwice", laid_barrow_api_ErrTwice), ("barrow/api.ErrEpoch", laid_barrow_api_ErrEpoch), ("barrow/api.ErrBusy", laid_barrow_api_ErrBusy), ("barrow/api.ErrNone", laid_barrow_api_ErrNone), ("barrow/api.ErrRoom", laid_barrow_api_ErrRoom), ("barrow/api.ErrOther", laid_barrow_api_ErrOther)] }
def TreeChunksSaid : Prop := treeChunksRow.holds Tryd.pinned (OpenSpec.ofChange treeChunksSpec)

/-- ITS FALSE NEIGHBOUR: 'it returns false'. Refute it at one input. -/
def treeChunksWrong : ChangeSpec := { name := "treeChunks", fn := fun _ => fun
  | [d1, d2] => { results := [.lit (.bool false)], args := [d1, d2] }
  | _ => none }
def TreeChunksWrongFalsely : Prop := treeChunksRow.holds Tryd.pinned (OpenSpec.ofChange treeChunksWrong)

/-- 'barrowlaw07.XformBack': WHATEVER THE INPUT: true; the input reads as it did. -/
def xformBackSpec : ChangeSpec := { name := "xformBack", fn := fun _ => fun
  | [d1, d2] => { results := [.lit (.bool true)], args := [d1, d2] }
  | _ => none }
def xformBackRow : OpenClaim := { program := "ytogkbddniacgiaadoor", sum := "3e507bcdf03383f49f4e8dfc5bdd25eeee5151d2ea5f921fbd17c20f9cd90b19", func := "barrow/barrowlaw07.XformBack", spec := "xformBack", unfollowed := true, recurses := true, named := ["barrow/api.ErrArg", "barrow/api.ErrText", "barrow/api.ErrTwice", "barrow/api.ErrRange"], plainKeys := false, apart := false, laid := [("barrow/api.ErrArg", laid_barrow_api_ErrArg), ("barrow/api.ErrRange", laid_barrow_api_ErrRange), ("barrow/api.ErrText", laid_barrow_api_ErrText), ("barrow/api.ErrTwice", laid_barrow_api_ErrTwice)] }
def XformBackSaid : Prop := xformBackRow.holds Tryd.pinned (OpenSpec.ofChange xformBackSpec)

/-- ITS FALSE NEIGHBOUR: 'it returns false'. Refute it at one input. -/
def xformBackWrong : ChangeSpec := { name := "xformBack", fn := fun _ => fun
  | [d1, d2] => { results := [.lit (.bool false)], args := [d1, d2] }
  | _ => none }
def XformBackWrongFalsely : Prop := xformBackRow.holds Tryd.pinned (OpenSpec.ofChange xformBackWrong)

/-- 'barrowlaw07.XformRight': WHATEVER THE INPUT: true; the input reads as it did. -/
def xformRightSpec : ChangeSpec := { name := "xformRight", fn := fun _ => fun
  | [d1, d2] => { results := [.lit (.bool true)], args := [d1, d2] }
  | _ => none }
def xformRightRow : OpenClaim := { program := "ytogkbddniacgiaadoor", sum := "3e507bcdf03383f49f4e8dfc5bdd25eeee5151d2ea5f921fbd17c20f9cd90b19", func := "barrow/barrowlaw07.XformRight", spec := "xformRight", unfollowed := true, recurses := true, named := ["barrow/api.ErrArg", "barrow/api.ErrText", "barrow/api.ErrTwice", "barrow/api.ErrRange"], plainKeys := false, apart := false, laid := [("barrow/api.ErrArg", laid_barrow_api_ErrArg), ("barrow/api.ErrRange", laid_barrow_api_ErrRange), ("barrow/api.ErrText", laid_barrow_api_ErrText), ("barrow/api.ErrTwice", laid_barrow_api_ErrTwice)] }
def XformRightSaid : Prop := xformRightRow.holds Tryd.pinned (OpenSpec.ofChange xformRightSpec)

/-- ITS FALSE NEIGHBOUR: 'it returns false'. Refute it at one input. -/
def xformRightWrong : ChangeSpec := { name := "xformRight", fn := fun _ => fun
  | [d1, d2] => { results := [.lit (.bool false)], args := [d1, d2] }
  | _ => none }
def XformRightWrongFalsely : Prop := xformRightRow.holds Tryd.pinned (OpenSpec.ofChange xformRightWrong)

/-- 'barrowlaw07.XformCross': WHATEVER THE INPUT: true; the input reads as it did. -/
def xformCrossSpec : ChangeSpec := { name := "xformCross", fn := fun _ => fun
  | [d] => { results := [.lit (.bool true)], args := [d] }
  | _ => none }
def xformCrossRow : OpenClaim := { program := "ytogkbddniacgiaadoor", sum := "3e507bcdf03383f49f4e8dfc5bdd25eeee5151d2ea5f921fbd17c20f9cd90b19", func := "barrow/barrowlaw07.XformCross", spec := "xformCross", unfollowed := true, recurses := true, named := ["barrow/api.ErrArg", "barrow/api.ErrText", "barrow/api.ErrTwice", "barrow/api.ErrRange"], plainKeys := false, apart := false, laid := [("barrow/api.ErrArg", laid_barrow_api_ErrArg), ("barrow/api.ErrRange", laid_barrow_api_ErrRange), ("barrow/api.ErrText", laid_barrow_api_ErrText), ("barrow/api.ErrTwice", laid_barrow_api_ErrTwice)] }
def XformCrossSaid : Prop := xformCrossRow.holds Tryd.pinned (OpenSpec.ofChange xformCrossSpec)

/-- ITS FALSE NEIGHBOUR: 'it returns false'. Refute it at one input. -/
def xformCrossWrong : ChangeSpec := { name := "xformCross", fn := fun _ => fun
  | [d] => { results := [.lit (.bool false)], args := [d] }
  | _ => none }
def XformCrossWrongFalsely : Prop := xformCrossRow.holds Tryd.pinned (OpenSpec.ofChange xformCrossWrong)

/-- 'barrowlaw07.XformLists': WHATEVER THE INPUT: true; the input reads as it did. -/
def xformListsSpec : ChangeSpec := { name := "xformLists", fn := fun _ => fun
  | [d1, d2] => { results := [.lit (.bool true)], args := [d1, d2] }
  | _ => none }
def xformListsRow : OpenClaim := { program := "ytogkbddniacgiaadoor", sum := "3e507bcdf03383f49f4e8dfc5bdd25eeee5151d2ea5f921fbd17c20f9cd90b19", func := "barrow/barrowlaw07.XformLists", spec := "xformLists", unfollowed := true, recurses := true, named := ["barrow/api.ErrArg", "barrow/api.ErrText", "barrow/api.ErrTwice", "barrow/api.ErrRange"], plainKeys := false, apart := false, laid := [("barrow/api.ErrArg", laid_barrow_api_ErrArg), ("barrow/api.ErrRange", laid_barrow_api_ErrRange), ("barrow/api.ErrText", laid_barrow_api_ErrText), ("barrow/api.ErrTwice", laid_barrow_api_ErrTwice)] }
def XformListsSaid : Prop := xformListsRow.holds Tryd.pinned (OpenSpec.ofChange xformListsSpec)

/-- ITS FALSE NEIGHBOUR: 'it returns false'. Refute it at one input. -/
def xformListsWrong : ChangeSpec := { name := "xformLists", fn := fun _ => fun
  | [d1, d2] => { results := [.lit (.bool false)], args := [d1, d2] }
  | _ => none }
def XformListsWrongFalsely : Prop := xformListsRow.holds Tryd.pinned (OpenSpec.ofChange xformListsWrong)

/-- 'barrowlaw04.TreeFinds': WHATEVER THE INPUT: true; the input reads as it did. -/
def treeFindsSpec : ChangeSpec := { name := "treeFinds", fn := fun _ => fun
  | [d1, d2] => { results := [.lit (.bool true)], args := [d1, d2] }
  | _ => none }
def treeFindsRow : OpenClaim := { program := "ytogkbddniacgiaadoor", sum := "3e507bcdf03383f49f4e8dfc5bdd25eeee5151d2ea5f921fbd17c20f9cd90b19", func := "barrow/barrowlaw04.TreeFinds", spec := "treeFinds", unfollowed := true, recurses := true, named := ["barrow/api.ErrArg", "barrow/api.ErrRange", "barrow/api.ErrText", "barrow/api.ErrFull", "barrow/api.ErrFrozen", "barrow/api.ErrForm", "barrow/api.ErrShort", "barrow/api.ErrOrder", "barrow/api.ErrTwice", "barrow/api.ErrEpoch", "barrow/api.ErrBusy", "barrow/api.ErrNone", "barrow/api.ErrRoom", "barrow/api.ErrOther"], plainKeys := false, apart := false, laid := [("barrow/api.ErrArg", laid_barrow_api_ErrArg), ("barrow/api.ErrRange", laid_barrow_api_ErrRange), ("barrow/api.ErrText", laid_barrow_api_ErrText), ("barrow/api.ErrFull", laid_barrow_api_ErrFull), ("barrow/api.ErrFrozen", laid_barrow_api_ErrFrozen), ("barrow/api.ErrForm", laid_barrow_api_ErrForm), ("barrow/api.ErrShort", laid_barrow_api_ErrShort), ("barrow/api.ErrOrder", laid_barrow_api_ErrOrder), ("barrow/api.ErrTwice", laid_barrow_api_ErrTwice), ("barrow/api.ErrEpoch", laid_barrow_api_ErrEpoch), ("barrow/api.ErrBusy", laid_barrow_api_ErrBusy), ("barrow/api.ErrNone", laid_barrow_api_ErrNone), ("barrow/api.ErrRoom", laid_barrow_api_ErrRoom), ("barrow/api.ErrOther", laid_barrow_api_ErrOther)] }
def TreeFindsSaid : Prop := treeFindsRow.holds Tryd.pinned (OpenSpec.ofChange treeFindsSpec)

/-- ITS FALSE NEIGHBOUR: 'it returns false'. Refute it at one input. -/
def treeFindsWrong : ChangeSpec := { name := "treeFinds", fn := fun _ => fun
  | [d1, d2] => { results := [.lit (.bool false)], args := [d1, d2] }
  | _ => none }
def TreeFindsWrongFalsely : Prop := treeFindsRow.holds Tryd.pinned (OpenSpec.ofChange treeFindsWrong)

/-- 'barrowlaw07.XformSwap': WHATEVER THE INPUT: true; the input reads as it did. -/
def xformSwapSpec : ChangeSpec := { name := "xformSwap", fn := fun _ => fun
  | [d] => { results := [.lit (.bool true)], args := [d] }
  | _ => none }
def xformSwapRow : OpenClaim := { program := "ytogkbddniacgiaadoor", sum := "3e507bcdf03383f49f4e8dfc5bdd25eeee5151d2ea5f921fbd17c20f9cd90b19", func := "barrow/barrowlaw07.XformSwap", spec := "xformSwap", unfollowed := true, recurses := true, named := ["barrow/api.ErrArg", "barrow/api.ErrText", "barrow/api.ErrTwice", "barrow/api.ErrRange"], plainKeys := false, apart := false, laid := [("barrow/api.ErrArg", laid_barrow_api_ErrArg), ("barrow/api.ErrRange", laid_barrow_api_ErrRange), ("barrow/api.ErrText", laid_barrow_api_ErrText), ("barrow/api.ErrTwice", laid_barrow_api_ErrTwice)] }
def XformSwapSaid : Prop := xformSwapRow.holds Tryd.pinned (OpenSpec.ofChange xformSwapSpec)

/-- ITS FALSE NEIGHBOUR: 'it returns false'. Refute it at one input. -/
def xformSwapWrong : ChangeSpec := { name := "xformSwap", fn := fun _ => fun
  | [d] => { results := [.lit (.bool false)], args := [d] }
  | _ => none }
def XformSwapWrongFalsely : Prop := xformSwapRow.holds Tryd.pinned (OpenSpec.ofChange xformSwapWrong)

/-- 'barrowlaw04.TreeExact': WHATEVER THE INPUT: true; the input reads as it did. -/
def treeExactSpec : ChangeSpec := { name := "treeExact", fn := fun _ => fun
  | [d1, d2] => { results := [.lit (.bool true)], args := [d1, d2] }
  | _ => none }
def treeExactRow : OpenClaim := { program := "ytogkbddniacgiaadoor", sum := "3e507bcdf03383f49f4e8dfc5bdd25eeee5151d2ea5f921fbd17c20f9cd90b19", func := "barrow/barrowlaw04.TreeExact", spec := "treeExact", unfollowed := true, recurses := true, named := ["barrow/api.ErrArg", "barrow/api.ErrRange", "barrow/api.ErrText", "barrow/api.ErrFull", "barrow/api.ErrFrozen", "barrow/api.ErrForm", "barrow/api.ErrShort", "barrow/api.ErrOrder", "barrow/api.ErrTwice", "barrow/api.ErrEpoch", "barrow/api.ErrBusy", "barrow/api.ErrNone", "barrow/api.ErrRoom", "barrow/api.ErrOther"], plainKeys := false, apart := false, laid := [("barrow/api.ErrArg", laid_barrow_api_ErrArg), ("barrow/api.ErrRange", laid_barrow_api_ErrRange), ("barrow/api.ErrText", laid_barrow_api_ErrText), ("barrow/api.ErrFull", laid_barrow_api_ErrFull), ("barrow/api.ErrFrozen", laid_barrow_api_ErrFrozen), ("barrow/api.ErrForm", laid_barrow_api_ErrForm), ("barrow/api.ErrShort", laid_barrow_api_ErrShort), ("barrow/api.ErrOrder", laid_barrow_api_ErrOrder), ("barrow/api.ErrTwice", laid_barrow_api_ErrTwice), ("barrow/api.ErrEpoch", laid_barrow_api_ErrEpoch), ("barrow/api.ErrBusy", laid_barrow_api_ErrBusy), ("barrow/api.ErrNone", laid_barrow_api_ErrNone), ("barrow/api.ErrRoom", laid_barrow_api_ErrRoom), ("barrow/api.ErrOther", laid_barrow_api_ErrOther)] }
def TreeExactSaid : Prop := treeExactRow.holds Tryd.pinned (OpenSpec.ofChange treeExactSpec)

/-- ITS FALSE NEIGHBOUR: 'it returns false'. Refute it at one input. -/
def treeExactWrong : ChangeSpec := { name := "treeExact", fn := fun _ => fun
  | [d1, d2] => { results := [.lit (.bool false)], args := [d1, d2] }
  | _ => none }
def TreeExactWrongFalsely : Prop := treeExactRow.holds Tryd.pinned (OpenSpec.ofChange treeExactWrong)

/-- 'barrowlaw07.XformInverse': WHATEVER THE INPUT: true; the input reads as it did. -/
def xformInverseSpec : ChangeSpec := { name := "xformInverse", fn := fun _ => fun
  | [d1, d2] => { results := [.lit (.bool true)], args := [d1, d2] }
  | _ => none }
def xformInverseRow : OpenClaim := { program := "ytogkbddniacgiaadoor", sum := "3e507bcdf03383f49f4e8dfc5bdd25eeee5151d2ea5f921fbd17c20f9cd90b19", func := "barrow/barrowlaw07.XformInverse", spec := "xformInverse", inPlace := ["internal/abi.NoEscape"], unfollowed := true, recurses := true, named := ["barrow/api.ErrArg", "barrow/api.ErrText", "barrow/api.ErrTwice", "barrow/api.ErrRange"], plainKeys := false, apart := false, laid := [("barrow/api.ErrArg", laid_barrow_api_ErrArg), ("barrow/api.ErrRange", laid_barrow_api_ErrRange), ("barrow/api.ErrText", laid_barrow_api_ErrText), ("barrow/api.ErrTwice", laid_barrow_api_ErrTwice)] }
def XformInverseSaid : Prop := xformInverseRow.holds Tryd.pinned (OpenSpec.ofChange xformInverseSpec)

/-- ITS FALSE NEIGHBOUR: 'it returns false'. Refute it at one input. -/
def xformInverseWrong : ChangeSpec := { name := "xformInverse", fn := fun _ => fun
  | [d1, d2] => { results := [.lit (.bool false)], args := [d1, d2] }
  | _ => none }
def XformInverseWrongFalsely : Prop := xformInverseRow.holds Tryd.pinned (OpenSpec.ofChange xformInverseWrong)

/-- 'barrowlaw07.XformApply': WHATEVER THE INPUT: true; the input reads as it did. -/
def xformApplySpec : ChangeSpec := { name := "xformApply", fn := fun _ => fun
  | [d1, d2, d3] => { results := [.lit (.bool true)], args := [d1, d2, d3] }
  | _ => none }
def xformApplyRow : OpenClaim := { program := "ytogkbddniacgiaadoor", sum := "3e507bcdf03383f49f4e8dfc5bdd25eeee5151d2ea5f921fbd17c20f9cd90b19", func := "barrow/barrowlaw07.XformApply", spec := "xformApply", unfollowed := true, recurses := true, named := ["barrow/api.ErrArg", "barrow/api.ErrText", "barrow/api.ErrTwice", "barrow/api.ErrRange", "barrow/api.ErrFull", "barrow/api.ErrFrozen", "barrow/api.ErrForm", "barrow/api.ErrShort", "barrow/api.ErrOrder", "barrow/api.ErrEpoch", "barrow/api.ErrBusy", "barrow/api.ErrNone", "barrow/api.ErrRoom", "barrow/api.ErrOther"], plainKeys := false, apart := false, laid := [("barrow/api.ErrArg", laid_barrow_api_ErrArg), ("barrow/api.ErrRange", laid_barrow_api_ErrRange), ("barrow/api.ErrText", laid_barrow_api_ErrText), ("barrow/api.ErrFull", laid_barrow_api_ErrFull), ("barrow/api.ErrFrozen", laid_barrow_api_ErrFrozen), ("barrow/api.ErrForm", laid_barrow_api_ErrForm), ("barrow/api.ErrShort", laid_barrow_api_ErrShort), ("barrow/api.ErrOrder", laid_barrow_api_ErrOrder), ("barrow/api.ErrTwice", laid_barrow_api_ErrTwice), ("barrow/api.ErrEpoch", laid_barrow_api_ErrEpoch), ("barrow/api.ErrBusy", laid_barrow_api_ErrBusy), ("barrow/api.ErrNone", laid_barrow_api_ErrNone), ("barrow/api.ErrRoom", laid_barrow_api_ErrRoom), ("barrow/api.ErrOther", laid_barrow_api_ErrOther)] }
def XformApplySaid : Prop := xformApplyRow.holds Tryd.pinned (OpenSpec.ofChange xformApplySpec)

/-- ITS FALSE NEIGHBOUR: 'it returns false'. Refute it at one input. -/
def xformApplyWrong : ChangeSpec := { name := "xformApply", fn := fun _ => fun
  | [d1, d2, d3] => { results := [.lit (.bool false)], args := [d1, d2, d3] }
  | _ => none }
def XformApplyWrongFalsely : Prop := xformApplyRow.holds Tryd.pinned (OpenSpec.ofChange xformApplyWrong)

/- THE SECOND FORM. 'bulk': how many values and letters a reading holds, each counted each time it is reached (what is shared counts as often as it is met; a slice's spare places count too). A statement '..UptoSaid' is the law's where the arguments, and the package variables that the reading takes, are together of bulk at most 1048576: NARROWER than '..Said'. Prove '..Said' where nothing that the law and all that it calls make is longer than what came in: it says more and counts as full. Else prove '..UptoSaid'. A law counts once. -/
mutual
def uptoBulk {H : Type} : DataW H → Nat
  | .lit (.string bytes) => bytes.length + 1
  | .lit _ => 1
  | .nil => 1
  | .ptr d => uptoBulk d + 1
  | .slice elems spare => uptoBulkAll elems + uptoBulkAll spare + 1
  | .agg parts => uptoBulkAll parts + 1
  | .iface _ d => uptoBulk d + 1
  | .map entries => uptoBulkEntries entries + 1
  | .held _ => 1
def uptoBulkAll {H : Type} : List (DataW H) → Nat
  | [] => 0
  | d :: r => uptoBulk d + uptoBulkAll r
def uptoBulkEntries {H : Type} : List (Lit × DataW H) → Nat
  | [] => 0
  | x :: r => uptoBulkEntry x + uptoBulkEntries r
def uptoBulkEntry {H : Type} : Lit × DataW H → Nat
  | (.string bytes, d) => bytes.length + uptoBulk d + 1
  | (_, d) => uptoBulk d + 1
 end
def uptoSmall : (H : Type) → List (DataW H) → Bool := fun _ ds => decide (uptoBulkAll ds ≤ 1048576)
def OpenSpec.upto (s : _root_.Go.ChangeSpec) : _root_.Go.OpenSpec := { _root_.Go.OpenSpec.ofChange s with cond := some uptoSmall }

/-- 'barrowlaw04.TreeRange', WHERE WHAT IT READS IS OF BULK AT MOST 1048576: true; the input reads as it did. -/
def treeRangeUptoRow : OpenClaim := { program := "ytogkbddniacgiaadoor", sum := "3e507bcdf03383f49f4e8dfc5bdd25eeee5151d2ea5f921fbd17c20f9cd90b19", func := "barrow/barrowlaw04.TreeRange", spec := "treeRange", unfollowed := true, recurses := true, named := ["barrow/api.ErrArg", "barrow/api.ErrRange"], plainKeys := false, apart := false, laid := [("barrow/api.ErrArg", laid_barrow_api_ErrArg), ("barrow/api.ErrRange", laid_barrow_api_ErrRange)], narrowed := true }
def TreeRangeUptoSaid : Prop := treeRangeUptoRow.holds Tryd.pinned (OpenSpec.upto treeRangeSpec)

/-- 'barrowlaw04.TreeNews', WHERE WHAT IT READS IS OF BULK AT MOST 1048576: true; the input reads as it did. -/
def treeNewsUptoRow : OpenClaim := { program := "ytogkbddniacgiaadoor", sum := "3e507bcdf03383f49f4e8dfc5bdd25eeee5151d2ea5f921fbd17c20f9cd90b19", func := "barrow/barrowlaw04.TreeNews", spec := "treeNews", unfollowed := true, recurses := true, named := ["barrow/api.ErrArg", "barrow/api.ErrRange", "barrow/api.ErrText", "barrow/api.ErrFull", "barrow/api.ErrFrozen", "barrow/api.ErrForm", "barrow/api.ErrShort", "barrow/api.ErrOrder", "barrow/api.ErrTwice", "barrow/api.ErrEpoch", "barrow/api.ErrBusy", "barrow/api.ErrNone", "barrow/api.ErrRoom", "barrow/api.ErrOther"], plainKeys := false, apart := false, laid := [("barrow/api.ErrArg", laid_barrow_api_ErrArg), ("barrow/api.ErrRange", laid_barrow_api_ErrRange), ("barrow/api.ErrText", laid_barrow_api_ErrText), ("barrow/api.ErrFull", laid_barrow_api_ErrFull), ("barrow/api.ErrFrozen", laid_barrow_api_ErrFrozen), ("barrow/api.ErrForm", laid_barrow_api_ErrForm), ("barrow/api.ErrShort", laid_barrow_api_ErrShort), ("barrow/api.ErrOrder", laid_barrow_api_ErrOrder), ("barrow/api.ErrTwice", laid_barrow_api_ErrTwice), ("barrow/api.ErrEpoch", laid_barrow_api_ErrEpoch), ("barrow/api.ErrBusy", laid_barrow_api_ErrBusy), ("barrow/api.ErrNone", laid_barrow_api_ErrNone), ("barrow/api.ErrRoom", laid_barrow_api_ErrRoom), ("barrow/api.ErrOther", laid_barrow_api_ErrOther)], narrowed := true }
def TreeNewsUptoSaid : Prop := treeNewsUptoRow.holds Tryd.pinned (OpenSpec.upto treeNewsSpec)

/-- 'barrowlaw07.XformT', WHERE WHAT IT READS IS OF BULK AT MOST 1048576: true; the input reads as it did. -/
def xformTUptoRow : OpenClaim := { program := "ytogkbddniacgiaadoor", sum := "3e507bcdf03383f49f4e8dfc5bdd25eeee5151d2ea5f921fbd17c20f9cd90b19", func := "barrow/barrowlaw07.XformT", spec := "xformT", unfollowed := true, recurses := true, named := ["barrow/api.ErrArg", "barrow/api.ErrText", "barrow/api.ErrTwice", "barrow/api.ErrRange"], plainKeys := false, apart := false, laid := [("barrow/api.ErrArg", laid_barrow_api_ErrArg), ("barrow/api.ErrRange", laid_barrow_api_ErrRange), ("barrow/api.ErrText", laid_barrow_api_ErrText), ("barrow/api.ErrTwice", laid_barrow_api_ErrTwice)], narrowed := true }
def XformTUptoSaid : Prop := xformTUptoRow.holds Tryd.pinned (OpenSpec.upto xformTSpec)

/-- 'barrowlaw07.XformTwo', WHERE WHAT IT READS IS OF BULK AT MOST 1048576: true; the input reads as it did. -/
def xformTwoUptoRow : OpenClaim := { program := "ytogkbddniacgiaadoor", sum := "3e507bcdf03383f49f4e8dfc5bdd25eeee5151d2ea5f921fbd17c20f9cd90b19", func := "barrow/barrowlaw07.XformTwo", spec := "xformTwo", unfollowed := true, recurses := true, named := ["barrow/api.ErrArg", "barrow/api.ErrText", "barrow/api.ErrTwice", "barrow/api.ErrRange"], plainKeys := false, apart := false, laid := [("barrow/api.ErrArg", laid_barrow_api_ErrArg), ("barrow/api.ErrRange", laid_barrow_api_ErrRange), ("barrow/api.ErrText", laid_barrow_api_ErrText), ("barrow/api.ErrTwice", laid_barrow_api_ErrTwice)], narrowed := true }
def XformTwoUptoSaid : Prop := xformTwoUptoRow.holds Tryd.pinned (OpenSpec.upto xformTwoSpec)

/-- 'barrowlaw07.XformThree', WHERE WHAT IT READS IS OF BULK AT MOST 1048576: true; the input reads as it did. -/
def xformThreeUptoRow : OpenClaim := { program := "ytogkbddniacgiaadoor", sum := "3e507bcdf03383f49f4e8dfc5bdd25eeee5151d2ea5f921fbd17c20f9cd90b19", func := "barrow/barrowlaw07.XformThree", spec := "xformThree", unfollowed := true, recurses := true, named := ["barrow/api.ErrArg", "barrow/api.ErrText", "barrow/api.ErrTwice", "barrow/api.ErrRange"], plainKeys := false, apart := false, laid := [("barrow/api.ErrArg", laid_barrow_api_ErrArg), ("barrow/api.ErrRange", laid_barrow_api_ErrRange), ("barrow/api.ErrText", laid_barrow_api_ErrText), ("barrow/api.ErrTwice", laid_barrow_api_ErrTwice)], narrowed := true }
def XformThreeUptoSaid : Prop := xformThreeUptoRow.holds Tryd.pinned (OpenSpec.upto xformThreeSpec)

/-- 'barrowlaw07.XformNames', WHERE WHAT IT READS IS OF BULK AT MOST 1048576: true; the input reads as it did. -/
def xformNamesUptoRow : OpenClaim := { program := "ytogkbddniacgiaadoor", sum := "3e507bcdf03383f49f4e8dfc5bdd25eeee5151d2ea5f921fbd17c20f9cd90b19", func := "barrow/barrowlaw07.XformNames", spec := "xformNames", unfollowed := true, recurses := true, named := ["barrow/api.ErrArg", "barrow/api.ErrText", "barrow/api.ErrTwice", "barrow/api.ErrRange"], plainKeys := false, apart := false, laid := [("barrow/api.ErrArg", laid_barrow_api_ErrArg), ("barrow/api.ErrRange", laid_barrow_api_ErrRange), ("barrow/api.ErrText", laid_barrow_api_ErrText), ("barrow/api.ErrTwice", laid_barrow_api_ErrTwice)], narrowed := true }
def XformNamesUptoSaid : Prop := xformNamesUptoRow.holds Tryd.pinned (OpenSpec.upto xformNamesSpec)

/-- 'barrowlaw04.TreeChunks', WHERE WHAT IT READS IS OF BULK AT MOST 1048576: true; the input reads as it did. -/
def treeChunksUptoRow : OpenClaim := { program := "ytogkbddniacgiaadoor", sum := "3e507bcdf03383f49f4e8dfc5bdd25eeee5151d2ea5f921fbd17c20f9cd90b19", func := "barrow/barrowlaw04.TreeChunks", spec := "treeChunks", unfollowed := true, recurses := true, named := ["barrow/api.ErrArg", "barrow/api.ErrRange", "barrow/api.ErrText", "barrow/api.ErrFull", "barrow/api.ErrFrozen", "barrow/api.ErrForm", "barrow/api.ErrShort", "barrow/api.ErrOrder", "barrow/api.ErrTwice", "barrow/api.ErrEpoch", "barrow/api.ErrBusy", "barrow/api.ErrNone", "barrow/api.ErrRoom", "barrow/api.ErrOther"], plainKeys := false, apart := false, laid := [("barrow/api.ErrArg", laid_barrow_api_ErrArg), ("barrow/api.ErrRange", laid_barrow_api_ErrRange), ("barrow/api.ErrText", laid_barrow_api_ErrText), ("barrow/api.ErrFull", laid_barrow_api_ErrFull), ("barrow/api.ErrFrozen", laid_barrow_api_ErrFrozen), ("barrow/api.ErrForm", laid_barrow_api_ErrForm), ("barrow/api.ErrShort", laid_barrow_api_ErrShort), ("barrow/api.ErrOrder", laid_barrow_api_ErrOrder), ("barrow/api.ErrTwice", laid_barrow_api_ErrTwice), ("barrow/api.ErrEpoch", laid_barrow_api_ErrEpoch), ("barrow/api.ErrBusy", laid_barrow_api_ErrBusy), ("barrow/api.ErrNone", laid_barrow_api_ErrNone), ("barrow/api.ErrRoom", laid_barrow_api_ErrRoom), ("barrow/api.ErrOther", laid_barrow_api_ErrOther)], narrowed := true }
def TreeChunksUptoSaid : Prop := treeChunksUptoRow.holds Tryd.pinned (OpenSpec.upto treeChunksSpec)

/-- 'barrowlaw07.XformBack', WHERE WHAT IT READS IS OF BULK AT MOST 1048576: true; the input reads as it did. -/
def xformBackUptoRow : OpenClaim := { program := "ytogkbddniacgiaadoor", sum := "3e507bcdf03383f49f4e8dfc5bdd25eeee5151d2ea5f921fbd17c20f9cd90b19", func := "barrow/barrowlaw07.XformBack", spec := "xformBack", unfollowed := true, recurses := true, named := ["barrow/api.ErrArg", "barrow/api.ErrText", "barrow/api.ErrTwice", "barrow/api.ErrRange"], plainKeys := false, apart := false, laid := [("barrow/api.ErrArg", laid_barrow_api_ErrArg), ("barrow/api.ErrRange", laid_barrow_api_ErrRange), ("barrow/api.ErrText", laid_barrow_api_ErrText), ("barrow/api.ErrTwice", laid_barrow_api_ErrTwice)], narrowed := true }
def XformBackUptoSaid : Prop := xformBackUptoRow.holds Tryd.pinned (OpenSpec.upto xformBackSpec)

/-- 'barrowlaw07.XformRight', WHERE WHAT IT READS IS OF BULK AT MOST 1048576: true; the input reads as it did. -/
def xformRightUptoRow : OpenClaim := { program := "ytogkbddniacgiaadoor", sum := "3e507bcdf03383f49f4e8dfc5bdd25eeee5151d2ea5f921fbd17c20f9cd90b19", func := "barrow/barrowlaw07.XformRight", spec := "xformRight", unfollowed := true, recurses := true, named := ["barrow/api.ErrArg", "barrow/api.ErrText", "barrow/api.ErrTwice", "barrow/api.ErrRange"], plainKeys := false, apart := false, laid := [("barrow/api.ErrArg", laid_barrow_api_ErrArg), ("barrow/api.ErrRange", laid_barrow_api_ErrRange), ("barrow/api.ErrText", laid_barrow_api_ErrText), ("barrow/api.ErrTwice", laid_barrow_api_ErrTwice)], narrowed := true }
def XformRightUptoSaid : Prop := xformRightUptoRow.holds Tryd.pinned (OpenSpec.upto xformRightSpec)

/-- 'barrowlaw07.XformCross', WHERE WHAT IT READS IS OF BULK AT MOST 1048576: true; the input reads as it did. -/
def xformCrossUptoRow : OpenClaim := { program := "ytogkbddniacgiaadoor", sum := "3e507bcdf03383f49f4e8dfc5bdd25eeee5151d2ea5f921fbd17c20f9cd90b19", func := "barrow/barrowlaw07.XformCross", spec := "xformCross", unfollowed := true, recurses := true, named := ["barrow/api.ErrArg", "barrow/api.ErrText", "barrow/api.ErrTwice", "barrow/api.ErrRange"], plainKeys := false, apart := false, laid := [("barrow/api.ErrArg", laid_barrow_api_ErrArg), ("barrow/api.ErrRange", laid_barrow_api_ErrRange), ("barrow/api.ErrText", laid_barrow_api_ErrText), ("barrow/api.ErrTwice", laid_barrow_api_ErrTwice)], narrowed := true }
def XformCrossUptoSaid : Prop := xformCrossUptoRow.holds Tryd.pinned (OpenSpec.upto xformCrossSpec)

/-- 'barrowlaw07.XformLists', WHERE WHAT IT READS IS OF BULK AT MOST 1048576: true; the input reads as it did. -/
def xformListsUptoRow : OpenClaim := { program := "ytogkbddniacgiaadoor", sum := "3e507bcdf03383f49f4e8dfc5bdd25eeee5151d2ea5f921fbd17c20f9cd90b19", func := "barrow/barrowlaw07.XformLists", spec := "xformLists", unfollowed := true, recurses := true, named := ["barrow/api.ErrArg", "barrow/api.ErrText", "barrow/api.ErrTwice", "barrow/api.ErrRange"], plainKeys := false, apart := false, laid := [("barrow/api.ErrArg", laid_barrow_api_ErrArg), ("barrow/api.ErrRange", laid_barrow_api_ErrRange), ("barrow/api.ErrText", laid_barrow_api_ErrText), ("barrow/api.ErrTwice", laid_barrow_api_ErrTwice)], narrowed := true }
def XformListsUptoSaid : Prop := xformListsUptoRow.holds Tryd.pinned (OpenSpec.upto xformListsSpec)

/-- 'barrowlaw04.TreeFinds', WHERE WHAT IT READS IS OF BULK AT MOST 1048576: true; the input reads as it did. -/
def treeFindsUptoRow : OpenClaim := { program := "ytogkbddniacgiaadoor", sum := "3e507bcdf03383f49f4e8dfc5bdd25eeee5151d2ea5f921fbd17c20f9cd90b19", func := "barrow/barrowlaw04.TreeFinds", spec := "treeFinds", unfollowed := true, recurses := true, named := ["barrow/api.ErrArg", "barrow/api.ErrRange", "barrow/api.ErrText", "barrow/api.ErrFull", "barrow/api.ErrFrozen", "barrow/api.ErrForm", "barrow/api.ErrShort", "barrow/api.ErrOrder", "barrow/api.ErrTwice", "barrow/api.ErrEpoch", "barrow/api.ErrBusy", "barrow/api.ErrNone", "barrow/api.ErrRoom", "barrow/api.ErrOther"], plainKeys := false, apart := false, laid := [("barrow/api.ErrArg", laid_barrow_api_ErrArg), ("barrow/api.ErrRange", laid_barrow_api_ErrRange), ("barrow/api.ErrText", laid_barrow_api_ErrText), ("barrow/api.ErrFull", laid_barrow_api_ErrFull), ("barrow/api.ErrFrozen", laid_barrow_api_ErrFrozen), ("barrow/api.ErrForm", laid_barrow_api_ErrForm), ("barrow/api.ErrShort", laid_barrow_api_ErrShort), ("barrow/api.ErrOrder", laid_barrow_api_ErrOrder), ("barrow/api.ErrTwice", laid_barrow_api_ErrTwice), ("barrow/api.ErrEpoch", laid_barrow_api_ErrEpoch), ("barrow/api.ErrBusy", laid_barrow_api_ErrBusy), ("barrow/api.ErrNone", laid_barrow_api_ErrNone), ("barrow/api.ErrRoom", laid_barrow_api_ErrRoom), ("barrow/api.ErrOther", laid_barrow_api_ErrOther)], narrowed := true }
def TreeFindsUptoSaid : Prop := treeFindsUptoRow.holds Tryd.pinned (OpenSpec.upto treeFindsSpec)

/-- 'barrowlaw07.XformSwap', WHERE WHAT IT READS IS OF BULK AT MOST 1048576: true; the input reads as it did. -/
def xformSwapUptoRow : OpenClaim := { program := "ytogkbddniacgiaadoor", sum := "3e507bcdf03383f49f4e8dfc5bdd25eeee5151d2ea5f921fbd17c20f9cd90b19", func := "barrow/barrowlaw07.XformSwap", spec := "xformSwap", unfollowed := true, recurses := true, named := ["barrow/api.ErrArg", "barrow/api.ErrText", "barrow/api.ErrTwice", "barrow/api.ErrRange"], plainKeys := false, apart := false, laid := [("barrow/api.ErrArg", laid_barrow_api_ErrArg), ("barrow/api.ErrRange", laid_barrow_api_ErrRange), ("barrow/api.ErrText", laid_barrow_api_ErrText), ("barrow/api.ErrTwice", laid_barrow_api_ErrTwice)], narrowed := true }
def XformSwapUptoSaid : Prop := xformSwapUptoRow.holds Tryd.pinned (OpenSpec.upto xformSwapSpec)

/-- 'barrowlaw04.TreeExact', WHERE WHAT IT READS IS OF BULK AT MOST 1048576: true; the input reads as it did. -/
def treeExactUptoRow : OpenClaim := { program := "ytogkbddniacgiaadoor", sum := "3e507bcdf03383f49f4e8dfc5bdd25eeee5151d2ea5f921fbd17c20f9cd90b19", func := "barrow/barrowlaw04.TreeExact", spec := "treeExact", unfollowed := true, recurses := true, named := ["barrow/api.ErrArg", "barrow/api.ErrRange", "barrow/api.ErrText", "barrow/api.ErrFull", "barrow/api.ErrFrozen", "barrow/api.ErrForm", "barrow/api.ErrShort", "barrow/api.ErrOrder", "barrow/api.ErrTwice", "barrow/api.ErrEpoch", "barrow/api.ErrBusy", "barrow/api.ErrNone", "barrow/api.ErrRoom", "barrow/api.ErrOther"], plainKeys := false, apart := false, laid := [("barrow/api.ErrArg", laid_barrow_api_ErrArg), ("barrow/api.ErrRange", laid_barrow_api_ErrRange), ("barrow/api.ErrText", laid_barrow_api_ErrText), ("barrow/api.ErrFull", laid_barrow_api_ErrFull), ("barrow/api.ErrFrozen", laid_barrow_api_ErrFrozen), ("barrow/api.ErrForm", laid_barrow_api_ErrForm), ("barrow/api.ErrShort", laid_barrow_api_ErrShort), ("barrow/api.ErrOrder", laid_barrow_api_ErrOrder), ("barrow/api.ErrTwice", laid_barrow_api_ErrTwice), ("barrow/api.ErrEpoch", laid_barrow_api_ErrEpoch), ("barrow/api.ErrBusy", laid_barrow_api_ErrBusy), ("barrow/api.ErrNone", laid_barrow_api_ErrNone), ("barrow/api.ErrRoom", laid_barrow_api_ErrRoom), ("barrow/api.ErrOther", laid_barrow_api_ErrOther)], narrowed := true }
def TreeExactUptoSaid : Prop := treeExactUptoRow.holds Tryd.pinned (OpenSpec.upto treeExactSpec)

/-- 'barrowlaw07.XformInverse', WHERE WHAT IT READS IS OF BULK AT MOST 1048576: true; the input reads as it did. -/
def xformInverseUptoRow : OpenClaim := { program := "ytogkbddniacgiaadoor", sum := "3e507bcdf03383f49f4e8dfc5bdd25eeee5151d2ea5f921fbd17c20f9cd90b19", func := "barrow/barrowlaw07.XformInverse", spec := "xformInverse", inPlace := ["internal/abi.NoEscape"], unfollowed := true, recurses := true, named := ["barrow/api.ErrArg", "barrow/api.ErrText", "barrow/api.ErrTwice", "barrow/api.ErrRange"], plainKeys := false, apart := false, laid := [("barrow/api.ErrArg", laid_barrow_api_ErrArg), ("barrow/api.ErrRange", laid_barrow_api_ErrRange), ("barrow/api.ErrText", laid_barrow_api_ErrText), ("barrow/api.ErrTwice", laid_barrow_api_ErrTwice)], narrowed := true }
def XformInverseUptoSaid : Prop := xformInverseUptoRow.holds Tryd.pinned (OpenSpec.upto xformInverseSpec)

/-- 'barrowlaw07.XformApply', WHERE WHAT IT READS IS OF BULK AT MOST 1048576: true; the input reads as it did. -/
def xformApplyUptoRow : OpenClaim := { program := "ytogkbddniacgiaadoor", sum := "3e507bcdf03383f49f4e8dfc5bdd25eeee5151d2ea5f921fbd17c20f9cd90b19", func := "barrow/barrowlaw07.XformApply", spec := "xformApply", unfollowed := true, recurses := true, named := ["barrow/api.ErrArg", "barrow/api.ErrText", "barrow/api.ErrTwice", "barrow/api.ErrRange", "barrow/api.ErrFull", "barrow/api.ErrFrozen", "barrow/api.ErrForm", "barrow/api.ErrShort", "barrow/api.ErrOrder", "barrow/api.ErrEpoch", "barrow/api.ErrBusy", "barrow/api.ErrNone", "barrow/api.ErrRoom", "barrow/api.ErrOther"], plainKeys := false, apart := false, laid := [("barrow/api.ErrArg", laid_barrow_api_ErrArg), ("barrow/api.ErrRange", laid_barrow_api_ErrRange), ("barrow/api.ErrText", laid_barrow_api_ErrText), ("barrow/api.ErrFull", laid_barrow_api_ErrFull), ("barrow/api.ErrFrozen", laid_barrow_api_ErrFrozen), ("barrow/api.ErrForm", laid_barrow_api_ErrForm), ("barrow/api.ErrShort", laid_barrow_api_ErrShort), ("barrow/api.ErrOrder", laid_barrow_api_ErrOrder), ("barrow/api.ErrTwice", laid_barrow_api_ErrTwice), ("barrow/api.ErrEpoch", laid_barrow_api_ErrEpoch), ("barrow/api.ErrBusy", laid_barrow_api_ErrBusy), ("barrow/api.ErrNone", laid_barrow_api_ErrNone), ("barrow/api.ErrRoom", laid_barrow_api_ErrRoom), ("barrow/api.ErrOther", laid_barrow_api_ErrOther)], narrowed := true }
def XformApplyUptoSaid : Prop := xformApplyUptoRow.holds Tryd.pinned (OpenSpec.upto xformApplySpec)

end Rows
end Go.Proofs.YtogkbddniacgiaaDoor
