/-
  NARROWER THAN 'FOR EVERY INPUT', by the rows' own cells (each row's printed sentence says how): ModelPurge: laid · ModelAll: laid · ModelBack: laid · AnchorBack: laid · ModelApart: laid · AnchorExact: laid · AnchorStays: laid · AnchorPurge: laid · LinesExact: laid · LinesPlaces: laid · LinesWords: laid · AnchorPairs: laid · LinesSplit: laid.
  DERIVED. THE GIVEN ROWS OF THIS SEAT. 13 by the template 'for every input the law returns true; each argument reads behind the call as it read before'; 0 by the template 'total and deterministic' (their statements: YtfihjajllfihjaaDoorTotals.lean).
  GIVEN WITH THE SEED: the statements are not yours to turn. If you find one false, say at which input.
  Laid BY PROGRAM, IN A SANDBOX (cutbox-rows.mjs): the forced cells as the released guide's own fill.sh prints them over the translation 7c45f73e287f46de… (all of the seat's roots in one cut). By AI agents, Wed Nov 11 2026. No macro, syntax, notation, axiom, sorry.
-/
import Derived.Test.YtfihjajllfihjaaDoorChecked
import GoSem.PinnedTables
import GoSem.Claim
import GoSem.ClaimJoined
import GoSem.ClaimMapViews
import Derived.JoinedTies
import Derived.KernelRfl
namespace Go.Proofs.YtfihjajllfihjaaDoor
/- THE CELL 'sum', in the pinned program and in every row, IS THE sha256 OF THE DUMP (.gsa) THAT YtfihjajllfihjaaDoorProg.lean LOADS. Nothing in Lean hashes anything: it is a label: what it is worth is what the hold of that sum in a sandbox is worth. -/
noncomputable def Tryd.pinned : Pinned := { name := "ytfihjajllfihjaadoor", sum := "7c45f73e287f46de52689e4577765eb497bb2b6c99d5c6e8ac0496b87363b321", checked := Tryd.checked }
namespace Rows
def none {H : Type} : Left H := { results := [], args := [] }

/- WHAT THE LISTED PACKAGE-LEVEL VARIABLES READ AS WHEN THE CALL BEGINS. Each datum BY PROGRAM (the guide's laid-datum.mjs) off the statement by which the dump's own 'gosem.cut.vars' lays the variable. In a bare row this is a premise. The card (YtfihjajllfihjaaDoorCards.lean) ties it to the program's text. -/
def laid_barrow_api_ErrArg {H : Type} : DataW H := .iface "*errors.errorString" (.ptr (.agg [.lit (.string [98, 97, 100, 32, 97, 114, 103, 117, 109, 101, 110, 116])]))
def laid_barrow_api_ErrRange {H : Type} : DataW H := .iface "*errors.errorString" (.ptr (.agg [.lit (.string [111, 117, 116, 32, 111, 102, 32, 114, 97, 110, 103, 101])]))
def laid_barrow_api_ErrText {H : Type} : DataW H := .iface "*errors.errorString" (.ptr (.agg [.lit (.string [98, 97, 100, 32, 116, 101, 120, 116])]))
def laid_barrow_api_ErrFull {H : Type} : DataW H := .iface "*errors.errorString" (.ptr (.agg [.lit (.string [110, 111, 32, 99, 114, 101, 100, 105, 116, 32, 108, 101, 102, 116])]))
def laid_barrow_api_ErrFrozen {H : Type} : DataW H := .iface "*errors.errorString" (.ptr (.agg [.lit (.string [102, 114, 111, 122, 101, 110])]))
def laid_barrow_api_ErrForm {H : Type} : DataW H := .iface "*errors.errorString" (.ptr (.agg [.lit (.string [98, 97, 100, 32, 102, 111, 114, 109])]))
def laid_barrow_api_ErrShort {H : Type} : DataW H := .iface "*errors.errorString" (.ptr (.agg [.lit (.string [99, 117, 116, 32, 115, 104, 111, 114, 116])]))
def laid_barrow_api_ErrOrder {H : Type} : DataW H := .iface "*errors.errorString" (.ptr (.agg [.lit (.string [110, 111, 116, 32, 121, 101, 116])]))
def laid_barrow_api_ErrTwice {H : Type} : DataW H := .iface "*errors.errorString" (.ptr (.agg [.lit (.string [116, 104, 101, 114, 101, 32, 97, 108, 114, 101, 97, 100, 121])]))
def laid_barrow_api_ErrEpoch {H : Type} : DataW H := .iface "*errors.errorString" (.ptr (.agg [.lit (.string [97, 110, 111, 116, 104, 101, 114, 32, 101, 112, 111, 99, 104])]))
def laid_barrow_api_ErrBusy {H : Type} : DataW H := .iface "*errors.errorString" (.ptr (.agg [.lit (.string [98, 117, 115, 121])]))
def laid_barrow_api_ErrNone {H : Type} : DataW H := .iface "*errors.errorString" (.ptr (.agg [.lit (.string [110, 111, 116, 104, 105, 110, 103, 32, 116, 104, 101, 114, 101])]))
def laid_barrow_api_ErrRoom {H : Type} : DataW H := .iface "*errors.errorString" (.ptr (.agg [.lit (.string [110, 111, 32, 114, 111, 111, 109])]))
def laid_barrow_api_ErrOther {H : Type} : DataW H := .iface "*errors.errorString" (.ptr (.agg [.lit (.string [115, 111, 109, 101, 116, 104, 105, 110, 103, 32, 101, 108, 115, 101])]))
def laid_unicode_utf8_acceptRanges {H : Type} : DataW H := .agg [.agg [.lit (.int .u8 128), .lit (.int .u8 191)], .agg [.lit (.int .u8 160), .lit (.int .u8 191)], .agg [.lit (.int .u8 128), .lit (.int .u8 159)], .agg [.lit (.int .u8 144), .lit (.int .u8 191)], .agg [.lit (.int .u8 128), .lit (.int .u8 143)], .agg [.lit (.int .u8 0), .lit (.int .u8 0)], .agg [.lit (.int .u8 0), .lit (.int .u8 0)], .agg [.lit (.int .u8 0), .lit (.int .u8 0)], .agg [.lit (.int .u8 0), .lit (.int .u8 0)], .agg [.lit (.int .u8 0), .lit (.int .u8 0)], .agg [.lit (.int .u8 0), .lit (.int .u8 0)], .agg [.lit (.int .u8 0), .lit (.int .u8 0)], .agg [.lit (.int .u8 0), .lit (.int .u8 0)], .agg [.lit (.int .u8 0), .lit (.int .u8 0)], .agg [.lit (.int .u8 0), .lit (.int .u8 0)], .agg [.lit (.int .u8 0), .lit (.int .u8 0)]]
/-- One of Go's own tables, pinned by name: the form's constant. -/
def laid_unicode_utf8_first : DataW Unit := Go.Pinned.utf8First

/-- 'barrowlaw05.ModelPurge': WHATEVER THE INPUT: true; the input reads as it did. -/
def modelPurgeSpec : ChangeSpec := { name := "modelPurge", fn := fun _ => fun
  | [d] => { results := [.lit (.bool true)], args := [d] }
  | _ => none }
def modelPurgeRow : OpenClaim := { program := "ytfihjajllfihjaadoor", sum := "7c45f73e287f46de52689e4577765eb497bb2b6c99d5c6e8ac0496b87363b321", func := "barrow/barrowlaw05.ModelPurge", spec := "modelPurge", inPlace := ["internal/abi.NoEscape"], unfollowed := true, recurses := true, named := ["barrow/api.ErrArg", "barrow/api.ErrText", "barrow/api.ErrTwice", "barrow/api.ErrRange", "barrow/api.ErrFull", "barrow/api.ErrFrozen", "barrow/api.ErrForm", "barrow/api.ErrShort", "barrow/api.ErrOrder", "barrow/api.ErrEpoch", "barrow/api.ErrBusy", "barrow/api.ErrNone", "barrow/api.ErrRoom", "barrow/api.ErrOther"], plainKeys := false, apart := false, laid := [("barrow/api.ErrArg", laid_barrow_api_ErrArg), ("barrow/api.ErrRange", laid_barrow_api_ErrRange), ("barrow/api.ErrText", laid_barrow_api_ErrText), ("barrow/api.ErrFull", laid_barrow_api_ErrFull), ("barrow/api.ErrFrozen", laid_barrow_api_ErrFrozen), ("barrow/api.ErrForm", laid_barrow_api_ErrForm), ("barrow/api.ErrShort", laid_barrow_api_ErrShort), ("barrow/api.ErrOrder", laid_barrow_api_ErrOrder), ("barrow/api.ErrTwice", laid_barrow_api_ErrTwice), ("barrow/api.ErrEpoch", laid_barrow_api_ErrEpoch), ("barrow/api.ErrBusy", laid_barrow_api_ErrBusy), ("barrow/api.ErrNone", laid_barrow_api_ErrNone), ("barrow/api.ErrRoom", laid_barrow_api_ErrRoom), ("barrow/api.ErrOther", laid_barrow_api_ErrOther)] }
def ModelPurgeSaid : Prop := modelPurgeRow.holds Tryd.pinned (OpenSpec.ofChange modelPurgeSpec)

/-- ITS FALSE NEIGHBOUR: 'it returns false'. Refute it at one input. -/
def modelPurgeWrong : ChangeSpec := { name := "modelPurge", fn := fun _ => fun
  | [d] => { results := [.lit (.bool false)], args := [d] }
  | _ => none }
def ModelPurgeWrongFalsely : Prop := modelPurgeRow.holds Tryd.pinned (OpenSpec.ofChange modelPurgeWrong)

/-- 'barrowlaw05.ModelAll': WHATEVER THE INPUT: true; the input reads as it did. -/
def modelAllSpec : ChangeSpec := { name := "modelAll", fn := fun _ => fun
  | [d1, d2] => { results := [.lit (.bool true)], args := [d1, d2] }
  | _ => none }
def modelAllRow : OpenClaim := { program := "ytfihjajllfihjaadoor", sum := "7c45f73e287f46de52689e4577765eb497bb2b6c99d5c6e8ac0496b87363b321", func := "barrow/barrowlaw05.ModelAll", spec := "modelAll", inPlace := ["internal/abi.NoEscape"], unfollowed := true, recurses := true, named := ["barrow/api.ErrArg", "barrow/api.ErrText", "barrow/api.ErrTwice", "barrow/api.ErrRange", "barrow/api.ErrFull", "barrow/api.ErrFrozen", "barrow/api.ErrForm", "barrow/api.ErrShort", "barrow/api.ErrOrder", "barrow/api.ErrEpoch", "barrow/api.ErrBusy", "barrow/api.ErrNone", "barrow/api.ErrRoom", "barrow/api.ErrOther"], plainKeys := false, apart := false, laid := [("barrow/api.ErrArg", laid_barrow_api_ErrArg), ("barrow/api.ErrRange", laid_barrow_api_ErrRange), ("barrow/api.ErrText", laid_barrow_api_ErrText), ("barrow/api.ErrFull", laid_barrow_api_ErrFull), ("barrow/api.ErrFrozen", laid_barrow_api_ErrFrozen), ("barrow/api.ErrForm", laid_barrow_api_ErrForm), ("barrow/api.ErrShort", laid_barrow_api_ErrShort), ("barrow/api.ErrOrder", laid_barrow_api_ErrOrder), ("barrow/api.ErrTwice", laid_barrow_api_ErrTwice), ("barrow/api.ErrEpoch", laid_barrow_api_ErrEpoch), ("barrow/api.ErrBusy", laid_barrow_api_ErrBusy), ("barrow/api.ErrNone", laid_barrow_api_ErrNone), ("barrow/api.ErrRoom", laid_barrow_api_ErrRoom), ("barrow/api.ErrOther", laid_barrow_api_ErrOther)] }
def ModelAllSaid : Prop := modelAllRow.holds Tryd.pinned (OpenSpec.ofChange modelAllSpec)

/-- ITS FALSE NEIGHBOUR: 'it returns false'. Refute it at one input. -/
def modelAllWrong : ChangeSpec := { name := "modelAll", fn := fun _ => fun
  | [d1, d2] => { results := [.lit (.bool false)], args := [d1, d2] }
  | _ => none }
def ModelAllWrongFalsely : Prop := modelAllRow.holds Tryd.pinned (OpenSpec.ofChange modelAllWrong)

/-- 'barrowlaw05.ModelBack': WHATEVER THE INPUT: true; the input reads as it did. -/
def modelBackSpec : ChangeSpec := { name := "modelBack", fn := fun _ => fun
  | [d] => { results := [.lit (.bool true)], args := [d] }
  | _ => none }
def modelBackRow : OpenClaim := { program := "ytfihjajllfihjaadoor", sum := "7c45f73e287f46de52689e4577765eb497bb2b6c99d5c6e8ac0496b87363b321", func := "barrow/barrowlaw05.ModelBack", spec := "modelBack", inPlace := ["internal/abi.NoEscape"], unfollowed := true, recurses := true, named := ["barrow/api.ErrArg", "barrow/api.ErrText", "barrow/api.ErrTwice", "barrow/api.ErrRange", "barrow/api.ErrFull", "barrow/api.ErrFrozen", "barrow/api.ErrForm", "barrow/api.ErrShort", "barrow/api.ErrOrder", "barrow/api.ErrEpoch", "barrow/api.ErrBusy", "barrow/api.ErrNone", "barrow/api.ErrRoom", "barrow/api.ErrOther"], plainKeys := false, apart := false, laid := [("barrow/api.ErrArg", laid_barrow_api_ErrArg), ("barrow/api.ErrRange", laid_barrow_api_ErrRange), ("barrow/api.ErrText", laid_barrow_api_ErrText), ("barrow/api.ErrFull", laid_barrow_api_ErrFull), ("barrow/api.ErrFrozen", laid_barrow_api_ErrFrozen), ("barrow/api.ErrForm", laid_barrow_api_ErrForm), ("barrow/api.ErrShort", laid_barrow_api_ErrShort), ("barrow/api.ErrOrder", laid_barrow_api_ErrOrder), ("barrow/api.ErrTwice", laid_barrow_api_ErrTwice), ("barrow/api.ErrEpoch", laid_barrow_api_ErrEpoch), ("barrow/api.ErrBusy", laid_barrow_api_ErrBusy), ("barrow/api.ErrNone", laid_barrow_api_ErrNone), ("barrow/api.ErrRoom", laid_barrow_api_ErrRoom), ("barrow/api.ErrOther", laid_barrow_api_ErrOther)] }
def ModelBackSaid : Prop := modelBackRow.holds Tryd.pinned (OpenSpec.ofChange modelBackSpec)

/-- ITS FALSE NEIGHBOUR: 'it returns false'. Refute it at one input. -/
def modelBackWrong : ChangeSpec := { name := "modelBack", fn := fun _ => fun
  | [d] => { results := [.lit (.bool false)], args := [d] }
  | _ => none }
def ModelBackWrongFalsely : Prop := modelBackRow.holds Tryd.pinned (OpenSpec.ofChange modelBackWrong)

/-- 'barrowlaw13.AnchorBack': WHATEVER THE INPUT: true; the input reads as it did. -/
def anchorBackSpec : ChangeSpec := { name := "anchorBack", fn := fun _ => fun
  | [d] => { results := [.lit (.bool true)], args := [d] }
  | _ => none }
def anchorBackRow : OpenClaim := { program := "ytfihjajllfihjaadoor", sum := "7c45f73e287f46de52689e4577765eb497bb2b6c99d5c6e8ac0496b87363b321", func := "barrow/barrowlaw13.AnchorBack", spec := "anchorBack", unfollowed := true, recurses := true, named := ["barrow/api.ErrArg", "barrow/api.ErrText", "barrow/api.ErrTwice", "barrow/api.ErrRange", "barrow/api.ErrFull", "barrow/api.ErrFrozen", "barrow/api.ErrForm", "barrow/api.ErrShort", "barrow/api.ErrOrder", "barrow/api.ErrEpoch", "barrow/api.ErrBusy", "barrow/api.ErrNone", "barrow/api.ErrRoom", "barrow/api.ErrOther"], plainKeys := false, apart := false, laid := [("barrow/api.ErrArg", laid_barrow_api_ErrArg), ("barrow/api.ErrRange", laid_barrow_api_ErrRange), ("barrow/api.ErrText", laid_barrow_api_ErrText), ("barrow/api.ErrFull", laid_barrow_api_ErrFull), ("barrow/api.ErrFrozen", laid_barrow_api_ErrFrozen), ("barrow/api.ErrForm", laid_barrow_api_ErrForm), ("barrow/api.ErrShort", laid_barrow_api_ErrShort), ("barrow/api.ErrOrder", laid_barrow_api_ErrOrder), ("barrow/api.ErrTwice", laid_barrow_api_ErrTwice), ("barrow/api.ErrEpoch", laid_barrow_api_ErrEpoch), ("barrow/api.ErrBusy", laid_barrow_api_ErrBusy), ("barrow/api.ErrNone", laid_barrow_api_ErrNone), ("barrow/api.ErrRoom", laid_barrow_api_ErrRoom), ("barrow/api.ErrOther", laid_barrow_api_ErrOther)] }
def AnchorBackSaid : Prop := anchorBackRow.holds Tryd.pinned (OpenSpec.ofChange anchorBackSpec)

/-- ITS FALSE NEIGHBOUR: 'it returns false'. Refute it at one input. -/
def anchorBackWrong : ChangeSpec := { name := "anchorBack", fn := fun _ => fun
  | [d] => { results := [.lit (.bool false)], args := [d] }
  | _ => none }
def AnchorBackWrongFalsely : Prop := anchorBackRow.holds Tryd.pinned (OpenSpec.ofChange anchorBackWrong)

/-- 'barrowlaw05.ModelApart': WHATEVER THE INPUT: true; the input reads as it did. -/
def modelApartSpec : ChangeSpec := { name := "modelApart", fn := fun _ => fun
  | [d1, d2] => { results := [.lit (.bool true)], args := [d1, d2] }
  | _ => none }
def modelApartRow : OpenClaim := { program := "ytfihjajllfihjaadoor", sum := "7c45f73e287f46de52689e4577765eb497bb2b6c99d5c6e8ac0496b87363b321", func := "barrow/barrowlaw05.ModelApart", spec := "modelApart", inPlace := ["internal/abi.NoEscape"], unfollowed := true, recurses := true, named := ["barrow/api.ErrArg", "barrow/api.ErrText", "barrow/api.ErrTwice", "barrow/api.ErrRange", "barrow/api.ErrFull", "barrow/api.ErrFrozen", "barrow/api.ErrForm", "barrow/api.ErrShort", "barrow/api.ErrOrder", "barrow/api.ErrEpoch", "barrow/api.ErrBusy", "barrow/api.ErrNone", "barrow/api.ErrRoom", "barrow/api.ErrOther"], plainKeys := false, apart := false, laid := [("barrow/api.ErrArg", laid_barrow_api_ErrArg), ("barrow/api.ErrRange", laid_barrow_api_ErrRange), ("barrow/api.ErrText", laid_barrow_api_ErrText), ("barrow/api.ErrFull", laid_barrow_api_ErrFull), ("barrow/api.ErrFrozen", laid_barrow_api_ErrFrozen), ("barrow/api.ErrForm", laid_barrow_api_ErrForm), ("barrow/api.ErrShort", laid_barrow_api_ErrShort), ("barrow/api.ErrOrder", laid_barrow_api_ErrOrder), ("barrow/api.ErrTwice", laid_barrow_api_ErrTwice), ("barrow/api.ErrEpoch", laid_barrow_api_ErrEpoch), ("barrow/api.ErrBusy", laid_barrow_api_ErrBusy), ("barrow/api.ErrNone", laid_barrow_api_ErrNone), ("barrow/api.ErrRoom", laid_barrow_api_ErrRoom), ("barrow/api.ErrOther", laid_barrow_api_ErrOther)] }
def ModelApartSaid : Prop := modelApartRow.holds Tryd.pinned (OpenSpec.ofChange modelApartSpec)

/-- ITS FALSE NEIGHBOUR: 'it returns false'. Refute it at one input. -/
def modelApartWrong : ChangeSpec := { name := "modelApart", fn := fun _ => fun
  | [d1, d2] => { results := [.lit (.bool false)], args := [d1, d2] }
  | _ => none }
def ModelApartWrongFalsely : Prop := modelApartRow.holds Tryd.pinned (OpenSpec.ofChange modelApartWrong)

/-- 'barrowlaw13.AnchorExact': WHATEVER THE INPUT: true; the input reads as it did. -/
def anchorExactSpec : ChangeSpec := { name := "anchorExact", fn := fun _ => fun
  | [d1, d2, d3] => { results := [.lit (.bool true)], args := [d1, d2, d3] }
  | _ => none }
def anchorExactRow : OpenClaim := { program := "ytfihjajllfihjaadoor", sum := "7c45f73e287f46de52689e4577765eb497bb2b6c99d5c6e8ac0496b87363b321", func := "barrow/barrowlaw13.AnchorExact", spec := "anchorExact", unfollowed := true, recurses := true, named := ["barrow/api.ErrArg", "barrow/api.ErrText", "barrow/api.ErrTwice", "barrow/api.ErrRange", "barrow/api.ErrFull", "barrow/api.ErrFrozen", "barrow/api.ErrForm", "barrow/api.ErrShort", "barrow/api.ErrOrder", "barrow/api.ErrEpoch", "barrow/api.ErrBusy", "barrow/api.ErrNone", "barrow/api.ErrRoom", "barrow/api.ErrOther"], plainKeys := false, apart := false, laid := [("barrow/api.ErrArg", laid_barrow_api_ErrArg), ("barrow/api.ErrRange", laid_barrow_api_ErrRange), ("barrow/api.ErrText", laid_barrow_api_ErrText), ("barrow/api.ErrFull", laid_barrow_api_ErrFull), ("barrow/api.ErrFrozen", laid_barrow_api_ErrFrozen), ("barrow/api.ErrForm", laid_barrow_api_ErrForm), ("barrow/api.ErrShort", laid_barrow_api_ErrShort), ("barrow/api.ErrOrder", laid_barrow_api_ErrOrder), ("barrow/api.ErrTwice", laid_barrow_api_ErrTwice), ("barrow/api.ErrEpoch", laid_barrow_api_ErrEpoch), ("barrow/api.ErrBusy", laid_barrow_api_ErrBusy), ("barrow/api.ErrNone", laid_barrow_api_ErrNone), ("barrow/api.ErrRoom", laid_barrow_api_ErrRoom), ("barrow/api.ErrOther", laid_barrow_api_ErrOther)] }
def AnchorExactSaid : Prop := anchorExactRow.holds Tryd.pinned (OpenSpec.ofChange anchorExactSpec)

/-- ITS FALSE NEIGHBOUR: 'it returns false'. Refute it at one input. -/
def anchorExactWrong : ChangeSpec := { name := "anchorExact", fn := fun _ => fun
  | [d1, d2, d3] => { results := [.lit (.bool false)], args := [d1, d2, d3] }
  | _ => none }
def AnchorExactWrongFalsely : Prop := anchorExactRow.holds Tryd.pinned (OpenSpec.ofChange anchorExactWrong)

/-- 'barrowlaw13.AnchorStays': WHATEVER THE INPUT: true; the input reads as it did. -/
def anchorStaysSpec : ChangeSpec := { name := "anchorStays", fn := fun _ => fun
  | [d1, d2, d3] => { results := [.lit (.bool true)], args := [d1, d2, d3] }
  | _ => none }
def anchorStaysRow : OpenClaim := { program := "ytfihjajllfihjaadoor", sum := "7c45f73e287f46de52689e4577765eb497bb2b6c99d5c6e8ac0496b87363b321", func := "barrow/barrowlaw13.AnchorStays", spec := "anchorStays", unfollowed := true, recurses := true, named := ["barrow/api.ErrArg", "barrow/api.ErrText", "barrow/api.ErrTwice", "barrow/api.ErrRange", "barrow/api.ErrFull", "barrow/api.ErrFrozen", "barrow/api.ErrForm", "barrow/api.ErrShort", "barrow/api.ErrOrder", "barrow/api.ErrEpoch", "barrow/api.ErrBusy", "barrow/api.ErrNone", "barrow/api.ErrRoom", "barrow/api.ErrOther"], plainKeys := false, apart := false, laid := [("barrow/api.ErrArg", laid_barrow_api_ErrArg), ("barrow/api.ErrRange", laid_barrow_api_ErrRange), ("barrow/api.ErrText", laid_barrow_api_ErrText), ("barrow/api.ErrFull", laid_barrow_api_ErrFull), ("barrow/api.ErrFrozen", laid_barrow_api_ErrFrozen), ("barrow/api.ErrForm", laid_barrow_api_ErrForm), ("barrow/api.ErrShort", laid_barrow_api_ErrShort), ("barrow/api.ErrOrder", laid_barrow_api_ErrOrder), ("barrow/api.ErrTwice", laid_barrow_api_ErrTwice), ("barrow/api.ErrEpoch", laid_barrow_api_ErrEpoch), ("barrow/api.ErrBusy", laid_barrow_api_ErrBusy), ("barrow/api.ErrNone", laid_barrow_api_ErrNone), ("barrow/api.ErrRoom", laid_barrow_api_ErrRoom), ("barrow/api.ErrOther", laid_barrow_api_ErrOther)] }
def AnchorStaysSaid : Prop := anchorStaysRow.holds Tryd.pinned (OpenSpec.ofChange anchorStaysSpec)

/-- ITS FALSE NEIGHBOUR: 'it returns false'. Refute it at one input. -/
def anchorStaysWrong : ChangeSpec := { name := "anchorStays", fn := fun _ => fun
  | [d1, d2, d3] => { results := [.lit (.bool false)], args := [d1, d2, d3] }
  | _ => none }
def AnchorStaysWrongFalsely : Prop := anchorStaysRow.holds Tryd.pinned (OpenSpec.ofChange anchorStaysWrong)

/-- 'barrowlaw13.AnchorPurge': WHATEVER THE INPUT: true; the input reads as it did. -/
def anchorPurgeSpec : ChangeSpec := { name := "anchorPurge", fn := fun _ => fun
  | [d1, d2] => { results := [.lit (.bool true)], args := [d1, d2] }
  | _ => none }
def anchorPurgeRow : OpenClaim := { program := "ytfihjajllfihjaadoor", sum := "7c45f73e287f46de52689e4577765eb497bb2b6c99d5c6e8ac0496b87363b321", func := "barrow/barrowlaw13.AnchorPurge", spec := "anchorPurge", unfollowed := true, recurses := true, named := ["barrow/api.ErrArg", "barrow/api.ErrText", "barrow/api.ErrTwice", "barrow/api.ErrRange", "barrow/api.ErrFull", "barrow/api.ErrFrozen", "barrow/api.ErrForm", "barrow/api.ErrShort", "barrow/api.ErrOrder", "barrow/api.ErrEpoch", "barrow/api.ErrBusy", "barrow/api.ErrNone", "barrow/api.ErrRoom", "barrow/api.ErrOther"], plainKeys := false, apart := false, laid := [("barrow/api.ErrArg", laid_barrow_api_ErrArg), ("barrow/api.ErrRange", laid_barrow_api_ErrRange), ("barrow/api.ErrText", laid_barrow_api_ErrText), ("barrow/api.ErrFull", laid_barrow_api_ErrFull), ("barrow/api.ErrFrozen", laid_barrow_api_ErrFrozen), ("barrow/api.ErrForm", laid_barrow_api_ErrForm), ("barrow/api.ErrShort", laid_barrow_api_ErrShort), ("barrow/api.ErrOrder", laid_barrow_api_ErrOrder), ("barrow/api.ErrTwice", laid_barrow_api_ErrTwice), ("barrow/api.ErrEpoch", laid_barrow_api_ErrEpoch), ("barrow/api.ErrBusy", laid_barrow_api_ErrBusy), ("barrow/api.ErrNone", laid_barrow_api_ErrNone), ("barrow/api.ErrRoom", laid_barrow_api_ErrRoom), ("barrow/api.ErrOther", laid_barrow_api_ErrOther)] }
def AnchorPurgeSaid : Prop := anchorPurgeRow.holds Tryd.pinned (OpenSpec.ofChange anchorPurgeSpec)

/-- ITS FALSE NEIGHBOUR: 'it returns false'. Refute it at one input. -/
def anchorPurgeWrong : ChangeSpec := { name := "anchorPurge", fn := fun _ => fun
  | [d1, d2] => { results := [.lit (.bool false)], args := [d1, d2] }
  | _ => none }
def AnchorPurgeWrongFalsely : Prop := anchorPurgeRow.holds Tryd.pinned (OpenSpec.ofChange anchorPurgeWrong)

/-- 'barrowlaw06.LinesExact': WHATEVER THE INPUT: true; the input reads as it did. -/
def linesExactSpec : ChangeSpec := { name := "linesExact", fn := fun _ => fun
  | [d1, d2, d3] => { results := [.lit (.bool true)], args := [d1, d2, d3] }
  | _ => none }
def linesExactRow : OpenClaim := { program := "ytfihjajllfihjaadoor", sum := "7c45f73e287f46de52689e4577765eb497bb2b6c99d5c6e8ac0496b87363b321", func := "barrow/barrowlaw06.LinesExact", spec := "linesExact", inPlace := ["internal/abi.NoEscape"], unfollowed := true, recurses := true, named := ["barrow/api.ErrArg", "barrow/api.ErrText", "barrow/api.ErrTwice", "barrow/api.ErrRange", "barrow/api.ErrFull", "barrow/api.ErrFrozen", "barrow/api.ErrForm", "barrow/api.ErrShort", "barrow/api.ErrOrder", "barrow/api.ErrEpoch", "barrow/api.ErrBusy", "barrow/api.ErrNone", "barrow/api.ErrRoom", "barrow/api.ErrOther"], plainKeys := false, apart := false, laid := [("barrow/api.ErrArg", laid_barrow_api_ErrArg), ("barrow/api.ErrRange", laid_barrow_api_ErrRange), ("barrow/api.ErrText", laid_barrow_api_ErrText), ("barrow/api.ErrFull", laid_barrow_api_ErrFull), ("barrow/api.ErrFrozen", laid_barrow_api_ErrFrozen), ("barrow/api.ErrForm", laid_barrow_api_ErrForm), ("barrow/api.ErrShort", laid_barrow_api_ErrShort), ("barrow/api.ErrOrder", laid_barrow_api_ErrOrder), ("barrow/api.ErrTwice", laid_barrow_api_ErrTwice), ("barrow/api.ErrEpoch", laid_barrow_api_ErrEpoch), ("barrow/api.ErrBusy", laid_barrow_api_ErrBusy), ("barrow/api.ErrNone", laid_barrow_api_ErrNone), ("barrow/api.ErrRoom", laid_barrow_api_ErrRoom), ("barrow/api.ErrOther", laid_barrow_api_ErrOther)] }
def LinesExactSaid : Prop := linesExactRow.holds Tryd.pinned (OpenSpec.ofChange linesExactSpec)

/-- ITS FALSE NEIGHBOUR: 'it returns false'. Refute it at one input. -/
def linesExactWrong : ChangeSpec := { name := "linesExact", fn := fun _ => fun
  | [d1, d2, d3] => { results := [.lit (.bool false)], args := [d1, d2, d3] }
  | _ => none }
def LinesExactWrongFalsely : Prop := linesExactRow.holds Tryd.pinned (OpenSpec.ofChange linesExactWrong)

/-- 'barrowlaw06.LinesPlaces': WHATEVER THE INPUT: true; the input reads as it did. -/
def linesPlacesSpec : ChangeSpec := { name := "linesPlaces", fn := fun _ => fun
  | [d1, d2, d3] => { results := [.lit (.bool true)], args := [d1, d2, d3] }
  | _ => none }
def linesPlacesRow : OpenClaim := { program := "ytfihjajllfihjaadoor", sum := "7c45f73e287f46de52689e4577765eb497bb2b6c99d5c6e8ac0496b87363b321", func := "barrow/barrowlaw06.LinesPlaces", spec := "linesPlaces", inPlace := ["internal/abi.NoEscape"], unfollowed := true, recurses := true, named := ["barrow/api.ErrArg", "barrow/api.ErrText", "barrow/api.ErrTwice", "barrow/api.ErrRange", "barrow/api.ErrFull", "barrow/api.ErrFrozen", "barrow/api.ErrForm", "barrow/api.ErrShort", "barrow/api.ErrOrder", "barrow/api.ErrEpoch", "barrow/api.ErrBusy", "barrow/api.ErrNone", "barrow/api.ErrRoom", "barrow/api.ErrOther"], plainKeys := false, apart := false, laid := [("barrow/api.ErrArg", laid_barrow_api_ErrArg), ("barrow/api.ErrRange", laid_barrow_api_ErrRange), ("barrow/api.ErrText", laid_barrow_api_ErrText), ("barrow/api.ErrFull", laid_barrow_api_ErrFull), ("barrow/api.ErrFrozen", laid_barrow_api_ErrFrozen), ("barrow/api.ErrForm", laid_barrow_api_ErrForm), ("barrow/api.ErrShort", laid_barrow_api_ErrShort), ("barrow/api.ErrOrder", laid_barrow_api_ErrOrder), ("barrow/api.ErrTwice", laid_barrow_api_ErrTwice), ("barrow/api.ErrEpoch", laid_barrow_api_ErrEpoch), ("barrow/api.ErrBusy", laid_barrow_api_ErrBusy), ("barrow/api.ErrNone", laid_barrow_api_ErrNone), ("barrow/api.ErrRoom", laid_barrow_api_ErrRoom), ("barrow/api.ErrOther", laid_barrow_api_ErrOther)] }
def LinesPlacesSaid : Prop := linesPlacesRow.holds Tryd.pinned (OpenSpec.ofChange linesPlacesSpec)

/-- ITS FALSE NEIGHBOUR: 'it returns false'. Refute it at one input. -/
def linesPlacesWrong : ChangeSpec := { name := "linesPlaces", fn := fun _ => fun
  | [d1, d2, d3] => { results := [.lit (.bool false)], args := [d1, d2, d3] }
  | _ => none }
def LinesPlacesWrongFalsely : Prop := linesPlacesRow.holds Tryd.pinned (OpenSpec.ofChange linesPlacesWrong)

/-- 'barrowlaw06.LinesWords': WHATEVER THE INPUT: true; the input reads as it did. -/
def linesWordsSpec : ChangeSpec := { name := "linesWords", fn := fun _ => fun
  | [d1, d2, d3] => { results := [.lit (.bool true)], args := [d1, d2, d3] }
  | _ => none }
def linesWordsRow : OpenClaim := { program := "ytfihjajllfihjaadoor", sum := "7c45f73e287f46de52689e4577765eb497bb2b6c99d5c6e8ac0496b87363b321", func := "barrow/barrowlaw06.LinesWords", spec := "linesWords", inPlace := ["internal/abi.NoEscape"], unfollowed := true, recurses := true, named := ["barrow/api.ErrArg", "barrow/api.ErrText", "barrow/api.ErrTwice", "barrow/api.ErrRange", "barrow/api.ErrFull", "barrow/api.ErrFrozen", "barrow/api.ErrForm", "barrow/api.ErrShort", "barrow/api.ErrOrder", "barrow/api.ErrEpoch", "barrow/api.ErrBusy", "barrow/api.ErrNone", "barrow/api.ErrRoom", "barrow/api.ErrOther"], plainKeys := false, apart := false, laid := [("barrow/api.ErrArg", laid_barrow_api_ErrArg), ("barrow/api.ErrRange", laid_barrow_api_ErrRange), ("barrow/api.ErrText", laid_barrow_api_ErrText), ("barrow/api.ErrFull", laid_barrow_api_ErrFull), ("barrow/api.ErrFrozen", laid_barrow_api_ErrFrozen), ("barrow/api.ErrForm", laid_barrow_api_ErrForm), ("barrow/api.ErrShort", laid_barrow_api_ErrShort), ("barrow/api.ErrOrder", laid_barrow_api_ErrOrder), ("barrow/api.ErrTwice", laid_barrow_api_ErrTwice), ("barrow/api.ErrEpoch", laid_barrow_api_ErrEpoch), ("barrow/api.ErrBusy", laid_barrow_api_ErrBusy), ("barrow/api.ErrNone", laid_barrow_api_ErrNone), ("barrow/api.ErrRoom", laid_barrow_api_ErrRoom), ("barrow/api.ErrOther", laid_barrow_api_ErrOther)] }
def LinesWordsSaid : Prop := linesWordsRow.holds Tryd.pinned (OpenSpec.ofChange linesWordsSpec)

/-- ITS FALSE NEIGHBOUR: 'it returns false'. Refute it at one input. -/
def linesWordsWrong : ChangeSpec := { name := "linesWords", fn := fun _ => fun
  | [d1, d2, d3] => { results := [.lit (.bool false)], args := [d1, d2, d3] }
  | _ => none }
def LinesWordsWrongFalsely : Prop := linesWordsRow.holds Tryd.pinned (OpenSpec.ofChange linesWordsWrong)

/-- 'barrowlaw13.AnchorPairs': WHATEVER THE INPUT: true; the input reads as it did. -/
def anchorPairsSpec : ChangeSpec := { name := "anchorPairs", fn := fun _ => fun
  | [d1, d2] => { results := [.lit (.bool true)], args := [d1, d2] }
  | _ => none }
def anchorPairsRow : OpenClaim := { program := "ytfihjajllfihjaadoor", sum := "7c45f73e287f46de52689e4577765eb497bb2b6c99d5c6e8ac0496b87363b321", func := "barrow/barrowlaw13.AnchorPairs", spec := "anchorPairs", unfollowed := true, recurses := true, named := ["barrow/api.ErrArg", "barrow/api.ErrText", "barrow/api.ErrTwice", "barrow/api.ErrRange", "barrow/api.ErrFull", "barrow/api.ErrFrozen", "barrow/api.ErrForm", "barrow/api.ErrShort", "barrow/api.ErrOrder", "barrow/api.ErrEpoch", "barrow/api.ErrBusy", "barrow/api.ErrNone", "barrow/api.ErrRoom", "barrow/api.ErrOther"], plainKeys := false, apart := false, laid := [("barrow/api.ErrArg", laid_barrow_api_ErrArg), ("barrow/api.ErrRange", laid_barrow_api_ErrRange), ("barrow/api.ErrText", laid_barrow_api_ErrText), ("barrow/api.ErrFull", laid_barrow_api_ErrFull), ("barrow/api.ErrFrozen", laid_barrow_api_ErrFrozen), ("barrow/api.ErrForm", laid_barrow_api_ErrForm), ("barrow/api.ErrShort", laid_barrow_api_ErrShort), ("barrow/api.ErrOrder", laid_barrow_api_ErrOrder), ("barrow/api.ErrTwice", laid_barrow_api_ErrTwice), ("barrow/api.ErrEpoch", laid_barrow_api_ErrEpoch), ("barrow/api.ErrBusy", laid_barrow_api_ErrBusy), ("barrow/api.ErrNone", laid_barrow_api_ErrNone), ("barrow/api.ErrRoom", laid_barrow_api_ErrRoom), ("barrow/api.ErrOther", laid_barrow_api_ErrOther)] }
def AnchorPairsSaid : Prop := anchorPairsRow.holds Tryd.pinned (OpenSpec.ofChange anchorPairsSpec)

/-- ITS FALSE NEIGHBOUR: 'it returns false'. Refute it at one input. -/
def anchorPairsWrong : ChangeSpec := { name := "anchorPairs", fn := fun _ => fun
  | [d1, d2] => { results := [.lit (.bool false)], args := [d1, d2] }
  | _ => none }
def AnchorPairsWrongFalsely : Prop := anchorPairsRow.holds Tryd.pinned (OpenSpec.ofChange anchorPairsWrong)

/-- 'barrowlaw06.LinesSplit': WHATEVER THE INPUT: true; the input reads as it did. -/
def linesSplitSpec : ChangeSpec := { name := "linesSplit", fn := fun _ => fun
  | [d] => { results := [.lit (.bool true)], args := [d] }
  | _ => none }
def linesSplitRow : OpenClaim := { program := "ytfihjajllfihjaadoor", sum := "7c45f73e287f46de52689e4577765eb497bb2b6c99d5c6e8ac0496b87363b321", func := "barrow/barrowlaw06.LinesSplit", spec := "linesSplit", inPlace := ["internal/bytealg.CountString", "internal/bytealg.IndexByteString", "internal/bytealg.IndexString", "internal/abi.NoEscape"], unfollowed := true, recurses := true, named := ["unicode/utf8.first", "unicode/utf8.acceptRanges", "internal/bytealg.MaxLen", "barrow/api.ErrArg", "barrow/api.ErrText", "barrow/api.ErrTwice", "barrow/api.ErrRange", "barrow/api.ErrFull", "barrow/api.ErrFrozen", "barrow/api.ErrForm", "barrow/api.ErrShort", "barrow/api.ErrOrder", "barrow/api.ErrEpoch", "barrow/api.ErrBusy", "barrow/api.ErrNone", "barrow/api.ErrRoom", "barrow/api.ErrOther"], plainKeys := false, apart := false, laid := [("unicode/utf8.acceptRanges", laid_unicode_utf8_acceptRanges), ("barrow/api.ErrArg", laid_barrow_api_ErrArg), ("barrow/api.ErrRange", laid_barrow_api_ErrRange), ("barrow/api.ErrText", laid_barrow_api_ErrText), ("barrow/api.ErrFull", laid_barrow_api_ErrFull), ("barrow/api.ErrFrozen", laid_barrow_api_ErrFrozen), ("barrow/api.ErrForm", laid_barrow_api_ErrForm), ("barrow/api.ErrShort", laid_barrow_api_ErrShort), ("barrow/api.ErrOrder", laid_barrow_api_ErrOrder), ("barrow/api.ErrTwice", laid_barrow_api_ErrTwice), ("barrow/api.ErrEpoch", laid_barrow_api_ErrEpoch), ("barrow/api.ErrBusy", laid_barrow_api_ErrBusy), ("barrow/api.ErrNone", laid_barrow_api_ErrNone), ("barrow/api.ErrRoom", laid_barrow_api_ErrRoom), ("barrow/api.ErrOther", laid_barrow_api_ErrOther), ("unicode/utf8.first", laid_unicode_utf8_first)] }
def LinesSplitSaid : Prop := linesSplitRow.holds Tryd.pinned (OpenSpec.ofChange linesSplitSpec)

/-- ITS FALSE NEIGHBOUR: 'it returns false'. Refute it at one input. -/
def linesSplitWrong : ChangeSpec := { name := "linesSplit", fn := fun _ => fun
  | [d] => { results := [.lit (.bool false)], args := [d] }
  | _ => none }
def LinesSplitWrongFalsely : Prop := linesSplitRow.holds Tryd.pinned (OpenSpec.ofChange linesSplitWrong)

/- THE SECOND FORM. 'bulk': how many values and letters a reading holds, each counted each time it is reached (what is shared counts as often as it is met; a slice's spare places count too). A statement '..UptoSaid' is the law's where the arguments, and the package variables that the reading takes, are together of bulk at most 1048576: NARROWER than '..Said'. Prove '..Said' where nothing that the law and all that it calls make is longer than what came in: it says more and counts as full. Else prove '..UptoSaid'. A law counts once. -/
mutual
def uptoBulk {H : Type} : DataW H → Nat
  | .lit (.string bytes) => bytes.length + 1
  | .lit _ => 1
  | .nil => 1
  | .ptr d => uptoBulk d + 1
  | .slice elems spare => uptoBulkAll elems + uptoBulkAll spare + 1
  | .agg parts => uptoBulkAll parts + 1
  | .iface _ d => uptoBulk d + 1
  | .map entries => uptoBulkEntries entries + 1
  | .held _ => 1
def uptoBulkAll {H : Type} : List (DataW H) → Nat
  | [] => 0
  | d :: r => uptoBulk d + uptoBulkAll r
def uptoBulkEntries {H : Type} : List (Lit × DataW H) → Nat
  | [] => 0
  | x :: r => uptoBulkEntry x + uptoBulkEntries r
def uptoBulkEntry {H : Type} : Lit × DataW H → Nat
  | (.string bytes, d) => bytes.length + uptoBulk d + 1
  | (_, d) => uptoBulk d + 1
 end
def uptoSmall : (H : Type) → List (DataW H) → Bool := fun _ ds => decide (uptoBulkAll ds ≤ 1048576)
def OpenSpec.upto (s : _root_.Go.ChangeSpec) : _root_.Go.OpenSpec := { _root_.Go.OpenSpec.ofChange s with cond := some uptoSmall }

/-- 'barrowlaw05.ModelPurge', WHERE WHAT IT READS IS OF BULK AT MOST 1048576: true; the input reads as it did. -/
def modelPurgeUptoRow : OpenClaim := { program := "ytfihjajllfihjaadoor", sum := "7c45f73e287f46de52689e4577765eb497bb2b6c99d5c6e8ac0496b87363b321", func := "barrow/barrowlaw05.ModelPurge", spec := "modelPurge", inPlace := ["internal/abi.NoEscape"], unfollowed := true, recurses := true, named := ["barrow/api.ErrArg", "barrow/api.ErrText", "barrow/api.ErrTwice", "barrow/api.ErrRange", "barrow/api.ErrFull", "barrow/api.ErrFrozen", "barrow/api.ErrForm", "barrow/api.ErrShort", "barrow/api.ErrOrder", "barrow/api.ErrEpoch", "barrow/api.ErrBusy", "barrow/api.ErrNone", "barrow/api.ErrRoom", "barrow/api.ErrOther"], plainKeys := false, apart := false, laid := [("barrow/api.ErrArg", laid_barrow_api_ErrArg), ("barrow/api.ErrRange", laid_barrow_api_ErrRange), ("barrow/api.ErrText", laid_barrow_api_ErrText), ("barrow/api.ErrFull", laid_barrow_api_ErrFull), ("barrow/api.ErrFrozen", laid_barrow_api_ErrFrozen), ("barrow/api.ErrForm", laid_barrow_api_ErrForm), ("barrow/api.ErrShort", laid_barrow_api_ErrShort), ("barrow/api.ErrOrder", laid_barrow_api_ErrOrder), ("barrow/api.ErrTwice", laid_barrow_api_ErrTwice), ("barrow/api.ErrEpoch", laid_barrow_api_ErrEpoch), ("barrow/api.ErrBusy", laid_barrow_api_ErrBusy), ("barrow/api.ErrNone", laid_barrow_api_ErrNone), ("barrow/api.ErrRoom", laid_barrow_api_ErrRoom), ("barrow/api.ErrOther", laid_barrow_api_ErrOther)], narrowed := true }
def ModelPurgeUptoSaid : Prop := modelPurgeUptoRow.holds Tryd.pinned (OpenSpec.upto modelPurgeSpec)

/-- 'barrowlaw05.ModelAll', WHERE WHAT IT READS IS OF BULK AT MOST 1048576: true; the input reads as it did. -/
def modelAllUptoRow : OpenClaim := { program := "ytfihjajllfihjaadoor", sum := "7c45f73e287f46de52689e4577765eb497bb2b6c99d5c6e8ac0496b87363b321", func := "barrow/barrowlaw05.ModelAll", spec := "modelAll", inPlace := ["internal/abi.NoEscape"], unfollowed := true, recurses := true, named := ["barrow/api.ErrArg", "barrow/api.ErrText", "barrow/api.ErrTwice", "barrow/api.ErrRange", "barrow/api.ErrFull", "barrow/api.ErrFrozen", "barrow/api.ErrForm", "barrow/api.ErrShort", "barrow/api.ErrOrder", "barrow/api.ErrEpoch", "barrow/api.ErrBusy", "barrow/api.ErrNone", "barrow/api.ErrRoom", "barrow/api.ErrOther"], plainKeys := false, apart := false, laid := [("barrow/api.ErrArg", laid_barrow_api_ErrArg), ("barrow/api.ErrRange", laid_barrow_api_ErrRange), ("barrow/api.ErrText", laid_barrow_api_ErrText), ("barrow/api.ErrFull", laid_barrow_api_ErrFull), ("barrow/api.ErrFrozen", laid_barrow_api_ErrFrozen), ("barrow/api.ErrForm", laid_barrow_api_ErrForm), ("barrow/api.ErrShort", laid_barrow_api_ErrShort), ("barrow/api.ErrOrder", laid_barrow_api_ErrOrder), ("barrow/api.ErrTwice", laid_barrow_api_ErrTwice), ("barrow/api.ErrEpoch", laid_barrow_api_ErrEpoch), ("barrow/api.ErrBusy", laid_barrow_api_ErrBusy), ("barrow/api.ErrNone", laid_barrow_api_ErrNone), ("barrow/api.ErrRoom", laid_barrow_api_ErrRoom), ("barrow/api.ErrOther", laid_barrow_api_ErrOther)], narrowed := true }
def ModelAllUptoSaid : Prop := modelAllUptoRow.holds Tryd.pinned (OpenSpec.upto modelAllSpec)

/-- 'barrowlaw05.ModelBack', WHERE WHAT IT READS IS OF BULK AT MOST 1048576: true; the input reads as it did. -/
def modelBackUptoRow : OpenClaim := { program := "ytfihjajllfihjaadoor", sum := "7c45f73e287f46de52689e4577765eb497bb2b6c99d5c6e8ac0496b87363b321", func := "barrow/barrowlaw05.ModelBack", spec := "modelBack", inPlace := ["internal/abi.NoEscape"], unfollowed := true, recurses := true, named := ["barrow/api.ErrArg", "barrow/api.ErrText", "barrow/api.ErrTwice", "barrow/api.ErrRange", "barrow/api.ErrFull", "barrow/api.ErrFrozen", "barrow/api.ErrForm", "barrow/api.ErrShort", "barrow/api.ErrOrder", "barrow/api.ErrEpoch", "barrow/api.ErrBusy", "barrow/api.ErrNone", "barrow/api.ErrRoom", "barrow/api.ErrOther"], plainKeys := false, apart := false, laid := [("barrow/api.ErrArg", laid_barrow_api_ErrArg), ("barrow/api.ErrRange", laid_barrow_api_ErrRange), ("barrow/api.ErrText", laid_barrow_api_ErrText), ("barrow/api.ErrFull", laid_barrow_api_ErrFull), ("barrow/api.ErrFrozen", laid_barrow_api_ErrFrozen), ("barrow/api.ErrForm", laid_barrow_api_ErrForm), ("barrow/api.ErrShort", laid_barrow_api_ErrShort), ("barrow/api.ErrOrder", laid_barrow_api_ErrOrder), ("barrow/api.ErrTwice", laid_barrow_api_ErrTwice), ("barrow/api.ErrEpoch", laid_barrow_api_ErrEpoch), ("barrow/api.ErrBusy", laid_barrow_api_ErrBusy), ("barrow/api.ErrNone", laid_barrow_api_ErrNone), ("barrow/api.ErrRoom", laid_barrow_api_ErrRoom), ("barrow/api.ErrOther", laid_barrow_api_ErrOther)], narrowed := true }
def ModelBackUptoSaid : Prop := modelBackUptoRow.holds Tryd.pinned (OpenSpec.upto modelBackSpec)

/-- 'barrowlaw13.AnchorBack', WHERE WHAT IT READS IS OF BULK AT MOST 1048576: true; the input reads as it did. -/
def anchorBackUptoRow : OpenClaim := { program := "ytfihjajllfihjaadoor", sum := "7c45f73e287f46de52689e4577765eb497bb2b6c99d5c6e8ac0496b87363b321", func := "barrow/barrowlaw13.AnchorBack", spec := "anchorBack", unfollowed := true, recurses := true, named := ["barrow/api.ErrArg", "barrow/api.ErrText", "barrow/api.ErrTwice", "barrow/api.ErrRange", "barrow/api.ErrFull", "barrow/api.ErrFrozen", "barrow/api.ErrForm", "barrow/api.ErrShort", "barrow/api.ErrOrder", "barrow/api.ErrEpoch", "barrow/api.ErrBusy", "barrow/api.ErrNone", "barrow/api.ErrRoom", "barrow/api.ErrOther"], plainKeys := false, apart := false, laid := [("barrow/api.ErrArg", laid_barrow_api_ErrArg), ("barrow/api.ErrRange", laid_barrow_api_ErrRange), ("barrow/api.ErrText", laid_barrow_api_ErrText), ("barrow/api.ErrFull", laid_barrow_api_ErrFull), ("barrow/api.ErrFrozen", laid_barrow_api_ErrFrozen), ("barrow/api.ErrForm", laid_barrow_api_ErrForm), ("barrow/api.ErrShort", laid_barrow_api_ErrShort), ("barrow/api.ErrOrder", laid_barrow_api_ErrOrder), ("barrow/api.ErrTwice", laid_barrow_api_ErrTwice), ("barrow/api.ErrEpoch", laid_barrow_api_ErrEpoch), ("barrow/api.ErrBusy", laid_barrow_api_ErrBusy), ("barrow/api.ErrNone", laid_barrow_api_ErrNone), ("barrow/api.ErrRoom", laid_barrow_api_ErrRoom), ("barrow/api.ErrOther", laid_barrow_api_ErrOther)], narrowed := true }
def AnchorBackUptoSaid : Prop := anchorBackUptoRow.holds Tryd.pinned (OpenSpec.upto anchorBackSpec)

/-- 'barrowlaw05.ModelApart', WHERE WHAT IT READS IS OF BULK AT MOST 1048576: true; the input reads as it did. -/
def modelApartUptoRow : OpenClaim := { program := "ytfihjajllfihjaadoor", sum := "7c45f73e287f46de52689e4577765eb497bb2b6c99d5c6e8ac0496b87363b321", func := "barrow/barrowlaw05.ModelApart", spec := "modelApart", inPlace := ["internal/abi.NoEscape"], unfollowed := true, recurses := true, named := ["barrow/api.ErrArg", "barrow/api.ErrText", "barrow/api.ErrTwice", "barrow/api.ErrRange", "barrow/api.ErrFull", "barrow/api.ErrFrozen", "barrow/api.ErrForm", "barrow/api.ErrShort", "barrow/api.ErrOrder", "barrow/api.ErrEpoch", "barrow/api.ErrBusy", "barrow/api.ErrNone", "barrow/api.ErrRoom", "barrow/api.ErrOther"], plainKeys := false, apart := false, laid := [("barrow/api.ErrArg", laid_barrow_api_ErrArg), ("barrow/api.ErrRange", laid_barrow_api_ErrRange), ("barrow/api.ErrText", laid_barrow_api_ErrText), ("barrow/api.ErrFull", laid_barrow_api_ErrFull), ("barrow/api.ErrFrozen", laid_barrow_api_ErrFrozen), ("barrow/api.ErrForm", laid_barrow_api_ErrForm), ("barrow/api.ErrShort", laid_barrow_api_ErrShort), ("barrow/api.ErrOrder", laid_barrow_api_ErrOrder), ("barrow/api.ErrTwice", laid_barrow_api_ErrTwice), ("barrow/api.ErrEpoch", laid_barrow_api_ErrEpoch), ("barrow/api.ErrBusy", laid_barrow_api_ErrBusy), ("barrow/api.ErrNone", laid_barrow_api_ErrNone), ("barrow/api.ErrRoom", laid_barrow_api_ErrRoom), ("barrow/api.ErrOther", laid_barrow_api_ErrOther)], narrowed := true }
def ModelApartUptoSaid : Prop := modelApartUptoRow.holds Tryd.pinned (OpenSpec.upto modelApartSpec)

/-- 'barrowlaw13.AnchorExact', WHERE WHAT IT READS IS OF BULK AT MOST 1048576: true; the input reads as it did. -/
def anchorExactUptoRow : OpenClaim := { program := "ytfihjajllfihjaadoor", sum := "7c45f73e287f46de52689e4577765eb497bb2b6c99d5c6e8ac0496b87363b321", func := "barrow/barrowlaw13.AnchorExact", spec := "anchorExact", unfollowed := true, recurses := true, named := ["barrow/api.ErrArg", "barrow/api.ErrText", "barrow/api.ErrTwice", "barrow/api.ErrRange", "barrow/api.ErrFull", "barrow/api.ErrFrozen", "barrow/api.ErrForm", "barrow/api.ErrShort", "barrow/api.ErrOrder", "barrow/api.ErrEpoch", "barrow/api.ErrBusy", "barrow/api.ErrNone", "barrow/api.ErrRoom", "barrow/api.ErrOther"], plainKeys := false, apart := false, laid := [("barrow/api.ErrArg", laid_barrow_api_ErrArg), ("barrow/api.ErrRange", laid_barrow_api_ErrRange), ("barrow/api.ErrText", laid_barrow_api_ErrText), ("barrow/api.ErrFull", laid_barrow_api_ErrFull), ("barrow/api.ErrFrozen", laid_barrow_api_ErrFrozen), ("barrow/api.ErrForm", laid_barrow_api_ErrForm), ("barrow/api.ErrShort", laid_barrow_api_ErrShort), ("barrow/api.ErrOrder", laid_barrow_api_ErrOrder), ("barrow/api.ErrTwice", laid_barrow_api_ErrTwice), ("barrow/api.ErrEpoch", laid_barrow_api_ErrEpoch), ("barrow/api.ErrBusy", laid_barrow_api_ErrBusy), ("barrow/api.ErrNone", laid_barrow_api_ErrNone), ("barrow/api.ErrRoom", laid_barrow_api_ErrRoom), ("barrow/api.ErrOther", laid_barrow_api_ErrOther)], narrowed := true }
def AnchorExactUptoSaid : Prop := anchorExactUptoRow.holds Tryd.pinned (OpenSpec.upto anchorExactSpec)

/-- 'barrowlaw13.AnchorStays', WHERE WHAT IT READS IS OF BULK AT MOST 1048576: true; the input reads as it did. -/
def anchorStaysUptoRow : OpenClaim := { program := "ytfihjajllfihjaadoor", sum := "7c45f73e287f46de52689e4577765eb497bb2b6c99d5c6e8ac0496b87363b321", func := "barrow/barrowlaw13.AnchorStays", spec := "anchorStays", unfollowed := true, recurses := true, named := ["barrow/api.ErrArg", "barrow/api.ErrText", "barrow/api.ErrTwice", "barrow/api.ErrRange", "barrow/api.ErrFull", "barrow/api.ErrFrozen", "barrow/api.ErrForm", "barrow/api.ErrShort", "barrow/api.ErrOrder", "barrow/api.ErrEpoch", "barrow/api.ErrBusy", "barrow/api.ErrNone", "barrow/api.ErrRoom", "barrow/api.ErrOther"], plainKeys := false, apart := false, laid := [("barrow/api.ErrArg", laid_barrow_api_ErrArg), ("barrow/api.ErrRange", laid_barrow_api_ErrRange), ("barrow/api.ErrText", laid_barrow_api_ErrText), ("barrow/api.ErrFull", laid_barrow_api_ErrFull), ("barrow/api.ErrFrozen", laid_barrow_api_ErrFrozen), ("barrow/api.ErrForm", laid_barrow_api_ErrForm), ("barrow/api.ErrShort", laid_barrow_api_ErrShort), ("barrow/api.ErrOrder", laid_barrow_api_ErrOrder), ("barrow/api.ErrTwice", laid_barrow_api_ErrTwice), ("barrow/api.ErrEpoch", laid_barrow_api_ErrEpoch), ("barrow/api.ErrBusy", laid_barrow_api_ErrBusy), ("barrow/api.ErrNone", laid_barrow_api_ErrNone), ("barrow/api.ErrRoom", laid_barrow_api_ErrRoom), ("barrow/api.ErrOther", laid_barrow_api_ErrOther)], narrowed := true }
def AnchorStaysUptoSaid : Prop := anchorStaysUptoRow.holds Tryd.pinned (OpenSpec.upto anchorStaysSpec)

/-- 'barrowlaw13.AnchorPurge', WHERE WHAT IT READS IS OF BULK AT MOST 1048576: true; the input reads as it did. -/
def anchorPurgeUptoRow : OpenClaim := { program := "ytfihjajllfihjaadoor", sum := "7c45f73e287f46de52689e4577765eb497bb2b6c99d5c6e8ac0496b87363b321", func := "barrow/barrowlaw13.AnchorPurge", spec := "anchorPurge", unfollowed := true, recurses := true, named := ["barrow/api.ErrArg", "barrow/api.ErrText", "barrow/api.ErrTwice", "barrow/api.ErrRange", "barrow/api.ErrFull", "barrow/api.ErrFrozen", "barrow/api.ErrForm", "barrow/api.ErrShort", "barrow/api.ErrOrder", "barrow/api.ErrEpoch", "barrow/api.ErrBusy", "barrow/api.ErrNone", "barrow/api.ErrRoom", "barrow/api.ErrOther"], plainKeys := false, apart := false, laid := [("barrow/api.ErrArg", laid_barrow_api_ErrArg), ("barrow/api.ErrRange", laid_barrow_api_ErrRange), ("barrow/api.ErrText", laid_barrow_api_ErrText), ("barrow/api.ErrFull", laid_barrow_api_ErrFull), ("barrow/api.ErrFrozen", laid_barrow_api_ErrFrozen), ("barrow/api.ErrForm", laid_barrow_api_ErrForm), ("barrow/api.ErrShort", laid_barrow_api_ErrShort), ("barrow/api.ErrOrder", laid_barrow_api_ErrOrder), ("barrow/api.ErrTwice", laid_barrow_api_ErrTwice), ("barrow/api.ErrEpoch", laid_barrow_api_ErrEpoch), ("barrow/api.ErrBusy", laid_barrow_api_ErrBusy), ("barrow/api.ErrNone", laid_barrow_api_ErrNone), ("barrow/api.ErrRoom", laid_barrow_api_ErrRoom), ("barrow/api.ErrOther", laid_barrow_api_ErrOther)], narrowed := true }
def AnchorPurgeUptoSaid : Prop := anchorPurgeUptoRow.holds Tryd.pinned (OpenSpec.upto anchorPurgeSpec)

/-- 'barrowlaw06.LinesExact', WHERE WHAT IT READS IS OF BULK AT MOST 1048576: true; the input reads as it did. -/
def linesExactUptoRow : OpenClaim := { program := "ytfihjajllfihjaadoor", sum := "7c45f73e287f46de52689e4577765eb497bb2b6c99d5c6e8ac0496b87363b321", func := "barrow/barrowlaw06.LinesExact", spec := "linesExact", inPlace := ["internal/abi.NoEscape"], unfollowed := true, recurses := true, named := ["barrow/api.ErrArg", "barrow/api.ErrText", "barrow/api.ErrTwice", "barrow/api.ErrRange", "barrow/api.ErrFull", "barrow/api.ErrFrozen", "barrow/api.ErrForm", "barrow/api.ErrShort", "barrow/api.ErrOrder", "barrow/api.ErrEpoch", "barrow/api.ErrBusy", "barrow/api.ErrNone", "barrow/api.ErrRoom", "barrow/api.ErrOther"], plainKeys := false, apart := false, laid := [("barrow/api.ErrArg", laid_barrow_api_ErrArg), ("barrow/api.ErrRange", laid_barrow_api_ErrRange), ("barrow/api.ErrText", laid_barrow_api_ErrText), ("barrow/api.ErrFull", laid_barrow_api_ErrFull), ("barrow/api.ErrFrozen", laid_barrow_api_ErrFrozen), ("barrow/api.ErrForm", laid_barrow_api_ErrForm), ("barrow/api.ErrShort", laid_barrow_api_ErrShort), ("barrow/api.ErrOrder", laid_barrow_api_ErrOrder), ("barrow/api.ErrTwice", laid_barrow_api_ErrTwice), ("barrow/api.ErrEpoch", laid_barrow_api_ErrEpoch), ("barrow/api.ErrBusy", laid_barrow_api_ErrBusy), ("barrow/api.ErrNone", laid_barrow_api_ErrNone), ("barrow/api.ErrRoom", laid_barrow_api_ErrRoom), ("barrow/api.ErrOther", laid_barrow_api_ErrOther)], narrowed := true }
def LinesExactUptoSaid : Prop := linesExactUptoRow.holds Tryd.pinned (OpenSpec.upto linesExactSpec)

/-- 'barrowlaw06.LinesPlaces', WHERE WHAT IT READS IS OF BULK AT MOST 1048576: true; the input reads as it did. -/
def linesPlacesUptoRow : OpenClaim := { program := "ytfihjajllfihjaadoor", sum := "7c45f73e287f46de52689e4577765eb497bb2b6c99d5c6e8ac0496b87363b321", func := "barrow/barrowlaw06.LinesPlaces", spec := "linesPlaces", inPlace := ["internal/abi.NoEscape"], unfollowed := true, recurses := true, named := ["barrow/api.ErrArg", "barrow/api.ErrText", "barrow/api.ErrTwice", "barrow/api.ErrRange", "barrow/api.ErrFull", "barrow/api.ErrFrozen", "barrow/api.ErrForm", "barrow/api.ErrShort", "barrow/api.ErrOrder", "barrow/api.ErrEpoch", "barrow/api.ErrBusy", "barrow/api.ErrNone", "barrow/api.ErrRoom", "barrow/api.ErrOther"], plainKeys := false, apart := false, laid := [("barrow/api.ErrArg", laid_barrow_api_ErrArg), ("barrow/api.ErrRange", laid_barrow_api_ErrRange), ("barrow/api.ErrText", laid_barrow_api_ErrText), ("barrow/api.ErrFull", laid_barrow_api_ErrFull), ("barrow/api.ErrFrozen", laid_barrow_api_ErrFrozen), ("barrow/api.ErrForm", laid_barrow_api_ErrForm), ("barrow/api.ErrShort", laid_barrow_api_ErrShort), ("barrow/api.ErrOrder", laid_barrow_api_ErrOrder), ("barrow/api.ErrTwice", laid_barrow_api_ErrTwice), ("barrow/api.ErrEpoch", laid_barrow_api_ErrEpoch), ("barrow/api.ErrBusy", laid_barrow_api_ErrBusy), ("barrow/api.ErrNone", laid_barrow_api_ErrNone), ("barrow/api.ErrRoom", laid_barrow_api_ErrRoom), ("barrow/api.ErrOther", laid_barrow_api_ErrOther)], narrowed := true }
def LinesPlacesUptoSaid : Prop := linesPlacesUptoRow.holds Tryd.pinned (OpenSpec.upto linesPlacesSpec)

/-- 'barrowlaw06.LinesWords', WHERE WHAT IT READS IS OF BULK AT MOST 1048576: true; the input reads as it did. -/
def linesWordsUptoRow : OpenClaim := { program := "ytfihjajllfihjaadoor", sum := "7c45f73e287f46de52689e4577765eb497bb2b6c99d5c6e8ac0496b87363b321", func := "barrow/barrowlaw06.LinesWords", spec := "linesWords", inPlace := ["internal/abi.NoEscape"], unfollowed := true, recurses := true, named := ["barrow/api.ErrArg", "barrow/api.ErrText", "barrow/api.ErrTwice", "barrow/api.ErrRange", "barrow/api.ErrFull", "barrow/api.ErrFrozen", "barrow/api.ErrForm", "barrow/api.ErrShort", "barrow/api.ErrOrder", "barrow/api.ErrEpoch", "barrow/api.ErrBusy", "barrow/api.ErrNone", "barrow/api.ErrRoom", "barrow/api.ErrOther"], plainKeys := false, apart := false, laid := [("barrow/api.ErrArg", laid_barrow_api_ErrArg), ("barrow/api.ErrRange", laid_barrow_api_ErrRange), ("barrow/api.ErrText", laid_barrow_api_ErrText), ("barrow/api.ErrFull", laid_barrow_api_ErrFull), ("barrow/api.ErrFrozen", laid_barrow_api_ErrFrozen), ("barrow/api.ErrForm", laid_barrow_api_ErrForm), ("barrow/api.ErrShort", laid_barrow_api_ErrShort), ("barrow/api.ErrOrder", laid_barrow_api_ErrOrder), ("barrow/api.ErrTwice", laid_barrow_api_ErrTwice), ("barrow/api.ErrEpoch", laid_barrow_api_ErrEpoch), ("barrow/api.ErrBusy", laid_barrow_api_ErrBusy), ("barrow/api.ErrNone", laid_barrow_api_ErrNone), ("barrow/api.ErrRoom", laid_barrow_api_ErrRoom), ("barrow/api.ErrOther", laid_barrow_api_ErrOther)], narrowed := true }
def LinesWordsUptoSaid : Prop := linesWordsUptoRow.holds Tryd.pinned (OpenSpec.upto linesWordsSpec)

/-- 'barrowlaw13.AnchorPairs', WHERE WHAT IT READS IS OF BULK AT MOST 1048576: true; the input reads as it did. -/
def anchorPairsUptoRow : OpenClaim := { program := "ytfihjajllfihjaadoor", sum := "7c45f73e287f46de52689e4577765eb497bb2b6c99d5c6e8ac0496b87363b321", func := "barrow/barrowlaw13.AnchorPairs", spec := "anchorPairs", unfollowed := true, recurses := true, named := ["barrow/api.ErrArg", "barrow/api.ErrText", "barrow/api.ErrTwice", "barrow/api.ErrRange", "barrow/api.ErrFull", "barrow/api.ErrFrozen", "barrow/api.ErrForm", "barrow/api.ErrShort", "barrow/api.ErrOrder", "barrow/api.ErrEpoch", "barrow/api.ErrBusy", "barrow/api.ErrNone", "barrow/api.ErrRoom", "barrow/api.ErrOther"], plainKeys := false, apart := false, laid := [("barrow/api.ErrArg", laid_barrow_api_ErrArg), ("barrow/api.ErrRange", laid_barrow_api_ErrRange), ("barrow/api.ErrText", laid_barrow_api_ErrText), ("barrow/api.ErrFull", laid_barrow_api_ErrFull), ("barrow/api.ErrFrozen", laid_barrow_api_ErrFrozen), ("barrow/api.ErrForm", laid_barrow_api_ErrForm), ("barrow/api.ErrShort", laid_barrow_api_ErrShort), ("barrow/api.ErrOrder", laid_barrow_api_ErrOrder), ("barrow/api.ErrTwice", laid_barrow_api_ErrTwice), ("barrow/api.ErrEpoch", laid_barrow_api_ErrEpoch), ("barrow/api.ErrBusy", laid_barrow_api_ErrBusy), ("barrow/api.ErrNone", laid_barrow_api_ErrNone), ("barrow/api.ErrRoom", laid_barrow_api_ErrRoom), ("barrow/api.ErrOther", laid_barrow_api_ErrOther)], narrowed := true }
def AnchorPairsUptoSaid : Prop := anchorPairsUptoRow.holds Tryd.pinned (OpenSpec.upto anchorPairsSpec)

/-- 'barrowlaw06.LinesSplit', WHERE WHAT IT READS IS OF BULK AT MOST 1048576: true; the input reads as it did. -/
def linesSplitUptoRow : OpenClaim := { program := "ytfihjajllfihjaadoor", sum := "7c45f73e287f46de52689e4577765eb497bb2b6c99d5c6e8ac0496b87363b321", func := "barrow/barrowlaw06.LinesSplit", spec := "linesSplit", inPlace := ["internal/bytealg.CountString", "internal/bytealg.IndexByteString", "internal/bytealg.IndexString", "internal/abi.NoEscape"], unfollowed := true, recurses := true, named := ["unicode/utf8.first", "unicode/utf8.acceptRanges", "internal/bytealg.MaxLen", "barrow/api.ErrArg", "barrow/api.ErrText", "barrow/api.ErrTwice", "barrow/api.ErrRange", "barrow/api.ErrFull", "barrow/api.ErrFrozen", "barrow/api.ErrForm", "barrow/api.ErrShort", "barrow/api.ErrOrder", "barrow/api.ErrEpoch", "barrow/api.ErrBusy", "barrow/api.ErrNone", "barrow/api.ErrRoom", "barrow/api.ErrOther"], plainKeys := false, apart := false, laid := [("unicode/utf8.acceptRanges", laid_unicode_utf8_acceptRanges), ("barrow/api.ErrArg", laid_barrow_api_ErrArg), ("barrow/api.ErrRange", laid_barrow_api_ErrRange), ("barrow/api.ErrText", laid_barrow_api_ErrText), ("barrow/api.ErrFull", laid_barrow_api_ErrFull), ("barrow/api.ErrFrozen", laid_barrow_api_ErrFrozen), ("barrow/api.ErrForm", laid_barrow_api_ErrForm), ("barrow/api.ErrShort", laid_barrow_api_ErrShort), ("barrow/api.ErrOrder", laid_barrow_api_ErrOrder), ("barrow/api.ErrTwice", laid_barrow_api_ErrTwice), ("barrow/api.ErrEpoch", laid_barrow_api_ErrEpoch), ("barrow/api.ErrBusy", laid_barrow_api_ErrBusy), ("barrow/api.ErrNone", laid_barrow_api_ErrNone), ("barrow/api.ErrRoom", laid_barrow_api_ErrRoom), ("barrow/api.ErrOther", laid_barrow_api_ErrOther), ("unicode/utf8.first", laid_unicode_utf8_first)], narrowed := true }
def LinesSplitUptoSaid : Prop := linesSplitUptoRow.holds Tryd.pinned (OpenSpec.upto linesSplitSpec)

end Rows
end Go.Proofs.YtfihjajllfihjaaDoor
