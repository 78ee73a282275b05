/-
  NARROWER THAN 'FOR EVERY INPUT', by the rows' own cells (each row's printed sentence says how): ConfCounts: laid · TrackGrows: laid · TrackDrops: laid · TrackBorn: laid · TrackPlays: laid · ConfSteps: laid · TrackSafe: laid · RegistryIncs: laid · TrackMembers: laid · ConfMeets: laid · RegistryFences: laid · RegistryPlays: laid.
  DERIVED. THE GIVEN ROWS OF THIS SEAT. 12 by the template 'for every input the law returns true; each argument reads behind the call as it read before'; 0 by the template 'total and deterministic' (their statements: YtkojpimkngmckaaDoorTotals.lean).
  GIVEN WITH THE SEED: the statements are not yours to turn. If you find one false, say at which input.
  Laid BY PROGRAM, IN A SANDBOX (cutbox-rows.mjs): the forced cells as the released guide's own fill.sh prints them over the translation 04a018919b92d4d9… (all of the seat's roots in one cut). By AI agents, Wed Nov 11 2026. No macro, syntax, notation, axiom, sorry.
-/
import Derived.Test.YtkojpimkngmckaaDoorChecked
import GoSem.Claim
import GoSem.ClaimJoined
import GoSem.ClaimMapViews
import Derived.JoinedTies
import Derived.KernelRfl
namespace Go.Proofs.YtkojpimkngmckaaDoor
/- THE CELL 'sum', in the pinned program and in every row, IS THE sha256 OF THE DUMP (.gsa) THAT YtkojpimkngmckaaDoorProg.lean LOADS. Nothing in Lean hashes anything: it is a label: what it is worth is what the hold of that sum in a sandbox is worth. -/
noncomputable def Tryd.pinned : Pinned := { name := "ytkojpimkngmckaadoor", sum := "04a018919b92d4d929ffdac6d734fda7b80a09c0b569a8f20b9591548ae515a1", checked := Tryd.checked }
namespace Rows
def none {H : Type} : Left H := { results := [], args := [] }

/- WHAT THE LISTED PACKAGE-LEVEL VARIABLES READ AS WHEN THE CALL BEGINS. Each datum BY PROGRAM (the guide's laid-datum.mjs) off the statement by which the dump's own 'gosem.cut.vars' lays the variable. In a bare row this is a premise. The card (YtkojpimkngmckaaDoorCards.lean) ties it to the program's text. -/
def laid_sextet_api_ErrShape {H : Type} : DataW H := .iface "*errors.errorString" (.ptr (.agg [.lit (.string [110, 111, 116, 32, 97, 115, 32, 105, 116, 32, 104, 97, 115, 32, 116, 111, 32, 98, 101])]))
def laid_sextet_api_ErrMany {H : Type} : DataW H := .iface "*errors.errorString" (.ptr (.agg [.lit (.string [116, 111, 111, 32, 109, 97, 110, 121])]))
def laid_sextet_api_ErrRange {H : Type} : DataW H := .iface "*errors.errorString" (.ptr (.agg [.lit (.string [97, 32, 110, 117, 109, 98, 101, 114, 32, 111, 117, 116, 32, 111, 102, 32, 105, 116, 115, 32, 114, 97, 110, 103, 101])]))
def laid_sextet_api_ErrNone {H : Type} : DataW H := .iface "*errors.errorString" (.ptr (.agg [.lit (.string [116, 104, 101, 114, 101, 32, 105, 115, 32, 110, 111, 110, 101])]))
def laid_sextet_api_ErrThere {H : Type} : DataW H := .iface "*errors.errorString" (.ptr (.agg [.lit (.string [116, 104, 101, 114, 101, 32, 105, 115, 32, 111, 110, 101])]))
def laid_sextet_api_ErrState {H : Type} : DataW H := .iface "*errors.errorString" (.ptr (.agg [.lit (.string [110, 111, 116, 32, 105, 110, 32, 116, 104, 105, 115, 32, 115, 116, 97, 116, 101])]))
def laid_sextet_api_ErrEnd {H : Type} : DataW H := .iface "*errors.errorString" (.ptr (.agg [.lit (.string [105, 116, 32, 101, 110, 100, 115, 32, 116, 111, 111, 32, 101, 97, 114, 108, 121])]))
def laid_sextet_api_ErrSum {H : Type} : DataW H := .iface "*errors.errorString" (.ptr (.agg [.lit (.string [116, 104, 101, 32, 115, 117, 109, 32, 105, 115, 32, 97, 110, 111, 116, 104, 101, 114, 32, 111, 110, 101])]))
def laid_sextet_api_ErrKind {H : Type} : DataW H := .iface "*errors.errorString" (.ptr (.agg [.lit (.string [110, 111, 32, 115, 117, 99, 104, 32, 107, 105, 110, 100])]))
def laid_sextet_api_ErrFull {H : Type} : DataW H := .iface "*errors.errorString" (.ptr (.agg [.lit (.string [116, 104, 101, 114, 101, 32, 105, 115, 32, 110, 111, 32, 114, 111, 111, 109])]))
def laid_sextet_api_ErrCrash {H : Type} : DataW H := .iface "*errors.errorString" (.ptr (.agg [.lit (.string [105, 116, 32, 105, 115, 32, 100, 111, 119, 110])]))
def laid_sextet_api_ErrConflict {H : Type} : DataW H := .iface "*errors.errorString" (.ptr (.agg [.lit (.string [97, 110, 111, 116, 104, 101, 114, 32, 111, 110, 101, 32, 119, 114, 105, 116, 101, 115, 32, 116, 104, 97, 116])]))
def laid_sextet_api_ErrWaits {H : Type} : DataW H := .iface "*errors.errorString" (.ptr (.agg [.lit (.string [105, 116, 32, 119, 97, 105, 116, 115, 32, 102, 111, 114, 32, 97, 32, 112, 97, 103, 101])]))
def laid_sextet_api_ErrLimit {H : Type} : DataW H := .iface "*errors.errorString" (.ptr (.agg [.lit (.string [116, 111, 111, 32, 102, 97, 114, 32, 97, 104, 101, 97, 100, 32, 111, 102, 32, 119, 104, 97, 116, 32, 105, 115, 32, 100, 117, 114, 97, 98, 108, 101])]))
def laid_sextet_api_ErrFenced {H : Type} : DataW H := .iface "*errors.errorString" (.ptr (.agg [.lit (.string [97, 32, 108, 97, 116, 101, 114, 32, 111, 110, 101, 32, 119, 114, 105, 116, 101, 115])]))
def laid_sextet_api_ErrWord {H : Type} : DataW H := .iface "*errors.errorString" (.ptr (.agg [.lit (.string [110, 111, 32, 115, 117, 99, 104, 32, 119, 111, 114, 100])]))
def laid_sextet_api_ErrNumber {H : Type} : DataW H := .iface "*errors.errorString" (.ptr (.agg [.lit (.string [110, 111, 32, 115, 117, 99, 104, 32, 110, 117, 109, 98, 101, 114])]))

/-- 'sextetlaw7.ConfCounts': WHATEVER THE INPUT: true; the input reads as it did. -/
def confCountsSpec : ChangeSpec := { name := "confCounts", fn := fun _ => fun
  | [d1, d2] => { results := [.lit (.bool true)], args := [d1, d2] }
  | _ => none }
def confCountsRow : OpenClaim := { program := "ytkojpimkngmckaadoor", sum := "04a018919b92d4d929ffdac6d734fda7b80a09c0b569a8f20b9591548ae515a1", func := "sextet/sextetlaw7.ConfCounts", spec := "confCounts", unfollowed := true, recurses := true, named := ["sextet/api.ErrState", "sextet/api.ErrNone", "sextet/api.ErrThere", "sextet/api.ErrRange", "sextet/api.ErrShape", "sextet/api.ErrMany"], apart := false, laid := [("sextet/api.ErrShape", laid_sextet_api_ErrShape), ("sextet/api.ErrMany", laid_sextet_api_ErrMany), ("sextet/api.ErrRange", laid_sextet_api_ErrRange), ("sextet/api.ErrNone", laid_sextet_api_ErrNone), ("sextet/api.ErrThere", laid_sextet_api_ErrThere), ("sextet/api.ErrState", laid_sextet_api_ErrState)] }
def ConfCountsSaid : Prop := confCountsRow.holds Tryd.pinned (OpenSpec.ofChange confCountsSpec)

/-- ITS FALSE NEIGHBOUR: 'it returns false'. Refute it at one input. -/
def confCountsWrong : ChangeSpec := { name := "confCounts", fn := fun _ => fun
  | [d1, d2] => { results := [.lit (.bool false)], args := [d1, d2] }
  | _ => none }
def ConfCountsWrongFalsely : Prop := confCountsRow.holds Tryd.pinned (OpenSpec.ofChange confCountsWrong)

/-- 'sextetlaw14.TrackGrows': WHATEVER THE INPUT: true; the input reads as it did. -/
def trackGrowsSpec : ChangeSpec := { name := "trackGrows", fn := fun _ => fun
  | [d] => { results := [.lit (.bool true)], args := [d] }
  | _ => none }
def trackGrowsRow : OpenClaim := { program := "ytkojpimkngmckaadoor", sum := "04a018919b92d4d929ffdac6d734fda7b80a09c0b569a8f20b9591548ae515a1", func := "sextet/sextetlaw14.TrackGrows", spec := "trackGrows", unfollowed := true, recurses := true, named := ["sextet/api.ErrRange", "sextet/api.ErrShape", "sextet/api.ErrMany"], apart := false, laid := [("sextet/api.ErrShape", laid_sextet_api_ErrShape), ("sextet/api.ErrMany", laid_sextet_api_ErrMany), ("sextet/api.ErrRange", laid_sextet_api_ErrRange)] }
def TrackGrowsSaid : Prop := trackGrowsRow.holds Tryd.pinned (OpenSpec.ofChange trackGrowsSpec)

/-- ITS FALSE NEIGHBOUR: 'it returns false'. Refute it at one input. -/
def trackGrowsWrong : ChangeSpec := { name := "trackGrows", fn := fun _ => fun
  | [d] => { results := [.lit (.bool false)], args := [d] }
  | _ => none }
def TrackGrowsWrongFalsely : Prop := trackGrowsRow.holds Tryd.pinned (OpenSpec.ofChange trackGrowsWrong)

/-- 'sextetlaw14.TrackDrops': WHATEVER THE INPUT: true; the input reads as it did. -/
def trackDropsSpec : ChangeSpec := { name := "trackDrops", fn := fun _ => fun
  | [d1, d2] => { results := [.lit (.bool true)], args := [d1, d2] }
  | _ => none }
def trackDropsRow : OpenClaim := { program := "ytkojpimkngmckaadoor", sum := "04a018919b92d4d929ffdac6d734fda7b80a09c0b569a8f20b9591548ae515a1", func := "sextet/sextetlaw14.TrackDrops", spec := "trackDrops", unfollowed := true, recurses := true, named := ["sextet/api.ErrRange", "sextet/api.ErrShape", "sextet/api.ErrMany"], apart := false, laid := [("sextet/api.ErrShape", laid_sextet_api_ErrShape), ("sextet/api.ErrMany", laid_sextet_api_ErrMany), ("sextet/api.ErrRange", laid_sextet_api_ErrRange)] }
def TrackDropsSaid : Prop := trackDropsRow.holds Tryd.pinned (OpenSpec.ofChange trackDropsSpec)

/-- ITS FALSE NEIGHBOUR: 'it returns false'. Refute it at one input. -/
def trackDropsWrong : ChangeSpec := { name := "trackDrops", fn := fun _ => fun
  | [d1, d2] => { results := [.lit (.bool false)], args := [d1, d2] }
  | _ => none }
def TrackDropsWrongFalsely : Prop := trackDropsRow.holds Tryd.pinned (OpenSpec.ofChange trackDropsWrong)

/-- 'sextetlaw14.TrackBorn': WHATEVER THE INPUT: true; the input reads as it did. -/
def trackBornSpec : ChangeSpec := { name := "trackBorn", fn := fun _ => fun
  | [d1, d2, d3] => { results := [.lit (.bool true)], args := [d1, d2, d3] }
  | _ => none }
def trackBornRow : OpenClaim := { program := "ytkojpimkngmckaadoor", sum := "04a018919b92d4d929ffdac6d734fda7b80a09c0b569a8f20b9591548ae515a1", func := "sextet/sextetlaw14.TrackBorn", spec := "trackBorn", unfollowed := true, recurses := true, named := ["sextet/api.ErrRange", "sextet/api.ErrShape", "sextet/api.ErrMany"], apart := false, laid := [("sextet/api.ErrShape", laid_sextet_api_ErrShape), ("sextet/api.ErrMany", laid_sextet_api_ErrMany), ("sextet/api.ErrRange", laid_sextet_api_ErrRange)] }
def TrackBornSaid : Prop := trackBornRow.holds Tryd.pinned (OpenSpec.ofChange trackBornSpec)

/-- ITS FALSE NEIGHBOUR: 'it returns false'. Refute it at one input. -/
def trackBornWrong : ChangeSpec := { name := "trackBorn", fn := fun _ => fun
  | [d1, d2, d3] => { results := [.lit (.bool false)], args := [d1, d2, d3] }
  | _ => none }
def TrackBornWrongFalsely : Prop := trackBornRow.holds Tryd.pinned (OpenSpec.ofChange trackBornWrong)

/-- 'sextetlaw14.TrackPlays': WHATEVER THE INPUT: true; the input reads as it did. -/
def trackPlaysSpec : ChangeSpec := { name := "trackPlays", fn := fun _ => fun
  | [d1, d2] => { results := [.lit (.bool true)], args := [d1, d2] }
  | _ => none }
def trackPlaysRow : OpenClaim := { program := "ytkojpimkngmckaadoor", sum := "04a018919b92d4d929ffdac6d734fda7b80a09c0b569a8f20b9591548ae515a1", func := "sextet/sextetlaw14.TrackPlays", spec := "trackPlays", unfollowed := true, recurses := true, named := ["sextet/api.ErrRange", "sextet/api.ErrShape", "sextet/api.ErrMany", "sextet/api.ErrEnd", "sextet/api.ErrSum", "sextet/api.ErrKind", "sextet/api.ErrNone", "sextet/api.ErrThere", "sextet/api.ErrFull", "sextet/api.ErrCrash", "sextet/api.ErrState", "sextet/api.ErrConflict", "sextet/api.ErrWaits", "sextet/api.ErrLimit", "sextet/api.ErrFenced", "sextet/api.ErrWord", "sextet/api.ErrNumber"], apart := false, laid := [("sextet/api.ErrEnd", laid_sextet_api_ErrEnd), ("sextet/api.ErrSum", laid_sextet_api_ErrSum), ("sextet/api.ErrShape", laid_sextet_api_ErrShape), ("sextet/api.ErrMany", laid_sextet_api_ErrMany), ("sextet/api.ErrRange", laid_sextet_api_ErrRange), ("sextet/api.ErrKind", laid_sextet_api_ErrKind), ("sextet/api.ErrNone", laid_sextet_api_ErrNone), ("sextet/api.ErrThere", laid_sextet_api_ErrThere), ("sextet/api.ErrFull", laid_sextet_api_ErrFull), ("sextet/api.ErrCrash", laid_sextet_api_ErrCrash), ("sextet/api.ErrState", laid_sextet_api_ErrState), ("sextet/api.ErrConflict", laid_sextet_api_ErrConflict), ("sextet/api.ErrWaits", laid_sextet_api_ErrWaits), ("sextet/api.ErrLimit", laid_sextet_api_ErrLimit), ("sextet/api.ErrFenced", laid_sextet_api_ErrFenced), ("sextet/api.ErrWord", laid_sextet_api_ErrWord), ("sextet/api.ErrNumber", laid_sextet_api_ErrNumber)] }
def TrackPlaysSaid : Prop := trackPlaysRow.holds Tryd.pinned (OpenSpec.ofChange trackPlaysSpec)

/-- ITS FALSE NEIGHBOUR: 'it returns false'. Refute it at one input. -/
def trackPlaysWrong : ChangeSpec := { name := "trackPlays", fn := fun _ => fun
  | [d1, d2] => { results := [.lit (.bool false)], args := [d1, d2] }
  | _ => none }
def TrackPlaysWrongFalsely : Prop := trackPlaysRow.holds Tryd.pinned (OpenSpec.ofChange trackPlaysWrong)

/-- 'sextetlaw7.ConfSteps': WHATEVER THE INPUT: true; the input reads as it did. -/
def confStepsSpec : ChangeSpec := { name := "confSteps", fn := fun _ => fun
  | [d] => { results := [.lit (.bool true)], args := [d] }
  | _ => none }
def confStepsRow : OpenClaim := { program := "ytkojpimkngmckaadoor", sum := "04a018919b92d4d929ffdac6d734fda7b80a09c0b569a8f20b9591548ae515a1", func := "sextet/sextetlaw7.ConfSteps", spec := "confSteps", unfollowed := true, recurses := true, named := ["sextet/api.ErrState", "sextet/api.ErrNone", "sextet/api.ErrThere", "sextet/api.ErrRange", "sextet/api.ErrShape", "sextet/api.ErrMany"], apart := false, laid := [("sextet/api.ErrShape", laid_sextet_api_ErrShape), ("sextet/api.ErrMany", laid_sextet_api_ErrMany), ("sextet/api.ErrRange", laid_sextet_api_ErrRange), ("sextet/api.ErrNone", laid_sextet_api_ErrNone), ("sextet/api.ErrThere", laid_sextet_api_ErrThere), ("sextet/api.ErrState", laid_sextet_api_ErrState)] }
def ConfStepsSaid : Prop := confStepsRow.holds Tryd.pinned (OpenSpec.ofChange confStepsSpec)

/-- ITS FALSE NEIGHBOUR: 'it returns false'. Refute it at one input. -/
def confStepsWrong : ChangeSpec := { name := "confSteps", fn := fun _ => fun
  | [d] => { results := [.lit (.bool false)], args := [d] }
  | _ => none }
def ConfStepsWrongFalsely : Prop := confStepsRow.holds Tryd.pinned (OpenSpec.ofChange confStepsWrong)

/-- 'sextetlaw14.TrackSafe': WHATEVER THE INPUT: true; the input reads as it did. -/
def trackSafeSpec : ChangeSpec := { name := "trackSafe", fn := fun _ => fun
  | [d1, d2, d3] => { results := [.lit (.bool true)], args := [d1, d2, d3] }
  | _ => none }
def trackSafeRow : OpenClaim := { program := "ytkojpimkngmckaadoor", sum := "04a018919b92d4d929ffdac6d734fda7b80a09c0b569a8f20b9591548ae515a1", func := "sextet/sextetlaw14.TrackSafe", spec := "trackSafe", unfollowed := true, recurses := true, named := ["sextet/api.ErrRange", "sextet/api.ErrShape", "sextet/api.ErrMany", "sextet/api.ErrState", "sextet/api.ErrNone", "sextet/api.ErrThere"], apart := false, laid := [("sextet/api.ErrShape", laid_sextet_api_ErrShape), ("sextet/api.ErrMany", laid_sextet_api_ErrMany), ("sextet/api.ErrRange", laid_sextet_api_ErrRange), ("sextet/api.ErrNone", laid_sextet_api_ErrNone), ("sextet/api.ErrThere", laid_sextet_api_ErrThere), ("sextet/api.ErrState", laid_sextet_api_ErrState)] }
def TrackSafeSaid : Prop := trackSafeRow.holds Tryd.pinned (OpenSpec.ofChange trackSafeSpec)

/-- ITS FALSE NEIGHBOUR: 'it returns false'. Refute it at one input. -/
def trackSafeWrong : ChangeSpec := { name := "trackSafe", fn := fun _ => fun
  | [d1, d2, d3] => { results := [.lit (.bool false)], args := [d1, d2, d3] }
  | _ => none }
def TrackSafeWrongFalsely : Prop := trackSafeRow.holds Tryd.pinned (OpenSpec.ofChange trackSafeWrong)

/-- 'sextetlaw7.RegistryIncs': WHATEVER THE INPUT: true; the input reads as it did. -/
def registryIncsSpec : ChangeSpec := { name := "registryIncs", fn := fun _ => fun
  | [d] => { results := [.lit (.bool true)], args := [d] }
  | _ => none }
def registryIncsRow : OpenClaim := { program := "ytkojpimkngmckaadoor", sum := "04a018919b92d4d929ffdac6d734fda7b80a09c0b569a8f20b9591548ae515a1", func := "sextet/sextetlaw7.RegistryIncs", spec := "registryIncs", unfollowed := true, recurses := true, named := ["sextet/api.ErrState", "sextet/api.ErrNone", "sextet/api.ErrThere", "sextet/api.ErrRange", "sextet/api.ErrShape", "sextet/api.ErrMany", "sextet/api.ErrEnd", "sextet/api.ErrSum", "sextet/api.ErrKind", "sextet/api.ErrFull", "sextet/api.ErrCrash", "sextet/api.ErrConflict", "sextet/api.ErrWaits", "sextet/api.ErrLimit", "sextet/api.ErrFenced", "sextet/api.ErrWord", "sextet/api.ErrNumber"], apart := false, laid := [("sextet/api.ErrEnd", laid_sextet_api_ErrEnd), ("sextet/api.ErrSum", laid_sextet_api_ErrSum), ("sextet/api.ErrShape", laid_sextet_api_ErrShape), ("sextet/api.ErrMany", laid_sextet_api_ErrMany), ("sextet/api.ErrRange", laid_sextet_api_ErrRange), ("sextet/api.ErrKind", laid_sextet_api_ErrKind), ("sextet/api.ErrNone", laid_sextet_api_ErrNone), ("sextet/api.ErrThere", laid_sextet_api_ErrThere), ("sextet/api.ErrFull", laid_sextet_api_ErrFull), ("sextet/api.ErrCrash", laid_sextet_api_ErrCrash), ("sextet/api.ErrState", laid_sextet_api_ErrState), ("sextet/api.ErrConflict", laid_sextet_api_ErrConflict), ("sextet/api.ErrWaits", laid_sextet_api_ErrWaits), ("sextet/api.ErrLimit", laid_sextet_api_ErrLimit), ("sextet/api.ErrFenced", laid_sextet_api_ErrFenced), ("sextet/api.ErrWord", laid_sextet_api_ErrWord), ("sextet/api.ErrNumber", laid_sextet_api_ErrNumber)] }
def RegistryIncsSaid : Prop := registryIncsRow.holds Tryd.pinned (OpenSpec.ofChange registryIncsSpec)

/-- ITS FALSE NEIGHBOUR: 'it returns false'. Refute it at one input. -/
def registryIncsWrong : ChangeSpec := { name := "registryIncs", fn := fun _ => fun
  | [d] => { results := [.lit (.bool false)], args := [d] }
  | _ => none }
def RegistryIncsWrongFalsely : Prop := registryIncsRow.holds Tryd.pinned (OpenSpec.ofChange registryIncsWrong)

/-- 'sextetlaw14.TrackMembers': WHATEVER THE INPUT: true; the input reads as it did. -/
def trackMembersSpec : ChangeSpec := { name := "trackMembers", fn := fun _ => fun
  | [d1, d2, d3] => { results := [.lit (.bool true)], args := [d1, d2, d3] }
  | _ => none }
def trackMembersRow : OpenClaim := { program := "ytkojpimkngmckaadoor", sum := "04a018919b92d4d929ffdac6d734fda7b80a09c0b569a8f20b9591548ae515a1", func := "sextet/sextetlaw14.TrackMembers", spec := "trackMembers", unfollowed := true, recurses := true, named := ["sextet/api.ErrRange", "sextet/api.ErrShape", "sextet/api.ErrMany", "sextet/api.ErrState", "sextet/api.ErrNone", "sextet/api.ErrThere"], apart := false, laid := [("sextet/api.ErrShape", laid_sextet_api_ErrShape), ("sextet/api.ErrMany", laid_sextet_api_ErrMany), ("sextet/api.ErrRange", laid_sextet_api_ErrRange), ("sextet/api.ErrNone", laid_sextet_api_ErrNone), ("sextet/api.ErrThere", laid_sextet_api_ErrThere), ("sextet/api.ErrState", laid_sextet_api_ErrState)] }
def TrackMembersSaid : Prop := trackMembersRow.holds Tryd.pinned (OpenSpec.ofChange trackMembersSpec)

/-- ITS FALSE NEIGHBOUR: 'it returns false'. Refute it at one input. -/
def trackMembersWrong : ChangeSpec := { name := "trackMembers", fn := fun _ => fun
  | [d1, d2, d3] => { results := [.lit (.bool false)], args := [d1, d2, d3] }
  | _ => none }
def TrackMembersWrongFalsely : Prop := trackMembersRow.holds Tryd.pinned (OpenSpec.ofChange trackMembersWrong)

/-- 'sextetlaw7.ConfMeets': WHATEVER THE INPUT: true; the input reads as it did. -/
def confMeetsSpec : ChangeSpec := { name := "confMeets", fn := fun _ => fun
  | [d1, d2, d3, d4] => { results := [.lit (.bool true)], args := [d1, d2, d3, d4] }
  | _ => none }
def confMeetsRow : OpenClaim := { program := "ytkojpimkngmckaadoor", sum := "04a018919b92d4d929ffdac6d734fda7b80a09c0b569a8f20b9591548ae515a1", func := "sextet/sextetlaw7.ConfMeets", spec := "confMeets", unfollowed := true, recurses := true, named := ["sextet/api.ErrState", "sextet/api.ErrNone", "sextet/api.ErrThere", "sextet/api.ErrRange", "sextet/api.ErrShape", "sextet/api.ErrMany"], apart := false, laid := [("sextet/api.ErrShape", laid_sextet_api_ErrShape), ("sextet/api.ErrMany", laid_sextet_api_ErrMany), ("sextet/api.ErrRange", laid_sextet_api_ErrRange), ("sextet/api.ErrNone", laid_sextet_api_ErrNone), ("sextet/api.ErrThere", laid_sextet_api_ErrThere), ("sextet/api.ErrState", laid_sextet_api_ErrState)] }
def ConfMeetsSaid : Prop := confMeetsRow.holds Tryd.pinned (OpenSpec.ofChange confMeetsSpec)

/-- ITS FALSE NEIGHBOUR: 'it returns false'. Refute it at one input. -/
def confMeetsWrong : ChangeSpec := { name := "confMeets", fn := fun _ => fun
  | [d1, d2, d3, d4] => { results := [.lit (.bool false)], args := [d1, d2, d3, d4] }
  | _ => none }
def ConfMeetsWrongFalsely : Prop := confMeetsRow.holds Tryd.pinned (OpenSpec.ofChange confMeetsWrong)

/-- 'sextetlaw7.RegistryFences': WHATEVER THE INPUT: true; the input reads as it did. -/
def registryFencesSpec : ChangeSpec := { name := "registryFences", fn := fun _ => fun
  | [d] => { results := [.lit (.bool true)], args := [d] }
  | _ => none }
def registryFencesRow : OpenClaim := { program := "ytkojpimkngmckaadoor", sum := "04a018919b92d4d929ffdac6d734fda7b80a09c0b569a8f20b9591548ae515a1", func := "sextet/sextetlaw7.RegistryFences", spec := "registryFences", unfollowed := true, recurses := true, named := ["sextet/api.ErrState", "sextet/api.ErrNone", "sextet/api.ErrThere", "sextet/api.ErrRange", "sextet/api.ErrShape", "sextet/api.ErrMany", "sextet/api.ErrFenced", "sextet/api.ErrEnd", "sextet/api.ErrSum", "sextet/api.ErrKind", "sextet/api.ErrFull", "sextet/api.ErrCrash", "sextet/api.ErrConflict", "sextet/api.ErrWaits", "sextet/api.ErrLimit", "sextet/api.ErrWord", "sextet/api.ErrNumber"], apart := false, laid := [("sextet/api.ErrEnd", laid_sextet_api_ErrEnd), ("sextet/api.ErrSum", laid_sextet_api_ErrSum), ("sextet/api.ErrShape", laid_sextet_api_ErrShape), ("sextet/api.ErrMany", laid_sextet_api_ErrMany), ("sextet/api.ErrRange", laid_sextet_api_ErrRange), ("sextet/api.ErrKind", laid_sextet_api_ErrKind), ("sextet/api.ErrNone", laid_sextet_api_ErrNone), ("sextet/api.ErrThere", laid_sextet_api_ErrThere), ("sextet/api.ErrFull", laid_sextet_api_ErrFull), ("sextet/api.ErrCrash", laid_sextet_api_ErrCrash), ("sextet/api.ErrState", laid_sextet_api_ErrState), ("sextet/api.ErrConflict", laid_sextet_api_ErrConflict), ("sextet/api.ErrWaits", laid_sextet_api_ErrWaits), ("sextet/api.ErrLimit", laid_sextet_api_ErrLimit), ("sextet/api.ErrFenced", laid_sextet_api_ErrFenced), ("sextet/api.ErrWord", laid_sextet_api_ErrWord), ("sextet/api.ErrNumber", laid_sextet_api_ErrNumber)] }
def RegistryFencesSaid : Prop := registryFencesRow.holds Tryd.pinned (OpenSpec.ofChange registryFencesSpec)

/-- ITS FALSE NEIGHBOUR: 'it returns false'. Refute it at one input. -/
def registryFencesWrong : ChangeSpec := { name := "registryFences", fn := fun _ => fun
  | [d] => { results := [.lit (.bool false)], args := [d] }
  | _ => none }
def RegistryFencesWrongFalsely : Prop := registryFencesRow.holds Tryd.pinned (OpenSpec.ofChange registryFencesWrong)

/-- 'sextetlaw7.RegistryPlays': WHATEVER THE INPUT: true; the input reads as it did. -/
def registryPlaysSpec : ChangeSpec := { name := "registryPlays", fn := fun _ => fun
  | [d1, d2] => { results := [.lit (.bool true)], args := [d1, d2] }
  | _ => none }
def registryPlaysRow : OpenClaim := { program := "ytkojpimkngmckaadoor", sum := "04a018919b92d4d929ffdac6d734fda7b80a09c0b569a8f20b9591548ae515a1", func := "sextet/sextetlaw7.RegistryPlays", spec := "registryPlays", unfollowed := true, recurses := true, named := ["sextet/api.ErrState", "sextet/api.ErrNone", "sextet/api.ErrThere", "sextet/api.ErrRange", "sextet/api.ErrShape", "sextet/api.ErrMany", "sextet/api.ErrEnd", "sextet/api.ErrSum", "sextet/api.ErrKind", "sextet/api.ErrFull", "sextet/api.ErrCrash", "sextet/api.ErrConflict", "sextet/api.ErrWaits", "sextet/api.ErrLimit", "sextet/api.ErrFenced", "sextet/api.ErrWord", "sextet/api.ErrNumber"], apart := false, laid := [("sextet/api.ErrEnd", laid_sextet_api_ErrEnd), ("sextet/api.ErrSum", laid_sextet_api_ErrSum), ("sextet/api.ErrShape", laid_sextet_api_ErrShape), ("sextet/api.ErrMany", laid_sextet_api_ErrMany), ("sextet/api.ErrRange", laid_sextet_api_ErrRange), ("sextet/api.ErrKind", laid_sextet_api_ErrKind), ("sextet/api.ErrNone", laid_sextet_api_ErrNone), ("sextet/api.ErrThere", laid_sextet_api_ErrThere), ("sextet/api.ErrFull", laid_sextet_api_ErrFull), ("sextet/api.ErrCrash", laid_sextet_api_ErrCrash), ("sextet/api.ErrState", laid_sextet_api_ErrState), ("sextet/api.ErrConflict", laid_sextet_api_ErrConflict), ("sextet/api.ErrWaits", laid_sextet_api_ErrWaits), ("sextet/api.ErrLimit", laid_sextet_api_ErrLimit), ("sextet/api.ErrFenced", laid_sextet_api_ErrFenced), ("sextet/api.ErrWord", laid_sextet_api_ErrWord), ("sextet/api.ErrNumber", laid_sextet_api_ErrNumber)] }
def RegistryPlaysSaid : Prop := registryPlaysRow.holds Tryd.pinned (OpenSpec.ofChange registryPlaysSpec)

/-- ITS FALSE NEIGHBOUR: 'it returns false'. Refute it at one input. -/
def registryPlaysWrong : ChangeSpec := { name := "registryPlays", fn := fun _ => fun
  | [d1, d2] => { results := [.lit (.bool false)], args := [d1, d2] }
  | _ => none }
def RegistryPlaysWrongFalsely : Prop := registryPlaysRow.holds Tryd.pinned (OpenSpec.ofChange registryPlaysWrong)

/- THE SECOND FORM. 'bulk': how many values and letters a reading holds, each counted each time it is reached (what is shared counts as often as it is met; a slice's spare places count too). A statement '..UptoSaid' is the law's where the arguments, and the package variables that the reading takes, are together of bulk at most 1048576: NARROWER than '..Said'. Prove '..Said' where nothing that the law and all that it calls make is longer than what came in: it says more and counts as full. Else prove '..UptoSaid'. A law counts once. -/
mutual
def uptoBulk {H : Type} : DataW H → Nat
  | .lit (.string bytes) => bytes.length + 1
  | .lit _ => 1
  | .nil => 1
  | .ptr d => uptoBulk d + 1
  | .slice elems spare => uptoBulkAll elems + uptoBulkAll spare + 1
  | .agg parts => uptoBulkAll parts + 1
  | .iface _ d => uptoBulk d + 1
  | .map entries => uptoBulkEntries entries + 1
  | .held _ => 1
def uptoBulkAll {H : Type} : List (DataW H) → Nat
  | [] => 0
  | d :: r => uptoBulk d + uptoBulkAll r
def uptoBulkEntries {H : Type} : List (Lit × DataW H) → Nat
  | [] => 0
  | x :: r => uptoBulkEntry x + uptoBulkEntries r
def uptoBulkEntry {H : Type} : Lit × DataW H → Nat
  | (.string bytes, d) => bytes.length + uptoBulk d + 1
  | (_, d) => uptoBulk d + 1
 end
def uptoSmall : (H : Type) → List (DataW H) → Bool := fun _ ds => decide (uptoBulkAll ds ≤ 1048576)
def OpenSpec.upto (s : _root_.Go.ChangeSpec) : _root_.Go.OpenSpec := { _root_.Go.OpenSpec.ofChange s with cond := some uptoSmall }

/-- 'sextetlaw7.ConfCounts', WHERE WHAT IT READS IS OF BULK AT MOST 1048576: true; the input reads as it did. -/
def confCountsUptoRow : OpenClaim := { program := "ytkojpimkngmckaadoor", sum := "04a018919b92d4d929ffdac6d734fda7b80a09c0b569a8f20b9591548ae515a1", func := "sextet/sextetlaw7.ConfCounts", spec := "confCounts", unfollowed := true, recurses := true, named := ["sextet/api.ErrState", "sextet/api.ErrNone", "sextet/api.ErrThere", "sextet/api.ErrRange", "sextet/api.ErrShape", "sextet/api.ErrMany"], apart := false, laid := [("sextet/api.ErrShape", laid_sextet_api_ErrShape), ("sextet/api.ErrMany", laid_sextet_api_ErrMany), ("sextet/api.ErrRange", laid_sextet_api_ErrRange), ("sextet/api.ErrNone", laid_sextet_api_ErrNone), ("sextet/api.ErrThere", laid_sextet_api_ErrThere), ("sextet/api.ErrState", laid_sextet_api_ErrState)], narrowed := true }
def ConfCountsUptoSaid : Prop := confCountsUptoRow.holds Tryd.pinned (OpenSpec.upto confCountsSpec)

/-- 'sextetlaw14.TrackGrows', WHERE WHAT IT READS IS OF BULK AT MOST 1048576: true; the input reads as it did. -/
def trackGrowsUptoRow : OpenClaim := { program := "ytkojpimkngmckaadoor", sum := "04a018919b92d4d929ffdac6d734fda7b80a09c0b569a8f20b9591548ae515a1", func := "sextet/sextetlaw14.TrackGrows", spec := "trackGrows", unfollowed := true, recurses := true, named := ["sextet/api.ErrRange", "sextet/api.ErrShape", "sextet/api.ErrMany"], apart := false, laid := [("sextet/api.ErrShape", laid_sextet_api_ErrShape), ("sextet/api.ErrMany", laid_sextet_api_ErrMany), ("sextet/api.ErrRange", laid_sextet_api_ErrRange)], narrowed := true }
def TrackGrowsUptoSaid : Prop := trackGrowsUptoRow.holds Tryd.pinned (OpenSpec.upto trackGrowsSpec)

/-- 'sextetlaw14.TrackDrops', WHERE WHAT IT READS IS OF BULK AT MOST 1048576: true; the input reads as it did. -/
def trackDropsUptoRow : OpenClaim := { program := "ytkojpimkngmckaadoor", sum := "04a018919b92d4d929ffdac6d734fda7b80a09c0b569a8f20b9591548ae515a1", func := "sextet/sextetlaw14.TrackDrops", spec := "trackDrops", unfollowed := true, recurses := true, named := ["sextet/api.ErrRange", "sextet/api.ErrShape", "sextet/api.ErrMany"], apart := false, laid := [("sextet/api.ErrShape", laid_sextet_api_ErrShape), ("sextet/api.ErrMany", laid_sextet_api_ErrMany), ("sextet/api.ErrRange", laid_sextet_api_ErrRange)], narrowed := true }
def TrackDropsUptoSaid : Prop := trackDropsUptoRow.holds Tryd.pinned (OpenSpec.upto trackDropsSpec)

/-- 'sextetlaw14.TrackBorn', WHERE WHAT IT READS IS OF BULK AT MOST 1048576: true; the input reads as it did. -/
def trackBornUptoRow : OpenClaim := { program := "ytkojpimkngmckaadoor", sum := "04a018919b92d4d929ffdac6d734fda7b80a09c0b569a8f20b9591548ae515a1", func := "sextet/sextetlaw14.TrackBorn", spec := "trackBorn", unfollowed := true, recurses := true, named := ["sextet/api.ErrRange", "sextet/api.ErrShape", "sextet/api.ErrMany"], apart := false, laid := [("sextet/api.ErrShape", laid_sextet_api_ErrShape), ("sextet/api.ErrMany", laid_sextet_api_ErrMany), ("sextet/api.ErrRange", laid_sextet_api_ErrRange)], narrowed := true }
def TrackBornUptoSaid : Prop := trackBornUptoRow.holds Tryd.pinned (OpenSpec.upto trackBornSpec)

/-- 'sextetlaw14.TrackPlays', WHERE WHAT IT READS IS OF BULK AT MOST 1048576: true; the input reads as it did. -/
def trackPlaysUptoRow : OpenClaim := { program := "ytkojpimkngmckaadoor", sum := "04a018919b92d4d929ffdac6d734fda7b80a09c0b569a8f20b9591548ae515a1", func := "sextet/sextetlaw14.TrackPlays", spec := "trackPlays", unfollowed := true, recurses := true, named := ["sextet/api.ErrRange", "sextet/api.ErrShape", "sextet/api.ErrMany", "sextet/api.ErrEnd", "sextet/api.ErrSum", "sextet/api.ErrKind", "sextet/api.ErrNone", "sextet/api.ErrThere", "sextet/api.ErrFull", "sextet/api.ErrCrash", "sextet/api.ErrState", "sextet/api.ErrConflict", "sextet/api.ErrWaits", "sextet/api.ErrLimit", "sextet/api.ErrFenced", "sextet/api.ErrWord", "sextet/api.ErrNumber"], apart := false, laid := [("sextet/api.ErrEnd", laid_sextet_api_ErrEnd), ("sextet/api.ErrSum", laid_sextet_api_ErrSum), ("sextet/api.ErrShape", laid_sextet_api_ErrShape), ("sextet/api.ErrMany", laid_sextet_api_ErrMany), ("sextet/api.ErrRange", laid_sextet_api_ErrRange), ("sextet/api.ErrKind", laid_sextet_api_ErrKind), ("sextet/api.ErrNone", laid_sextet_api_ErrNone), ("sextet/api.ErrThere", laid_sextet_api_ErrThere), ("sextet/api.ErrFull", laid_sextet_api_ErrFull), ("sextet/api.ErrCrash", laid_sextet_api_ErrCrash), ("sextet/api.ErrState", laid_sextet_api_ErrState), ("sextet/api.ErrConflict", laid_sextet_api_ErrConflict), ("sextet/api.ErrWaits", laid_sextet_api_ErrWaits), ("sextet/api.ErrLimit", laid_sextet_api_ErrLimit), ("sextet/api.ErrFenced", laid_sextet_api_ErrFenced), ("sextet/api.ErrWord", laid_sextet_api_ErrWord), ("sextet/api.ErrNumber", laid_sextet_api_ErrNumber)], narrowed := true }
def TrackPlaysUptoSaid : Prop := trackPlaysUptoRow.holds Tryd.pinned (OpenSpec.upto trackPlaysSpec)

/-- 'sextetlaw7.ConfSteps', WHERE WHAT IT READS IS OF BULK AT MOST 1048576: true; the input reads as it did. -/
def confStepsUptoRow : OpenClaim := { program := "ytkojpimkngmckaadoor", sum := "04a018919b92d4d929ffdac6d734fda7b80a09c0b569a8f20b9591548ae515a1", func := "sextet/sextetlaw7.ConfSteps", spec := "confSteps", unfollowed := true, recurses := true, named := ["sextet/api.ErrState", "sextet/api.ErrNone", "sextet/api.ErrThere", "sextet/api.ErrRange", "sextet/api.ErrShape", "sextet/api.ErrMany"], apart := false, laid := [("sextet/api.ErrShape", laid_sextet_api_ErrShape), ("sextet/api.ErrMany", laid_sextet_api_ErrMany), ("sextet/api.ErrRange", laid_sextet_api_ErrRange), ("sextet/api.ErrNone", laid_sextet_api_ErrNone), ("sextet/api.ErrThere", laid_sextet_api_ErrThere), ("sextet/api.ErrState", laid_sextet_api_ErrState)], narrowed := true }
def ConfStepsUptoSaid : Prop := confStepsUptoRow.holds Tryd.pinned (OpenSpec.upto confStepsSpec)

/-- 'sextetlaw14.TrackSafe', WHERE WHAT IT READS IS OF BULK AT MOST 1048576: true; the input reads as it did. -/
def trackSafeUptoRow : OpenClaim := { program := "ytkojpimkngmckaadoor", sum := "04a018919b92d4d929ffdac6d734fda7b80a09c0b569a8f20b9591548ae515a1", func := "sextet/sextetlaw14.TrackSafe", spec := "trackSafe", unfollowed := true, recurses := true, named := ["sextet/api.ErrRange", "sextet/api.ErrShape", "sextet/api.ErrMany", "sextet/api.ErrState", "sextet/api.ErrNone", "sextet/api.ErrThere"], apart := false, laid := [("sextet/api.ErrShape", laid_sextet_api_ErrShape), ("sextet/api.ErrMany", laid_sextet_api_ErrMany), ("sextet/api.ErrRange", laid_sextet_api_ErrRange), ("sextet/api.ErrNone", laid_sextet_api_ErrNone), ("sextet/api.ErrThere", laid_sextet_api_ErrThere), ("sextet/api.ErrState", laid_sextet_api_ErrState)], narrowed := true }
def TrackSafeUptoSaid : Prop := trackSafeUptoRow.holds Tryd.pinned (OpenSpec.upto trackSafeSpec)

/-- 'sextetlaw7.RegistryIncs', WHERE WHAT IT READS IS OF BULK AT MOST 1048576: true; the input reads as it did. -/
def registryIncsUptoRow : OpenClaim := { program := "ytkojpimkngmckaadoor", sum := "04a018919b92d4d929ffdac6d734fda7b80a09c0b569a8f20b9591548ae515a1", func := "sextet/sextetlaw7.RegistryIncs", spec := "registryIncs", unfollowed := true, recurses := true, named := ["sextet/api.ErrState", "sextet/api.ErrNone", "sextet/api.ErrThere", "sextet/api.ErrRange", "sextet/api.ErrShape", "sextet/api.ErrMany", "sextet/api.ErrEnd", "sextet/api.ErrSum", "sextet/api.ErrKind", "sextet/api.ErrFull", "sextet/api.ErrCrash", "sextet/api.ErrConflict", "sextet/api.ErrWaits", "sextet/api.ErrLimit", "sextet/api.ErrFenced", "sextet/api.ErrWord", "sextet/api.ErrNumber"], apart := false, laid := [("sextet/api.ErrEnd", laid_sextet_api_ErrEnd), ("sextet/api.ErrSum", laid_sextet_api_ErrSum), ("sextet/api.ErrShape", laid_sextet_api_ErrShape), ("sextet/api.ErrMany", laid_sextet_api_ErrMany), ("sextet/api.ErrRange", laid_sextet_api_ErrRange), ("sextet/api.ErrKind", laid_sextet_api_ErrKind), ("sextet/api.ErrNone", laid_sextet_api_ErrNone), ("sextet/api.ErrThere", laid_sextet_api_ErrThere), ("sextet/api.ErrFull", laid_sextet_api_ErrFull), ("sextet/api.ErrCrash", laid_sextet_api_ErrCrash), ("sextet/api.ErrState", laid_sextet_api_ErrState), ("sextet/api.ErrConflict", laid_sextet_api_ErrConflict), ("sextet/api.ErrWaits", laid_sextet_api_ErrWaits), ("sextet/api.ErrLimit", laid_sextet_api_ErrLimit), ("sextet/api.ErrFenced", laid_sextet_api_ErrFenced), ("sextet/api.ErrWord", laid_sextet_api_ErrWord), ("sextet/api.ErrNumber", laid_sextet_api_ErrNumber)], narrowed := true }
def RegistryIncsUptoSaid : Prop := registryIncsUptoRow.holds Tryd.pinned (OpenSpec.upto registryIncsSpec)

/-- 'sextetlaw14.TrackMembers', WHERE WHAT IT READS IS OF BULK AT MOST 1048576: true; the input reads as it did. -/
def trackMembersUptoRow : OpenClaim := { program := "ytkojpimkngmckaadoor", sum := "04a018919b92d4d929ffdac6d734fda7b80a09c0b569a8f20b9591548ae515a1", func := "sextet/sextetlaw14.TrackMembers", spec := "trackMembers", unfollowed := true, recurses := true, named := ["sextet/api.ErrRange", "sextet/api.ErrShape", "sextet/api.ErrMany", "sextet/api.ErrState", "sextet/api.ErrNone", "sextet/api.ErrThere"], apart := false, laid := [("sextet/api.ErrShape", laid_sextet_api_ErrShape), ("sextet/api.ErrMany", laid_sextet_api_ErrMany), ("sextet/api.ErrRange", laid_sextet_api_ErrRange), ("sextet/api.ErrNone", laid_sextet_api_ErrNone), ("sextet/api.ErrThere", laid_sextet_api_ErrThere), ("sextet/api.ErrState", laid_sextet_api_ErrState)], narrowed := true }
def TrackMembersUptoSaid : Prop := trackMembersUptoRow.holds Tryd.pinned (OpenSpec.upto trackMembersSpec)

/-- 'sextetlaw7.ConfMeets', WHERE WHAT IT READS IS OF BULK AT MOST 1048576: true; the input reads as it did. -/
def confMeetsUptoRow : OpenClaim := { program := "ytkojpimkngmckaadoor", sum := "04a018919b92d4d929ffdac6d734fda7b80a09c0b569a8f20b9591548ae515a1", func := "sextet/sextetlaw7.ConfMeets", spec := "confMeets", unfollowed := true, recurses := true, named := ["sextet/api.ErrState", "sextet/api.ErrNone", "sextet/api.ErrThere", "sextet/api.ErrRange", "sextet/api.ErrShape", "sextet/api.ErrMany"], apart := false, laid := [("sextet/api.ErrShape", laid_sextet_api_ErrShape), ("sextet/api.ErrMany", laid_sextet_api_ErrMany), ("sextet/api.ErrRange", laid_sextet_api_ErrRange), ("sextet/api.ErrNone", laid_sextet_api_ErrNone), ("sextet/api.ErrThere", laid_sextet_api_ErrThere), ("sextet/api.ErrState", laid_sextet_api_ErrState)], narrowed := true }
def ConfMeetsUptoSaid : Prop := confMeetsUptoRow.holds Tryd.pinned (OpenSpec.upto confMeetsSpec)

/-- 'sextetlaw7.RegistryFences', WHERE WHAT IT READS IS OF BULK AT MOST 1048576: true; the input reads as it did. -/
def registryFencesUptoRow : OpenClaim := { program := "ytkojpimkngmckaadoor", sum := "04a018919b92d4d929ffdac6d734fda7b80a09c0b569a8f20b9591548ae515a1", func := "sextet/sextetlaw7.RegistryFences", spec := "registryFences", unfollowed := true, recurses := true, named := ["sextet/api.ErrState", "sextet/api.ErrNone", "sextet/api.ErrThere", "sextet/api.ErrRange", "sextet/api.ErrShape", "sextet/api.ErrMany", "sextet/api.ErrFenced", "sextet/api.ErrEnd", "sextet/api.ErrSum", "sextet/api.ErrKind", "sextet/api.ErrFull", "sextet/api.ErrCrash", "sextet/api.ErrConflict", "sextet/api.ErrWaits", "sextet/api.ErrLimit", "sextet/api.ErrWord", "sextet/api.ErrNumber"], apart := false, laid := [("sextet/api.ErrEnd", laid_sextet_api_ErrEnd), ("sextet/api.ErrSum", laid_sextet_api_ErrSum), ("sextet/api.ErrShape", laid_sextet_api_ErrShape), ("sextet/api.ErrMany", laid_sextet_api_ErrMany), ("sextet/api.ErrRange", laid_sextet_api_ErrRange), ("sextet/api.ErrKind", laid_sextet_api_ErrKind), ("sextet/api.ErrNone", laid_sextet_api_ErrNone), ("sextet/api.ErrThere", laid_sextet_api_ErrThere), ("sextet/api.ErrFull", laid_sextet_api_ErrFull), ("sextet/api.ErrCrash", laid_sextet_api_ErrCrash), ("sextet/api.ErrState", laid_sextet_api_ErrState), ("sextet/api.ErrConflict", laid_sextet_api_ErrConflict), ("sextet/api.ErrWaits", laid_sextet_api_ErrWaits), ("sextet/api.ErrLimit", laid_sextet_api_ErrLimit), ("sextet/api.ErrFenced", laid_sextet_api_ErrFenced), ("sextet/api.ErrWord", laid_sextet_api_ErrWord), ("sextet/api.ErrNumber", laid_sextet_api_ErrNumber)], narrowed := true }
def RegistryFencesUptoSaid : Prop := registryFencesUptoRow.holds Tryd.pinned (OpenSpec.upto registryFencesSpec)

/-- 'sextetlaw7.RegistryPlays', WHERE WHAT IT READS IS OF BULK AT MOST 1048576: true; the input reads as it did. -/
def registryPlaysUptoRow : OpenClaim := { program := "ytkojpimkngmckaadoor", sum := "04a018919b92d4d929ffdac6d734fda7b80a09c0b569a8f20b9591548ae515a1", func := "sextet/sextetlaw7.RegistryPlays", spec := "registryPlays", unfollowed := true, recurses := true, named := ["sextet/api.ErrState", "sextet/api.ErrNone", "sextet/api.ErrThere", "sextet/api.ErrRange", "sextet/api.ErrShape", "sextet/api.ErrMany", "sextet/api.ErrEnd", "sextet/api.ErrSum", "sextet/api.ErrKind", "sextet/api.ErrFull", "sextet/api.ErrCrash", "sextet/api.ErrConflict", "sextet/api.ErrWaits", "sextet/api.ErrLimit", "sextet/api.ErrFenced", "sextet/api.ErrWord", "sextet/api.ErrNumber"], apart := false, laid := [("sextet/api.ErrEnd", laid_sextet_api_ErrEnd), ("sextet/api.ErrSum", laid_sextet_api_ErrSum), ("sextet/api.ErrShape", laid_sextet_api_ErrShape), ("sextet/api.ErrMany", laid_sextet_api_ErrMany), ("sextet/api.ErrRange", laid_sextet_api_ErrRange), ("sextet/api.ErrKind", laid_sextet_api_ErrKind), ("sextet/api.ErrNone", laid_sextet_api_ErrNone), ("sextet/api.ErrThere", laid_sextet_api_ErrThere), ("sextet/api.ErrFull", laid_sextet_api_ErrFull), ("sextet/api.ErrCrash", laid_sextet_api_ErrCrash), ("sextet/api.ErrState", laid_sextet_api_ErrState), ("sextet/api.ErrConflict", laid_sextet_api_ErrConflict), ("sextet/api.ErrWaits", laid_sextet_api_ErrWaits), ("sextet/api.ErrLimit", laid_sextet_api_ErrLimit), ("sextet/api.ErrFenced", laid_sextet_api_ErrFenced), ("sextet/api.ErrWord", laid_sextet_api_ErrWord), ("sextet/api.ErrNumber", laid_sextet_api_ErrNumber)], narrowed := true }
def RegistryPlaysUptoSaid : Prop := registryPlaysUptoRow.holds Tryd.pinned (OpenSpec.upto registryPlaysSpec)

end Rows
end Go.Proofs.YtkojpimkngmckaaDoor
