/-
  NARROWER THAN 'FOR EVERY INPUT', by the rows' own cells (each row's printed sentence says how): PointRises: laid · PointSpans: laid · LsnPlays: laid · LsnLimit: laid · LsnSpans: laid · LsnEnd: laid · PointLasts: laid · PointOne: laid · PointPlays: laid · NetBounds: laid · NetOrder: laid · NetPlays: laid.
  DERIVED. THE GIVEN ROWS OF THIS SEAT. 12 by the template 'for every input the law returns true; each argument reads behind the call as it read before'; 0 by the template 'total and deterministic' (their statements: YtmjenjccinfbaaaDoorTotals.lean).
  GIVEN WITH THE SEED: the statements are not yours to turn. If you find one false, say at which input.
  Laid BY PROGRAM, IN A SANDBOX (cutbox-rows.mjs): the forced cells as the released guide's own fill.sh prints them over the translation 441252df204fd01b… (all of the seat's roots in one cut). By AI agents, Wed Nov 11 2026. No macro, syntax, notation, axiom, sorry.
-/
import Derived.Test.YtmjenjccinfbaaaDoorChecked
import GoSem.Claim
import GoSem.ClaimJoined
import GoSem.ClaimMapViews
import Derived.JoinedTies
import Derived.KernelRfl
namespace Go.Proofs.YtmjenjccinfbaaaDoor
/- THE CELL 'sum', in the pinned program and in every row, IS THE sha256 OF THE DUMP (.gsa) THAT YtmjenjccinfbaaaDoorProg.lean LOADS. Nothing in Lean hashes anything: it is a label: what it is worth is what the hold of that sum in a sandbox is worth. -/
noncomputable def Tryd.pinned : Pinned := { name := "ytmjenjccinfbaaadoor", sum := "441252df204fd01b5acfae5a2f479346e42f08e1f959483334934b0585ae9f8f", checked := Tryd.checked }
namespace Rows
def none {H : Type} : Left H := { results := [], args := [] }

/- WHAT THE LISTED PACKAGE-LEVEL VARIABLES READ AS WHEN THE CALL BEGINS. Each datum BY PROGRAM (the guide's laid-datum.mjs) off the statement by which the dump's own 'gosem.cut.vars' lays the variable. In a bare row this is a premise. The card (YtmjenjccinfbaaaDoorCards.lean) ties it to the program's text. -/
def laid_sextet_api_ErrShape {H : Type} : DataW H := .iface "*errors.errorString" (.ptr (.agg [.lit (.string [110, 111, 116, 32, 97, 115, 32, 105, 116, 32, 104, 97, 115, 32, 116, 111, 32, 98, 101])]))
def laid_sextet_api_ErrMany {H : Type} : DataW H := .iface "*errors.errorString" (.ptr (.agg [.lit (.string [116, 111, 111, 32, 109, 97, 110, 121])]))
def laid_sextet_api_ErrRange {H : Type} : DataW H := .iface "*errors.errorString" (.ptr (.agg [.lit (.string [97, 32, 110, 117, 109, 98, 101, 114, 32, 111, 117, 116, 32, 111, 102, 32, 105, 116, 115, 32, 114, 97, 110, 103, 101])]))
def laid_sextet_api_ErrEnd {H : Type} : DataW H := .iface "*errors.errorString" (.ptr (.agg [.lit (.string [105, 116, 32, 101, 110, 100, 115, 32, 116, 111, 111, 32, 101, 97, 114, 108, 121])]))
def laid_sextet_api_ErrSum {H : Type} : DataW H := .iface "*errors.errorString" (.ptr (.agg [.lit (.string [116, 104, 101, 32, 115, 117, 109, 32, 105, 115, 32, 97, 110, 111, 116, 104, 101, 114, 32, 111, 110, 101])]))
def laid_sextet_api_ErrKind {H : Type} : DataW H := .iface "*errors.errorString" (.ptr (.agg [.lit (.string [110, 111, 32, 115, 117, 99, 104, 32, 107, 105, 110, 100])]))
def laid_sextet_api_ErrNone {H : Type} : DataW H := .iface "*errors.errorString" (.ptr (.agg [.lit (.string [116, 104, 101, 114, 101, 32, 105, 115, 32, 110, 111, 110, 101])]))
def laid_sextet_api_ErrThere {H : Type} : DataW H := .iface "*errors.errorString" (.ptr (.agg [.lit (.string [116, 104, 101, 114, 101, 32, 105, 115, 32, 111, 110, 101])]))
def laid_sextet_api_ErrFull {H : Type} : DataW H := .iface "*errors.errorString" (.ptr (.agg [.lit (.string [116, 104, 101, 114, 101, 32, 105, 115, 32, 110, 111, 32, 114, 111, 111, 109])]))
def laid_sextet_api_ErrCrash {H : Type} : DataW H := .iface "*errors.errorString" (.ptr (.agg [.lit (.string [105, 116, 32, 105, 115, 32, 100, 111, 119, 110])]))
def laid_sextet_api_ErrState {H : Type} : DataW H := .iface "*errors.errorString" (.ptr (.agg [.lit (.string [110, 111, 116, 32, 105, 110, 32, 116, 104, 105, 115, 32, 115, 116, 97, 116, 101])]))
def laid_sextet_api_ErrConflict {H : Type} : DataW H := .iface "*errors.errorString" (.ptr (.agg [.lit (.string [97, 110, 111, 116, 104, 101, 114, 32, 111, 110, 101, 32, 119, 114, 105, 116, 101, 115, 32, 116, 104, 97, 116])]))
def laid_sextet_api_ErrWaits {H : Type} : DataW H := .iface "*errors.errorString" (.ptr (.agg [.lit (.string [105, 116, 32, 119, 97, 105, 116, 115, 32, 102, 111, 114, 32, 97, 32, 112, 97, 103, 101])]))
def laid_sextet_api_ErrLimit {H : Type} : DataW H := .iface "*errors.errorString" (.ptr (.agg [.lit (.string [116, 111, 111, 32, 102, 97, 114, 32, 97, 104, 101, 97, 100, 32, 111, 102, 32, 119, 104, 97, 116, 32, 105, 115, 32, 100, 117, 114, 97, 98, 108, 101])]))
def laid_sextet_api_ErrFenced {H : Type} : DataW H := .iface "*errors.errorString" (.ptr (.agg [.lit (.string [97, 32, 108, 97, 116, 101, 114, 32, 111, 110, 101, 32, 119, 114, 105, 116, 101, 115])]))
def laid_sextet_api_ErrWord {H : Type} : DataW H := .iface "*errors.errorString" (.ptr (.agg [.lit (.string [110, 111, 32, 115, 117, 99, 104, 32, 119, 111, 114, 100])]))
def laid_sextet_api_ErrNumber {H : Type} : DataW H := .iface "*errors.errorString" (.ptr (.agg [.lit (.string [110, 111, 32, 115, 117, 99, 104, 32, 110, 117, 109, 98, 101, 114])]))

/-- 'sextetlaw15.PointRises': WHATEVER THE INPUT: true; the input reads as it did. -/
def pointRisesSpec : ChangeSpec := { name := "pointRises", fn := fun _ => fun
  | [d1, d2, d3] => { results := [.lit (.bool true)], args := [d1, d2, d3] }
  | _ => none }
def pointRisesRow : OpenClaim := { program := "ytmjenjccinfbaaadoor", sum := "441252df204fd01b5acfae5a2f479346e42f08e1f959483334934b0585ae9f8f", func := "sextet/sextetlaw15.PointRises", spec := "pointRises", unfollowed := true, recurses := true, named := ["sextet/api.ErrRange", "sextet/api.ErrMany", "sextet/api.ErrShape"], apart := false, laid := [("sextet/api.ErrShape", laid_sextet_api_ErrShape), ("sextet/api.ErrMany", laid_sextet_api_ErrMany), ("sextet/api.ErrRange", laid_sextet_api_ErrRange)] }
def PointRisesSaid : Prop := pointRisesRow.holds Tryd.pinned (OpenSpec.ofChange pointRisesSpec)

/-- ITS FALSE NEIGHBOUR: 'it returns false'. Refute it at one input. -/
def pointRisesWrong : ChangeSpec := { name := "pointRises", fn := fun _ => fun
  | [d1, d2, d3] => { results := [.lit (.bool false)], args := [d1, d2, d3] }
  | _ => none }
def PointRisesWrongFalsely : Prop := pointRisesRow.holds Tryd.pinned (OpenSpec.ofChange pointRisesWrong)

/-- 'sextetlaw15.PointSpans': WHATEVER THE INPUT: true; the input reads as it did. -/
def pointSpansSpec : ChangeSpec := { name := "pointSpans", fn := fun _ => fun
  | [d1, d2, d3, d4] => { results := [.lit (.bool true)], args := [d1, d2, d3, d4] }
  | _ => none }
def pointSpansRow : OpenClaim := { program := "ytmjenjccinfbaaadoor", sum := "441252df204fd01b5acfae5a2f479346e42f08e1f959483334934b0585ae9f8f", func := "sextet/sextetlaw15.PointSpans", spec := "pointSpans", unfollowed := true, recurses := true, named := ["sextet/api.ErrRange", "sextet/api.ErrMany", "sextet/api.ErrShape", "sextet/api.ErrEnd", "sextet/api.ErrSum", "sextet/api.ErrKind", "sextet/api.ErrNone", "sextet/api.ErrThere", "sextet/api.ErrFull", "sextet/api.ErrCrash", "sextet/api.ErrState", "sextet/api.ErrConflict", "sextet/api.ErrWaits", "sextet/api.ErrLimit", "sextet/api.ErrFenced", "sextet/api.ErrWord", "sextet/api.ErrNumber"], apart := false, laid := [("sextet/api.ErrEnd", laid_sextet_api_ErrEnd), ("sextet/api.ErrSum", laid_sextet_api_ErrSum), ("sextet/api.ErrShape", laid_sextet_api_ErrShape), ("sextet/api.ErrMany", laid_sextet_api_ErrMany), ("sextet/api.ErrRange", laid_sextet_api_ErrRange), ("sextet/api.ErrKind", laid_sextet_api_ErrKind), ("sextet/api.ErrNone", laid_sextet_api_ErrNone), ("sextet/api.ErrThere", laid_sextet_api_ErrThere), ("sextet/api.ErrFull", laid_sextet_api_ErrFull), ("sextet/api.ErrCrash", laid_sextet_api_ErrCrash), ("sextet/api.ErrState", laid_sextet_api_ErrState), ("sextet/api.ErrConflict", laid_sextet_api_ErrConflict), ("sextet/api.ErrWaits", laid_sextet_api_ErrWaits), ("sextet/api.ErrLimit", laid_sextet_api_ErrLimit), ("sextet/api.ErrFenced", laid_sextet_api_ErrFenced), ("sextet/api.ErrWord", laid_sextet_api_ErrWord), ("sextet/api.ErrNumber", laid_sextet_api_ErrNumber)] }
def PointSpansSaid : Prop := pointSpansRow.holds Tryd.pinned (OpenSpec.ofChange pointSpansSpec)

/-- ITS FALSE NEIGHBOUR: 'it returns false'. Refute it at one input. -/
def pointSpansWrong : ChangeSpec := { name := "pointSpans", fn := fun _ => fun
  | [d1, d2, d3, d4] => { results := [.lit (.bool false)], args := [d1, d2, d3, d4] }
  | _ => none }
def PointSpansWrongFalsely : Prop := pointSpansRow.holds Tryd.pinned (OpenSpec.ofChange pointSpansWrong)

/-- 'sextetlaw16.LsnPlays': WHATEVER THE INPUT: true; the input reads as it did. -/
def lsnPlaysSpec : ChangeSpec := { name := "lsnPlays", fn := fun _ => fun
  | [d1, d2, d3] => { results := [.lit (.bool true)], args := [d1, d2, d3] }
  | _ => none }
def lsnPlaysRow : OpenClaim := { program := "ytmjenjccinfbaaadoor", sum := "441252df204fd01b5acfae5a2f479346e42f08e1f959483334934b0585ae9f8f", func := "sextet/sextetlaw16.LsnPlays", spec := "lsnPlays", unfollowed := true, recurses := true, named := ["sextet/api.ErrRange", "sextet/api.ErrMany", "sextet/api.ErrShape", "sextet/api.ErrFull", "sextet/api.ErrLimit", "sextet/api.ErrEnd", "sextet/api.ErrSum", "sextet/api.ErrKind", "sextet/api.ErrNone", "sextet/api.ErrThere", "sextet/api.ErrCrash", "sextet/api.ErrState", "sextet/api.ErrConflict", "sextet/api.ErrWaits", "sextet/api.ErrFenced", "sextet/api.ErrWord", "sextet/api.ErrNumber"], apart := false, laid := [("sextet/api.ErrEnd", laid_sextet_api_ErrEnd), ("sextet/api.ErrSum", laid_sextet_api_ErrSum), ("sextet/api.ErrShape", laid_sextet_api_ErrShape), ("sextet/api.ErrMany", laid_sextet_api_ErrMany), ("sextet/api.ErrRange", laid_sextet_api_ErrRange), ("sextet/api.ErrKind", laid_sextet_api_ErrKind), ("sextet/api.ErrNone", laid_sextet_api_ErrNone), ("sextet/api.ErrThere", laid_sextet_api_ErrThere), ("sextet/api.ErrFull", laid_sextet_api_ErrFull), ("sextet/api.ErrCrash", laid_sextet_api_ErrCrash), ("sextet/api.ErrState", laid_sextet_api_ErrState), ("sextet/api.ErrConflict", laid_sextet_api_ErrConflict), ("sextet/api.ErrWaits", laid_sextet_api_ErrWaits), ("sextet/api.ErrLimit", laid_sextet_api_ErrLimit), ("sextet/api.ErrFenced", laid_sextet_api_ErrFenced), ("sextet/api.ErrWord", laid_sextet_api_ErrWord), ("sextet/api.ErrNumber", laid_sextet_api_ErrNumber)] }
def LsnPlaysSaid : Prop := lsnPlaysRow.holds Tryd.pinned (OpenSpec.ofChange lsnPlaysSpec)

/-- ITS FALSE NEIGHBOUR: 'it returns false'. Refute it at one input. -/
def lsnPlaysWrong : ChangeSpec := { name := "lsnPlays", fn := fun _ => fun
  | [d1, d2, d3] => { results := [.lit (.bool false)], args := [d1, d2, d3] }
  | _ => none }
def LsnPlaysWrongFalsely : Prop := lsnPlaysRow.holds Tryd.pinned (OpenSpec.ofChange lsnPlaysWrong)

/-- 'sextetlaw16.LsnLimit': WHATEVER THE INPUT: true; the input reads as it did. -/
def lsnLimitSpec : ChangeSpec := { name := "lsnLimit", fn := fun _ => fun
  | [d1, d2] => { results := [.lit (.bool true)], args := [d1, d2] }
  | _ => none }
def lsnLimitRow : OpenClaim := { program := "ytmjenjccinfbaaadoor", sum := "441252df204fd01b5acfae5a2f479346e42f08e1f959483334934b0585ae9f8f", func := "sextet/sextetlaw16.LsnLimit", spec := "lsnLimit", unfollowed := true, recurses := true, named := ["sextet/api.ErrRange", "sextet/api.ErrMany", "sextet/api.ErrShape", "sextet/api.ErrFull", "sextet/api.ErrLimit", "sextet/api.ErrEnd", "sextet/api.ErrSum", "sextet/api.ErrKind", "sextet/api.ErrNone", "sextet/api.ErrThere", "sextet/api.ErrCrash", "sextet/api.ErrState", "sextet/api.ErrConflict", "sextet/api.ErrWaits", "sextet/api.ErrFenced", "sextet/api.ErrWord", "sextet/api.ErrNumber"], apart := false, laid := [("sextet/api.ErrEnd", laid_sextet_api_ErrEnd), ("sextet/api.ErrSum", laid_sextet_api_ErrSum), ("sextet/api.ErrShape", laid_sextet_api_ErrShape), ("sextet/api.ErrMany", laid_sextet_api_ErrMany), ("sextet/api.ErrRange", laid_sextet_api_ErrRange), ("sextet/api.ErrKind", laid_sextet_api_ErrKind), ("sextet/api.ErrNone", laid_sextet_api_ErrNone), ("sextet/api.ErrThere", laid_sextet_api_ErrThere), ("sextet/api.ErrFull", laid_sextet_api_ErrFull), ("sextet/api.ErrCrash", laid_sextet_api_ErrCrash), ("sextet/api.ErrState", laid_sextet_api_ErrState), ("sextet/api.ErrConflict", laid_sextet_api_ErrConflict), ("sextet/api.ErrWaits", laid_sextet_api_ErrWaits), ("sextet/api.ErrLimit", laid_sextet_api_ErrLimit), ("sextet/api.ErrFenced", laid_sextet_api_ErrFenced), ("sextet/api.ErrWord", laid_sextet_api_ErrWord), ("sextet/api.ErrNumber", laid_sextet_api_ErrNumber)] }
def LsnLimitSaid : Prop := lsnLimitRow.holds Tryd.pinned (OpenSpec.ofChange lsnLimitSpec)

/-- ITS FALSE NEIGHBOUR: 'it returns false'. Refute it at one input. -/
def lsnLimitWrong : ChangeSpec := { name := "lsnLimit", fn := fun _ => fun
  | [d1, d2] => { results := [.lit (.bool false)], args := [d1, d2] }
  | _ => none }
def LsnLimitWrongFalsely : Prop := lsnLimitRow.holds Tryd.pinned (OpenSpec.ofChange lsnLimitWrong)

/-- 'sextetlaw16.LsnSpans': WHATEVER THE INPUT: true; the input reads as it did. -/
def lsnSpansSpec : ChangeSpec := { name := "lsnSpans", fn := fun _ => fun
  | [d1, d2, d3] => { results := [.lit (.bool true)], args := [d1, d2, d3] }
  | _ => none }
def lsnSpansRow : OpenClaim := { program := "ytmjenjccinfbaaadoor", sum := "441252df204fd01b5acfae5a2f479346e42f08e1f959483334934b0585ae9f8f", func := "sextet/sextetlaw16.LsnSpans", spec := "lsnSpans", unfollowed := true, recurses := true, named := ["sextet/api.ErrRange", "sextet/api.ErrMany", "sextet/api.ErrShape", "sextet/api.ErrFull", "sextet/api.ErrLimit", "sextet/api.ErrEnd", "sextet/api.ErrSum", "sextet/api.ErrKind", "sextet/api.ErrNone", "sextet/api.ErrThere", "sextet/api.ErrCrash", "sextet/api.ErrState", "sextet/api.ErrConflict", "sextet/api.ErrWaits", "sextet/api.ErrFenced", "sextet/api.ErrWord", "sextet/api.ErrNumber"], apart := false, laid := [("sextet/api.ErrEnd", laid_sextet_api_ErrEnd), ("sextet/api.ErrSum", laid_sextet_api_ErrSum), ("sextet/api.ErrShape", laid_sextet_api_ErrShape), ("sextet/api.ErrMany", laid_sextet_api_ErrMany), ("sextet/api.ErrRange", laid_sextet_api_ErrRange), ("sextet/api.ErrKind", laid_sextet_api_ErrKind), ("sextet/api.ErrNone", laid_sextet_api_ErrNone), ("sextet/api.ErrThere", laid_sextet_api_ErrThere), ("sextet/api.ErrFull", laid_sextet_api_ErrFull), ("sextet/api.ErrCrash", laid_sextet_api_ErrCrash), ("sextet/api.ErrState", laid_sextet_api_ErrState), ("sextet/api.ErrConflict", laid_sextet_api_ErrConflict), ("sextet/api.ErrWaits", laid_sextet_api_ErrWaits), ("sextet/api.ErrLimit", laid_sextet_api_ErrLimit), ("sextet/api.ErrFenced", laid_sextet_api_ErrFenced), ("sextet/api.ErrWord", laid_sextet_api_ErrWord), ("sextet/api.ErrNumber", laid_sextet_api_ErrNumber)] }
def LsnSpansSaid : Prop := lsnSpansRow.holds Tryd.pinned (OpenSpec.ofChange lsnSpansSpec)

/-- ITS FALSE NEIGHBOUR: 'it returns false'. Refute it at one input. -/
def lsnSpansWrong : ChangeSpec := { name := "lsnSpans", fn := fun _ => fun
  | [d1, d2, d3] => { results := [.lit (.bool false)], args := [d1, d2, d3] }
  | _ => none }
def LsnSpansWrongFalsely : Prop := lsnSpansRow.holds Tryd.pinned (OpenSpec.ofChange lsnSpansWrong)

/-- 'sextetlaw16.LsnEnd': WHATEVER THE INPUT: true; the input reads as it did. -/
def lsnEndSpec : ChangeSpec := { name := "lsnEnd", fn := fun _ => fun
  | [d1, d2] => { results := [.lit (.bool true)], args := [d1, d2] }
  | _ => none }
def lsnEndRow : OpenClaim := { program := "ytmjenjccinfbaaadoor", sum := "441252df204fd01b5acfae5a2f479346e42f08e1f959483334934b0585ae9f8f", func := "sextet/sextetlaw16.LsnEnd", spec := "lsnEnd", unfollowed := true, recurses := true, named := ["sextet/api.ErrRange", "sextet/api.ErrMany", "sextet/api.ErrShape", "sextet/api.ErrFull", "sextet/api.ErrLimit", "sextet/api.ErrEnd", "sextet/api.ErrSum", "sextet/api.ErrKind", "sextet/api.ErrNone", "sextet/api.ErrThere", "sextet/api.ErrCrash", "sextet/api.ErrState", "sextet/api.ErrConflict", "sextet/api.ErrWaits", "sextet/api.ErrFenced", "sextet/api.ErrWord", "sextet/api.ErrNumber"], apart := false, laid := [("sextet/api.ErrEnd", laid_sextet_api_ErrEnd), ("sextet/api.ErrSum", laid_sextet_api_ErrSum), ("sextet/api.ErrShape", laid_sextet_api_ErrShape), ("sextet/api.ErrMany", laid_sextet_api_ErrMany), ("sextet/api.ErrRange", laid_sextet_api_ErrRange), ("sextet/api.ErrKind", laid_sextet_api_ErrKind), ("sextet/api.ErrNone", laid_sextet_api_ErrNone), ("sextet/api.ErrThere", laid_sextet_api_ErrThere), ("sextet/api.ErrFull", laid_sextet_api_ErrFull), ("sextet/api.ErrCrash", laid_sextet_api_ErrCrash), ("sextet/api.ErrState", laid_sextet_api_ErrState), ("sextet/api.ErrConflict", laid_sextet_api_ErrConflict), ("sextet/api.ErrWaits", laid_sextet_api_ErrWaits), ("sextet/api.ErrLimit", laid_sextet_api_ErrLimit), ("sextet/api.ErrFenced", laid_sextet_api_ErrFenced), ("sextet/api.ErrWord", laid_sextet_api_ErrWord), ("sextet/api.ErrNumber", laid_sextet_api_ErrNumber)] }
def LsnEndSaid : Prop := lsnEndRow.holds Tryd.pinned (OpenSpec.ofChange lsnEndSpec)

/-- ITS FALSE NEIGHBOUR: 'it returns false'. Refute it at one input. -/
def lsnEndWrong : ChangeSpec := { name := "lsnEnd", fn := fun _ => fun
  | [d1, d2] => { results := [.lit (.bool false)], args := [d1, d2] }
  | _ => none }
def LsnEndWrongFalsely : Prop := lsnEndRow.holds Tryd.pinned (OpenSpec.ofChange lsnEndWrong)

/-- 'sextetlaw15.PointLasts': WHATEVER THE INPUT: true; the input reads as it did. -/
def pointLastsSpec : ChangeSpec := { name := "pointLasts", fn := fun _ => fun
  | [d1, d2] => { results := [.lit (.bool true)], args := [d1, d2] }
  | _ => none }
def pointLastsRow : OpenClaim := { program := "ytmjenjccinfbaaadoor", sum := "441252df204fd01b5acfae5a2f479346e42f08e1f959483334934b0585ae9f8f", func := "sextet/sextetlaw15.PointLasts", spec := "pointLasts", unfollowed := true, recurses := true, named := ["sextet/api.ErrRange", "sextet/api.ErrMany", "sextet/api.ErrShape"], apart := false, laid := [("sextet/api.ErrShape", laid_sextet_api_ErrShape), ("sextet/api.ErrMany", laid_sextet_api_ErrMany), ("sextet/api.ErrRange", laid_sextet_api_ErrRange)] }
def PointLastsSaid : Prop := pointLastsRow.holds Tryd.pinned (OpenSpec.ofChange pointLastsSpec)

/-- ITS FALSE NEIGHBOUR: 'it returns false'. Refute it at one input. -/
def pointLastsWrong : ChangeSpec := { name := "pointLasts", fn := fun _ => fun
  | [d1, d2] => { results := [.lit (.bool false)], args := [d1, d2] }
  | _ => none }
def PointLastsWrongFalsely : Prop := pointLastsRow.holds Tryd.pinned (OpenSpec.ofChange pointLastsWrong)

/-- 'sextetlaw15.PointOne': WHATEVER THE INPUT: true; the input reads as it did. -/
def pointOneSpec : ChangeSpec := { name := "pointOne", fn := fun _ => fun
  | [d1, d2] => { results := [.lit (.bool true)], args := [d1, d2] }
  | _ => none }
def pointOneRow : OpenClaim := { program := "ytmjenjccinfbaaadoor", sum := "441252df204fd01b5acfae5a2f479346e42f08e1f959483334934b0585ae9f8f", func := "sextet/sextetlaw15.PointOne", spec := "pointOne", unfollowed := true, recurses := true, named := ["sextet/api.ErrRange", "sextet/api.ErrMany", "sextet/api.ErrShape"], apart := false, laid := [("sextet/api.ErrShape", laid_sextet_api_ErrShape), ("sextet/api.ErrMany", laid_sextet_api_ErrMany), ("sextet/api.ErrRange", laid_sextet_api_ErrRange)] }
def PointOneSaid : Prop := pointOneRow.holds Tryd.pinned (OpenSpec.ofChange pointOneSpec)

/-- ITS FALSE NEIGHBOUR: 'it returns false'. Refute it at one input. -/
def pointOneWrong : ChangeSpec := { name := "pointOne", fn := fun _ => fun
  | [d1, d2] => { results := [.lit (.bool false)], args := [d1, d2] }
  | _ => none }
def PointOneWrongFalsely : Prop := pointOneRow.holds Tryd.pinned (OpenSpec.ofChange pointOneWrong)

/-- 'sextetlaw15.PointPlays': WHATEVER THE INPUT: true; the input reads as it did. -/
def pointPlaysSpec : ChangeSpec := { name := "pointPlays", fn := fun _ => fun
  | [d1, d2, d3, d4] => { results := [.lit (.bool true)], args := [d1, d2, d3, d4] }
  | _ => none }
def pointPlaysRow : OpenClaim := { program := "ytmjenjccinfbaaadoor", sum := "441252df204fd01b5acfae5a2f479346e42f08e1f959483334934b0585ae9f8f", func := "sextet/sextetlaw15.PointPlays", spec := "pointPlays", unfollowed := true, recurses := true, named := ["sextet/api.ErrRange", "sextet/api.ErrMany", "sextet/api.ErrShape", "sextet/api.ErrEnd", "sextet/api.ErrSum", "sextet/api.ErrKind", "sextet/api.ErrNone", "sextet/api.ErrThere", "sextet/api.ErrFull", "sextet/api.ErrCrash", "sextet/api.ErrState", "sextet/api.ErrConflict", "sextet/api.ErrWaits", "sextet/api.ErrLimit", "sextet/api.ErrFenced", "sextet/api.ErrWord", "sextet/api.ErrNumber"], apart := false, laid := [("sextet/api.ErrEnd", laid_sextet_api_ErrEnd), ("sextet/api.ErrSum", laid_sextet_api_ErrSum), ("sextet/api.ErrShape", laid_sextet_api_ErrShape), ("sextet/api.ErrMany", laid_sextet_api_ErrMany), ("sextet/api.ErrRange", laid_sextet_api_ErrRange), ("sextet/api.ErrKind", laid_sextet_api_ErrKind), ("sextet/api.ErrNone", laid_sextet_api_ErrNone), ("sextet/api.ErrThere", laid_sextet_api_ErrThere), ("sextet/api.ErrFull", laid_sextet_api_ErrFull), ("sextet/api.ErrCrash", laid_sextet_api_ErrCrash), ("sextet/api.ErrState", laid_sextet_api_ErrState), ("sextet/api.ErrConflict", laid_sextet_api_ErrConflict), ("sextet/api.ErrWaits", laid_sextet_api_ErrWaits), ("sextet/api.ErrLimit", laid_sextet_api_ErrLimit), ("sextet/api.ErrFenced", laid_sextet_api_ErrFenced), ("sextet/api.ErrWord", laid_sextet_api_ErrWord), ("sextet/api.ErrNumber", laid_sextet_api_ErrNumber)] }
def PointPlaysSaid : Prop := pointPlaysRow.holds Tryd.pinned (OpenSpec.ofChange pointPlaysSpec)

/-- ITS FALSE NEIGHBOUR: 'it returns false'. Refute it at one input. -/
def pointPlaysWrong : ChangeSpec := { name := "pointPlays", fn := fun _ => fun
  | [d1, d2, d3, d4] => { results := [.lit (.bool false)], args := [d1, d2, d3, d4] }
  | _ => none }
def PointPlaysWrongFalsely : Prop := pointPlaysRow.holds Tryd.pinned (OpenSpec.ofChange pointPlaysWrong)

/-- 'sextetlaw26.NetBounds': WHATEVER THE INPUT: true; the input reads as it did. -/
def netBoundsSpec : ChangeSpec := { name := "netBounds", fn := fun _ => fun
  | [d1, d2] => { results := [.lit (.bool true)], args := [d1, d2] }
  | _ => none }
def netBoundsRow : OpenClaim := { program := "ytmjenjccinfbaaadoor", sum := "441252df204fd01b5acfae5a2f479346e42f08e1f959483334934b0585ae9f8f", func := "sextet/sextetlaw26.NetBounds", spec := "netBounds", named := ["sextet/api.ErrKind", "sextet/api.ErrRange", "sextet/api.ErrMany", "sextet/api.ErrShape"], apart := false, laid := [("sextet/api.ErrShape", laid_sextet_api_ErrShape), ("sextet/api.ErrMany", laid_sextet_api_ErrMany), ("sextet/api.ErrRange", laid_sextet_api_ErrRange), ("sextet/api.ErrKind", laid_sextet_api_ErrKind)] }
def NetBoundsSaid : Prop := netBoundsRow.holds Tryd.pinned (OpenSpec.ofChange netBoundsSpec)

/-- ITS FALSE NEIGHBOUR: 'it returns false'. Refute it at one input. -/
def netBoundsWrong : ChangeSpec := { name := "netBounds", fn := fun _ => fun
  | [d1, d2] => { results := [.lit (.bool false)], args := [d1, d2] }
  | _ => none }
def NetBoundsWrongFalsely : Prop := netBoundsRow.holds Tryd.pinned (OpenSpec.ofChange netBoundsWrong)

/-- 'sextetlaw26.NetOrder': WHATEVER THE INPUT: true; the input reads as it did. -/
def netOrderSpec : ChangeSpec := { name := "netOrder", fn := fun _ => fun
  | [d1, d2] => { results := [.lit (.bool true)], args := [d1, d2] }
  | _ => none }
def netOrderRow : OpenClaim := { program := "ytmjenjccinfbaaadoor", sum := "441252df204fd01b5acfae5a2f479346e42f08e1f959483334934b0585ae9f8f", func := "sextet/sextetlaw26.NetOrder", spec := "netOrder", named := ["sextet/api.ErrKind", "sextet/api.ErrRange", "sextet/api.ErrMany", "sextet/api.ErrShape"], apart := false, laid := [("sextet/api.ErrShape", laid_sextet_api_ErrShape), ("sextet/api.ErrMany", laid_sextet_api_ErrMany), ("sextet/api.ErrRange", laid_sextet_api_ErrRange), ("sextet/api.ErrKind", laid_sextet_api_ErrKind)] }
def NetOrderSaid : Prop := netOrderRow.holds Tryd.pinned (OpenSpec.ofChange netOrderSpec)

/-- ITS FALSE NEIGHBOUR: 'it returns false'. Refute it at one input. -/
def netOrderWrong : ChangeSpec := { name := "netOrder", fn := fun _ => fun
  | [d1, d2] => { results := [.lit (.bool false)], args := [d1, d2] }
  | _ => none }
def NetOrderWrongFalsely : Prop := netOrderRow.holds Tryd.pinned (OpenSpec.ofChange netOrderWrong)

/-- 'sextetlaw26.NetPlays': WHATEVER THE INPUT: true; the input reads as it did. -/
def netPlaysSpec : ChangeSpec := { name := "netPlays", fn := fun _ => fun
  | [d1, d2] => { results := [.lit (.bool true)], args := [d1, d2] }
  | _ => none }
def netPlaysRow : OpenClaim := { program := "ytmjenjccinfbaaadoor", sum := "441252df204fd01b5acfae5a2f479346e42f08e1f959483334934b0585ae9f8f", func := "sextet/sextetlaw26.NetPlays", spec := "netPlays", unfollowed := true, recurses := true, named := ["sextet/api.ErrKind", "sextet/api.ErrRange", "sextet/api.ErrMany", "sextet/api.ErrShape"], apart := false, laid := [("sextet/api.ErrShape", laid_sextet_api_ErrShape), ("sextet/api.ErrMany", laid_sextet_api_ErrMany), ("sextet/api.ErrRange", laid_sextet_api_ErrRange), ("sextet/api.ErrKind", laid_sextet_api_ErrKind)] }
def NetPlaysSaid : Prop := netPlaysRow.holds Tryd.pinned (OpenSpec.ofChange netPlaysSpec)

/-- ITS FALSE NEIGHBOUR: 'it returns false'. Refute it at one input. -/
def netPlaysWrong : ChangeSpec := { name := "netPlays", fn := fun _ => fun
  | [d1, d2] => { results := [.lit (.bool false)], args := [d1, d2] }
  | _ => none }
def NetPlaysWrongFalsely : Prop := netPlaysRow.holds Tryd.pinned (OpenSpec.ofChange netPlaysWrong)

/- THE SECOND FORM. 'bulk': how many values and letters a reading holds, each counted each time it is reached (what is shared counts as often as it is met; a slice's spare places count too). A statement '..UptoSaid' is the law's where the arguments, and the package variables that the reading takes, are together of bulk at most 1048576: NARROWER than '..Said'. Prove '..Said' where nothing that the law and all that it calls make is longer than what came in: it says more and counts as full. Else prove '..UptoSaid'. A law counts once. -/
mutual
def uptoBulk {H : Type} : DataW H → Nat
  | .lit (.string bytes) => bytes.length + 1
  | .lit _ => 1
  | .nil => 1
  | .ptr d => uptoBulk d + 1
  | .slice elems spare => uptoBulkAll elems + uptoBulkAll spare + 1
  | .agg parts => uptoBulkAll parts + 1
  | .iface _ d => uptoBulk d + 1
  | .map entries => uptoBulkEntries entries + 1
  | .held _ => 1
def uptoBulkAll {H : Type} : List (DataW H) → Nat
  | [] => 0
  | d :: r => uptoBulk d + uptoBulkAll r
def uptoBulkEntries {H : Type} : List (Lit × DataW H) → Nat
  | [] => 0
  | x :: r => uptoBulkEntry x + uptoBulkEntries r
def uptoBulkEntry {H : Type} : Lit × DataW H → Nat
  | (.string bytes, d) => bytes.length + uptoBulk d + 1
  | (_, d) => uptoBulk d + 1
 end
def uptoSmall : (H : Type) → List (DataW H) → Bool := fun _ ds => decide (uptoBulkAll ds ≤ 1048576)
def OpenSpec.upto (s : _root_.Go.ChangeSpec) : _root_.Go.OpenSpec := { _root_.Go.OpenSpec.ofChange s with cond := some uptoSmall }

/-- 'sextetlaw15.PointRises', WHERE WHAT IT READS IS OF BULK AT MOST 1048576: true; the input reads as it did. -/
def pointRisesUptoRow : OpenClaim := { program := "ytmjenjccinfbaaadoor", sum := "441252df204fd01b5acfae5a2f479346e42f08e1f959483334934b0585ae9f8f", func := "sextet/sextetlaw15.PointRises", spec := "pointRises", unfollowed := true, recurses := true, named := ["sextet/api.ErrRange", "sextet/api.ErrMany", "sextet/api.ErrShape"], apart := false, laid := [("sextet/api.ErrShape", laid_sextet_api_ErrShape), ("sextet/api.ErrMany", laid_sextet_api_ErrMany), ("sextet/api.ErrRange", laid_sextet_api_ErrRange)], narrowed := true }
def PointRisesUptoSaid : Prop := pointRisesUptoRow.holds Tryd.pinned (OpenSpec.upto pointRisesSpec)

/-- 'sextetlaw15.PointSpans', WHERE WHAT IT READS IS OF BULK AT MOST 1048576: true; the input reads as it did. -/
def pointSpansUptoRow : OpenClaim := { program := "ytmjenjccinfbaaadoor", sum := "441252df204fd01b5acfae5a2f479346e42f08e1f959483334934b0585ae9f8f", func := "sextet/sextetlaw15.PointSpans", spec := "pointSpans", unfollowed := true, recurses := true, named := ["sextet/api.ErrRange", "sextet/api.ErrMany", "sextet/api.ErrShape", "sextet/api.ErrEnd", "sextet/api.ErrSum", "sextet/api.ErrKind", "sextet/api.ErrNone", "sextet/api.ErrThere", "sextet/api.ErrFull", "sextet/api.ErrCrash", "sextet/api.ErrState", "sextet/api.ErrConflict", "sextet/api.ErrWaits", "sextet/api.ErrLimit", "sextet/api.ErrFenced", "sextet/api.ErrWord", "sextet/api.ErrNumber"], apart := false, laid := [("sextet/api.ErrEnd", laid_sextet_api_ErrEnd), ("sextet/api.ErrSum", laid_sextet_api_ErrSum), ("sextet/api.ErrShape", laid_sextet_api_ErrShape), ("sextet/api.ErrMany", laid_sextet_api_ErrMany), ("sextet/api.ErrRange", laid_sextet_api_ErrRange), ("sextet/api.ErrKind", laid_sextet_api_ErrKind), ("sextet/api.ErrNone", laid_sextet_api_ErrNone), ("sextet/api.ErrThere", laid_sextet_api_ErrThere), ("sextet/api.ErrFull", laid_sextet_api_ErrFull), ("sextet/api.ErrCrash", laid_sextet_api_ErrCrash), ("sextet/api.ErrState", laid_sextet_api_ErrState), ("sextet/api.ErrConflict", laid_sextet_api_ErrConflict), ("sextet/api.ErrWaits", laid_sextet_api_ErrWaits), ("sextet/api.ErrLimit", laid_sextet_api_ErrLimit), ("sextet/api.ErrFenced", laid_sextet_api_ErrFenced), ("sextet/api.ErrWord", laid_sextet_api_ErrWord), ("sextet/api.ErrNumber", laid_sextet_api_ErrNumber)], narrowed := true }
def PointSpansUptoSaid : Prop := pointSpansUptoRow.holds Tryd.pinned (OpenSpec.upto pointSpansSpec)

/-- 'sextetlaw16.LsnPlays', WHERE WHAT IT READS IS OF BULK AT MOST 1048576: true; the input reads as it did. -/
def lsnPlaysUptoRow : OpenClaim := { program := "ytmjenjccinfbaaadoor", sum := "441252df204fd01b5acfae5a2f479346e42f08e1f959483334934b0585ae9f8f", func := "sextet/sextetlaw16.LsnPlays", spec := "lsnPlays", unfollowed := true, recurses := true, named := ["sextet/api.ErrRange", "sextet/api.ErrMany", "sextet/api.ErrShape", "sextet/api.ErrFull", "sextet/api.ErrLimit", "sextet/api.ErrEnd", "sextet/api.ErrSum", "sextet/api.ErrKind", "sextet/api.ErrNone", "sextet/api.ErrThere", "sextet/api.ErrCrash", "sextet/api.ErrState", "sextet/api.ErrConflict", "sextet/api.ErrWaits", "sextet/api.ErrFenced", "sextet/api.ErrWord", "sextet/api.ErrNumber"], apart := false, laid := [("sextet/api.ErrEnd", laid_sextet_api_ErrEnd), ("sextet/api.ErrSum", laid_sextet_api_ErrSum), ("sextet/api.ErrShape", laid_sextet_api_ErrShape), ("sextet/api.ErrMany", laid_sextet_api_ErrMany), ("sextet/api.ErrRange", laid_sextet_api_ErrRange), ("sextet/api.ErrKind", laid_sextet_api_ErrKind), ("sextet/api.ErrNone", laid_sextet_api_ErrNone), ("sextet/api.ErrThere", laid_sextet_api_ErrThere), ("sextet/api.ErrFull", laid_sextet_api_ErrFull), ("sextet/api.ErrCrash", laid_sextet_api_ErrCrash), ("sextet/api.ErrState", laid_sextet_api_ErrState), ("sextet/api.ErrConflict", laid_sextet_api_ErrConflict), ("sextet/api.ErrWaits", laid_sextet_api_ErrWaits), ("sextet/api.ErrLimit", laid_sextet_api_ErrLimit), ("sextet/api.ErrFenced", laid_sextet_api_ErrFenced), ("sextet/api.ErrWord", laid_sextet_api_ErrWord), ("sextet/api.ErrNumber", laid_sextet_api_ErrNumber)], narrowed := true }
def LsnPlaysUptoSaid : Prop := lsnPlaysUptoRow.holds Tryd.pinned (OpenSpec.upto lsnPlaysSpec)

/-- 'sextetlaw16.LsnLimit', WHERE WHAT IT READS IS OF BULK AT MOST 1048576: true; the input reads as it did. -/
def lsnLimitUptoRow : OpenClaim := { program := "ytmjenjccinfbaaadoor", sum := "441252df204fd01b5acfae5a2f479346e42f08e1f959483334934b0585ae9f8f", func := "sextet/sextetlaw16.LsnLimit", spec := "lsnLimit", unfollowed := true, recurses := true, named := ["sextet/api.ErrRange", "sextet/api.ErrMany", "sextet/api.ErrShape", "sextet/api.ErrFull", "sextet/api.ErrLimit", "sextet/api.ErrEnd", "sextet/api.ErrSum", "sextet/api.ErrKind", "sextet/api.ErrNone", "sextet/api.ErrThere", "sextet/api.ErrCrash", "sextet/api.ErrState", "sextet/api.ErrConflict", "sextet/api.ErrWaits", "sextet/api.ErrFenced", "sextet/api.ErrWord", "sextet/api.ErrNumber"], apart := false, laid := [("sextet/api.ErrEnd", laid_sextet_api_ErrEnd), ("sextet/api.ErrSum", laid_sextet_api_ErrSum), ("sextet/api.ErrShape", laid_sextet_api_ErrShape), ("sextet/api.ErrMany", laid_sextet_api_ErrMany), ("sextet/api.ErrRange", laid_sextet_api_ErrRange), ("sextet/api.ErrKind", laid_sextet_api_ErrKind), ("sextet/api.ErrNone", laid_sextet_api_ErrNone), ("sextet/api.ErrThere", laid_sextet_api_ErrThere), ("sextet/api.ErrFull", laid_sextet_api_ErrFull), ("sextet/api.ErrCrash", laid_sextet_api_ErrCrash), ("sextet/api.ErrState", laid_sextet_api_ErrState), ("sextet/api.ErrConflict", laid_sextet_api_ErrConflict), ("sextet/api.ErrWaits", laid_sextet_api_ErrWaits), ("sextet/api.ErrLimit", laid_sextet_api_ErrLimit), ("sextet/api.ErrFenced", laid_sextet_api_ErrFenced), ("sextet/api.ErrWord", laid_sextet_api_ErrWord), ("sextet/api.ErrNumber", laid_sextet_api_ErrNumber)], narrowed := true }
def LsnLimitUptoSaid : Prop := lsnLimitUptoRow.holds Tryd.pinned (OpenSpec.upto lsnLimitSpec)

/-- 'sextetlaw16.LsnSpans', WHERE WHAT IT READS IS OF BULK AT MOST 1048576: true; the input reads as it did. -/
def lsnSpansUptoRow : OpenClaim := { program := "ytmjenjccinfbaaadoor", sum := "441252df204fd01b5acfae5a2f479346e42f08e1f959483334934b0585ae9f8f", func := "sextet/sextetlaw16.LsnSpans", spec := "lsnSpans", unfollowed := true, recurses := true, named := ["sextet/api.ErrRange", "sextet/api.ErrMany", "sextet/api.ErrShape", "sextet/api.ErrFull", "sextet/api.ErrLimit", "sextet/api.ErrEnd", "sextet/api.ErrSum", "sextet/api.ErrKind", "sextet/api.ErrNone", "sextet/api.ErrThere", "sextet/api.ErrCrash", "sextet/api.ErrState", "sextet/api.ErrConflict", "sextet/api.ErrWaits", "sextet/api.ErrFenced", "sextet/api.ErrWord", "sextet/api.ErrNumber"], apart := false, laid := [("sextet/api.ErrEnd", laid_sextet_api_ErrEnd), ("sextet/api.ErrSum", laid_sextet_api_ErrSum), ("sextet/api.ErrShape", laid_sextet_api_ErrShape), ("sextet/api.ErrMany", laid_sextet_api_ErrMany), ("sextet/api.ErrRange", laid_sextet_api_ErrRange), ("sextet/api.ErrKind", laid_sextet_api_ErrKind), ("sextet/api.ErrNone", laid_sextet_api_ErrNone), ("sextet/api.ErrThere", laid_sextet_api_ErrThere), ("sextet/api.ErrFull", laid_sextet_api_ErrFull), ("sextet/api.ErrCrash", laid_sextet_api_ErrCrash), ("sextet/api.ErrState", laid_sextet_api_ErrState), ("sextet/api.ErrConflict", laid_sextet_api_ErrConflict), ("sextet/api.ErrWaits", laid_sextet_api_ErrWaits), ("sextet/api.ErrLimit", laid_sextet_api_ErrLimit), ("sextet/api.ErrFenced", laid_sextet_api_ErrFenced), ("sextet/api.ErrWord", laid_sextet_api_ErrWord), ("sextet/api.ErrNumber", laid_sextet_api_ErrNumber)], narrowed := true }
def LsnSpansUptoSaid : Prop := lsnSpansUptoRow.holds Tryd.pinned (OpenSpec.upto lsnSpansSpec)

/-- 'sextetlaw16.LsnEnd', WHERE WHAT IT READS IS OF BULK AT MOST 1048576: true; the input reads as it did. -/
def lsnEndUptoRow : OpenClaim := { program := "ytmjenjccinfbaaadoor", sum := "441252df204fd01b5acfae5a2f479346e42f08e1f959483334934b0585ae9f8f", func := "sextet/sextetlaw16.LsnEnd", spec := "lsnEnd", unfollowed := true, recurses := true, named := ["sextet/api.ErrRange", "sextet/api.ErrMany", "sextet/api.ErrShape", "sextet/api.ErrFull", "sextet/api.ErrLimit", "sextet/api.ErrEnd", "sextet/api.ErrSum", "sextet/api.ErrKind", "sextet/api.ErrNone", "sextet/api.ErrThere", "sextet/api.ErrCrash", "sextet/api.ErrState", "sextet/api.ErrConflict", "sextet/api.ErrWaits", "sextet/api.ErrFenced", "sextet/api.ErrWord", "sextet/api.ErrNumber"], apart := false, laid := [("sextet/api.ErrEnd", laid_sextet_api_ErrEnd), ("sextet/api.ErrSum", laid_sextet_api_ErrSum), ("sextet/api.ErrShape", laid_sextet_api_ErrShape), ("sextet/api.ErrMany", laid_sextet_api_ErrMany), ("sextet/api.ErrRange", laid_sextet_api_ErrRange), ("sextet/api.ErrKind", laid_sextet_api_ErrKind), ("sextet/api.ErrNone", laid_sextet_api_ErrNone), ("sextet/api.ErrThere", laid_sextet_api_ErrThere), ("sextet/api.ErrFull", laid_sextet_api_ErrFull), ("sextet/api.ErrCrash", laid_sextet_api_ErrCrash), ("sextet/api.ErrState", laid_sextet_api_ErrState), ("sextet/api.ErrConflict", laid_sextet_api_ErrConflict), ("sextet/api.ErrWaits", laid_sextet_api_ErrWaits), ("sextet/api.ErrLimit", laid_sextet_api_ErrLimit), ("sextet/api.ErrFenced", laid_sextet_api_ErrFenced), ("sextet/api.ErrWord", laid_sextet_api_ErrWord), ("sextet/api.ErrNumber", laid_sextet_api_ErrNumber)], narrowed := true }
def LsnEndUptoSaid : Prop := lsnEndUptoRow.holds Tryd.pinned (OpenSpec.upto lsnEndSpec)

/-- 'sextetlaw15.PointLasts', WHERE WHAT IT READS IS OF BULK AT MOST 1048576: true; the input reads as it did. -/
def pointLastsUptoRow : OpenClaim := { program := "ytmjenjccinfbaaadoor", sum := "441252df204fd01b5acfae5a2f479346e42f08e1f959483334934b0585ae9f8f", func := "sextet/sextetlaw15.PointLasts", spec := "pointLasts", unfollowed := true, recurses := true, named := ["sextet/api.ErrRange", "sextet/api.ErrMany", "sextet/api.ErrShape"], apart := false, laid := [("sextet/api.ErrShape", laid_sextet_api_ErrShape), ("sextet/api.ErrMany", laid_sextet_api_ErrMany), ("sextet/api.ErrRange", laid_sextet_api_ErrRange)], narrowed := true }
def PointLastsUptoSaid : Prop := pointLastsUptoRow.holds Tryd.pinned (OpenSpec.upto pointLastsSpec)

/-- 'sextetlaw15.PointOne', WHERE WHAT IT READS IS OF BULK AT MOST 1048576: true; the input reads as it did. -/
def pointOneUptoRow : OpenClaim := { program := "ytmjenjccinfbaaadoor", sum := "441252df204fd01b5acfae5a2f479346e42f08e1f959483334934b0585ae9f8f", func := "sextet/sextetlaw15.PointOne", spec := "pointOne", unfollowed := true, recurses := true, named := ["sextet/api.ErrRange", "sextet/api.ErrMany", "sextet/api.ErrShape"], apart := false, laid := [("sextet/api.ErrShape", laid_sextet_api_ErrShape), ("sextet/api.ErrMany", laid_sextet_api_ErrMany), ("sextet/api.ErrRange", laid_sextet_api_ErrRange)], narrowed := true }
def PointOneUptoSaid : Prop := pointOneUptoRow.holds Tryd.pinned (OpenSpec.upto pointOneSpec)

/-- 'sextetlaw15.PointPlays', WHERE WHAT IT READS IS OF BULK AT MOST 1048576: true; the input reads as it did. -/
def pointPlaysUptoRow : OpenClaim := { program := "ytmjenjccinfbaaadoor", sum := "441252df204fd01b5acfae5a2f479346e42f08e1f959483334934b0585ae9f8f", func := "sextet/sextetlaw15.PointPlays", spec := "pointPlays", unfollowed := true, recurses := true, named := ["sextet/api.ErrRange", "sextet/api.ErrMany", "sextet/api.ErrShape", "sextet/api.ErrEnd", "sextet/api.ErrSum", "sextet/api.ErrKind", "sextet/api.ErrNone", "sextet/api.ErrThere", "sextet/api.ErrFull", "sextet/api.ErrCrash", "sextet/api.ErrState", "sextet/api.ErrConflict", "sextet/api.ErrWaits", "sextet/api.ErrLimit", "sextet/api.ErrFenced", "sextet/api.ErrWord", "sextet/api.ErrNumber"], apart := false, laid := [("sextet/api.ErrEnd", laid_sextet_api_ErrEnd), ("sextet/api.ErrSum", laid_sextet_api_ErrSum), ("sextet/api.ErrShape", laid_sextet_api_ErrShape), ("sextet/api.ErrMany", laid_sextet_api_ErrMany), ("sextet/api.ErrRange", laid_sextet_api_ErrRange), ("sextet/api.ErrKind", laid_sextet_api_ErrKind), ("sextet/api.ErrNone", laid_sextet_api_ErrNone), ("sextet/api.ErrThere", laid_sextet_api_ErrThere), ("sextet/api.ErrFull", laid_sextet_api_ErrFull), ("sextet/api.ErrCrash", laid_sextet_api_ErrCrash), ("sextet/api.ErrState", laid_sextet_api_ErrState), ("sextet/api.ErrConflict", laid_sextet_api_ErrConflict), ("sextet/api.ErrWaits", laid_sextet_api_ErrWaits), ("sextet/api.ErrLimit", laid_sextet_api_ErrLimit), ("sextet/api.ErrFenced", laid_sextet_api_ErrFenced), ("sextet/api.ErrWord", laid_sextet_api_ErrWord), ("sextet/api.ErrNumber", laid_sextet_api_ErrNumber)], narrowed := true }
def PointPlaysUptoSaid : Prop := pointPlaysUptoRow.holds Tryd.pinned (OpenSpec.upto pointPlaysSpec)

/-- 'sextetlaw26.NetBounds', WHERE WHAT IT READS IS OF BULK AT MOST 1048576: true; the input reads as it did. -/
def netBoundsUptoRow : OpenClaim := { program := "ytmjenjccinfbaaadoor", sum := "441252df204fd01b5acfae5a2f479346e42f08e1f959483334934b0585ae9f8f", func := "sextet/sextetlaw26.NetBounds", spec := "netBounds", named := ["sextet/api.ErrKind", "sextet/api.ErrRange", "sextet/api.ErrMany", "sextet/api.ErrShape"], apart := false, laid := [("sextet/api.ErrShape", laid_sextet_api_ErrShape), ("sextet/api.ErrMany", laid_sextet_api_ErrMany), ("sextet/api.ErrRange", laid_sextet_api_ErrRange), ("sextet/api.ErrKind", laid_sextet_api_ErrKind)], narrowed := true }
def NetBoundsUptoSaid : Prop := netBoundsUptoRow.holds Tryd.pinned (OpenSpec.upto netBoundsSpec)

/-- 'sextetlaw26.NetOrder', WHERE WHAT IT READS IS OF BULK AT MOST 1048576: true; the input reads as it did. -/
def netOrderUptoRow : OpenClaim := { program := "ytmjenjccinfbaaadoor", sum := "441252df204fd01b5acfae5a2f479346e42f08e1f959483334934b0585ae9f8f", func := "sextet/sextetlaw26.NetOrder", spec := "netOrder", named := ["sextet/api.ErrKind", "sextet/api.ErrRange", "sextet/api.ErrMany", "sextet/api.ErrShape"], apart := false, laid := [("sextet/api.ErrShape", laid_sextet_api_ErrShape), ("sextet/api.ErrMany", laid_sextet_api_ErrMany), ("sextet/api.ErrRange", laid_sextet_api_ErrRange), ("sextet/api.ErrKind", laid_sextet_api_ErrKind)], narrowed := true }
def NetOrderUptoSaid : Prop := netOrderUptoRow.holds Tryd.pinned (OpenSpec.upto netOrderSpec)

/-- 'sextetlaw26.NetPlays', WHERE WHAT IT READS IS OF BULK AT MOST 1048576: true; the input reads as it did. -/
def netPlaysUptoRow : OpenClaim := { program := "ytmjenjccinfbaaadoor", sum := "441252df204fd01b5acfae5a2f479346e42f08e1f959483334934b0585ae9f8f", func := "sextet/sextetlaw26.NetPlays", spec := "netPlays", unfollowed := true, recurses := true, named := ["sextet/api.ErrKind", "sextet/api.ErrRange", "sextet/api.ErrMany", "sextet/api.ErrShape"], apart := false, laid := [("sextet/api.ErrShape", laid_sextet_api_ErrShape), ("sextet/api.ErrMany", laid_sextet_api_ErrMany), ("sextet/api.ErrRange", laid_sextet_api_ErrRange), ("sextet/api.ErrKind", laid_sextet_api_ErrKind)], narrowed := true }
def NetPlaysUptoSaid : Prop := netPlaysUptoRow.holds Tryd.pinned (OpenSpec.upto netPlaysSpec)

end Rows
end Go.Proofs.YtmjenjccinfbaaaDoor
