/-
  NARROWER THAN 'FOR EVERY INPUT', by the rows' own cells (each row's printed sentence says how): MsgKinds: laid · MsgBounds: laid · MsgUnlike: laid · MsgBack: laid.
  DERIVED. THE GIVEN ROWS OF THIS SEAT. 4 by the template 'for every input the law returns true; each argument reads behind the call as it read before'; 0 by the template 'total and deterministic' (their statements: YtnpjmmimlhgipaaDoorTotals.lean).
  GIVEN WITH THE SEED: the statements are not yours to turn. If you find one false, say at which input.
  Laid BY PROGRAM, IN A SANDBOX (cutbox-rows.mjs): the forced cells as the released guide's own fill.sh prints them over the translation 593389f03ea11f04… (all of the seat's roots in one cut). By AI agents, Wed Nov 11 2026. No macro, syntax, notation, axiom, sorry.
-/
import Derived.Test.YtnpjmmimlhgipaaDoorChecked
import GoSem.Claim
import GoSem.ClaimJoined
import GoSem.ClaimMapViews
import Derived.JoinedTies
import Derived.KernelRfl
namespace Go.Proofs.YtnpjmmimlhgipaaDoor
/- THE CELL 'sum', in the pinned program and in every row, IS THE sha256 OF THE DUMP (.gsa) THAT YtnpjmmimlhgipaaDoorProg.lean LOADS. Nothing in Lean hashes anything: it is a label: what it is worth is what the hold of that sum in a sandbox is worth. -/
noncomputable def Tryd.pinned : Pinned := { name := "ytnpjmmimlhgipaadoor", sum := "593389f03ea11f0470375a6089ab98a452edbbcf8fa0aea7ca9d67e0c3739453", checked := Tryd.checked }
namespace Rows
def none {H : Type} : Left H := { results := [], args := [] }

/- WHAT THE LISTED PACKAGE-LEVEL VARIABLES READ AS WHEN THE CALL BEGINS. Each datum BY PROGRAM (the guide's laid-datum.mjs) off the statement by which the dump's own 'gosem.cut.vars' lays the variable. In a bare row this is a premise. The card (YtnpjmmimlhgipaaDoorCards.lean) ties it to the program's text. -/
def laid_sextet_api_ErrEnd {H : Type} : DataW H := .iface "*errors.errorString" (.ptr (.agg [.lit (.string [105, 116, 32, 101, 110, 100, 115, 32, 116, 111, 111, 32, 101, 97, 114, 108, 121])]))
def laid_sextet_api_ErrSum {H : Type} : DataW H := .iface "*errors.errorString" (.ptr (.agg [.lit (.string [116, 104, 101, 32, 115, 117, 109, 32, 105, 115, 32, 97, 110, 111, 116, 104, 101, 114, 32, 111, 110, 101])]))
def laid_sextet_api_ErrShape {H : Type} : DataW H := .iface "*errors.errorString" (.ptr (.agg [.lit (.string [110, 111, 116, 32, 97, 115, 32, 105, 116, 32, 104, 97, 115, 32, 116, 111, 32, 98, 101])]))
def laid_sextet_api_ErrMany {H : Type} : DataW H := .iface "*errors.errorString" (.ptr (.agg [.lit (.string [116, 111, 111, 32, 109, 97, 110, 121])]))
def laid_sextet_api_ErrRange {H : Type} : DataW H := .iface "*errors.errorString" (.ptr (.agg [.lit (.string [97, 32, 110, 117, 109, 98, 101, 114, 32, 111, 117, 116, 32, 111, 102, 32, 105, 116, 115, 32, 114, 97, 110, 103, 101])]))
def laid_sextet_api_ErrKind {H : Type} : DataW H := .iface "*errors.errorString" (.ptr (.agg [.lit (.string [110, 111, 32, 115, 117, 99, 104, 32, 107, 105, 110, 100])]))
def laid_sextet_api_ErrNone {H : Type} : DataW H := .iface "*errors.errorString" (.ptr (.agg [.lit (.string [116, 104, 101, 114, 101, 32, 105, 115, 32, 110, 111, 110, 101])]))
def laid_sextet_api_ErrThere {H : Type} : DataW H := .iface "*errors.errorString" (.ptr (.agg [.lit (.string [116, 104, 101, 114, 101, 32, 105, 115, 32, 111, 110, 101])]))
def laid_sextet_api_ErrFull {H : Type} : DataW H := .iface "*errors.errorString" (.ptr (.agg [.lit (.string [116, 104, 101, 114, 101, 32, 105, 115, 32, 110, 111, 32, 114, 111, 111, 109])]))
def laid_sextet_api_ErrCrash {H : Type} : DataW H := .iface "*errors.errorString" (.ptr (.agg [.lit (.string [105, 116, 32, 105, 115, 32, 100, 111, 119, 110])]))
def laid_sextet_api_ErrState {H : Type} : DataW H := .iface "*errors.errorString" (.ptr (.agg [.lit (.string [110, 111, 116, 32, 105, 110, 32, 116, 104, 105, 115, 32, 115, 116, 97, 116, 101])]))
def laid_sextet_api_ErrConflict {H : Type} : DataW H := .iface "*errors.errorString" (.ptr (.agg [.lit (.string [97, 110, 111, 116, 104, 101, 114, 32, 111, 110, 101, 32, 119, 114, 105, 116, 101, 115, 32, 116, 104, 97, 116])]))
def laid_sextet_api_ErrWaits {H : Type} : DataW H := .iface "*errors.errorString" (.ptr (.agg [.lit (.string [105, 116, 32, 119, 97, 105, 116, 115, 32, 102, 111, 114, 32, 97, 32, 112, 97, 103, 101])]))
def laid_sextet_api_ErrLimit {H : Type} : DataW H := .iface "*errors.errorString" (.ptr (.agg [.lit (.string [116, 111, 111, 32, 102, 97, 114, 32, 97, 104, 101, 97, 100, 32, 111, 102, 32, 119, 104, 97, 116, 32, 105, 115, 32, 100, 117, 114, 97, 98, 108, 101])]))
def laid_sextet_api_ErrFenced {H : Type} : DataW H := .iface "*errors.errorString" (.ptr (.agg [.lit (.string [97, 32, 108, 97, 116, 101, 114, 32, 111, 110, 101, 32, 119, 114, 105, 116, 101, 115])]))
def laid_sextet_api_ErrWord {H : Type} : DataW H := .iface "*errors.errorString" (.ptr (.agg [.lit (.string [110, 111, 32, 115, 117, 99, 104, 32, 119, 111, 114, 100])]))
def laid_sextet_api_ErrNumber {H : Type} : DataW H := .iface "*errors.errorString" (.ptr (.agg [.lit (.string [110, 111, 32, 115, 117, 99, 104, 32, 110, 117, 109, 98, 101, 114])]))

/-- 'sextetlaw12.MsgKinds': WHATEVER THE INPUT: true; the input reads as it did. -/
def msgKindsSpec : ChangeSpec := { name := "msgKinds", fn := fun _ => fun
  | [d1, d2] => { results := [.lit (.bool true)], args := [d1, d2] }
  | _ => none }
def msgKindsRow : OpenClaim := { program := "ytnpjmmimlhgipaadoor", sum := "593389f03ea11f0470375a6089ab98a452edbbcf8fa0aea7ca9d67e0c3739453", func := "sextet/sextetlaw12.MsgKinds", spec := "msgKinds", named := ["sextet/api.ErrKind", "sextet/api.ErrRange", "sextet/api.ErrMany", "sextet/api.ErrShape", "sextet/api.ErrEnd", "sextet/api.ErrSum", "sextet/api.ErrNone", "sextet/api.ErrThere", "sextet/api.ErrFull", "sextet/api.ErrCrash", "sextet/api.ErrState", "sextet/api.ErrConflict", "sextet/api.ErrWaits", "sextet/api.ErrLimit", "sextet/api.ErrFenced", "sextet/api.ErrWord", "sextet/api.ErrNumber"], apart := false, laid := [("sextet/api.ErrEnd", laid_sextet_api_ErrEnd), ("sextet/api.ErrSum", laid_sextet_api_ErrSum), ("sextet/api.ErrShape", laid_sextet_api_ErrShape), ("sextet/api.ErrMany", laid_sextet_api_ErrMany), ("sextet/api.ErrRange", laid_sextet_api_ErrRange), ("sextet/api.ErrKind", laid_sextet_api_ErrKind), ("sextet/api.ErrNone", laid_sextet_api_ErrNone), ("sextet/api.ErrThere", laid_sextet_api_ErrThere), ("sextet/api.ErrFull", laid_sextet_api_ErrFull), ("sextet/api.ErrCrash", laid_sextet_api_ErrCrash), ("sextet/api.ErrState", laid_sextet_api_ErrState), ("sextet/api.ErrConflict", laid_sextet_api_ErrConflict), ("sextet/api.ErrWaits", laid_sextet_api_ErrWaits), ("sextet/api.ErrLimit", laid_sextet_api_ErrLimit), ("sextet/api.ErrFenced", laid_sextet_api_ErrFenced), ("sextet/api.ErrWord", laid_sextet_api_ErrWord), ("sextet/api.ErrNumber", laid_sextet_api_ErrNumber)] }
def MsgKindsSaid : Prop := msgKindsRow.holds Tryd.pinned (OpenSpec.ofChange msgKindsSpec)

/-- ITS FALSE NEIGHBOUR: 'it returns false'. Refute it at one input. -/
def msgKindsWrong : ChangeSpec := { name := "msgKinds", fn := fun _ => fun
  | [d1, d2] => { results := [.lit (.bool false)], args := [d1, d2] }
  | _ => none }
def MsgKindsWrongFalsely : Prop := msgKindsRow.holds Tryd.pinned (OpenSpec.ofChange msgKindsWrong)

/-- 'sextetlaw12.MsgBounds': WHATEVER THE INPUT: true; the input reads as it did. -/
def msgBoundsSpec : ChangeSpec := { name := "msgBounds", fn := fun _ => fun
  | [d1, d2, d3, d4, d5, d6] => { results := [.lit (.bool true)], args := [d1, d2, d3, d4, d5, d6] }
  | _ => none }
def msgBoundsRow : OpenClaim := { program := "ytnpjmmimlhgipaadoor", sum := "593389f03ea11f0470375a6089ab98a452edbbcf8fa0aea7ca9d67e0c3739453", func := "sextet/sextetlaw12.MsgBounds", spec := "msgBounds", named := ["sextet/api.ErrKind", "sextet/api.ErrRange", "sextet/api.ErrMany", "sextet/api.ErrShape", "sextet/api.ErrEnd", "sextet/api.ErrSum", "sextet/api.ErrNone", "sextet/api.ErrThere", "sextet/api.ErrFull", "sextet/api.ErrCrash", "sextet/api.ErrState", "sextet/api.ErrConflict", "sextet/api.ErrWaits", "sextet/api.ErrLimit", "sextet/api.ErrFenced", "sextet/api.ErrWord", "sextet/api.ErrNumber"], apart := false, laid := [("sextet/api.ErrEnd", laid_sextet_api_ErrEnd), ("sextet/api.ErrSum", laid_sextet_api_ErrSum), ("sextet/api.ErrShape", laid_sextet_api_ErrShape), ("sextet/api.ErrMany", laid_sextet_api_ErrMany), ("sextet/api.ErrRange", laid_sextet_api_ErrRange), ("sextet/api.ErrKind", laid_sextet_api_ErrKind), ("sextet/api.ErrNone", laid_sextet_api_ErrNone), ("sextet/api.ErrThere", laid_sextet_api_ErrThere), ("sextet/api.ErrFull", laid_sextet_api_ErrFull), ("sextet/api.ErrCrash", laid_sextet_api_ErrCrash), ("sextet/api.ErrState", laid_sextet_api_ErrState), ("sextet/api.ErrConflict", laid_sextet_api_ErrConflict), ("sextet/api.ErrWaits", laid_sextet_api_ErrWaits), ("sextet/api.ErrLimit", laid_sextet_api_ErrLimit), ("sextet/api.ErrFenced", laid_sextet_api_ErrFenced), ("sextet/api.ErrWord", laid_sextet_api_ErrWord), ("sextet/api.ErrNumber", laid_sextet_api_ErrNumber)] }
def MsgBoundsSaid : Prop := msgBoundsRow.holds Tryd.pinned (OpenSpec.ofChange msgBoundsSpec)

/-- ITS FALSE NEIGHBOUR: 'it returns false'. Refute it at one input. -/
def msgBoundsWrong : ChangeSpec := { name := "msgBounds", fn := fun _ => fun
  | [d1, d2, d3, d4, d5, d6] => { results := [.lit (.bool false)], args := [d1, d2, d3, d4, d5, d6] }
  | _ => none }
def MsgBoundsWrongFalsely : Prop := msgBoundsRow.holds Tryd.pinned (OpenSpec.ofChange msgBoundsWrong)

/-- 'sextetlaw12.MsgUnlike': WHATEVER THE INPUT: true; the input reads as it did. -/
def msgUnlikeSpec : ChangeSpec := { name := "msgUnlike", fn := fun _ => fun
  | [d1, d2] => { results := [.lit (.bool true)], args := [d1, d2] }
  | _ => none }
def msgUnlikeRow : OpenClaim := { program := "ytnpjmmimlhgipaadoor", sum := "593389f03ea11f0470375a6089ab98a452edbbcf8fa0aea7ca9d67e0c3739453", func := "sextet/sextetlaw12.MsgUnlike", spec := "msgUnlike", unfollowed := true, recurses := true, named := ["sextet/api.ErrKind", "sextet/api.ErrRange", "sextet/api.ErrMany", "sextet/api.ErrShape"], apart := false, laid := [("sextet/api.ErrShape", laid_sextet_api_ErrShape), ("sextet/api.ErrMany", laid_sextet_api_ErrMany), ("sextet/api.ErrRange", laid_sextet_api_ErrRange), ("sextet/api.ErrKind", laid_sextet_api_ErrKind)] }
def MsgUnlikeSaid : Prop := msgUnlikeRow.holds Tryd.pinned (OpenSpec.ofChange msgUnlikeSpec)

/-- ITS FALSE NEIGHBOUR: 'it returns false'. Refute it at one input. -/
def msgUnlikeWrong : ChangeSpec := { name := "msgUnlike", fn := fun _ => fun
  | [d1, d2] => { results := [.lit (.bool false)], args := [d1, d2] }
  | _ => none }
def MsgUnlikeWrongFalsely : Prop := msgUnlikeRow.holds Tryd.pinned (OpenSpec.ofChange msgUnlikeWrong)

/-- 'sextetlaw12.MsgBack': WHATEVER THE INPUT: true; the input reads as it did. -/
def msgBackSpec : ChangeSpec := { name := "msgBack", fn := fun _ => fun
  | [d1, d2, d3] => { results := [.lit (.bool true)], args := [d1, d2, d3] }
  | _ => none }
def msgBackRow : OpenClaim := { program := "ytnpjmmimlhgipaadoor", sum := "593389f03ea11f0470375a6089ab98a452edbbcf8fa0aea7ca9d67e0c3739453", func := "sextet/sextetlaw12.MsgBack", spec := "msgBack", unfollowed := true, recurses := true, named := ["sextet/api.ErrKind", "sextet/api.ErrRange", "sextet/api.ErrMany", "sextet/api.ErrShape", "sextet/api.ErrEnd", "sextet/api.ErrSum", "sextet/api.ErrNone", "sextet/api.ErrThere", "sextet/api.ErrFull", "sextet/api.ErrCrash", "sextet/api.ErrState", "sextet/api.ErrConflict", "sextet/api.ErrWaits", "sextet/api.ErrLimit", "sextet/api.ErrFenced", "sextet/api.ErrWord", "sextet/api.ErrNumber"], apart := false, laid := [("sextet/api.ErrEnd", laid_sextet_api_ErrEnd), ("sextet/api.ErrSum", laid_sextet_api_ErrSum), ("sextet/api.ErrShape", laid_sextet_api_ErrShape), ("sextet/api.ErrMany", laid_sextet_api_ErrMany), ("sextet/api.ErrRange", laid_sextet_api_ErrRange), ("sextet/api.ErrKind", laid_sextet_api_ErrKind), ("sextet/api.ErrNone", laid_sextet_api_ErrNone), ("sextet/api.ErrThere", laid_sextet_api_ErrThere), ("sextet/api.ErrFull", laid_sextet_api_ErrFull), ("sextet/api.ErrCrash", laid_sextet_api_ErrCrash), ("sextet/api.ErrState", laid_sextet_api_ErrState), ("sextet/api.ErrConflict", laid_sextet_api_ErrConflict), ("sextet/api.ErrWaits", laid_sextet_api_ErrWaits), ("sextet/api.ErrLimit", laid_sextet_api_ErrLimit), ("sextet/api.ErrFenced", laid_sextet_api_ErrFenced), ("sextet/api.ErrWord", laid_sextet_api_ErrWord), ("sextet/api.ErrNumber", laid_sextet_api_ErrNumber)] }
def MsgBackSaid : Prop := msgBackRow.holds Tryd.pinned (OpenSpec.ofChange msgBackSpec)

/-- ITS FALSE NEIGHBOUR: 'it returns false'. Refute it at one input. -/
def msgBackWrong : ChangeSpec := { name := "msgBack", fn := fun _ => fun
  | [d1, d2, d3] => { results := [.lit (.bool false)], args := [d1, d2, d3] }
  | _ => none }
def MsgBackWrongFalsely : Prop := msgBackRow.holds Tryd.pinned (OpenSpec.ofChange msgBackWrong)

/- THE SECOND FORM. 'bulk': how many values and letters a reading holds, each counted each time it is reached (what is shared counts as often as it is met; a slice's spare places count too). A statement '..UptoSaid' is the law's where the arguments, and the package variables that the reading takes, are together of bulk at most 1048576: NARROWER than '..Said'. Prove '..Said' where nothing that the law and all that it calls make is longer than what came in: it says more and counts as full. Else prove '..UptoSaid'. A law counts once. -/
mutual
def uptoBulk {H : Type} : DataW H → Nat
  | .lit (.string bytes) => bytes.length + 1
  | .lit _ => 1
  | .nil => 1
  | .ptr d => uptoBulk d + 1
  | .slice elems spare => uptoBulkAll elems + uptoBulkAll spare + 1
  | .agg parts => uptoBulkAll parts + 1
  | .iface _ d => uptoBulk d + 1
  | .map entries => uptoBulkEntries entries + 1
  | .held _ => 1
def uptoBulkAll {H : Type} : List (DataW H) → Nat
  | [] => 0
  | d :: r => uptoBulk d + uptoBulkAll r
def uptoBulkEntries {H : Type} : List (Lit × DataW H) → Nat
  | [] => 0
  | x :: r => uptoBulkEntry x + uptoBulkEntries r
def uptoBulkEntry {H : Type} : Lit × DataW H → Nat
  | (.string bytes, d) => bytes.length + uptoBulk d + 1
  | (_, d) => uptoBulk d + 1
 end
def uptoSmall : (H : Type) → List (DataW H) → Bool := fun _ ds => decide (uptoBulkAll ds ≤ 1048576)
def OpenSpec.upto (s : _root_.Go.ChangeSpec) : _root_.Go.OpenSpec := { _root_.Go.OpenSpec.ofChange s with cond := some uptoSmall }

/-- 'sextetlaw12.MsgKinds', WHERE WHAT IT READS IS OF BULK AT MOST 1048576: true; the input reads as it did. -/
def msgKindsUptoRow : OpenClaim := { program := "ytnpjmmimlhgipaadoor", sum := "593389f03ea11f0470375a6089ab98a452edbbcf8fa0aea7ca9d67e0c3739453", func := "sextet/sextetlaw12.MsgKinds", spec := "msgKinds", named := ["sextet/api.ErrKind", "sextet/api.ErrRange", "sextet/api.ErrMany", "sextet/api.ErrShape", "sextet/api.ErrEnd", "sextet/api.ErrSum", "sextet/api.ErrNone", "sextet/api.ErrThere", "sextet/api.ErrFull", "sextet/api.ErrCrash", "sextet/api.ErrState", "sextet/api.ErrConflict", "sextet/api.ErrWaits", "sextet/api.ErrLimit", "sextet/api.ErrFenced", "sextet/api.ErrWord", "sextet/api.ErrNumber"], apart := false, laid := [("sextet/api.ErrEnd", laid_sextet_api_ErrEnd), ("sextet/api.ErrSum", laid_sextet_api_ErrSum), ("sextet/api.ErrShape", laid_sextet_api_ErrShape), ("sextet/api.ErrMany", laid_sextet_api_ErrMany), ("sextet/api.ErrRange", laid_sextet_api_ErrRange), ("sextet/api.ErrKind", laid_sextet_api_ErrKind), ("sextet/api.ErrNone", laid_sextet_api_ErrNone), ("sextet/api.ErrThere", laid_sextet_api_ErrThere), ("sextet/api.ErrFull", laid_sextet_api_ErrFull), ("sextet/api.ErrCrash", laid_sextet_api_ErrCrash), ("sextet/api.ErrState", laid_sextet_api_ErrState), ("sextet/api.ErrConflict", laid_sextet_api_ErrConflict), ("sextet/api.ErrWaits", laid_sextet_api_ErrWaits), ("sextet/api.ErrLimit", laid_sextet_api_ErrLimit), ("sextet/api.ErrFenced", laid_sextet_api_ErrFenced), ("sextet/api.ErrWord", laid_sextet_api_ErrWord), ("sextet/api.ErrNumber", laid_sextet_api_ErrNumber)], narrowed := true }
def MsgKindsUptoSaid : Prop := msgKindsUptoRow.holds Tryd.pinned (OpenSpec.upto msgKindsSpec)

/-- 'sextetlaw12.MsgBounds', WHERE WHAT IT READS IS OF BULK AT MOST 1048576: true; the input reads as it did. -/
def msgBoundsUptoRow : OpenClaim := { program := "ytnpjmmimlhgipaadoor", sum := "593389f03ea11f0470375a6089ab98a452edbbcf8fa0aea7ca9d67e0c3739453", func := "sextet/sextetlaw12.MsgBounds", spec := "msgBounds", named := ["sextet/api.ErrKind", "sextet/api.ErrRange", "sextet/api.ErrMany", "sextet/api.ErrShape", "sextet/api.ErrEnd", "sextet/api.ErrSum", "sextet/api.ErrNone", "sextet/api.ErrThere", "sextet/api.ErrFull", "sextet/api.ErrCrash", "sextet/api.ErrState", "sextet/api.ErrConflict", "sextet/api.ErrWaits", "sextet/api.ErrLimit", "sextet/api.ErrFenced", "sextet/api.ErrWord", "sextet/api.ErrNumber"], apart := false, laid := [("sextet/api.ErrEnd", laid_sextet_api_ErrEnd), ("sextet/api.ErrSum", laid_sextet_api_ErrSum), ("sextet/api.ErrShape", laid_sextet_api_ErrShape), ("sextet/api.ErrMany", laid_sextet_api_ErrMany), ("sextet/api.ErrRange", laid_sextet_api_ErrRange), ("sextet/api.ErrKind", laid_sextet_api_ErrKind), ("sextet/api.ErrNone", laid_sextet_api_ErrNone), ("sextet/api.ErrThere", laid_sextet_api_ErrThere), ("sextet/api.ErrFull", laid_sextet_api_ErrFull), ("sextet/api.ErrCrash", laid_sextet_api_ErrCrash), ("sextet/api.ErrState", laid_sextet_api_ErrState), ("sextet/api.ErrConflict", laid_sextet_api_ErrConflict), ("sextet/api.ErrWaits", laid_sextet_api_ErrWaits), ("sextet/api.ErrLimit", laid_sextet_api_ErrLimit), ("sextet/api.ErrFenced", laid_sextet_api_ErrFenced), ("sextet/api.ErrWord", laid_sextet_api_ErrWord), ("sextet/api.ErrNumber", laid_sextet_api_ErrNumber)], narrowed := true }
def MsgBoundsUptoSaid : Prop := msgBoundsUptoRow.holds Tryd.pinned (OpenSpec.upto msgBoundsSpec)

/-- 'sextetlaw12.MsgUnlike', WHERE WHAT IT READS IS OF BULK AT MOST 1048576: true; the input reads as it did. -/
def msgUnlikeUptoRow : OpenClaim := { program := "ytnpjmmimlhgipaadoor", sum := "593389f03ea11f0470375a6089ab98a452edbbcf8fa0aea7ca9d67e0c3739453", func := "sextet/sextetlaw12.MsgUnlike", spec := "msgUnlike", unfollowed := true, recurses := true, named := ["sextet/api.ErrKind", "sextet/api.ErrRange", "sextet/api.ErrMany", "sextet/api.ErrShape"], apart := false, laid := [("sextet/api.ErrShape", laid_sextet_api_ErrShape), ("sextet/api.ErrMany", laid_sextet_api_ErrMany), ("sextet/api.ErrRange", laid_sextet_api_ErrRange), ("sextet/api.ErrKind", laid_sextet_api_ErrKind)], narrowed := true }
def MsgUnlikeUptoSaid : Prop := msgUnlikeUptoRow.holds Tryd.pinned (OpenSpec.upto msgUnlikeSpec)

/-- 'sextetlaw12.MsgBack', WHERE WHAT IT READS IS OF BULK AT MOST 1048576: true; the input reads as it did. -/
def msgBackUptoRow : OpenClaim := { program := "ytnpjmmimlhgipaadoor", sum := "593389f03ea11f0470375a6089ab98a452edbbcf8fa0aea7ca9d67e0c3739453", func := "sextet/sextetlaw12.MsgBack", spec := "msgBack", unfollowed := true, recurses := true, named := ["sextet/api.ErrKind", "sextet/api.ErrRange", "sextet/api.ErrMany", "sextet/api.ErrShape", "sextet/api.ErrEnd", "sextet/api.ErrSum", "sextet/api.ErrNone", "sextet/api.ErrThere", "sextet/api.ErrFull", "sextet/api.ErrCrash", "sextet/api.ErrState", "sextet/api.ErrConflict", "sextet/api.ErrWaits", "sextet/api.ErrLimit", "sextet/api.ErrFenced", "sextet/api.ErrWord", "sextet/api.ErrNumber"], apart := false, laid := [("sextet/api.ErrEnd", laid_sextet_api_ErrEnd), ("sextet/api.ErrSum", laid_sextet_api_ErrSum), ("sextet/api.ErrShape", laid_sextet_api_ErrShape), ("sextet/api.ErrMany", laid_sextet_api_ErrMany), ("sextet/api.ErrRange", laid_sextet_api_ErrRange), ("sextet/api.ErrKind", laid_sextet_api_ErrKind), ("sextet/api.ErrNone", laid_sextet_api_ErrNone), ("sextet/api.ErrThere", laid_sextet_api_ErrThere), ("sextet/api.ErrFull", laid_sextet_api_ErrFull), ("sextet/api.ErrCrash", laid_sextet_api_ErrCrash), ("sextet/api.ErrState", laid_sextet_api_ErrState), ("sextet/api.ErrConflict", laid_sextet_api_ErrConflict), ("sextet/api.ErrWaits", laid_sextet_api_ErrWaits), ("sextet/api.ErrLimit", laid_sextet_api_ErrLimit), ("sextet/api.ErrFenced", laid_sextet_api_ErrFenced), ("sextet/api.ErrWord", laid_sextet_api_ErrWord), ("sextet/api.ErrNumber", laid_sextet_api_ErrNumber)], narrowed := true }
def MsgBackUptoSaid : Prop := msgBackUptoRow.holds Tryd.pinned (OpenSpec.upto msgBackSpec)

end Rows
end Go.Proofs.YtnpjmmimlhgipaaDoor
