/- Chapter 2: errors with their places. -/
import Derived.Test.YthkpajefghmnaaaDoorWireF
namespace Go.Proofs.YthkpajefghmnaaaDoor
set_option linter.unusedVariables false
set_option linter.unusedSimpArgs false
open Go Go.Fw Go.Wire

theorem fault_atD {x : Nat} (h : x ∈ errIds) (p : Nat) : fOk (.dat .iface (atD p x)) = True ∧ fC (.dat .iface (atD p x)) = 101 + (errIds.idxOf x : Int) ∧ fB (.dat .iface (atD p x)) = true ∧ fP (.dat .iface (atD p x)) = (p : Int) :=
  fault_at h p
theorem fault_atR (p : Nat) : fOk (.dat .iface (atD p 0)) = True ∧ fC (.dat .iface (atD p 0)) = 105 ∧ fB (.dat .iface (atD p 0)) = true ∧ fP (.dat .iface (atD p 0)) = (p : Int) := fault_atD (by decide) p
theorem fault_atS (p : Nat) : fOk (.dat .iface (atD p 3)) = True ∧ fC (.dat .iface (atD p 3)) = 103 ∧ fB (.dat .iface (atD p 3)) = true ∧ fP (.dat .iface (atD p 3)) = (p : Int) := fault_atD (by decide) p
theorem fault_atE (p : Nat) : fOk (.dat .iface (atD p 1)) = True ∧ fC (.dat .iface (atD p 1)) = 101 ∧ fB (.dat .iface (atD p 1)) = true ∧ fP (.dat .iface (atD p 1)) = (p : Int) := fault_atD (by decide) p
theorem n101 : ((101 : Int) = 0) = False := by simp
theorem n103 : ((103 : Int) = 0) = False := by simp
theorem n105 : ((105 : Int) = 0) = False := by simp
theorem z00 : (((0 : Nat) : Int) == 0) = true := rfl
theorem z01 : ((0 : Int) == 1) = false := rfl
theorem atD_nil (p g : Nat) : (atD p g).isNil = false := rfl

end Go.Proofs.YthkpajefghmnaaaDoor
