/- Chapter 7, in plain Lean: what is enough, of a configuration that may be, as one set. -/
import Derived.Test.YtkojpimkngmckaaDoorConfP
import Derived.Test.YtkojpimkngmckaaDoorConfE
namespace Go.Proofs.YtkojpimkngmckaaDoor
set_option linter.unusedVariables false
set_option linter.unusedSimpArgs false
open Go Go.Fw

def wQ (o n : List D) (k : Int) : QP := if n.length = 0 then .of k (sD o) else .an (.of k (sD o)) (.of k (sD n))
def wL (o n : List D) : List D := if n.length = 0 then (sD o).map D.int else joinL ((sD o).map D.int) ((sD n).map D.int)
def wN (n : List D) : Int := if n.length = 0 then 1 else 2
def wV (o n : List D) (k : Int) : SV := .agg [.dat (.ptr 139) (wQ o n k).enc, .dat (.slice 3) (.list (wL o n)), .int .i64 (wN n)]
theorem enough_w {e : Int} {o n : List D} {k : Int} (h : (validC e o n).isNil = true) : enoughQ e o n k true = some (wQ o n k, wL o n, wN n) := by
  unfold wQ wL wN
  by_cases h0 : n.length = 0
  · obtain rfl : n = [] := List.eq_nil_of_length_eq_zero h0
    exact enough_one h
  · rw [if_neg h0, if_neg h0, if_neg h0]
    exact enough_two h (by omega)
theorem wQ_ok {e : Int} {o n : List D} {k : Int} (h : (validC e o n).isNil = true) : (wQ o n k).ok ∧ (wL o n).length ≤ 16 := by
  obtain ⟨b0, b1, s0, s1, e0, e1⟩ := valid_good h
  obtain ⟨l6, _⟩ := six_good b0 s0
  unfold wQ wL
  by_cases h0 : n.length = 0
  · rw [if_pos h0, if_pos h0]
    exact ⟨of_ok b0 (by omega), by rw [List.length_map, sD_len]; omega⟩
  · rw [if_neg h0, if_neg h0]
    obtain ⟨l6n, _⟩ := six_good b1 (s1 (by omega))
    refine ⟨⟨of_ok b0 (by omega), of_ok b1 (by omega)⟩, ?_⟩
    have := joinL_len ((sD o).map D.int) ((sD n).map D.int)
    rw [List.length_map, List.length_map, sD_len, sD_len] at this
    omega
end Go.Proofs.YtkojpimkngmckaaDoor
