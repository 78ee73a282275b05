/- Chapter 7, in plain Lean: which configurations the laws meet. -/
import Derived.Test.YtkojpimkngmckaaDoorConfP
namespace Go.Proofs.YtkojpimkngmckaaDoor
set_option linter.unusedVariables false
set_option linter.unusedSimpArgs false
open Go Go.Fw

theorem tdiv_range {z b : Int} (h : -9223372036854775808 ≤ z ∧ z ≤ 9223372036854775807) (hb : 0 < b) : -9223372036854775808 ≤ z.tdiv b ∧ z.tdiv b ≤ 9223372036854775807 := by
  have h1 : (z.tdiv b).natAbs ≤ z.natAbs := by
    rw [Int.natAbs_tdiv]
    exact Nat.div_le_self _ _
  by_cases h0 : 0 ≤ z
  · have := Int.tdiv_nonneg h0 (Int.le_of_lt hb)
    omega
  · have h2 : z.tdiv b = -((-z).tdiv b) := by rw [Int.neg_tdiv, Int.neg_neg]
    have := Int.tdiv_nonneg (a := -z) (by omega) (Int.le_of_lt hb)
    omega
/-- A configuration that the law meets. -/
def stepOk (o n : List D) : Prop := badI o = false ∧ sixB o = true ∧ (n = [] ∨ badI n = false ∧ sixB n = true ∧ commonN o n = 5)
theorem step_valid {e : Int} {o n : List D} (h : stepOk o n) (he : 0 ≤ e ∧ e ≤ 1073741824) : validC e o n = .nil := by
  obtain ⟨h1, h2, h3⟩ := h
  refine valid_of he h1 ?_ h2 (fun hn => ?_)
  · rcases h3 with rfl | h3
    · rfl
    · exact h3.1
  · rcases h3 with rfl | h3
    · simp at hn
    · exact h3.2
end Go.Proofs.YtkojpimkngmckaaDoor
