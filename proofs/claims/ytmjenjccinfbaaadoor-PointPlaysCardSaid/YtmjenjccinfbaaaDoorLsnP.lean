/- Chapter 16 in plain Lean: the numbers that are given. -/
import Derived.Test.YtmjenjccinfbaaaDoorSpanC
namespace Go.Proofs.YtmjenjccinfbaaaDoor
set_option linter.unusedVariables false
set_option linter.unusedSimpArgs false
open Go Go.Fw

/-- The numbers behind one, one by one. -/
noncomputable def seqN (l : List D) (a : Int) : Nat → Int
  | 0 => a
  | k + 1 => nextF l (seqN l a k)
theorem seqN_succ (l : List D) (a : Int) (k : Nat) : seqN l a (k + 1) = nextF l (seqN l a k) := rfl
theorem seqN_lt (l : List D) (a : Int) (k : Nat) : seqN l a k < seqN l a (k + 1) := (nextF_is l _).1
theorem next_le {l : List D} {n T : Int} (h : ∀ s ∈ l, spT s ≤ T) : nextF l n ≤ max (n + 1) (T + 1) := by
  have hn := nextF_is l n
  apply Int.not_lt.1
  intro hlt
  obtain ⟨s, hs, h1⟩ := hn.2.2 (max (n + 1) (T + 1)) (by omega) hlt
  have := h s hs
  have := h1.2
  omega
theorem seqN_bd {l : List D} {T : Int} (h : ∀ s ∈ l, spT s ≤ T) (a : Int) : ∀ k : Nat, a + k ≤ seqN l a k ∧ seqN l a k ≤ max a T + k
  | 0 => by simp only [seqN]; omega
  | k + 1 => by
    have := seqN_bd h a k
    have := seqN_lt l a k
    have := next_le (n := seqN l a k) h
    rw [seqN_succ] at *
    omega
noncomputable def seqL (l : List D) (a : Int) (n : Nat) : List D := (List.range n).map fun k => .int (seqN l a (k + 1))
theorem seqL_len (l : List D) (a : Int) (n : Nat) : (seqL l a n).length = n := by simp [seqL]
theorem seqL_succ (l : List D) (a : Int) (n : Nat) : seqL l a n ++ [.int (seqN l a (n + 1))] = seqL l a (n + 1) := by simp [seqL, List.range_succ]
theorem seqL_get {l : List D} {a : Int} {n i : Nat} (h : i < n) : (seqL l a n).getD i .nil = .int (seqN l a (i + 1)) := by
  simp [seqL, List.getD_eq_getElem?_getD, List.getElem?_map, List.getElem?_range h]
/-- What is amiss with a number. -/
def fitsD (l : List D) (n vdl : Int) : D := if 1099511627776 < n then .err 3 else if max vdl (topF l) < n - 512 then .err 4 else .nil
theorem fits_nil {l : List D} {n vdl : Int} : (fitsD l n vdl).isNil = true ↔ n ≤ 1099511627776 ∧ n - 512 ≤ max vdl (topF l) := by
  unfold fitsD
  by_cases h1 : 1099511627776 < n
  · rw [if_pos h1, nil_err]; constructor
    · intro h; cases h
    · intro h; omega
  · rw [if_neg h1]
    by_cases h2 : max vdl (topF l) < n - 512
    · rw [if_pos h2, nil_err]; constructor
      · intro h; cases h
      · intro h; omega
    · rw [if_neg h2, nil_nil]; constructor
      · intro _; omega
      · intro _; rfl
theorem fits_not {l : List D} {n vdl : Int} : (fitsD l n vdl).isNil = false ↔ ¬ (n ≤ 1099511627776 ∧ n - 512 ≤ max vdl (topF l)) := by
  rw [← fits_nil, Bool.not_eq_true]
/-- How many could be given. -/
noncomputable def roomF (l : List D) (a vdl : Int) : Nat := ((List.range 512).find? fun k => !(fitsD l (seqN l a (k + 1)) vdl).isNil).getD 512
theorem roomF_eq {l : List D} {a vdl : Int} {k : Nat} (hk : k ≤ 512) (h : ∀ j, j < k → (fitsD l (seqN l a (j + 1)) vdl).isNil = true) (h2 : k = 512 ∨ (fitsD l (seqN l a (k + 1)) vdl).isNil = false) : roomF l a vdl = k := by
  unfold roomF
  rcases h2 with rfl | h2
  · have : ((List.range 512).find? fun k => !(fitsD l (seqN l a (k + 1)) vdl).isNil) = none := by
      rw [List.find?_eq_none]
      intro x hx
      rw [h x (List.mem_range.1 hx)]; simp
    rw [this]; rfl
  · have hlt : k < 512 ∨ k = 512 := by omega
    rcases hlt with hlt | rfl
    · have : ((List.range 512).find? fun k => !(fitsD l (seqN l a (k + 1)) vdl).isNil) = some k := by
        rw [List.find?_eq_some_iff_getElem]
        refine ⟨by rw [h2]; rfl, k, by simpa using hlt, by simp, fun j hj => ?_⟩
        rw [List.getElem_range, h j hj]; rfl
      rw [this]; rfl
    · have : ((List.range 512).find? fun k => !(fitsD l (seqN l a (k + 1)) vdl).isNil) = none := by
        rw [List.find?_eq_none]
        intro x hx
        rw [h x (List.mem_range.1 hx)]; simp
      rw [this]; rfl
end Go.Proofs.YtmjenjccinfbaaaDoor
