/- Chapter 8 in plain Lean: which spans may be, the next number. -/
import Derived.Test.YtmjenjccinfbaaaDoorAt
namespace Go.Proofs.YtmjenjccinfbaaaDoor
set_option linter.unusedVariables false
set_option linter.unusedSimpArgs false
open Go Go.Fw

def spE (d : D) : Int := (d.fld 0).i
def spF (d : D) : Int := (d.fld 1).i
def spT (d : D) : Int := (d.fld 2).i
/-- What is amiss with the i-th span. -/
def okAt (l : List D) (i : Nat) : D :=
  if spE (l.getD i .nil) < 1 ∨ 1073741824 < spE (l.getD i .nil) ∨ spF (l.getD i .nil) < 0 ∨ spT (l.getD i .nil) ≤ spF (l.getD i .nil) ∨ 1099511627776 < spT (l.getD i .nil) then atD i 0
  else if 0 < i ∧ (spE (l.getD i .nil) ≤ spE (l.getD (i - 1) .nil) ∨ spT (l.getD i .nil) ≤ spT (l.getD (i - 1) .nil)) then atD i 1
  else .nil
/-- What is amiss with spans. -/
def validD (l : List D) : D := if 64 < l.length then .err 2 else (((List.range l.length).map (okAt l)).find? (fun e => !e.isNil)).getD .nil
theorem validD_many {l : List D} (h : 64 < l.length) : validD l = .err 2 := if_pos h
theorem validD_nil {l : List D} (h : l.length ≤ 64) (h2 : ∀ i, i < l.length → okAt l i = .nil) : validD l = .nil := by
  unfold validD
  rw [if_neg (by omega)]
  have : ((List.range l.length).map (okAt l)).find? (fun e => !e.isNil) = none := by
    rw [List.find?_eq_none]
    intro x hx
    obtain ⟨i, hi, rfl⟩ := List.mem_map.1 hx
    rw [h2 i (List.mem_range.1 hi)]
    simp [D.isNil]
  rw [this]; rfl
theorem find_range {p : D → Bool} {f : Nat → D} {i : Nat} : ∀ {n : Nat}, i < n → (∀ j, j < i → p (f j) = false) → p (f i) = true → ((List.range n).map f).find? p = some (f i)
  | 0, h, _, _ => by omega
  | n + 1, h, h1, h2 => by
    rw [List.range_succ, List.map_append, List.find?_append]
    by_cases e : i < n
    · rw [find_range e h1 h2]; rfl
    · have e : i = n := by omega
      subst e
      have : ((List.range i).map f).find? p = none := by
        rw [List.find?_eq_none]
        intro x hx
        obtain ⟨j, hj, rfl⟩ := List.mem_map.1 hx
        rw [h1 j (List.mem_range.1 hj)]; simp
      rw [this]
      simp [h2]
theorem validD_at {l : List D} {i : Nat} (h : l.length ≤ 64) (hi : i < l.length) (h1 : ∀ j, j < i → okAt l j = .nil) (h2 : (okAt l i).isNil = false) : validD l = okAt l i := by
  unfold validD
  rw [if_neg (by omega), find_range hi (fun j hj => by rw [h1 j hj]; rfl) (by rw [h2]; rfl)]
  rfl
theorem okAt_range {l : List D} {i : Nat} (h : spE (l.getD i .nil) < 1 ∨ 1073741824 < spE (l.getD i .nil) ∨ spF (l.getD i .nil) < 0 ∨ spT (l.getD i .nil) ≤ spF (l.getD i .nil) ∨ 1099511627776 < spT (l.getD i .nil)) : okAt l i = atD i 0 := if_pos h
theorem okAt_shape {l : List D} {i : Nat} (h : ¬ (spE (l.getD i .nil) < 1 ∨ 1073741824 < spE (l.getD i .nil) ∨ spF (l.getD i .nil) < 0 ∨ spT (l.getD i .nil) ≤ spF (l.getD i .nil) ∨ 1099511627776 < spT (l.getD i .nil))) (h2 : 0 < i ∧ (spE (l.getD i .nil) ≤ spE (l.getD (i - 1) .nil) ∨ spT (l.getD i .nil) ≤ spT (l.getD (i - 1) .nil))) : okAt l i = atD i 1 := by
  unfold okAt; rw [if_neg h]; exact if_pos h2
theorem okAt_ok {l : List D} {i : Nat} (h : ¬ (spE (l.getD i .nil) < 1 ∨ 1073741824 < spE (l.getD i .nil) ∨ spF (l.getD i .nil) < 0 ∨ spT (l.getD i .nil) ≤ spF (l.getD i .nil) ∨ 1099511627776 < spT (l.getD i .nil))) (h2 : ¬ (0 < i ∧ (spE (l.getD i .nil) ≤ spE (l.getD (i - 1) .nil) ∨ spT (l.getD i .nil) ≤ spT (l.getD (i - 1) .nil)))) : okAt l i = .nil := by
  unfold okAt; rw [if_neg h]; exact if_neg h2
theorem getD_app_lt {l : List D} {s : List D} {i : Nat} (h : i < l.length) : (l ++ s).getD i .nil = l.getD i .nil := by
  simp only [List.getD_eq_getElem?_getD, List.getElem?_append_left h]
theorem getD_app_eq {l : List D} {s : D} : (l ++ [s]).getD l.length .nil = s := by
  simp [List.getD_eq_getElem?_getD]
theorem okAt_app {l s : List D} {i : Nat} (h : i < l.length) : okAt (l ++ s) i = okAt l i := by
  unfold okAt
  rw [getD_app_lt h]
  by_cases h0 : 0 < i
  · rw [getD_app_lt (i := i - 1) (by omega)]
  · have : i = 0 := by omega
    subst this
    simp
/-- Whether a span has a number. -/
def hasD (d : D) (n : Int) : Prop := spF d < n ∧ n ≤ spT d
instance (d : D) (n : Int) : Decidable (hasD d n) := inferInstanceAs (Decidable (_ ∧ _))
/-- The first number above one that no span has. -/
def IsNext (l : List D) (n m : Int) : Prop := n < m ∧ (∀ s ∈ l, ¬ hasD s m) ∧ ∀ k, n < k → k < m → ∃ s ∈ l, hasD s k
theorem isNext_unique {l : List D} {n m m' : Int} (h : IsNext l n m) (h' : IsNext l n m') : m = m' := by
  rcases Int.lt_trichotomy m m' with e | e | e
  · obtain ⟨s, hs, h1⟩ := h'.2.2 m h.1 e
    exact absurd h1 (h.2.1 s hs)
  · exact e
  · obtain ⟨s, hs, h1⟩ := h.2.2 m' h'.1 e
    exact absurd h1 (h'.2.1 s hs)
theorem exists_top : ∀ l : List D, ∃ t : Int, ∀ s ∈ l, spT s ≤ t
  | [] => ⟨0, fun _ h => by simp at h⟩
  | d :: l => by
    obtain ⟨t, ht⟩ := exists_top l
    refine ⟨max (spT d) t, fun s hs => ?_⟩
    rcases List.mem_cons.1 hs with rfl | hs
    · exact Int.le_max_left _ _
    · exact Int.le_trans (ht s hs) (Int.le_max_right _ _)
theorem exists_next (l : List D) (n : Int) : ∃ m, IsNext l n m := by
  obtain ⟨t, ht⟩ := exists_top l
  have key : ∀ (g : Nat) (m : Int), t + 1 - m ≤ g → n < m → (∀ k, n < k → k < m → ∃ s ∈ l, hasD s k) → ∃ m, IsNext l n m := by
    intro g
    induction g with
    | zero =>
      intro m hm h1 h2
      exact ⟨m, h1, fun s hs h => by have := ht s hs; unfold hasD at h; omega, h2⟩
    | succ g ih =>
      intro m hm h1 h2
      by_cases h : ∃ s ∈ l, hasD s m
      · refine ih (m + 1) (by omega) (by omega) (fun k hk hk2 => ?_)
        by_cases e : k = m
        · subst e; exact h
        · exact h2 k hk (by omega)
      · exact ⟨m, h1, fun s hs hh => h ⟨s, hs, hh⟩, h2⟩
  exact key (t + 1 - (n + 1)).toNat (n + 1) (by omega) (by omega) (fun k hk hk2 => by omega)
noncomputable def nextF (l : List D) (n : Int) : Int := Classical.choose (exists_next l n)
theorem nextF_is (l : List D) (n : Int) : IsNext l n (nextF l n) := Classical.choose_spec (exists_next l n)
theorem nextF_eq {l : List D} {n m : Int} (h : IsNext l n m) : nextF l n = m := isNext_unique (nextF_is l n) h
/-- The last one's To. -/
def topF (l : List D) : Int := if l.length = 0 then 0 else spT (l.getD (l.length - 1) .nil)
/-- Whether a span of a greater epoch has a number. -/
def deadF (l : List D) (n e : Int) : Bool := l.any fun s => decide (e < spE s) && decide (hasD s n)
/-- The place of the first span that has a number; -1. -/
def idxF (l : List D) (n : Int) : Int := match l.findIdx? (fun s => decide (hasD s n)) with
  | some k => (k : Int)
  | none => -1
theorem idxF_none {l : List D} {n : Int} (h : ∀ i, i < l.length → ¬ hasD (l.getD i .nil) n) : idxF l n = -1 := by
  unfold idxF
  have : l.findIdx? (fun s => decide (hasD s n)) = none := by
    rw [List.findIdx?_eq_none_iff]
    intro x hx
    obtain ⟨i, hi, rfl⟩ := List.getElem_of_mem hx
    have := h i hi
    simp only [List.getD_eq_getElem?_getD, List.getElem?_eq_getElem hi, Option.getD_some] at this
    simpa using this
  rw [this]
theorem idxF_some {l : List D} {n : Int} {k : Nat} (hk : k < l.length) (h : ∀ i, i < k → ¬ hasD (l.getD i .nil) n) (h2 : hasD (l.getD k .nil) n) : idxF l n = k := by
  unfold idxF
  have : l.findIdx? (fun s => decide (hasD s n)) = some k := by
    rw [List.findIdx?_eq_some_iff_getElem]
    simp only [List.getD_eq_getElem?_getD, List.getElem?_eq_getElem hk, Option.getD_some] at h2
    refine ⟨hk, by simpa using h2, fun j hj => ?_⟩
    have := h j hj
    simp only [List.getD_eq_getElem?_getD, List.getElem?_eq_getElem (Nat.lt_trans hj hk), Option.getD_some] at this
    simpa using this
  rw [this]
theorem idxF_cases (l : List D) (n : Int) : (idxF l n = -1 ∧ ∀ s ∈ l, ¬ hasD s n) ∨ ∃ k : Nat, k < l.length ∧ idxF l n = k ∧ hasD (l.getD k .nil) n := by
  unfold idxF
  cases h : l.findIdx? (fun s => decide (hasD s n)) with
  | none =>
    left
    rw [List.findIdx?_eq_none_iff] at h
    exact ⟨rfl, fun s hs => by simpa using h s hs⟩
  | some k =>
    right
    rw [List.findIdx?_eq_some_iff_getElem] at h
    obtain ⟨hk, h1, _⟩ := h
    refine ⟨k, hk, rfl, ?_⟩
    simp only [List.getD_eq_getElem?_getD, List.getElem?_eq_getElem hk, Option.getD_some]
    simpa using h1
end Go.Proofs.YtmjenjccinfbaaaDoor
