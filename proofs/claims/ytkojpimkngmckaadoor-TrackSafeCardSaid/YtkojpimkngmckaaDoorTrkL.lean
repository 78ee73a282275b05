/- Chapter 14, in plain Lean: how far it is safe. -/
import Derived.Test.YtkojpimkngmckaaDoorTrkC
namespace Go.Proofs.YtkojpimkngmckaaDoor
set_option linter.unusedVariables false
set_option linter.unusedSimpArgs false
open Go Go.Fw

theorem pg_fold (m' : List D) (p : D) (f : Int → Option D) : ∀ (l : List D) (b : Int), 0 ≤ b → (b = 0 ∨ hasD p (inL (hasL m' f b)) = true) →
    b ≤ l.foldl (pgStep m' p f) b ∧ (l.foldl (pgStep m' p f) b = 0 ∨ hasD p (inL (hasL m' f (l.foldl (pgStep m' p f) b))) = true) ∧ ∀ x ∈ l, hasD p (inL (hasL m' f (atI f x.i))) = true → atI f x.i ≤ l.foldl (pgStep m' p f) b
  | [], b, h0, h1 => ⟨Int.le_refl _, h1, fun x hx => by cases hx⟩
  | x :: l, b, h0, h1 => by
    simp only [List.foldl_cons]
    have hs : b ≤ pgStep m' p f b x ∧ (pgStep m' p f b x = 0 ∨ hasD p (inL (hasL m' f (pgStep m' p f b x))) = true) ∧ (hasD p (inL (hasL m' f (atI f x.i))) = true → atI f x.i ≤ pgStep m' p f b x) := by
      unfold pgStep
      by_cases h2 : b < atI f x.i
      · rcases bool_ft (hasD p (inL (hasL m' f (atI f x.i)))) with h3 | h3
        · rw [h3, Bool.and_false]
          exact ⟨Int.le_refl _, h1, fun h => by cases h⟩
        · rw [decide_eq_true h2, h3]
          exact ⟨by simp; omega, .inr h3, fun _ => by simp⟩
      · rw [decide_eq_false h2, Bool.false_and]
        exact ⟨Int.le_refl _, h1, fun _ => by simp; omega⟩
    obtain ⟨a1, a2, a3⟩ := hs
    obtain ⟨b1, b2, b3⟩ := pg_fold m' p f l (pgStep m' p f b x) (by omega) a2
    refine ⟨by omega, b2, fun y hy h => ?_⟩
    rcases List.mem_cons.1 hy with rfl | hy
    · have := a3 h; omega
    · exact b3 y hy h
theorem least_of {l : List D} {f : D → Int} (h : l ≠ []) : ∃ x ∈ l, ∀ y ∈ l, f x ≤ f y := by
  induction l with
  | nil => exact (h rfl).elim
  | cons a l ih =>
    by_cases hl : l = []
    · subst hl
      exact ⟨a, by simp, fun y hy => by simp at hy; rw [hy]; exact Int.le_refl _⟩
    · obtain ⟨x, hx, hm⟩ := ih hl
      by_cases hc : f a ≤ f x
      · refine ⟨a, by simp, fun y hy => ?_⟩
        rcases List.mem_cons.1 hy with rfl | hy
        · exact Int.le_refl _
        · have := hm y hy; omega
      · refine ⟨x, by simp [hx], fun y hy => ?_⟩
        rcases List.mem_cons.1 hy with rfl | hy
        · omega
        · exact hm y hy
/-- The greatest number that is enough: 0, or enough itself; none that is enough is above it. -/
theorem pg_char {m : List D} {p : D} (f : Int → Option D) (hne : hasD p (inL []) = false) :
    0 ≤ pgcl m p f ∧ (pgcl m p f = 0 ∨ hasD p (inL (hasL m f (pgcl m p f))) = true) ∧ ∀ y, hasD p (inL (hasL m f y)) = true → y ≤ pgcl m p f := by
  obtain ⟨h1, h2, h3⟩ := pg_fold m p f m 0 (Int.le_refl _) (.inl rfl)
  refine ⟨h1, h2, fun y hy => ?_⟩
  by_cases hz : m.filter (fun x => decide (y ≤ atI f x.i)) = []
  · have : hasL m f y = [] := by unfold hasL; rw [hz]; rfl
    rw [this, hne] at hy
    cases hy
  · obtain ⟨x, hx, hm⟩ := least_of (f := fun x => atI f x.i) hz
    rw [List.mem_filter] at hx
    have hxy : y ≤ atI f x.i := of_decide_eq_true hx.2
    have he : hasL m f y = hasL m f (atI f x.i) := by
      unfold hasL
      congr 1
      refine List.filter_congr (fun z hz => ?_)
      by_cases h : y ≤ atI f z.i
      · have := hm z (List.mem_filter.2 ⟨hz, decide_eq_true h⟩)
        rw [decide_eq_true h, decide_eq_true this]
      · rw [decide_eq_false h, decide_eq_false (by omega)]
    rw [he] at hy
    exact Int.le_trans hxy (h3 x hx.1 hy)

/-! ### Six -/
theorem in_has {m : List D} {f : Int → Option D} {v n : Int} (hn : n ∈ m.map D.i) : inL (hasL m f v) n = decide (v ≤ atI f n) := by
  unfold inL
  rw [List.contains_eq_any_beq]
  by_cases h : v ≤ atI f n
  · rw [decide_eq_true h, List.any_eq_true]
    obtain ⟨x, hx, rfl⟩ := List.mem_map.1 hn
    refine ⟨x.i, ?_, by simp⟩
    unfold hasL
    rw [List.map_map]
    exact List.mem_map.2 ⟨x, List.mem_filter.2 ⟨hx, decide_eq_true h⟩, rfl⟩
  · rw [decide_eq_false h, List.any_eq_false]
    intro x hx
    unfold hasL at hx
    rw [List.map_map] at hx
    obtain ⟨y, hy, rfl⟩ := List.mem_map.1 hx
    have := of_decide_eq_true (List.mem_filter.1 hy).2
    have e : (D.i ∘ fun x => D.int x.i) y = y.i := rfl
    rw [e]
    intro hc
    rw [beq_iff_eq] at hc
    subst hc
    exact h this
def six0 : List Int := [0, 1, 2, 3, 4, 5]
theorem six_join : joinL (sixL 0) [] = sixL 0 := by
  unfold joinL
  rw [compL_sortL, compact_eq (w := [0, 1, 2, 3, 4, 5]) (by decide) (fun x => by simp [sixL, D.i])]
  rfl
def p6 : D := (wQ (sixL 0) [] 4).enc
def w6 : List D := wL (sixL 0) []
theorem tNew_six (e : Int) (a b : Nat) : tNew e (sixL 0) [] a b = .cells [.dat (.slice 3) (.list (sixL 0)), .dat (.ptr 139) p6, .dat (.slice 3) (.list w6), .int .i64 1, .vec a, .vec b] := by
  unfold tNew
  rw [six_join]
  rfl
theorem six0_valid (e : Int) (h : 0 ≤ e ∧ e ≤ 1073741824) : validC e (sixL 0) [] = .nil := sixL_valid h (by decide) (by decide)
theorem p6_ok : okD p6 := okD_enc (wQ_ok (e := 0) (o := sixL 0) (n := []) (k := 4) (by rw [six0_valid 0 (by decide)]; rfl)).1
theorem p6_has (S : Int → Bool) : hasD p6 S = decide (4 ≤ (six0.countP S : Int)) := by
  unfold p6
  rw [hasD_enc]
  show (QP.of 4 (sD (sixL 0))).has S = _
  rw [of_has]
  rfl
def cnt (f : Int → Option D) (v : Int) : Nat := six0.countP (fun n => decide (v ≤ atI f n))
theorem p6_in (f : Int → Option D) (v : Int) : hasD p6 (inL (hasL (sixL 0) f v)) = decide (4 ≤ (cnt f v : Int)) := by
  rw [p6_has]
  unfold cnt
  rw [List.countP_congr (q := fun n => decide (v ≤ atI f n))]
  intro n hn
  rw [in_has (show n ∈ (sixL 0).map D.i from hn)]
theorem p6_none : hasD p6 (inL []) = false := by rw [p6_has]; decide
/-- Of six: enough is what four have. -/
theorem pg6 (f : Int → Option D) : 0 ≤ pgcl (sixL 0) p6 f ∧ (pgcl (sixL 0) p6 f = 0 ∨ 4 ≤ cnt f (pgcl (sixL 0) p6 f)) ∧ ∀ y, 4 ≤ cnt f y → y ≤ pgcl (sixL 0) p6 f := by
  obtain ⟨h1, h2, h3⟩ := pg_char (m := sixL 0) (p := p6) f p6_none
  refine ⟨h1, ?_, fun y hy => h3 y ?_⟩
  · rcases h2 with h2 | h2
    · exact .inl h2
    · rw [p6_in] at h2
      have := of_decide_eq_true h2
      exact .inr (by omega)
  · rw [p6_in]
    exact decide_eq_true (by omega)
theorem cnt_eq (f : Int → Option D) (v : Int) : cnt f v = (if v ≤ atI f 0 then 1 else 0) + (if v ≤ atI f 1 then 1 else 0) + (if v ≤ atI f 2 then 1 else 0) + (if v ≤ atI f 3 then 1 else 0) + (if v ≤ atI f 4 then 1 else 0) + (if v ≤ atI f 5 then 1 else 0) := by
  unfold cnt six0
  simp only [List.countP_cons, List.countP_nil, decide_eq_true_eq, Nat.zero_add]
  omega
/-- The number is this one, if four have it and fewer more. -/
theorem pg6_eq {f : Int → Option D} {v : Int} (h0 : 0 ≤ v) (h1 : v = 0 ∨ 4 ≤ cnt f v) (h2 : ∀ y, v < y → cnt f y < 4) : pgcl (sixL 0) p6 f = v := by
  obtain ⟨a, b, c⟩ := pg6 f
  have k1 : v ≤ pgcl (sixL 0) p6 f := by
    rcases h1 with h1 | h1
    · omega
    · exact c v h1
  by_cases h : v < pgcl (sixL 0) p6 f
  · have := h2 _ h
    rcases b with b | b <;> omega
  · omega
theorem ack6 {g : Int → Option D} {n inc scl : Int} (h0 : 0 ≤ n) (h1 : n < 6) (hg : atI g n = inc) (h2 : 0 ≤ scl) (h3 : scl ≤ 1099511627776) : ackB (sixL 0) g n inc scl = true := by
  unfold ackB
  rw [hasI_iff.2 (by rw [sixL_i]; simp; omega), hg, decide_eq_true h2, decide_eq_true h3]
  simp
theorem ack6_no {g : Int → Option D} {n inc scl : Int} (h : ¬ (0 ≤ n ∧ n < 6) ∨ atI g n ≠ inc ∨ scl < 0 ∨ 1099511627776 < scl) : ackB (sixL 0) g n inc scl = false := by
  unfold ackB
  rcases bool_ft (hasI (sixL 0) n) with h4 | h4
  · rw [h4]; rfl
  · have := hasI_iff.1 h4
    rw [sixL_i] at this
    simp at this
    rcases h with h | h | h | h
    · omega
    · rw [beq_eq_false_iff_ne.2 h]; simp
    · rw [decide_eq_false (show ¬ 0 ≤ scl by omega)]; simp
    · rw [decide_eq_false (show ¬ scl ≤ 1099511627776 by omega)]; simp
end Go.Proofs.YtkojpimkngmckaaDoor
