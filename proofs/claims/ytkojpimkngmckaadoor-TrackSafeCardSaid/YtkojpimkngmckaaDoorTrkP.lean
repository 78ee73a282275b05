/- Chapter 14, in plain Lean: how far it is safe, of any configuration that may be. -/
import Derived.Test.YtkojpimkngmckaaDoorTrkL
import Derived.Test.YtkojpimkngmckaaDoorConfY
namespace Go.Proofs.YtkojpimkngmckaaDoor
set_option linter.unusedVariables false
set_option linter.unusedSimpArgs false
open Go Go.Fw

def cntL (L : List D) (f : Int → Option D) (v : Int) : Nat := (L.map D.i).countP (fun n => decide (v ≤ atI f n))
def enB (o n : List D) (f : Int → Option D) (v : Int) : Prop := 4 ≤ cntL o f v ∧ (n.length = 0 ∨ 4 ≤ cntL n f v)
theorem joinL_mem {o n : List D} {x : Int} : x ∈ (joinL o n).map D.i ↔ x ∈ o.map D.i ∨ x ∈ n.map D.i := by
  rw [joinL_rise]
  unfold riseL
  rw [List.map_map]
  have : (D.i ∘ D.int : Int → Int) = id := rfl
  rw [this, List.map_id, rise_mem, List.map_append, List.mem_append]
theorem joinL_nodup (o n : List D) : ((joinL o n).map D.i).Nodup := by
  rw [joinL_rise]
  unfold riseL
  rw [List.map_map]
  have : (D.i ∘ D.int : Int → Int) = id := rfl
  rw [this, List.map_id]
  exact nodup_lt (rise_sorted _)
theorem wQ_has (o n : List D) (S : Int → Bool) : hasD (wQ o n 4).enc S = true ↔ 4 ≤ (o.map D.i).countP S ∧ (n.length = 0 ∨ 4 ≤ (n.map D.i).countP S) := by
  rw [hasD_enc]
  unfold wQ
  by_cases h : n.length = 0
  · rw [if_pos h, of_has, decide_eq_true_eq]
    constructor
    · exact fun h1 => ⟨by omega, .inl h⟩
    · exact fun h1 => by omega
  · rw [if_neg h, QP.has, of_has, of_has, Bool.and_eq_true, decide_eq_true_eq, decide_eq_true_eq]
    constructor
    · exact fun ⟨h1, h2⟩ => ⟨by omega, .inr (by omega)⟩
    · rintro ⟨h1, h2⟩
      have := h2.resolve_left h
      exact ⟨by omega, by omega⟩
theorem wQ_in (o n : List D) (f : Int → Option D) (v : Int) : hasD (wQ o n 4).enc (inL (hasL (joinL o n) f v)) = true ↔ enB o n f v := by
  rw [wQ_has]
  unfold enB cntL
  have e1 : (o.map D.i).countP (inL (hasL (joinL o n) f v)) = (o.map D.i).countP (fun n => decide (v ≤ atI f n)) :=
    List.countP_congr (fun x hx => by rw [in_has (joinL_mem.2 (.inl hx))])
  have e2 : (n.map D.i).countP (inL (hasL (joinL o n) f v)) = (n.map D.i).countP (fun n => decide (v ≤ atI f n)) :=
    List.countP_congr (fun x hx => by rw [in_has (joinL_mem.2 (.inr hx))])
  rw [e1, e2]
theorem pgC (o n : List D) (f : Int → Option D) : 0 ≤ pgcl (joinL o n) (wQ o n 4).enc f ∧ (pgcl (joinL o n) (wQ o n 4).enc f = 0 ∨ enB o n f (pgcl (joinL o n) (wQ o n 4).enc f)) ∧ ∀ y, enB o n f y → y ≤ pgcl (joinL o n) (wQ o n 4).enc f := by
  have hne : hasD (wQ o n 4).enc (inL []) = false := by
    have : ¬ hasD (wQ o n 4).enc (inL []) = true := by
      rw [wQ_has]
      have : ∀ l : List Int, l.countP (inL []) = 0 := fun l => by
        rw [List.countP_eq_zero]
        intro a _
        simp [inL]
      rw [this]
      omega
    simpa using this
  obtain ⟨h1, h2, h3⟩ := pg_char (m := joinL o n) (p := (wQ o n 4).enc) f hne
  exact ⟨h1, h2.imp id (wQ_in o n f _).1, fun y hy => h3 y ((wQ_in o n f y).2 hy)⟩
theorem pgC_eq {o n : List D} {f : Int → Option D} {v : Int} (h0 : 0 ≤ v) (h1 : v = 0 ∨ enB o n f v) (h2 : ∀ y, v < y → ¬ enB o n f y) : pgcl (joinL o n) (wQ o n 4).enc f = v := by
  obtain ⟨a, b, c⟩ := pgC o n f
  have k1 : v ≤ pgcl (joinL o n) (wQ o n 4).enc f := by
    rcases h1 with h1 | h1
    · omega
    · exact c v h1
  by_cases h : v < pgcl (joinL o n) (wQ o n 4).enc f
  · rcases b with b | b
    · omega
    · exact (h2 _ h b).elim
  · omega
theorem pg_in (m' : List D) (p : D) (f : Int → Option D) : ∀ (l : List D) (b : Int), l.foldl (pgStep m' p f) b = b ∨ ∃ x ∈ l, atI f x.i = l.foldl (pgStep m' p f) b
  | [], b => .inl rfl
  | x :: l, b => by
    rw [List.foldl_cons]
    rcases pg_in m' p f l (pgStep m' p f b x) with h | ⟨y, hy, h⟩
    · rw [h]
      unfold pgStep
      split
      · exact .inr ⟨x, by simp, rfl⟩
      · exact .inl rfl
    · exact .inr ⟨y, by simp [hy], h⟩
theorem hasL_len (m : List D) (f : Int → Option D) (v : Int) : (hasL m f v).length = cntL m f v := by
  unfold hasL cntL
  rw [List.length_map, ← List.countP_eq_length_filter, List.countP_map]
  rfl
theorem cntL_perm {L : List D} {R : List Int} (h : (L.map D.i).Perm R) (f : Int → Option D) (v : Int) : cntL L f v = R.countP (fun n => decide (v ≤ atI f n)) := by
  unfold cntL
  exact h.countP_eq _
theorem six_cntL (f : Int → Option D) (v : Int) : cntL (sixL 0) f v = cnt f v := rfl
end Go.Proofs.YtkojpimkngmckaaDoor
