/- Errors with their places; what is said of heaps. -/
import Derived.Test.YtmjenjccinfbaaaDoorErrB
import Derived.Test.YtmjenjccinfbaaaDoorLeq
namespace Go.Proofs.YtmjenjccinfbaaaDoor
set_option linter.unusedVariables false
set_option linter.unusedSimpArgs false
open Go Go.Fw

theorem hget_hdel' {h : Heap} {m n : Nat} : hget (hdel h m) n = if m = n then none else hget h n := by
  induction h with
  | nil => simp [hdel, hget]
  | cons q h ih =>
    obtain ⟨k, t⟩ := q
    simp only [hdel]
    by_cases e : k = m
    · rw [if_pos e, ih]
      by_cases e2 : m = n
      · rw [if_pos e2, if_pos e2]
      · rw [if_neg e2, if_neg e2]; simp only [hget]; rw [if_neg (by omega)]
    · rw [if_neg e]
      simp only [hget]
      by_cases e2 : k = n
      · rw [if_pos e2, if_pos e2, if_neg (by omega)]
      · rw [if_neg e2, if_neg e2]; exact ih
theorem HLe.hdel {h : Heap} {m : Nat} : HLe (hdel h m) h := by
  intro n t hn
  rw [hget_hdel'] at hn
  split at hn
  · cases hn
  · exact hn
theorem HLt.hdel {h : Heap} {m nb : Nat} (hl : HLt h nb) : HLt (hdel h m) nb := fun n t hn => hl n t (HLe.hdel n t hn)

/-- An error with its place. -/
def atD (p g : Nat) : D := .ifc 141 (.ptr (.node [.int (p : Int), .err g]))
theorem hset_self : ∀ {h : Heap} {p : Nat} {t : Tok}, hget h p = some t → hset h p t = h
  | (m, u) :: h, p, t, e => by
    simp only [hget] at e
    simp only [hset]
    split
    · rename_i e2; rw [if_pos e2] at e; cases e; rfl
    · rename_i e2; rw [if_neg e2] at e; rw [hset_self e]
theorem hget_hset' : ∀ {h : Heap} {p : Nat} {u t : Tok}, hget h p = some u → hget (hset h p t) p = some t
  | (m, u) :: h, p, u', t, e => by
    simp only [hget] at e
    simp only [hset]
    split
    · rename_i e2; simp [hget, e2]
    · rename_i e2; rw [if_neg e2] at e; simp only [hget, if_neg e2]; exact hget_hset' e
theorem hset_hset : ∀ {h : Heap} {p : Nat} {u t : Tok}, hset (hset h p t) p u = hset h p u
  | [], p, u, t => rfl
  | (m, v) :: h, p, u, t => by
    simp only [hset]
    split
    · rename_i e; simp [hset, e]
    · rename_i e; simp only [hset, if_neg e]; rw [hset_hset]
theorem hget_hset_ne : ∀ {h : Heap} {p n : Nat} {t : Tok}, p ≠ n → hget (hset h p t) n = hget h n
  | [], _, _, _, _ => rfl
  | (m, v) :: h, p, n, t, e => by
    simp only [hset]
    split
    · rename_i e2; subst e2; simp only [hget, if_neg e]
    · simp only [hget]; rw [hget_hset_ne e]
theorem HLt.hset {h : Heap} {p nb : Nat} {t : Tok} (hl : HLt h nb) (ht : t.lt nb) : HLt (hset h p t) nb := by
  intro n u hn
  by_cases e : p = n
  · subst e
    cases e2 : hget h p with
    | none =>
      have : ∀ {h : Heap}, hget h p = none → hget (Fw.hset h p t) p = none := by
        intro h
        induction h with
        | nil => intro _; rfl
        | cons q h ih =>
          obtain ⟨m, v⟩ := q
          intro h1
          simp only [hget] at h1
          simp only [Fw.hset]
          split at h1
          · cases h1
          · rename_i e3; rw [if_neg e3]; simp only [hget, if_neg e3]; exact ih h1
      rw [this e2] at hn; cases hn
    | some w => rw [hget_hset' e2] at hn; cases hn; exact ⟨(hl p w e2).1, ht⟩
  · rw [hget_hset_ne e] at hn; exact hl n u hn

theorem HLe.hset {h h' : Heap} {p : Nat} {t u v : Tok} (hh : HLe h h') (h1 : hget h p = some u) (h2 : hget h' p = some v) : HLe (Fw.hset h p t) (Fw.hset h' p t) := by
  intro n w hn
  by_cases e : p = n
  · subst e
    rw [hget_hset' h1] at hn
    rw [hget_hset' h2]; exact hn
  · rw [hget_hset_ne e] at hn ⊢
    exact hh n w hn
theorem hget_cons_self (n : Nat) (t : Tok) (h : Heap) : hget ((n, t) :: h) n = some t := by simp [hget]
theorem fault_atD {x : Nat} (h : x ∈ errIds) (p : Nat) : fOk (.dat .iface (atD p x)) = True ∧ fC (.dat .iface (atD p x)) = 101 + (errIds.idxOf x : Int) ∧ fB (.dat .iface (atD p x)) = true ∧ fP (.dat .iface (atD p x)) = (p : Int) :=
  fault_at h p
theorem fault_atR (p : Nat) : fOk (.dat .iface (atD p 0)) = True ∧ fC (.dat .iface (atD p 0)) = 105 ∧ fB (.dat .iface (atD p 0)) = true ∧ fP (.dat .iface (atD p 0)) = (p : Int) := fault_atD (by decide) p
theorem fault_atS (p : Nat) : fOk (.dat .iface (atD p 1)) = True ∧ fC (.dat .iface (atD p 1)) = 103 ∧ fB (.dat .iface (atD p 1)) = true ∧ fP (.dat .iface (atD p 1)) = (p : Int) := fault_atD (by decide) p
theorem fault_atE (p : Nat) : fOk (.dat .iface (atD p 6)) = True ∧ fC (.dat .iface (atD p 6)) = 101 ∧ fB (.dat .iface (atD p 6)) = true ∧ fP (.dat .iface (atD p 6)) = (p : Int) := fault_atD (by decide) p
theorem n101 : ((101 : Int) = 0) = False := by simp
theorem n103 : ((103 : Int) = 0) = False := by simp
theorem n105 : ((105 : Int) = 0) = False := by simp
theorem z00 : (((0 : Nat) : Int) == 0) = true := rfl
theorem z01 : ((0 : Int) == 1) = false := rfl
theorem atD_nil (p g : Nat) : (atD p g).isNil = false := rfl

theorem fe_End : fOk (.dat .iface (.err 6)) = True ∧ fC (.dat .iface (.err 6)) = 101 ∧ fB (.dat .iface (.err 6)) = false ∧ fP (.dat .iface (.err 6)) = 0 := fault_err (by decide)
theorem fa_End (p : Nat) : fOk (.dat .iface (atD p 6)) = True ∧ fC (.dat .iface (atD p 6)) = 101 ∧ fB (.dat .iface (atD p 6)) = true ∧ fP (.dat .iface (atD p 6)) = (p : Int) := fault_atD (by decide) p
theorem fe_Sum : fOk (.dat .iface (.err 7)) = True ∧ fC (.dat .iface (.err 7)) = 102 ∧ fB (.dat .iface (.err 7)) = false ∧ fP (.dat .iface (.err 7)) = 0 := fault_err (by decide)
theorem fa_Sum (p : Nat) : fOk (.dat .iface (atD p 7)) = True ∧ fC (.dat .iface (atD p 7)) = 102 ∧ fB (.dat .iface (atD p 7)) = true ∧ fP (.dat .iface (atD p 7)) = (p : Int) := fault_atD (by decide) p
theorem fe_Shape : fOk (.dat .iface (.err 1)) = True ∧ fC (.dat .iface (.err 1)) = 103 ∧ fB (.dat .iface (.err 1)) = false ∧ fP (.dat .iface (.err 1)) = 0 := fault_err (by decide)
theorem fa_Shape (p : Nat) : fOk (.dat .iface (atD p 1)) = True ∧ fC (.dat .iface (atD p 1)) = 103 ∧ fB (.dat .iface (atD p 1)) = true ∧ fP (.dat .iface (atD p 1)) = (p : Int) := fault_atD (by decide) p
theorem fe_Many : fOk (.dat .iface (.err 2)) = True ∧ fC (.dat .iface (.err 2)) = 104 ∧ fB (.dat .iface (.err 2)) = false ∧ fP (.dat .iface (.err 2)) = 0 := fault_err (by decide)
theorem fa_Many (p : Nat) : fOk (.dat .iface (atD p 2)) = True ∧ fC (.dat .iface (atD p 2)) = 104 ∧ fB (.dat .iface (atD p 2)) = true ∧ fP (.dat .iface (atD p 2)) = (p : Int) := fault_atD (by decide) p
theorem fe_Range : fOk (.dat .iface (.err 0)) = True ∧ fC (.dat .iface (.err 0)) = 105 ∧ fB (.dat .iface (.err 0)) = false ∧ fP (.dat .iface (.err 0)) = 0 := fault_err (by decide)
theorem fa_Range (p : Nat) : fOk (.dat .iface (atD p 0)) = True ∧ fC (.dat .iface (atD p 0)) = 105 ∧ fB (.dat .iface (atD p 0)) = true ∧ fP (.dat .iface (atD p 0)) = (p : Int) := fault_atD (by decide) p
theorem fe_Kind : fOk (.dat .iface (.err 5)) = True ∧ fC (.dat .iface (.err 5)) = 106 ∧ fB (.dat .iface (.err 5)) = false ∧ fP (.dat .iface (.err 5)) = 0 := fault_err (by decide)
theorem fa_Kind (p : Nat) : fOk (.dat .iface (atD p 5)) = True ∧ fC (.dat .iface (atD p 5)) = 106 ∧ fB (.dat .iface (atD p 5)) = true ∧ fP (.dat .iface (atD p 5)) = (p : Int) := fault_atD (by decide) p
theorem fe_None : fOk (.dat .iface (.err 8)) = True ∧ fC (.dat .iface (.err 8)) = 107 ∧ fB (.dat .iface (.err 8)) = false ∧ fP (.dat .iface (.err 8)) = 0 := fault_err (by decide)
theorem fa_None (p : Nat) : fOk (.dat .iface (atD p 8)) = True ∧ fC (.dat .iface (atD p 8)) = 107 ∧ fB (.dat .iface (atD p 8)) = true ∧ fP (.dat .iface (atD p 8)) = (p : Int) := fault_atD (by decide) p
theorem fe_There : fOk (.dat .iface (.err 9)) = True ∧ fC (.dat .iface (.err 9)) = 108 ∧ fB (.dat .iface (.err 9)) = false ∧ fP (.dat .iface (.err 9)) = 0 := fault_err (by decide)
theorem fa_There (p : Nat) : fOk (.dat .iface (atD p 9)) = True ∧ fC (.dat .iface (atD p 9)) = 108 ∧ fB (.dat .iface (atD p 9)) = true ∧ fP (.dat .iface (atD p 9)) = (p : Int) := fault_atD (by decide) p
theorem fe_Full : fOk (.dat .iface (.err 3)) = True ∧ fC (.dat .iface (.err 3)) = 109 ∧ fB (.dat .iface (.err 3)) = false ∧ fP (.dat .iface (.err 3)) = 0 := fault_err (by decide)
theorem fa_Full (p : Nat) : fOk (.dat .iface (atD p 3)) = True ∧ fC (.dat .iface (atD p 3)) = 109 ∧ fB (.dat .iface (atD p 3)) = true ∧ fP (.dat .iface (atD p 3)) = (p : Int) := fault_atD (by decide) p
theorem fe_Crash : fOk (.dat .iface (.err 10)) = True ∧ fC (.dat .iface (.err 10)) = 110 ∧ fB (.dat .iface (.err 10)) = false ∧ fP (.dat .iface (.err 10)) = 0 := fault_err (by decide)
theorem fa_Crash (p : Nat) : fOk (.dat .iface (atD p 10)) = True ∧ fC (.dat .iface (atD p 10)) = 110 ∧ fB (.dat .iface (atD p 10)) = true ∧ fP (.dat .iface (atD p 10)) = (p : Int) := fault_atD (by decide) p
theorem fe_State : fOk (.dat .iface (.err 11)) = True ∧ fC (.dat .iface (.err 11)) = 111 ∧ fB (.dat .iface (.err 11)) = false ∧ fP (.dat .iface (.err 11)) = 0 := fault_err (by decide)
theorem fa_State (p : Nat) : fOk (.dat .iface (atD p 11)) = True ∧ fC (.dat .iface (atD p 11)) = 111 ∧ fB (.dat .iface (atD p 11)) = true ∧ fP (.dat .iface (atD p 11)) = (p : Int) := fault_atD (by decide) p
theorem fe_Conflict : fOk (.dat .iface (.err 12)) = True ∧ fC (.dat .iface (.err 12)) = 112 ∧ fB (.dat .iface (.err 12)) = false ∧ fP (.dat .iface (.err 12)) = 0 := fault_err (by decide)
theorem fa_Conflict (p : Nat) : fOk (.dat .iface (atD p 12)) = True ∧ fC (.dat .iface (atD p 12)) = 112 ∧ fB (.dat .iface (atD p 12)) = true ∧ fP (.dat .iface (atD p 12)) = (p : Int) := fault_atD (by decide) p
theorem fe_Waits : fOk (.dat .iface (.err 13)) = True ∧ fC (.dat .iface (.err 13)) = 113 ∧ fB (.dat .iface (.err 13)) = false ∧ fP (.dat .iface (.err 13)) = 0 := fault_err (by decide)
theorem fa_Waits (p : Nat) : fOk (.dat .iface (atD p 13)) = True ∧ fC (.dat .iface (atD p 13)) = 113 ∧ fB (.dat .iface (atD p 13)) = true ∧ fP (.dat .iface (atD p 13)) = (p : Int) := fault_atD (by decide) p
theorem fe_Limit : fOk (.dat .iface (.err 4)) = True ∧ fC (.dat .iface (.err 4)) = 114 ∧ fB (.dat .iface (.err 4)) = false ∧ fP (.dat .iface (.err 4)) = 0 := fault_err (by decide)
theorem fa_Limit (p : Nat) : fOk (.dat .iface (atD p 4)) = True ∧ fC (.dat .iface (atD p 4)) = 114 ∧ fB (.dat .iface (atD p 4)) = true ∧ fP (.dat .iface (atD p 4)) = (p : Int) := fault_atD (by decide) p
theorem fe_Fenced : fOk (.dat .iface (.err 14)) = True ∧ fC (.dat .iface (.err 14)) = 115 ∧ fB (.dat .iface (.err 14)) = false ∧ fP (.dat .iface (.err 14)) = 0 := fault_err (by decide)
theorem fa_Fenced (p : Nat) : fOk (.dat .iface (atD p 14)) = True ∧ fC (.dat .iface (atD p 14)) = 115 ∧ fB (.dat .iface (atD p 14)) = true ∧ fP (.dat .iface (atD p 14)) = (p : Int) := fault_atD (by decide) p
theorem fe_Word : fOk (.dat .iface (.err 15)) = True ∧ fC (.dat .iface (.err 15)) = 116 ∧ fB (.dat .iface (.err 15)) = false ∧ fP (.dat .iface (.err 15)) = 0 := fault_err (by decide)
theorem fa_Word (p : Nat) : fOk (.dat .iface (atD p 15)) = True ∧ fC (.dat .iface (atD p 15)) = 116 ∧ fB (.dat .iface (atD p 15)) = true ∧ fP (.dat .iface (atD p 15)) = (p : Int) := fault_atD (by decide) p
theorem fe_Number : fOk (.dat .iface (.err 16)) = True ∧ fC (.dat .iface (.err 16)) = 117 ∧ fB (.dat .iface (.err 16)) = false ∧ fP (.dat .iface (.err 16)) = 0 := fault_err (by decide)
theorem fa_Number (p : Nat) : fOk (.dat .iface (atD p 16)) = True ∧ fC (.dat .iface (atD p 16)) = 117 ∧ fB (.dat .iface (atD p 16)) = true ∧ fP (.dat .iface (atD p 16)) = (p : Int) := fault_atD (by decide) p
theorem fe_nil : fOk (.dat .iface .nil) = True ∧ fC (.dat .iface .nil) = 0 ∧ fB (.dat .iface .nil) = false ∧ fP (.dat .iface .nil) = 0 := fault_nil
end Go.Proofs.YtmjenjccinfbaaaDoor
