/- Chapter 6: which nodes are enough, out of what is in memory. -/
import Derived.Test.YtkmilijehekdoaaDoorQuorC
namespace Go.Proofs.YtkmilijehekdoaaDoor
set_option linter.unusedVariables false
set_option linter.unusedSimpArgs false
open Go Go.Fw

/-! ### Which nodes are enough, out of what is in memory -/
theorem QP.enc_inj : ∀ {a b : QP}, a.enc = b.enc → a = b
  | .of k l, .of k' l', h => by
    simp only [QP.enc, D.ptr.injEq, D.node.injEq, List.cons.injEq, D.int.injEq, D.list.injEq, and_true, true_and] at h
    obtain ⟨h1, h2⟩ := h
    rw [h1, (List.map_inj_right (fun a b h => by cases h; rfl)).1 h2]
  | .an a b, .an a' b', h => by
    simp only [QP.enc, D.ptr.injEq, D.node.injEq, List.cons.injEq, and_true, true_and] at h
    rw [QP.enc_inj h.1, QP.enc_inj h.2]
  | .or a b, .or a' b', h => by
    simp only [QP.enc, D.ptr.injEq, D.node.injEq, List.cons.injEq, and_true, true_and] at h
    rw [QP.enc_inj h.1, QP.enc_inj h.2]
  | .of _ _, .an _ _, h => by simp [QP.enc] at h
  | .of _ _, .or _ _, h => by simp [QP.enc] at h
  | .an _ _, .of _ _, h => by simp [QP.enc] at h
  | .an _ _, .or _ _, h => by simp [QP.enc] at h
  | .or _ _, .of _ _, h => by simp [QP.enc] at h
  | .or _ _, .an _ _, h => by simp [QP.enc] at h
def okD (p : D) : Prop := p = .nil ∨ ∃ q : QP, p = q.enc ∧ q.ok
theorem okD_nil : okD .nil := .inl rfl
theorem okD_enc {q : QP} (h : q.ok) : okD q.enc := .inr ⟨q, rfl, h⟩
open Classical in
noncomputable def hasD (p : D) (S : Int → Bool) : Bool := if h : ∃ q : QP, p = q.enc then (Classical.choose h).has S else false
theorem hasD_enc (q : QP) (S : Int → Bool) : hasD q.enc S = q.has S := by
  unfold hasD
  have h : ∃ q' : QP, q.enc = q'.enc := ⟨q, rfl⟩
  rw [dif_pos h]
  rw [← QP.enc_inj (Classical.choose_spec h)]
theorem hasD_nil (S : Int → Bool) : hasD .nil S = false := by
  unfold hasD
  rw [dif_neg]
  rintro ⟨q, h⟩
  cases q <;> cases h
def inL (l : List D) (n : Int) : Bool := (l.map D.i).contains n
def spQHasD : FSpec := fun args h nx K => match args with
  | [.agg [.dat (.ptr t) p, x, y], .dat (.slice t') d] => t = 65 ∧ t' = 3 ∧ x.one = true ∧ y.one = true ∧ okD p ∧ K (.bool (hasD p (inL d.l))) h
  | _ => False
theorem vQHasD {E : Nat → Value} (hE : Errs2 Tryd.prog (some 152) E) : Valid Tryd.prog E (gs []) 16 spQHasD := by
  intro args h o nx K ρ H w vs hsp
  unfold spQHasD at hsp
  split at hsp
  · rename_i t p x y t' d
    obtain ⟨rfl, rfl, hx, hy, hp, hK⟩ := hsp
    refine vQHas hE _ _ _ _ _ _ _ _ _ ⟨rfl, rfl, hx, hy, ?_⟩
    rcases hp with rfl | ⟨q, rfl, hq⟩
    · exact .inl ⟨rfl, by rw [hasD_nil] at hK; exact hK⟩
    · exact .inr ⟨q, rfl, hq, by rw [hasD_enc] at hK; exact hK⟩
  · exact hsp.elim

end Go.Proofs.YtkmilijehekdoaaDoor
