/- Chapter 7, in plain Lean: one of six is replaced. -/
import Derived.Test.YtkojpimkngmckaaDoorConfL
namespace Go.Proofs.YtkojpimkngmckaaDoor
set_option linter.unusedVariables false
set_option linter.unusedSimpArgs false
open Go Go.Fw

theorem hasI_eq (l : List D) (v : Int) : hasI l v = decide (v ∈ l.map D.i) := by
  rcases bool_ft (hasI l v) with h | h
  · rw [h]
    symm
    exact decide_eq_false (fun hm => by rw [hasI_iff.2 hm] at h; cases h)
  · rw [h]
    symm
    exact decide_eq_true (hasI_iff.1 h)
theorem set_split {z : List Int} {k : Nat} (hk : k < z.length) (y : Int) : ∃ R : List Int, z.Perm (z.getD k 0 :: R) ∧ (z.set k y).Perm (y :: R) := by
  refine ⟨z.take k ++ z.drop (k + 1), ?_, ?_⟩
  · have h : z = z.take k ++ z[k] :: z.drop (k + 1) := by rw [List.getElem_cons_drop, List.take_append_drop]
    rw [List.getD_eq_getElem?_getD, List.getElem?_eq_getElem hk]
    exact (List.Perm.of_eq h).trans List.perm_middle
  · rw [List.set_eq_take_append_cons_drop, if_pos hk]
    exact List.perm_middle
theorem map_setI (o : List D) (k : Nat) (y : Int) : (o.set k (.int y)).map D.i = (o.map D.i).set k y := by
  rw [List.map_set]
  rfl
/-- One of six, another one in its place. -/
theorem replace_ok {o : List D} {k : Nat} {y : Int} (hk : k < o.length) (h6 : o.length = 6) (hn : (o.map D.i).Nodup) (hy : hasI o y = false) :
    sixB (o.set k (.int y)) = true ∧ commonN o (o.set k (.int y)) = 5 ∧ (joinL o (o.set k (.int y))).length = 7 := by
  have hk' : k < (o.map D.i).length := by rw [List.length_map]; exact hk
  obtain ⟨R, p1, p2⟩ := set_split hk' y
  have hny : y ∉ o.map D.i := fun h => by rw [hasI_iff.2 h] at hy; cases hy
  have hRl : R.length = 5 := by have := p1.length_eq; rw [List.length_map, h6] at this; simp at this; omega
  generalize hb : (o.map D.i).getD k 0 = b at p1
  have n1 := p1.nodup_iff.1 hn
  obtain ⟨hbR, hR⟩ := List.nodup_cons.1 n1
  have hyb : y ≠ b := fun e => hny (p1.mem_iff.2 (by simp [e]))
  have hyR : y ∉ R := fun e => hny (p1.mem_iff.2 (by simp [e]))
  have hw : ((o.map D.i).set k y).Nodup := p2.nodup_iff.2 (List.nodup_cons.2 ⟨hyR, hR⟩)
  refine ⟨sixB_of (by rw [List.length_set, h6]) (by rw [map_setI]; exact hw), ?_, ?_⟩
  · unfold commonN
    have e1 : o.countP (fun x => hasI (o.set k (.int y)) x.i) = (o.map D.i).countP (fun v => hasI (o.set k (.int y)) v) := by rw [List.countP_map]; rfl
    rw [e1, p1.countP_eq, List.countP_cons]
    have hbw : hasI (o.set k (.int y)) b = false := by
      rw [hasI_eq, map_setI]
      exact decide_eq_false (fun h => by
        have := p2.mem_iff.1 h
        simp only [List.mem_cons] at this
        rcases this with h | h
        · exact hyb h.symm
        · exact hbR h)
    rw [hbw]
    have hall : R.countP (fun v => hasI (o.set k (.int y)) v) = R.length := by
      rw [List.countP_eq_length]
      intro v hv
      rw [hasI_eq, map_setI]
      exact decide_eq_true (p2.mem_iff.2 (by simp [hv]))
    rw [hall, hRl]
    simp
  · unfold joinL
    rw [compL_sortL, List.length_map, List.map_append, map_setI, compact_len (w := y :: b :: R) ?_ ?_]
    · simp [hRl]
    · refine List.nodup_cons.2 ⟨?_, n1⟩
      simp [hyb, hyR]
    · intro x
      rw [List.mem_append, p1.mem_iff, p2.mem_iff]
      simp only [List.mem_cons]
      constructor
      · rintro ((h | h) | (h | h)) <;> simp [h]
      · rintro (h | h | h) <;> simp [h]
theorem six_of {l : List D} (h : sixB l = true) : l.length = 6 ∧ (l.map D.i).Nodup := sixB_nodup h
theorem bad_set {o : List D} {k : Nat} {y : Int} (h : badI o = false) (hy : nodeB y = true) : badI (o.set k (.int y)) = false := by
  refine badI_of (fun x hx => ?_)
  rcases List.mem_or_eq_of_mem_set hx with h1 | rfl
  · exact badI_false h x h1
  · unfold nodeB at hy
    show 0 ≤ y ∧ y < 64
    simpa using hy
end Go.Proofs.YtkojpimkngmckaaDoor
