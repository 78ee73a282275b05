/- In plain Lean: sorted rows, each but once; two rows as one. -/
import Derived.Test.YtkmilijehekdoaaDoorQuorC
import Derived.Test.YtkmilijehekdoaaDoorRise
namespace Go.Proofs.YtkmilijehekdoaaDoor
set_option linter.unusedVariables false
set_option linter.unusedSimpArgs false
open Go Go.Fw

theorem sortI_sorted (z : List Int) : (sortI z).Pairwise (· ≤ ·) := by
  have h := List.pairwise_mergeSort (le := fun x y : Int => decide (x ≤ y)) (fun a b c h1 h2 => by simp at *; omega) (fun a b => by simp; omega) z
  exact h.imp (fun h => of_decide_eq_true h)
theorem sortI_id {z : List Int} (h : z.Pairwise (· ≤ ·)) : sortI z = z :=
  List.Perm.eq_of_pairwise (le := (· ≤ ·)) (fun a b _ _ h1 h2 => by omega) (sortI_sorted z) h (sortI_perm z)
theorem compact_spec {z : List Int} (h : z.Pairwise (· ≤ ·)) : (Lib.compact z).Pairwise (· < ·) ∧ ∀ x, x ∈ Lib.compact z ↔ x ∈ z := by
  have key : ∀ m, m ≤ z.length → (Lib.compactUpTo z.toArray m).Pairwise (· < ·) ∧ (∀ x, x ∈ Lib.compactUpTo z.toArray m ↔ x ∈ z.take m) := by
    intro m
    induction m with
    | zero => intro _; exact ⟨by simp [Lib.compactUpTo], by simp [Lib.compactUpTo]⟩
    | succ m ih =>
      intro hm
      obtain ⟨ih1, ih2⟩ := ih (by omega)
      have hml : m < z.length := by omega
      have e1 : z.toArray[m]! = z[m] := by rw [getElem!_pos z.toArray m (by simpa using hml)]; simp
      rw [Lib.compactUpTo_succ, List.take_add_one, List.getElem?_eq_getElem hml]
      simp only [Option.toList_some]
      by_cases h0 : m = 0
      · subst h0
        rw [if_pos (Lib.keeps_lt_one _ 0 (by omega)), e1]
        simp [Lib.compactUpTo]
      have hp : z.toArray[m - 1]! = z[m - 1] := by rw [getElem!_pos z.toArray (m - 1) (by simp; omega)]; simp
      have hmem : z[m - 1] ∈ z.take m := by
        rw [List.mem_take_iff_getElem]
        exact ⟨m - 1, by omega, rfl⟩
      have hle : ∀ x ∈ z.take m, x ≤ z[m - 1] := by
        intro x hx
        rw [List.mem_take_iff_getElem] at hx
        obtain ⟨i, hi, rfl⟩ := hx
        by_cases e : i = m - 1
        · subst e; exact Int.le_refl _
        · exact (List.pairwise_iff_getElem.1 h) i (m - 1) (by omega) (by omega) (by omega)
      have hstep : z[m - 1] ≤ z[m] := (List.pairwise_iff_getElem.1 h) (m - 1) m (by omega) hml (by omega)
      by_cases hk : z[m] = z[m - 1]
      · rw [Lib.keeps_neg (by omega) (by rw [e1, hp, hk])]
        simp only [Bool.false_eq_true, if_false, List.append_nil]
        refine ⟨ih1, fun x => ?_⟩
        rw [ih2, List.mem_append, List.mem_singleton]
        exact ⟨.inl, fun hx => hx.elim id (fun hx => by rw [hx, hk]; exact hmem)⟩
      · rw [Lib.keeps_pos (by rw [e1, hp]; exact hk), if_pos rfl, e1]
        refine ⟨List.pairwise_append.2 ⟨ih1, List.pairwise_singleton _ _, fun a ha b hb => ?_⟩, fun x => ?_⟩
        · rw [List.mem_singleton] at hb
          subst hb
          have := hle a ((ih2 a).1 ha)
          omega
        · rw [List.mem_append, ih2, List.mem_append]
  have := key z.length (Nat.le_refl _)
  rw [List.take_of_length_le (Nat.le_refl _)] at this
  exact this
theorem lt_nodup {l : List Int} (h : l.Pairwise (· < ·)) : l.Nodup := h.imp (fun h => by omega)
theorem compact_id {z : List Int} (h : z.Pairwise (· < ·)) : Lib.compact z = z := by
  obtain ⟨h1, h2⟩ := compact_spec (h.imp (fun h => by omega))
  have hp : (Lib.compact z).Perm z := (List.perm_ext_iff_of_nodup (lt_nodup h1) (lt_nodup h)).2 h2
  exact List.Perm.eq_of_pairwise (le := (· ≤ ·)) (fun a b _ _ h1 h2 => by omega) (h1.imp (fun h => by omega)) (h.imp (fun h => by omega)) hp
theorem compact_len {z : List Int} {w : List Int} (hw : w.Nodup) (h : ∀ x, x ∈ z ↔ x ∈ w) : (Lib.compact (sortI z)).length = w.length := by
  obtain ⟨h1, h2⟩ := compact_spec (sortI_sorted z)
  exact ((List.perm_ext_iff_of_nodup (lt_nodup h1) hw).2 (fun x => by rw [h2, (sortI_perm z).mem_iff, h])).length_eq
/-- The members of two rows, rising. -/
theorem compact_eq {z : List Int} {w : List Int} (hw : w.Pairwise (· < ·)) (h : ∀ x, x ∈ z ↔ x ∈ w) : Lib.compact (sortI z) = w := by
  obtain ⟨h1, h2⟩ := compact_spec (sortI_sorted z)
  have hp := (List.perm_ext_iff_of_nodup (lt_nodup h1) (lt_nodup hw)).2 (fun x => by rw [h2, (sortI_perm z).mem_iff, h])
  exact List.Perm.eq_of_pairwise (le := (· ≤ ·)) (fun a b _ _ h1 h2 => by omega) (h1.imp (fun h => by omega)) (hw.imp (fun h => by omega)) hp
theorem compL_sortL (l : List D) : compL (sortL l) = (Lib.compact (sortI (l.map D.i))).map D.int := by
  unfold compL sortL
  rw [List.map_map]
  have : (D.i ∘ D.int : Int → Int) = id := rfl
  rw [this, List.map_id]
theorem iL_map (l : List D) : (iL l).map D.i = l.map D.i := by unfold iL; rw [List.map_map]; rfl
theorem riseI_compact (z : List Int) : Lib.compact (sortI z) = riseI z := compact_eq (rise_sorted z) (fun x => rise_mem.symm)
theorem joinL_rise (a b : List D) : joinL a b = riseL (a ++ b) := by
  unfold joinL riseL
  rw [compL_sortL, riseI_compact]
theorem joinL_mem {o n : List D} {x : Int} : x ∈ (joinL o n).map D.i ↔ x ∈ o.map D.i ∨ x ∈ n.map D.i := by
  rw [joinL_rise]
  unfold riseL
  rw [List.map_map]
  have : (D.i ∘ D.int : Int → Int) = id := rfl
  rw [this, List.map_id, rise_mem, List.map_append, List.mem_append]
theorem joinL_nodup (o n : List D) : ((joinL o n).map D.i).Nodup := by
  rw [joinL_rise]
  unfold riseL
  rw [List.map_map]
  have : (D.i ∘ D.int : Int → Int) = id := rfl
  rw [this, List.map_id]
  exact nodup_lt (rise_sorted _)
end Go.Proofs.YtkmilijehekdoaaDoor
