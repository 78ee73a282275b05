/- Chapter 7, in plain Lean: sorted rows, each but once; configurations that may be. -/
import Derived.Test.YtkojpimkngmckaaDoorConfE
namespace Go.Proofs.YtkojpimkngmckaaDoor
set_option linter.unusedVariables false
set_option linter.unusedSimpArgs false
open Go Go.Fw

theorem sortI_sorted (z : List Int) : (sortI z).Pairwise (· ≤ ·) := by
  have h := List.pairwise_mergeSort (le := fun x y : Int => decide (x ≤ y)) (fun a b c h1 h2 => by simp at *; omega) (fun a b => by simp; omega) z
  exact h.imp (fun h => of_decide_eq_true h)
theorem sortI_id {z : List Int} (h : z.Pairwise (· ≤ ·)) : sortI z = z :=
  List.Perm.eq_of_pairwise (le := (· ≤ ·)) (fun a b _ _ h1 h2 => by omega) (sortI_sorted z) h (sortI_perm z)
theorem compact_spec {z : List Int} (h : z.Pairwise (· ≤ ·)) : (Lib.compact z).Pairwise (· < ·) ∧ ∀ x, x ∈ Lib.compact z ↔ x ∈ z := by
  have key : ∀ m, m ≤ z.length → (Lib.compactUpTo z.toArray m).Pairwise (· < ·) ∧ (∀ x, x ∈ Lib.compactUpTo z.toArray m ↔ x ∈ z.take m) := by
    intro m
    induction m with
    | zero => intro _; exact ⟨by simp [Lib.compactUpTo], by simp [Lib.compactUpTo]⟩
    | succ m ih =>
      intro hm
      obtain ⟨ih1, ih2⟩ := ih (by omega)
      have hml : m < z.length := by omega
      have e1 : z.toArray[m]! = z[m] := by rw [getElem!_pos z.toArray m (by simpa using hml)]; simp
      rw [Lib.compactUpTo_succ, List.take_add_one, List.getElem?_eq_getElem hml]
      simp only [Option.toList_some]
      by_cases h0 : m = 0
      · subst h0
        rw [if_pos (Lib.keeps_lt_one _ 0 (by omega)), e1]
        simp [Lib.compactUpTo]
      have hp : z.toArray[m - 1]! = z[m - 1] := by rw [getElem!_pos z.toArray (m - 1) (by simp; omega)]; simp
      have hmem : z[m - 1] ∈ z.take m := by
        rw [List.mem_take_iff_getElem]
        exact ⟨m - 1, by omega, rfl⟩
      have hle : ∀ x ∈ z.take m, x ≤ z[m - 1] := by
        intro x hx
        rw [List.mem_take_iff_getElem] at hx
        obtain ⟨i, hi, rfl⟩ := hx
        by_cases e : i = m - 1
        · subst e; exact Int.le_refl _
        · exact (List.pairwise_iff_getElem.1 h) i (m - 1) (by omega) (by omega) (by omega)
      have hstep : z[m - 1] ≤ z[m] := (List.pairwise_iff_getElem.1 h) (m - 1) m (by omega) hml (by omega)
      by_cases hk : z[m] = z[m - 1]
      · rw [Lib.keeps_neg (by omega) (by rw [e1, hp, hk])]
        simp only [Bool.false_eq_true, if_false, List.append_nil]
        refine ⟨ih1, fun x => ?_⟩
        rw [ih2, List.mem_append, List.mem_singleton]
        exact ⟨.inl, fun hx => hx.elim id (fun hx => by rw [hx, hk]; exact hmem)⟩
      · rw [Lib.keeps_pos (by rw [e1, hp]; exact hk), if_pos rfl, e1]
        refine ⟨List.pairwise_append.2 ⟨ih1, List.pairwise_singleton _ _, fun a ha b hb => ?_⟩, fun x => ?_⟩
        · rw [List.mem_singleton] at hb
          subst hb
          have := hle a ((ih2 a).1 ha)
          omega
        · rw [List.mem_append, ih2, List.mem_append]
  have := key z.length (Nat.le_refl _)
  rw [List.take_of_length_le (Nat.le_refl _)] at this
  exact this
theorem lt_nodup {l : List Int} (h : l.Pairwise (· < ·)) : l.Nodup := h.imp (fun h => by omega)
theorem compact_id {z : List Int} (h : z.Pairwise (· < ·)) : Lib.compact z = z := by
  obtain ⟨h1, h2⟩ := compact_spec (h.imp (fun h => by omega))
  have hp : (Lib.compact z).Perm z := (List.perm_ext_iff_of_nodup (lt_nodup h1) (lt_nodup h)).2 h2
  exact List.Perm.eq_of_pairwise (le := (· ≤ ·)) (fun a b _ _ h1 h2 => by omega) (h1.imp (fun h => by omega)) (h.imp (fun h => by omega)) hp
theorem compact_len {z : List Int} {w : List Int} (hw : w.Nodup) (h : ∀ x, x ∈ z ↔ x ∈ w) : (Lib.compact (sortI z)).length = w.length := by
  obtain ⟨h1, h2⟩ := compact_spec (sortI_sorted z)
  exact ((List.perm_ext_iff_of_nodup (lt_nodup h1) hw).2 (fun x => by rw [h2, (sortI_perm z).mem_iff, h])).length_eq
/-- The members of two rows, rising. -/
theorem compact_eq {z : List Int} {w : List Int} (hw : w.Pairwise (· < ·)) (h : ∀ x, x ∈ z ↔ x ∈ w) : Lib.compact (sortI z) = w := by
  obtain ⟨h1, h2⟩ := compact_spec (sortI_sorted z)
  have hp := (List.perm_ext_iff_of_nodup (lt_nodup h1) (lt_nodup hw)).2 (fun x => by rw [h2, (sortI_perm z).mem_iff, h])
  exact List.Perm.eq_of_pairwise (le := (· ≤ ·)) (fun a b _ _ h1 h2 => by omega) (h1.imp (fun h => by omega)) (hw.imp (fun h => by omega)) hp
theorem compL_sortL (l : List D) : compL (sortL l) = (Lib.compact (sortI (l.map D.i))).map D.int := by
  unfold compL sortL
  rw [List.map_map]
  have : (D.i ∘ D.int : Int → Int) = id := rfl
  rw [this, List.map_id]
theorem iL_map (l : List D) : (iL l).map D.i = l.map D.i := by unfold iL; rw [List.map_map]; rfl
theorem sixB_of {l : List D} (h : l.length = 6) (hn : (l.map D.i).Nodup) : sixB l = true := by
  unfold sixB
  rw [compL_sortL, List.length_map, iL_map, compact_len hn (fun x => Iff.rfl), List.length_map, h]
  rfl
theorem sixB_nodup {l : List D} (h : sixB l = true) : l.length = 6 ∧ (l.map D.i).Nodup := by
  unfold sixB at h
  rw [Bool.and_eq_true, beq_iff_eq, beq_iff_eq] at h
  refine ⟨h.1, ?_⟩
  have h2 := h.2
  rw [compL_sortL, List.length_map, iL_map] at h2
  obtain ⟨h3, h4⟩ := compact_spec (sortI_sorted (l.map D.i))
  have hlen : (sortI (l.map D.i)).length = 6 := by rw [sortI_len, List.length_map, h.1]
  have hall := compact_full (z := sortI (l.map D.i)) (by rw [h2, hlen])
  have hsorted := sortI_sorted (l.map D.i)
  have hstrict : (sortI (l.map D.i)).Pairwise (· < ·) := by
    rw [List.pairwise_iff_getElem]
    intro i j hi hj hij
    have h5 := hall j (by omega) hj
    rw [List.getD_eq_getElem?_getD, List.getD_eq_getElem?_getD, List.getElem?_eq_getElem hj, List.getElem?_eq_getElem (by omega)] at h5
    simp only [Option.getD_some] at h5
    have h6 := (List.pairwise_iff_getElem.1 hsorted) (j - 1) j (by omega) hj (by omega)
    by_cases e : i = j - 1
    · subst e; omega
    · have h7 := (List.pairwise_iff_getElem.1 hsorted) i (j - 1) hi (by omega) (by omega)
      omega
  exact (sortI_perm _).nodup_iff.1 (lt_nodup hstrict)
theorem badI_of {l : List D} (h : ∀ x ∈ l, 0 ≤ x.i ∧ x.i < 64) : badI l = false := by
  unfold badI
  rw [List.any_eq_false]
  intro x hx
  have := h x hx
  unfold nodeB
  simp
  exact this
theorem valid_of {e : Int} {o n : List D} (he : 0 ≤ e ∧ e ≤ 1073741824) (hb : badI o = false) (hb2 : badI n = false) (h6 : sixB o = true) (hn : 0 < n.length → sixB n = true ∧ commonN o n = 5) : validC e o n = .nil := by
  unfold validC
  rw [if_neg (by rw [hb, hb2]; simp; omega), if_neg (by
    rw [h6]
    simp only [Bool.true_eq_false, false_or, not_and]
    intro h
    obtain ⟨h1, h2⟩ := hn h
    rw [h1, h2]
    simp)]
theorem sD_perm (l : List D) : (sD l).Perm (l.map D.i) := sortI_perm _
theorem of_has {k : Int} {l : List D} (S : Int → Bool) : (QP.of k (sD l)).has S = decide (k ≤ ((l.map D.i).countP S : Int)) := by
  simp only [QP.has]
  rw [(sD_perm l).countP_eq]
/-- What is enough, of a configuration that may be. -/
theorem enough_one {e : Int} {o : List D} {k : Int} {b : Bool} (h : (validC e o []).isNil = true) : enoughQ e o [] k b = some (QP.of k (sD o), (sD o).map D.int, 1) := by
  unfold enoughQ
  rw [if_neg (by rw [h]; decide), if_pos (.inl rfl)]
theorem enough_base {e : Int} {o n : List D} {k : Int} (h : (validC e o n).isNil = true) : enoughQ e o n k false = some (QP.of k (sD o), (sD o).map D.int, 1) := by
  unfold enoughQ
  rw [if_neg (by rw [h]; decide), if_pos (.inr rfl)]
theorem enough_two {e : Int} {o n : List D} {k : Int} (h : (validC e o n).isNil = true) (hn : 0 < n.length) : enoughQ e o n k true = some (QP.an (QP.of k (sD o)) (QP.of k (sD n)), joinL ((sD o).map D.int) ((sD n).map D.int), 2) := by
  unfold enoughQ
  rw [if_neg (by rw [h]; decide), if_neg (by rintro (h | h); omega; cases h)]
theorem of_ok {k : Int} {l : List D} (hb : badI l = false) (h6 : l.length ≤ 1000) : (QP.of k (sD l)).ok := by
  refine ⟨fun n hn => ?_, by rw [sD_len]; exact h6⟩
  obtain ⟨x, hx, rfl⟩ := List.mem_map.1 ((sD_perm l).mem_iff.1 hn)
  exact badI_false hb x hx
theorem hasI_iff {l : List D} {v : Int} : hasI l v = true ↔ v ∈ l.map D.i := by
  unfold hasI
  rw [List.any_eq_true]
  constructor
  · rintro ⟨x, hx, he⟩
    exact List.mem_map.2 ⟨x, hx, (beq_iff_eq.1 he).symm⟩
  · intro h
    obtain ⟨x, hx, he⟩ := List.mem_map.1 h
    exact ⟨x, hx, beq_iff_eq.2 he.symm⟩
end Go.Proofs.YtkojpimkngmckaaDoor
