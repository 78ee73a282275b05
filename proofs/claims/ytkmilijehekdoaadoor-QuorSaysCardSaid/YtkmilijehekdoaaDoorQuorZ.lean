/- Chapter 6: the program's sets and the document's, plain. -/
import Derived.Test.YtkmilijehekdoaaDoorQuorU
import Derived.Test.YtkmilijehekdoaaDoorQuorX
namespace Go.Proofs.YtkmilijehekdoaaDoor
set_option linter.unusedVariables false
set_option linter.unusedSimpArgs false
open Go Go.Fw

/-! ### Nodes -/
def nodesL (q : QP) : List D := riseL (allL q.parts)
theorem parts_i (q : QP) : (allL q.parts).map D.i = q.all := by
  have h := q.parts_all 0
  rw [q.parts_sh0] at h
  exact h
theorem nodesL_eq (q : QP) : nodesL q = (riseI q.all).map D.int := by unfold nodesL riseL; rw [parts_i]
theorem nodesL_i (q : QP) : (nodesL q).map D.i = riseI q.all := by
  rw [nodesL_eq, List.map_map]
  exact List.map_id _
theorem nodesL_mem {q : QP} {x : Int} : x ∈ (nodesL q).map D.i ↔ x ∈ q.all := by rw [nodesL_i, rise_mem]
theorem joinL_nodes (a b : QP) : joinL (nodesL a) (nodesL b) = (riseI (a.all ++ b.all)).map D.int := by
  rw [joinL_rise]
  unfold riseL
  rw [rise_eq (rise_sorted (a.all ++ b.all)) (fun x => by rw [List.map_append, rise_mem, List.mem_append, List.mem_append, nodesL_mem, nodesL_mem])]
/-! ### Leaves -/
theorem parts_of : ∀ q : QP, q.parts.countP isOf = q.leaves
  | .of k l => rfl
  | .an a b => by
    have e : (isOf ∘ shP (a.parts.length : Int)) = isOf := rfl
    simp only [QP.parts, QP.leaves, List.countP_append, List.countP_map, e, parts_of a, parts_of b]
    rfl
  | .or a b => by
    have e : (isOf ∘ shP (a.parts.length : Int)) = isOf := rfl
    simp only [QP.parts, QP.leaves, List.countP_append, List.countP_map, e, parts_of a, parts_of b]
    rfl
theorem parts_bd : ∀ (q : QP), ∀ d ∈ q.parts, ∃ k n a b l, d = rPart k n a b l ∧ 0 ≤ a ∧ a ≤ (q.parts.length : Int) ∧ 0 ≤ b ∧ b ≤ (q.parts.length : Int)
  | .of k l, d, h => by
    simp only [QP.parts, List.mem_singleton] at h
    exact ⟨_, _, _, _, _, h, by omega, by omega, by omega, by omega⟩
  | .an p r, d, h => by
    have l1 := p.parts_pos
    have l2 := r.parts_pos
    have hl : (QP.an p r).parts.length = p.parts.length + r.parts.length + 1 := by simp only [QP.parts, List.length_append, List.length_map, List.length_cons, List.length_nil]
    rw [hl]
    simp only [QP.parts, List.mem_append, List.mem_map, List.mem_singleton] at h
    rcases h with (h | ⟨e, he, rfl⟩) | h
    · obtain ⟨k, n, a, b, l, e, h1, h2, h3, h4⟩ := parts_bd p d h
      exact ⟨k, n, a, b, l, e, by omega, by omega, by omega, by omega⟩
    · obtain ⟨k, n, a, b, l, rfl, h1, h2, h3, h4⟩ := parts_bd r e he
      exact ⟨k, n, a + p.parts.length, b + p.parts.length, l, rfl, by omega, by omega, by omega, by omega⟩
    · exact ⟨_, _, _, _, _, h, by omega, by omega, by omega, by omega⟩
  | .or p r, d, h => by
    have l1 := p.parts_pos
    have l2 := r.parts_pos
    have hl : (QP.or p r).parts.length = p.parts.length + r.parts.length + 1 := by simp only [QP.parts, List.length_append, List.length_map, List.length_cons, List.length_nil]
    rw [hl]
    simp only [QP.parts, List.mem_append, List.mem_map, List.mem_singleton] at h
    rcases h with (h | ⟨e, he, rfl⟩) | h
    · obtain ⟨k, n, a, b, l, e, h1, h2, h3, h4⟩ := parts_bd p d h
      exact ⟨k, n, a, b, l, e, by omega, by omega, by omega, by omega⟩
    · obtain ⟨k, n, a, b, l, rfl, h1, h2, h3, h4⟩ := parts_bd r e he
      exact ⟨k, n, a + p.parts.length, b + p.parts.length, l, rfl, by omega, by omega, by omega, by omega⟩
    · exact ⟨_, _, _, _, _, h, by omega, by omega, by omega, by omega⟩
/-! ### Sets, or none -/
def okQ : Option QP → Prop
  | none => True
  | some q => q.ok ∧ q.pos ∧ (∀ n ∈ q.all, 0 ≤ n ∧ n < 64) ∧ q.leaves ≤ 16 ∧ (nodesL q).length ≤ 16 ∧ q.all.length ≤ 16 * q.leaves
def refQ : Option QP → List D
  | none => []
  | some q => q.parts
theorem form_ok {q : QP} (h : okQ (some q)) : formP q.parts ∧ q.parts.length ≤ 31 := by
  have hl := q.parts_len
  have h4 := h.2.2.2.1
  refine ⟨fun d hd => ?_, by omega⟩
  obtain ⟨k, n, a, b, l, e, h1, h2, h3, h4⟩ := parts_bd q d hd
  exact ⟨k, n, a, b, l, e, h1, by omega, h3, by omega⟩
/-- So many of these nodes, if that is a set. -/
def ofQ (k : Int) (l : List D) : Option QP := if l.length < 1 ∨ 16 < l.length then none else if ofOk k l = true then some (.of k (riseI (l.map D.i))) else none
def kindQ (kind : Int) (a b : QP) : QP := if kind = 1 then .an a b else .or a b
def twoQ (kind : Int) : Option QP → Option QP → Option QP
  | none, y => if kind = 1 then none else y
  | some x, none => if kind = 1 then none else some x
  | some x, some y => if 16 < (nodesL (kindQ kind x y)).length ∨ 16 < (kindQ kind x y).leaves then none else some (kindQ kind x y)
theorem kind_leaves (kind : Int) (a b : QP) : (kindQ kind a b).leaves = a.leaves + b.leaves := by unfold kindQ; split <;> rfl
theorem kind_all (kind : Int) (a b : QP) : (kindQ kind a b).all = a.all ++ b.all := by unfold kindQ; split <;> rfl
theorem kind_parts {kind : Int} (hk : kind = 1 ∨ kind = 2) (a b : QP) : (kindQ kind a b).parts = joinP kind a.parts b.parts := by
  rcases hk with rfl | rfl
  · rfl
  · rfl
theorem kind_nodes (kind : Int) (a b : QP) : nodesL (kindQ kind a b) = joinL (nodesL a) (nodesL b) := by rw [nodesL_eq, kind_all, joinL_nodes]
theorem kind_enc {kind : Int} (hk : kind = 1 ∨ kind = 2) (a b : QP) : (kindQ kind a b).enc = .ptr (.node [.int kind, .int 0, .list [], a.enc, b.enc]) := by
  rcases hk with rfl | rfl
  · rfl
  · rfl
theorem two_ok {kind : Int} {x y : Option QP} (hx : okQ x) (hy : okQ y) : okQ (twoQ kind x y) := by
  cases x with
  | none => simp only [twoQ]; split; exact trivial; exact hy
  | some x =>
    cases y with
    | none => simp only [twoQ]; split; exact trivial; exact hx
    | some y =>
      simp only [twoQ]
      split
      · exact trivial
      · rename_i h
        have e1 := kind_leaves kind x y
        obtain ⟨a1, a2, a3, a4, a5, a6⟩ := hx
        obtain ⟨b1, b2, b3, b4, b5, b6⟩ := hy
        refine ⟨by unfold kindQ; split <;> exact ⟨a1, b1⟩, by unfold kindQ; split <;> exact ⟨a2, b2⟩, fun n hn => ?_, by omega, by omega, ?_⟩
        · rw [kind_all, List.mem_append] at hn
          exact hn.elim (a3 n) (b3 n)
        · rw [kind_all, List.length_append]
          omega
theorem two_ref {kind : Int} (hk : kind = 1 ∨ kind = 2) (x y : Option QP) : twoL kind (refQ x) (refQ y) = refQ (twoQ kind x y) := by
  unfold twoL
  cases x with
  | none =>
    rw [if_pos (.inl rfl)]
    simp only [twoQ]
    split
    · rfl
    · exact if_pos (rfl : (refQ none).length = 0)
  | some x =>
    have hx := x.parts_pos
    cases y with
    | none =>
      rw [if_pos (.inr rfl)]
      simp only [twoQ]
      split
      · rfl
      · rw [if_neg (by show ¬ x.parts.length = 0; omega)]
    | some y =>
      have hy := y.parts_pos
      have e1 : joinP kind (refQ (some x)) (refQ (some y)) = (kindQ kind x y).parts := (kind_parts hk x y).symm
      rw [if_neg (by show ¬ (x.parts.length = 0 ∨ y.parts.length = 0); omega), e1, parts_of, show riseL (allL (kindQ kind x y).parts) = nodesL (kindQ kind x y) from rfl]
      simp only [twoQ]
      by_cases h : 16 < (nodesL (kindQ kind x y)).length ∨ 16 < (kindQ kind x y).leaves
      · rw [if_pos h, if_pos h.symm]; rfl
      · rw [if_neg h, if_neg (fun h' => h h'.symm)]; rfl
theorem two_all {kind : Int} (hk : kind = 1 ∨ kind = 2) {x y : Option QP} (hx : okQ x) (hy : okQ y) : (allL (joinP kind (refQ x) (refQ y))).length ≤ 100000 := by
  have e : ∀ z : Option QP, okQ z → (allL (refQ z)).length ≤ 256 := fun z hz => by
    cases z with
    | none => exact Nat.zero_le _
    | some z =>
      obtain ⟨_, _, _, h4, _, h6⟩ := hz
      have : (allL z.parts).length = z.all.length := by rw [← parts_i, List.length_map]
      show (allL z.parts).length ≤ 256
      omega
  have h1 := e x hx
  have h2 := e y hy
  unfold joinP
  unfold allL at h1 h2 ⊢
  have e3 : (rL ∘ shP ((refQ x).length : Int)) = rL := rfl
  have e4 : ((refQ y).map (shP ((refQ x).length : Int))).flatMap rL = (refQ y).flatMap rL := by
    rw [List.flatMap_map]
    rfl
  rw [List.flatMap_append, List.flatMap_append, e4, List.length_append, List.length_append]
  have : ([rPart kind 0 ((refQ x).length - 1) ((refQ x).length + (refQ y).length - 1) []].flatMap rL).length = 0 := rfl
  rw [this]
  omega
theorem both_prog {kind : Int} (hk : kind = 1 ∨ kind = 2) (x y : QP) : bothR kind x.enc y.enc (nodesL x) (nodesL y) x.leaves y.leaves = match twoQ kind (some x) (some y) with | none => qNone | some q => setOf q.enc (nodesL q) q.leaves := by
  unfold bothR
  simp only [twoQ]
  rw [← kind_nodes kind x y]
  have e1 := kind_leaves kind x y
  by_cases h : 16 < (nodesL (kindQ kind x y)).length ∨ 16 < (kindQ kind x y).leaves
  · rw [if_pos h, if_pos (by omega)]
  · rw [if_neg h, if_neg (by omega)]
    simp only [kind_enc hk, e1]
    rw [Int.natCast_add]
/-! ### So many of these nodes -/
theorem rise_nodup : ∀ (n : Nat) (z : List Int), z.length = n → (riseI z).length = z.length → z.Nodup := by
  intro n
  induction n with
  | zero => intro z h _; rw [List.length_eq_zero_iff.1 h]; exact List.nodup_nil
  | succ n ih =>
    intro z h hr
    obtain ⟨w, x, rfl⟩ : ∃ w x, z = w ++ [x] := by
      have hne : z ≠ [] := by intro e; rw [e] at h; simp at h
      exact ⟨z.dropLast, z.getLast hne, (List.dropLast_concat_getLast hne).symm⟩
    simp only [List.length_append, List.length_cons, List.length_nil] at h hr
    rw [rise_snoc] at hr
    have l1 := rise_len w
    have l2 := ins_len (riseI w) x
    have hx : x ∉ w := fun hx => by
      unfold insI at hr
      rw [if_pos (rise_mem.2 hx)] at hr
      omega
    have := ih w (by omega) (by omega)
    rw [List.nodup_append]
    refine ⟨this, by simp, fun a ha b hb => ?_⟩
    rw [List.mem_singleton] at hb
    subst hb
    exact fun e => hx (e ▸ ha)
theorem sD_rise {l : List D} (h : (l.map D.i).Nodup) : sD l = riseI (l.map D.i) := by
  rw [← riseI_compact]
  unfold sD
  have hp : (sortI (l.map D.i)).Pairwise (· < ·) := by
    have h1 := sortI_sorted (l.map D.i)
    have h2 : (sortI (l.map D.i)).Nodup := (sortI_perm (l.map D.i)).nodup_iff.2 h
    exact (List.Pairwise.and h1 h2).imp (fun h => by omega)
  exact (compact_id hp).symm
theorem good_lt {l : List D} (h : goodN (sD l)) : (sD l).Pairwise (· < ·) := by
  have hs := sortI_sorted (l.map D.i)
  rw [List.pairwise_iff_getElem] at hs ⊢
  intro i j hi hj hij
  have e : ∀ m (hm : m < (sD l).length), (sD l).getD m 0 = (sD l)[m] := fun m hm => by rw [List.getD_eq_getElem?_getD, List.getElem?_eq_getElem hm]; rfl
  have h1 := (h j hj).2.2 (by omega)
  rw [e j hj, e (j - 1) (by omega)] at h1
  have h2 : (sD l)[j - 1]'(by omega) ≤ (sD l)[j] := hs (j - 1) j (by unfold sD at hj; omega) hj (by omega)
  by_cases hji : i = j - 1
  · subst hji; omega
  · have h3 : (sD l)[i] ≤ (sD l)[j - 1]'(by omega) := hs i (j - 1) hi (by unfold sD at hj; omega) (by omega)
    omega
theorem ofOk_good {k : Int} {l : List D} : ofOk k l = true ↔ goodN (sD l) ∧ 1 ≤ k ∧ k ≤ (l.length : Int) := by
  unfold ofOk
  simp only [Bool.and_eq_true, decide_eq_true_eq, beq_iff_eq, List.all_eq_true]
  have er : riseL l = (riseI (l.map D.i)).map D.int := rfl
  have ln : ∀ x, nodeI x = true ↔ 0 ≤ x ∧ x < 64 := fun x => by unfold nodeI; simp
  constructor
  · rintro ⟨⟨⟨h1, h2⟩, h3⟩, h4⟩
    have hn : (l.map D.i).Nodup := rise_nodup _ _ rfl (by rw [er, List.length_map] at h1; rw [h1, List.length_map])
    have e := sD_rise hn
    refine ⟨?_, h2, h3⟩
    rw [e]
    refine goodN_of (rise_sorted _) (fun x hx => ?_)
    have := h4 (.int x) (by rw [er]; exact List.mem_map.2 ⟨x, hx, rfl⟩)
    exact (ln x).1 this
  · rintro ⟨h1, h2, h3⟩
    have hlt := good_lt h1
    have e : riseI (l.map D.i) = sD l := rise_eq hlt (fun x => ((sortI_perm (l.map D.i)).mem_iff).symm)
    refine ⟨⟨⟨?_, h2⟩, h3⟩, fun x hx => ?_⟩
    · rw [er, List.length_map, e, sD_len]
    · rw [er, List.mem_map] at hx
      obtain ⟨y, hy, rfl⟩ := hx
      rw [e] at hy
      obtain ⟨i, hi, rfl⟩ := List.getElem_of_mem hy
      have := h1 i hi
      unfold goodA at this
      rw [List.getD_eq_getElem?_getD, List.getElem?_eq_getElem hi] at this
      exact (ln _).2 ⟨this.1, this.2.1⟩
theorem ofOk_sD {k : Int} {l : List D} (h : ofOk k l = true) : sD l = riseI (l.map D.i) := by
  have hlt := good_lt (ofOk_good.1 h).1
  exact (rise_eq hlt (fun x => ((sortI_perm (l.map D.i)).mem_iff).symm)).symm
theorem of_okQ (k : Int) (l : List D) : okQ (ofQ k l) := by
  unfold ofQ
  split
  · exact trivial
  · rename_i hl
    split
    · rename_i ho
      have e := ofOk_sD ho
      obtain ⟨h1, h2, h3⟩ := ofOk_good.1 ho
      have hr : ∀ n ∈ riseI (l.map D.i), 0 ≤ n ∧ n < 64 := fun n hn => by
        rw [← e] at hn
        obtain ⟨i, hi, rfl⟩ := List.getElem_of_mem hn
        have := h1 i hi
        unfold goodA at this
        rw [List.getD_eq_getElem?_getD, List.getElem?_eq_getElem hi] at this
        exact ⟨this.1, this.2.1⟩
      have hlen : (riseI (l.map D.i)).length ≤ 16 := by have := rise_len (l.map D.i); rw [List.length_map] at this; omega
      refine ⟨⟨hr, by omega⟩, h2, hr, by show 1 ≤ 16; decide, ?_, by show (riseI (l.map D.i)).length ≤ 16 * 1; omega⟩
      rw [nodesL_eq, List.length_map]
      exact Nat.le_trans (rise_len _) hlen
    · exact trivial
end Go.Proofs.YtkmilijehekdoaaDoor
