/- Chapter 6, in plain Lean: the document's sets: rows of parts. -/
import Derived.Test.YtkmilijehekdoaaDoorQuorP
import Derived.Test.YtkmilijehekdoaaDoorRise
namespace Go.Proofs.YtkmilijehekdoaaDoor
set_option linter.unusedVariables false
set_option linter.unusedSimpArgs false
open Go Go.Fw

def rPart (kind k a b : Int) (l : List D) : D := .node [.int kind, .int k, .int a, .int b, .list l]
def rK (d : D) : Int := (d.fld 0).i
def rN (d : D) : Int := (d.fld 1).i
def rA (d : D) : Int := (d.fld 2).i
def rB (d : D) : Int := (d.fld 3).i
def rL (d : D) : List D := (d.fld 4).l
def shP (s : Int) (d : D) : D := rPart (rK d) (rN d) (rA d + s) (rB d + s) (rL d)
theorem shP_part (s kind k a b : Int) (l : List D) : shP s (rPart kind k a b l) = rPart kind k (a + s) (b + s) l := rfl
theorem shP_sh (s t : Int) (d : D) : shP s (shP t d) = shP (t + s) d := by
  unfold shP
  show rPart (rK d) (rN d) (rA d + t + s) (rB d + t + s) (rL d) = rPart (rK d) (rN d) (rA d + (t + s)) (rB d + (t + s)) (rL d)
  rw [Int.add_assoc, Int.add_assoc]
/-- A set's parts. -/
def QP.parts : QP → List D
  | .of k l => [rPart 0 k 0 0 (l.map .int)]
  | .an a b => a.parts ++ b.parts.map (shP a.parts.length) ++ [rPart 1 0 (a.parts.length - 1) (a.parts.length + b.parts.length - 1) []]
  | .or a b => a.parts ++ b.parts.map (shP a.parts.length) ++ [rPart 2 0 (a.parts.length - 1) (a.parts.length + b.parts.length - 1) []]
theorem QP.parts_pos (q : QP) : 0 < q.parts.length := by cases q <;> simp [QP.parts] <;> omega
def QP.leaves : QP → Nat
  | .of _ _ => 1
  | .an a b => a.leaves + b.leaves
  | .or a b => a.leaves + b.leaves
theorem QP.leaves_pos : ∀ q : QP, 0 < q.leaves
  | .of _ _ => Nat.one_pos
  | .an a b => by have := a.leaves_pos; simp only [QP.leaves]; omega
  | .or a b => by have := a.leaves_pos; simp only [QP.leaves]; omega
theorem QP.parts_len : ∀ q : QP, q.parts.length + 1 = 2 * q.leaves
  | .of _ _ => rfl
  | .an a b => by
    have h1 := a.parts_len
    have h2 := b.parts_len
    simp only [QP.parts, QP.leaves, List.length_append, List.length_map, List.length_cons, List.length_nil]
    omega
  | .or a b => by
    have h1 := a.parts_len
    have h2 := b.parts_len
    simp only [QP.parts, QP.leaves, List.length_append, List.length_map, List.length_cons, List.length_nil]
    omega
/-- All nodes, leaf by leaf. -/
def QP.all : QP → List Int
  | .of _ l => l
  | .an a b => a.all ++ b.all
  | .or a b => a.all ++ b.all
theorem QP.parts_all : ∀ (q : QP) (s : Int), ((q.parts.map (shP s)).flatMap rL).map D.i = q.all
  | .of k l, s => by
    simp only [QP.parts, List.map_cons, List.map_nil, shP_part, List.flatMap_cons, List.flatMap_nil, List.append_nil, QP.all]
    show (l.map D.int).map D.i = l
    rw [List.map_map]
    exact List.map_id l
  | .an a b, s => by
    simp only [QP.parts, List.map_append, List.map_map, List.map_cons, List.map_nil, shP_part, List.flatMap_append, List.flatMap_cons, List.flatMap_nil, List.append_nil, QP.all]
    have e : (shP s ∘ shP (a.parts.length : Int)) = shP ((a.parts.length : Int) + s) := funext fun d => shP_sh _ _ _
    rw [e, a.parts_all s, b.parts_all]
    show a.all ++ b.all ++ [] = _
    rw [List.append_nil]
  | .or a b, s => by
    simp only [QP.parts, List.map_append, List.map_map, List.map_cons, List.map_nil, shP_part, List.flatMap_append, List.flatMap_cons, List.flatMap_nil, List.append_nil, QP.all]
    have e : (shP s ∘ shP (a.parts.length : Int)) = shP ((a.parts.length : Int) + s) := funext fun d => shP_sh _ _ _
    rw [e, a.parts_all s, b.parts_all]
    show a.all ++ b.all ++ [] = _
    rw [List.append_nil]
/-- What one part is worth, the ones ahead of it being known. -/
def stepP (S : Int → Bool) (vs : List Bool) (d : D) : List Bool :=
  vs ++ [if rK d = 1 then vs.getD (rA d).toNat false && vs.getD (rB d).toNat false else if rK d = 2 then vs.getD (rA d).toNat false || vs.getD (rB d).toNat false else decide (rN d ≤ (((rL d).map D.i).countP S : Int))]
def QP.vals (S : Int → Bool) : QP → List Bool
  | .of k l => [(QP.of k l).has S]
  | .an a b => a.vals S ++ b.vals S ++ [(QP.an a b).has S]
  | .or a b => a.vals S ++ b.vals S ++ [(QP.or a b).has S]
theorem QP.vals_len (S : Int → Bool) : ∀ q : QP, (q.vals S).length = q.parts.length
  | .of _ _ => rfl
  | .an a b => by simp only [QP.vals, QP.parts, List.length_append, List.length_map, List.length_cons, List.length_nil, a.vals_len S, b.vals_len S]
  | .or a b => by simp only [QP.vals, QP.parts, List.length_append, List.length_map, List.length_cons, List.length_nil, a.vals_len S, b.vals_len S]
theorem QP.vals_last (S : Int → Bool) : ∀ q : QP, (q.vals S).getLast? = some (q.has S)
  | .of _ _ => rfl
  | .an a b => by simp [QP.vals]
  | .or a b => by simp [QP.vals]
theorem last_at {l : List Bool} {b : Bool} (h : l.getLast? = some b) {pre post : List Bool} {n : Nat} (hn : n = pre.length + l.length - 1) : (pre ++ l ++ post).getD n false = b := by
  have hl : l ≠ [] := fun e => by rw [e] at h; cases h
  have hp : 0 < l.length := List.length_pos_iff.2 hl
  rw [List.getLast?_eq_getElem?] at h
  rw [List.getD_eq_getElem?_getD, List.append_assoc, List.getElem?_append_right (by omega), List.getElem?_append_left (by omega), hn]
  have e : pre.length + l.length - 1 - pre.length = l.length - 1 := by omega
  rw [e, h]
  rfl
theorem QP.eval (S : Int → Bool) : ∀ (q : QP) (pre : List Bool), (q.parts.map (shP pre.length)).foldl (stepP S) pre = pre ++ q.vals S
  | .of k l, pre => by
    simp only [QP.parts, List.map_cons, List.map_nil, shP_part, List.foldl_cons, List.foldl_nil, QP.vals, QP.has]
    unfold stepP
    have e0 : rK (rPart 0 k (0 + (pre.length : Int)) (0 + (pre.length : Int)) (l.map D.int)) = 0 := rfl
    rw [e0, if_neg (by decide), if_neg (by decide)]
    have e1 : (rL (rPart 0 k (0 + (pre.length : Int)) (0 + (pre.length : Int)) (l.map D.int))).map D.i = l := by
      show (l.map D.int).map D.i = l
      rw [List.map_map]
      exact List.map_id l
    rw [e1]
    rfl
  | .an a b, pre => by
    have e : (shP (pre.length : Int) ∘ shP (a.parts.length : Int)) = shP ((pre ++ a.vals S).length : Int) := funext fun d => by
      show shP _ (shP _ d) = _
      rw [shP_sh, List.length_append, a.vals_len S]
      congr 1
      push_cast
      omega
    simp only [QP.parts, List.map_append, List.map_map, List.map_cons, List.map_nil, shP_part, List.foldl_append, List.foldl_cons, List.foldl_nil, QP.vals]
    rw [a.eval S pre, e, b.eval S]
    have pa := a.parts_pos
    have pb := b.parts_pos
    have va := a.vals_len S
    have vb := b.vals_len S
    unfold stepP
    have e0 : ∀ x y : Int, rK (rPart 1 0 x y []) = 1 := fun _ _ => rfl
    have eA : ∀ x y : Int, rA (rPart 1 0 x y []) = x := fun _ _ => rfl
    have eB : ∀ x y : Int, rB (rPart 1 0 x y []) = y := fun _ _ => rfl
    rw [e0, if_pos rfl, eA, eB, last_at (a.vals_last S) (pre := pre) (post := b.vals S) (by omega)]
    have h2 := last_at (b.vals_last S) (pre := pre ++ a.vals S) (post := []) (n := ((a.parts.length : Int) + (b.parts.length : Int) - 1 + (pre.length : Int)).toNat) (by rw [List.length_append]; omega)
    rw [List.append_nil] at h2
    rw [h2]
    simp only [QP.has, List.append_assoc]
  | .or a b, pre => by
    have e : (shP (pre.length : Int) ∘ shP (a.parts.length : Int)) = shP ((pre ++ a.vals S).length : Int) := funext fun d => by
      show shP _ (shP _ d) = _
      rw [shP_sh, List.length_append, a.vals_len S]
      congr 1
      push_cast
      omega
    simp only [QP.parts, List.map_append, List.map_map, List.map_cons, List.map_nil, shP_part, List.foldl_append, List.foldl_cons, List.foldl_nil, QP.vals]
    rw [a.eval S pre, e, b.eval S]
    have pa := a.parts_pos
    have pb := b.parts_pos
    have va := a.vals_len S
    have vb := b.vals_len S
    unfold stepP
    have e0 : ∀ x y : Int, rK (rPart 2 0 x y []) = 2 := fun _ _ => rfl
    have eA : ∀ x y : Int, rA (rPart 2 0 x y []) = x := fun _ _ => rfl
    have eB : ∀ x y : Int, rB (rPart 2 0 x y []) = y := fun _ _ => rfl
    rw [e0, if_neg (by decide), if_pos rfl, eA, eB, last_at (a.vals_last S) (pre := pre) (post := b.vals S) (by omega)]
    have h2 := last_at (b.vals_last S) (pre := pre ++ a.vals S) (post := []) (n := ((a.parts.length : Int) + (b.parts.length : Int) - 1 + (pre.length : Int)).toNat) (by rw [List.length_append]; omega)
    rw [List.append_nil] at h2
    rw [h2]
    simp only [QP.has, List.append_assoc]
theorem shP_zero (d : D) (h : ∃ k n a b l, d = rPart k n a b l) : shP 0 d = d := by
  obtain ⟨k, n, a, b, l, rfl⟩ := h
  rw [shP_part, Int.add_zero, Int.add_zero]
theorem QP.parts_form : ∀ (q : QP), ∀ d ∈ q.parts, ∃ k n a b l, d = rPart k n a b l
  | .of k l, d, h => by
    simp only [QP.parts, List.mem_singleton] at h
    exact ⟨_, _, _, _, _, h⟩
  | .an a b, d, h => by
    simp only [QP.parts, List.mem_append, List.mem_map, List.mem_singleton] at h
    rcases h with (h | ⟨e, h, rfl⟩) | h
    · exact a.parts_form d h
    · exact ⟨_, _, _, _, _, rfl⟩
    · exact ⟨_, _, _, _, _, h⟩
  | .or a b, d, h => by
    simp only [QP.parts, List.mem_append, List.mem_map, List.mem_singleton] at h
    rcases h with (h | ⟨e, h, rfl⟩) | h
    · exact a.parts_form d h
    · exact ⟨_, _, _, _, _, rfl⟩
    · exact ⟨_, _, _, _, _, h⟩
theorem QP.parts_sh0 (q : QP) : q.parts.map (shP 0) = q.parts := by
  have : q.parts.map (shP 0) = q.parts.map id := List.map_congr_left (fun d hd => shP_zero d (q.parts_form d hd))
  rw [this, List.map_id]
theorem QP.eval0 (S : Int → Bool) (q : QP) : q.parts.foldl (stepP S) [] = q.vals S := by
  have := q.eval S []
  rw [List.length_nil] at this
  have e : ((0 : Nat) : Int) = 0 := rfl
  rw [e, q.parts_sh0] at this
  simpa using this
/-- Each part's own two stand ahead of it. -/
def wfP (s : Nat) (L : List D) : Prop := ∀ i, i < L.length → ¬ (rK (L.getD i .nil) = 1 ∨ rK (L.getD i .nil) = 2) ∨ (0 ≤ rA (L.getD i .nil) ∧ rA (L.getD i .nil) < s + i ∧ 0 ≤ rB (L.getD i .nil) ∧ rB (L.getD i .nil) < s + i)
theorem getD_app_left {l m : List D} {i : Nat} (h : i < l.length) : (l ++ m).getD i .nil = l.getD i .nil := by
  rw [List.getD_eq_getElem?_getD, List.getElem?_append_left h, List.getD_eq_getElem?_getD]
theorem getD_app_right {l m : List D} {i : Nat} (h : l.length ≤ i) : (l ++ m).getD i .nil = m.getD (i - l.length) .nil := by
  rw [List.getD_eq_getElem?_getD, List.getElem?_append_right h, List.getD_eq_getElem?_getD]
theorem wfP_app {s : Nat} {L M : List D} (h1 : wfP s L) (h2 : wfP (s + L.length) M) : wfP s (L ++ M) := by
  intro i hi
  by_cases h : i < L.length
  · rw [getD_app_left h]
    exact h1 i h
  · rw [getD_app_right (by omega)]
    rw [List.length_append] at hi
    have := h2 (i - L.length) (by omega)
    rcases this with h3 | h3
    · exact .inl h3
    · exact .inr (by omega)
theorem wfP_one {s : Nat} {d : D} (h : ¬ (rK d = 1 ∨ rK d = 2) ∨ (0 ≤ rA d ∧ rA d < s ∧ 0 ≤ rB d ∧ rB d < s)) : wfP s [d] := by
  intro i hi
  obtain rfl : i = 0 := by simpa using hi
  exact h
theorem QP.parts_wf : ∀ (q : QP) (s : Nat), wfP s (q.parts.map (shP s))
  | .of k l, s => wfP_one (.inl (by show ¬ ((0 : Int) = 1 ∨ (0 : Int) = 2); decide))
  | .an a b, s => by
    have e : (shP (s : Int) ∘ shP (a.parts.length : Int)) = shP ((s + a.parts.length : Nat) : Int) := funext fun d => by
      show shP _ (shP _ d) = _
      rw [shP_sh]
      congr 1
      push_cast
      omega
    have pa := a.parts_pos
    have pb := b.parts_pos
    simp only [QP.parts, List.map_append, List.map_map, List.map_cons, List.map_nil]
    rw [e]
    refine wfP_app (wfP_app (a.parts_wf s) (by rw [List.length_map]; exact b.parts_wf _)) (wfP_one (.inr ?_))
    rw [List.length_append, List.length_map, List.length_map]
    show 0 ≤ ((a.parts.length : Int) - 1 + s) ∧ _ ∧ 0 ≤ ((a.parts.length : Int) + b.parts.length - 1 + s) ∧ _
    refine ⟨by omega, ?_, by omega, ?_⟩
    · show ((a.parts.length : Int) - 1 + s) < _
      push_cast
      omega
    · show ((a.parts.length : Int) + b.parts.length - 1 + s) < _
      push_cast
      omega
  | .or a b, s => by
    have e : (shP (s : Int) ∘ shP (a.parts.length : Int)) = shP ((s + a.parts.length : Nat) : Int) := funext fun d => by
      show shP _ (shP _ d) = _
      rw [shP_sh]
      congr 1
      push_cast
      omega
    have pa := a.parts_pos
    have pb := b.parts_pos
    simp only [QP.parts, List.map_append, List.map_map, List.map_cons, List.map_nil]
    rw [e]
    refine wfP_app (wfP_app (a.parts_wf s) (by rw [List.length_map]; exact b.parts_wf _)) (wfP_one (.inr ?_))
    rw [List.length_append, List.length_map, List.length_map]
    show 0 ≤ ((a.parts.length : Int) - 1 + s) ∧ _ ∧ 0 ≤ ((a.parts.length : Int) + b.parts.length - 1 + s) ∧ _
    refine ⟨by omega, ?_, by omega, ?_⟩
    · show ((a.parts.length : Int) - 1 + s) < _
      push_cast
      omega
    · show ((a.parts.length : Int) + b.parts.length - 1 + s) < _
      push_cast
      omega
theorem QP.parts_wf0 (q : QP) : wfP 0 q.parts := by
  have := q.parts_wf 0
  have e : ((0 : Nat) : Int) = 0 := rfl
  rwa [e, q.parts_sh0] at this
end Go.Proofs.YtkmilijehekdoaaDoor
