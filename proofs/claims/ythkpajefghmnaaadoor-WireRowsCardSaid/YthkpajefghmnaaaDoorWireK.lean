/- Chapter 2: WireRows: the plain law. -/
import Derived.Test.YthkpajefghmnaaaDoorWireHa
namespace Go.Proofs.YthkpajefghmnaaaDoor
set_option linter.unusedVariables false
set_option linter.unusedSimpArgs false
open Go Go.Fw Go.Wire

def flat (ns : List Int) : List D := ns.flatMap encD
/-- Where the i-th begins; behind the last one the bytes. -/
def rowsB (ns : List Int) (x : List D) : List D := flat ns ++ (encD x.length ++ x)
def pos (ns : List Int) (x : List D) (i : Nat) : Nat := if i ≤ ns.length then (flat (ns.take i)).length else (rowsB ns x).length
def endsD (ns : List Int) (x : List D) (i : Nat) : List D := (List.range i).map fun j => .int (pos ns x (j + 1) : Int)
theorem flat_take_succ {ns : List Int} {i : Nat} (h : i < ns.length) : flat (ns.take (i + 1)) = flat (ns.take i) ++ encD (ns.getD i 0) := by
  rw [List.take_succ_eq_append_getElem h]
  unfold flat
  rw [List.flatMap_append]
  simp [List.getD_eq_getElem?_getD, List.getElem?_eq_getElem h]
theorem pos_0 (ns : List Int) (x : List D) : pos ns x 0 = 0 := by simp [pos, flat]
theorem pos_succ {ns : List Int} {x : List D} {i : Nat} (h : i < ns.length) : pos ns x (i + 1) = pos ns x i + (encD (ns.getD i 0)).length := by
  unfold pos
  rw [if_pos (by omega), if_pos (by omega), flat_take_succ h, List.length_append]
theorem pos_last {ns : List Int} {x : List D} : pos ns x (ns.length + 1) = pos ns x ns.length + (encD x.length).length + x.length := by
  unfold pos
  rw [if_neg (by omega), if_pos (by omega), List.take_length]
  simp only [rowsB, List.length_append]; omega
theorem pos_le_last (ns : List Int) (x : List D) : pos ns x (ns.length + 1) = (rowsB ns x).length := by
  unfold pos
  rw [if_neg (by omega)]
theorem rows_drop {ns : List Int} {x : List D} {i : Nat} (h : i < ns.length) : ∃ r, (rowsB ns x).drop (pos ns x i) = encD (ns.getD i 0) ++ r := by
  refine ⟨flat (ns.drop (i + 1)) ++ (encD x.length ++ x), ?_⟩
  unfold pos
  rw [if_pos (by omega)]
  have e : rowsB ns x = flat (ns.take i) ++ (encD (ns.getD i 0) ++ (flat (ns.drop (i + 1)) ++ (encD x.length ++ x))) := by
    have : flat ns = flat (ns.take i) ++ (encD (ns.getD i 0) ++ flat (ns.drop (i + 1))) := by
      rw [← List.append_assoc, ← flat_take_succ h]
      unfold flat
      rw [← List.flatMap_append, List.take_append_drop]
    unfold rowsB
    rw [this]
    simp only [List.append_assoc]
  rw [e, List.drop_left]
theorem rows_drop_last {ns : List Int} {x : List D} : (rowsB ns x).drop (pos ns x ns.length) = encD x.length ++ (x ++ []) := by
  unfold pos rowsB
  rw [if_pos (by omega), List.take_length, List.drop_left, List.append_nil]
theorem pos_le {ns : List Int} {x : List D} : ∀ {i}, i ≤ ns.length + 1 → pos ns x i ≤ (rowsB ns x).length := by
  intro i hi
  by_cases h : i ≤ ns.length
  · have := rows_drop_last (ns := ns) (x := x)
    have h2 : ∀ j, i + j ≤ ns.length → pos ns x i ≤ pos ns x (i + j) := by
      intro j
      induction j with
      | zero => intro _; exact Nat.le_refl _
      | succ j ih => intro hj; rw [← Nat.add_assoc, pos_succ (by omega)]; have := ih (by omega); omega
    have h3 := h2 (ns.length - i) (by omega)
    rw [show i + (ns.length - i) = ns.length by omega] at h3
    have h4 := pos_last (ns := ns) (x := x)
    rw [pos_le_last] at h4
    omega
  · rw [show i = ns.length + 1 by omega, pos_le_last]; exact Nat.le_refl _
/-- A number that fits is read. -/
theorem rows_fit {ns : List Int} {x : List D} {i k : Nat} (h : i < ns.length) (hn : -9223372036854775808 ≤ ns.getD i 0 ∧ ns.getD i 0 ≤ 9223372036854775807) (hk : pos ns x (i + 1) ≤ k) : numF ((rowsB ns x).take k) (pos ns x i) .nil (-9223372036854775808) 9223372036854775807 = (ns.getD i 0, pos ns x (i + 1), .nil) := by
  obtain ⟨r, hr⟩ := rows_drop (x := x) h
  rw [pos_succ h] at hk ⊢
  refine numF_at (r := r.take (k - pos ns x i - (encD (ns.getD i 0)).length)) ?_ hn hn
  rw [List.drop_take, hr, List.take_append, List.take_of_length_le (by omega)]
theorem rows_cut {ns : List Int} {x : List D} {i k : Nat} (h : i < ns.length) (hn : -9223372036854775808 ≤ ns.getD i 0 ∧ ns.getD i 0 ≤ 9223372036854775807) (h0 : pos ns x i ≤ k) (hk : ¬ pos ns x (i + 1) ≤ k) : numF ((rowsB ns x).take k) (pos ns x i) .nil (-9223372036854775808) 9223372036854775807 = (0, pos ns x i, atD (pos ns x i) 1) := by
  obtain ⟨r, hr⟩ := rows_drop (x := x) h
  rw [pos_succ h] at hk
  refine numF_cut (k := k - pos ns x i) ?_ hn (by omega)
  rw [List.drop_take, hr, List.take_append, show k - pos ns x i - (encD (ns.getD i 0)).length = 0 by omega, List.take_zero, List.append_nil]
theorem bytes_fit {ns : List Int} {x : List D} {k : Nat} (hx : x.length ≤ 60) (hl : (rowsB ns x).length ≤ 1000000000) (hk : pos ns x (ns.length + 1) ≤ k) : bytF ((rowsB ns x).take k) (pos ns x ns.length) .nil 60 = (x, pos ns x (ns.length + 1), .nil) := by
  rw [pos_le_last] at hk
  rw [List.take_of_length_le hk, pos_last]
  exact bytF_at rows_drop_last hl (by omega) (pos_le (by omega))
theorem bytes_cut {ns : List Int} {x : List D} {k : Nat} (hx : x.length ≤ 60) (h0 : pos ns x ns.length ≤ k) (hk : ¬ pos ns x (ns.length + 1) ≤ k) : bytF ((rowsB ns x).take k) (pos ns x ns.length) .nil 60 = ([], pos ns x ns.length, atD (pos ns x ns.length) 1) := by
  have hd := rows_drop_last (ns := ns) (x := x)
  have hlen := congrArg List.length hd
  have hle := pos_le_last ns x
  rw [pos_last] at hk hle
  have hkl : ((rowsB ns x).take k).length = k := by rw [List.length_take]; omega
  by_cases hc : k - pos ns x ns.length < (encD (x.length : Int)).length
  · have hF := numF_cut (l := (rowsB ns x).take k) (a := pos ns x ns.length) (k := k - pos ns x ns.length) (n := (x.length : Int)) (lo := 0) (hi := 60) (by rw [List.drop_take, hd, List.take_append, show k - pos ns x ns.length - (encD (x.length : Int)).length = 0 by omega, List.take_zero, List.append_nil]) (by omega) hc
    unfold bytF
    rw [hF]; exact if_neg (by simp [atD, D.isNil])
  · have hF := numF_at (l := (rowsB ns x).take k) (a := pos ns x ns.length) (n := (x.length : Int)) (lo := 0) (hi := 60) (r := (x ++ []).take (k - pos ns x ns.length - (encD (x.length : Int)).length)) (by rw [List.drop_take, hd, List.take_append, List.take_of_length_le (by omega)]) (by omega) (by omega)
    unfold bytF
    rw [hF, if_pos (by rfl)]
    exact if_pos (by rw [hkl]; simp only []; omega)
theorem endsD_get {ns : List Int} {x : List D} {m i : Nat} (h : i < m) : (endsD ns x m).getD i .nil = .int (pos ns x (i + 1) : Int) := by
  unfold endsD
  simp [List.getD_eq_getElem?_getD, List.getElem?_map, List.getElem?_range h]
theorem endsD_len (ns : List Int) (x : List D) (m : Nat) : (endsD ns x m).length = m := by simp [endsD]
theorem endsD_succ (ns : List Int) (x : List D) (m : Nat) : endsD ns x (m + 1) = endsD ns x m ++ [.int (pos ns x (m + 1) : Int)] := by simp [endsD, List.range_succ]
theorem flat_len {ns : List Int} (h : ∀ i, i < ns.length → -9223372036854775808 ≤ ns.getD i 0 ∧ ns.getD i 0 ≤ 9223372036854775807) : ∀ i, i ≤ ns.length → (flat (ns.take i)).length ≤ 10 * i := by
  intro i
  induction i with
  | zero => intro _; simp [flat]
  | succ i ih =>
    intro hi
    rw [flat_take_succ (by omega), List.length_append]
    have := ih (by omega)
    have := enc_le (h i (by omega))
    omega
theorem rngB_flat (ns : List Int) : RngB (flat ns) := by
  induction ns with
  | nil => exact rngB_nil
  | cons n ns ih => exact rngB_app (rngB_enc n) ih
theorem rngB_take {l : List D} (h : RngB l) (k : Nat) : RngB (l.take k) := by
  intro j hj
  rw [List.length_take] at hj
  have := h j (by omega)
  simp only [List.getD_eq_getElem?_getD] at this ⊢
  rw [List.getElem?_take_of_lt (by omega)]
  exact this
end Go.Proofs.YthkpajefghmnaaaDoor
