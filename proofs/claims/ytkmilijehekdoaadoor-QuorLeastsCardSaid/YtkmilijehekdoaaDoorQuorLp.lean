/- Chapter 6: the least sets, the program's and the document's: plain. -/
import Derived.Test.YtkmilijehekdoaaDoorQuorG
import Derived.Test.YtkmilijehekdoaaDoorQuorLc
namespace Go.Proofs.YtkmilijehekdoaaDoor
set_option linter.unusedVariables false
set_option linter.unusedSimpArgs false
open Go Go.Fw

/-! ### A bit less -/
def clr (x i : Nat) : Nat := (BitVec.ofNat 64 x &&& ~~~(BitVec.ofNat 64 (2 ^ i))).toNat
theorem clr_bit {x i : Nat} (j : Nat) (hi : i < 64) (hx : x < 2 ^ 64) : (clr x i).testBit j = (x.testBit j && !decide (i = j)) := by
  unfold clr
  rw [BitVec.testBit_toNat, BitVec.getLsbD_and, BitVec.getLsbD_not, BitVec.getLsbD_ofNat, BitVec.getLsbD_ofNat, Nat.testBit_two_pow]
  by_cases hj : j < 64
  · rw [decide_eq_true hj]; simp
  · have : x.testBit j = false := Nat.testBit_lt_two_pow (Nat.lt_of_lt_of_le hx (Nat.pow_le_pow_right (by omega) (by omega)))
    rw [decide_eq_false hj, this]; simp
theorem clr_lt {x i : Nat} (hi : i < 64) (hx : x < 2 ^ 64) (hb : x.testBit i = true) : clr x i < x := by
  have hle : clr x i ≤ x := by
    unfold clr
    rw [BitVec.toNat_and, BitVec.toNat_ofNat, Nat.mod_eq_of_lt hx]
    exact Nat.and_le_left
  refine Nat.lt_of_le_of_ne hle (fun e => ?_)
  have h := clr_bit (x := x) i hi hx
  rw [e, hb, decide_eq_true rfl] at h
  cases h
theorem clr_i64 {x i : Nat} (hi : i < 16) (hx : x < 2 ^ 16) (hb : x.testBit i = true) : bitI .andNot .i64 (x : Int) ((2 ^ i : Nat) : Int) = (clr x i : Int) := by
  show IntKind.i64.wrap ((BitVec.ofInt 64 (x : Int) &&& ~~~(BitVec.ofInt 64 ((2 ^ i : Nat) : Int))).toNat : Nat) = _
  rw [BitVec.ofInt_natCast, BitVec.ofInt_natCast]
  have hl := clr_lt (by omega) (Nat.lt_trans hx (by decide)) hb
  exact wrap_i64' (Int.natCast_nonneg _) (by unfold clr at hl; omega)
/-! ### Least -/
def pickL (l : List D) (x : Nat) : List D := thoseL l (x : Int) l.length
theorem pick_mem {l : List D} {x : Nat} (hl : l.length ≤ 16) {n : Int} : n ∈ (pickL l x).map D.i ↔ ∃ j, j < l.length ∧ x.testBit j = true ∧ (l.getD j .nil).i = n := by
  unfold pickL
  rw [thoseL_mem]
  constructor
  · rintro ⟨j, h1, h2, h3⟩; exact ⟨j, h1, by rw [← bitX_nat x (by omega)]; exact h2, h3⟩
  · rintro ⟨j, h1, h2, h3⟩; exact ⟨j, h1, by rw [bitX_nat x (by omega)]; exact h2, h3⟩
def lessB (S : List D → Bool) (l : List D) (x i : Nat) : Bool := x.testBit i && S (pickL l (clr x i))
def leastB (S : List D → Bool) (l : List D) (x : Nat) : Bool := S (pickL l x) && (List.range l.length).all fun i => !lessB S l x i
theorem least_ex {S : List D → Bool} {l : List D} (hl : l.length ≤ 16) : ∀ (x : Nat), x < 2 ^ l.length → S (pickL l x) = true → ∃ y, y < 2 ^ l.length ∧ leastB S l y = true ∧ ∀ n, n ∈ (pickL l y).map D.i → n ∈ (pickL l x).map D.i := by
  intro x
  induction x using Nat.strongRecOn with
  | _ x ih =>
    intro hx hs
    have h64 : x < 2 ^ 64 := Nat.lt_of_lt_of_le hx (Nat.pow_le_pow_right (by omega) (by omega))
    by_cases hm : (List.range l.length).all (fun i => !lessB S l x i) = true
    · exact ⟨x, hx, by unfold leastB; rw [hs, hm]; rfl, fun n h => h⟩
    · rw [List.all_eq_true] at hm
      have hm : ∃ i, i < l.length ∧ lessB S l x i = true := Classical.byContradiction fun hc => hm fun i hi => by
        rw [List.mem_range] at hi
        cases e : lessB S l x i with
        | false => rfl
        | true => exact absurd ⟨i, hi, e⟩ hc
      obtain ⟨i, hi, hm⟩ := hm
      unfold lessB at hm
      rw [Bool.and_eq_true] at hm
      have hlt := clr_lt (by omega) h64 hm.1
      obtain ⟨y, h1, h2, h3⟩ := ih _ hlt (by omega) hm.2
      refine ⟨y, h1, h2, fun n hn => ?_⟩
      have := h3 n hn
      rw [pick_mem hl] at this ⊢
      obtain ⟨j, hj, hb, e⟩ := this
      rw [clr_bit j (by omega) h64, Bool.and_eq_true] at hb
      exact ⟨j, hj, hb.1, e⟩
def leastUp (S : List D → Bool) (l : List D) (k : Nat) : List D := ((List.range k).filter (leastB S l)).map fun x => D.list (pickL l x)
theorem leastUp_step (S : List D → Bool) (l : List D) (k : Nat) : leastUp S l (k + 1) = leastUp S l k ++ if leastB S l k = true then [D.list (pickL l k)] else [] := by
  unfold leastUp
  rw [List.range_succ, List.filter_append, List.map_append]
  cases h : leastB S l k <;> simp [h]
theorem leastUp_len (S : List D → Bool) (l : List D) (k : Nat) : (leastUp S l k).length ≤ k := by
  unfold leastUp
  rw [List.length_map]
  exact Nat.le_trans (List.length_filter_le _ _) (by simp)
def leastL (S : List D → Bool) (l : List D) : List D := leastUp S l (2 ^ l.length)
theorem leastL_mem {S : List D → Bool} {l : List D} {d : D} : d ∈ leastL S l ↔ ∃ x, x < 2 ^ l.length ∧ leastB S l x = true ∧ d = D.list (pickL l x) := by
  unfold leastL leastUp
  rw [List.mem_map]
  constructor
  · rintro ⟨x, h, e⟩
    rw [List.mem_filter, List.mem_range] at h
    exact ⟨x, h.1, h.2, e.symm⟩
  · rintro ⟨x, h1, h2, e⟩
    exact ⟨x, List.mem_filter.2 ⟨List.mem_range.2 h1, h2⟩, e.symm⟩
/-! ### Meets -/
def refS (x : Option QP) (s : List D) : Bool := hasP (amI s) (refQ x)
theorem refS_some (q : QP) (s : List D) : refS (some q) s = q.has (amI s) := hasP_parts _ q
theorem refS_none (s : List D) : refS none s = false := rfl
theorem nodes_okQ {q : QP} (h : okQ (some q)) : Nodes q (nodesL q) := ⟨h.2.1, h.2.2.2.2.1, fun n hn => h.2.2.1 n (nodesL_mem.1 hn), fun n hn => nodesL_mem.2 hn⟩
theorem getD_map_i {l : List D} {j : Nat} (hj : j < l.length) : (l.getD j .nil).i = (l.map D.i)[j]'(by rw [List.length_map]; exact hj) := by
  rw [List.getD_eq_getElem?_getD, List.getElem?_eq_getElem hj, List.getElem_map]
  rfl
theorem pickM_bit {l : List D} {x : Nat} {n : Int} (h : 0 ≤ n ∧ n < 64) : bitM (pickM l x) n = amI (pickL l x) n := by
  unfold pickM maskL amI pickL
  exact bit_mask _ _ h.1 h.2
theorem has_pick {q : QP} (hq : q.ok) {l : List D} {x : Nat} : q.hasM (pickM l x) = q.has (amI (pickL l x)) := by
  unfold QP.hasM
  exact QP.has_congr hq (fun n h0 h1 => pickM_bit ⟨h0, h1⟩)
theorem bit_shl {n k : Int} (hn : 0 ≤ n ∧ n < 64) (hk : 0 ≤ k ∧ k < 64) : bitM (1#64 <<< k.toNat) n = decide (n = k) := by
  unfold bitM
  rw [BitVec.getLsbD_shiftLeft]
  have e : (1#64).getLsbD (n.toNat - k.toNat) = decide (n.toNat - k.toNat = 0) := by
    rw [BitVec.getLsbD_one]
    by_cases h : n.toNat - k.toNat = 0 <;> simp [h]
  rw [e]
  by_cases h : n = k
  · subst h; simp; omega
  · rw [decide_eq_false h]
    by_cases h2 : n.toNat < k.toNat
    · simp [h2]
    · simp; omega
theorem less_same {q : QP} (hq : q.ok) {l : List D} (hl : l.length ≤ 16) (hnd : (l.map D.i).Nodup) (hr : ∀ n ∈ l.map D.i, 0 ≤ n ∧ n < 64) {x i : Nat} (hx : x < 2 ^ l.length) (hi : i < l.length) : lessQ q (pickM l x) (l.getD i .nil).i = q.has (amI (pickL l (clr x i))) := by
  have hin : ∀ {j}, j < l.length → (l.getD j .nil).i ∈ l.map D.i := fun {j} hj => by rw [getD_map_i hj]; exact List.getElem_mem _
  have hki := hr _ (hin hi)
  have h64 : x < 2 ^ 64 := Nat.lt_of_lt_of_le hx (Nat.pow_le_pow_right (by omega) (by omega))
  unfold lessQ QP.hasM
  refine QP.has_congr hq (fun n h0 h1 => ?_)
  rw [bit_andNot _ _ ⟨h0, h1⟩, pickM_bit ⟨h0, h1⟩, bit_shl ⟨h0, h1⟩ hki]
  have key : amI (pickL l (clr x i)) n = true ↔ (amI (pickL l x) n && !decide (n = (l.getD i .nil).i)) = true := by
    rw [amI_iff, pick_mem hl, Bool.and_eq_true, amI_iff, pick_mem hl]
    constructor
    · rintro ⟨j, hj, hb, rfl⟩
      rw [clr_bit j (by omega) h64, Bool.and_eq_true] at hb
      refine ⟨⟨j, hj, hb.1, rfl⟩, ?_⟩
      have hne : i ≠ j := by simpa using hb.2
      rw [Bool.not_eq_true', decide_eq_false_iff_not, getD_map_i hj, getD_map_i hi]
      intro e
      have hpw := List.pairwise_iff_getElem.1 hnd
      rcases Nat.lt_or_gt_of_ne hne with h | h
      · exact hpw i j (by rw [List.length_map]; exact hi) (by rw [List.length_map]; exact hj) h e.symm
      · exact hpw j i (by rw [List.length_map]; exact hj) (by rw [List.length_map]; exact hi) h e
    · rintro ⟨⟨j, hj, hb, rfl⟩, h2⟩
      refine ⟨j, hj, ?_, rfl⟩
      rw [clr_bit j (by omega) h64, hb, Bool.true_and]
      have hne : i ≠ j := fun e => by subst e; simp at h2
      simp [hne]
  cases h1 : amI (pickL l (clr x i)) n <;> cases h2 : (amI (pickL l x) n && !decide (n = (l.getD i .nil).i))
  · rfl
  · rw [key.2 h2] at h1; cases h1
  · rw [key.1 h1] at h2; cases h2
  · rfl
theorem least_same {q : QP} (hq : q.ok) {l : List D} (hl : l.length ≤ 16) (hnd : (l.map D.i).Nodup) (hr : ∀ n ∈ l.map D.i, 0 ≤ n ∧ n < 64) {x : Nat} (hx : x < 2 ^ l.length) : leastPB q l x = leastB (fun s => q.has (amI s)) l x := by
  unfold leastPB leastB
  rw [has_pick hq]
  congr 1
  rw [Bool.eq_iff_iff, List.all_eq_true, List.all_eq_true]
  constructor
  · intro h i hi
    rw [List.mem_range] at hi
    unfold lessB
    by_cases hb : x.testBit i = true
    · have := h (.int (l.getD i .nil).i) (by
        unfold thoseL
        exact List.mem_map.2 ⟨i, List.mem_filter.2 ⟨List.mem_range.2 hi, by rw [bitX_nat x (by omega)]; exact hb⟩, rfl⟩)
      rw [hb, Bool.true_and]
      show (!q.has (amI (pickL l (clr x i)))) = true
      rw [← less_same hq hl hnd hr hx hi]
      exact this
    · simp [hb]
  · intro h d hd
    unfold thoseL at hd
    obtain ⟨i, hi, rfl⟩ := List.mem_map.1 hd
    rw [List.mem_filter, List.mem_range, bitX_nat x (by omega)] at hi
    have := h i (List.mem_range.2 hi.1)
    unfold lessB at this
    rw [hi.2, Bool.true_and] at this
    show (!lessQ q (pickM l x) (l.getD i .nil).i) = true
    rw [less_same hq hl hnd hr hx hi.1]
    exact this
theorem leastL_prog {q : QP} (h : okQ (some q)) : leastL (refS (some q)) (nodesL q) = (leastPL q (nodesL q)).map D.list := by
  have hq := h.1
  have na := nodes_okQ h
  have hnd : ((nodesL q).map D.i).Nodup := by rw [nodesL_i]; exact nodup_lt (rise_sorted _)
  unfold leastL leastUp leastPL leastPU
  rw [List.map_map]
  have e : (List.range (2 ^ (nodesL q).length)).filter (leastB (refS (some q)) (nodesL q)) = (List.range (2 ^ (nodesL q).length)).filter (leastPB q (nodesL q)) := by
    refine List.filter_congr (fun x hx => ?_)
    rw [List.mem_range] at hx
    rw [least_same hq na.len hnd na.rng hx]
    unfold leastB lessB
    have : ∀ s, refS (some q) s = q.has (amI s) := refS_some q
    simp only [this]
  rw [e]
  rfl
def leastQ (x : Option QP) : List (List D) := match x with
  | none => []
  | some q => leastPL q (nodesL q)
theorem leastQ_it {x : Option QP} (h : okQ x) {p l : D} {n : Int} (hP : progD x = .node [p, l, .int n]) : leastIt [.elt setY (.node [p, l, .int n])] ((leastQ x).map itemI) := by
  rcases prog_inv hP with ⟨rfl, rfl, rfl, _⟩ | ⟨q, rfl, rfl, rfl, _⟩
  · exact ⟨_, _, _, rfl, .inl ⟨rfl, rfl⟩⟩
  · exact ⟨_, _, _, rfl, .inr ⟨q, rfl, h.1, (nodes_okQ h).len, (nodes_okQ h).rng, rfl⟩⟩
theorem leastQ_len (x : Option QP) (h : okQ x) : ∀ L ∈ leastQ x, L.length ≤ 16 := by
  cases x with
  | none => intro L hL; cases hL
  | some q =>
    intro L hL
    unfold leastQ leastPL leastPU at hL
    obtain ⟨x, _, rfl⟩ := List.mem_map.1 hL
    exact Nat.le_trans (those_len _ _ _) (nodes_okQ h).len
end Go.Proofs.YtkmilijehekdoaaDoor
