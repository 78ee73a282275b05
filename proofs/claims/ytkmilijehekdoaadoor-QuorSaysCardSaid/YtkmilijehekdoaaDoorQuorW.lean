/- Chapter 6, in plain Lean: what Meets tells. -/
import Derived.Test.YtkmilijehekdoaaDoorQuorO
import Derived.Test.YtkmilijehekdoaaDoorQuorN
import Derived.Test.YtkmilijehekdoaaDoorQuorR
namespace Go.Proofs.YtkmilijehekdoaaDoor
set_option linter.unusedVariables false
set_option linter.unusedSimpArgs false
open Go Go.Fw

theorem and_one (x : Int) : bitI .and .i64 x 1 = x % 2 := by
  show IntKind.i64.wrap ((BitVec.ofInt 64 x &&& BitVec.ofInt 64 1).toNat : Nat) = _
  have h : (BitVec.ofInt 64 x &&& BitVec.ofInt 64 1).toNat = (BitVec.ofInt 64 x).toNat % 2 := by
    rw [BitVec.toNat_and]
    have : (BitVec.ofInt 64 1).toNat = 2 ^ 1 - 1 := by decide
    rw [this, Nat.and_two_pow_sub_one_eq_mod]
  rw [h, BitVec.toNat_ofInt]
  rw [wrap_i64' (by omega) (by omega)]
  omega
theorem bitX_nat (x : Nat) {i : Nat} (hi : i < 64) : bitX (x : Int) i = x.testBit i := by
  unfold bitX
  have hb : IntKind.i64.bits = 64 := rfl
  rw [hb, Nat.min_eq_left (by omega), Int.fdiv_eq_ediv_of_nonneg _ (pow_nn _), and_one]
  have e : ((x : Int) / 2 ^ i) = ((x / 2 ^ i : Nat) : Int) := by push_cast; rfl
  rw [e, Nat.testBit_eq_decide_div_mod_eq]
  by_cases h : x / 2 ^ i % 2 = 1
  · rw [decide_eq_true h, beq_iff_eq]; omega
  · rw [decide_eq_false h, beq_eq_false_iff_ne]; omega
theorem subset_num (p : Nat → Bool) : ∀ n : Nat, ∃ x, x < 2 ^ n ∧ ∀ i, i < n → x.testBit i = p i
  | 0 => ⟨0, by simp, fun i hi => by omega⟩
  | n + 1 => by
    obtain ⟨x, hx, hp⟩ := subset_num p n
    cases h : p n
    · refine ⟨x, by rw [Nat.pow_succ]; omega, fun i hi => ?_⟩
      by_cases e : i = n
      · subst e; rw [Nat.testBit_lt_two_pow hx, h]
      · exact hp i (by omega)
    · refine ⟨2 ^ n + x, by rw [Nat.pow_succ]; omega, fun i hi => ?_⟩
      by_cases e : i = n
      · subst e; rw [Nat.testBit_two_pow_add_eq, Nat.testBit_lt_two_pow hx, h]; rfl
      · rw [Nat.testBit_two_pow_add_gt (by omega)]
        exact hp i (by omega)
theorem QP.has_mono {S T : Int → Bool} : ∀ {q : QP}, (∀ n ∈ q.all, S n = true → T n = true) → q.has S = true → q.has T = true
  | .of k l, h, hs => by
    simp only [QP.has, decide_eq_true_eq] at hs ⊢
    have := List.countP_mono_left (l := l) (p := S) (q := T) h
    omega
  | .an a b, h, hs => by
    simp only [QP.has, Bool.and_eq_true] at hs ⊢
    exact ⟨QP.has_mono (fun n hn => h n (by simp [QP.all, hn])) hs.1, QP.has_mono (fun n hn => h n (by simp [QP.all, hn])) hs.2⟩
  | .or a b, h, hs => by
    simp only [QP.has, Bool.or_eq_true] at hs ⊢
    exact hs.imp (QP.has_mono (fun n hn => h n (by simp [QP.all, hn]))) (QP.has_mono (fun n hn => h n (by simp [QP.all, hn])))
/-- Nothing is enough by nothing. -/
def QP.pos : QP → Prop
  | .of k _ => 1 ≤ k
  | .an a b => a.pos ∧ b.pos
  | .or a b => a.pos ∧ b.pos
theorem QP.has_none {S : Int → Bool} (hS : ∀ n, S n = false) : ∀ {q : QP}, q.pos → q.has S = false
  | .of k l, h => by
    have : l.countP S = 0 := by rw [List.countP_eq_zero]; intro a _; simp [hS]
    simp only [QP.has, this]
    exact decide_eq_false (by simp only [QP.pos] at h; omega)
  | .an a b, h => by simp only [QP.has]; rw [QP.has_none hS h.1]; rfl
  | .or a b, h => by simp only [QP.has]; rw [QP.has_none hS h.1, QP.has_none hS h.2]; rfl
theorem thoseL_mem {l : List D} {x i : Nat} {n : Int} : n ∈ (thoseL l (x : Int) i).map D.i ↔ ∃ j, j < i ∧ bitX (x : Int) j = true ∧ (l.getD j .nil).i = n := by
  unfold thoseL
  rw [List.map_map, List.mem_map]
  constructor
  · rintro ⟨j, hj, e⟩
    rw [List.mem_filter, List.mem_range] at hj
    exact ⟨j, hj.1, hj.2, e⟩
  · rintro ⟨j, h1, h2, e⟩
    exact ⟨j, List.mem_filter.2 ⟨List.mem_range.2 h1, h2⟩, e⟩
theorem bit_andNot (a m : M64) {n : Int} (h : 0 ≤ n ∧ n < 64) : bitM (a &&& ~~~m) n = (bitM a n && !bitM m n) := by
  unfold bitM
  rw [BitVec.getLsbD_and, BitVec.getLsbD_not, decide_eq_true (show n.toNat < 64 by omega), Bool.true_and]
/-- The nodes of a set, as it is in memory. -/
structure Nodes (q : QP) (l : List D) : Prop where
  pos : q.pos
  len : l.length ≤ 16
  rng : ∀ n ∈ l.map D.i, 0 ≤ n ∧ n < 64
  mem : ∀ n ∈ q.all, n ∈ l.map D.i
theorem bitM_zero (n : Int) : bitM 0 n = false := by unfold bitM; exact BitVec.getLsbD_zero
theorem meets_sem {qa qb : QP} {la lb : List D} (ha : Nodes qa la) (hb : Nodes qb lb) : meetsB qa la qb lb = true ↔ ∀ S : Int → Bool, qa.has S = true → qb.has (fun n => !S n) = true → False := by
  constructor
  · intro hm S h1 h2
    obtain ⟨x, hx, hp⟩ := subset_num (fun i => S (la.getD i .nil).i) la.length
    have hbit : ∀ n ∈ la.map D.i, bitM (pickM la x) n = true → S n = true := fun n hn hbt => by
      have hr := ha.rng n hn
      unfold pickM maskL at hbt
      rw [bit_mask _ _ hr.1 hr.2, List.contains_iff_mem, thoseL_mem] at hbt
      obtain ⟨j, hj, hj2, rfl⟩ := hbt
      rw [bitX_nat x (by have := ha.len; omega), hp j hj] at hj2
      exact hj2
    have hbit2 : ∀ n ∈ la.map D.i, S n = true → bitM (pickM la x) n = true := fun n hn hs => by
      have hr := ha.rng n hn
      unfold pickM maskL
      rw [bit_mask _ _ hr.1 hr.2, List.contains_iff_mem, thoseL_mem]
      obtain ⟨d, hd, rfl⟩ := List.mem_map.1 hn
      obtain ⟨j, hj, rfl⟩ := List.mem_iff_getElem.1 hd
      have e : la.getD j .nil = la[j] := by rw [List.getD_eq_getElem?_getD, List.getElem?_eq_getElem hj]; rfl
      refine ⟨j, hj, ?_, by rw [e]⟩
      rw [bitX_nat x (by have := ha.len; omega), hp j hj, e]
      exact hs
    have c1 : qa.hasM (pickM la x) = true := QP.has_mono (fun n hn hs => hbit2 n (ha.mem n hn) hs) h1
    have c2 : qb.hasM (maskL lb &&& ~~~(pickM la x)) = true := QP.has_mono (fun n hn hs => by
      have hr := hb.rng n (hb.mem n hn)
      rw [bit_andNot _ _ hr]
      have e1 : bitM (maskL lb) n = true := by
        unfold maskL
        rw [bit_mask _ _ hr.1 hr.2, List.contains_iff_mem]
        exact hb.mem n hn
      rw [e1, Bool.true_and]
      cases hc : bitM (pickM la x) n with
      | false => rfl
      | true =>
        exfalso
        have hin : n ∈ la.map D.i := by
          unfold pickM maskL at hc
          rw [bit_mask _ _ hr.1 hr.2, List.contains_iff_mem, thoseL_mem] at hc
          obtain ⟨j, hj, _, rfl⟩ := hc
          rw [List.getD_eq_getElem?_getD, List.getElem?_eq_getElem hj]
          exact List.mem_map.2 ⟨_, List.getElem_mem hj, rfl⟩
        rw [hbit n hin hc] at hs
        cases hs) h2
    have c3 : decide (0 < onesI (mI (pickM la x))) = true := by
      refine decide_eq_true ?_
      by_cases hz : onesI (mI (pickM la x)) ≤ 0
      · have e := ones_pos _ hz
        rw [e] at c1
        unfold QP.hasM at c1
        rw [QP.has_none bitM_zero ha.pos] at c1
        cases c1
      · omega
    have := meets_no (qa := qa) (qb := qb) (la := la) (lb := lb) hx (by unfold clashB; rw [c1, c2, c3]; rfl)
    rw [this] at hm
    cases hm
  · intro h
    refine meets_yes (fun x hx => ?_)
    unfold clashB
    cases c1 : qa.hasM (pickM la x) with
    | false => rw [Bool.and_false, Bool.false_and]
    | true =>
      cases c2 : qb.hasM (maskL lb &&& ~~~(pickM la x)) with
      | false => rw [Bool.and_false]
      | true =>
        exfalso
        refine h (bitM (pickM la x)) c1 (QP.has_mono (fun n hn hs => ?_) c2)
        have hr := hb.rng n (hb.mem n hn)
        rw [bit_andNot _ _ hr, Bool.and_eq_true] at hs
        exact hs.2
/-- Either way round. -/
theorem meets_symm {qa qb : QP} {la lb : List D} (ha : Nodes qa la) (hb : Nodes qb lb) : meetsB qa la qb lb = meetsB qb lb qa la := by
  have key : meetsB qa la qb lb = true ↔ meetsB qb lb qa la = true := by
    rw [meets_sem ha hb, meets_sem hb ha]
    constructor
    · intro h S h1 h2
      exact h (fun n => !S n) h2 (by simpa using h1)
    · intro h S h1 h2
      exact h (fun n => !S n) h2 (by simpa using h1)
  cases h1 : meetsB qa la qb lb <;> cases h2 : meetsB qb lb qa la
  · rfl
  · rw [key.2 h2] at h1; cases h1
  · rw [key.1 h1] at h2; cases h2
  · rfl
theorem meets_or {x y z : QP} {lx ly lz l : List D} (hx : Nodes x lx) (hy : Nodes y ly) (hz : Nodes z lz) (hl : Nodes (.or x y) l) : meetsB (.or x y) l z lz = (meetsB x lx z lz && meetsB y ly z lz) := by
  have key : meetsB (.or x y) l z lz = true ↔ meetsB x lx z lz = true ∧ meetsB y ly z lz = true := by
    rw [meets_sem hl hz, meets_sem hx hz, meets_sem hy hz]
    constructor
    · intro h
      exact ⟨fun S h1 h2 => h S (by simp [QP.has, h1]) h2, fun S h1 h2 => h S (by simp [QP.has, h1]) h2⟩
    · rintro ⟨h1, h2⟩ S h3 h4
      simp only [QP.has, Bool.or_eq_true] at h3
      rcases h3 with h3 | h3
      · exact h1 S h3 h4
      · exact h2 S h3 h4
  cases h1 : meetsB (.or x y) l z lz
  · cases h2 : (meetsB x lx z lz && meetsB y ly z lz)
    · rfl
    · rw [Bool.and_eq_true] at h2
      rw [key.2 h2] at h1; cases h1
  · have := key.1 h1
    rw [this.1, this.2]; rfl
theorem meets_an {x y z : QP} {lx ly lz l : List D} (hx : Nodes x lx) (hy : Nodes y ly) (hz : Nodes z lz) (hl : Nodes (.an x y) l) (h : meetsB x lx z lz = true ∨ meetsB y ly z lz = true) : meetsB (.an x y) l z lz = true := by
  rw [meets_sem hl hz]
  intro S h1 h2
  simp only [QP.has, Bool.and_eq_true] at h1
  rcases h with h | h
  · exact (meets_sem hx hz).1 h S h1.1 h2
  · exact (meets_sem hy hz).1 h S h1.2 h2
end Go.Proofs.YtkmilijehekdoaaDoor
