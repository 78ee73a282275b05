/- Sets that are enough, in plain Lean: bits, parts. -/
import Derived.Test.YtkmilijehekdoaaDoorErr
namespace Go.Proofs.YtkmilijehekdoaaDoor
set_option linter.unusedVariables false
set_option linter.unusedSimpArgs false
open Go Go.Fw

abbrev M64 := BitVec 64
def mI (m : M64) : Int := (m.toNat : Int)
def mStep (m : M64) (n : Int) : M64 := if 0 ≤ n ∧ n < 64 then m ||| (1#64 <<< n.toNat) else m
def maskB (l : List Int) : M64 := l.foldl mStep 0
theorem mI_zero : mI 0 = 0 := rfl
theorem mI_range (m : M64) : 0 ≤ mI m ∧ mI m < 2 ^ 64 := ⟨by unfold mI; omega, by unfold mI; have := m.isLt; omega⟩
theorem wrap_u64 {x : Int} (h : 0 ≤ x) (h2 : x < 2 ^ 64) : IntKind.u64.wrap x = x := by
  unfold IntKind.wrap
  simp only [IntKind.bits, IntKind.signed, Bool.false_and, Bool.false_eq_true, if_false]
  omega
theorem wrap_i64' {x : Int} (h : 0 ≤ x) (h2 : x < 2 ^ 63) : IntKind.i64.wrap x = x := by
  unfold IntKind.wrap
  simp only [IntKind.bits, IntKind.signed, Bool.true_and]
  rw [if_neg (by simp; omega)]
  omega
theorem ofInt_mI (m : M64) : BitVec.ofInt 64 (mI m) = m := by
  apply BitVec.eq_of_toNat_eq
  unfold mI
  simp
theorem wrap_toNat (m : M64) : IntKind.u64.wrap ((m.toNat : Nat) : Int) = mI m := wrap_u64 (by omega) (by have := m.isLt; omega)
theorem pow_nn (n : Nat) : (0 : Int) ≤ 2 ^ n := by exact_mod_cast Nat.zero_le (2 ^ n)
theorem pow_lt64 {n : Nat} (h : n < 64) : (2 : Int) ^ n < 2 ^ 64 := by
  have : (2 : Nat) ^ n < 2 ^ 64 := Nat.pow_lt_pow_right (by omega) h
  exact_mod_cast this
theorem shl_mI {n : Int} (h0 : 0 ≤ n) (h1 : n < 64) : IntKind.u64.wrap (1 * 2 ^ min n.toNat IntKind.u64.bits) = mI (1#64 <<< n.toNat) := by
  have hn : n.toNat < 64 := by omega
  have hb : IntKind.u64.bits = 64 := rfl
  rw [hb, Nat.min_eq_left (by omega), Int.one_mul, wrap_u64 (pow_nn _) (pow_lt64 hn)]
  unfold mI
  rw [BitVec.toNat_shiftLeft, BitVec.toNat_ofNat, Nat.one_mod_eq_one.2 (by decide), Nat.shiftLeft_eq, Nat.one_mul, Nat.mod_eq_of_lt (Nat.pow_lt_pow_right (by omega) hn)]
  simp
theorem or_mI (a b : M64) : bitI .or .u64 (mI a) (mI b) = mI (a ||| b) := by
  show IntKind.u64.wrap ((BitVec.ofInt 64 (mI a) ||| BitVec.ofInt 64 (mI b)).toNat : Nat) = _
  rw [ofInt_mI, ofInt_mI]
  exact wrap_toNat _
theorem and_mI (a b : M64) : bitI .and .u64 (mI a) (mI b) = mI (a &&& b) := by
  show IntKind.u64.wrap ((BitVec.ofInt 64 (mI a) &&& BitVec.ofInt 64 (mI b)).toNat : Nat) = _
  rw [ofInt_mI, ofInt_mI]
  exact wrap_toNat _
theorem shr_mI {m : M64} {n : Int} (h0 : 0 ≤ n) (h1 : n < 64) : (mI m).fdiv (2 ^ min n.toNat IntKind.u64.bits) = mI (m >>> n.toNat) := by
  have hb : IntKind.u64.bits = 64 := rfl
  rw [hb, Nat.min_eq_left (by omega)]
  unfold mI
  rw [BitVec.toNat_ushiftRight, Nat.shiftRight_eq_div_pow, Int.fdiv_eq_ediv_of_nonneg _ (pow_nn _)]
  norm_cast
def bitM (m : M64) (n : Int) : Bool := m.getLsbD n.toNat
theorem bit_mI {m : M64} {n : Int} (h0 : 0 ≤ n) (h1 : n < 64) : IntKind.i64.wrap (bitI .and .u64 ((mI m).fdiv (2 ^ min n.toNat IntKind.u64.bits)) 1) = if bitM m n then 1 else 0 := by
  rw [shr_mI h0 h1, show (1 : Int) = mI 1#64 from rfl, and_mI]
  have e : mI (m >>> n.toNat &&& 1#64) = if bitM m n then 1 else 0 := by
    unfold mI bitM
    rw [BitVec.toNat_and, BitVec.toNat_ofNat, BitVec.toNat_ushiftRight]
    have : (1 : Nat) % 2 ^ 64 = 1 := by decide
    rw [this, Nat.and_one_is_mod, BitVec.getLsbD, Nat.testBit, Nat.and_comm, Nat.and_one_is_mod]
    have := Nat.mod_two_eq_zero_or_one (m.toNat >>> n.toNat)
    rcases this with h | h <;> rw [h] <;> rfl
  rw [e]
  split <;> rfl
theorem maskB_snoc (l : List Int) (n : Int) : maskB (l ++ [n]) = mStep (maskB l) n := by unfold maskB; rw [List.foldl_append]; rfl
theorem bit_step (m : M64) (n k : Int) (hk : 0 ≤ k) (hk2 : k < 64) : bitM (mStep m n) k = (bitM m k || decide (n = k)) := by
  unfold mStep
  by_cases h : 0 ≤ n ∧ n < 64
  · rw [if_pos h]
    unfold bitM
    rw [BitVec.getLsbD_or, BitVec.getLsbD_shiftLeft]
    congr 1
    simp only [BitVec.getLsbD_one]
    by_cases e : n = k
    · subst e; simp; omega
    · have : ¬ n.toNat = k.toNat := by omega
      simp only [decide_eq_false e]
      by_cases h2 : k.toNat < n.toNat
      · simp [h2]
      · have : ¬ k.toNat - n.toNat = 0 := by omega
        simp [this]
  · rw [if_neg h]
    have : ¬ n = k := by omega
    simp [this]
theorem bit_mask (l : List Int) (k : Int) (hk : 0 ≤ k) (hk2 : k < 64) : bitM (maskB l) k = l.contains k := by
  have key : ∀ (l : List Int) (m : M64), bitM (l.foldl mStep m) k = (bitM m k || l.contains k) := by
    intro l
    induction l with
    | nil => intro m; simp
    | cons n l ih =>
      intro m
      rw [List.foldl_cons, ih, bit_step m n k hk hk2, List.contains_cons, Bool.or_assoc]
      congr 2
      by_cases e : n = k
      · subst e; simp
      · rw [decide_eq_false e]
        have : ¬ k = n := fun e' => e e'.symm
        simp [this]
  unfold maskB
  rw [key]
  simp [bitM]

/-- A set: so many of some nodes; two sets, both or one of them. -/
inductive QP where
  | of (k : Int) (l : List Int)
  | an (a b : QP)
  | or (a b : QP)
def QP.enc : QP → D
  | .of k l => .ptr (.node [.int 0, .int k, .list (l.map .int), .nil, .nil])
  | .an a b => .ptr (.node [.int 1, .int 0, .list [], a.enc, b.enc])
  | .or a b => .ptr (.node [.int 2, .int 0, .list [], a.enc, b.enc])
theorem QP.enc_notNil (q : QP) : q.enc.isNil = false := by cases q <;> rfl
def QP.dep : QP → Nat
  | .of _ _ => 0
  | .an a b => a.dep + b.dep + 1
  | .or a b => a.dep + b.dep + 1
def QP.ok : QP → Prop
  | .of _ l => (∀ n ∈ l, 0 ≤ n ∧ n < 64) ∧ l.length ≤ 1000
  | .an a b => a.ok ∧ b.ok
  | .or a b => a.ok ∧ b.ok
/-- Is it enough? -/
def QP.has (S : Int → Bool) : QP → Bool
  | .of k l => decide (k ≤ (l.countP S : Int))
  | .an a b => a.has S && b.has S
  | .or a b => a.has S || b.has S
theorem QP.has_congr {S T : Int → Bool} : ∀ {q : QP}, q.ok → (∀ n, 0 ≤ n → n < 64 → S n = T n) → q.has S = q.has T
  | .of k l, h, hs => by
    simp only [QP.has]
    rw [List.countP_congr (fun n hn => by rw [hs n (h.1 n hn).1 (h.1 n hn).2])]
  | .an a b, h, hs => by simp only [QP.has]; rw [QP.has_congr h.1 hs, QP.has_congr h.2 hs]
  | .or a b, h, hs => by simp only [QP.has]; rw [QP.has_congr h.1 hs, QP.has_congr h.2 hs]
/-- By the bits of nodes it is as by the nodes. -/
theorem QP.has_mask {q : QP} (h : q.ok) (l : List Int) : q.has (bitM (maskB l)) = q.has (fun n => l.contains n) :=
  QP.has_congr h (fun n h0 h1 => bit_mask l n h0 h1)
end Go.Proofs.YtkmilijehekdoaaDoor
