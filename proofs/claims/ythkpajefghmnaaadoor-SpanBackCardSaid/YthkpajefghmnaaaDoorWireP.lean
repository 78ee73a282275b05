/- Chapter 2's numbers as bytes in plain Lean. -/
import Derived.Test.YthkpajefghmnaaaDoorBytes
namespace Go.Wire
set_option linter.unusedVariables false
set_option linter.unusedSimpArgs false
open Go Go.Fw

/-- A number as the chapter turns it: 0, -1, 1, -2, .. are 0, 1, 2, 3, .. -/
def zig (n : Int) : Nat := if 0 ≤ n then (2 * n).toNat else (-2 * n - 1).toNat
def zag (z : Nat) : Int := if z % 2 = 0 then ((z / 2 : Nat) : Int) else -((z / 2 : Nat) : Int) - 1
theorem zag_zig (n : Int) : zag (zig n) = n := by
  unfold zag zig
  split <;> split <;> omega
/-- A number's bytes, the least first. -/
def enc (z : Nat) : List Nat := if h : z < 128 then [z] else (z % 128 + 128) :: enc (z / 128)
  termination_by z
  decreasing_by omega
theorem enc_lt {z : Nat} (h : z < 128) : enc z = [z] := by rw [enc]; simp [h]
theorem enc_ge {z : Nat} (h : ¬ z < 128) : enc z = (z % 128 + 128) :: enc (z / 128) := by rw [enc]; simp [h]
def dOf (l : List Nat) : List D := l.map fun (x : Nat) => .int (x : Int)
theorem dOf_app (a b : List Nat) : dOf (a ++ b) = dOf a ++ dOf b := by simp [dOf]
theorem dOf_len (a : List Nat) : (dOf a).length = a.length := by simp [dOf]
/-- A number as bytes. -/
def encD (n : Int) : List D := dOf (enc (zig n))
def nats (l : List D) : List Nat := l.map fun d => d.i.toNat
theorem nats_dOf (l : List Nat) : nats (dOf l) = l := by simp [nats, dOf, Function.comp_def, D.i]
theorem nats_app (a b : List D) : nats (a ++ b) = nats a ++ nats b := by simp [nats]
theorem nats_len (a : List D) : (nats a).length = a.length := by simp [nats]
theorem enc_len_pos (z : Nat) : 0 < (enc z).length := by
  by_cases h : z < 128
  · rw [enc_lt h]; simp
  · rw [enc_ge h]; simp
theorem enc_len (k : Nat) : ∀ z, z < 128 ^ (k + 1) → (enc z).length ≤ k + 1 := by
  induction k with
  | zero => intro z h; rw [enc_lt (by simpa using h)]; simp
  | succ k ih =>
    intro z h
    by_cases hz : z < 128
    · rw [enc_lt hz]; simp
    · rw [enc_ge hz, List.length_cons]
      have := ih (z / 128) (by rw [Nat.pow_succ] at h; exact Nat.div_lt_of_lt_mul (by rw [Nat.mul_comm]; exact h))
      omega
theorem zig_lt {n : Int} (h : -9223372036854775808 ≤ n ∧ n ≤ 9223372036854775807) : zig n < 18446744073709551616 := by
  unfold zig; split <;> omega
theorem enc10 {z : Nat} (h : z < 18446744073709551616) : (enc z).length ≤ 10 := enc_len 9 z (Nat.lt_of_lt_of_le h (by decide))
theorem enc_byte {z : Nat} : ∀ x ∈ enc z, x ≤ 255 := by
  induction z using Nat.strongRecOn with
  | _ z ih =>
    intro x hx
    by_cases h : z < 128
    · rw [enc_lt h] at hx; simp at hx; omega
    · rw [enc_ge h] at hx
      rcases List.mem_cons.1 hx with rfl | hx
      · omega
      · exact ih (z / 128) (by omega) x hx

/-- What comes of reading a number. -/
inductive NumR where
  | fin | shape | ok (n : Int) (k : Nat)
def numR : List Nat → Nat → Nat → NumR
  | [], _, _ => .fin
  | c :: r, i, z => if i = 9 ∧ 1 < c then .shape else if 128 ≤ c then numR r (i + 1) (z + (c % 128) * 2 ^ (7 * i)) else if c = 0 ∧ 0 < i then .shape else .ok (zag (z + (c % 128) * 2 ^ (7 * i))) (i + 1)
theorem pow7 (i : Nat) : 2 ^ (7 * (i + 1)) = 128 * 2 ^ (7 * i) := by rw [show 7 * (i + 1) = 7 * i + 7 by omega, Nat.pow_add]; omega
/-- A number's own bytes are read as it. -/
theorem numR_enc (z : Nat) : ∀ (i acc : Nat) (rest : List Nat), i ≤ 9 → (0 < i → 0 < z) → z * 2 ^ (7 * i) < 18446744073709551616 → numR (enc z ++ rest) i acc = .ok (zag (acc + z * 2 ^ (7 * i))) (i + (enc z).length) := by
  induction z using Nat.strongRecOn with
  | _ z ih =>
    intro i acc rest hi hz hb
    have h9 : i = 9 → z ≤ 1 := by
      rintro rfl
      have : (2 : Nat) ^ (7 * 9) = 9223372036854775808 := by decide
      rw [this] at hb
      omega
    by_cases h : z < 128
    · rw [enc_lt h]
      simp only [List.cons_append, List.nil_append, numR, List.length_cons, List.length_nil]
      rw [if_neg (by omega), if_neg (by omega), if_neg (by omega), Nat.mod_eq_of_lt h]
    · rw [enc_ge h]
      simp only [List.cons_append, numR, List.length_cons]
      rw [if_neg (by omega), if_pos (by omega)]
      have hi9 : i ≠ 9 := by intro e; have := h9 e; omega
      have e1 : (z % 128 + 128) % 128 = z % 128 := by omega
      have e2 : z / 128 * 2 ^ (7 * (i + 1)) + (z % 128) * 2 ^ (7 * i) = z * 2 ^ (7 * i) := by
        rw [pow7, ← Nat.mul_assoc, ← Nat.add_mul]
        congr 1
        omega
      rw [e1, ih (z / 128) (by omega) (i + 1) _ rest (by omega) (by omega) (by omega)]
      congr 1
      · congr 1
        omega
      · omega
theorem numR_encD {n : Int} (h : -9223372036854775808 ≤ n ∧ n ≤ 9223372036854775807) (rest : List Nat) : numR (enc (zig n) ++ rest) 0 0 = .ok n (enc (zig n)).length := by
  rw [numR_enc (zig n) 0 0 rest (by omega) (by omega) (by have := zig_lt h; omega)]
  simp [zag_zig]
/-- Cut off, it ends. -/
theorem numR_cut (z : Nat) : ∀ (i acc k : Nat), i ≤ 9 → (0 < i → 0 < z) → z * 2 ^ (7 * i) < 18446744073709551616 → k < (enc z).length → numR ((enc z).take k) i acc = .fin := by
  induction z using Nat.strongRecOn with
  | _ z ih =>
    intro i acc k hi hz hb hk
    cases k with
    | zero => rfl
    | succ k =>
      have h9 : i = 9 → z ≤ 1 := by
        rintro rfl
        have : (2 : Nat) ^ (7 * 9) = 9223372036854775808 := by decide
        rw [this] at hb
        omega
      by_cases h : z < 128
      · rw [enc_lt h] at hk; simp at hk
      · rw [enc_ge h] at hk ⊢
        simp only [List.take_succ_cons, numR]
        rw [if_neg (by omega), if_pos (by omega)]
        have e2 : z / 128 * 2 ^ (7 * (i + 1)) + (z % 128) * 2 ^ (7 * i) = z * 2 ^ (7 * i) := by
          rw [pow7, ← Nat.mul_assoc, ← Nat.add_mul]
          congr 1
          omega
        have hi9 : i ≠ 9 := by intro e; have := h9 e; omega
        exact ih (z / 128) (by omega) (i + 1) _ k (by omega) (by omega) (by omega) (by simpa using hk)

/-! ### The machine's operations on such numbers -/
theorem u64w {n : Int} (h : 0 ≤ n ∧ n ≤ 18446744073709551615) : IntKind.u64.wrap n = n := wrap_self _ (by rw [min_u64, max_u64]; exact h)
theorem u8w' (n : Int) : IntKind.u8.wrap n = n % 256 := by simp [IntKind.wrap, IntKind.signed, IntKind.bits]
theorem bit64 (op : BinOp) (x y : Int) : BitVec.ofInt IntKind.u64.bits x = BitVec.ofInt 64 x := rfl
theorem of64 (n : Nat) : (BitVec.ofInt 64 (n : Int)).toNat = n % 18446744073709551616 := by rw [BitVec.toNat_ofInt]; omega
theorem xor64 (a b : Nat) (ha : a < 18446744073709551616) (hb : b < 18446744073709551616) : bitI .xor .u64 (a : Int) (b : Int) = ((a ^^^ b : Nat) : Int) := by
  unfold bitI
  simp only []
  show IntKind.u64.wrap (((BitVec.ofInt 64 (a : Int) ^^^ BitVec.ofInt 64 (b : Int)).toNat : Nat) : Int) = _
  rw [BitVec.toNat_xor, of64, of64, Nat.mod_eq_of_lt ha, Nat.mod_eq_of_lt hb, u64w]
  have : a ^^^ b < 2 ^ 64 := Nat.xor_lt_two_pow (by simpa using ha) (by simpa using hb)
  omega
theorem xor_ones (a : Nat) (ha : a < 18446744073709551616) : a ^^^ 18446744073709551615 = 18446744073709551615 - a := by
  have := BitVec.toNat_not (x := BitVec.ofNat 64 a)
  rw [BitVec.toNat_ofNat, Nat.mod_eq_of_lt (by simpa using ha)] at this
  have e : ~~~(BitVec.ofNat 64 a) = BitVec.ofNat 64 a ^^^ BitVec.allOnes 64 := (BitVec.xor_allOnes).symm
  rw [e, BitVec.toNat_xor, BitVec.toNat_ofNat, Nat.mod_eq_of_lt (by simpa using ha), BitVec.toNat_allOnes] at this
  simpa using this
/-- uint64(n) << 1 ^ uint64(n >> 63) -/
theorem zig_code {n : Int} (h : -9223372036854775808 ≤ n ∧ n ≤ 9223372036854775807) : bitI .xor .u64 (IntKind.u64.wrap (IntKind.u64.wrap n * 2 ^ min (Int.toNat 1) IntKind.u64.bits)) (IntKind.u64.wrap (n.fdiv (2 ^ min (Int.toNat 63) IntKind.i64.bits))) = (zig n : Int) := by
  have e1 : (2 : Int) ^ min (Int.toNat 1) IntKind.u64.bits = 2 := rfl
  have e2 : (2 : Int) ^ min (Int.toNat 63) IntKind.i64.bits = 9223372036854775808 := rfl
  have w : ∀ m : Int, IntKind.u64.wrap m = m % 18446744073709551616 := fun m => by simp [IntKind.wrap, IntKind.signed, IntKind.bits]
  rw [e1, e2, w, w, w, Int.fdiv_eq_ediv_of_nonneg _ (by omega)]
  unfold zig
  split
  · have f1 : n % 18446744073709551616 * 2 % 18446744073709551616 = (((2 * n).toNat : Nat) : Int) := by omega
    have f2 : n / 9223372036854775808 % 18446744073709551616 = ((0 : Nat) : Int) := by omega
    rw [f1, f2, xor64 _ _ (by omega) (by omega)]
    simp
  · have f1 : n % 18446744073709551616 * 2 % 18446744073709551616 = (((2 * n + 18446744073709551616).toNat : Nat) : Int) := by omega
    have f2 : n / 9223372036854775808 % 18446744073709551616 = ((18446744073709551615 : Nat) : Int) := by omega
    rw [f1, f2, xor64 _ _ (by omega) (by omega), xor_ones _ (by omega)]
    omega
theorem or8 {b : Nat} (h : b < 128) : bitI .or .u8 (b : Int) 128 = ((b + 128 : Nat) : Int) := by
  have key : ∀ b : Nat, b < 128 → bitI .or .u8 (b : Int) 128 = ((b + 128 : Nat) : Int) := by decide
  exact key b h
theorem or8' {b : Nat} (h : b < 256) : bitI .or .u8 (b : Int) 128 = ((b % 128 + 128 : Nat) : Int) := by
  have key : ∀ b : Nat, b < 256 → bitI .or .u8 (b : Int) 128 = ((b % 128 + 128 : Nat) : Int) := by decide +kernel
  exact key b h
theorem andNot8 {b : Nat} (h : b < 256) : bitI .andNot .u8 (b : Int) 128 = ((b % 128 : Nat) : Int) := by
  have key : ∀ b : Nat, b < 256 → bitI .andNot .u8 (b : Int) 128 = ((b % 128 : Nat) : Int) := by decide +kernel
  exact key b h
/-- The byte of a number that has more. -/
theorem more_code (z : Nat) : bitI .or .u8 (IntKind.u8.wrap (z : Int)) 128 = ((z % 128 + 128 : Nat) : Int) := by
  rw [u8w', show (z : Int) % 256 = ((z % 256 : Nat) : Int) by omega, or8' (by omega)]
  congr 2
  omega
theorem shr7 (z : Nat) : ((z : Int)).fdiv (2 ^ min (Int.toNat 7) IntKind.u64.bits) = ((z / 128 : Nat) : Int) := by
  have e1 : (2 : Int) ^ min (Int.toNat 7) IntKind.u64.bits = 128 := rfl
  rw [e1, Int.fdiv_eq_ediv_of_nonneg _ (by omega)]
  omega
theorem or64 (a b : Nat) (ha : a < 18446744073709551616) (hb : b < 18446744073709551616) : bitI .or .u64 (a : Int) (b : Int) = ((a ||| b : Nat) : Int) := by
  unfold bitI
  simp only []
  show IntKind.u64.wrap (((BitVec.ofInt 64 (a : Int) ||| BitVec.ofInt 64 (b : Int)).toNat : Nat) : Int) = _
  rw [BitVec.toNat_or, of64, of64, Nat.mod_eq_of_lt ha, Nat.mod_eq_of_lt hb, u64w]
  have : a ||| b < 2 ^ 64 := Nat.or_lt_two_pow (by simpa using ha) (by simpa using hb)
  omega
/-- z |= uint64(c &^ 128) << (7 * i) -/
theorem gather_code {z c i : Nat} (hi : i ≤ 9) (hc : c < 256) (h9 : i = 9 → c ≤ 1) (hz : z < 2 ^ (7 * i)) :
    bitI .or .u64 (z : Int) (IntKind.u64.wrap (IntKind.u64.wrap (bitI .andNot .u8 (c : Int) 128) * 2 ^ min (7 * (i : Int)).toNat IntKind.u64.bits)) = ((z + (c % 128) * 2 ^ (7 * i) : Nat) : Int) ∧ z + (c % 128) * 2 ^ (7 * i) < 2 ^ (7 * (i + 1)) ∧ z + (c % 128) * 2 ^ (7 * i) < 18446744073709551616 := by
  have e0 : (7 * (i : Int)).toNat = 7 * i := by omega
  have e1 : min (7 * i) IntKind.u64.bits = 7 * i := by show min (7 * i) 64 = 7 * i; omega
  have hp : (2 : Nat) ^ (7 * i) ≤ 2 ^ 63 := Nat.pow_le_pow_right (by omega) (by omega)
  have hsm : (c % 128) * 2 ^ (7 * i) < 18446744073709551616 := by
    by_cases h : i = 9
    · subst h
      have := h9 rfl
      have e : (2 : Nat) ^ (7 * 9) = 9223372036854775808 := by decide
      rw [e]
      have : c % 128 ≤ 1 := by omega
      omega
    · have hp2 : (2 : Nat) ^ (7 * i) ≤ 2 ^ 56 := Nat.pow_le_pow_right (by omega) (by omega)
      have : (c % 128) * 2 ^ (7 * i) ≤ 127 * 2 ^ 56 := Nat.mul_le_mul (by omega) hp2
      have e : 127 * 2 ^ 56 < 18446744073709551616 := by decide
      omega
  have e63 : (2 : Nat) ^ 63 = 9223372036854775808 := by decide
  have hz64 : z < 18446744073709551616 := by
    rw [e63] at hp
    exact Nat.lt_of_lt_of_le hz (Nat.le_trans hp (by omega))
  have hor := Nat.shiftLeft_add_eq_or_of_lt hz (c % 128)
  rw [Nat.shiftLeft_eq] at hor
  have hlt : z ||| (c % 128) * 2 ^ (7 * i) < 2 ^ 64 := Nat.or_lt_two_pow (by simpa using hz64) (by simpa using hsm)
  rw [Nat.or_comm, ← hor] at hlt
  refine ⟨?_, ?_, ?_⟩
  · rw [andNot8 hc, e0, e1, u64w (n := ((c % 128 : Nat) : Int)) (by omega)]
    have e2 : ((c % 128 : Nat) : Int) * 2 ^ (7 * i) = (((c % 128) * 2 ^ (7 * i) : Nat) : Int) := by push_cast; rfl
    rw [e2, u64w (by omega), or64 _ _ hz64 hsm, Nat.or_comm, ← hor]
    congr 1
    omega
  · rw [pow7]
    have : (c % 128) * 2 ^ (7 * i) ≤ 127 * 2 ^ (7 * i) := Nat.mul_le_mul_right _ (by omega)
    omega
  · have : (2 : Nat) ^ 64 = 18446744073709551616 := by decide
    omega
/-- int64(z >> 1) ^ -int64(z & 1) -/
theorem zag_code {z : Nat} (hz : z < 18446744073709551616) : bitI .xor .i64 (IntKind.i64.wrap ((z : Int).fdiv (2 ^ min (Int.toNat 1) IntKind.u64.bits))) (IntKind.i64.wrap (0 - IntKind.i64.wrap (bitI .and .u64 (z : Int) 1))) = zag z := by
  have e1 : (2 : Int) ^ min (Int.toNat 1) IntKind.u64.bits = 2 := rfl
  have ha : bitI .and .u64 (z : Int) 1 = ((z % 2 : Nat) : Int) := by
    unfold bitI
    simp only []
    show IntKind.u64.wrap (((BitVec.ofInt 64 (z : Int) &&& BitVec.ofInt 64 ((1 : Nat) : Int)).toNat : Nat) : Int) = _
    rw [BitVec.toNat_and, of64, of64, Nat.mod_eq_of_lt hz, show (1 : Nat) % 18446744073709551616 = 2 ^ 1 - 1 by decide, Nat.and_two_pow_sub_one_eq_mod, u64w (by omega)]
  have w : ∀ m : Int, -9223372036854775808 ≤ m ∧ m ≤ 9223372036854775807 → IntKind.i64.wrap m = m := fun m h => wrap_self _ (by rw [min_i64, max_i64]; exact h)
  rw [e1, ha, Int.fdiv_eq_ediv_of_nonneg _ (by omega), w _ (by omega), w ((z % 2 : Nat) : Int) (by omega), w _ (by omega)]
  unfold zag bitI
  simp only []
  split
  · rename_i h
    rw [h]
    show IntKind.i64.wrap (((BitVec.ofInt 64 ((z : Int) / 2) ^^^ BitVec.ofInt 64 (0 - ((0 : Nat) : Int))).toNat : Nat) : Int) = _
    have : BitVec.ofInt 64 (0 - ((0 : Nat) : Int)) = 0#64 := by decide
    rw [this, BitVec.xor_zero, show (z : Int) / 2 = ((z / 2 : Nat) : Int) by omega, of64, w _ (by omega)]
    omega
  · rename_i h
    have h1 : z % 2 = 1 := by omega
    rw [h1]
    show IntKind.i64.wrap (((BitVec.ofInt 64 ((z : Int) / 2) ^^^ BitVec.ofInt 64 (0 - ((1 : Nat) : Int))).toNat : Nat) : Int) = _
    have : BitVec.ofInt 64 (0 - ((1 : Nat) : Int)) = BitVec.allOnes 64 := by decide
    rw [this, BitVec.xor_allOnes, BitVec.toNat_not, show (z : Int) / 2 = ((z / 2 : Nat) : Int) by omega, of64]
    have ww : ∀ m : Int, IntKind.i64.wrap m = if 9223372036854775808 ≤ m % 18446744073709551616 then m % 18446744073709551616 - 18446744073709551616 else m % 18446744073709551616 := fun m => by simp [IntKind.wrap, IntKind.signed, IntKind.bits]
    rw [ww]
    have e64 : (2 : Nat) ^ 64 = 18446744073709551616 := by decide
    rw [e64]
    split <;> omega
end Go.Wire
