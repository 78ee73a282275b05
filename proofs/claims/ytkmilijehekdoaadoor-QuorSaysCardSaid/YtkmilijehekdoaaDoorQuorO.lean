/- Chapter 6, in plain Lean: the library's count of bits is 0 just of no bits. -/
import Derived.Test.YtkmilijehekdoaaDoorQuorD
namespace Go.Proofs.YtkmilijehekdoaaDoor
set_option linter.unusedVariables false
set_option linter.unusedSimpArgs false
open Go Go.Fw

theorem and_split (k : Nat) {a b c d : Nat} (ha : a < 2 ^ k) (hc : c < 2 ^ k) : (a + 2 ^ k * b) &&& (c + 2 ^ k * d) = (a &&& c) + 2 ^ k * (b &&& d) := by
  apply Nat.eq_of_testBit_eq
  intro i
  rw [Nat.testBit_and, Nat.add_comm a, Nat.add_comm c, Nat.add_comm (a &&& c), Nat.testBit_two_pow_mul_add _ ha, Nat.testBit_two_pow_mul_add _ hc, Nat.testBit_two_pow_mul_add _ (Nat.and_lt_two_pow _ hc)]
  split <;> rw [Nat.testBit_and]
theorem and16 {a b c d : Nat} (ha : a < 16) (hc : c < 16) : (a + 16 * b) &&& (c + 16 * d) = (a &&& c) + 16 * (b &&& d) := and_split 4 ha hc
theorem and256 {a b c d : Nat} (ha : a < 256) (hc : c < 256) : (a + 256 * b) &&& (c + 256 * d) = (a &&& c) + 256 * (b &&& d) := and_split 8 ha hc
def mk16 (c : Nat) : Nat → Nat
  | 0 => 0
  | k + 1 => c + 16 * mk16 c k
def mk256 : Nat → Nat
  | 0 => 0
  | k + 1 => 15 + 256 * mk256 k
def tw (d c k x : Nat) : Nat := ((x / d) &&& mk16 c k) + (x &&& mk16 c k)
def tn (d c n : Nat) : Nat := ((n / d) &&& c) + (n &&& c)
theorem tw1 (k : Nat) {n : Nat} (x : Nat) (hn : n < 16) : tw 2 5 (k + 1) (n + 16 * x) = tn 2 5 n + 16 * tw 2 5 k x := by
  unfold tw tn
  have e : (n + 16 * x) / 2 = (n / 2 + 8 * (x % 2)) + 16 * (x / 2) := by omega
  have h : ∀ n, n < 16 → ∀ b, b < 2 → (n / 2 + 8 * b) &&& 5 = (n / 2) &&& 5 := by decide
  rw [e, mk16, and16 (by omega) (by omega), and16 hn (by omega), h n hn (x % 2) (by omega)]
  omega
theorem tw2 (k : Nat) {n : Nat} (x : Nat) (hn : n < 16) : tw 4 3 (k + 1) (n + 16 * x) = tn 4 3 n + 16 * tw 4 3 k x := by
  unfold tw tn
  have e : (n + 16 * x) / 4 = (n / 4 + 4 * (x % 4)) + 16 * (x / 4) := by omega
  have h : ∀ n, n < 16 → ∀ b, b < 4 → (n / 4 + 4 * b) &&& 3 = (n / 4) &&& 3 := by decide
  rw [e, mk16, and16 (by omega) (by omega), and16 hn (by omega), h n hn (x % 4) (by omega)]
  omega
def twn (n : Nat) : Nat := tn 4 3 (tn 2 5 n)
theorem twn_le : ∀ n, n < 16 → tn 2 5 n < 16 ∧ twn n ≤ 4 ∧ (twn n = 0 → n = 0) := by decide
def tww (k x : Nat) : Nat := tw 4 3 k (tw 2 5 k x)
theorem tww_step (k : Nat) {n : Nat} (x : Nat) (hn : n < 16) : tww (k + 1) (n + 16 * x) = twn n + 16 * tww k x := by
  unfold tww
  rw [tw1 k x hn, tw2 k _ (twn_le n hn).1]
  rfl
/-- Numbers of digits that are at most so great. -/
inductive Dig (b m : Nat) : Nat → Nat → Prop
  | zero : Dig b m 0 0
  | step {k a x : Nat} (h : a ≤ m) (hx : Dig b m k x) : Dig b m (k + 1) (a + b * x)
theorem tww_dig : ∀ (k x : Nat), x < 16 ^ k → Dig 16 4 k (tww k x) ∧ (tww k x = 0 → x = 0)
  | 0, x, h => by
    obtain rfl : x = 0 := by simpa using h
    exact ⟨.zero, fun _ => rfl⟩
  | k + 1, x, h => by
    have hx : x / 16 < 16 ^ k := by rw [Nat.pow_succ] at h; omega
    have hm : x % 16 < 16 := Nat.mod_lt _ (by decide)
    have e : x = x % 16 + 16 * (x / 16) := by omega
    obtain ⟨d1, d2⟩ := tww_dig k (x / 16) hx
    have hs := tww_step k (x / 16) hm
    rw [← e] at hs
    rw [hs]
    obtain ⟨_, t1, t2⟩ := twn_le _ hm
    refine ⟨.step t1 d1, fun h0 => ?_⟩
    have a1 : twn (x % 16) = 0 := by omega
    have a2 : tww k (x / 16) = 0 := by omega
    have := t2 a1
    have := d2 a2
    omega
def hb (k y : Nat) : Nat := (y / 16 + y) &&& mk256 k
theorem and15 (a : Nat) (_ : a < 256) : a &&& 15 = a % 16 := Nat.and_two_pow_sub_one_eq_mod a 4
theorem hb_dig : ∀ (k y : Nat), Dig 16 4 (k + k) y → Dig 256 8 k (hb k y) ∧ (hb k y = 0 → y = 0) ∧ y % 16 ≤ 4
  | 0, y, h => by
    cases h
    exact ⟨.zero, fun _ => rfl, by decide⟩
  | k + 1, y, h => by
    have hk : k + 1 + (k + 1) = (k + k + 1) + 1 := by omega
    rw [hk] at h
    cases h with | step h1 h =>
    cases h with | step h2 h =>
    rename_i lo hi y'
    obtain ⟨d1, d2, d3⟩ := hb_dig k y' h
    have e : (lo + 16 * (hi + 16 * y')) / 16 + (lo + 16 * (hi + 16 * y')) = (lo + hi + 16 * (hi + y' % 16)) + 256 * (y' / 16 + y') := by omega
    have hs : hb (k + 1) (lo + 16 * (hi + 16 * y')) = (lo + hi) + 256 * hb k y' := by
      unfold hb
      rw [e, mk256, and256 (by omega) (by omega), and15 _ (by omega)]
      omega
    rw [hs]
    refine ⟨.step (by omega) d1, fun h0 => ?_, by omega⟩
    have := d2 (by omega)
    omega
theorem add_mI (a b : M64) : IntKind.u64.wrap (mI a + mI b) = mI (a + b) := by
  unfold mI
  rw [BitVec.toNat_add]
  unfold IntKind.wrap
  simp only [IntKind.bits, IntKind.signed, Bool.false_and, Bool.false_eq_true, if_false]
  omega
theorem shr_c (m : M64) (n : Nat) (h : n < 64) : (mI m).fdiv (2 ^ min (Int.toNat (n : Int)) IntKind.u64.bits) = mI (m >>> n) := shr_mI (n := (n : Int)) (by omega) (by omega)
theorem last_and (x : Int) : bitI .and .i64 x 127 = x % 128 := by
  show IntKind.i64.wrap ((BitVec.ofInt 64 x &&& BitVec.ofInt 64 127).toNat : Nat) = _
  have h : (BitVec.ofInt 64 x &&& BitVec.ofInt 64 127).toNat = (BitVec.ofInt 64 x).toNat % 128 := by
    rw [BitVec.toNat_and]
    have : (BitVec.ofInt 64 127).toNat = 2 ^ 7 - 1 := by decide
    rw [this, Nat.and_two_pow_sub_one_eq_mod]
  rw [h, BitVec.toNat_ofInt]
  rw [wrap_i64' (by omega) (by omega)]
  omega
theorem wrap_mod (x : Int) : IntKind.i64.wrap x % 128 = x % 128 := by
  unfold IntKind.wrap
  simp only [IntKind.bits, IntKind.signed, Bool.true_and]
  split <;> omega
theorem div_k {k q r x : Nat} (e : x = r + k * q) (h : r < k) : x / k = q := by
  subst e
  rw [Nat.add_mul_div_left _ _ (by omega), Nat.div_eq_of_lt h, Nat.zero_add]
theorem oq1 {z0 z1 z2 z3 z4 z5 z6 z7 x : Nat} (h0 : z0 ≤ 8) (h1 : z1 ≤ 8) (h2 : z2 ≤ 8) (h3 : z3 ≤ 8) (h4 : z4 ≤ 8) (h5 : z5 ≤ 8) (h6 : z6 ≤ 8) (h7 : z7 ≤ 8) (e : x = (z0) + 256*(z1) + 65536*(z2) + 16777216*(z3) + 4294967296*(z4) + 1099511627776*(z5) + 281474976710656*(z6) + 72057594037927936*(z7)) : x / 256 = (z1) + 256*(z2) + 65536*(z3) + 16777216*(z4) + 4294967296*(z5) + 1099511627776*(z6) + 281474976710656*(z7) := by
  refine div_k (r := (z0)) ?_ ?_
  · clear h0 h1 h2 h3 h4 h5 h6 h7; omega
  · clear e; omega
theorem oq2 {z0 z1 z2 z3 z4 z5 z6 z7 x : Nat} (h0 : z0 ≤ 8) (h1 : z1 ≤ 8) (h2 : z2 ≤ 8) (h3 : z3 ≤ 8) (h4 : z4 ≤ 8) (h5 : z5 ≤ 8) (h6 : z6 ≤ 8) (h7 : z7 ≤ 8) (e : x = (z0+z1) + 256*(z1+z2) + 65536*(z2+z3) + 16777216*(z3+z4) + 4294967296*(z4+z5) + 1099511627776*(z5+z6) + 281474976710656*(z6+z7) + 72057594037927936*(z7)) : x / 65536 = (z2+z3) + 256*(z3+z4) + 65536*(z4+z5) + 16777216*(z5+z6) + 4294967296*(z6+z7) + 1099511627776*(z7) := by
  refine div_k (r := (z0+z1) + 256*(z1+z2)) ?_ ?_
  · clear h0 h1 h2 h3 h4 h5 h6 h7; omega
  · clear e; omega
theorem oq3 {z0 z1 z2 z3 z4 z5 z6 z7 x : Nat} (h0 : z0 ≤ 8) (h1 : z1 ≤ 8) (h2 : z2 ≤ 8) (h3 : z3 ≤ 8) (h4 : z4 ≤ 8) (h5 : z5 ≤ 8) (h6 : z6 ≤ 8) (h7 : z7 ≤ 8) (e : x = (z0+z1+z2+z3) + 256*(z1+z2+z3+z4) + 65536*(z2+z3+z4+z5) + 16777216*(z3+z4+z5+z6) + 4294967296*(z4+z5+z6+z7) + 1099511627776*(z5+z6+z7) + 281474976710656*(z6+z7) + 72057594037927936*(z7)) : x / 4294967296 = (z4+z5+z6+z7) + 256*(z5+z6+z7) + 65536*(z6+z7) + 16777216*(z7) := by
  refine div_k (r := (z0+z1+z2+z3) + 256*(z1+z2+z3+z4) + 65536*(z2+z3+z4+z5) + 16777216*(z3+z4+z5+z6)) ?_ ?_
  · clear h0 h1 h2 h3 h4 h5 h6 h7; omega
  · clear e; omega
theorem oe1 {z0 z1 z2 z3 z4 z5 z6 z7 x y : Nat} (e : x = (z0) + 256*(z1) + 65536*(z2) + 16777216*(z3) + 4294967296*(z4) + 1099511627776*(z5) + 281474976710656*(z6) + 72057594037927936*(z7)) (f : y = (z1) + 256*(z2) + 65536*(z3) + 16777216*(z4) + 4294967296*(z5) + 1099511627776*(z6) + 281474976710656*(z7)) : x + y = (z0+z1) + 256*(z1+z2) + 65536*(z2+z3) + 16777216*(z3+z4) + 4294967296*(z4+z5) + 1099511627776*(z5+z6) + 281474976710656*(z6+z7) + 72057594037927936*(z7) := by omega
theorem oe2 {z0 z1 z2 z3 z4 z5 z6 z7 x y : Nat} (e : x = (z0+z1) + 256*(z1+z2) + 65536*(z2+z3) + 16777216*(z3+z4) + 4294967296*(z4+z5) + 1099511627776*(z5+z6) + 281474976710656*(z6+z7) + 72057594037927936*(z7)) (f : y = (z2+z3) + 256*(z3+z4) + 65536*(z4+z5) + 16777216*(z5+z6) + 4294967296*(z6+z7) + 1099511627776*(z7)) : x + y = (z0+z1+z2+z3) + 256*(z1+z2+z3+z4) + 65536*(z2+z3+z4+z5) + 16777216*(z3+z4+z5+z6) + 4294967296*(z4+z5+z6+z7) + 1099511627776*(z5+z6+z7) + 281474976710656*(z6+z7) + 72057594037927936*(z7) := by omega
theorem oe3 {z0 z1 z2 z3 z4 z5 z6 z7 x y : Nat} (e : x = (z0+z1+z2+z3) + 256*(z1+z2+z3+z4) + 65536*(z2+z3+z4+z5) + 16777216*(z3+z4+z5+z6) + 4294967296*(z4+z5+z6+z7) + 1099511627776*(z5+z6+z7) + 281474976710656*(z6+z7) + 72057594037927936*(z7)) (f : y = (z4+z5+z6+z7) + 256*(z5+z6+z7) + 65536*(z6+z7) + 16777216*(z7)) : x + y = (z0+z1+z2+z3+z4+z5+z6+z7) + 128 * (2*(z1+z2+z3+z4+z5+z6+z7) + 512*(z2+z3+z4+z5+z6+z7) + 131072*(z3+z4+z5+z6+z7) + 33554432*(z4+z5+z6+z7) + 8589934592*(z5+z6+z7) + 2199023255552*(z6+z7) + 562949953421312*(z7)) := by omega
theorem ol {z0 z1 z2 z3 z4 z5 z6 z7 x : Nat} (h0 : z0 ≤ 8) (h1 : z1 ≤ 8) (h2 : z2 ≤ 8) (h3 : z3 ≤ 8) (h4 : z4 ≤ 8) (h5 : z5 ≤ 8) (h6 : z6 ≤ 8) (h7 : z7 ≤ 8) (e : x = (z0) + 256*(z1) + 65536*(z2) + 16777216*(z3) + 4294967296*(z4) + 1099511627776*(z5) + 281474976710656*(z6) + 72057594037927936*(z7)) : x < 2 ^ 57 * 9 := by omega
theorem dig_inv {b m k x : Nat} (h : Dig b m (k + 1) x) : ∃ a y, a ≤ m ∧ Dig b m k y ∧ x = a + b * y := by
  cases h with | step h hx => exact ⟨_, _, h, hx, rfl⟩
theorem dig8 {z : Nat} (h : Dig 256 8 8 z) : ∃ z0 z1 z2 z3 z4 z5 z6 z7, z0 ≤ 8 ∧ z1 ≤ 8 ∧ z2 ≤ 8 ∧ z3 ≤ 8 ∧ z4 ≤ 8 ∧ z5 ≤ 8 ∧ z6 ≤ 8 ∧ z7 ≤ 8 ∧ z = (z0) + 256*(z1) + 65536*(z2) + 16777216*(z3) + 4294967296*(z4) + 1099511627776*(z5) + 281474976710656*(z6) + 72057594037927936*(z7) := by
  obtain ⟨z0, x0, h0, k0, e0⟩ := dig_inv h
  obtain ⟨z1, x1, h1, k1, e1⟩ := dig_inv k0
  obtain ⟨z2, x2, h2, k2, e2⟩ := dig_inv k1
  obtain ⟨z3, x3, h3, k3, e3⟩ := dig_inv k2
  obtain ⟨z4, x4, h4, k4, e4⟩ := dig_inv k3
  obtain ⟨z5, x5, h5, k5, e5⟩ := dig_inv k4
  obtain ⟨z6, x6, h6, k6, e6⟩ := dig_inv k5
  obtain ⟨z7, x7, h7, k7, e7⟩ := dig_inv k6
  have e8 : x7 = 0 := by cases k7; rfl
  refine ⟨z0, z1, z2, z3, z4, z5, z6, z7, h0, h1, h2, h3, h4, h5, h6, h7, ?_⟩
  clear h0 h1 h2 h3 h4 h5 h6 h7
  omega
theorem ob1 {z0 z1 z2 z3 z4 z5 z6 z7 : Nat} (h0 : z0 ≤ 8) (h1 : z1 ≤ 8) (h2 : z2 ≤ 8) (h3 : z3 ≤ 8) (h4 : z4 ≤ 8) (h5 : z5 ≤ 8) (h6 : z6 ≤ 8) (h7 : z7 ≤ 8) : (z0+z1) + 256*(z1+z2) + 65536*(z2+z3) + 16777216*(z3+z4) + 4294967296*(z4+z5) + 1099511627776*(z5+z6) + 281474976710656*(z6+z7) + 72057594037927936*(z7) < 2 ^ 64 := by omega
theorem ob2 {z0 z1 z2 z3 z4 z5 z6 z7 : Nat} (h0 : z0 ≤ 8) (h1 : z1 ≤ 8) (h2 : z2 ≤ 8) (h3 : z3 ≤ 8) (h4 : z4 ≤ 8) (h5 : z5 ≤ 8) (h6 : z6 ≤ 8) (h7 : z7 ≤ 8) : (z0+z1+z2+z3) + 256*(z1+z2+z3+z4) + 65536*(z2+z3+z4+z5) + 16777216*(z3+z4+z5+z6) + 4294967296*(z4+z5+z6+z7) + 1099511627776*(z5+z6+z7) + 281474976710656*(z6+z7) + 72057594037927936*(z7) < 2 ^ 64 := by omega
theorem oz {z0 z1 z2 z3 z4 z5 z6 z7 z : Nat} (e : z = (z0) + 256*(z1) + 65536*(z2) + 16777216*(z3) + 4294967296*(z4) + 1099511627776*(z5) + 281474976710656*(z6) + 72057594037927936*(z7)) (h : z0+z1+z2+z3+z4+z5+z6+z7 = 0) : z = 0 := by omega
theorem last8 {T R : Nat} (h8 : T ≤ 64) (h : (((T + 128 * R) % 2 ^ 64 : Nat) : Int) % 128 ≤ 0) : T = 0 := by omega
theorem le64 {z0 z1 z2 z3 z4 z5 z6 z7 : Nat} (h0 : z0 ≤ 8) (h1 : z1 ≤ 8) (h2 : z2 ≤ 8) (h3 : z3 ≤ 8) (h4 : z4 ≤ 8) (h5 : z5 ≤ 8) (h6 : z6 ≤ 8) (h7 : z7 ≤ 8) : z0+z1+z2+z3+z4+z5+z6+z7 ≤ 64 := by omega
theorem sum8 (y3 : M64) (b1 : Dig 256 8 8 y3.toNat) (h : mI (y3 + y3 >>> 8 + (y3 + y3 >>> 8) >>> 16 + (y3 + y3 >>> 8 + (y3 + y3 >>> 8) >>> 16) >>> 32) % 128 ≤ 0) : y3.toNat = 0 := by
  obtain ⟨z0, z1, z2, z3, z4, z5, z6, z7, h0, h1, h2, h3, h4, h5, h6, h7, e3⟩ := dig8 b1
  clear b1
  generalize hy4 : y3 + y3 >>> 8 = y4 at h
  generalize hy5 : y4 + y4 >>> 16 = y5 at h
  have e4 : y4.toNat = (z0+z1) + 256*(z1+z2) + 65536*(z2+z3) + 16777216*(z3+z4) + 4294967296*(z4+z5) + 1099511627776*(z5+z6) + 281474976710656*(z6+z7) + 72057594037927936*(z7) := by
    rw [← hy4, BitVec.toNat_add, BitVec.toNat_ushiftRight, Nat.shiftRight_eq_div_pow]
    have := oe1 e3 (oq1 h0 h1 h2 h3 h4 h5 h6 h7 e3)
    rw [show (2 : Nat) ^ 8 = 256 from rfl, this]
    exact Nat.mod_eq_of_lt (ob1 h0 h1 h2 h3 h4 h5 h6 h7)
  have e5 : y5.toNat = (z0+z1+z2+z3) + 256*(z1+z2+z3+z4) + 65536*(z2+z3+z4+z5) + 16777216*(z3+z4+z5+z6) + 4294967296*(z4+z5+z6+z7) + 1099511627776*(z5+z6+z7) + 281474976710656*(z6+z7) + 72057594037927936*(z7) := by
    rw [← hy5, BitVec.toNat_add, BitVec.toNat_ushiftRight, Nat.shiftRight_eq_div_pow]
    have := oe2 e4 (oq2 h0 h1 h2 h3 h4 h5 h6 h7 e4)
    rw [show (2 : Nat) ^ 16 = 65536 from rfl, this]
    exact Nat.mod_eq_of_lt (ob2 h0 h1 h2 h3 h4 h5 h6 h7)
  have e6 := oe3 e5 (oq3 h0 h1 h2 h3 h4 h5 h6 h7 e5)
  unfold mI at h
  rw [BitVec.toNat_add, BitVec.toNat_ushiftRight, Nat.shiftRight_eq_div_pow, show (2 : Nat) ^ 32 = 4294967296 from rfl, e6] at h
  exact oz e3 (last8 (le64 h0 h1 h2 h3 h4 h5 h6 h7) h)
theorem ones_pos (m : M64) (h : onesI (mI m) ≤ 0) : m = 0 := by
  have c1 : (6148914691236517205 : Int) = mI 0x5555555555555555#64 := by decide
  have c2 : (3689348814741910323 : Int) = mI 0x3333333333333333#64 := by decide
  have c3 : (1085102592571150095 : Int) = mI 0x0F0F0F0F0F0F0F0F#64 := by decide
  unfold onesI at h
  have s1 := fun x : M64 => shr_c x 1 (by decide)
  have s2 := fun x : M64 => shr_c x 2 (by decide)
  have s4 := fun x : M64 => shr_c x 4 (by decide)
  have s8 := fun x : M64 => shr_c x 8 (by decide)
  have s16 := fun x : M64 => shr_c x 16 (by decide)
  have s32 := fun x : M64 => shr_c x 32 (by decide)
  simp only [Int.cast_ofNat_Int] at s1 s2 s4 s8 s16 s32
  rw [c1, c2, c3] at h
  simp only [s1, s2, s4, s8, s16, s32, and_mI, add_mI, last_and, wrap_mod] at h
  generalize hy1 : (m >>> 1 &&& 0x5555555555555555#64) + (m &&& 0x5555555555555555#64) = y1 at h
  generalize hy2 : (y1 >>> 2 &&& 0x3333333333333333#64) + (y1 &&& 0x3333333333333333#64) = y2 at h
  generalize hy3 : (y2 >>> 4) + y2 &&& 0x0F0F0F0F0F0F0F0F#64 = y3 at h
  have hm := m.isLt
  have e1 : y1.toNat = tw 2 5 16 m.toNat := by
    rw [← hy1, BitVec.toNat_add, BitVec.toNat_and, BitVec.toNat_and, BitVec.toNat_ushiftRight, Nat.shiftRight_eq_div_pow]
    have k : mk16 5 16 = 6148914691236517205 := by decide
    unfold tw
    rw [k]
    have a1 : m.toNat / 2 ^ 1 &&& 6148914691236517205 ≤ 6148914691236517205 := Nat.and_le_right
    have a2 : m.toNat &&& 6148914691236517205 ≤ 6148914691236517205 := Nat.and_le_right
    rw [BitVec.toNat_ofNat, show 6148914691236517205 % 2 ^ 64 = 6148914691236517205 from rfl]
    exact Nat.mod_eq_of_lt (by omega)
  have e2 : y2.toNat = tw 4 3 16 y1.toNat := by
    rw [← hy2, BitVec.toNat_add, BitVec.toNat_and, BitVec.toNat_and, BitVec.toNat_ushiftRight, Nat.shiftRight_eq_div_pow]
    have k : mk16 3 16 = 3689348814741910323 := by decide
    unfold tw
    rw [k]
    have a1 : y1.toNat / 2 ^ 2 &&& 3689348814741910323 ≤ 3689348814741910323 := Nat.and_le_right
    have a2 : y1.toNat &&& 3689348814741910323 ≤ 3689348814741910323 := Nat.and_le_right
    rw [BitVec.toNat_ofNat, show 3689348814741910323 % 2 ^ 64 = 3689348814741910323 from rfl]
    exact Nat.mod_eq_of_lt (by omega)
  have e12 : y2.toNat = tww 16 m.toNat := by rw [e2, e1]; rfl
  obtain ⟨d1, d2⟩ := tww_dig 16 m.toNat (by
    have : (16 : Nat) ^ 16 = 2 ^ 64 := by decide
    omega)
  rw [← e12] at d1 d2
  have hlt : y2.toNat / 16 + y2.toNat < 2 ^ 64 := by
    have : ∀ k x, Dig 16 4 k x → 15 * x ≤ 4 * (16 ^ k - 1) := by
      intro k x hd
      induction hd with
      | zero => simp
      | @step k a x ha hx ih =>
        have : 0 < 16 ^ k := Nat.pos_of_ne_zero (by simp)
        rw [Nat.pow_succ]
        omega
    have := this _ _ d1
    have : (16 : Nat) ^ 16 = 2 ^ 64 := by decide
    omega
  have e3 : y3.toNat = hb 8 y2.toNat := by
    rw [← hy3, BitVec.toNat_and, BitVec.toNat_add, BitVec.toNat_ushiftRight, Nat.shiftRight_eq_div_pow]
    have k : mk256 8 = 1085102592571150095 := by decide
    unfold hb
    rw [k]
    have : (y2.toNat / 2 ^ 4 + y2.toNat) % 2 ^ 64 = y2.toNat / 16 + y2.toNat := Nat.mod_eq_of_lt hlt
    rw [this]
    rfl
  obtain ⟨b1, b2, _⟩ := hb_dig 8 y2.toNat d1
  rw [← e3] at b1 b2
  have hz : y3.toNat = 0 := sum8 y3 b1 h
  have := d2 (b2 hz)
  exact BitVec.eq_of_toNat_eq (by rw [this]; rfl)
end Go.Proofs.YtkmilijehekdoaaDoor
