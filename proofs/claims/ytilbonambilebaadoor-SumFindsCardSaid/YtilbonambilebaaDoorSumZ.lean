/- What is sealed has one and the same sum; what turning bits does to a sum. -/
import Derived.Test.YtilbonambilebaaDoorSumS
namespace Go.Crc
set_option linter.unusedVariables false
set_option linter.unusedSimpArgs false
open Go Go.Fw

theorem st1_shl8 (s : W32) (k : Nat) (hk : k ≤ 7) : st1 ((s >>> 8) <<< (k + 1)) = (s >>> 8) <<< k := by
  rw [st1_even (by simp)]
  apply BitVec.eq_of_getLsbD_eq
  intro i hi
  simp only [BitVec.getLsbD_ushiftRight, BitVec.getLsbD_shiftLeft]
  by_cases h : i < k
  · have e1 : decide (1 + i < k + 1) = true := by simp; omega
    simp [h, e1]
  · have e1 : decide (1 + i < k + 1) = false := by simp; omega
    have e2 : 8 + (1 + i - (k + 1)) = 8 + (i - k) := by omega
    rw [e1, e2]
    by_cases h31 : i = 31
    · have e3 : s.getLsbD (8 + (i - k)) = false := BitVec.getLsbD_of_ge _ _ (by omega)
      rw [e3]; simp
    · have e3 : decide (1 + i < 32) = true := by simp; omega
      simp [e3, h, hi]
theorem st8_high (s : W32) : st8 ((s >>> 8) <<< 8) = s >>> 8 := by
  unfold st8 st4
  rw [st1_shl8 s 7 (by omega), st1_shl8 s 6 (by omega), st1_shl8 s 5 (by omega), st1_shl8 s 4 (by omega), st1_shl8 s 3 (by omega), st1_shl8 s 2 (by omega), st1_shl8 s 1 (by omega), st1_shl8 s 0 (by omega), BitVec.shiftLeft_zero]
theorem split8 (s : W32) : s ^^^ (s &&& 255#32) = (s >>> 8) <<< 8 := by
  apply BitVec.eq_of_getLsbD_eq
  intro i hi
  have h255 : ∀ i, i < 32 → (255#32).getLsbD i = decide (i < 8) := by decide
  simp only [BitVec.getLsbD_xor, BitVec.getLsbD_and, BitVec.getLsbD_shiftLeft, BitVec.getLsbD_ushiftRight, h255 i hi, hi, decide_true, Bool.true_and]
  by_cases h : i < 8
  · simp [h]
  · have : 8 + (i - 8) = i := by omega
    simp [h, this]
theorem and_not (s : W32) : ~~~s &&& 255#32 = (s &&& 255#32) ^^^ 255#32 := by
  apply BitVec.eq_of_getLsbD_eq
  intro i hi
  simp only [BitVec.getLsbD_xor, BitVec.getLsbD_and, BitVec.getLsbD_not, hi, decide_true, Bool.true_and]
  cases s.getLsbD i <;> cases (255#32).getLsbD i <;> rfl
theorem not_shr (s : W32) (n : Nat) (hn : n ≤ 24) : (~~~s >>> n) &&& 255#32 = ((s >>> n) &&& 255#32) ^^^ 255#32 := by
  apply BitVec.eq_of_getLsbD_eq
  intro i hi
  have h255 : ∀ i, i < 32 → (255#32).getLsbD i = decide (i < 8) := by decide
  simp only [BitVec.getLsbD_xor, BitVec.getLsbD_and, BitVec.getLsbD_not, BitVec.getLsbD_ushiftRight, h255 i hi]
  by_cases h : i < 8
  · have : decide (n + i < 32) = true := by simp; omega
    simp [h, this]
  · simp [h]
theorem xor_assoc4 (a b c d : W32) : (a ^^^ b) ^^^ (c ^^^ d) = (a ^^^ c) ^^^ (b ^^^ d) := by
  rw [BitVec.xor_assoc, ← BitVec.xor_assoc b c d, BitVec.xor_comm b c, BitVec.xor_assoc c b d, ← BitVec.xor_assoc]
/-- One of a register's own bytes, turned: what is left does not hang on it. -/
theorem own_step (r k : W32) : st8 ((r ^^^ k) ^^^ ((r &&& 255#32) ^^^ 255#32)) = (r >>> 8) ^^^ st8 (k ^^^ 255#32) := by
  rw [xor_assoc4, split8, st8_lin, st8_high]
def res1 : W32 := st8 255#32
def res2 : W32 := st8 (res1 ^^^ 255#32)
def res3 : W32 := st8 (res2 ^^^ 255#32)
def res4 : W32 := st8 (res3 ^^^ 255#32)
theorem shr_shr (r : W32) (a b : Nat) : (r >>> a) >>> b = r >>> (a + b) := by
  apply BitVec.eq_of_getLsbD_eq
  intro i hi
  simp only [BitVec.getLsbD_ushiftRight, Nat.add_assoc]
theorem crc_own {r : W32} {b0 b1 b2 b3 : D} (h0 : byt b0 = ~~~r &&& 255#32) (h1 : byt b1 = (~~~r >>> 8) &&& 255#32) (h2 : byt b2 = (~~~r >>> 16) &&& 255#32) (h3 : byt b3 = (~~~r >>> 24) &&& 255#32) : crc r [b0, b1, b2, b3] = res4 := by
  simp only [crc_cons, crc_nil, h0, h1, h2, h3, and_not, not_shr r 8 (by omega), not_shr r 16 (by omega), not_shr r 24 (by omega)]
  have e1 := own_step r 0#32
  rw [BitVec.xor_zero, BitVec.zero_xor] at e1
  rw [e1]
  have e2 := own_step (r >>> 8) res1
  rw [shr_shr] at e2
  rw [show st8 255#32 = res1 from rfl, e2]
  have e3 := own_step (r >>> 16) res2
  rw [shr_shr] at e3
  rw [show st8 (res1 ^^^ 255#32) = res2 from rfl, e3]
  have e4 := own_step (r >>> 24) res3
  rw [shr_shr] at e4
  rw [show st8 (res2 ^^^ 255#32) = res3 from rfl, e4]
  have e5 : r >>> (24 + 8) = 0#32 := by
    apply BitVec.eq_of_getLsbD_eq
    intro i hi
    rw [BitVec.getLsbD_ushiftRight, BitVec.getLsbD_of_ge _ _ (by omega)]; simp
  rw [e5, BitVec.zero_xor]; rfl
end Go.Crc
namespace Go.Proofs.YtilbonambilebaaDoor
open Go Go.Fw Go.Crc
theorem byt_wrap (n : Int) (h : 0 ≤ n) : byt (.int (IntKind.u8.wrap n)) = ofI n &&& 255#32 := by
  obtain ⟨m, rfl⟩ := Int.eq_ofNat_of_zero_le h
  rw [u8w]
  apply BitVec.eq_of_toNat_eq
  have e1 : (255#32).toNat = 2 ^ 8 - 1 := rfl
  rw [BitVec.toNat_and, e1, Nat.and_two_pow_sub_one_eq_mod, ofI_nat]
  show (ofI ((m : Int) % 256)).toNat = _
  have e2 : (m : Int) % 256 = ((m % 256 : Nat) : Int) := by omega
  rw [e2, ofI_nat]
  omega
theorem toI_shr (c : W32) (n : Nat) (hn : n ≤ 32) : ofI ((toI c).fdiv (2 ^ min n 32)) = c >>> n := by rw [shr32 c n hn, ofI_toI]
theorem shr_nn (c : W32) (n : Nat) (hn : n ≤ 32) : 0 ≤ (toI c).fdiv (2 ^ min n 32) := by rw [shr32 c n hn]; exact toI_lo _
/-- The register of what is sealed. -/
theorem crc_seal (l : List D) : crc 4294967295#32 (sealD l) = res4 := by
  unfold sealD
  rw [crc_app]
  have hc : Crc.add 0#32 l = ~~~ crc 4294967295#32 l := rfl
  rw [hc]
  generalize crc 4294967295#32 l = r
  unfold tl
  refine crc_own ?_ ?_ ?_ ?_
  · rw [byt_wrap _ (toI_lo _), ofI_toI]
  · exact (byt_wrap _ (shr_nn _ 8 (by omega))).trans (by rw [show (2 : Int) ^ min 8 32 = 2 ^ min 8 32 from rfl, toI_shr _ 8 (by omega)])
  · exact (byt_wrap _ (shr_nn _ 16 (by omega))).trans (by rw [toI_shr _ 16 (by omega)])
  · exact (byt_wrap _ (shr_nn _ 24 (by omega))).trans (by rw [toI_shr _ 24 (by omega)])
theorem sum_seal (l : List D) : Crc.add 0#32 (sealD l) = ~~~ res4 := by
  show ~~~ crc 4294967295#32 (sealD l) = _
  rw [crc_seal]
end Go.Proofs.YtilbonambilebaaDoor
