/- Chapter 14, in plain Lean: what the laws share. -/
import Derived.Test.YtkojpimkngmckaaDoorTrkL
namespace Go.Proofs.YtkojpimkngmckaaDoor
set_option linter.unusedVariables false
set_option linter.unusedSimpArgs false
open Go Go.Fw

theorem and1023 (x : Int) : bitI .and .i64 x 1023 = x % 1024 := by
  show IntKind.i64.wrap ((BitVec.ofInt 64 x &&& BitVec.ofInt 64 1023).toNat : Nat) = _
  have h : (BitVec.ofInt 64 x &&& BitVec.ofInt 64 1023).toNat = (BitVec.ofInt 64 x).toNat % 1024 := by
    rw [BitVec.toNat_and]
    have : (BitVec.ofInt 64 1023).toNat = 2 ^ 10 - 1 := by decide
    rw [this, Nat.and_two_pow_sub_one_eq_mod]
  rw [h, BitVec.toNat_ofInt]
  rw [wrap_i64' (by omega) (by omega)]
  omega
theorem has6_len (f : Int → Option D) (v : Int) : (hasL (sixL 0) f v).length = cnt f v := by
  unfold hasL
  rw [List.length_map, ← List.countP_eq_length_filter]
  unfold cnt six0
  have : sixL 0 = [0, 1, 2, 3, 4, 5].map D.int := rfl
  rw [this, List.countP_map]
  rfl
theorem set_get {H : List D} {k j : Nat} {v : D} (hk : k < H.length) : (H.set k v).getD j .nil = if j = k then v else H.getD j .nil := by
  rw [List.getD_eq_getElem?_getD, List.getElem?_set]
  by_cases h : k = j
  · subst h
    simp [hk]
  · rw [if_neg h, if_neg (fun e => h e.symm), List.getD_eq_getElem?_getD]
theorem ackC {m : List D} {g : Int → Option D} {n inc scl : Int} (h0 : n ∈ m.map D.i) (hg : atI g n = inc) (h2 : 0 ≤ scl) (h3 : scl ≤ 1099511627776) : ackB m g n inc scl = true := by
  unfold ackB
  rw [hasI_iff.2 h0, hg, decide_eq_true h2, decide_eq_true h3]
  simp
theorem ackC_no {m : List D} {g : Int → Option D} {n inc scl : Int} (h0 : n ∉ m.map D.i) : ackB m g n inc scl = false := by
  unfold ackB
  have : hasI m n = false := by
    rcases bool_ft (hasI m n) with h | h
    · exact h
    · exact (h0 (hasI_iff.1 h)).elim
  rw [this]
  rfl
end Go.Proofs.YtkojpimkngmckaaDoor
