/- Chapter 2: WireForms. -/
import Derived.Test.YthkpajefghmnaaaDoorWireHa
namespace Go.Proofs.YthkpajefghmnaaaDoor
set_option linter.unusedVariables false
set_option linter.unusedSimpArgs false
open Go Go.Fw Go.Wire

/-- The bytes of a number, the last one marked as if more came. -/
def encS (z : Nat) : List Nat := if h : z < 128 then [z + 128] else (z % 128 + 128) :: encS (z / 128)
  termination_by z
  decreasing_by omega
theorem encS_lt {z : Nat} (h : z < 128) : encS z = [z + 128] := by rw [encS]; simp [h]
theorem encS_ge {z : Nat} (h : ¬ z < 128) : encS z = (z % 128 + 128) :: encS (z / 128) := by rw [encS]; simp [h]
theorem enc_set (z : Nat) : (enc z).getD ((enc z).length - 1) 0 < 128 ∧ (enc z).set ((enc z).length - 1) ((enc z).getD ((enc z).length - 1) 0 + 128) = encS z := by
  induction z using Nat.strongRecOn with
  | _ z ih =>
    by_cases h : z < 128
    · rw [enc_lt h, encS_lt h]; simpa using h
    · obtain ⟨i1, i2⟩ := ih (z / 128) (by omega)
      rw [enc_ge h, encS_ge h]
      have hp := enc_len_pos (z / 128)
      obtain ⟨k, hk⟩ : ∃ k, (enc (z / 128)).length = k + 1 := ⟨(enc (z / 128)).length - 1, by omega⟩
      have ek : (enc (z / 128)).length - 1 = k := by omega
      rw [ek] at i1 i2
      rw [List.length_cons, hk]
      simp only [Nat.add_sub_cancel, List.getD_cons_succ, List.set_cons_succ] at i1 i2 ⊢
      exact ⟨i1, by rw [i2]⟩
/-- A nothing behind a number's bytes: no number. -/
theorem numR_encS (z : Nat) : ∀ (i acc : Nat), i ≤ 9 → (0 < i → 0 < z) → z * 2 ^ (7 * i) < 18446744073709551616 → numR (encS z ++ [0]) i acc = .shape := by
  induction z using Nat.strongRecOn with
  | _ z ih =>
    intro i acc hi hz hb
    have h9 : i = 9 → z ≤ 1 := by
      rintro rfl
      have : (2 : Nat) ^ (7 * 9) = 9223372036854775808 := by decide
      rw [this] at hb
      omega
    by_cases h : z < 128
    · rw [encS_lt h]
      simp only [List.cons_append, List.nil_append, numR]
      by_cases e9 : i = 9
      · rw [if_pos (by omega)]
      · rw [if_neg (by omega), if_pos (by omega)]
        simp
    · rw [encS_ge h]
      simp only [List.cons_append, numR]
      rw [if_neg (by omega), if_pos (by omega)]
      have hi9 : i ≠ 9 := by intro e; have := h9 e; omega
      have e2 : z / 128 * 2 ^ (7 * (i + 1)) + (z % 128) * 2 ^ (7 * i) = z * 2 ^ (7 * i) := by
        rw [pow7, ← Nat.mul_assoc, ← Nat.add_mul]
        congr 1
        omega
      exact ih (z / 128) (by omega) (i + 1) _ (by omega) (by omega) (by omega)
/-- Forms of unlike numbers: neither begins the other. -/
theorem enc_pre {a b : Int} (ha : -9223372036854775808 ≤ a ∧ a ≤ 9223372036854775807) (hb : -9223372036854775808 ≤ b ∧ b ≤ 9223372036854775807) (h : encD a = (encD b).take (encD a).length) : a = b := by
  have h1 := numR_encD hb []
  have h2 := numR_encD ha (nats ((encD b).drop (encD a).length))
  have e : encD b = encD a ++ (encD b).drop (encD a).length := by
    conv => lhs; rw [← List.take_append_drop (encD a).length (encD b)]
    rw [← h]
  have e' := congrArg nats e
  rw [nats_encD] at e'
  rw [show nats (encD b) = enc (zig b) ++ [] by unfold encD; rw [nats_dOf, List.append_nil]] at e'
  rw [e', h2] at h1
  injection h1
end Go.Proofs.YthkpajefghmnaaaDoor
