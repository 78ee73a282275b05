/- Chapter 2: what is read of what was put, in plain Lean. -/
import Derived.Test.YthkpajefghmnaaaDoorWireE
namespace Go.Proofs.YthkpajefghmnaaaDoor
set_option linter.unusedVariables false
set_option linter.unusedSimpArgs false
open Go Go.Fw Go.Wire

theorem nats_encD (n : Int) (r : List D) : nats (encD n ++ r) = enc (zig n) ++ nats r := by rw [nats_app]; unfold encD; rw [nats_dOf]
theorem numF_at {l r : List D} {a : Nat} {n lo hi : Int} (hd : l.drop a = encD n ++ r) (hn : -9223372036854775808 ≤ n ∧ n ≤ 9223372036854775807) (h : lo ≤ n ∧ n ≤ hi) : numF l a .nil lo hi = (n, a + (encD n).length, .nil) := by
  unfold numF
  rw [if_pos (by rfl), hd, nats_encD, numR_encD hn, encD_len]
  exact if_neg (by omega)
theorem numF_range {l r : List D} {a : Nat} {n lo hi : Int} (hd : l.drop a = encD n ++ r) (hn : -9223372036854775808 ≤ n ∧ n ≤ 9223372036854775807) (h : ¬ (lo ≤ n ∧ n ≤ hi)) : numF l a .nil lo hi = (0, a, atD a 0) := by
  unfold numF
  rw [if_pos (by rfl), hd, nats_encD, numR_encD hn]
  exact if_pos (by omega)
theorem nats_take (l : List D) (k : Nat) : nats (l.take k) = (nats l).take k := by simp [nats, List.map_take]
theorem numF_cut {l : List D} {a k : Nat} {n lo hi : Int} (hd : l.drop a = (encD n).take k) (hn : -9223372036854775808 ≤ n ∧ n ≤ 9223372036854775807) (hk : k < (encD n).length) : numF l a .nil lo hi = (0, a, atD a 1) := by
  unfold numF
  have : nats ((encD n).take k) = (enc (zig n)).take k := by rw [nats_take]; unfold encD; rw [nats_dOf]
  rw [encD_len] at hk
  rw [if_pos (by rfl), hd, this, numR_cut (zig n) 0 0 k (by omega) (by omega) (by have := zig_lt hn; omega) hk]
theorem numF_bad {l : List D} {a : Nat} {e : D} {lo hi : Int} (he : e.isNil = false) : numF l a e lo hi = (0, a, e) := by
  unfold numF; rw [if_neg (by rw [he]; simp)]
theorem bytF_at {l x r : List D} {a : Nat} {most : Int} (hd : l.drop a = encD x.length ++ (x ++ r)) (hl : l.length ≤ 1000000000) (hx : (x.length : Int) ≤ most) (hal : a ≤ l.length) : bytF l a .nil most = (x, a + (encD x.length).length + x.length, .nil) := by
  have hlen := congrArg List.length hd
  simp only [List.length_drop, List.length_append] at hlen
  have hF := numF_at (lo := 0) (hi := most) hd (by omega) (by omega)
  unfold bytF
  rw [hF, if_pos (by rfl), if_neg (by simp only []; omega)]
  simp only [Int.toNat_natCast]
  rw [← List.drop_drop, hd, List.drop_left, List.take_left]
theorem bytF_range {l r : List D} {n : Nat} {a : Nat} {most : Int} (hd : l.drop a = encD n ++ r) (hn : (n : Int) ≤ 9223372036854775807) (hx : most < (n : Int)) : bytF l a .nil most = ([], a, atD a 0) := by
  have hF := numF_range (lo := 0) (hi := most) hd (by omega) (by omega)
  unfold bytF
  rw [hF]; exact if_neg (by simp [atD, D.isNil])
theorem bytF_bad {l : List D} {a : Nat} {e : D} {most : Int} (he : e.isNil = false) : bytF l a e most = ([], a, e) := by
  unfold bytF; rw [numF_bad he]; exact if_neg (by simp [he])
theorem rngB_nil : RngB [] := fun j hj => absurd hj (by simp)
theorem rngB_app {a b : List D} (ha : RngB a) (hb : RngB b) : RngB (a ++ b) := by
  intro j hj
  rw [List.length_append] at hj
  simp only [List.getD_eq_getElem?_getD]
  by_cases h : j < a.length
  · rw [List.getElem?_append_left h]
    have := ha j h
    simpa only [List.getD_eq_getElem?_getD] using this
  · rw [List.getElem?_append_right (by omega)]
    have := hb (j - a.length) (by omega)
    simpa only [List.getD_eq_getElem?_getD] using this
theorem rngB_enc (n : Int) : RngB (encD n) := by
  intro j hj
  unfold encD at hj ⊢
  rw [dOf_len] at hj
  unfold dOf
  simp only [List.getD_eq_getElem?_getD, List.getElem?_map, List.getElem?_eq_getElem hj, Option.map_some, Option.getD_some, D.i]
  have := enc_byte _ (List.getElem_mem hj)
  omega
theorem ty_u8 : tyOf Tryd.prog 8 5 = .int .u8 := by kernel_rfl
theorem rngB_of {E : Nat → Value} {l : List D} (h : ∀ x ∈ l, Wt Tryd.prog E (tyOf Tryd.prog 8 5) x) : RngB l := by
  intro j hj
  have := h _ (List.getElem_mem hj)
  rw [ty_u8] at this
  obtain ⟨_, h1, h2⟩ := Wt.int this
  simp only [List.getD_eq_getElem?_getD, List.getElem?_eq_getElem hj, Option.getD_some]
  exact ⟨h1, h2⟩
theorem enc_pos (n : Int) : 0 < (encD n).length := by rw [encD_len]; exact enc_len_pos _
theorem enc_le {n : Int} (hn : -9223372036854775808 ≤ n ∧ n ≤ 9223372036854775807) : (encD n).length ≤ 10 := by rw [encD_len]; exact enc10 (zig_lt hn)
end Go.Proofs.YthkpajefghmnaaaDoor
