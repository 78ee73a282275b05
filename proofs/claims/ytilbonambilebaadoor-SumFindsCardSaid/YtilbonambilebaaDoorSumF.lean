/- What turning bits does to a sum; up to three bits, and bursts of up to 32, are found. -/
import Derived.Test.YtilbonambilebaaDoorSumP
namespace Go.Crc
set_option linter.unusedVariables false
set_option linter.unusedSimpArgs false
open Go Go.Fw

theorem stn_lin (n : Nat) (a b : W32) : stn n (a ^^^ b) = stn n a ^^^ stn n b := by
  induction n with
  | zero => rfl
  | succ n ih => simp only [stn, ih, st1_lin]
theorem stn_add (m n : Nat) (x : W32) : stn (m + n) x = stn n (stn m x) := by
  induction n with
  | zero => rfl
  | succ n ih => rw [← Nat.add_assoc]; simp only [stn, ih]
theorem stn_inj {n : Nat} {a b : W32} (h : stn n a = stn n b) : a = b := by
  induction n with
  | zero => exact h
  | succ n ih => exact ih (st1_inj h)
theorem st1_zero : st1 0#32 = 0#32 := by decide
theorem stn_zero (n : Nat) : stn n 0#32 = 0#32 := by
  induction n with
  | zero => rfl
  | succ n ih => simp only [stn, ih, st1_zero]
theorem stn_ne {n : Nat} {x : W32} (h : x ≠ 0#32) : stn n x ≠ 0#32 := fun e => h (stn_inj (n := n) (by rw [e, stn_zero]))
/-- What a difference in the register comes to, n bytes on. -/
theorem crc_diff (l : List D) : ∀ s d : W32, crc (s ^^^ d) l = crc s l ^^^ stn (8 * l.length) d := by
  induction l with
  | nil => intro s d; rfl
  | cons x l ih =>
    intro s d
    rw [crc_cons, crc_cons, List.length_cons]
    have e : s ^^^ d ^^^ byt x = (s ^^^ byt x) ^^^ d := by rw [BitVec.xor_assoc, BitVec.xor_comm d, ← BitVec.xor_assoc]
    rw [e, st8_lin, ih]
    have e2 : stn (8 * (l.length + 1)) d = stn (8 * l.length) (st8 d) := by
      rw [show 8 * (l.length + 1) = 8 + 8 * l.length by omega, stn_add]; rfl
    rw [e2]
/-- One byte turned. -/
theorem crc_turn {l : List D} {j : Nat} (hj : j < l.length) (s : W32) (e : D) : crc s (l.set j e) = crc s l ^^^ stn (8 * (l.length - j)) (byt e ^^^ byt (l.getD j .nil)) := by
  generalize hx : l.getD j .nil = x
  have hl : l = l.take j ++ x :: l.drop (j + 1) := by
    rw [← hx, List.getD_eq_getElem?_getD, List.getElem?_eq_getElem hj]
    simp
  have hs : l.set j e = l.take j ++ e :: l.drop (j + 1) := by
    rw [List.set_eq_take_append_cons_drop, if_pos hj]
  rw [hs, show crc s l = crc s (l.take j ++ x :: l.drop (j + 1)) from congrArg _ hl, crc_app, crc_app, crc_cons, crc_cons]
  generalize crc s (l.take j) = r
  have e1 : r ^^^ byt e = (r ^^^ byt x) ^^^ (byt e ^^^ byt x) := by
    rw [BitVec.xor_assoc, BitVec.xor_comm (byt e), ← BitVec.xor_assoc (byt x), BitVec.xor_self, BitVec.zero_xor]
  rw [e1, st8_lin, crc_diff]
  congr 1
  have : 8 * (l.length - j) = 8 + 8 * (l.drop (j + 1)).length := by rw [List.length_drop]; omega
  rw [this, stn_add]; rfl
theorem stn_bit : ∀ k, k < 32 → stn k (1#32 <<< k) = 1#32 := by decide
/-- A bit of a byte, k further on. -/
theorem stn_bit' {m k : Nat} (hk : k < 32) (hm : k ≤ m) : stn (m - k) 1#32 = stn m (1#32 <<< k) := by
  conv => rhs; rw [show m = k + (m - k) by omega, stn_add, stn_bit k hk]

/-! ### A burst -/
/-- The first i bits of a word. -/
def wi (b : W32) : Nat → W32
  | 0 => 0#32
  | i + 1 => if b.getLsbD i then wi b i ^^^ (1#32 <<< i) else wi b i
theorem wi_bit (b : W32) : ∀ i, i ≤ 32 → ∀ j, j < 32 → (wi b i).getLsbD j = (decide (j < i) && b.getLsbD j) := by
  intro i
  induction i with
  | zero => intro _ j _; simp [wi]
  | succ i ih =>
    intro hi j hj
    have e1 : ∀ i, i < 32 → ∀ j, j < 32 → (1#32 <<< i).getLsbD j = decide (i = j) := by decide +kernel
    unfold wi
    split
    · rename_i hb
      rw [BitVec.getLsbD_xor, ih (by omega) j hj, e1 i (by omega) j hj]
      by_cases e : i = j
      · subst e; simp [hb]
      · have : (j < i + 1) = (j < i) := by apply propext; omega
        simp [e, this]
    · rename_i hb
      rw [ih (by omega) j hj]
      by_cases e : i = j
      · subst e
        have : b.getLsbD i = false := by simpa using hb
        simp [this]
      · have : (j < i + 1) = (j < i) := by apply propext; omega
        simp [this]
theorem wi_zero {b : W32} {i : Nat} (hi : i < 32) (h : wi b (i + 1) = 0#32) : b.getLsbD i = false ∧ wi b i = 0#32 := by
  have h1 := wi_bit b (i + 1) (by omega) i hi
  rw [h] at h1
  have hb : b.getLsbD i = false := by simpa using h1
  refine ⟨hb, ?_⟩
  unfold wi at h
  rw [hb] at h
  simpa using h

/-! ### Three bits -/
def vv (m : Nat) : W32 := stn m 1#32
/-- The next power, as a number. -/
def nxt (n : Nat) : Nat := if n % 2 = 1 then (n / 2) ^^^ 3988292384 else n / 2
def itN : Nat → Nat → Nat
  | 0, n => n
  | k + 1, n => nxt (itN k n)
inductive Tr where
  | leaf
  | node (l : Tr) (x : Nat) (r : Tr)
def Tr.find (x : Nat) : Tr → Bool
  | .leaf => false
  | .node l y r => if x = y then true else if x < y then l.find x else r.find x
def Tr.ins (x : Nat) : Tr → Option Tr
  | .leaf => some (.node .leaf x .leaf)
  | .node l y r => if x = y then none else if x < y then (match l.ins x with | some l' => some (.node l' y r) | none => none) else (match r.ins x with | some r' => some (.node l y r') | none => none)
theorem Tr.ins_self {x : Nat} : ∀ {t t' : Tr}, t.ins x = some t' → t.find x = false ∧ t'.find x = true
  | .leaf, t', h => by simp only [Tr.ins] at h; cases h; simp [Tr.find]
  | .node l y r, t', h => by
    simp only [Tr.ins] at h
    split at h
    · cases h
    · rename_i hne
      split at h
      · rename_i hlt
        split at h
        · rename_i l' e; cases h
          have := Tr.ins_self e
          simp only [Tr.find, if_neg hne, if_pos hlt]; exact this
        · cases h
      · rename_i hlt
        split at h
        · rename_i r' e; cases h
          have := Tr.ins_self e
          simp only [Tr.find, if_neg hne, if_neg hlt]; exact this
        · cases h
theorem Tr.ins_keep {x z : Nat} : ∀ {t t' : Tr}, t.ins x = some t' → t.find z = true → t'.find z = true
  | .leaf, t', h, hz => by simp [Tr.find] at hz
  | .node l y r, t', h, hz => by
    simp only [Tr.ins] at h
    simp only [Tr.find] at hz
    split at h
    · cases h
    · split at h
      · split at h
        · rename_i l' e; cases h
          simp only [Tr.find]
          split
          · rfl
          · rename_i h1
            rw [if_neg h1] at hz
            split
            · rename_i h2; rw [if_pos h2] at hz; exact Tr.ins_keep e hz
            · rename_i h2; rw [if_neg h2] at hz; exact hz
        · cases h
      · split at h
        · rename_i r' e; cases h
          simp only [Tr.find]
          split
          · rfl
          · rename_i h1
            rw [if_neg h1] at hz
            split
            · rename_i h2; rw [if_pos h2] at hz; exact hz
            · rename_i h2; rw [if_neg h2] at hz; exact Tr.ins_keep e hz
        · cases h
/-- All halves of so many powers are unlike. -/
def allNew : Nat → Nat → Tr → Bool
  | 0, _, _ => true
  | k + 1, n, t => match t.ins (n / 2) with
    | some t' => allNew k (nxt n) t'
    | none => false
theorem itN_succ (k n : Nat) : itN (k + 1) n = itN k (nxt n) := by
  induction k with
  | zero => rfl
  | succ k ih => rw [itN, ih]; rfl
theorem allNew_old : ∀ (k n : Nat) (t : Tr) (z : Nat), allNew k n t = true → t.find z = true → ∀ j, j < k → itN j n / 2 ≠ z
  | 0, _, _, _, _, _, j, hj => by omega
  | k + 1, n, t, z, h, hz, j, hj => by
    simp only [allNew] at h
    split at h
    · rename_i t' e
      cases j with
      | zero =>
        intro e2
        have := (Tr.ins_self e).1
        rw [show n / 2 = z from e2, hz] at this; cases this
      | succ j =>
        rw [itN_succ]
        exact allNew_old k (nxt n) t' z h (Tr.ins_keep e hz) j (by omega)
    · cases h
theorem allNew_ne : ∀ (k n : Nat) (t : Tr), allNew k n t = true → ∀ i j, i < j → j < k → itN i n / 2 ≠ itN j n / 2
  | 0, _, _, _, i, j, _, hj => by omega
  | k + 1, n, t, h, i, j, hij, hj => by
    simp only [allNew] at h
    split at h
    · rename_i t' e
      cases j with
      | zero => omega
      | succ j =>
        cases i with
        | zero =>
          have := allNew_old k (nxt n) t' (n / 2) h (Tr.ins_self e).2 j (by omega)
          rw [itN_succ]
          exact fun e2 => this e2.symm
        | succ i =>
          rw [itN_succ, itN_succ]
          exact allNew_ne k (nxt n) t' h i j (by omega) (by omega)
    · cases h
set_option maxRecDepth 100000 in
theorem allNew_4040 : allNew 4040 1 .leaf = true := by decide +kernel
theorem st1_nat (x : W32) : (st1 x).toNat = nxt x.toNat := by
  rw [st1_if]
  have e : x.getLsbD 0 = decide (x.toNat % 2 = 1) := by
    rw [BitVec.getLsbD, Nat.testBit_zero]
  unfold nxt
  rw [e]
  by_cases h : x.toNat % 2 = 1
  · rw [if_pos h]
    simp only [h, decide_true, if_true, BitVec.toNat_xor, BitVec.toNat_ushiftRight, Nat.shiftRight_eq_div_pow]
    rfl
  · rw [if_neg h]
    simp [h, Nat.shiftRight_eq_div_pow]
theorem vv_nat (m : Nat) : (vv m).toNat = itN m 1 := by
  induction m with
  | zero => rfl
  | succ m ih =>
    show (st1 (stn m 1#32)).toNat = nxt (itN m 1)
    rw [st1_nat]
    congr 1
theorem two_ne {a b : Nat} (ha : a < 4040) (hb : b < 4040) (h : a ≠ b) : vv a ^^^ vv b ≠ 1#32 ∧ vv a ^^^ vv b ≠ 0#32 := by
  have key : (vv a).toNat / 2 ≠ (vv b).toNat / 2 := by
    rw [vv_nat, vv_nat]
    rcases Nat.lt_or_gt_of_ne h with h1 | h1
    · exact allNew_ne 4040 1 .leaf allNew_4040 a b h1 hb
    · exact fun e => allNew_ne 4040 1 .leaf allNew_4040 b a h1 ha e.symm
  have half : ∀ c : W32, c.toNat / 2 = 0 → vv a ^^^ vv b = c → False := by
    intro c hc e
    apply key
    have e2 : vv a = vv b ^^^ c := by rw [← e, BitVec.xor_comm (vv a), ← BitVec.xor_assoc, BitVec.xor_self, BitVec.zero_xor]
    rw [e2, BitVec.toNat_xor]
    have : ((vv b).toNat ^^^ c.toNat) / 2 = (vv b).toNat / 2 ^^^ c.toNat / 2 := by
      have := Nat.shiftRight_xor_distrib (a := (vv b).toNat) (b := c.toNat) (i := 1)
      simpa [Nat.shiftRight_eq_div_pow] using this
    rw [this, hc, Nat.xor_zero]
  exact ⟨fun e => half 1#32 (by decide) e, fun e => half 0#32 (by decide) e⟩
theorem three_sorted {a b c : Nat} (h1 : a < b) (h2 : b < c) (h3 : c < 4040) : vv a ^^^ vv b ^^^ vv c ≠ 0#32 := by
  have e1 : vv a = stn a 1#32 := rfl
  have e2 : vv b = stn a (vv (b - a)) := by show stn b 1#32 = _; rw [show b = (b - a) + a by omega, stn_add]; simp [vv]
  have e3 : vv c = stn a (vv (c - a)) := by show stn c 1#32 = _; rw [show c = (c - a) + a by omega, stn_add]; simp [vv]
  rw [e1, e2, e3, ← stn_lin, ← stn_lin]
  refine stn_ne ?_
  intro e
  have := (two_ne (a := b - a) (b := c - a) (by omega) (by omega) (by omega)).1
  apply this
  rw [BitVec.xor_assoc] at e
  have e4 : 1#32 = 1#32 ^^^ (1#32 ^^^ (vv (b - a) ^^^ vv (c - a))) := by rw [e, BitVec.xor_zero]
  rw [← BitVec.xor_assoc, BitVec.xor_self, BitVec.zero_xor] at e4
  exact e4.symm
theorem vv_ne (m : Nat) : vv m ≠ 0#32 := stn_ne (by decide)
/-- One bit, or three, are found. -/
theorem three_ne {a b c : Nat} (ha : a < 4040) (hb : b < 4040) (hc : c < 4040) : vv a ^^^ vv b ^^^ vv c ≠ 0#32 := by
  by_cases h1 : a = b
  · subst h1; rw [BitVec.xor_self, BitVec.zero_xor]; exact vv_ne c
  by_cases h2 : b = c
  · subst h2; rw [BitVec.xor_assoc, BitVec.xor_self, BitVec.xor_zero]; exact vv_ne a
  by_cases h3 : a = c
  · subst h3; rw [BitVec.xor_comm (vv a), BitVec.xor_assoc, BitVec.xor_self, BitVec.xor_zero]; exact vv_ne b
  have p1 : ∀ x y z : W32, x ^^^ y ^^^ z = x ^^^ z ^^^ y := fun x y z => by rw [BitVec.xor_assoc, BitVec.xor_comm y, ← BitVec.xor_assoc]
  have p2 : ∀ x y z : W32, x ^^^ y ^^^ z = y ^^^ x ^^^ z := fun x y z => by rw [BitVec.xor_comm x]
  rcases Nat.lt_or_gt_of_ne h1 with g1 | g1 <;> rcases Nat.lt_or_gt_of_ne h2 with g2 | g2 <;> rcases Nat.lt_or_gt_of_ne h3 with g3 | g3
  · exact three_sorted g1 g2 hc
  · omega
  · rw [p1]; exact three_sorted g3 g2 hb
  · rw [p1, p2]; exact three_sorted g3 g1 hb
  · rw [p2]; exact three_sorted g1 g3 hc
  · rw [p2, p1]; exact three_sorted g2 g3 ha
  · omega
  · rw [p2, p1, p2]; exact three_sorted g2 g1 ha
end Go.Crc
