/- Bytes of which bits are turned; what is opened of them. -/
import Derived.Test.YtilbonambilebaaDoorSumZ
import Derived.Test.YtilbonambilebaaDoorSumF
namespace Go.Proofs.YtilbonambilebaaDoor
set_option linter.unusedVariables false
set_option linter.unusedSimpArgs false
open Go Go.Fw Go.Crc

theorem crc_ints {a b : List D} (s : W32) (h : ints a = ints b) : crc s a = crc s b := by
  have e : ∀ (l : List D) (s : W32), crc s l = (ints l).foldl (fun s n => st8 (s ^^^ BitVec.ofInt 32 n)) s := by
    intro l
    induction l with
    | nil => intro s; rfl
    | cons x l ih => intro s; rw [crc_cons, ih]; rfl
  rw [e, e, h]
theorem crc_same {a b : List D} (s : W32) (h : sameD a b = true) : crc s a = crc s b := crc_ints s (by simpa [sameD] using h)
theorem open_bad {t : List D} (h4 : ¬ t.length < 4) (h : crc 4294967295#32 t ≠ res4) : openD t = ([], .err 1) := by
  unfold openD
  rw [if_neg h4, if_neg]
  intro hs
  exact h (by rw [← crc_same _ hs, crc_seal])
theorem same_bad {t : List D} {l : List D} (h : crc 4294967295#32 t ≠ res4) : sameD t (sealD l) = false := by
  cases e : sameD t (sealD l)
  · rfl
  · exact absurd (by rw [crc_same _ e, crc_seal]) h

/-- All bytes. -/
def Rng (t : List D) : Prop := ∀ j, j < t.length → 0 ≤ (t.getD j .nil).i ∧ (t.getD j .nil).i ≤ 255
/-- One bit turned. -/
def flipD (t : List D) (m : Nat) : List D := t.set (m / 8) (.int (bitI .xor .u8 (t.getD (m / 8) .nil).i (IntKind.u8.wrap (1 * 2 ^ min (IntKind.u64.wrap ((m : Int).tmod 8)).toNat IntKind.u8.bits))))
theorem flip_len (t : List D) (m : Nat) : (flipD t m).length = t.length := by simp [flipD]
theorem mask8 (m : Nat) : IntKind.u8.wrap (1 * 2 ^ min (IntKind.u64.wrap ((m : Int).tmod 8)).toNat IntKind.u8.bits) = ((2 ^ (m % 8) : Nat) : Int) := by
  have e1 : (m : Int).tmod 8 = ((m % 8 : Nat) : Int) := by rw [Int.tmod_eq_emod_of_nonneg (by omega)]; omega
  have e2 : IntKind.u64.wrap ((m % 8 : Nat) : Int) = ((m % 8 : Nat) : Int) := wrap_self _ (by rw [min_u64, max_u64]; omega)
  rw [e1, e2]
  have e3 : ∀ r, r < 8 → IntKind.u8.wrap (1 * 2 ^ min ((r : Nat) : Int).toNat IntKind.u8.bits) = ((2 ^ r : Nat) : Int) := by decide
  exact e3 (m % 8) (by omega)
theorem flip_spec {t : List D} {m : Nat} (hm : m < 8 * t.length) (hr : Rng t) (s : W32) : Rng (flipD t m) ∧ crc s (flipD t m) = crc s t ^^^ vv (8 * t.length - m) := by
  have hj : m / 8 < t.length := by omega
  have hp : ∀ r, r < 8 → (0 : Int) ≤ ((2 ^ r : Nat) : Int) ∧ ((2 ^ r : Nat) : Int) ≤ 255 ∧ ofI ((2 ^ r : Nat) : Int) = 1#32 <<< r := by decide
  obtain ⟨p0, p1, p2⟩ := hp (m % 8) (by omega)
  obtain ⟨x1, x2, x3⟩ := xor8 (hr (m / 8) hj) ⟨p0, p1⟩
  unfold flipD
  rw [mask8]
  constructor
  · intro j hjl
    rw [List.length_set] at hjl
    rw [List.getD_eq_getElem?_getD, List.getElem?_set]
    split
    · first | exact ⟨x2, x3⟩ | (rw [if_pos (by omega)]; exact ⟨x2, x3⟩)
    · rw [← List.getD_eq_getElem?_getD]; exact hr j hjl
  · rw [crc_turn hj]
    congr 1
    have e : byt (.int (bitI .xor .u8 (t.getD (m / 8) .nil).i ((2 ^ (m % 8) : Nat) : Int))) ^^^ byt (t.getD (m / 8) .nil) = 1#32 <<< (m % 8) := by
      show ofI (bitI .xor .u8 (t.getD (m / 8) .nil).i ((2 ^ (m % 8) : Nat) : Int)) ^^^ ofI (t.getD (m / 8) .nil).i = _
      rw [x1, p2, BitVec.xor_comm (ofI _), BitVec.xor_assoc, BitVec.xor_self, BitVec.xor_zero]
    rw [e]
    unfold vv
    rw [← stn_bit' (m := 8 * (t.length - m / 8)) (by omega) (by omega)]
    congr 1
    omega
theorem bit_code {b : Int} (hb : 0 ≤ b ∧ b ≤ 4294967295) {i : Nat} (hi : i < 32) : (bitI .and .u32 (b.fdiv (2 ^ min (IntKind.u64.wrap (i : Int)).toNat IntKind.u32.bits)) 1 == 1) = (ofI b).getLsbD i := by
  have e1 : IntKind.u64.wrap (i : Int) = (i : Int) := wrap_self _ (by rw [min_u64, max_u64]; omega)
  have e2 : b = toI (ofI b) := (toI_ofI hb.1 hb.2).symm
  have e3 : (toI (ofI b)).fdiv (2 ^ min ((i : Int)).toNat IntKind.u32.bits) = toI (ofI b >>> i) := shr32 (ofI b) i (by omega)
  rw [e1]
  conv => lhs; rw [e2]
  rw [e3, and1]
  have h1 := and_one (ofI b >>> i)
  rw [h1]
  have e4 : (ofI b >>> i).getLsbD 0 = (ofI b).getLsbD i := by rw [BitVec.getLsbD_ushiftRight]; simp
  rw [e4]
  cases (ofI b).getLsbD i <;> simp [toI]

/-- So many bits of a burst are turned. -/
structure Burst (l : List D) (k : Nat) (b : W32) (i : Nat) (t : List D) : Prop where
  i32 : i ≤ 32
  ik : k + i ≤ 8 * (l.length + 4)
  len : t.length = l.length + 4
  rng : Rng t
  reg : crc 4294967295#32 t = res4 ^^^ stn (8 * (l.length + 4) - k) (wi b i)
  none : wi b i = 0#32 → t = sealD l
theorem Burst.flip {l : List D} {k : Nat} {b : W32} {i : Nat} {t : List D} (h : Burst l k b i t) (hi : i < 32) (hk : k + i < 8 * (l.length + 4)) (hb : b.getLsbD i = true) : Burst l k b (i + 1) (flipD t (k + i)) := by
  obtain ⟨r1, r2⟩ := flip_spec (m := k + i) (by rw [h.len]; omega) h.rng 4294967295#32
  refine ⟨by omega, by omega, by rw [flip_len, h.len], r1, ?_, fun hz => ?_⟩
  · rw [r2, h.reg, h.len]
    have : wi b (i + 1) = wi b i ^^^ (1#32 <<< i) := by simp [wi, hb]
    rw [this, stn_lin, BitVec.xor_assoc]
    congr 2
    unfold vv
    rw [← stn_bit' (m := 8 * (l.length + 4) - k) (k := i) (by omega) (by omega)]
    congr 1
    omega
  · have := (wi_zero hi hz).1
    rw [hb] at this; cases this
theorem Burst.skip {l : List D} {k : Nat} {b : W32} {i : Nat} {t : List D} (h : Burst l k b i t) (hi : i < 32) (hk : k + i < 8 * (l.length + 4)) (hb : b.getLsbD i = false) : Burst l k b (i + 1) t := by
  have : wi b (i + 1) = wi b i := by simp [wi, hb]
  exact ⟨by omega, by omega, h.len, h.rng, by rw [this]; exact h.reg, by rw [this]; exact h.none⟩
theorem Burst.law {l : List D} {k : Nat} {b : W32} {i : Nat} {t : List D} (h : Burst l k b i t) : (openD t = (l, .nil) ∧ sameD t (sealD l) = true) ∨ (openD t = ([], .err 1) ∧ sameD t (sealD l) = false) := by
  by_cases hz : wi b i = 0#32
  · left
    rw [h.none hz]
    exact ⟨open_seal l, sameD_refl _⟩
  · right
    have hne : crc 4294967295#32 t ≠ res4 := by
      rw [h.reg]
      intro e
      have e2 : res4 ^^^ (res4 ^^^ stn (8 * (l.length + 4) - k) (wi b i)) = res4 ^^^ res4 := by rw [e]
      rw [← BitVec.xor_assoc, BitVec.xor_self, BitVec.zero_xor] at e2
      exact stn_ne hz e2
    exact ⟨open_bad (by rw [h.len]; omega) hne, same_bad hne⟩
/-- So many of three bits are turned. -/
def xs3 (M : Nat) (ms : List Nat) : W32 := ms.foldl (fun s m => s ^^^ vv (M - m)) res4
structure Three (l : List D) (ms : List Nat) (i : Nat) (u : List D) : Prop where
  i3 : i ≤ 3
  len : u.length = l.length + 4
  rng : Rng u
  reg : crc 4294967295#32 u = xs3 (8 * (l.length + 4)) (ms.take i)
theorem Three.flip {l : List D} {ms : List Nat} {i : Nat} {u : List D} (h : Three l ms i u) (hms : ms.length = 3) (hi : i < 3) (hm : ms.getD i 0 < 8 * (l.length + 4)) : Three l ms (i + 1) (flipD u (ms.getD i 0)) := by
  obtain ⟨r1, r2⟩ := flip_spec (m := ms.getD i 0) (by rw [h.len]; omega) h.rng 4294967295#32
  refine ⟨by omega, by rw [flip_len, h.len], r1, ?_⟩
  rw [r2, h.reg, h.len]
  unfold xs3
  have : ms.take (i + 1) = ms.take i ++ [ms.getD i 0] := by
    rw [List.take_add_one, List.getElem?_eq_getElem (by omega), List.getD_eq_getElem?_getD, List.getElem?_eq_getElem (by omega)]; rfl
  rw [this, List.foldl_append]
  rfl
theorem Three.law {l : List D} {a b c : Nat} {u : List D} (h : Three l [a, b, c] 3 u) (hl : l.length ≤ 500) (ha : a < 8 * (l.length + 4)) (hb : b < 8 * (l.length + 4)) (hc : c < 8 * (l.length + 4)) : openD u = ([], .err 1) ∧ sameD u (sealD l) = false := by
  have hne : crc 4294967295#32 u ≠ res4 := by
    rw [h.reg]
    show res4 ^^^ vv _ ^^^ vv _ ^^^ vv _ ≠ res4
    intro e
    rw [BitVec.xor_assoc, BitVec.xor_assoc, ← BitVec.xor_assoc (vv _) (vv _) (vv _)] at e
    have e2 : ∀ x : W32, res4 ^^^ x = res4 → x = 0#32 := by
      intro x hx
      have : res4 ^^^ (res4 ^^^ x) = res4 ^^^ res4 := by rw [hx]
      rwa [← BitVec.xor_assoc, BitVec.xor_self, BitVec.zero_xor] at this
    exact three_ne (by omega) (by omega) (by omega) (e2 _ e)
  exact ⟨open_bad (by rw [h.len]; omega) hne, same_bad hne⟩
theorem seal_rng {l : List D} (h : Rng l) : Rng (sealD l) := by
  intro j hj
  rw [sealD_len] at hj
  unfold sealD
  by_cases h1 : j < l.length
  · rw [List.getD_eq_getElem?_getD, List.getElem?_append_left h1, ← List.getD_eq_getElem?_getD]; exact h j h1
  · rw [List.getD_eq_getElem?_getD, List.getElem?_append_right (by omega)]
    have w : ∀ n, 0 ≤ IntKind.u8.wrap n ∧ IntKind.u8.wrap n ≤ 255 := fun n => by rw [u8w]; omega
    obtain ⟨q, hq⟩ : ∃ q, q = j - l.length := ⟨_, rfl⟩
    rw [← hq]
    match q, (show q < 4 by omega) with
    | 0, _ => exact w _
    | 1, _ => exact w _
    | 2, _ => exact w _
    | 3, _ => exact w _
end Go.Proofs.YtilbonambilebaaDoor
