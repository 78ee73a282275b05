/- Chapter 1's sums in plain Lean: bits, the sum as a fold, its linearity, what it tells apart. -/
import Derived.Test.YtilbonambilebaaDoorFwX
namespace Go.Crc
set_option linter.unusedVariables false
set_option linter.unusedSimpArgs false
open Go Go.Fw

abbrev W32 := BitVec 32
def poly : W32 := 0xEDB88320#32
def st1 (x : W32) : W32 := (x >>> 1) ^^^ (-(x &&& 1#32) &&& poly)
def st4 (x : W32) : W32 := st1 (st1 (st1 (st1 x)))
def st8 (x : W32) : W32 := st4 (st4 x)
def byt (d : D) : W32 := BitVec.ofInt 32 d.i
def crc (s : W32) (l : List D) : W32 := l.foldl (fun s d => st8 (s ^^^ byt d)) s
def add (s : W32) (l : List D) : W32 := ~~~ crc (~~~ s) l

theorem and_one (x : W32) : x &&& 1#32 = if x.getLsbD 0 then 1#32 else 0#32 := by
  apply BitVec.eq_of_getLsbD_eq
  intro i hi
  cases h : x.getLsbD 0 with
  | true =>
    simp only [BitVec.getLsbD_and, BitVec.getLsbD_one, if_true]
    by_cases h0 : i = 0
    · subst h0; simp [h]
    · simp [h0]
  | false =>
    simp only [BitVec.getLsbD_and, BitVec.getLsbD_one, Bool.false_eq_true, if_false]
    by_cases h0 : i = 0
    · subst h0; rw [h]; simp
    · simp [h0]
theorem st1_if (x : W32) : st1 x = (x >>> 1) ^^^ (if x.getLsbD 0 then poly else 0#32) := by
  unfold st1
  rw [and_one]
  split
  · congr 1
  · congr 1
theorem st1_lin (a b : W32) : st1 (a ^^^ b) = st1 a ^^^ st1 b := by
  simp only [st1_if, BitVec.getLsbD_xor]
  apply BitVec.eq_of_getLsbD_eq
  intro i hi
  cases a.getLsbD 0 <;> cases b.getLsbD 0 <;> simp [BitVec.getLsbD_xor, BitVec.getLsbD_ushiftRight] <;>
    (cases a.getLsbD (1 + i) <;> cases b.getLsbD (1 + i) <;> cases poly.getLsbD i <;> rfl)
theorem st4_lin (a b : W32) : st4 (a ^^^ b) = st4 a ^^^ st4 b := by simp only [st4, st1_lin]
theorem st8_lin (a b : W32) : st8 (a ^^^ b) = st8 a ^^^ st8 b := by simp only [st8, st4_lin]
theorem st1_even {x : W32} (h : x.getLsbD 0 = false) : st1 x = x >>> 1 := by
  rw [st1_if, h]; simp
theorem st1_shl (s : W32) (k : Nat) (hk : k ≤ 3) : st1 ((s >>> 4) <<< (k + 1)) = (s >>> 4) <<< k := by
  rw [st1_even (by simp)]
  apply BitVec.eq_of_getLsbD_eq
  intro i hi
  simp only [BitVec.getLsbD_ushiftRight, BitVec.getLsbD_shiftLeft]
  by_cases h : i < k
  · have e1 : decide (1 + i < k + 1) = true := by simp; omega
    simp [h, e1]
  · have e1 : decide (1 + i < k + 1) = false := by simp; omega
    have e2 : 4 + (1 + i - (k + 1)) = 4 + (i - k) := by omega
    rw [e1, e2]
    by_cases h31 : i = 31
    · have e3 : s.getLsbD (4 + (i - k)) = false := BitVec.getLsbD_of_ge _ _ (by omega)
      rw [e3]; simp
    · have e3 : decide (1 + i < 32) = true := by simp; omega
      simp [e3, h, hi]
theorem st4_high (s : W32) : st4 ((s >>> 4) <<< 4) = s >>> 4 := by
  unfold st4
  rw [st1_shl s 3 (by omega), st1_shl s 2 (by omega), st1_shl s 1 (by omega), st1_shl s 0 (by omega), BitVec.shiftLeft_zero]
theorem split4 (s : W32) : s = ((s >>> 4) <<< 4) ^^^ (s &&& 15#32) := by
  apply BitVec.eq_of_getLsbD_eq
  intro i hi
  have h15 : ∀ i, (15#32).getLsbD i = decide (i < 4) := by
    intro i
    by_cases h : i < 32
    · revert i; decide
    · simp [BitVec.getLsbD_of_ge, show 32 ≤ i by omega]; omega
  simp only [BitVec.getLsbD_xor, BitVec.getLsbD_shiftLeft, BitVec.getLsbD_ushiftRight, BitVec.getLsbD_and, h15]
  by_cases h : i < 4
  · simp [h]
  · have : 4 + (i - 4) = i := by omega
    simp [h, this, hi]
theorem st4_tab (s : W32) : (s >>> 4) ^^^ st4 (s &&& 15#32) = st4 s := by
  conv => rhs; rw [split4 s, st4_lin, st4_high]

theorem st1_inj {a b : W32} (h : st1 a = st1 b) : a = b := by
  have hb : ∀ x : W32, (st1 x).getLsbD 31 = x.getLsbD 0 := by
    intro x
    rw [st1_if]
    cases h : x.getLsbD 0 <;> simp [BitVec.getLsbD_xor, BitVec.getLsbD_ushiftRight] <;> rfl
  have h0 : a.getLsbD 0 = b.getLsbD 0 := by rw [← hb a, ← hb b, h]
  rw [st1_if, st1_if, h0] at h
  have h1 : a >>> 1 = b >>> 1 := by
    have := congrArg (· ^^^ (if b.getLsbD 0 then poly else 0#32)) h
    simpa [BitVec.xor_assoc] using this
  apply BitVec.eq_of_getLsbD_eq
  intro i hi
  cases i with
  | zero => exact h0
  | succ i =>
    have := congrArg (fun x : W32 => x.getLsbD i) h1
    simpa [BitVec.getLsbD_ushiftRight, Nat.add_comm] using this
theorem st8_inj {a b : W32} (h : st8 a = st8 b) : a = b := by
  unfold st8 st4 at h
  exact st1_inj (st1_inj (st1_inj (st1_inj (st1_inj (st1_inj (st1_inj (st1_inj h)))))))

theorem xor_inj {a b c : W32} (h : a ^^^ c = b ^^^ c) : a = b := by
  have := congrArg (· ^^^ c) h
  simpa [BitVec.xor_assoc] using this
theorem xor_inj' {a b c : W32} (h : c ^^^ a = c ^^^ b) : a = b := by
  rw [BitVec.xor_comm c a, BitVec.xor_comm c b] at h
  exact xor_inj h
theorem crc_nil (s : W32) : crc s [] = s := rfl
theorem crc_cons (s : W32) (d : D) (l : List D) : crc s (d :: l) = crc (st8 (s ^^^ byt d)) l := rfl
theorem crc_app (s : W32) (a b : List D) : crc s (a ++ b) = crc (crc s a) b := by simp [crc, List.foldl_append]
theorem crc_inj {l : List D} : ∀ {s t : W32}, crc s l = crc t l → s = t := by
  induction l with
  | nil => intro s t h; exact h
  | cons d l ih => intro s t h; exact xor_inj (st8_inj (ih h))
theorem add_app (s : W32) (a b : List D) : add (add s a) b = add s (a ++ b) := by
  unfold add; rw [BitVec.not_not, crc_app]
theorem add_nil (s : W32) : add s [] = s := by simp [add, crc]

/-- A byte that is another one. -/
theorem crc_set {l : List D} {k : Nat} {d e : D} (hk : l[k]? = some d) {s : W32} : crc s (l.set k e) = crc s l ↔ byt e = byt d := by
  induction l generalizing k s with
  | nil => simp at hk
  | cons x l ih =>
    cases k with
    | zero =>
      simp at hk; subst hk
      simp only [List.set_cons_zero, crc_cons]
      constructor
      · intro h; exact xor_inj' (st8_inj (crc_inj h))
      · intro h; rw [h]
    | succ k =>
      simp only [List.set_cons_succ, crc_cons]
      exact ih (by simpa using hk)
theorem add_set {l : List D} {k : Nat} {d e : D} (hk : l[k]? = some d) {s : W32} : add s (l.set k e) = add s l ↔ byt e = byt d := by
  unfold add
  rw [← crc_set hk (s := ~~~ s)]
  constructor
  · intro h; have := congrArg (fun x : W32 => ~~~ x) h; simpa using this
  · intro h; rw [h]

theorem crc_lin3 {a b c : List D} (n : Nat) (ha : a.length = n) (hb : b.length = n) (hc : c.length = n) (x : List D) (hx : x.length = n) (h : ∀ i (hi : i < n), byt (x[i]'(by omega)) = byt (a[i]'(by omega)) ^^^ byt (b[i]'(by omega)) ^^^ byt (c[i]'(by omega)))
    (s t u : W32) : crc (s ^^^ t ^^^ u) x = crc s a ^^^ crc t b ^^^ crc u c := by
  induction n generalizing a b c x s t u with
  | zero =>
    have := List.eq_nil_of_length_eq_zero ha
    have := List.eq_nil_of_length_eq_zero hb
    have := List.eq_nil_of_length_eq_zero hc
    have := List.eq_nil_of_length_eq_zero hx
    subst_vars; rfl
  | succ n ih =>
    cases a with | nil => simp at ha | cons a0 a => ?_
    cases b with | nil => simp at hb | cons b0 b => ?_
    cases c with | nil => simp at hc | cons c0 c => ?_
    cases x with | nil => simp at hx | cons x0 x => ?_
    simp only [crc_cons]
    have h0 := h 0 (by omega)
    simp only [List.getElem_cons_zero] at h0
    have e : st8 (s ^^^ t ^^^ u ^^^ byt x0) = st8 (s ^^^ byt a0) ^^^ st8 (t ^^^ byt b0) ^^^ st8 (u ^^^ byt c0) := by
      rw [h0, ← st8_lin, ← st8_lin]
      congr 1
      ac_rfl
    rw [e]
    refine ih (by simpa using ha) (by simpa using hb) (by simpa using hc) x (by simpa using hx) (fun i hi => ?_) _ _ _
    have := h (i + 1) (by omega)
    simpa using this

/- On whole numbers. -/
def ofI (x : Int) : W32 := BitVec.ofInt 32 x
def toI (x : W32) : Int := (x.toNat : Int)
theorem ofI_toI (x : W32) : ofI (toI x) = x := by
  unfold ofI toI
  apply BitVec.eq_of_toNat_eq
  rw [BitVec.toNat_ofInt]
  have := x.isLt
  omega
theorem toI_lo (x : W32) : 0 ≤ toI x := by unfold toI; omega
theorem toI_hi (x : W32) : toI x ≤ 4294967295 := by unfold toI; have := x.isLt; omega
theorem toI_inj {x y : W32} (h : toI x = toI y) : x = y := by rw [← ofI_toI x, h, ofI_toI]
theorem toI_beq (x y : W32) : (toI x == toI y) = decide (x = y) := by
  by_cases h : x = y
  · subst h; simp
  · simp [h]; intro h'; exact h (toI_inj h')
theorem toI_ofI {n : Int} (h0 : 0 ≤ n) (h1 : n ≤ 4294967295) : toI (ofI n) = n := by
  unfold ofI toI; rw [BitVec.toNat_ofInt]; omega
theorem wrap32 (n : Int) : IntKind.u32.wrap n = toI (ofI n) := by
  unfold ofI toI
  rw [BitVec.toNat_ofInt]
  have : IntKind.u32.wrap n = n % 4294967296 := by
    simp [IntKind.wrap, IntKind.signed, IntKind.bits]
  rw [this]; omega
theorem xor32 (x y : Int) : bitI .xor .u32 x y = toI (ofI x ^^^ ofI y) := by
  show IntKind.u32.wrap _ = _
  rw [wrap32]; exact congrArg toI (ofI_toI _)
theorem and32 (x y : Int) : bitI .and .u32 x y = toI (ofI x &&& ofI y) := by
  show IntKind.u32.wrap _ = _
  rw [wrap32]; exact congrArg toI (ofI_toI _)
theorem shr32 (x : W32) (n : Nat) (hn : n ≤ 32) : (toI x).fdiv (2 ^ min n 32) = toI (x >>> n) := by
  unfold toI
  rw [BitVec.toNat_ushiftRight, Nat.shiftRight_eq_div_pow, Nat.min_eq_left hn]
  rw [Int.fdiv_eq_ediv_of_nonneg _ (Int.le_of_lt (Int.pow_pos (by omega)))]
  simp
theorem neg32 (x : W32) : IntKind.u32.wrap (0 - toI x) = toI (- x) := by
  rw [wrap32]
  congr 1
  have : ofI (0 - toI x) = - ofI (toI x) := by
    unfold ofI; rw [Int.zero_sub, BitVec.ofInt_neg]
  rw [this, ofI_toI]
theorem not32 (x : W32) : bitI .xor .u32 4294967295 (toI x) = toI (~~~ x) := by
  rw [xor32, ofI_toI]
  congr 1
theorem xor8 {x y : Int} (hx : 0 ≤ x ∧ x ≤ 255) (hy : 0 ≤ y ∧ y ≤ 255) : ofI (bitI .xor .u8 x y) = ofI x ^^^ ofI y ∧ 0 ≤ bitI .xor .u8 x y ∧ bitI .xor .u8 x y ≤ 255 := by
  obtain ⟨m, rfl⟩ : ∃ m : Nat, x = m := ⟨x.toNat, by omega⟩
  obtain ⟨n, rfl⟩ : ∃ n : Nat, y = n := ⟨y.toNat, by omega⟩
  have e : bitI .xor .u8 m n = ((m ^^^ n : Nat) : Int) := by
    show IntKind.u8.wrap _ = _
    have h1 : (BitVec.ofInt 8 (m : Int) ^^^ BitVec.ofInt 8 (n : Int)).toNat = m ^^^ n := by
      rw [BitVec.toNat_xor, BitVec.toNat_ofInt, BitVec.toNat_ofInt]
      congr 1 <;> omega
    have h2 : m ^^^ n < 2 ^ 8 := Nat.xor_lt_two_pow (by omega) (by omega)
    show IntKind.u8.wrap ((BitVec.ofInt 8 (m : Int) ^^^ BitVec.ofInt 8 (n : Int)).toNat : Int) = _
    rw [h1]
    simp [IntKind.wrap, IntKind.signed, IntKind.bits]
    try omega
  have h2 : m ^^^ n < 2 ^ 8 := Nat.xor_lt_two_pow (by omega) (by omega)
  rw [e]
  refine ⟨?_, by omega, by omega⟩
  apply BitVec.eq_of_toNat_eq
  unfold ofI
  rw [BitVec.toNat_xor, BitVec.toNat_ofInt, BitVec.toNat_ofInt, BitVec.toNat_ofInt]
  show (((m ^^^ n : Nat) : Int) % 4294967296).toNat = ((m : Int) % 4294967296).toNat ^^^ ((n : Int) % 4294967296).toNat
  have e1 : (((m ^^^ n : Nat) : Int) % 4294967296).toNat = m ^^^ n := by omega
  have e2 : ((m : Int) % 4294967296).toNat = m := by omega
  have e3 : ((n : Int) % 4294967296).toNat = n := by omega
  rw [e1, e2, e3]
theorem xor8_zero {x y : Int} (hx : 0 ≤ x ∧ x ≤ 255) (hy : 0 ≤ y ∧ y ≤ 255) : ofI (bitI .xor .u8 x y) = ofI x ↔ y = 0 := by
  rw [(xor8 hx hy).1]
  constructor
  · intro h
    have : ofI y = ofI 0 := by
      apply xor_inj' (c := ofI x)
      rw [h]
      show ofI x = ofI x ^^^ 0#32
      simp
    have := congrArg toI this
    rw [toI_ofI (by omega) (by omega), toI_ofI (by omega) (by omega)] at this
    exact this
  · intro h; subst h
    show ofI x ^^^ 0#32 = _
    simp
def stn : Nat → W32 → W32
  | 0, x => x
  | n + 1, x => st1 (stn n x)
theorem wrapNat (i : Nat) : IntKind.u32.wrap (i : Int) = toI (BitVec.ofNat 32 i) := by
  rw [wrap32]; congr 1
theorem st1_code (x : W32) : bitI .xor .u32 ((toI x).fdiv (2 ^ min (Int.toNat 1) IntKind.u32.bits)) (bitI .and .u32 (IntKind.u32.wrap (0 - bitI .and .u32 (toI x) 1)) 3988292384) = toI (st1 x) := by
  have e1 : (toI x).fdiv (2 ^ min (Int.toNat 1) IntKind.u32.bits) = toI (x >>> 1) := shr32 x 1 (by omega)
  rw [e1, and32 (toI x), ofI_toI, neg32, and32, ofI_toI, xor32, ofI_toI, ofI_toI]
  rfl
theorem st4_code (x : W32) (t : Int) (ht : t = toI (st4 (x &&& 15#32))) : bitI .xor .u32 ((toI x).fdiv (2 ^ min (Int.toNat 4) IntKind.u32.bits)) t = toI (st4 x) := by
  have e1 : (toI x).fdiv (2 ^ min (Int.toNat 4) IntKind.u32.bits) = toI (x >>> 4) := shr32 x 4 (by omega)
  rw [e1, ht, xor32, ofI_toI, ofI_toI, st4_tab]
theorem and15 (x : W32) : bitI .and .u32 (toI x) 15 = toI (x &&& 15#32) := by
  rw [and32, ofI_toI]; rfl
theorem st4_code' (x : W32) : bitI .xor .u32 ((toI x).fdiv (2 ^ min (Int.toNat 4) IntKind.u32.bits)) (toI (st4 (x &&& 15#32))) = toI (st4 x) := st4_code x _ rfl
theorem xorw (x : W32) (n : Int) : bitI .xor .u32 (toI x) (IntKind.u32.wrap n) = toI (x ^^^ BitVec.ofInt 32 n) := by
  rw [wrap32, xor32, ofI_toI, ofI_toI]; rfl
theorem and15_lt (x : W32) : (x &&& 15#32).toNat < 16 := by
  rw [BitVec.toNat_and]
  exact Nat.lt_of_le_of_lt Nat.and_le_right (by decide)
theorem steps_law {l : List D} {k : Nat} {by_ : Int} (hk : k < l.length) (hr : 0 ≤ (l.getD k .nil).i ∧ (l.getD k .nil).i ≤ 255) (hb : 0 ≤ by_ ∧ by_ ≤ 255) :
    ((toI (add 0#32 (l.set k (.int (bitI .xor .u8 (l.getD k .nil).i by_)))) == toI (add 0#32 l)) == (by_ == 0)) = true := by
  have hx : l[k]? = some (l.getD k .nil) := by rw [List.getD_eq_getElem?_getD, List.getElem?_eq_getElem hk]; rfl
  have h1 := add_set (s := 0#32) (e := .int (bitI .xor .u8 (l.getD k .nil).i by_)) hx
  have h2 : byt (.int (bitI .xor .u8 (l.getD k .nil).i by_)) = byt (l.getD k .nil) ↔ by_ = 0 := xor8_zero hr hb
  rw [h2] at h1
  rw [toI_beq, beq_iff_eq]
  by_cases h : by_ = 0
  · subst h; rw [decide_eq_true (h1.2 rfl)]; rfl
  · rw [decide_eq_false (mt h1.1 h), show (by_ == 0) = false by simpa using h]
end Go.Crc
