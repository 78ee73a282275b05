/- The frame-work, part G: the machine does what 'ev' says: operations on values. -/
import Derived.Test.YtnpjmmimlhgipaaDoorFwF
namespace Go.Fw
set_option linter.unusedVariables false
set_option linter.unusedSimpArgs false
open Go

section
variable {P : Program} {E : Nat → Value}

theorem wrap_range (k : IntKind) (n : Int) : k.min ≤ k.wrap n ∧ k.wrap n ≤ k.max := by
  cases k <;> simp only [IntKind.min, IntKind.max, IntKind.wrap, IntKind.signed, IntKind.bits] <;> simp <;> (try split) <;> omega
theorem wrap_self (k : IntKind) {n : Int} (h : k.min ≤ n ∧ n ≤ k.max) : k.wrap n = n := by
  obtain ⟨h1, h2⟩ := h
  cases k <;> simp only [IntKind.min, IntKind.max, IntKind.wrap, IntKind.signed, IntKind.bits] at h1 h2 ⊢ <;> simp at h1 h2 ⊢ <;> (try split) <;> omega
theorem bitI_range (op : BinOp) (k : IntKind) (x y : Int) : k.min ≤ bitI op k x y ∧ bitI op k x y ≤ k.max := by
  unfold bitI
  split <;> exact wrap_range _ _

theorem min_le_zero (k : IntKind) : k.min ≤ 0 := by cases k <;> simp [IntKind.min, IntKind.signed, IntKind.bits]
theorem tmod_range (k : IntKind) {a : Int} (h : k.min ≤ a ∧ a ≤ k.max) (b : Int) : k.min ≤ a.tmod b ∧ a.tmod b ≤ k.max := by
  have h1 := Int.natAbs_tmod a b
  have h2 := Nat.mod_le a.natAbs b.natAbs
  have h3 := min_le_zero k
  have h0 : 0 ≤ k.max := by cases k <;> simp [IntKind.max, IntKind.signed, IntKind.bits]
  rcases Int.le_total 0 a with ha | ha
  · have := Int.tmod_nonneg b ha
    omega
  · have := Int.tmod_nonneg b (a := -a) (by omega)
    rw [Int.neg_tmod] at this
    omega
theorem fdiv_range (k : IntKind) {a : Int} (h : k.min ≤ a ∧ a ≤ k.max) (n : Nat) : k.min ≤ a.fdiv (2 ^ n) ∧ a.fdiv (2 ^ n) ≤ k.max := by
  have hp : (0 : Int) < 2 ^ n := by exact_mod_cast Nat.two_pow_pos n
  have h3 := min_le_zero k
  have h0 : 0 ≤ k.max := by cases k <;> simp [IntKind.max, IntKind.signed, IntKind.bits]
  rw [Int.fdiv_eq_ediv_of_nonneg _ (by omega)]
  rcases Int.le_total 0 a with ha | ha
  · have h1 := Int.ediv_nonneg ha (by omega : (0 : Int) ≤ 2 ^ n)
    have h2 := Int.ediv_le_self (2 ^ n) ha
    omega
  · have h1 : a ≤ a / 2 ^ n := by
      refine (Int.le_ediv_iff_mul_le hp).2 ?_
      have : a * 2 ^ n ≤ a * 1 := Int.mul_le_mul_of_nonpos_left ha (by omega)
      omega
    have h2 : a / 2 ^ n ≤ 0 := by
      have := Int.ediv_le_ediv hp ha
      simpa using this
    omega

def constSV : Value → Option SV
  | .int k n => if k.min ≤ n ∧ n ≤ k.max then some (.int k n) else none
  | .bool b => some (.bool b)
  | .string s => if s.size ≤ 65536 then some (.str s) else none
  | .nilIface => some (.dat .iface .nil)
  | .slice none 0 0 => some .nils
  | .pointer none => some (.raw (.pointer none))
  | .nilFunc => some (.raw .nilFunc)
  | _ => none
theorem constSV_den {v : Value} {x : SV} (h : constSV v = some x) (ρ : Nat → Value) (H : FH) : Den P E ρ H x v ∧ ∀ n, x.lt n := by
  unfold constSV at h
  split at h
  · split at h
    · cases h; exact ⟨.int ‹_›, fun _ => trivial⟩
    · cases h
  · cases h; exact ⟨.bool, fun _ => trivial⟩
  · split at h
    · cases h; exact ⟨.str (by unfold maxLen; omega), fun _ => trivial⟩
    · cases h
  · cases h; exact ⟨.dat rfl .inil, fun _ => trivial⟩
  · cases h; exact ⟨.nils, fun _ => trivial⟩
  · cases h; exact ⟨.raw rfl, fun _ => trivial⟩
  · cases h; exact ⟨.raw rfl, fun _ => trivial⟩
  · cases h

def cOpd : Operand → Option Opd
  | .tmp n => some (.s n)
  | .const v => (constSV v).map .c
  | .func f => some (.c (.clo f []))
  | .global _ => none

theorem Sat.opd {c : Ctx} {ρ : Nat → Value} {H : FH} {S : SSt} {a : Act} {w : World} (s : Sat P E c ρ H S a w) {x : Operand} {x' : Opd} (h : cOpd x = some x') : Den P E ρ H (oget x' S.f) (a.eval x) ∧ (oget x' S.f).lt S.nx := by
  cases x with
  | tmp n => simp only [cOpd] at h; cases h; exact ⟨s.fr n, s.flt n⟩
  | const v =>
    simp only [cOpd, Option.map_eq_some_iff] at h
    obtain ⟨y, h1, rfl⟩ := h
    have := constSV_den (P := P) (E := E) h1 ρ H
    exact ⟨this.1, this.2 _⟩
  | func f => simp only [cOpd] at h; cases h; exact ⟨.clo .nil, trivial⟩
  | global g => simp [cOpd] at h

/-- One operation that hands back a value. -/
theorem wp_value {o : Oper} {a : Act} {w w' : World} {v : Value} {d : Nat} {K : Act → World → Prop} {Q : Exit → Act → World → Prop} (h : (execOp a.eval o).run P w = .ok (.value v) w') (hd : o.dst = some d) (hK : K (a.put (some d) v) w') : o.wp P a w K Q := by
  simp only [Oper.wp, h, Oper.upon, hd]
  exact hK
theorem wp_skipped {o : Oper} {a : Act} {w w' : World} {K : Act → World → Prop} {Q : Exit → Act → World → Prop} (h : (execOp a.eval o).run P w = .ok .skip w') (hd : o.dst = none) (hK : K a w') : o.wp P a w K Q := by
  simp only [Oper.wp, h, Oper.upon, hd]
  exact hK

theorem run_mov (a : Act) (o : Oper) (x : Operand) (w : World) (ho : o.op = .move x ∨ o.op = .assign x) : (execOp a.eval o).run P w = .ok (.value (a.eval x)) w := by
  rcases ho with ho | ho <;> simp [execOp, ho, Sem.run, pure]

theorem run_v (s : Sem Value) (w w' : World) (v : Value) (h : s.run P w = .ok v w') : (do pure (Next.value (← s)) : Sem Next).run P w = .ok (.value v) w' := by
  simp [Sem.run_bind, h, Sem.run, pure]

theorem run_bin {op : BinOp} {k : IntKind} {x y : SV} {p : Prop} {v : SV} (h : evBin op k x y = some (p, v)) (hp : p) {ρ : Nat → Value} {H : FH} {vx vy : Value} (hx : Den P E ρ H x vx) (hy : Den P E ρ H y vy) (t : TypeId) (w : World) :
    ∃ u, (binOp op t vx vy).run P w = .ok u w ∧ Den P E ρ H v u ∧ (∀ n, v.lt n) ∧ (∃ k n, vx = .int k n) := by
  unfold evBin at h
  split at h
  · rename_i k1 a k2 b
    split at h
    · rename_i hk; obtain ⟨rfl, rfl⟩ := hk
      cases hx with | int h1 => cases hy with | int h2 =>
      split at h <;> cases h
      · exact ⟨_, by simp [binOp, Op.intArith, Sem.run, pure, wrap_self _ hp], .int hp, fun _ => trivial, _, _, rfl⟩
      · exact ⟨_, by simp [binOp, Op.intArith, Sem.run, pure, wrap_self _ hp], .int hp, fun _ => trivial, _, _, rfl⟩
      · exact ⟨_, by simp [binOp, Op.intArith, Sem.run, pure, wrap_self _ hp], .int hp, fun _ => trivial, _, _, rfl⟩
      · exact ⟨_, by simp [binOp, Op.intDiv, Sem.run, pure, hp.1, wrap_self _ hp.2], .int hp.2, fun _ => trivial, _, _, rfl⟩
      · refine ⟨_, by simp [binOp, Op.intDiv, Sem.run, pure, hp], .int ?_, fun _ => trivial, _, _, rfl⟩
        exact tmod_range _ h1 _
      · exact ⟨_, by simp [binOp, Op.intBits, Sem.run, pure, bitI], .int (bitI_range _ _ _ _), fun _ => trivial, _, _, rfl⟩
      · exact ⟨_, by simp [binOp, Op.intBits, Sem.run, pure, bitI], .int (bitI_range _ _ _ _), fun _ => trivial, _, _, rfl⟩
      · exact ⟨_, by simp [binOp, Op.intBits, Sem.run, pure, bitI], .int (bitI_range _ _ _ _), fun _ => trivial, _, _, rfl⟩
      · exact ⟨_, by simp [binOp, Op.intBits, Sem.run, pure, bitI], .int (bitI_range _ _ _ _), fun _ => trivial, _, _, rfl⟩
    · cases h
  · cases h

theorem run_wrp {op : BinOp} {k : IntKind} {x y : SV} {p : Prop} {v : SV} (h : evWrp op k x y = some (p, v)) {ρ : Nat → Value} {H : FH} {vx vy : Value} (hx : Den P E ρ H x vx) (hy : Den P E ρ H y vy) (t : TypeId) (w : World) :
    ∃ u, (binOp op t vx vy).run P w = .ok u w ∧ Den P E ρ H v u ∧ (∀ n, v.lt n) ∧ (∃ k n, vx = .int k n) := by
  unfold evWrp at h
  split at h
  · rename_i k1 a k2 b
    split at h
    · rename_i hk; obtain ⟨rfl, rfl⟩ := hk
      cases hx with | int h1 => cases hy with | int h2 =>
      split at h <;> cases h
      all_goals exact ⟨_, by simp [binOp, Op.intArith, Sem.run, pure], .int (wrap_range _ _), fun _ => trivial, _, _, rfl⟩
    · cases h
  · cases h

theorem run_shf {op : BinOp} {k : IntKind} {x y : SV} {p : Prop} {v : SV} (h : evShf op k x y = some (p, v)) (hp : p) {ρ : Nat → Value} {H : FH} {vx vy : Value} (hx : Den P E ρ H x vx) (hy : Den P E ρ H y vy) (t : TypeId) (w : World) :
    ∃ u, (binOp op t vx vy).run P w = .ok u w ∧ Den P E ρ H v u ∧ (∀ n, v.lt n) ∧ (∃ k n, vx = .int k n) := by
  unfold evShf at h
  split at h
  · rename_i k1 a k2 b
    split at h
    · rename_i hk; subst hk
      cases hx with | int h1 => cases hy with | int h2 =>
      split at h <;> cases h
      · exact ⟨_, by simp [binOp, Op.shift, Sem.run, pure, Int.not_lt.2 hp], .int (wrap_range _ _), fun _ => trivial, _, _, rfl⟩
      · exact ⟨_, by simp [binOp, Op.shift, Sem.run, pure, Int.not_lt.2 hp], .int (fdiv_range _ h1 _), fun _ => trivial, _, _, rfl⟩
    · cases h
  · cases h

theorem run_cmp {op : BinOp} {x y : SV} {p : Prop} {v : SV} (h : evCmp op x y = some (p, v)) {ρ : Nat → Value} {H : FH} {vx vy : Value} (hx : Den P E ρ H x vx) (hy : Den P E ρ H y vy) (t : TypeId) (w : World) :
    ∃ u, (binOp op t vx vy).run P w = .ok u w ∧ Den P E ρ H v u ∧ (∀ n, v.lt n) ∧ (∃ k n, vx = .int k n) := by
  unfold evCmp at h
  split at h
  · rename_i k1 a k2 b
    split at h
    · rename_i hk; subst hk
      cases hx with | int h1 => cases hy with | int h2 =>
      split at h <;> cases h
      all_goals exact ⟨_, by simp [binOp, Op.intCmp, Sem.run, pure] <;> rfl, .bool, fun _ => trivial, _, _, rfl⟩
    · cases h
  · cases h

theorem run_una {op : UnOp} {x : SV} {p : Prop} {v : SV} (h : evUna op x = some (p, v)) {ρ : Nat → Value} {H : FH} {vx : Value} (hx : Den P E ρ H x vx) (w : World) :
    ∃ u, (Op.unary op vx).run P w = .ok u w ∧ Den P E ρ H v u ∧ (∀ n, v.lt n) := by
  unfold evUna at h
  split at h
  · cases h
    cases hx with | int h1 =>
    exact ⟨_, by simp [Op.unary, Op.intArith, Sem.run, pure], .int (wrap_range _ _), fun _ => trivial⟩
  · cases h
    cases hx with | int h1 =>
    exact ⟨_, by simp [Op.unary, Op.intBits, Sem.run, pure, bitI], .int (bitI_range _ _ _ _), fun _ => trivial⟩
  · cases h
    cases hx with | bool =>
    exact ⟨_, by simp [Op.unary, Sem.run, pure], .bool, fun _ => trivial⟩
  · cases h

/-- An operation on two values of which the first is a whole number passes the guard on equality. -/
theorem run_binop_int {a : Act} {o : Oper} {op : BinOp} {t t' : TypeId} {x y : Operand} (ho : o.op = .binOp op t x y t') {w : World} {u : Value} (hi : ∃ k n, a.eval x = .int k n) (h : (binOp op t (a.eval x) (a.eval y)).run P w = .ok u w) :
    (execOp a.eval o).run P w = .ok (.value u) w := by
  obtain ⟨k, n, hi⟩ := hi
  simp only [execOp, ho]
  refine run_v _ w w u ?_
  rw [hi] at h ⊢
  simp only [Sem.run_bind]
  have hg : (eqGuard op t x y (.int k n) (a.eval y)).run P w = .ok () w := by
    unfold eqGuard
    split <;> first | rfl | (split <;> rfl)
  rw [hg]
  exact h
end
end Go.Fw
