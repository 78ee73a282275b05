/- The frame-work, part R: each of the machine's operations does what 'ev' says. -/
import Derived.Test.YtnpjmmimlhgipaaDoorFwP
namespace Go.Fw
set_option linter.unusedVariables false
set_option linter.unusedSimpArgs false
open Go

section
variable {P : Program} {E : Nat → Value}

theorem sput_some {S S' : SSt} {d : Nat} {r : Option (Prop × SV)} {p : Prop} (h : sput S d r = some (p, S')) : ∃ v, r = some (p, v) ∧ S' = S.put d v := by
  unfold sput at h
  split at h
  · cases h; exact ⟨_, rfl, rfl⟩
  · cases h

/-- A value is told, and put. -/
theorem put_sound {c : Ctx} {ρ : Nat → Value} {H : FH} {S : SSt} {a : Act} {w : World} (s : Sat P E c ρ H S a w) {o : Oper} {d : Nat} (hd : o.dst = some d) (hdN : d < c.N) {x : SV} {K : Act → World → Prop} {Q : Exit → Act → World → Prop}
    (hK : ∀ ρ' H' a' w', Sat P E c ρ' H' (S.put d x) a' w' → K a' w') (h : ∃ u, (execOp a.eval o).run P w = .ok (.value u) w ∧ Den P E ρ H x u ∧ x.lt S.nx) : o.wp P a w K Q := by
  obtain ⟨u, h1, h2, h3⟩ := h
  exact wp_value h1 hd (hK _ _ _ _ (s.put h2 h3 hdN))

theorem eqIn_bool (d : Nat) (t : TypeId) (hu : P.underlying t = some .bool) (a b : Bool) (w : World) : (Op.equalIn (d + 1) t (.bool a) (.bool b)).run P w = .ok (a == b) w := by
  simp [Op.equalIn, Sem.run_bind, run_underlying hu, Sem.run, pure]
theorem eqIn_iface (d : Nat) (t : TypeId) {ms : Array (String × TypeId)} (hu : P.underlying t = some (.interface ms)) (v : Value) (b : Bool) (hv : (v = .nilIface ∧ b = true) ∨ (∃ t x, v = .iface t x) ∧ b = false) (w : World) : (Op.equalIn (d + 1) t v .nilIface).run P w = .ok b w := by
  rcases hv with ⟨rfl, rfl⟩ | ⟨⟨t', x, rfl⟩, rfl⟩ <;> simp [Op.equalIn, Sem.run_bind, run_underlying hu, Sem.run, pure]
theorem eqIn_ptr (d : Nat) (t : TypeId) {e : TypeId} (hu : P.underlying t = some (.pointer e)) (a : Option Addr) (w : World) : (Op.equalIn (d + 1) t (.pointer a) (.pointer none)).run P w = .ok a.isNone w := by
  cases a <;> simp [Op.equalIn, Sem.run_bind, run_underlying hu, Sem.run, pure]
theorem eqIn_slice (d : Nat) (t : TypeId) {e : TypeId} (hu : P.underlying t = some (.slice e)) (w : World) : (Op.equalIn (d + 1) t (.slice none 0 0) (.slice none 0 0)).run P w = .ok true w := by
  simp [Op.equalIn, Sem.run_bind, run_underlying hu, Sem.run, pure]
theorem equal_in (t : TypeId) (x y : Value) : Op.equal t x y = Op.equalIn (9999 + 1) t x y := rfl
theorem run_bool_eq (t : TypeId) (hu : P.underlying t = some .bool) (a b : Bool) (w : World) : (Op.equal t (.bool a) (.bool b)).run P w = .ok (a == b) w := by rw [equal_in]; exact eqIn_bool _ t hu a b w
theorem run_iface_eq (t : TypeId) {ms : Array (String × TypeId)} (hu : P.underlying t = some (.interface ms)) (v : Value) (b : Bool) (hv : (v = .nilIface ∧ b = true) ∨ (∃ t x, v = .iface t x) ∧ b = false) (w : World) : (Op.equal t v .nilIface).run P w = .ok b w := by rw [equal_in]; exact eqIn_iface _ t hu v b hv w
theorem run_ptr_eq (t : TypeId) {e : TypeId} (hu : P.underlying t = some (.pointer e)) (a : Option Addr) (w : World) : (Op.equal t (.pointer a) (.pointer none)).run P w = .ok a.isNone w := by rw [equal_in]; exact eqIn_ptr _ t hu a w
theorem run_slice_eq (t : TypeId) {e : TypeId} (hu : P.underlying t = some (.slice e)) (w : World) : (Op.equal t (.slice none 0 0) (.slice none 0 0)).run P w = .ok true w := by rw [equal_in]; exact eqIn_slice _ t hu w

theorem run_eqop {a : Act} {o : Oper} {op : BinOp} {t t' : TypeId} {x y : Operand} (ho : o.op = .binOp op t x y t') {w : World} {b : Bool} (hop : op = .eql ∨ op = .neq)
    (hc : (∃ v, y = .const v) ∨ (∃ b, a.eval x = .bool b)) (hna : ∀ cs, a.eval x ≠ .agg cs) (hni : ∀ k n, a.eval x ≠ .int k n) (hnf : ∀ k n, a.eval x ≠ .float k n) (hnc : ∀ k n m, a.eval x ≠ .complex k n m) (hns : ∀ s, a.eval x ≠ .string s)
    (h : (Op.equal t (a.eval x) (a.eval y)).run P w = .ok b w) :
    (execOp a.eval o).run P w = .ok (.value (.bool (if op == .neq then !b else b))) w := by
  simp only [execOp, ho]
  refine run_v _ w w _ ?_
  simp only [Sem.run_bind]
  have hg : (eqGuard op t x y (a.eval x) (a.eval y)).run P w = .ok () w := by
    unfold eqGuard
    rcases hop with rfl | rfl
    all_goals
      simp only [Bool.not_true, Bool.false_eq_true, if_false]
      split
      · rcases hc with ⟨v, rfl⟩ | ⟨b, hb⟩
        · simp [Sem.run, pure]
        · simp_all
      · rename_i h1 _; exact absurd h1 (hna _)
      · rfl
  rw [hg]
  simp only [Result.andThen_ok]
  generalize a.eval x = vx at *
  generalize a.eval y = vy at *
  rcases hop with rfl | rfl
  · cases vx <;> first | (exact absurd rfl (hni _ _)) | (exact absurd rfl (hnf _ _)) | (exact absurd rfl (hnc _ _ _)) | (exact absurd rfl (hns _)) | (cases vy <;> simp [binOp, Sem.run_bind, h, Sem.run, pure])
  · cases vx <;> first | (exact absurd rfl (hni _ _)) | (exact absurd rfl (hnf _ _)) | (exact absurd rfl (hnc _ _ _)) | (exact absurd rfl (hns _)) | (cases vy <;> simp [binOp, Sem.run_bind, h, Sem.run, pure])

/-- What is asked of the errors that are known. -/
def Errs (E : Nat → Value) : Prop := ∀ k, ∃ t x, E k = .iface t x
theorem Errs.one (h : Errs E) (k : Nat) : (E k).oneCell' = true := by obtain ⟨t, x, e⟩ := h k; rw [e]; rfl

theorem nil_sound (hE : Errs E) {ρ : Nat → Value} {H : FH} {a : Act} {w : World} {o : Oper} {op : BinOp} {t t' : TypeId} {x0 y0 : Operand} (ho : o.op = .binOp op t x0 y0 t') (hop : op = .eql ∨ op = .neq) {kind : Nat} {x : SV} {b : Bool}
    (hk : (kind = 0 ∧ y0 = .const .nilIface ∧ ∃ ms, P.underlying t = some (.interface ms)) ∨ (kind = 1 ∧ y0 = .const (.pointer none) ∧ ∃ e, P.underlying t = some (.pointer e)) ∨ (kind = 2 ∧ y0 = .const (.slice none 0 0) ∧ ∃ e, P.underlying t = some (.slice e)))
    (h : evNil kind x = some b) (hx : Den P E ρ H x (a.eval x0)) : (execOp a.eval o).run P w = .ok (.value (.bool (if op == .neq then !b else b))) w := by
  have key : ∀ vx, a.eval x0 = vx → (∀ cs, vx ≠ .agg cs) → (∀ k n, vx ≠ .int k n) → (∀ k n, vx ≠ .float k n) → (∀ k n m, vx ≠ .complex k n m) → (∀ s, vx ≠ .string s) → (∃ v, y0 = .const v) → (Op.equal t vx (a.eval y0)).run P w = .ok b w →
      (execOp a.eval o).run P w = .ok (.value (.bool (if op == .neq then !b else b))) w := by
    intro vx hv h1 h2 h3 h4 h5 h6 h7
    subst hv
    exact run_eqop ho hop (.inl h6) h1 h2 h3 h4 h5 h7
  unfold evNil at h
  split at h
  · cases h
    rcases hk with ⟨_, rfl, ms, hu⟩ | ⟨h0, _⟩ | ⟨h0, _⟩
    · generalize hv : a.eval x0 = vx at hx
      cases hx with | dat _ hr =>
      cases hr with
      | inil => exact key _ hv (by simp) (by simp) (by simp) (by simp) (by simp) ⟨_, rfl⟩ (run_iface_eq t hu _ _ (.inl ⟨rfl, rfl⟩) w)
      | err =>
        rename_i k
        obtain ⟨t1, x1, e1⟩ := hE k
        rw [e1] at hv
        exact key _ hv (by simp) (by simp) (by simp) (by simp) (by simp) ⟨_, rfl⟩ (run_iface_eq t hu _ _ (.inr ⟨⟨_, _, rfl⟩, rfl⟩) w)
      | ifc _ => exact key _ hv (by simp) (by simp) (by simp) (by simp) (by simp) ⟨_, rfl⟩ (run_iface_eq t hu _ _ (.inr ⟨⟨_, _, rfl⟩, rfl⟩) w)
    · cases h0
    · cases h0
  · cases h
    rcases hk with ⟨_, rfl, ms, hu⟩ | ⟨h0, _⟩ | ⟨h0, _⟩
    · generalize hv : a.eval x0 = vx at hx
      cases hx with | ifc _ =>
      exact key _ hv (by simp) (by simp) (by simp) (by simp) (by simp) ⟨_, rfl⟩ (run_iface_eq t hu _ _ (.inr ⟨⟨_, _, rfl⟩, rfl⟩) w)
    · cases h0
    · cases h0
  · cases h
    rcases hk with ⟨h0, _⟩ | ⟨_, rfl, e, hu⟩ | ⟨h0, _⟩
    · cases h0
    · generalize hv : a.eval x0 = vx at hx
      cases hx with | dat _ hr =>
      cases hr with
      | pnil => exact key _ hv (by simp) (by simp) (by simp) (by simp) (by simp) ⟨_, rfl⟩ (run_ptr_eq t hu _ w)
      | ptr _ _ _ => exact key _ hv (by simp) (by simp) (by simp) (by simp) (by simp) ⟨_, rfl⟩ (run_ptr_eq t hu _ w)
    · cases h0
  · cases h
    rcases hk with ⟨h0, _⟩ | ⟨_, rfl, e, hu⟩ | ⟨h0, _⟩
    · cases h0
    · generalize hv : a.eval x0 = vx at hx
      cases hx with | ptr _ =>
      exact key _ hv (by simp) (by simp) (by simp) (by simp) (by simp) ⟨_, rfl⟩ (run_ptr_eq t hu _ w)
    · cases h0
  · cases h
    rcases hk with ⟨h0, _⟩ | ⟨_, rfl, e, hu⟩ | ⟨h0, _⟩
    · cases h0
    · generalize hv : a.eval x0 = vx at hx
      cases hx with | elt _ _ _ =>
      exact key _ hv (by simp) (by simp) (by simp) (by simp) (by simp) ⟨_, rfl⟩ (run_ptr_eq t hu _ w)
    · cases h0
  · cases h
    rcases hk with ⟨h0, _⟩ | ⟨_, rfl, e, hu⟩ | ⟨h0, _⟩
    · cases h0
    · generalize hv : a.eval x0 = vx at hx
      cases hx with | raw _ =>
      exact key _ hv (by simp) (by simp) (by simp) (by simp) (by simp) ⟨_, rfl⟩ (run_ptr_eq t hu _ w)
    · cases h0
  · cases h
    rcases hk with ⟨h0, _⟩ | ⟨h0, _⟩ | ⟨_, rfl, e, hu⟩
    · cases h0
    · cases h0
    · generalize hv : a.eval x0 = vx at hx
      cases hx with | nils =>
      exact key _ hv (by simp) (by simp) (by simp) (by simp) (by simp) ⟨_, rfl⟩ (run_slice_eq t hu w)
  · cases h

/-- Two values held against each other, or reckoned with. -/
theorem bin_sound (hE : Errs E) {c : Ctx} {ρ : Nat → Value} {H : FH} {S : SSt} {a : Act} {w : World} (s : Sat P E c ρ H S a w) {o : Oper} {d : Nat} (hd : o.dst = some d) (hdN : d < c.N) {W : Opts} {op : BinOp} {t t' : TypeId} {x y : Operand} (ho : o.op = .binOp op t x y t') {x' y' : Opd} (hx : cOpd x = some x') (hy : cOpd y = some y')
    {i : IOp} (hc : compBin P W op t y d x' y' = some i) {p : Prop} {S' : SSt} (h : ev i S = some (p, S')) (hp : p) {K : Act → World → Prop} {Q : Exit → Act → World → Prop} (hK : ∀ ρ' H' a' w', Sat P E c ρ' H' S' a' w' → K a' w') : o.wp P a w K Q := by
  have sx := s.opd hx
  have sy := s.opd hy
  unfold compBin at hc
  split at hc
  · -- whole numbers
    rename_i k hu
    have fin : ∀ v, S' = S.put d v → (∃ u, (binOp op t (a.eval x) (a.eval y)).run P w = .ok u w ∧ Den P E ρ H v u ∧ (∀ n, v.lt n) ∧ ∃ k n, a.eval x = .int k n) → o.wp P a w K Q := by
      rintro v rfl ⟨u, h1, h2, h3, h4⟩
      exact put_sound s hd hdN hK ⟨u, run_binop_int ho h4 h1, h2, h3 _⟩
    split at hc
    all_goals (first | (split at hc <;> (cases hc; simp only [ev] at h; obtain ⟨v, h1, h2⟩ := sput_some h; first | exact fin v h2 (run_bin h1 hp sx.1 sy.1 t w) | exact fin v h2 (run_wrp h1 sx.1 sy.1 t w))) | (cases hc; simp only [ev] at h; obtain ⟨v, h1, h2⟩ := sput_some h; first | exact fin v h2 (run_shf h1 hp sx.1 sy.1 t w) | exact fin v h2 (run_cmp h1 sx.1 sy.1 t w) | exact fin v h2 (run_bin h1 hp sx.1 sy.1 t w)))
  · -- truth values
    rename_i hu
    have fin : ∀ neg, (op = .eql ∧ neg = false ∨ op = .neq ∧ neg = true) → ev (.beq d neg x' y') S = some (p, S') → o.wp P a w K Q := by
      intro neg hop h
      simp only [ev] at h
      split at h
      · rename_i b hb
        cases h
        unfold evBeq at hb
        split at hb
        · rename_i b1 b2 e1 e2
          cases hb
          rw [e1] at sx
          rw [e2] at sy
          obtain ⟨sx, _⟩ := sx
          obtain ⟨sy, _⟩ := sy
          generalize hvx : a.eval x = vx at sx
          generalize hvy : a.eval y = vy at sy
          cases sx with | bool =>
          cases sy with | bool =>
          have := run_eqop (P := P) (w := w) (b := b1 == b2) ho (by rcases hop with ⟨h, _⟩ | ⟨h, _⟩; exact .inl h; exact .inr h) (.inr ⟨_, hvx⟩) (by rw [hvx]; simp) (by rw [hvx]; simp) (by rw [hvx]; simp) (by rw [hvx]; simp) (by rw [hvx]; simp) (by rw [hvx, hvy]; exact run_bool_eq t hu _ _ w)
          refine put_sound s hd hdN hK ⟨_, this, ?_, trivial⟩
          rcases hop with ⟨rfl, rfl⟩ | ⟨rfl, rfl⟩ <;> exact .bool
        · cases hb
      · cases h
    split at hc
    · cases hc; exact fin false (.inl ⟨rfl, rfl⟩) h
    · cases hc; exact fin true (.inr ⟨rfl, rfl⟩) h
    · cases hc
  all_goals try (cases hc; done)
  all_goals
    rename_i hu
    have fin : ∀ neg kind, (op = .eql ∧ neg = false ∨ op = .neq ∧ neg = true) → ((kind = 0 ∧ y = .const .nilIface ∧ ∃ ms, P.underlying t = some (.interface ms)) ∨ (kind = 1 ∧ y = .const (.pointer none) ∧ ∃ e, P.underlying t = some (.pointer e)) ∨ (kind = 2 ∧ y = .const (.slice none 0 0) ∧ ∃ e, P.underlying t = some (.slice e))) →
        ev (.eqb d neg kind x') S = some (p, S') → o.wp P a w K Q := by
      intro neg kind hop hk h
      simp only [ev] at h
      split at h
      · rename_i b hb
        cases h
        have := nil_sound (P := P) (w := w) hE ho (by rcases hop with ⟨h, _⟩ | ⟨h, _⟩; exact .inl h; exact .inr h) hk hb sx.1
        refine put_sound s hd hdN hK ⟨_, this, ?_, trivial⟩
        rcases hop with ⟨rfl, rfl⟩ | ⟨rfl, rfl⟩ <;> exact .bool
      · cases h
    split at hc
    · cases hc; first | (simp [ev] at h; done) | exact fin _ _ (.inl ⟨rfl, rfl⟩) (by first | exact .inl ⟨rfl, rfl, _, hu⟩ | exact .inr (.inl ⟨rfl, rfl, _, hu⟩) | exact .inr (.inr ⟨rfl, rfl, _, hu⟩)) h
    · cases hc; first | (simp [ev] at h; done) | exact fin _ _ (.inr ⟨rfl, rfl⟩) (by first | exact .inl ⟨rfl, rfl, _, hu⟩ | exact .inr (.inl ⟨rfl, rfl, _, hu⟩) | exact .inr (.inr ⟨rfl, rfl, _, hu⟩)) h
    · cases hc
end
end Go.Fw
