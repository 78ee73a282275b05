/- The frame-work, part Ub: code. -/
import Derived.Test.YtilbonambilebaaFwUd
namespace Go.Fw
set_option linter.unusedVariables false
set_option linter.unusedSimpArgs false
open Go

inductive IC where
  | skip
  | ops (l : List GOp)
  | rgn (fz : List Opd) (l : List (Bool × GOp))
  | seq (a b : IC)
  | cond (c : Opd) (t e : IC)
  | block (id : Nat) (b : IC)
  | loop (b : IC)
  | exit (id : Nat)
  | ret
  deriving Inhabited

def Leq (nb : Nat) (S S' : SSt) : Prop := ∃ π : Nat → Nat, (∀ i, (fget S'.f i).ren π = fget S.f i ∨ fget S'.f i = .any) ∧ (∀ n t, hget S'.h n = some t → hget S.h (π n) = some (t.ren π)) ∧
  (∀ n m t u, hget S'.h n = some t → hget S'.h m = some u → n ≠ m → π n ≠ π m) ∧ (∀ n, n < nb → π n = n) ∧ (∀ i, (fget S'.f i).lt S'.nx) ∧ (∀ n t, hget S'.h n = some t → n < S'.nx ∧ t.lt S'.nx) ∧ nb ≤ S'.nx

def LoopVC (nb : Nat) (B : (Ex → SSt → Prop) → SSt → Prop) (Q : Ex → SSt → Prop) (S : SSt) : Prop :=
  ∃ (α : Type) (I : α → SSt) (μ : α → Nat) (a0 : α), Leq nb S (I a0) ∧ ∀ a, B (fun ex S' => match ex with
    | .nrm => ∃ a', μ a' < μ a ∧ Leq nb S' (I a')
    | ex => Q ex S') (I a)

def vc (Γ : FuncId → FSpec) (nb : Nat) : IC → (Ex → SSt → Prop) → SSt → Prop
  | .skip, Q, S => Q .nrm S
  | .ops l, Q, S => vOps Γ l (Q .nrm) S
  | .rgn fz l, Q, S => vD Γ l (Q .nrm) (frzL (ogets fz S.f) S)
  | .seq a b, Q, S => vc Γ nb a (fun ex S' => match ex with
    | .nrm => vc Γ nb b Q S'
    | ex => Q ex S') S
  | .cond c t e, Q, S => match oget c S.f with
    | .bool b => (b = true → vc Γ nb t Q S) ∧ (b = false → vc Γ nb e Q S)
    | _ => False
  | .block id b, Q, S => vc Γ nb b (fun ex S' => match ex with
    | .ext j => if j = id then Q .nrm S' else Q (.ext j) S'
    | ex => Q ex S') S
  | .loop b, Q, S => LoopVC nb (vc Γ nb b) Q S
  | .exit id, Q, S => Q (.ext id) S
  | .ret, Q, S => Q .ret S

def compC (P : Program) (W : Opts) : Code → Option IC
  | .skip => some .skip
  | .region _ ops false => (compOps P W ops ops.toList).map .ops
  | .region _ ops true => match compRgn P W ops with
    | some (fz, l) => some (.rgn fz l)
    | none => none
  | .seq a b => match compC P W a, compC P W b with
    | some x, some y => some (.seq x y)
    | _, _ => none
  | .cond c t e => match cOpd c, compC P W t, compC P W e with
    | some c', some x, some y => some (.cond c' x y)
    | _, _, _ => none
  | .block id b => (compC P W b).map (.block id)
  | .loop b => (compC P W b).map .loop
  | .exit id => some (.exit id)
  | .ret => some .ret
  | _ => none

section
variable {P : Program} {E : Nat → Value}

theorem Leq.sat {c : Ctx} {S S' : SSt} (h : Leq c.nb S S') {ρ : Nat → Value} {H : FH} {a : Act} {w : World} (s : Sat P E c ρ H S a w) : ∃ ρ', Sat P E c ρ' H S' a w := by
  obtain ⟨π, h1, h2, h3, h4, h5, h6, h7⟩ := h
  exact ⟨_, s.weaken ⟨h1, h2, h3, h4, h5, h6, h7⟩⟩

theorem least (p : Nat → Prop) (h : ∃ n, p n) : ∃ n, p n ∧ ∀ m, p m → n ≤ m := by
  obtain ⟨n, hn⟩ := h
  induction n using Nat.strongRecOn with
  | _ n ih =>
    by_cases hm : ∃ m, m < n ∧ p m
    · obtain ⟨m, h1, h2⟩ := hm
      exact ih m h1 h2
    · exact ⟨n, hn, fun m hp => Nat.le_of_not_lt fun hlt => hm ⟨m, hlt, hp⟩⟩

theorem vc_sound (hE : Errs E) {c : Ctx} {W : Opts} (hN : W.N = c.N) (hG : W.gl = c.G) {Γ : FuncId → FSpec} (hΓ : AllValid P E c.G Γ) : ∀ {code : Code} {ic : IC} {Q : Ex → SSt → Prop} {ρ : Nat → Value} {H : FH} {S : SSt} {a : Act} {w : World},
    compC P W code = some ic → vc Γ c.nb ic Q S → Sat P E c ρ H S a w → code.wp P (SQ P E c Q) a w := by
  intro code
  induction code with
  | skip => intro ic Q ρ H S a w hc h s; simp only [compC] at hc; cases hc; exact wp_skip ⟨.nrm, S, ρ, H, rfl, h, s⟩
  | region id ops draw =>
    intro ic Q ρ H S a w hc h s
    cases draw with
    | true =>
      simp only [compC] at hc
      split at hc
      · rename_i fz l e
        cases hc
        obtain ⟨H', _, s'⟩ := s.frzL (l := ogets fz S.f)
        exact rgn_sound hE hN hG hΓ (fun S' h' ρ' H' a' w' s' => ⟨.nrm, S', ρ', H', rfl, h', s'⟩) e s' h
      · cases hc
    | false =>
      simp only [compC] at hc
      obtain ⟨l, hl, rfl⟩ := Option.map_eq_some_iff.1 hc
      exact wp_region_list (vOps_sound hE hN hG hΓ (fun S' h' ρ' H' a' w' s' => ⟨.nrm, S', ρ', H', rfl, h', s'⟩) hl s h)
  | seq x y ihx ihy =>
    intro ic Q ρ H S a w hc h s
    simp only [compC] at hc
    split at hc
    · rename_i x' y' e1 e2; cases hc
      refine wp_seq (Code.wp_mono ?_ (ihx e1 h s))
      rintro ex a' w' ⟨e, S', ρ', H', he, hq, s'⟩
      cases ex <;> simp only [exOf] at he <;> cases he
      · exact ihy e2 hq s'
      · exact ⟨_, S', ρ', H', rfl, hq, s'⟩
      · exact ⟨_, S', ρ', H', rfl, hq, s'⟩
    · cases hc
  | cond cc x y ihx ihy =>
    intro ic Q ρ H S a w hc h s
    simp only [compC] at hc
    split at hc
    · rename_i c' x' y' e1 e2 e3; cases hc
      simp only [vc] at h
      split at h
      · rename_i b hb
        have sc := (s.opd e1).1
        rw [hb] at sc
        generalize hv : a.eval cc = v at sc
        cases sc
        exact wp_cond_split hv (fun e => ihx e2 (h.1 e) s) (fun e => ihy e3 (h.2 e) s)
      · exact h.elim
    · cases hc
  | block id b ih =>
    intro ic Q ρ H S a w hc h s
    simp only [compC] at hc
    obtain ⟨b', hb, rfl⟩ := Option.map_eq_some_iff.1 hc
    refine wp_block (Code.wp_mono ?_ (ih hb h s))
    rintro ex a' w' ⟨e, S', ρ', H', he, hq, s'⟩
    cases ex <;> simp only [exOf] at he <;> cases he
    · exact ⟨_, S', ρ', H', rfl, hq, s'⟩
    · rename_i j
      simp only [Exit.inBlock]
      simp only at hq
      split at hq
      · rename_i e; rw [if_pos e]; exact ⟨_, S', ρ', H', rfl, hq, s'⟩
      · rename_i e; rw [if_neg e]; exact ⟨_, S', ρ', H', rfl, hq, s'⟩
    · exact ⟨_, S', ρ', H', rfl, hq, s'⟩
  | loop b ih =>
    intro ic Q ρ H S a w hc h s
    simp only [compC] at hc
    obtain ⟨b', hb, rfl⟩ := Option.map_eq_some_iff.1 hc
    obtain ⟨α, I, μ, a0, h0, hr⟩ := h
    obtain ⟨ρ0, s0⟩ := h0.sat s
    classical
    have hm : ∀ a w, ∃ m, (∃ x ρ H, Sat P E c ρ H (I x) a w) → (∃ x ρ H, Sat P E c ρ H (I x) a w ∧ μ x = m) ∧ ∀ x ρ H, Sat P E c ρ H (I x) a w → m ≤ μ x := by
      intro a w
      by_cases hx : ∃ n x ρ H, Sat P E c ρ H (I x) a w ∧ μ x = n
      · obtain ⟨m, h1, h2⟩ := least _ hx
        exact ⟨m, fun _ => ⟨h1, fun x ρ H hs => h2 _ ⟨x, ρ, H, hs, rfl⟩⟩⟩
      · exact ⟨0, fun ⟨x, ρ, H, hs⟩ => absurd ⟨_, x, ρ, H, hs, rfl⟩ hx⟩
    refine wp_loop (fun a w => ∃ x ρ H, Sat P E c ρ H (I x) a w) (fun a w => Classical.choose (hm a w)) ⟨a0, ρ0, H, s0⟩ ?_
    intro a w hx
    obtain ⟨⟨x, ρx, Hx, hs, hmx⟩, hle⟩ := Classical.choose_spec (hm a w) hx
    refine Code.wp_mono ?_ (ih hb (hr x) hs)
    rintro ex a' w' ⟨e, S', ρ', H', he, hq, s'⟩
    cases ex <;> simp only [exOf] at he <;> cases he
    · obtain ⟨x', hlt, hleq⟩ := hq
      obtain ⟨ρ'', s''⟩ := hleq.sat s'
      have hx' : ∃ x ρ H, Sat P E c ρ H (I x) a' w' := ⟨x', ρ'', H', s''⟩
      refine ⟨hx', ?_⟩
      have := (Classical.choose_spec (hm a' w') hx').2 x' ρ'' H' s''
      show Classical.choose (hm a' w') < Classical.choose (hm a w)
      omega
    · exact ⟨_, S', ρ', H', rfl, hq, s'⟩
    · exact ⟨_, S', ρ', H', rfl, hq, s'⟩
  | exit id => intro ic Q ρ H S a w hc h s; simp only [compC] at hc; cases hc; exact wp_exit ⟨_, S, ρ, H, rfl, h, s⟩
  | ret => intro ic Q ρ H S a w hc h s; simp only [compC] at hc; cases hc; exact wp_ret ⟨_, S, ρ, H, rfl, h, s⟩
  | rangeFunc => intro ic Q ρ H S a w hc h s; simp [compC] at hc
  | scope => intro ic Q ρ H S a w hc h s; simp [compC] at hc
  | label => intro ic Q ρ H S a w hc h s; simp [compC] at hc
  | goto => intro ic Q ρ H S a w hc h s; simp [compC] at hc
  | refuse => intro ic Q ρ H S a w hc h s; simp [compC] at hc
end
end Go.Fw
