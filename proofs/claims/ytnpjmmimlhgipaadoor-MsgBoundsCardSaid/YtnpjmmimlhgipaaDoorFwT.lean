/- The frame-work, part T: lists of operations, calls. -/
import Derived.Test.YtnpjmmimlhgipaaDoorFwS
namespace Go.Fw
set_option linter.unusedVariables false
set_option linter.unusedSimpArgs false
open Go

abbrev FSpec := List SV → Heap → Nat → (SV → Heap → Prop) → Prop

section
variable {P : Program} {E : Nat → Value}

theorem argSs_den {ρ : Nat → Value} {H : FH} : ∀ {ts : List (Option TypeId)} {xs : List SV} {vs : List Value}, DenV P E ρ H xs vs → DenV P E ρ H (argSs ts xs) vs := by
  intro ts
  induction ts with
  | nil => intro xs vs h; cases xs <;> exact h
  | cons t ts ih =>
    intro xs vs h
    cases h with
    | nil => exact .nil
    | cons h1 h2 =>
      refine .cons ?_ (ih h2)
      unfold argS
      split
      · cases h1 with | nils => exact .dat rfl (.slice (l := []) (fun _ => []) (Nat.le_refl _) (Nat.zero_le _) (fun h => absurd rfl h) (fun _ => rfl) (fun i hi => by simp at hi) (fun i hi => by simp at hi))
      · exact h1
theorem argSs_lt {nx : Nat} : ∀ {ts : List (Option TypeId)} {xs : List SV}, SV.ltL nx xs → SV.ltL nx (argSs ts xs) := by
  intro ts
  induction ts with
  | nil => intro xs h; cases xs <;> exact h
  | cons t ts ih =>
    intro xs h
    cases xs with
    | nil => exact h
    | cons x xs =>
      refine ⟨?_, ih h.2⟩
      unfold argS
      split
      · exact trivial
      · exact h.1

/-- What a function's specification is worth. -/
def Valid (P : Program) (E : Nat → Value) (G : Nat → Bool) (f : FuncId) (sp : FSpec) : Prop :=
  ∀ (args : List SV) (h o : Heap) (nx : Nat) (K : SV → Heap → Prop) (ρ : Nat → Value) (H : FH) (w : World) (vs : List Value),
    sp args h nx K → HSat P E ρ H w (h ++ o) → DenV P E ρ H args vs → SV.ltL nx args → (∀ n t, hget (h ++ o) n = some t → n < nx ∧ t.lt nx) → (∀ n t, hget h n = some t → hget o n = none) → FHin H w →
    (∀ g, G g = true → H g 0 = some (E g)) → ErrW E G H w →
    callOk P f = true ∧ Calls P f vs.toArray w fun e w' => ∃ v r h' ρ' H', e = .returned v ∧ K r h' ∧ (∀ n, n < nx → ρ' n = ρ n) ∧ H.le H' ∧ Den P E ρ' H' r v ∧ HSat P E ρ' H' w' (h' ++ o) ∧ FHin H' w' ∧
      Kept w (fun b => ∃ n t, hget (h ++ o) n = some t ∧ blk (ρ n) = some b) w' ∧ (∀ n t b, hget (h' ++ o) n = some t → blk (ρ' n) = some b → (∃ m u, hget (h ++ o) m = some u ∧ blk (ρ m) = some b) ∨ w.heap.size ≤ b) ∧
      r.lt (nx + 64) ∧ (∀ n t, hget (h' ++ o) n = some t → n < nx + 64 ∧ t.lt (nx + 64)) ∧ ∀ n t, hget h' n = some t → hget o n = none

/-- A call of a function value. -/
def callP (Γ : FuncId → FSpec) (v : SV) (args : List SV) (h : Heap) (nx : Nat) (K : SV → Heap → Prop) : Prop :=
  match v with
  | .clo f caps => Γ f (args ++ caps) h nx K
  | _ => False
theorem callP_clo (Γ : FuncId → FSpec) (f : FuncId) (caps args : List SV) (h : Heap) (nx : Nat) (K : SV → Heap → Prop) : callP Γ (.clo f caps) args h nx K = Γ f (args ++ caps) h nx K := rfl
theorem denV_append {ρ : Nat → Value} {H : FH} : ∀ {l m : List SV} {us vs : List Value}, DenV P E ρ H l us → DenV P E ρ H m vs → DenV P E ρ H (l ++ m) (us ++ vs)
  | [], _, _, _, .nil, h => h
  | _ :: _, _, _, _, .cons h1 h2, h => .cons h1 (denV_append h2 h)

theorem call_sound {c : Ctx} (hC : ErrC E c) {ρ : Nat → Value} {H : FH} {S : SSt} {a : Act} {w : World} (s : Sat P E c ρ H S a w) {o : Oper} {x : Operand} {fo : Opd} {xs : List Operand} {ts : Array TypeId} {d : Nat} (ho : o.op = .call { callee := .value x, args := xs.toArray, argTypes := ts }) (hd : o.dst = some d) (hdN : d < c.N)
    (hf : cOpd x = some fo) {xs' : List Opd} (hx : cOpds xs = some xs') {Γ : FuncId → FSpec} (hv : ∀ f, Valid P E c.G f (Γ f))
    {KS : SSt → Prop} {tl : List (Option TypeId)} (h : callP Γ (oget fo S.f) (argSs tl (ogets xs' S.f)) S.h S.nx (fun r h' => KS { f := (d, r) :: S.f, h := h', nx := S.nx + 64 })) {K : Act → World → Prop} {Q : Exit → Act → World → Prop} (hK : ∀ S', KS S' → Left P E c S' K) : o.wp P a w K Q := by
  have sx := s.opds hx
  have sf := s.opd hf
  unfold callP at h
  split at h
  · rename_i f caps hfo
    rw [hfo] at sf
    obtain ⟨sf, sfl⟩ := sf
    generalize hvf : a.eval x = vf at sf
    cases sf with | clo hcap =>
    rename_i cvs
    have := hv f _ _ c.o _ _ ρ H w _ h s.hs (denV_append (argSs_den sx.1) hcap) (ltL_append (argSs_lt sx.2) sfl) s.hlt s.sep s.hin s.glob (hC.now s)
    obtain ⟨hok, this⟩ := this
    have hrun : (execOp a.eval o).run P w = .ok (.enter f (xs.map a.eval ++ cvs).toArray) w := by
      unfold callOk at hok
      split at hok
      · rename_i fn hfn
        simp only [Bool.and_eq_true, Bool.not_eq_true'] at hok
        have hb : fn.body ≠ none := by intro e; rw [e] at hok; simp at hok
        have hn : fn.name ≠ "runtime.NumGoroutine" := by have := hok.2; simpa using this
        simp [execOp, ho, resolve, hvf, Deferred.ofValue, invoke, callFunc, program, Sem.run_bind, Sem.run, pure, hfn, hn, hb]
      · cases hok
    unfold Oper.wp
    rw [hrun, Oper.upon_enter]
    refine this.mono ?_
    rintro e w' ⟨v, r, h', ρ', H', rfl, hk, hρ, hle, hden, hhs, hin, hkept, hown, hr, hlt, hsep⟩
    simp only [hd]
    have s2 := s.next (Nat.le_add_right _ 64) hρ hle hin hhs hkept hown hlt hsep
    exact hK _ hk _ _ _ _ (s2.put hden hr hdN)
  · exact h.elim
end
end Go.Fw
