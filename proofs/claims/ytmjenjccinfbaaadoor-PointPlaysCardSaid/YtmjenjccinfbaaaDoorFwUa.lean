import Derived.Test.YtmjenjccinfbaaaDoorFwS
import Derived.RangeFuncSeq
import Derived.RangeFuncCalls
import Derived.RangeFuncLeaves
import Derived.RangeFuncRecord
import Derived.Orders
/- The frame-work, part T: lists of operations, calls. -/
namespace Go.Fw
set_option linter.unusedVariables false
set_option linter.unusedSimpArgs false
open Go

abbrev FSpec := List SV → Heap → Nat → (SV → Heap → Prop) → Prop
/-- What an iterator hands on, one by one: values, and memory that is theirs. -/
abbrev ItS := List SV → List (List SV × Heap) → Prop
structure Tab where
  fn : FuncId → FSpec
  it : FuncId → ItS
instance : CoeFun Tab (fun _ => FuncId → FSpec) := ⟨Tab.fn⟩

section
variable {P : Program} {E : Nat → Value}

theorem argSs_den {ρ : Nat → Value} {H : FH} : ∀ {ts : List (Option TypeId)} {xs : List SV} {vs : List Value}, DenV P E ρ H xs vs → DenV P E ρ H (argSs ts xs) vs := by
  intro ts
  induction ts with
  | nil => intro xs vs h; cases xs <;> exact h
  | cons t ts ih =>
    intro xs vs h
    cases h with
    | nil => exact .nil
    | cons h1 h2 =>
      refine .cons ?_ (ih h2)
      unfold argS
      split
      · cases h1 with | nils => exact .dat rfl (.slice (l := []) (fun _ => []) (Nat.le_refl _) (Nat.zero_le _) (fun h => absurd rfl h) (fun _ => rfl) (fun i hi => by simp at hi) (fun i hi => by simp at hi))
      · exact h1
theorem argSs_lt {nx : Nat} : ∀ {ts : List (Option TypeId)} {xs : List SV}, SV.ltL nx xs → SV.ltL nx (argSs ts xs) := by
  intro ts
  induction ts with
  | nil => intro xs h; cases xs <;> exact h
  | cons t ts ih =>
    intro xs h
    cases xs with
    | nil => exact h
    | cons x xs =>
      refine ⟨?_, ih h.2⟩
      unfold argS
      split
      · exact trivial
      · exact h.1

/-- What a function's specification is worth. -/
def Valid (P : Program) (E : Nat → Value) (G : Nat → Bool) (f : FuncId) (sp : FSpec) : Prop :=
  ∀ (args : List SV) (h o : Heap) (nx : Nat) (K : SV → Heap → Prop) (ρ : Nat → Value) (H : FH) (w : World) (vs : List Value),
    sp args h nx K → HSat P E ρ H w (h ++ o) → DenV P E ρ H args vs → SV.ltL nx args → (∀ n t, hget (h ++ o) n = some t → n < nx ∧ t.lt nx) → (∀ n t, hget h n = some t → hget o n = none) → FHin H w →
    (∀ g, G g = true → H g 0 = some (E g)) → ErrW E G H w →
    callOk P f = true ∧ Calls P f vs.toArray w fun e w' => ∃ v r h' ρ' H', e = .returned v ∧ K r h' ∧ (∀ n, n < nx → ρ' n = ρ n) ∧ H.le H' ∧ Den P E ρ' H' r v ∧ HSat P E ρ' H' w' (h' ++ o) ∧ FHin H' w' ∧
      Kept w (fun b => ∃ n t, hget (h ++ o) n = some t ∧ blk (ρ n) = some b) w' ∧ (∀ n t b, hget (h' ++ o) n = some t → blk (ρ' n) = some b → (∃ m u, hget (h ++ o) m = some u ∧ blk (ρ m) = some b) ∨ w.heap.size ≤ b) ∧
      r.lt (nx + 64) ∧ (∀ n t, hget (h' ++ o) n = some t → n < nx + 64 ∧ t.lt (nx + 64)) ∧ ∀ n t, hget h' n = some t → hget o n = none

/-- Old memory lies as it lay. -/
abbrev Grown (w w' : World) : Prop := Kept w (fun _ => False) w'
/-- An iterator hands on just these, one by one, whatever is done with them, as long as what no longer changes stays. -/
def ItSem (P : Program) (E : Nat → Value) (G : Nat → Bool) (g : FuncId) (caps : List SV) (items : List (List SV × Heap)) : Prop :=
  callOk P g = true ∧ ∀ (ρ : Nat → Value) (H : FH) (lb : List Value), DenV P E ρ H caps lb → (∀ k, G k = true → H k 0 = some (E k)) →
  ∀ (l : Nat) (J : Nat → World → Prop) (Jx : World → Prop), (∀ i W W', J i W → Grown W W' → J i W') → (∀ W W', Jx W → Grown W W' → Jx W') →
    (∀ i (hi : i < items.length) (W1 W : World) (ρ1 : Nat → Value) (H1 : FH) (vs : List Value), J i W1 → Grown W1 W → (∀ b o v, H1 b o = some v → H b o = some v ∨ W1.heap.size ≤ b) → FHin H1 W → H.le H1 →
      HSat P E ρ1 H1 W items[i].2 → (∀ n t, hget items[i].2 n = some t → n < 64 ∧ t.lt 64) → (∀ n t b, hget items[i].2 n = some t → blk (ρ1 n) = some b → W1.heap.size ≤ b) → DenV P E ρ1 H1 items[i].1 vs → SV.ltL 64 items[i].1 →
      YieldAt Fence.wide 0 P l vs.toArray W fun e W' => (e = .returned (.bool true) ∧ J (i + 1) W' ∧ FHin H W' ∧ ErrW E G H W') ∨ (e = .returned (.bool false) ∧ Jx W' ∧ FHin H W' ∧ ErrW E G H W')) →
    ∀ W, J 0 W → FHin H W → ErrW E G H W → CallsIn Fence.wide 0 P g (#[.func (.yield l) #[] #[]] ++ lb.toArray) W fun e W' => (∃ v, e = .returned v) ∧ (J items.length W' ∨ Jx W')
def ItValid (P : Program) (E : Nat → Value) (G : Nat → Bool) (g : FuncId) (it : ItS) : Prop := ∀ caps items, it caps items → ItSem P E G g caps items

/-- A call of a function value. -/
def callP (Γ : Tab) (v : SV) (args : List SV) (h : Heap) (nx : Nat) (K : SV → Heap → Prop) : Prop :=
  match v with
  | .clo f caps => Γ f (args ++ caps) h nx K
  | _ => False
theorem callP_clo (Γ : Tab) (f : FuncId) (caps args : List SV) (h : Heap) (nx : Nat) (K : SV → Heap → Prop) : callP Γ (.clo f caps) args h nx K = Γ f (args ++ caps) h nx K := rfl
theorem denV_append {ρ : Nat → Value} {H : FH} : ∀ {l m : List SV} {us vs : List Value}, DenV P E ρ H l us → DenV P E ρ H m vs → DenV P E ρ H (l ++ m) (us ++ vs)
  | [], _, _, _, .nil, h => h
  | _ :: _, _, _, _, .cons h1 h2, h => .cons h1 (denV_append h2 h)

theorem call_sound {c : Ctx} (hC : ErrC E c) {ρ : Nat → Value} {H : FH} {S : SSt} {a : Act} {w : World} (s : Sat P E c ρ H S a w) {o : Oper} {x : Operand} {fo : Opd} {xs : List Operand} {ts : Array TypeId} {d : Nat} (ho : o.op = .call { callee := .value x, args := xs.toArray, argTypes := ts }) (hd : o.dst = some d) (hdN : d < c.N)
    (hf : cOpd x = some fo) {xs' : List Opd} (hx : cOpds xs = some xs') {Γ : Tab} (hv : ∀ f, Valid P E c.G f (Γ f))
    {KS : SSt → Prop} {tl : List (Option TypeId)} (h : callP Γ (oget fo S.f) (argSs tl (ogets xs' S.f)) S.h S.nx (fun r h' => KS { f := (d, r) :: S.f, h := h', nx := S.nx + 64 })) {K : Act → World → Prop} {Q : Exit → Act → World → Prop} (hK : ∀ S', KS S' → Left P E c S' K) : o.wp P a w K Q := by
  have sx := s.opds hx
  have sf := s.opd hf
  unfold callP at h
  split at h
  · rename_i f caps hfo
    rw [hfo] at sf
    obtain ⟨sf, sfl⟩ := sf
    generalize hvf : a.eval x = vf at sf
    cases sf with | clo hcap =>
    rename_i cvs
    have := hv f _ _ c.o _ _ ρ H w _ h s.hs (denV_append (argSs_den sx.1) hcap) (ltL_append (argSs_lt sx.2) sfl) s.hlt s.sep s.hin s.glob (hC.now s)
    obtain ⟨hok, this⟩ := this
    have hrun : (execOp a.eval o).run P w = .ok (.enter f (xs.map a.eval ++ cvs).toArray) w := by
      unfold callOk at hok
      split at hok
      · rename_i fn hfn
        simp only [Bool.and_eq_true, Bool.not_eq_true'] at hok
        have hb : fn.body ≠ none := by intro e; rw [e] at hok; simp at hok
        have hn : fn.name ≠ "runtime.NumGoroutine" := by have := hok.2; simpa using this
        simp [execOp, ho, resolve, hvf, Deferred.ofValue, invoke, callFunc, program, Sem.run_bind, Sem.run, pure, hfn, hn, hb]
      · cases hok
    unfold Oper.wp
    rw [hrun, Oper.upon_enter]
    refine this.mono ?_
    rintro e w' ⟨v, r, h', ρ', H', rfl, hk, hρ, hle, hden, hhs, hin, hkept, hown, hr, hlt, hsep⟩
    simp only [hd]
    have s2 := s.next (Nat.le_add_right _ 64) hρ hle hin hhs hkept hown hlt hsep
    exact hK _ hk _ _ _ _ (s2.put hden hr hdN)
  · exact h.elim
/-- A call that needs no owned memory, whose result is one thing. -/
def isR (r0 : SV) : SV → Heap → Prop := fun r h' => r = r0 ∧ h' = []
theorem isR_app (r0 r : SV) (h' : Heap) : isR r0 r h' = (r = r0 ∧ h' = []) := rfl
theorem still_sound {c : Ctx} (hC : ErrC E c) {ρ : Nat → Value} {H : FH} {S : SSt} {a : Act} {w : World} (s : Sat P E c ρ H S a w) {o : Oper} {x : Operand} {fo : Opd} {xs : List Operand} {ts : Array TypeId} {d : Nat} (ho : o.op = .call { callee := .value x, args := xs.toArray, argTypes := ts }) (hd : o.dst = some d) (hdN : d < c.N)
    (hf : cOpd x = some fo) {xs' : List Opd} (hx : cOpds xs = some xs') {Γ : Tab} (hv : ∀ f, Valid P E c.G f (Γ f))
    {KS : SSt → Prop} {tl : List (Option TypeId)} {r0 : SV} (h0 : ∀ nx', callP Γ (oget fo S.f) (argSs tl (ogets xs' S.f)) [] nx' (isR r0)) (hr0 : r0.lt 0) (hk0 : KS { f := (d, r0) :: S.f, h := S.h, nx := S.nx }) {K : Act → World → Prop} {Q : Exit → Act → World → Prop} (hK : ∀ S', KS S' → Left P E c S' K) : o.wp P a w K Q := by
  have sx := s.opds hx
  have sf := s.opd hf
  have h := h0 S.nx
  unfold callP at h
  split at h
  · rename_i f caps hfo
    rw [hfo] at sf
    obtain ⟨sf, sfl⟩ := sf
    generalize hvf : a.eval x = vf at sf
    cases sf with | clo hcap =>
    rename_i cvs
    have := hv f _ [] (S.h ++ c.o) _ _ ρ H w _ h s.hs (denV_append (argSs_den sx.1) hcap) (ltL_append (argSs_lt sx.2) sfl) s.hlt (fun n t e => by cases e) s.hin s.glob (hC.now s)
    obtain ⟨hok, this⟩ := this
    have hrun : (execOp a.eval o).run P w = .ok (.enter f (xs.map a.eval ++ cvs).toArray) w := by
      unfold callOk at hok
      split at hok
      · rename_i fn hfn
        simp only [Bool.and_eq_true, Bool.not_eq_true'] at hok
        have hb : fn.body ≠ none := by intro e; rw [e] at hok; simp at hok
        have hn : fn.name ≠ "runtime.NumGoroutine" := by have := hok.2; simpa using this
        simp [execOp, ho, resolve, hvf, Deferred.ofValue, invoke, callFunc, program, Sem.run_bind, Sem.run, pure, hfn, hn, hb]
      · cases hok
    unfold Oper.wp
    rw [hrun, Oper.upon_enter]
    refine this.mono ?_
    rintro e w' ⟨v, r, h', ρ', H', rfl, ⟨rfl, rfl⟩, hρ, hle, hden, hhs, hin, hkept, hown, hr, hlt, hsep⟩
    simp only [hd]
    have s2 := s.next (h' := S.h) (Nat.le_add_right _ 64) hρ hle hin hhs hkept hown hlt s.sep
    have s3 : Sat P E c ρ' H' S a w' := ⟨s2.fr, s2.sz, s2.df, s2.hs, s2.hin, s2.kept, s2.ownb, s.flt, s.hlt, s2.olt, s.nbx, s2.sep, s2.glob, s2.rho, s2.hle⟩
    exact hK _ hk0 _ _ _ _ (s3.put hden (SV.lt_mono (Nat.zero_le _) hr0) hdN)
  · exact h.elim
end
end Go.Fw

/- The frame-work, part U: code. -/
namespace Go.Fw
set_option linter.unusedVariables false
set_option linter.unusedSimpArgs false
open Go

inductive GOp where
  | u (i : IOp)
  | g (slot : Nat) (want : Bool) (d : Option Nat) (i : IOp)
  deriving Inhabited

inductive Ex where
  | nrm | ext (id : Nat) | ret

def vOp (Γ : Tab) (i : IOp) (S : SSt) (K : SSt → Prop) : Prop :=
  match i with
  | .call d f args ts fz => match fz with
    | true => callP Γ (oget f (frzL (ogets args S.f) S).f) (argSs ts (ogets args (frzL (ogets args S.f) S).f)) (frzL (ogets args S.f) S).h (frzL (ogets args S.f) S).nx (fun r h' => K { f := (d, r) :: (frzL (ogets args S.f) S).f, h := h', nx := (frzL (ogets args S.f) S).nx + 64 })
    | false => callP Γ (oget f S.f) (argSs ts (ogets args S.f)) S.h S.nx (fun r h' => K { f := (d, r) :: S.f, h := h', nx := S.nx + 64 })
  | .slc d eid x lo hi => match ev (.slc d eid x lo hi) (preF (oget x S.f) S) with
    | some (p, S') => p ∧ K S'
    | none => False
  | .mif d t ty e x => match ev (.mif d t ty e x) (preP ty e (oget x S.f) S) with
    | some (p, S') => p ∧ K S'
    | none => False
  | .nlq d neg x => match evNlq (oget x S.f) S.h with
    | some (p, q) => ∀ b : Bool, (b = true → p) → (q → b = true) → K (S.put d (.bool (if neg then !b else b)))
    | none => False
  | i => match ev i S with
    | some (p, S') => p ∧ K S'
    | none => False

def skipD (d : Option Nat) (S : SSt) : SSt := match d with | some d => S.put d (.tup []) | none => S

def vOps (Γ : Tab) : List GOp → (SSt → Prop) → SSt → Prop
  | [], K, S => K S
  | .u i :: r, K, S => vOp Γ i S (fun S' => vOps Γ r K S')
  | .g t b d i :: r, K, S => match fget S.f t with
    | .bool v => (v = b → vOp Γ i (S.put t (.bool b)) (fun S' => vOps Γ r K S')) ∧ (v = !b → vOps Γ r K (skipD d (S.put t (.bool (!b)))))
    | .tup [] => vOps Γ r K (skipD d S)
    | _ => False

def gSlot (all : Array Oper) : Option (Nat × Bool) → Option (Option (Nat × Bool))
  | none => some none
  | some (j, b) => match (all[j]?).bind (·.dst) with
    | some t => some (some (t, b))
    | none => none

def compOps (P : Program) (W : Opts) (all : Array Oper) : List Oper → Option (List GOp)
  | [] => some []
  | o :: l => match comp P W o, gSlot all o.guard, compOps P W all l with
    | some i, some none, some r => some (.u i :: r)
    | some i, some (some (t, b)), some r => match o.dst with
      | some d => if d < W.N then some (.g t b (some d) i :: r) else none
      | none => some (.g t b none i :: r)
    | _, _, _ => none

section
variable {P : Program} {E : Nat → Value}

def isCall : IOp → Bool
  | .call .. => true
  | .nlq .. => true
  | _ => false
/-- What is gone through otherwise than by 'ev' alone. -/
def isSp : IOp → Bool
  | .call .. | .nlq .. | .slc .. | .mif .. => true
  | _ => false
theorem compCvt_noCall {src dst : TypeId} {d : Nat} {x : Opd} {i : IOp} (h : compCvt P src dst d x = some i) : isCall i = false := by
  unfold compCvt at h
  repeat' (first | (cases h; rfl) | (cases h; done) | split at h)
theorem compBin_noCall {W : Opts} {op : BinOp} {t : TypeId} {y0 : Operand} {d : Nat} {x y : Opd} {i : IOp} (h : compBin P W op t y0 d x y = some i) : isCall i = false ∨ (∃ neg, i = .nlq d neg x ∧ y0 = .const (.slice none 0 0) ∧ (op = .eql ∧ neg = false ∨ op = .neq ∧ neg = true) ∧ ∃ e, P.underlying t = some (.slice e)) := by
  unfold compBin at h
  split at h
  case h_5 e hu =>
    right
    split at h
    · cases h; exact ⟨_, rfl, rfl, .inl ⟨rfl, rfl⟩, _, hu⟩
    · cases h; exact ⟨_, rfl, rfl, .inr ⟨rfl, rfl⟩, _, hu⟩
    · cases h
  all_goals
    left
    repeat' (first | (cases h; rfl) | (cases h; done) | split at h)
theorem compIfq_noCall {W : Opts} {op : BinOp} {t : TypeId} {d : Nat} {x y : Opd} {i : IOp} (h : compIfq P W op t d x y = some i) : isCall i = false := by
  unfold compIfq at h
  repeat' (first | (cases h; rfl) | (cases h; done) | split at h)
theorem compStr_noCall {op : BinOp} {t : TypeId} {d : Nat} {x y : Opd} {i : IOp} (h : compStr P op t d x y = some i) : isCall i = false := by
  unfold compStr at h
  repeat' (first | (cases h; rfl) | (cases h; done) | split at h)
set_option maxHeartbeats 1000000 in
theorem comp_call {W : Opts} {o : Oper} {d : Nat} {f : Opd} {args : List Opd} {tl : List (Option TypeId)} {fz : Bool} (h : comp P W o = some (.call d f args tl fz)) :
    ∃ x xs ts, o.op = .call { callee := .value x, args := xs.toArray, argTypes := ts } ∧ o.dst = some d ∧ d < W.N ∧ cOpd x = some f ∧ cOpds xs = some args := by
  unfold comp at h
  split at h
  case h_12 =>
    rename_i cl d' ho hd
    split at h
    · rename_i hdN
      obtain ⟨callee, ars, types⟩ := cl
      obtain ⟨ars⟩ := ars
      unfold compCall at h
      split at h
      · exfalso; repeat' (first | (cases h; done) | split at h)
      · exfalso; repeat' (first | (cases h; done) | split at h)
      · exfalso; obtain ⟨_, _, h⟩ := Option.map_eq_some_iff.1 h; cases h
      · exfalso; obtain ⟨_, _, h⟩ := Option.map_eq_some_iff.1 h; cases h
      · rename_i f' hcal
        simp only at hcal; subst hcal
        split at h
        · rename_i hok hl
          cases h
          exact ⟨_, ars, types, ho, hd, hdN, hok, hl⟩
        · cases h
      · exfalso; repeat' (first | (cases h; done) | split at h)
      · cases h
    · cases h
  case h_3 =>
    exfalso
    split at h
    · split at h
      · split at h
        · rename_i e; cases h
          rcases compBin_noCall e with h9 | ⟨_, h9, _⟩
          · cases h9
          · cases h9
        · split at h
          · rename_i e; cases h; have := compIfq_noCall e; cases this
          · have := compStr_noCall h; cases this
      · cases h
    · cases h
  case h_5 =>
    exfalso
    split at h
    · split at h
      · have := compCvt_noCall h; cases this
      · cases h
    · cases h
  all_goals
    exfalso
    repeat' (first | (cases h; done) | split at h | (replace h := Option.map_eq_some_iff.1 h; obtain ⟨_, _, h⟩ := h))

set_option maxHeartbeats 1000000 in
theorem comp_mif {W : Opts} {o : Oper} {d : Nat} {t : TypeId} {ty e : Ty} {x : Opd} (h : comp P W o = some (.mif d t ty e x)) : ∃ eid, ty = .ptr eid ∧ e = tyOf P 8 eid := by
  unfold comp at h
  split at h
  case h_3 =>
    exfalso
    split at h
    · split at h
      · split at h
        · rename_i e; cases h
          rcases compBin_noCall e with h9 | ⟨_, h9, _⟩
          · unfold compBin at e
            repeat' (first | (cases e; done) | split at e)
          · cases h9
        · split at h
          · rename_i e; cases h
            unfold compIfq at e
            repeat' (first | (cases e; done) | split at e)
          · unfold compStr at h
            repeat' (first | (cases h; done) | split at h)
      · cases h
    · cases h
  case h_12 =>
    exfalso
    rename_i cl d' ho hd
    split at h
    · rename_i hdN
      unfold compCall at h
      repeat' (first | (cases h; done) | split at h | (replace h := Option.map_eq_some_iff.1 h; obtain ⟨_, _, h⟩ := h))
    · cases h
  case h_5 =>
    exfalso
    split at h
    · split at h
      · unfold compCvt at h
        repeat' (first | (cases h; done) | split at h)
      · cases h
    · cases h
  case h_18 =>
    split at h
    · split at h
      · rename_i eid x' hu hx
        cases h
        exact ⟨eid, tyOf_ptr hu, rfl⟩
      · cases h
    · cases h
  all_goals
    exfalso
    repeat' (first | (cases h; done) | split at h | (replace h := Option.map_eq_some_iff.1 h; obtain ⟨_, _, h⟩ := h))

set_option maxHeartbeats 1000000 in
theorem comp_nlq {W : Opts} {o : Oper} {d : Nat} {neg : Bool} {x : Opd} (h : comp P W o = some (.nlq d neg x)) :
    ∃ op t x0 t', o.op = .binOp op t x0 (.const (.slice none 0 0)) t' ∧ o.dst = some d ∧ d < W.N ∧ cOpd x0 = some x ∧ (op = .eql ∧ neg = false ∨ op = .neq ∧ neg = true) ∧ ∃ e, P.underlying t = some (.slice e) := by
  unfold comp at h
  split at h
  case h_3 =>
    rename_i op t x0 y0 t' d' ho hd
    split at h
    · rename_i hdN
      split at h
      · rename_i x' y' hx hy
        split at h
        · rename_i e; cases h
          rcases compBin_noCall e with h9 | ⟨neg', h9, h10, h11, h12⟩
          · cases h9
          · cases h9; subst h10; exact ⟨op, t, x0, t', ho, hd, hdN, hx, h11, h12⟩
        · exfalso
          split at h
          · rename_i e; cases h; have := compIfq_noCall e; cases this
          · have := compStr_noCall h; cases this
      · cases h
    · cases h
  case h_12 =>
    exfalso
    rename_i cl d' ho hd
    split at h
    · rename_i hdN
      unfold compCall at h
      repeat' (first | (cases h; done) | split at h | (replace h := Option.map_eq_some_iff.1 h; obtain ⟨_, _, h⟩ := h))
    · cases h
  case h_5 =>
    exfalso
    split at h
    · split at h
      · have := compCvt_noCall h; cases this
      · cases h
    · cases h
  all_goals
    exfalso
    repeat' (first | (cases h; done) | split at h | (replace h := Option.map_eq_some_iff.1 h; obtain ⟨_, _, h⟩ := h))

theorem eqIn_slice_any (d : Nat) (t : TypeId) {e : TypeId} (hu : P.underlying t = some (.slice e)) (ad : Option Addr) (n cap : Nat) (w : World) : (Op.equalIn (d + 1) t (.slice ad n cap) (.slice none 0 0)).run P w = .ok ad.isNone w := by
  cases ad <;> simp [Op.equalIn, Sem.run_bind, run_underlying hu, Sem.run, pure]
theorem nlq_sound {c : Ctx} {ρ : Nat → Value} {H : FH} {S : SSt} {a : Act} {w : World} (s : Sat P E c ρ H S a w) {o : Oper} {d : Nat} {neg : Bool} {x : Opd} {op : BinOp} {t t' : TypeId} {x0 : Operand} (ho : o.op = .binOp op t x0 (.const (.slice none 0 0)) t') (hd : o.dst = some d) (hdN : d < c.N)
    (hx : cOpd x0 = some x) (hop : op = .eql ∧ neg = false ∨ op = .neq ∧ neg = true) {e : TypeId} (hu : P.underlying t = some (.slice e)) {p q : Prop} (h : evNlq (oget x S.f) S.h = some (p, q)) {KS : SSt → Prop} (hk : ∀ b : Bool, (b = true → p) → (q → b = true) → KS (S.put d (.bool (if neg then !b else b))))
    {K : Act → World → Prop} {Q : Exit → Act → World → Prop} (hK : ∀ S', KS S' → Left P E c S' K) : o.wp P a w K Q := by
  have sx := (s.opd hx).1
  have key : ∃ ad n cap, a.eval x0 = .slice ad n cap ∧ (ad.isNone = true → p) ∧ (q → ad.isNone = true) := by
    generalize hvx : a.eval x0 = vx at sx
    generalize hX : oget x S.f = X at h sx
    unfold evNlq at h
    split at h
    · cases h; cases sx; exact ⟨none, 0, 0, rfl, fun _ => trivial, fun _ => rfl⟩
    · cases h
      cases sx with | dat _ hr =>
      cases hr with
      | slice css hc hcap hn hz hm hr =>
        rename_i l ad cap
        refine ⟨ad, _, _, rfl, fun h => ?_, fun h => h.elim⟩
        have : cap = 0 := hz (by cases ad with | none => rfl | some _ => simp at h)
        exact (List.eq_nil_of_length_eq_zero (by omega) : l = [])
    · split at h
      · rename_i n _ _ l hn
        cases h
        obtain ⟨⟨_, xs, ⟨_, hown⟩, _, _⟩, _⟩ := s.tok hn
        cases sx with | vec _ =>
        rcases hown with ⟨⟨a0, hv⟩, h2⟩ | ⟨g, cap, cur, hv, _⟩
        · exact ⟨a0, 0, 0, hv, fun _ => List.eq_nil_of_length_eq_zero h2, fun h => h.elim⟩
        · exact ⟨_, _, _, hv, fun h => by simp at h, fun h => h.elim⟩
      · cases h
    · cases h
  obtain ⟨ad, n, cap, hv, h1, h2⟩ := key
  have he : (Op.equal t (a.eval x0) (a.eval (.const (.slice none 0 0)))).run P w = .ok ad.isNone w := by
    rw [hv, equal_in]
    exact eqIn_slice_any _ t hu ad n cap w
  have hrun := run_eqop (P := P) ho (by rcases hop with ⟨h, _⟩ | ⟨h, _⟩; exact .inl h; exact .inr h) (.inl ⟨_, rfl⟩) (by rw [hv]; simp) (by rw [hv]; simp) (by rw [hv]; simp) (by rw [hv]; simp) (by rw [hv]; simp) he
  refine put_sound s hd hdN (hK _ (hk ad.isNone h1 h2)) ⟨_, hrun, ?_, trivial⟩
  rcases hop with ⟨rfl, rfl⟩ | ⟨rfl, rfl⟩ <;> exact .bool

theorem Sat.note {c : Ctx} {ρ : Nat → Value} {H : FH} {S : SSt} {a : Act} {w : World} (s : Sat P E c ρ H S a w) {t : Nat} {v b : Bool} (h : fget S.f t = .bool v) (hb : v = b) : Sat P E c ρ H (S.put t (.bool b)) a w := by
  subst hb
  refine ⟨fun i => ?_, s.sz, s.df, s.hs, s.hin, s.kept, s.ownb, fun i => ?_, s.hlt, s.olt, s.nbx, s.sep, s.glob, s.rho, s.hle⟩
  · simp only [SSt.put, fget_cons]
    split
    · rename_i e; subst e; rw [← h]; exact s.fr t
    · exact s.fr i
  · simp only [SSt.put, fget_cons]
    split
    · exact trivial
    · exact s.flt i

/-- What is left behind code: a state that the post says. -/
def exOf : Exit → Option Ex
  | .normal => some .nrm
  | .exit id => some (.ext id)
  | .ret => some .ret
  | _ => none
def SQ (P : Program) (E : Nat → Value) (c : Ctx) (Q : Ex → SSt → Prop) (ex : Exit) (a : Act) (w : World) : Prop :=
  ∃ e S ρ H, exOf ex = some e ∧ Q e S ∧ Sat P E c ρ H S a w

def AllValid (P : Program) (E : Nat → Value) (G : Nat → Bool) (Γ : Tab) : Prop := (∀ f, Valid P E G f (Γ f)) ∧ ∀ g, ItValid P E G g (Γ.it g)

theorem vOp_sound {et : Option TypeId} (hE : Errs2 P et E) {c : Ctx} {W : Opts} (hN : W.N = c.N) (hG : W.gl = c.G) (hC : ErrC E c ∧ W.et = et) {Γ : Tab} (hΓ : AllValid P E c.G Γ) {ρ : Nat → Value} {H : FH} {S : SSt} {a : Act} {w : World} (s : Sat P E c ρ H S a w) {o : Oper} {i : IOp} (hc : comp P W o = some i)
    {KS : SSt → Prop} (h : vOp Γ i S KS) {K : Act → World → Prop} {Q : Exit → Act → World → Prop} (hK : ∀ S', KS S' → Left P E c S' K) : o.wp P a w K Q := by
  by_cases hi : isCall i = true
  · cases i <;> first | (cases hi; done) | skip
    · rename_i d neg x
      obtain ⟨op, t, x0, t', ho, hd, hdN, hx, hop, e, hu⟩ := comp_nlq hc
      simp only [vOp] at h
      split at h
      · rename_i p q e; exact nlq_sound s ho hd (hN ▸ hdN) hx hop hu e h hK
      · exact h.elim
    rename_i d f args tl fz
    obtain ⟨x0, xs, ts, ho, hd, hdN, hf, hx⟩ := comp_call hc
    cases fz with
    | true =>
      simp only [vOp] at h
      obtain ⟨H', _, s'⟩ := s.frzL (l := ogets args S.f)
      exact call_sound hC.1 s' ho hd (hN ▸ hdN) hf hx hΓ.1 h hK
    | false =>
      simp only [vOp] at h
      exact call_sound hC.1 s ho hd (hN ▸ hdN) hf hx hΓ.1 h hK
  · by_cases hsl : ∃ d eid x lo hi, i = .slc d eid x lo hi
    · obtain ⟨d, eid, x, lo, hi, rfl⟩ := hsl
      simp only [vOp] at h
      have s2 : ∃ H', Sat P E c ρ H' (preF (oget x S.f) S) a w := by
        unfold preF
        split
        · rename_i n _; obtain ⟨H', _, h2⟩ := s.frz1 n; exact ⟨H', h2⟩
        · exact ⟨H, s⟩
      obtain ⟨H', s2⟩ := s2
      split at h
      · rename_i p S' e; exact op_sound hE hN hG hC s2 hc e h.1 (hK _ h.2)
      · exact h.elim
    by_cases hmf : ∃ d t ty e x, i = .mif d t ty e x
    · obtain ⟨d, t, ty, e, x, rfl⟩ := hmf
      simp only [vOp] at h
      obtain ⟨eid, hty, he⟩ := comp_mif hc
      have s2 : ∃ H', Sat P E c ρ H' (preP ty e (oget x S.f) S) a w := by
        unfold preP
        split
        · rename_i n _
          unfold prePt
          split
          · rename_i l hl
            unfold prePd
            split
            · rename_i dd htd
              rw [he] at htd
              obtain ⟨H', _, h2, _⟩ := s.frzCells (eid := eid) hl htd
              rw [hty]
              exact ⟨H', h2⟩
            · exact ⟨H, s⟩
          · exact ⟨H, s⟩
        · exact ⟨H, s⟩
      obtain ⟨H', s2⟩ := s2
      split at h
      · rename_i p S' e'; exact op_sound hE hN hG hC s2 hc e' h.1 (hK _ h.2)
      · exact h.elim
    have key : match ev i S with | some (p, S') => p ∧ KS S' | none => False := by
      cases i <;> first | (exact absurd rfl hi) | (exact absurd ⟨_, _, _, _, _, rfl⟩ hsl) | (exact absurd ⟨_, _, _, _, _, rfl⟩ hmf) | exact h
    split at key
    · rename_i p S' e
      exact op_sound hE hN hG hC s hc e key.1 (hK _ key.2)
    · exact key.elim

theorem vOps_sound {et : Option TypeId} (hE : Errs2 P et E) {c : Ctx} {W : Opts} (hN : W.N = c.N) (hG : W.gl = c.G) (hC : ErrC E c ∧ W.et = et) {Γ : Tab} (hΓ : AllValid P E c.G Γ) {all : Array Oper} {Q : Exit → Act → World → Prop} {KS : SSt → Prop} (hK : ∀ S', KS S' → Left P E c S' (Q .normal)) :
    ∀ {l : List Oper} {gl : List GOp} {ρ : Nat → Value} {H : FH} {S : SSt} {a : Act} {w : World}, compOps P W all l = some gl → Sat P E c ρ H S a w → vOps Γ gl KS S → wpList P all Q l a w := by
  intro l
  induction l with
  | nil =>
    intro gl ρ H S a w hc s h
    simp only [compOps] at hc; cases hc
    exact hK S h _ _ _ _ s
  | cons o l ih =>
    intro gl ρ H S a w hc s h
    simp only [compOps] at hc
    split at hc
    · rename_i i r e1 e2 e3
      cases hc
      have hg : o.guard = none := by
        unfold gSlot at e2
        split at e2
        · assumption
        · split at e2 <;> cases e2
      simp only [vOps] at h
      simp only [wpList, Region.wanted, hg, if_true]
      exact .inl (vOp_sound hE hN hG hC hΓ s e1 h (fun S' h' ρ' H' a' w' s' => ih e3 s' h'))
    · rename_i i t b r e1 e2 e3
      have hgd : ∃ j, o.guard = some (j, b) ∧ (all[j]?).bind (·.dst) = some t := by
        unfold gSlot at e2
        split at e2
        · cases e2
        · rename_i j b' hgu
          split at e2
          · rename_i t' ht; cases e2; exact ⟨j, hgu, ht⟩
          · cases e2
      obtain ⟨j, hgu, ht⟩ := hgd
      have fin : ∀ d, o.dst = d → (∀ d', d = some d' → d' < W.N) → vOps Γ (.g t b d i :: r) KS S → wpList P all Q (o :: l) a w := by
        intro d hd hdN h
        simp only [vOps] at h
        split at h
        · rename_i v hv
          have hden := s.fr t
          rw [hv] at hden
          have hval : a.tmps[t]? = some (.bool v) := by
            rw [Array.getD_eq_getD_getElem?] at hden
            cases h0 : a.tmps[t]? with
            | none => rw [h0] at hden; simp only [Option.getD_none] at hden; cases hden
            | some u => rw [h0] at hden; simp only [Option.getD_some] at hden; cases hden; rfl
          have hy : yielded all a.tmps j = some v := by
            unfold yielded
            rw [ht]
            simp [hval]
          simp only [wpList, Region.wanted, hgu, hy]
          by_cases hvb : v = b
          · subst hvb
            simp only [beq_self_eq_true, if_true]
            exact .inl (vOp_sound hE hN hG hC hΓ (s.note hv rfl) e1 (h.1 rfl) (fun S' h' ρ' H' a' w' s' => ih e3 s' h'))
          · have hvb' : v = !b := by cases v <;> cases b <;> simp_all
            have : (some v == some b) = false := by simp [hvb]
            simp only [this, Bool.false_eq_true, if_false]
            have s1 := s.note hv hvb'
            cases d with
            | none => rw [hd]; exact ih e3 s1 (h.2 hvb')
            | some d => rw [hd]; exact ih e3 (s1.put (.tup .nil) trivial (hN ▸ hdN d rfl)) (h.2 hvb')
        · rename_i hv
          have hden := s.fr t
          rw [hv] at hden
          have hy : yielded all a.tmps j = none := by
            unfold yielded
            rw [ht]
            rw [Array.getD_eq_getD_getElem?] at hden
            cases h0 : a.tmps[t]? with
            | none => simp [h0]
            | some u => rw [h0] at hden; simp only [Option.getD_some] at hden; cases hden; simp [h0]
          simp only [wpList, Region.wanted, hgu, hy]
          have : ((none : Option Bool) == some b) = false := rfl
          simp only [this, Bool.false_eq_true, if_false]
          cases d with
          | none => rw [hd]; exact ih e3 s h
          | some d => rw [hd]; exact ih e3 (s.put (.tup .nil) trivial (hN ▸ hdN d rfl)) h
        · exact h.elim
      split at hc
      · rename_i d hd
        split at hc
        · rename_i hdN; cases hc
          exact fin (some d) hd (fun d' e => by cases e; exact hdN) h
        · cases hc
      · rename_i hd
        cases hc
        exact fin none hd (fun d' e => by cases e) h
    · cases hc

end
end Go.Fw

/- The frame-work, part Ua: regions that draw their order. -/
namespace Go.Fw
set_option linter.unusedVariables false
set_option linter.unusedSimpArgs false
open Go

def Opd.sl : Opd → List Nat
  | .s n => [n]
  | .c _ => []
def slots : List Opd → List Nat
  | [] => []
  | x :: l => x.sl ++ slots l
def oslots : Option Opd → List Nat
  | some x => x.sl
  | none => []

/-- Quiet operations: a value out of the frame and the heap. -/
def quietOf : IOp → Option (Nat × (Fr → Heap → Option (Prop × SV)))
  | .mov d x => some (d, fun f _ => some (True, oget x f))
  | .bin d op k x y => some (d, fun f _ => evBin op k (oget x f) (oget y f))
  | .wrp d op k x y => some (d, fun f _ => evWrp op k (oget x f) (oget y f))
  | .shf d op k x y => some (d, fun f _ => evShf op k (oget x f) (oget y f))
  | .cmp d op x y => some (d, fun f _ => evCmp op (oget x f) (oget y f))
  | .eqb d neg k x => some (d, fun f _ => match evNil k (oget x f) with | some b => some (True, .bool (if neg then !b else b)) | none => none)
  | .beq d neg x y => some (d, fun f _ => match evBeq (oget x f) (oget y f) with | some b => some (True, .bool (if neg then !b else b)) | none => none)
  | .una d op x => some (d, fun f _ => evUna op (oget x f))
  | .cnv d k x => some (d, fun f _ => match oget x f with | .int _ n => some (True, .int k (k.wrap n)) | _ => none)
  | .gld d g => some (d, fun _ _ => some (True, .dat .iface (.err g)))
  | .ld d t x => some (d, fun f h => evLd t (oget x f) h)
  | .fad d k off t sid x => some (d, fun f _ => evFad k off t sid (oget x f))
  | .iad d eid e x i => some (d, fun f h => evIad eid e (oget x f) (oget i f) h)
  | .aad d n e x i => some (d, fun f _ => evAad n e (oget x f) (oget i f))
  | .len d str x => some (d, fun f h => if str then evSln (oget x f) else evLen (oget x f) h)
  | .slc d eid x lo hi => some (d, fun f _ => evSlc eid (oget x f) (lo.map (oget · f)) (hi.map (oget · f)))
  | .nlc d x => some (d, fun f _ => evNlc (oget x f))
  | .ext d i x => some (d, fun f _ => match oget x f with | .tup l => (match l[i]? with | some y => some (True, y) | none => none) | _ => none)
  | .mif d t ty _ x => some (d, fun f _ => evMif t ty (oget x f))
  | .pck d c x y => some (d, fun f _ => evPck (oget c f) (oget x f) (oget y f))
  | .mmx d mx xs => some (d, fun f _ => match ogets xs f with | .int k a :: r => (match evMm mx (.int k a) r with | some v => some (True, v) | none => none) | _ => none)
  | .fld d off sz ag x => some (d, fun f _ => evFld off sz ag (oget x f))
  | .bld d zs ps => some (d, fun f _ => match evBld f zs ps with | some (p, l) => some (p, .agg l) | none => none)
  | .tas d et t e x => some (d, fun f _ => evTas et t e (oget x f))
  | .ifq d neg et es x y => some (d, fun f _ => match evIfq et es (oget x f) (oget y f) with | some (p, b) => some (p, .bool (if neg then !b else b)) | none => none)
  | .seq d neg x y => some (d, fun f _ => match evSeq (oget x f) (oget y f) with | some (p, b) => some (p, .bool (if neg then !b else b)) | none => none)
  | .cat d x y => some (d, fun f _ => evCat (oget x f) (oget y f))
  | .agq d neg n x y => some (d, fun f _ => match evAgq n (oget x f) (oget y f) with | some (p, b) => some (p, .bool (if neg then !b else b)) | none => none)
  | .bsf d eid e xs => some (d, fun f _ => evBsf eid e (ogets xs f))
  | .bxf d t pe x => some (d, fun f _ => evBxf t pe (oget x f))
  | .clo d fid caps => some (d, fun f _ => some (True, .clo fid (ogets caps f)))
  | .lkp d kt vt k t z ok x i => some (d, fun f h => evLkp kt vt k t z ok (oget x f) (oget i f) h)
  | _ => none

def fslots : List (Nat × Opd) → List Nat
  | [] => []
  | (_, x) :: r => x.sl ++ fslots r
def IOp.looks : IOp → List Nat
  | .mov _ x | .eqb _ _ _ x | .una _ _ x | .cnv _ _ x | .box _ _ x | .ld _ _ x | .fad _ _ _ _ _ x | .len _ _ x | .nlc _ x | .nlq _ _ x | .ext _ _ x | .mif _ _ _ _ x | .cvs _ x | .fld _ _ _ _ x | .tas _ _ _ _ x | .sl0 _ _ _ x | .bxf _ _ _ x => x.sl
  | .bin _ _ _ x y | .wrp _ _ _ x y | .shf _ _ _ x y | .cmp _ _ x y | .beq _ _ x y | .st _ x y | .iad _ _ _ x y | .aad _ _ _ x y | .app _ _ _ _ x y | .mk _ _ _ _ _ x y | .ifq _ _ _ _ x y | .seq _ _ x y | .cat _ x y | .agq _ _ _ x y => x.sl ++ y.sl
  | .gld _ _ | .alc _ _ | .mkm _ _ _ => []
  | .lkp _ _ _ _ _ _ _ x i => x.sl ++ i.sl
  | .mup _ _ _ _ x i v => x.sl ++ (i.sl ++ v.sl)
  | .mdl _ _ _ _ x i => x.sl ++ i.sl
  | .mdn _ _ _ x i => x.sl ++ i.sl
  | .bsl _ _ _ l | .bsf _ _ _ l | .mmx _ _ l | .clo _ _ l => slots l
  | .call _ f l _ _ => f.sl ++ slots l
  | .slc _ _ x lo hi => x.sl ++ (oslots lo ++ oslots hi)
  | .pck _ c x y => c.sl ++ (x.sl ++ y.sl)
  | .bld _ _ ps => fslots ps
def IOp.dst : IOp → Option Nat
  | .mov d _ | .eqb d _ _ _ | .una d _ _ | .cnv d _ _ | .box d _ _ | .ld d _ _ | .fad d _ _ _ _ _ | .len d _ _ | .nlc d _ | .nlq d _ _ | .ext d _ _ | .mif d _ _ _ _ | .cvs d _ | .fld d _ _ _ _ | .tas d _ _ _ _ | .ifq d _ _ _ _ _ | .bld d _ _ | .sl0 d _ _ _ | .bxf d _ _ _ | .clo d _ _ | .seq d _ _ _ | .agq d _ _ _ _ => some d
  | .cat d _ _ | .bin d _ _ _ _ | .wrp d _ _ _ _ | .shf d _ _ _ _ | .cmp d _ _ _ | .beq d _ _ _ | .iad d _ _ _ _ | .aad d _ _ _ _ | .app d _ _ _ _ _ | .mk d _ _ _ _ _ _ => some d
  | .gld d _ | .alc d _ => some d
  | .mkm d _ _ | .lkp d _ _ _ _ _ _ _ _ | .mdl d _ _ _ _ _ => some d
  | .mup _ _ _ _ _ _ _ => none
  | .mdn _ _ _ _ _ => none
  | .bsl d _ _ _ | .bsf d _ _ _ | .mmx d _ _ | .call d _ _ _ _ => some d
  | .slc d _ _ _ _ => some d
  | .pck d _ _ _ => some d
  | .st _ _ _ => none
def heapy : IOp → Bool
  | .ld _ _ _ | .iad _ _ _ _ _ | .lkp _ _ _ _ _ _ _ _ _ => true
  | .len _ s _ => !s
  | _ => false
def isCvs : IOp → Bool
  | .cvs _ _ => true
  | _ => false
def IOp.quiet (i : IOp) : Bool := (quietOf i).isSome

theorem quiet_ev {i : IOp} {d : Nat} {v : Fr → Heap → Option (Prop × SV)} (h : quietOf i = some (d, v)) (f : Fr) (hp : Heap) (nx : Nat) : ev i ⟨f, hp, nx⟩ = match v f hp with
    | some (p, y) => some (p, ⟨(d, y) :: f, hp, nx⟩)
    | none => none := by
  cases i <;> simp only [quietOf] at h <;> cases h <;> simp only [ev, SSt.put, sput] <;> (repeat' split) <;> simp_all [SSt.put, sput]

theorem oget_par {x : Opd} {f f' : Fr} (h : ∀ n ∈ x.sl, fget f' n = fget f n) : oget x f' = oget x f := by
  cases x with
  | s n => exact h n (by simp [Opd.sl])
  | c _ => rfl
theorem ogets_par {f f' : Fr} : ∀ {l : List Opd}, (∀ n ∈ slots l, fget f' n = fget f n) → ogets l f' = ogets l f
  | [], _ => rfl
  | x :: l, h => by
    simp only [ogets]
    rw [oget_par (fun n hn => h n (by simp [slots, hn])), ogets_par (fun n hn => h n (by simp [slots, hn]))]
theorem omap_par {f f' : Fr} {x : Option Opd} (h : ∀ n ∈ oslots x, fget f' n = fget f n) : x.map (oget · f') = x.map (oget · f) := by
  cases x with
  | none => rfl
  | some x => simp only [Option.map_some]; rw [oget_par h]

theorem evBld_par {f f' : Fr} : ∀ {ps : List (Nat × Opd)} {zs : List (List SV)}, (∀ n ∈ fslots ps, fget f' n = fget f n) → evBld f' zs ps = evBld f zs ps
  | [], _, _ => rfl
  | (i, x) :: r, zs, h => by
    simp only [evBld]; rw [oget_par (x := x) (fun n hn => h n (by simp [fslots, hn])), evBld_par (ps := r) (fun n hn => h n (by simp [fslots, hn]))]
theorem quiet_par {i : IOp} {d : Nat} {v : Fr → Heap → Option (Prop × SV)} (h : quietOf i = some (d, v)) {f f' : Fr} (hf : ∀ n ∈ i.looks, fget f' n = fget f n) (hp : Heap) : v f' hp = v f hp := by
  cases i <;> simp only [quietOf] at h <;> cases h <;> simp only [IOp.looks, List.mem_append] at hf
  case gld => rfl
  case slc x lo hi =>
    simp only []
    rw [oget_par (x := x) (fun n hn => hf n (.inl hn)), omap_par (x := lo) (fun n hn => hf n (.inr (.inl hn))), omap_par (x := hi) (fun n hn => hf n (.inr (.inr hn)))]
  case pck c x y =>
    simp only []
    rw [oget_par (x := c) (fun n hn => hf n (.inl hn)), oget_par (x := x) (fun n hn => hf n (.inr (.inl hn))), oget_par (x := y) (fun n hn => hf n (.inr (.inr hn)))]
  case mmx xs => simp only []; rw [ogets_par hf]
  case bsf xs => simp only []; rw [ogets_par hf]
  case agq x y => simp only []; rw [oget_par (x := x) (fun n hn => hf n (.inl hn)), oget_par (x := y) (fun n hn => hf n (.inr hn))]
  case bin x y => simp only []; rw [oget_par (x := x) (fun n hn => hf n (.inl hn)), oget_par (x := y) (fun n hn => hf n (.inr hn))]
  case wrp x y => simp only []; rw [oget_par (x := x) (fun n hn => hf n (.inl hn)), oget_par (x := y) (fun n hn => hf n (.inr hn))]
  case shf x y => simp only []; rw [oget_par (x := x) (fun n hn => hf n (.inl hn)), oget_par (x := y) (fun n hn => hf n (.inr hn))]
  case cmp x y => simp only []; rw [oget_par (x := x) (fun n hn => hf n (.inl hn)), oget_par (x := y) (fun n hn => hf n (.inr hn))]
  case beq x y => simp only []; rw [oget_par (x := x) (fun n hn => hf n (.inl hn)), oget_par (x := y) (fun n hn => hf n (.inr hn))]
  case bld zs ps => simp only []; rw [evBld_par hf]
  case clo caps => simp only []; rw [ogets_par hf]
  case cat x y => simp only []; rw [oget_par (x := x) (fun n hn => hf n (.inl hn)), oget_par (x := y) (fun n hn => hf n (.inr hn))]
  case seq x y => simp only []; rw [oget_par (x := x) (fun n hn => hf n (.inl hn)), oget_par (x := y) (fun n hn => hf n (.inr hn))]
  case ifq x y => simp only []; rw [oget_par (x := x) (fun n hn => hf n (.inl hn)), oget_par (x := y) (fun n hn => hf n (.inr hn))]
  case iad x y => simp only []; rw [oget_par (x := x) (fun n hn => hf n (.inl hn)), oget_par (x := y) (fun n hn => hf n (.inr hn))]
  case lkp x y => simp only []; rw [oget_par (x := x) (fun n hn => hf n (.inl hn)), oget_par (x := y) (fun n hn => hf n (.inr hn))]
  case aad x y => simp only []; rw [oget_par (x := x) (fun n hn => hf n (.inl hn)), oget_par (x := y) (fun n hn => hf n (.inr hn))]
  all_goals (simp only []; rw [oget_par hf])

theorem quiet_heap {i : IOp} {d : Nat} {v : Fr → Heap → Option (Prop × SV)} (h : quietOf i = some (d, v)) (hh : heapy i = false) (f : Fr) (h1 h2 : Heap) : v f h1 = v f h2 := by
  cases i <;> simp only [quietOf] at h <;> cases h <;> first | (cases hh; done) | rfl | skip
  rename_i str x
  simp only [heapy, Bool.not_eq_false'] at hh
  simp only [hh, if_true]
theorem quiet_mono {i : IOp} {d : Nat} {v : Fr → Heap → Option (Prop × SV)} (h : quietOf i = some (d, v)) {f : Fr} {z : Prop × SV} (hz : v f [] = some z) (h1 : Heap) : v f h1 = some z := by
  by_cases hh : heapy i = true
  · cases i <;> first | (cases hh; done) | skip
    · simp only [quietOf] at h; cases h
      simp only [evLd] at hz ⊢
      split at hz <;> simp_all [hget]
    · simp only [quietOf] at h; cases h
      simp only [evIad] at hz ⊢
      split at hz <;> simp_all [hget]
    · simp only [quietOf] at h; cases h
      simp only [heapy, Bool.not_eq_true'] at hh
      subst hh
      simp only [evLen, Bool.false_eq_true, if_false] at hz ⊢
      generalize oget _ f = y at hz ⊢
      split at hz <;> simp_all [hget]
    · simp only [quietOf] at h; cases h
      simp only [evLkp] at hz ⊢
      split at hz <;> simp_all [hget]
  · rw [quiet_heap h (by simpa using hh) f h1 []]; exact hz
end Go.Fw
