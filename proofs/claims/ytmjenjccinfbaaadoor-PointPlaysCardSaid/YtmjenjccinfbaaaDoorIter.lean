/- Iterators of the program: code that calls yield. -/
import Derived.Test.YtmjenjccinfbaaaDoorFwZ
import Derived.RangeFuncSeq
import Derived.OrdersIn
import Derived.TacticsIn
import Derived.OwnWalkIn
namespace Go.Fw
set_option linter.unusedVariables false
set_option linter.unusedSimpArgs false
open Go

section
variable {P : Program} {E : Nat → Value}

def Cap (cv : List (Nat × Value)) (a : Act) : Prop := ∀ p ∈ cv, a.tmps.getD p.1 undef = p.2
theorem Cap.put {cv : List (Nat × Value)} {a : Act} (h : Cap cv a) {d : Option Nat} (hd : ∀ p ∈ cv, d ≠ some p.1) (v : Value) : Cap cv (a.put d v) := by
  intro p hp
  cases d with
  | none => exact h p hp
  | some d =>
    have : d ≠ p.1 := fun e => hd p hp (by rw [e])
    show (a.tmps.setIfInBounds d v).getD p.1 undef = p.2
    rw [Array.getD_eq_getD_getElem?, Array.getElem?_setIfInBounds_ne this, ← Array.getD_eq_getD_getElem?]
    exact h p hp

theorem oper_keep {cv : List (Nat × Value)} {o : Oper} {a : Act} {w : World} {K K' : Act → World → Prop} {Q : Exit → Act → World → Prop} (hd : ∀ p ∈ cv, o.dst ≠ some p.1) (ha : Cap cv a) (hQ : ¬ LetsOut Q) (hK : ∀ a' w', Cap cv a' → K a' w' → K' a' w')
    (h : o.wp P a w K Q) : o.wpIn Fence.wide 0 P a w K' (fun ex a' w' => Cap cv a' ∧ Q ex a' w') := by
  unfold Oper.wpIn
  refine ⟨fun _ _ => trivial, ?_⟩
  have e : Oper.semAt Fence.wide.round a.eval o = execOp a.eval o := rfl
  rw [e]
  unfold Oper.wp at h
  generalize (execOp a.eval o).run P w = r at h ⊢
  unfold Oper.upon at h
  split at h
  · exact hK _ _ (ha.put hd _) h
  · exact hK _ _ (ha.put hd _) h
  · exact hK _ _ (Cap.put (a := { a with defers := _ :: a.defers }) ha hd _) h
  · refine ⟨fun hh => (by cases hh), callsIn_wide.2 (h.mono fun e w'' he => ?_)⟩
    cases e with
    | returned v => exact hK _ _ (ha.put hd _) he
    | panicked ch => exact ⟨ha, he⟩
    | outgrown => exact absurd he hQ
  · exact ⟨fun hh => (by cases hh), fun c cs _ => (by obtain ⟨v, w', h1, h2⟩ := h c cs; exact ⟨v, w', hK _ _ (ha.put hd _) h1, stepsIn_wide.2 h2⟩)⟩
  · exact ⟨ha, h⟩
  · exact h.elim
theorem list_keep {cv : List (Nat × Value)} {ops : Array Oper} {Q : Exit → Act → World → Prop} (hQ : ¬ LetsOut Q) : ∀ (l : List Oper) (a : Act) (w : World), (∀ o ∈ l, ∀ p ∈ cv, o.dst ≠ some p.1) → Cap cv a → wpList P ops Q l a w → wpListIn Fence.wide 0 P ops (fun ex a' w' => Cap cv a' ∧ Q ex a' w') l a w := by
  intro l
  induction l with
  | nil => intro a w _ ha h; exact ⟨ha, h⟩
  | cons o l ih =>
    intro a w hd ha h
    simp only [wpList] at h
    simp only [wpListIn]
    split
    · rename_i hw
      rw [if_pos hw] at h
      rcases h with h | ⟨_, h⟩
      · exact oper_keep (hd o (by simp)) ha hQ (fun a w ha h => ih a w (fun o ho => hd o (by simp [ho])) ha h) h
      · exact absurd h hQ
    · rename_i hw
      rw [if_neg hw] at h
      exact ⟨fun _ _ => trivial, ih _ _ (fun o ho => hd o (by simp [ho])) (ha.put (hd o (by simp)) _) h⟩
theorem any_keep {cv : List (Nat × Value)} {md : Region.Mode} {ops : Array Oper} {Q : Exit → Act → World → Prop} (hQ : ¬ LetsOut Q) (hd : ∀ (i : Nat) (o : Oper), ops[i]? = some o → ∀ p ∈ cv, o.dst ≠ some p.1) : ∀ (f : Nat) (listed : Array Bool) (a : Act) (w : World), Cap cv a → wpAny P md ops Q f listed a w → wpAnyIn Fence.wide 0 P md ops (fun ex a' w' => Cap cv a' ∧ Q ex a' w') f listed a w := by
  intro f
  induction f with
  | zero => intro listed a w ha h; exact ⟨h.1, ha, h.2⟩
  | succ f ih =>
    intro listed a w ha h
    refine ⟨fun hr => ⟨ha, h.1 hr⟩, fun i hi => ?_⟩
    have h2 := h.2 i hi
    unfold wpOp at h2
    unfold wpOpIn
    split
    · rename_i e; rw [e] at h2; exact ih _ _ _ ha h2
    · rename_i o e
      rw [e] at h2
      simp only at h2
      split
      · rename_i hw
        rw [if_pos hw] at h2
        rcases h2 with h2 | ⟨_, h2⟩
        · exact oper_keep (hd i o e) ha hQ (fun a w ha h => ih _ a w ha h) h2
        · exact absurd h2 hQ
      · rename_i hw
        rw [if_neg hw] at h2
        exact ⟨fun _ _ => trivial, ih _ _ _ (ha.put (hd i o e) _) h2⟩

def flatV : SV → Bool
  | .int _ _ | .bool _ => true
  | _ => false
def flatY : SV → Bool
  | .int _ _ | .bool _ | .vec _ => true
  | .agg l => l.all flatV
  | _ => false
def flatT : Tok → Bool
  | .arr _ (.int _) _ => true
  | _ => false
theorem flatV_den {ρ ρ' : Nat → Value} {H H' : FH} {x : SV} {v : Value} (hf : flatV x = true) (h : Den P E ρ H x v) : Den P E ρ' H' x v := by
  cases x <;> first | (cases hf; done) | skip
  · cases h with | int h => exact .int h
  · cases h with | bool => exact .bool
theorem flatV_lt {x : SV} (hf : flatV x = true) (n : Nat) : x.lt n := by
  cases x <;> first | (cases hf; done) | exact trivial
theorem flatC_den {ρ ρ' : Nat → Value} {H H' : FH} : ∀ {l : List SV} {cs : List Value}, l.all flatV = true → DenC P E ρ H l cs → DenC P E ρ' H' l cs
  | _, _, _, .nil => .nil
  | _ :: _, _ :: _, hf, .one h h1 h' => by
    simp only [List.all_cons, Bool.and_eq_true] at hf
    exact .one (flatV_den hf.1 h) h1 (flatC_den hf.2 h')
  | _ :: _, _, hf, .arrc h h' => by
    simp only [List.all_cons, Bool.and_eq_true] at hf
    exact absurd hf.1 (by simp [flatV])
theorem flatY_den {ρ : Nat → Value} {H H' : FH} {x : SV} {v : Value} (hf : flatY x = true) (h : Den P E ρ H x v) : Den P E ρ H' x v := by
  cases x <;> first | (cases hf; done) | skip
  · cases h with | int h => exact .int h
  · cases h with | bool => exact .bool
  · cases h with | vec h => exact .vec h
  · cases h with | agg h => exact .agg (flatC_den hf h)
theorem repL_int {H H' : FH} {k : IntKind} : ∀ {n : Nat} {l : List D} {xs : List Value}, RepL P E H (List.replicate n (.int k)) l xs → RepL P E H' (List.replicate n (.int k)) l xs := by
  intro n
  induction n with
  | zero => intro l xs h; cases h; exact .nil
  | succ n ih =>
    intro l xs h
    rw [List.replicate_succ] at h ⊢
    cases h with
    | cons h1 h2 => cases h1 with | int h1 => exact .cons (.int h1) (ih h2)
theorem flatT_sat {ρ : Nat → Value} {H H' : FH} (hle : H'.le H) {w : World} {n : Nat} {t : Tok} (hf : flatT t = true) (h : TokSat P E ρ H w n t) : TokSat P E ρ H' w n t := by
  unfold flatT at hf
  split at hf
  · obtain ⟨h1, xs, h2, h3, h4⟩ := h
    refine ⟨h1, xs, h2, repL_int h3, fun b hb o => ?_⟩
    cases e : H' b o with
    | none => rfl
    | some v => have := h4 b hb o; rw [hle b o v e] at this; cases this
  · cases hf

def keepF : Fr → Fr
  | [] => []
  | (i, x) :: r => (i, match x with | .int k n => .int k n | .bool b => .bool b | _ => .any) :: keepF r
def yieldVC (items : List (List SV × Heap)) (cf : Fr) (d : Nat) (xs : List SV) (S : SSt) (K : Option Nat → SSt → Prop) (k : Option Nat) : Prop :=
  ∃ i it, k = some i ∧ items[i]? = some it ∧ it.1.length = xs.length ∧ it.1.all flatY = true ∧ it.2.all (fun p => flatT p.2) = true ∧ Leq 0 { f := frOf 0 xs, h := S.h, nx := S.nx } { f := frOf 0 it.1, h := it.2, nx := 64 } ∧
    K (some (i + 1)) ⟨(d, .bool true) :: (cf ++ keepF S.f), [], 0⟩ ∧ K none ⟨(d, .bool false) :: (cf ++ keepF S.f), [], 0⟩
def yOr (Γ : Tab) (yv : Value) (items : List (List SV × Heap)) (cf : Fr) (d : Nat) (f : Opd) (xs : List Opd) (ts : List (Option TypeId)) (fz : Bool) (S : SSt) (K : Option Nat → SSt → Prop) (k : Option Nat) (v : SV) : Prop := match v with
  | .raw v => v = yv ∧ yieldVC items cf d (ogets xs S.f) S K k
  | _ => vOp Γ (.call d f xs ts fz) S (K k)
def vyOps (Γ : Tab) (yv : Value) (items : List (List SV × Heap)) (cf : Fr) : List GOp → (Option Nat → SSt → Prop) → Option Nat → SSt → Prop
  | [], K, k, S => K k S
  | .u (.call d f xs ts fz) :: r, K, k, S => yOr Γ yv items cf d f xs ts fz S (vyOps Γ yv items cf r K) k (oget f S.f)
  | .u i :: r, K, k, S => vOp Γ i S (vyOps Γ yv items cf r K k)
  | .g .. :: _, _, _, _ => False
def allU : List GOp → Bool
  | [] => true
  | .u _ :: r => allU r
  | .g .. :: _ => false
def vy (Γ : Tab) (yv : Value) (items : List (List SV × Heap)) (cf : Fr) : IC → (Ex → Option Nat → SSt → Prop) → Option Nat → SSt → Prop
  | .seq a b, Q, k, S => vy Γ yv items cf a (fun ex k' S' => match ex with
    | .nrm => vy Γ yv items cf b Q k' S'
    | ex => Q ex k' S') k S
  | .cond c t e, Q, k, S => match oget c S.f with
    | .bool b => (b = true → vy Γ yv items cf t Q k S) ∧ (b = false → vy Γ yv items cf e Q k S)
    | _ => False
  | .block id b, Q, k, S => vy Γ yv items cf b (fun ex k' S' => match ex with
    | .ext j => if j = id then Q .nrm k' S' else Q (.ext j) k' S'
    | ex => Q ex k' S') k S
  | .loop b, Q, k, S => ∃ (α : Type) (I : α → SSt) (ct : α → Option Nat) (μ : α → Nat) (a0 : α), Leq 0 S (I a0) ∧ ct a0 = k ∧ ∀ a, vy Γ yv items cf b (fun ex k' S' => match ex with
    | .nrm => ∃ a', μ a' < μ a ∧ ct a' = k' ∧ Leq 0 S' (I a')
    | ex => Q ex k' S') (ct a) (I a)
  | .ops l, Q, k, S => if allU l = true then vyOps Γ yv items cf l (Q .nrm) k S else vOps Γ l (Q .nrm k) S
  | .rng .., _, _, _ => False
  | ic, Q, k, S => vc Γ 0 ic (fun ex => Q ex k) S

def capFree (m : Nat) : Code → Bool
  | .region _ ops _ => ops.toList.all fun o => match o.dst with
    | some d => decide (m ≤ d)
    | none => true
  | .seq a b => capFree m a && capFree m b
  | .cond _ a b => capFree m a && capFree m b
  | .block _ b => capFree m b
  | .loop b => capFree m b
  | .scope b => capFree m b
  | .skip | .exit _ | .ret | .label _ => true
  | _ => false

structure YI (E : Nat → Value) (W : Opts) (H0 : FH) (J : Nat → World → Prop) (Jx : World → Prop) (k : Option Nat) (c : Ctx) : Prop where
  own : ∀ b, ¬ c.own b
  o : c.o = []
  nb : c.nb = 0
  N : W.N = c.N
  G : W.gl = c.G
  H0 : c.H0 = H0
  dfs : c.dfs = []
  ks : c.ks = []
  err : ErrC E c
  js : ∀ i, k = some i → J i c.w0
  jn : k = none → Jx c.w0
def SY (P : Program) (E : Nat → Value) (W : Opts) (H0 : FH) (J : Nat → World → Prop) (Jx : World → Prop) (cv : List (Nat × Value)) (Q : Ex → Option Nat → SSt → Prop) (ex : Exit) (a : Act) (w : World) : Prop :=
  ∃ c k e S ρ H, YI E W H0 J Jx k c ∧ exOf ex = some e ∧ Q e k S ∧ Sat P E c ρ H S a w ∧ Cap cv a
theorem SY.no {W : Opts} {H0 : FH} {J : Nat → World → Prop} {Jx : World → Prop} {cv : List (Nat × Value)} {Q : Ex → Option Nat → SSt → Prop} : ¬ LetsOut (SY P E W H0 J Jx cv Q) := fun ⟨a, w, c, k, e, S, ρ, H, _, he, _⟩ => by cases he

theorem run_callYield {a : Act} {o : Oper} {x : Operand} {xs : List Operand} {ts : Array TypeId} (ho : o.op = .call { callee := .value x, args := xs.toArray, argTypes := ts }) {l : Nat} (hx : a.eval x = .func (.yield l) #[] #[]) {w : World} : (execOp a.eval o).run P w = (Instr.yield l (xs.map a.eval).toArray).run P w := by
  simp [execOp, ho, resolve, hx, Deferred.ofValue, invoke, Sem.run_bind, Sem.run, pure]

theorem fgetA {f g : Fr} {i : Nat} : fget (f ++ g) i = fget f i ∨ fget (f ++ g) i = fget g i := by
  induction f with
  | nil => exact .inr rfl
  | cons p f ih =>
    obtain ⟨j, x⟩ := p
    simp only [List.cons_append, fget]
    split
    · exact .inl rfl
    · exact ih
theorem keepF_get {f : Fr} {i : Nat} : fget (keepF f) i = .any ∨ (fget (keepF f) i = fget f i ∧ flatV (fget f i) = true) := by
  induction f with
  | nil => exact .inl rfl
  | cons p f ih =>
    obtain ⟨j, x⟩ := p
    simp only [keepF, fget]
    by_cases e : j = i
    · rw [if_pos e, if_pos e]
      cases x <;> first | exact .inl rfl | exact .inr ⟨rfl, rfl⟩
    · rw [if_neg e, if_neg e]
      exact ih
theorem denV_of {ρ : Nat → Value} {H : FH} : ∀ {xs : List SV} {vs : List Value} {k : Nat}, xs.length = vs.length → (∀ i, Den P E ρ H (fget (frOf k xs) (k + i)) (vs.getD i undef)) → DenV P E ρ H xs vs
  | [], [], _, _, _ => .nil
  | x :: xs, v :: vs, k, hl, h => by
    refine .cons ?_ (denV_of (k := k + 1) (by simpa using hl) (fun i => ?_))
    · have := h 0
      simpa [frOf, fget] using this
    · have := h (i + 1)
      simp only [frOf, fget, List.getD_cons_succ] at this
      rw [if_neg (by omega)] at this
      rwa [show k + 1 + i = k + (i + 1) by omega]
structure CF (P : Program) (E : Nat → Value) (G : Nat → Bool) (H0 : FH) (cf : Fr) (cv : List (Nat × Value)) (m : Nat) (yv : Value) : Prop where
  get : ∀ i, fget cf i = .any ∨ ∃ v, (i, v) ∈ cv ∧ (∀ ρ, Den P E ρ H0 (fget cf i) v) ∧ (fget cf i).lt 0
  low : ∀ p ∈ cv, p.1 < m
  glob : ∀ g, G g = true → H0 g 0 = some (E g)

theorem denV_flat {ρ : Nat → Value} {H H' : FH} : ∀ {xs : List SV} {vs : List Value}, xs.all flatY = true → DenV P E ρ H xs vs → DenV P E ρ H' xs vs
  | _, _, _, .nil => .nil
  | _ :: _, _ :: _, hf, .cons h1 h2 => by
    simp only [List.all_cons, Bool.and_eq_true] at hf
    exact .cons (flatY_den hf.1 h1) (denV_flat hf.2 h2)
theorem ltL_frOf {n : Nat} : ∀ {xs : List SV} {k : Nat}, (∀ i, (fget (frOf k xs) i).lt n) → SV.ltL n xs
  | [], _, _ => trivial
  | x :: xs, k, h => by
    refine ⟨?_, ltL_frOf (k := k + 1) (fun i => ?_)⟩
    · have := h k
      simpa [frOf, fget] using this
    · have := h i
      simp only [frOf, fget] at this
      split at this
      · rename_i e; rw [frOf_low (by omega)]; exact trivial
      · exact this
theorem mem_hget {h : Heap} {n : Nat} {t : Tok} (hn : hget h n = some t) : (n, t) ∈ h := by
  induction h with
  | nil => simp [hget] at hn
  | cons p h ih =>
    obtain ⟨m, u⟩ := p
    simp only [hget] at hn
    split at hn
    · rename_i e; cases hn; subst e; exact List.mem_cons_self ..
    · exact List.mem_cons_of_mem _ (ih hn)

theorem yield_sound {W : Opts} {H0 : FH} {J : Nat → World → Prop} {Jx : World → Prop} {cv : List (Nat × Value)} {cf : Fr} {m : Nat} {l : Nat} (hcf : CF P E W.gl H0 cf cv m (.func (.yield l) #[] #[])) {items : List (List SV × Heap)}
    (hY : ∀ i (hi : i < items.length) (W1 W' : World) (ρ1 : Nat → Value) (H1 : FH) (vs : List Value), J i W1 → Grown W1 W' → (∀ b o v, H1 b o = some v → H0 b o = some v ∨ W1.heap.size ≤ b) → FHin H1 W' → H0.le H1 →
      HSat P E ρ1 H1 W' items[i].2 → (∀ n t, hget items[i].2 n = some t → n < 64 ∧ t.lt 64) → (∀ n t b, hget items[i].2 n = some t → blk (ρ1 n) = some b → W1.heap.size ≤ b) → DenV P E ρ1 H1 items[i].1 vs → SV.ltL 64 items[i].1 →
      YieldAt Fence.wide 0 P l vs.toArray W' fun e W'' => (e = .returned (.bool true) ∧ J (i + 1) W'' ∧ FHin H0 W'' ∧ ErrW E W.gl H0 W'') ∨ (e = .returned (.bool false) ∧ Jx W'' ∧ FHin H0 W'' ∧ ErrW E W.gl H0 W''))
    {k : Option Nat} {c : Ctx} {ρ : Nat → Value} {H : FH} {S : SSt} {a : Act} {w : World} (hy : YI E W H0 J Jx k c) (s : Sat P E c ρ H S a w) (ha : Cap cv a) {o : Oper} {d : Nat} {fo : Opd} {args : List Opd} {ts : List (Option TypeId)} {fz : Bool}
    (hc : comp P W o = some (.call d fo args ts fz)) (hd : ∀ p ∈ cv, o.dst ≠ some p.1) (hf : oget fo S.f = .raw (.func (.yield l) #[] #[])) {KS : Option Nat → SSt → Prop} (h : yieldVC items cf d (ogets args S.f) S KS k)
    {K : Act → World → Prop} {Q : Exit → Act → World → Prop} (hK : ∀ c' k' S' ρ' H' a' w', KS k' S' → YI E W H0 J Jx k' c' → Sat P E c' ρ' H' S' a' w' → Cap cv a' → K a' w') : o.wpIn Fence.wide 0 P a w K Q := by
  obtain ⟨x, xs, tys, ho, hdst, hdN, hx, hxs⟩ := comp_call hc
  obtain ⟨i, it, hk, hit, hlen, hfl1, hfl2, hleq, hk1, hk2⟩ := h
  have sx := s.opds hxs
  have sf := (s.opd hx).1
  rw [hf] at sf
  generalize hvx : a.eval x = vx at sf
  cases sf with | raw _ =>
  have hil : i < items.length := (List.getElem?_eq_some_iff.1 hit).1
  have hie : items[i] = it := (List.getElem?_eq_some_iff.1 hit).2
  have hle : H0.le H := hy.H0 ▸ s.hle
  let c1 : Ctx := { w0 := c.w0, own := c.own, N := xs.length, o := [], nb := 0, G := c.G, ρ0 := ρ, H0 := H0 }
  have hh : ∀ n t, hget (S.h ++ []) n = some t → hget (S.h ++ c.o) n = some t := fun n t h => by rw [hy.o]; exact h
  have s1 : Sat P E c1 ρ H { f := frOf 0 (ogets args S.f), h := S.h, nx := S.nx } { tmps := (xs.map a.eval).toArray, defers := [] } w := by
    refine ⟨fun j => ?_, by simp [c1], ⟨rfl, fun D hD => (by cases hD), fun x hx => (by cases hx), .nil⟩, ⟨fun n t h => s.hs.tok n t (hh n t h), fun n m t u b h1 h2 => s.hs.dis n m t u b (hh _ _ h1) (hh _ _ h2)⟩, s.hin, s.kept, fun n t b h1 h2 => s.ownb n t b (hh _ _ h1) h2, fun j => frOf_lt sx.2, fun n t h => s.hlt n t (hh _ _ h), fun n t h => (by cases h), Nat.zero_le _, fun n t h => rfl, s.glob, fun n hn => absurd hn (Nat.not_lt_zero n), hle⟩
    have := frOf_den (k := 0) (i := j) sx.1 (Nat.zero_le _)
    rw [Nat.sub_zero] at this
    simpa [Array.getD_eq_getD_getElem?, List.getD_eq_getElem?_getD] using this
  obtain ⟨ρ2, H2, s2⟩ := Leq.sat (c := c1) hleq s1
  have h2n : ∀ n t, hget it.2 n = some t → hget (it.2 ++ []) n = some t := fun n t h => by rw [List.append_nil]; exact h
  have hsx : HSat P E ρ2 H0 w it.2 := ⟨fun n t hn => flatT_sat s2.hle (by have := List.all_eq_true.1 hfl2 _ (mem_hget hn); exact this) (s2.hs.tok n t (h2n n t hn)), fun n m t u b h1 h2 => s2.hs.dis n m t u b (h2n _ _ h1) (h2n _ _ h2)⟩
  have hlv : it.1.length = (xs.map a.eval).length := by rw [hlen]; exact denV_length sx.1
  have hden : DenV P E ρ2 H0 it.1 (xs.map a.eval) := denV_flat hfl1 (denV_of (k := 0) (H := H2) hlv (fun j => by
    have := s2.fr (0 + j)
    simpa [Array.getD_eq_getD_getElem?, List.getD_eq_getElem?_getD] using this))
  have hyy := hY i hil c.w0 w ρ2 H0 (xs.map a.eval) (hy.js i hk) ⟨s.kept.os, s.kept.tape, s.kept.output, s.kept.size, fun b hb _ => s.kept.block b hb (hy.own b)⟩ (fun b o v h => .inl h) (fun b o v hv => s.hin b o v (hle b o v hv)) (FH.le_refl H0)
    (by rw [hie]; exact hsx) (by rw [hie]; exact fun n t h => s2.hlt n t (h2n n t h)) (by rw [hie]; exact fun n t b h1 h2 => (s2.ownb n t b (h2n n t h1) h2).resolve_left (hy.own b)) (by rw [hie]; exact hden) (by rw [hie]; exact ltL_frOf (k := 0) s2.flt)
  obtain ⟨fn, tmps, assign, body, hrun, hR⟩ := hyy
  have hdf : a.defers = [] := by have := s.df.eq; rw [hy.dfs] at this; exact this
  have fin : ∀ (b : Bool) (k' : Option Nat) (w' : World), (∀ i, k' = some i → J i w') → (k' = none → Jx w') → FHin H0 w' → ErrW E W.gl H0 w' → KS k' ⟨(d, .bool b) :: (cf ++ keepF S.f), [], 0⟩ → K (a.put (some d) (.bool b)) w' := by
    intro b k' w' hj hjx hin herr hks
    let c' : Ctx := { w0 := w', own := fun _ => False, N := c.N, o := [], nb := 0, G := c.G, ρ0 := ρ, H0 := H0 }
    have hy' : YI E W H0 J Jx k' c' := ⟨fun _ h => h, rfl, rfl, hy.N, hy.G, rfl, rfl, rfl, fun g ad T hg he => ⟨fun h => h, herr g ad T (hy.G ▸ hg) he⟩, hj, hjx⟩
    have s' : Sat P E c' ρ H0 ⟨cf ++ keepF S.f, [], 0⟩ a w' := by
      refine ⟨fun j => ?_, s.sz, ⟨hdf, fun D hD => (by cases hD), fun x hx => (by cases hx), .nil⟩, ⟨fun n t h => (by simp [hget, c'] at h), fun n m t u b h => (by simp [hget, c'] at h)⟩, hin, Kept.refl _ _, fun n t b h => (by simp [hget, c'] at h), fun j => ?_, fun n t h => (by simp [hget, c'] at h), fun n t h => (by cases h), Nat.le_refl _, fun n t h => (by cases h), fun g hg => ?_, fun n hn => absurd hn (Nat.not_lt_zero n), FH.le_refl H0⟩
      · rcases fgetA (f := cf) (g := keepF S.f) (i := j) with e | e
        · rw [e]
          rcases hcf.get j with e2 | ⟨v, hv, hd2, _⟩
          · rw [e2]; exact .any
          · rw [ha _ hv]; exact hd2 ρ
        · rw [e]
          rcases keepF_get (f := S.f) (i := j) with e2 | ⟨e2, hfl⟩
          · rw [e2]; exact .any
          · rw [e2]; exact flatV_den hfl (s.fr j)
      · rcases fgetA (f := cf) (g := keepF S.f) (i := j) with e | e
        · rw [e]
          rcases hcf.get j with e2 | ⟨v, hv, _, hl2⟩
          · rw [e2]; exact trivial
          · exact hl2
        · rw [e]
          rcases keepF_get (f := S.f) (i := j) with e2 | ⟨e2, hfl⟩
          · rw [e2]; exact trivial
          · rw [e2]; exact flatV_lt hfl 0
      · exact hcf.glob g (hy.G ▸ hg)
    exact hK c' k' _ ρ H0 _ _ hks hy' (s'.put .bool trivial (hy.N ▸ hdN)) (ha.put (d := some d) (fun p hp => hdst ▸ hd p hp) _)
  refine ⟨fun _ _ => trivial, ?_⟩
  have e : Oper.semAt Fence.wide.round a.eval o = execOp a.eval o := rfl
  rw [e, run_callYield ho hvx, hrun, Oper.uponIn_round]
  refine ⟨fun hh => (by cases hh), hR.mono ?_⟩
  rintro e w' (⟨rfl, hj, hin, herr⟩ | ⟨rfl, hj, hin, herr⟩)
  · simp only [hdst]
    exact fin true (some (i + 1)) w' (fun j e => by cases e; exact hj) (fun e => by cases e) hin herr hk1
  · simp only [hdst]
    exact fin false none w' (fun j e => by cases e) (fun _ => hj) hin herr hk2

section
variable {W : Opts} {H0 : FH} {J : Nat → World → Prop} {Jx : World → Prop} {cv : List (Nat × Value)} {cf : Fr} {m : Nat} {l : Nat} {items : List (List SV × Heap)}
def YS (P : Program) (E : Nat → Value) (W : Opts) (H0 : FH) (J : Nat → World → Prop) (Jx : World → Prop) (l : Nat) (items : List (List SV × Heap)) : Prop :=
  ∀ i (hi : i < items.length) (W1 W' : World) (ρ1 : Nat → Value) (H1 : FH) (vs : List Value), J i W1 → Grown W1 W' → (∀ b o v, H1 b o = some v → H0 b o = some v ∨ W1.heap.size ≤ b) → FHin H1 W' → H0.le H1 →
      HSat P E ρ1 H1 W' items[i].2 → (∀ n t, hget items[i].2 n = some t → n < 64 ∧ t.lt 64) → (∀ n t b, hget items[i].2 n = some t → blk (ρ1 n) = some b → W1.heap.size ≤ b) → DenV P E ρ1 H1 items[i].1 vs → SV.ltL 64 items[i].1 →
      YieldAt Fence.wide 0 P l vs.toArray W' fun e W'' => (e = .returned (.bool true) ∧ J (i + 1) W'' ∧ FHin H0 W'' ∧ ErrW E W.gl H0 W'') ∨ (e = .returned (.bool false) ∧ Jx W'' ∧ FHin H0 W'' ∧ ErrW E W.gl H0 W'')
abbrev yV (l : Nat) : Value := .func (.yield l) #[] #[]

theorem vyOps_sound (hE : Errs2 P W.et E) {Γ : Tab} (hΓ : AllValid P E W.gl Γ) (hcf : CF P E W.gl H0 cf cv m (yV l)) (hY : YS P E W H0 J Jx l items) {all : Array Oper} {KS : Option Nat → SSt → Prop} {Q : Ex → Option Nat → SSt → Prop}
    (hK : ∀ c' k' S' ρ' H' a' w', KS k' S' → YI E W H0 J Jx k' c' → Sat P E c' ρ' H' S' a' w' → Cap cv a' → SY P E W H0 J Jx cv Q .normal a' w') :
    ∀ {ol : List Oper} {gl : List GOp} {k : Option Nat} {c : Ctx} {ρ : Nat → Value} {H : FH} {S : SSt} {a : Act} {w : World}, (∀ o ∈ ol, ∀ p ∈ cv, o.dst ≠ some p.1) → compOps P W all ol = some gl → allU gl = true → YI E W H0 J Jx k c → Sat P E c ρ H S a w → Cap cv a → vyOps Γ (yV l) items cf gl KS k S →
      wpListIn Fence.wide 0 P all (fun ex a' w' => Cap cv a' ∧ SY P E W H0 J Jx cv Q ex a' w') ol a w := by
  intro ol
  induction ol with
  | nil =>
    intro gl k c ρ H S a w _ hc _ hy s ha h
    simp only [compOps] at hc; cases hc
    exact ⟨ha, hK _ _ _ _ _ _ _ h hy s ha⟩
  | cons o ol ih =>
    intro gl k c ρ H S a w hd hc hu hy s ha h
    simp only [compOps] at hc
    split at hc
    · rename_i i r e1 e2 e3
      cases hc
      have hg : o.guard = none := by
        unfold gSlot at e2
        split at e2
        · assumption
        · split at e2 <;> cases e2
      have hdo := hd o (by simp)
      have hdr : ∀ o ∈ ol, ∀ p ∈ cv, o.dst ≠ some p.1 := fun o ho => hd o (by simp [ho])
      simp only [wpListIn, Region.wanted, hg, if_true]
      have one : vOp Γ i S (vyOps Γ (yV l) items cf r KS k) → o.wpIn Fence.wide 0 P a w (wpListIn Fence.wide 0 P all (fun ex a' w' => Cap cv a' ∧ SY P E W H0 J Jx cv Q ex a' w') ol) (fun ex a' w' => Cap cv a' ∧ SY P E W H0 J Jx cv Q ex a' w') := fun h =>
        oper_keep (Q := SY P E W H0 J Jx cv Q) (K := fun a' w' => ∃ S' ρ' H', vyOps Γ (yV l) items cf r KS k S' ∧ Sat P E c ρ' H' S' a' w') hdo ha SY.no (fun a' w' ca ⟨S', ρ', H', h', s'⟩ => ih hdr e3 hu hy s' ca h')
          (vOp_sound hE hy.N hy.G ⟨hy.err, rfl⟩ (hy.G ▸ hΓ) s e1 h (fun S' h' ρ' H' a' w' s' => ⟨S', ρ', H', h', s'⟩))
      cases i <;> first | exact one h | skip
      rename_i d fo args ts fz
      simp only [vyOps] at h
      unfold yOr at h
      split at h
      · rename_i v hv
        obtain ⟨rfl, h⟩ := h
        exact yield_sound hcf hY hy s ha e1 hdo hv h (fun c' k' S' ρ' H' a' w' h' hy' s' ca => ih hdr e3 hu hy' s' ca h')
      · exact one h
    · exfalso
      split at hc
      · split at hc
        · cases hc; simp [allU] at hu
        · cases hc
      · cases hc; simp [allU] at hu
    · cases hc

theorem vy_sound (hE : Errs2 P W.et E) {Γ : Tab} (hΓ : AllValid P E W.gl Γ) (hcf : CF P E W.gl H0 cf cv m (yV l)) (hY : YS P E W H0 J Jx l items) {R : List Nat} : ∀ {code : Code}, capFree m code = true → ∀ {ic : IC} {L X : List Nat} {Q : Ex → Option Nat → SSt → Prop} {k : Option Nat} {c : Ctx} {ρ : Nat → Value} {H : FH} {S : SSt} {a : Act} {w : World},
    compC P W code = some ic → vy Γ (yV l) items cf (trimIC R ic L X).1 Q k S → YI E W H0 J Jx k c → Sat P E c ρ H S a w → Cap cv a → code.wpIn Fence.wide 0 P (SY P E W H0 J Jx cv Q) a w := by
  intro code
  induction code with
  | skip => intro hn ic L X Q k c ρ H S a w hc h hy s ha; simp only [compC] at hc; cases hc; simp only [trimIC, vy, vc] at h; exact wpIn_skip ⟨c, k, .nrm, S, ρ, H, hy, rfl, h, s, ha⟩
  | region id ops draw =>
    intro hn ic L X Q k c ρ H S a w hc h hy s ha
    have hd : ∀ o ∈ ops.toList, ∀ p ∈ cv, o.dst ≠ some p.1 := fun o ho p hp e => by
      have := List.all_eq_true.1 (show ops.toList.all _ = true from hn) o ho
      rw [e] at this
      have h2 := of_decide_eq_true this
      have h3 := hcf.low p hp
      omega
    have hd2 : ∀ (i : Nat) (o : Oper), ops[i]? = some o → ∀ p ∈ cv, o.dst ≠ some p.1 := fun i o e => hd o (Array.mem_toList_iff.2 (Array.mem_of_getElem? e))
    have hLo : ∀ Q, ¬ LetsOut (SQ P E c Q) := fun Q ⟨a, w, e, S, ρ, H, he, _⟩ => by cases he
    have up : ∀ {cd : Code}, cd.wpIn Fence.wide 0 P (fun ex a' w' => Cap cv a' ∧ SQ P E c (fun ex S' => Q ex k S') ex a' w') a w → cd.wpIn Fence.wide 0 P (SY P E W H0 J Jx cv Q) a w := fun h => Code.wpIn_mono (fun ex a' w' ⟨ca, e, S', ρ', H', he, hq, s'⟩ => ⟨c, k, e, S', ρ', H', hy, he, hq, s', ca⟩) h
    have hC : ErrC E c ∧ W.et = W.et := ⟨hy.err, rfl⟩
    have hΓ' : AllValid P E c.G Γ := hy.G ▸ hΓ
    cases draw with
    | true =>
      simp only [compC] at hc
      split at hc
      · rename_i fz gl e
        have key : ∀ {ρ : Nat → Value} {H : FH} {S : SSt}, Sat P E c ρ H S a w → vD Γ gl (fun S' => Q .nrm k (S'.trim L)) (Fw.frzL (ogets fz S.f) S) → Code.wpIn Fence.wide 0 P (.region id ops true) (SY P E W H0 J Jx cv Q) a w := by
          intro ρ H S s h
          obtain ⟨H', _, s'⟩ := s.frzL (l := ogets fz S.f)
          obtain ⟨h1, h2, h3⟩ := rgn_any (id := id) (Q := SQ P E c (fun ex S' => Q ex k S')) hE hy.N hy.G hC hΓ' (fun S' h' ρ' H' a' w' s' => ⟨.nrm, S'.trim L, ρ', H', rfl, h', s'.trim⟩) e s' h
          exact up (wpIn_region_any h1 (any_keep (hLo _) hd2 _ _ _ _ ha h2))
        split at hc
        · cases hc
          simp only [trimIC, vy, vc] at h
          exact key s h
        · cases hc
          simp only [trimIC, vy, vc] at h
          obtain ⟨H1, s1⟩ := s.frpL (xs := fpOf P W gl) (fun x hx => by
            unfold fpOf at hx
            obtain ⟨p, _, rfl⟩ := List.mem_map.1 hx
            rfl)
          exact key s1 h
      · obtain ⟨⟨fz, gl, l1, l2⟩, e, rfl⟩ := Option.map_eq_some_iff.1 hc
        simp only [trimIC, vy, vc] at h
        obtain ⟨H', _, s'⟩ := s.frzL (l := ogets fz S.f)
        obtain ⟨h1, h2, h3⟩ := rgnB_any (Q := SQ P E c (fun ex S' => Q ex k S')) hE hy.N hy.G hC hΓ' (fun S' h' ρ' H' a' w' s' => ⟨.nrm, S'.trim L, ρ', H', rfl, h', s'.trim⟩) e s' h
        exact up (wpIn_region_any h1 (any_keep (hLo _) hd2 _ _ _ _ ha h2))
    | false =>
      simp only [compC] at hc
      split at hc
      · cases hc; simp only [trimIC, vy, vc] at h
      obtain ⟨gl, hl, rfl⟩ := Option.map_eq_some_iff.1 hc
      simp only [trimIC, vy] at h
      split at h
      · rename_i hu
        exact Code.wpIn_mono (fun ex a' w' h => h.2) (wpIn_region_list (vyOps_sound hE hΓ hcf hY (Q := Q) (KS := fun k' S' => Q .nrm k' (S'.trim L)) (fun c' k' S' ρ' H' a' w' h' hy' s' ca => ⟨c', k', .nrm, _, ρ', H', hy', rfl, h', s'.trim, ca⟩) hd hl hu hy s ha (by simpa only [vc] using h)))
      · exact up (wpIn_region_list (list_keep (hLo _) _ _ _ hd ha (vOps_sound (Q := SQ P E c (fun ex S' => Q ex k S')) hE hy.N hy.G hC hΓ' (fun S' h' ρ' H' a' w' s' => ⟨.nrm, S'.trim L, ρ', H', rfl, h', s'.trim⟩) hl s (by simpa only [vc] using h))))
  | seq x y ihx ihy =>
    intro hn ic L X Q k c ρ H S a w hc h hy s ha
    simp only [compC] at hc
    simp only [capFree, Bool.and_eq_true] at hn
    split at hc
    · rename_i x' y' e1 e2; cases hc
      simp only [trimIC, vy] at h
      refine wpIn_seq (Code.wpIn_mono ?_ (ihx hn.1 e1 h hy s ha))
      rintro ex a' w' ⟨c', k', e, S', ρ', H', hy', he, hq, s', ca⟩
      cases ex <;> simp only [exOf] at he <;> cases he
      · exact ihy hn.2 e2 hq hy' s' ca
      · exact ⟨c', k', _, S', ρ', H', hy', rfl, hq, s', ca⟩
      · exact ⟨c', k', _, S', ρ', H', hy', rfl, hq, s', ca⟩
    · cases hc
  | cond cc x y ihx ihy =>
    intro hn ic L X Q k c ρ H S a w hc h hy s ha
    simp only [compC] at hc
    simp only [capFree, Bool.and_eq_true] at hn
    split at hc
    · rename_i c' x' y' e1 e2 e3; cases hc
      simp only [trimIC, vy] at h
      split at h
      · rename_i b hb
        have sc := (s.opd e1).1
        rw [hb] at sc
        generalize hv : a.eval cc = v at sc
        cases sc
        exact wpIn_cond_split hv (fun e => ihx hn.1 e2 (h.1 e) hy s ha) (fun e => ihy hn.2 e3 (h.2 e) hy s ha)
      · exact h.elim
    · cases hc
  | block id b ih =>
    intro hn ic L X Q k c ρ H S a w hc h hy s ha
    simp only [compC] at hc
    obtain ⟨b', hb, rfl⟩ := Option.map_eq_some_iff.1 hc
    simp only [trimIC, vy] at h
    refine wpIn_block (Code.wpIn_mono ?_ (ih hn hb h hy s ha))
    rintro ex a' w' ⟨c', k', e, S', ρ', H', hy', he, hq, s', ca⟩
    cases ex <;> simp only [exOf] at he <;> cases he
    · exact ⟨c', k', _, S', ρ', H', hy', rfl, hq, s', ca⟩
    · rename_i j
      simp only [Exit.inBlock]
      simp only at hq
      split at hq
      · rename_i e; rw [if_pos e]; exact ⟨c', k', _, S', ρ', H', hy', rfl, hq, s', ca⟩
      · rename_i e; rw [if_neg e]; exact ⟨c', k', _, S', ρ', H', hy', rfl, hq, s', ca⟩
    · exact ⟨c', k', _, S', ρ', H', hy', rfl, hq, s', ca⟩
  | loop b ih =>
    intro hn ic L X Q k c ρ H S a w hc h hy s ha
    simp only [compC] at hc
    obtain ⟨b', hb, rfl⟩ := Option.map_eq_some_iff.1 hc
    simp only [trimIC, vy] at h
    obtain ⟨α, I, ct, μ, a0, h0, hk0, hr⟩ := h
    subst hk0
    have h0 : Leq c.nb S (I a0) := by rw [hy.nb]; exact h0
    obtain ⟨ρ0, H1, s0⟩ := h0.sat s
    classical
    let HS : α → Act → World → Prop := fun x a w => ∃ c ρ H, YI E W H0 J Jx (ct x) c ∧ Sat P E c ρ H (I x) a w ∧ Cap cv a
    have hm : ∀ a w, ∃ m, (∃ x, HS x a w) → (∃ x, HS x a w ∧ μ x = m) ∧ ∀ x, HS x a w → m ≤ μ x := by
      intro a w
      by_cases hx : ∃ n x, HS x a w ∧ μ x = n
      · obtain ⟨m, h1, h2⟩ := least _ hx
        exact ⟨m, fun _ => ⟨h1, fun x hs => h2 _ ⟨x, hs, rfl⟩⟩⟩
      · exact ⟨0, fun ⟨x, hs⟩ => absurd ⟨_, x, hs, rfl⟩ hx⟩
    refine wpIn_loop (fun a w => ∃ x, HS x a w) (fun a w => Classical.choose (hm a w)) ⟨a0, c, ρ0, H1, hy, s0, ha⟩ ?_
    intro a w hx
    obtain ⟨⟨x, ⟨cx, ρx, Hx, hyx, hs, cax⟩, hmx⟩, hle⟩ := Classical.choose_spec (hm a w) hx
    refine Code.wpIn_mono ?_ (ih hn hb (hr x) hyx hs cax)
    rintro ex a' w' ⟨c', k', e, S', ρ', H', hy', he, hq, s', ca⟩
    cases ex <;> simp only [exOf] at he <;> cases he
    · obtain ⟨x', hlt, rfl, hleq⟩ := hq
      have hleq : Leq c'.nb S' (I x') := by rw [hy'.nb]; exact hleq
      obtain ⟨ρ'', H'', s''⟩ := hleq.sat s'
      have hx' : ∃ x, HS x a' w' := ⟨x', c', ρ'', H'', hy', s'', ca⟩
      refine ⟨hx', ?_⟩
      have := (Classical.choose_spec (hm a' w') hx').2 x' ⟨c', ρ'', H'', hy', s'', ca⟩
      show Classical.choose (hm a' w') < Classical.choose (hm a w)
      omega
    · exact ⟨c', k', _, S', ρ', H', hy', rfl, hq, s', ca⟩
    · exact ⟨c', k', _, S', ρ', H', hy', rfl, hq, s', ca⟩
  | exit id => intro hn ic L X Q k c ρ H S a w hc h hy s ha; simp only [compC] at hc; cases hc; simp only [trimIC, vy, vc] at h; exact wpIn_exit ⟨c, k, _, S, ρ, H, hy, rfl, h, s, ha⟩
  | ret => intro hn ic L X Q k c ρ H S a w hc h hy s ha; simp only [compC] at hc; cases hc; simp only [trimIC, vy, vc] at h; exact wpIn_ret ⟨c, k, _, S, ρ, H, hy, rfl, h, s, ha⟩
  | rangeFunc => intro hn; simp [capFree] at hn
  | scope b ih =>
    intro hn ic L X Q k c ρ H S a w hc h hy s ha
    simp only [compC] at hc
    refine wpIn_wide.2 (wp_scope_straight (wpIn_wide.1 (Code.wpIn_mono ?_ (ih hn hc h hy s ha))))
    rintro ex a' w' ⟨c', k', e, S', ρ', H', hy', he, hq, s', ca⟩
    cases ex <;> simp only [exOf] at he <;> cases he
    · exact ⟨c', k', _, S', ρ', H', hy', rfl, hq, s', ca⟩
    · exact ⟨c', k', _, S', ρ', H', hy', rfl, hq, s', ca⟩
    · exact ⟨c', k', _, S', ρ', H', hy', rfl, hq, s', ca⟩
  | label => intro hn ic L X Q k c ρ H S a w hc h hy s ha; simp only [compC] at hc; cases hc; simp only [trimIC, vy, vc] at h; exact wpIn_label ⟨c, k, .nrm, S, ρ, H, hy, rfl, h, s, ha⟩
  | goto => intro hn ic L X Q k c ρ H S a w hc h; simp [compC] at hc
  | refuse => intro hn ic L X Q k c ρ H S a w hc h; simp [compC] at hc

def itOk (P : Program) (m : Nat) (g : FuncId) : Bool := match P.funcs[g]? with
  | some fn => match fn.body with
    | some code => capFree m code && fn.results.isEmpty
    | none => false
  | none => false
theorem it_of (hE : Errs2 P W.et E) {Γ : Tab} (hΓ : AllValid P E W.gl Γ) {g : FuncId} {ic : IC} (hir : fnIR P W g = some (ic, [])) {caps : List SV} (hok : itOk P (1 + caps.length) g = true) (hlen : 1 + caps.length ≤ W.N) (hlt : SV.ltL 0 caps) {items : List (List SV × Heap)}
    (hnr : ∀ x ∈ caps, ∀ ρ ρ' H v, Den P E ρ H x v → Den P E ρ' H x v)
    (h : ∀ yv, SV.okL P E caps → vy Γ yv items (frOf 0 (.raw yv :: caps)) ic (fun ex k _ => match ex with | .ext _ => False | _ => k = none ∨ k = some items.length) (some 0) { f := frOf 0 (.raw yv :: caps), h := [], nx := 0 }) : ItSem P E W.gl g caps items := by
  unfold itOk at hok
  unfold fnIR at hir
  split at hir
  · rename_i fn hf
    rw [hf] at hok
    split at hir
    · rename_i code hb
      simp only [hb, Bool.and_eq_true] at hok
      split at hir
      · rename_i hN
        split at hir
        · rename_i ic' rs' hc hr
          simp only [Option.some.injEq, Prod.mk.injEq] at hir
          obtain ⟨hic, rfl⟩ := hir
          refine ⟨hN.2, ?_⟩
          intro ρ H lb hden hgl l J Jx hJ hJx hY W0 h0 hin herr
          have hres : fn.results = #[] := by simpa using hok.2
          have hvl := denV_len hden
          let args : Array Value := #[yV l] ++ lb.toArray
          let cv : List (Nat × Value) := (List.range (1 + caps.length)).map fun i => (i, args.getD i undef)
          have hargs : args.toList = yV l :: lb := by simp [args]
          have hdenA : DenV P E ρ H (.raw (yV l) :: caps) (yV l :: lb) := .cons (.raw rfl) hden
          let c : Ctx := { w0 := W0, own := fun _ => False, N := W.N, o := [], nb := 0, G := W.gl, ρ0 := ρ, H0 := H }
          have hget : ∀ i, args.getD i undef = (yV l :: lb).getD i undef := fun i => by
            rw [Array.getD_eq_getD_getElem?, ← Array.getElem?_toList, hargs, List.getD_eq_getElem?_getD]
          have hcf : CF P E W.gl H (frOf 0 (.raw (yV l) :: caps)) cv (1 + caps.length) (yV l) := by
            refine ⟨fun i => ?_, fun p hp => ?_, hgl⟩
            · by_cases hi : i < 1 + caps.length
              · refine .inr ⟨args.getD i undef, List.mem_map.2 ⟨i, List.mem_range.2 hi, rfl⟩, fun ρ' => ?_, frOf_lt (show SV.ltL 0 (.raw (yV l) :: caps) from ⟨trivial, hlt⟩)⟩
                have hd := frOf_den (k := 0) (i := i) hdenA (Nat.zero_le _)
                rw [Nat.sub_zero, ← hget] at hd
                cases i with
                | zero =>
                  have e : args.getD 0 undef = yV l := by rw [hget]; rfl
                  simp only [frOf, fget, if_true]
                  rw [e]
                  exact .raw rfl
                | succ i =>
                  have hm : fget (frOf 0 (.raw (yV l) :: caps)) (i + 1) ∈ caps := by
                    have : ∀ (xs : List SV) (k j : Nat), j < xs.length → fget (frOf k xs) (k + j) ∈ xs := by
                      intro xs
                      induction xs with
                      | nil => intro k j hj; exact absurd hj (Nat.not_lt_zero _)
                      | cons x xs ih =>
                        intro k j hj
                        simp only [frOf, fget]
                        cases j with
                        | zero => simp
                        | succ j =>
                          rw [if_neg (by omega)]
                          have := ih (k + 1) j (by simpa using hj)
                          rw [show k + 1 + j = k + (j + 1) by omega] at this
                          exact List.mem_cons_of_mem _ this
                    have h2 := this caps 1 i (by omega)
                    simp only [frOf, fget]
                    rw [if_neg (by omega)]
                    rwa [show 1 + i = i + 1 by omega] at h2
                  exact hnr _ hm _ _ _ _ hd
              · left
                have : ∀ (xs : List SV) (k i : Nat), k + xs.length ≤ i → fget (frOf k xs) i = .any := by
                  intro xs
                  induction xs with
                  | nil => intro k i _; rfl
                  | cons x xs ih =>
                    intro k i hi
                    simp only [List.length_cons] at hi
                    simp only [frOf, fget]
                    rw [if_neg (by omega)]
                    exact ih (k + 1) i (by omega)
                exact this _ 0 i (by simp only [List.length_cons]; omega)
            · obtain ⟨i, hi, rfl⟩ := List.mem_map.1 hp
              exact List.mem_range.1 hi
          let a0 : Act := { tmps := args ++ Array.replicate (fn.ntmps - args.size) undef, defers := [] }
          have hsz : args.size = 1 + caps.length := by rw [← Array.length_toList, hargs, List.length_cons, hvl]; omega
          have hget0 : ∀ i, i < 1 + caps.length → a0.tmps.getD i undef = args.getD i undef := fun i hi => by
            show (args ++ _).getD i undef = _
            rw [Array.getD_eq_getD_getElem?, Array.getElem?_append_left (by omega), ← Array.getD_eq_getD_getElem?]
          have ha : Cap cv a0 := fun p hp => by
            obtain ⟨i, hi, rfl⟩ := List.mem_map.1 hp
            exact hget0 i (List.mem_range.1 hi)
          have s : Sat P E c ρ H { f := frOf 0 (.raw (yV l) :: caps), h := [], nx := 0 } a0 W0 := by
            refine ⟨fun i => ?_, ?_, ⟨rfl, fun D hD => (by cases hD), fun x hx => (by cases hx), .nil⟩, ⟨fun n t h => (by cases h), fun n m t u b h => (by cases h)⟩, hin, Kept.refl _ _, fun n t b h => (by cases h), fun i => frOf_lt (show SV.ltL 0 (.raw (yV l) :: caps) from ⟨trivial, hlt⟩), fun n t h => (by cases h), fun n t h => (by cases h), Nat.le_refl _, fun n t h => (by cases h), hgl, fun _ _ => rfl, FH.le_refl H⟩
            · have hd := frOf_den (k := 0) (i := i) hdenA (Nat.zero_le _)
              rw [Nat.sub_zero, ← hget] at hd
              by_cases hi : i < 1 + caps.length
              · rw [hget0 i hi]; exact hd
              · rcases hcf.get i with e | ⟨v, hv, _⟩
                · rw [e]; exact .any
                · obtain ⟨j, hj, e⟩ := List.mem_map.1 hv
                  cases e
                  exact absurd (List.mem_range.1 hj) hi
            · show (args ++ Array.replicate (fn.ntmps - args.size) undef).size = W.N
              rw [Array.size_append, Array.size_replicate, hN.1]
              omega
          have hy : YI E W H J Jx (some 0) c := ⟨fun _ h => h, rfl, rfl, rfl, rfl, rfl, rfl, rfl, fun g ad T hg he => ⟨fun h => h, herr g ad T hg he⟩, fun i e => by cases e; exact h0, fun e => by cases e⟩
          have hh := h (yV l) hden.ok
          rw [← hic] at hh
          have hw := vy_sound hE hΓ hcf hY hok.1 hc hh hy s ha
          refine callsIn_of_wp hf hb trivial (Code.wpIn_mono ?_ hw) rfl
          rintro ex a' w' ⟨c', k', e, S', ρ', H', hy', he, hq, s', ca⟩
          have hdf : a'.defers = [] := by have := s'.df.eq; rw [hy'.dfs] at this; exact this
          have fin : (k' = none ∨ k' = some items.length) → J items.length w' ∨ Jx w' := fun hk => by
            have hg : Grown c'.w0 w' := ⟨s'.kept.os, s'.kept.tape, s'.kept.output, s'.kept.size, fun b hb _ => s'.kept.block b hb (hy'.own b)⟩
            rcases hk with hk | hk
            · exact .inr (hJx _ _ (hy'.jn hk) hg)
            · exact .inl (hJ _ _ _ (hy'.js _ hk) hg)
          cases ex <;> simp only [exOf] at he <;> cases he
          · exact bodyPost_end (results_none hres _ _ _) hdf ⟨⟨_, rfl⟩, fin hq⟩
          · exact hq.elim
          · exact bodyPost_ret (results_none hres _ _ _) hdf ⟨⟨_, rfl⟩, fin hq⟩
        · cases hir
      · cases hir
    · cases hir
  · cases hir
end
end

inductive Fy where
  | seq (b : IC)
  | blk (id : Nat)
  | lp (B : Option Nat → SSt → Prop)

section
variable (Γ : Tab) (yv : Value) (items : List (List SV × Heap)) (cf : Fr) (Q : Ex → Option Nat → SSt → Prop)

def denY : List Fy → Ex → Option Nat → SSt → Prop
  | [], ex, k, S => Q ex k S
  | .seq b :: κ, ex, k, S => match ex with
    | .nrm => vy Γ yv items cf b (denY κ) k S
    | ex => denY κ ex k S
  | .blk id :: κ, ex, k, S => match ex with
    | .ext j => if j = id then denY κ .nrm k S else denY κ (.ext j) k S
    | ex => denY κ ex k S
  | .lp B :: κ, ex, k, S => match ex with
    | .nrm => B k S
    | ex => denY κ ex k S
def goY (ic : IC) (κ : List Fy) (k : Option Nat) (S : SSt) : Prop := vy Γ yv items cf ic (denY Γ yv items cf Q κ) k S
def goYO (l : List GOp) (κ : List Fy) (k : Option Nat) (S : SSt) : Prop := vyOps Γ yv items cf l (denY Γ yv items cf Q κ .nrm) k S
def yE (κ : List Fy) (k : Option Nat) : Ex → SSt → Prop := fun ex S' => denY Γ yv items cf Q κ ex k S'
def yQ (l : List GOp) (κ : List Fy) (k : Option Nat) : Ex → SSt → Prop := fun _ S' => goYO Γ yv items cf Q l κ k S'
def yKO (l : List GOp) (κ : List Fy) : Option Nat → SSt → Prop := fun k S' => goYO Γ yv items cf Q l κ k S'
theorem yE_app (κ : List Fy) (k : Option Nat) (ex : Ex) (S : SSt) : yE Γ yv items cf Q κ k ex S = denY Γ yv items cf Q κ ex k S := rfl
theorem yQ_app (l : List GOp) (κ : List Fy) (k : Option Nat) (ex : Ex) (S : SSt) : yQ Γ yv items cf Q l κ k ex S = goYO Γ yv items cf Q l κ k S := rfl
theorem yKO_app (l : List GOp) (κ : List Fy) (k : Option Nat) (S : SSt) : yKO Γ yv items cf Q l κ k S = goYO Γ yv items cf Q l κ k S := rfl
theorem denY_nil (ex : Ex) (k : Option Nat) (S : SSt) : denY Γ yv items cf Q [] ex k S = Q ex k S := rfl
theorem denY_seq (b : IC) (κ : List Fy) (k : Option Nat) (S : SSt) : denY Γ yv items cf Q (.seq b :: κ) .nrm k S = goY Γ yv items cf Q b κ k S := rfl
theorem denY_seq_ret (b : IC) (κ : List Fy) (k : Option Nat) (S : SSt) : denY Γ yv items cf Q (.seq b :: κ) .ret k S = denY Γ yv items cf Q κ .ret k S := rfl
theorem denY_seq_ext (b : IC) (κ : List Fy) (j : Nat) (k : Option Nat) (S : SSt) : denY Γ yv items cf Q (.seq b :: κ) (.ext j) k S = denY Γ yv items cf Q κ (.ext j) k S := rfl
theorem denY_blk (id : Nat) (κ : List Fy) (k : Option Nat) (S : SSt) : denY Γ yv items cf Q (.blk id :: κ) .nrm k S = denY Γ yv items cf Q κ .nrm k S := rfl
theorem denY_blk_ret (id : Nat) (κ : List Fy) (k : Option Nat) (S : SSt) : denY Γ yv items cf Q (.blk id :: κ) .ret k S = denY Γ yv items cf Q κ .ret k S := rfl
theorem denY_blk_ext (id : Nat) (κ : List Fy) (j : Nat) (k : Option Nat) (S : SSt) : denY Γ yv items cf Q (.blk id :: κ) (.ext j) k S = if j = id then denY Γ yv items cf Q κ .nrm k S else denY Γ yv items cf Q κ (.ext j) k S := rfl
theorem denY_lp (B : Option Nat → SSt → Prop) (κ : List Fy) (k : Option Nat) (S : SSt) : denY Γ yv items cf Q (.lp B :: κ) .nrm k S = B k S := rfl
theorem denY_lp_ret (B : Option Nat → SSt → Prop) (κ : List Fy) (k : Option Nat) (S : SSt) : denY Γ yv items cf Q (.lp B :: κ) .ret k S = denY Γ yv items cf Q κ .ret k S := rfl
theorem denY_lp_ext (B : Option Nat → SSt → Prop) (κ : List Fy) (j : Nat) (k : Option Nat) (S : SSt) : denY Γ yv items cf Q (.lp B :: κ) (.ext j) k S = denY Γ yv items cf Q κ (.ext j) k S := rfl
theorem goY_skip (κ : List Fy) (k : Option Nat) (S : SSt) : goY Γ yv items cf Q .skip κ k S = denY Γ yv items cf Q κ .nrm k S := rfl
theorem goY_seq (a b : IC) (κ : List Fy) (k : Option Nat) (S : SSt) : goY Γ yv items cf Q (.seq a b) κ k S = goY Γ yv items cf Q a (.seq b :: κ) k S := by
  unfold goY
  rw [vy]
  congr 1
def condY (v : SV) (t e : IC) (κ : List Fy) (k : Option Nat) (S : SSt) : Prop := match v with
  | .bool b => (b = true → goY Γ yv items cf Q t κ k S) ∧ (b = false → goY Γ yv items cf Q e κ k S)
  | _ => False
theorem goY_cond (c : Opd) (t e : IC) (κ : List Fy) (k : Option Nat) (S : SSt) : goY Γ yv items cf Q (.cond c t e) κ k S = condY Γ yv items cf Q (oget c S.f) t e κ k S := by
  unfold goY condY
  rw [vy]
  rfl
theorem condY_ite (b : Bool) (t e : IC) (κ : List Fy) (k : Option Nat) (S : SSt) : condY Γ yv items cf Q (.bool b) t e κ k S = if b = true then goY Γ yv items cf Q t κ k S else goY Γ yv items cf Q e κ k S := by rw [iteT]; rfl
theorem goY_block (id : Nat) (b : IC) (κ : List Fy) (k : Option Nat) (S : SSt) : goY Γ yv items cf Q (.block id b) κ k S = goY Γ yv items cf Q b (.blk id :: κ) k S := by
  unfold goY
  rw [vy]
  congr 1
theorem goY_tr (lv : List Nat) (κ : List Fy) (k : Option Nat) (S : SSt) : goY Γ yv items cf Q (.tr lv) κ k S = denY Γ yv items cf Q κ .nrm k (S.trim lv) := rfl
theorem goY_exit (id : Nat) (κ : List Fy) (k : Option Nat) (S : SSt) : goY Γ yv items cf Q (.exit id) κ k S = denY Γ yv items cf Q κ (.ext id) k S := rfl
theorem goY_ret (κ : List Fy) (k : Option Nat) (S : SSt) : goY Γ yv items cf Q .ret κ k S = denY Γ yv items cf Q κ .ret k S := rfl
theorem goY_rgn (fz : List Opd) (l : List (Bool × GOp)) (κ : List Fy) (k : Option Nat) (S : SSt) : goY Γ yv items cf Q (.rgn fz l) κ k S = go Γ 0 (yE Γ yv items cf Q κ k) (.rgn fz l) [] S := rfl
theorem goY_ops (l : List GOp) (κ : List Fy) (k : Option Nat) (S : SSt) : goY Γ yv items cf Q (.ops l) κ k S = if allU l = true then goYO Γ yv items cf Q l κ k S else goO Γ 0 (yE Γ yv items cf Q κ k) l [] S := by
  unfold goY
  rw [vy]
  rfl
theorem goYO_nil (κ : List Fy) (k : Option Nat) (S : SSt) : goYO Γ yv items cf Q [] κ k S = denY Γ yv items cf Q κ .nrm k S := rfl
theorem goYO_u {i : IOp} (hi : isCall i = false) (l : List GOp) (κ : List Fy) (k : Option Nat) (S : SSt) : goYO Γ yv items cf Q (.u i :: l) κ k S = goO Γ 0 (yQ Γ yv items cf Q l κ k) [.u i] [] S := by
  cases i <;> first | (cases hi; done) | rfl
theorem goYO_nlq (d : Nat) (neg : Bool) (x : Opd) (l : List GOp) (κ : List Fy) (k : Option Nat) (S : SSt) : goYO Γ yv items cf Q (.u (.nlq d neg x) :: l) κ k S = goO Γ 0 (yQ Γ yv items cf Q l κ k) [.u (.nlq d neg x)] [] S := rfl
def callY (d : Nat) (f : Opd) (xs : List Opd) (ts : List (Option TypeId)) (fz : Bool) (l : List GOp) (κ : List Fy) (k : Option Nat) (S : SSt) (v : SV) : Prop := yOr Γ yv items cf d f xs ts fz S (yKO Γ yv items cf Q l κ) k v
theorem goYO_call (d : Nat) (f : Opd) (xs : List Opd) (ts : List (Option TypeId)) (fz : Bool) (l : List GOp) (κ : List Fy) (k : Option Nat) (S : SSt) : goYO Γ yv items cf Q (.u (.call d f xs ts fz) :: l) κ k S = callY Γ yv items cf Q d f xs ts fz l κ k S (oget f S.f) := rfl
theorem callY_clo (d : Nat) (f : Opd) (xs : List Opd) (ts : List (Option TypeId)) (fz : Bool) (l : List GOp) (κ : List Fy) (k : Option Nat) (S : SSt) (g : FuncId) (cs : List SV) : callY Γ yv items cf Q d f xs ts fz l κ k S (.clo g cs) = goO Γ 0 (yQ Γ yv items cf Q l κ k) [.u (.call d f xs ts fz)] [] S := rfl
theorem callY_raw (d : Nat) (f : Opd) (xs : List Opd) (ts : List (Option TypeId)) (fz : Bool) (l : List GOp) (κ : List Fy) (k : Option Nat) (S : SSt) (v : Value) : callY Γ yv items cf Q d f xs ts fz l κ k S (.raw v) = (v = yv ∧ yieldVC items cf d (ogets xs S.f) S (yKO Γ yv items cf Q l κ) k) := rfl
theorem allU_nil : allU [] = true := rfl
theorem allU_u (i : IOp) (r : List GOp) : allU (.u i :: r) = allU r := rfl
theorem allU_g (t : Nat) (b : Bool) (d : Option Nat) (i : IOp) (r : List GOp) : allU (.g t b d i :: r) = false := rfl
theorem keepF_nil : keepF [] = [] := rfl
theorem keepF_cons (i : Nat) (x : SV) (r : Fr) : keepF ((i, x) :: r) = (i, match x with | .int k n => .int k n | .bool b => .bool b | _ => .any) :: keepF r := rfl
theorem goY_loop {α : Type} (I : α → SSt) (ct : α → Option Nat) (μ : α → Nat) (x0 : α) {b : IC} {κ : List Fy} {k : Option Nat} {S : SSt} (h0 : Leq 0 S (I x0)) (hk : ct x0 = k)
    (h : ∀ x (B : Option Nat → SSt → Prop), (∀ k' S' x', μ x' < μ x → ct x' = k' → Leq 0 S' (I x') → B k' S') → goY Γ yv items cf Q b (.lp B :: κ) (ct x) (I x)) : goY Γ yv items cf Q (.loop b) κ k S := by
  unfold goY
  rw [vy]
  refine ⟨α, I, ct, μ, x0, h0, hk, fun x => ?_⟩
  have := h x (fun k' S' => ∃ x', μ x' < μ x ∧ ct x' = k' ∧ Leq 0 S' (I x')) (fun k' S' x' h1 h2 h3 => ⟨x', h1, h2, h3⟩)
  unfold goY at this
  refine Eq.mp ?_ this
  congr 1
end
theorem walkY : type_of% (And.intro @yE_app <| And.intro @yQ_app <| And.intro @yKO_app <| And.intro @denY_nil <| And.intro @denY_seq <| And.intro @denY_seq_ret <| And.intro @denY_seq_ext <| And.intro @denY_blk <| And.intro @denY_blk_ret <| And.intro @denY_blk_ext <| And.intro @denY_lp <| And.intro @denY_lp_ret <| And.intro @denY_lp_ext <| And.intro @goY_skip <| And.intro @goY_seq <| And.intro @goY_cond <| And.intro @condY_ite <| And.intro @goY_block <| And.intro @goY_tr <| And.intro @goY_exit <| And.intro @goY_ret <| And.intro @goY_rgn <| And.intro @goY_ops <| And.intro @goYO_nil <| And.intro @goYO_u <| And.intro @goYO_nlq <| And.intro @goYO_call <| And.intro @callY_clo <| And.intro @callY_raw <| And.intro @allU_nil <| And.intro @allU_u <| And.intro @allU_g <| And.intro @keepF_nil <| @keepF_cons) :=
  And.intro @yE_app <| And.intro @yQ_app <| And.intro @yKO_app <| And.intro @denY_nil <| And.intro @denY_seq <| And.intro @denY_seq_ret <| And.intro @denY_seq_ext <| And.intro @denY_blk <| And.intro @denY_blk_ret <| And.intro @denY_blk_ext <| And.intro @denY_lp <| And.intro @denY_lp_ret <| And.intro @denY_lp_ext <| And.intro @goY_skip <| And.intro @goY_seq <| And.intro @goY_cond <| And.intro @condY_ite <| And.intro @goY_block <| And.intro @goY_tr <| And.intro @goY_exit <| And.intro @goY_ret <| And.intro @goY_rgn <| And.intro @goY_ops <| And.intro @goYO_nil <| And.intro @goYO_u <| And.intro @goYO_nlq <| And.intro @goYO_call <| And.intro @callY_clo <| And.intro @callY_raw <| And.intro @allU_nil <| And.intro @allU_u <| And.intro @allU_g <| And.intro @keepF_nil <| @keepF_cons
end Go.Fw
