/- The frame-work, part U: code. -/
import Derived.Test.YtnpjmmimlhgipaaDoorFwT
namespace Go.Fw
set_option linter.unusedVariables false
set_option linter.unusedSimpArgs false
open Go

inductive GOp where
  | u (i : IOp)
  | g (slot : Nat) (want : Bool) (d : Option Nat) (i : IOp)
  deriving Inhabited

inductive Ex where
  | nrm | ext (id : Nat) | ret

def vOp (Γ : FuncId → FSpec) (i : IOp) (S : SSt) (K : SSt → Prop) : Prop :=
  match i with
  | .call d f args ts fz => match fz with
    | true => callP Γ (oget f (frzL (ogets args S.f) S).f) (argSs ts (ogets args (frzL (ogets args S.f) S).f)) (frzL (ogets args S.f) S).h (frzL (ogets args S.f) S).nx (fun r h' => K { f := (d, r) :: (frzL (ogets args S.f) S).f, h := h', nx := (frzL (ogets args S.f) S).nx + 64 })
    | false => callP Γ (oget f S.f) (argSs ts (ogets args S.f)) S.h S.nx (fun r h' => K { f := (d, r) :: S.f, h := h', nx := S.nx + 64 })
  | .slc d eid x lo hi => match ev (.slc d eid x lo hi) (preF (oget x S.f) S) with
    | some (p, S') => p ∧ K S'
    | none => False
  | .mif d t ty e x => match ev (.mif d t ty e x) (preP ty e (oget x S.f) S) with
    | some (p, S') => p ∧ K S'
    | none => False
  | .nlq d neg x => match evNlq (oget x S.f) S.h with
    | some (p, q) => ∀ b : Bool, (b = true → p) → (q → b = true) → K (S.put d (.bool (if neg then !b else b)))
    | none => False
  | i => match ev i S with
    | some (p, S') => p ∧ K S'
    | none => False

def skipD (d : Option Nat) (S : SSt) : SSt := match d with | some d => S.put d (.tup []) | none => S

def vOps (Γ : FuncId → FSpec) : List GOp → (SSt → Prop) → SSt → Prop
  | [], K, S => K S
  | .u i :: r, K, S => vOp Γ i S (fun S' => vOps Γ r K S')
  | .g t b d i :: r, K, S => match fget S.f t with
    | .bool v => (v = b → vOp Γ i (S.put t (.bool b)) (fun S' => vOps Γ r K S')) ∧ (v = !b → vOps Γ r K (skipD d (S.put t (.bool (!b)))))
    | .tup [] => vOps Γ r K (skipD d S)
    | _ => False

def gSlot (all : Array Oper) : Option (Nat × Bool) → Option (Option (Nat × Bool))
  | none => some none
  | some (j, b) => match (all[j]?).bind (·.dst) with
    | some t => some (some (t, b))
    | none => none

def compOps (P : Program) (W : Opts) (all : Array Oper) : List Oper → Option (List GOp)
  | [] => some []
  | o :: l => match comp P W o, gSlot all o.guard, compOps P W all l with
    | some i, some none, some r => some (.u i :: r)
    | some i, some (some (t, b)), some r => match o.dst with
      | some d => if d < W.N then some (.g t b (some d) i :: r) else none
      | none => some (.g t b none i :: r)
    | _, _, _ => none

section
variable {P : Program} {E : Nat → Value}

def isCall : IOp → Bool
  | .call .. => true
  | .nlq .. => true
  | _ => false
/-- What is gone through otherwise than by 'ev' alone. -/
def isSp : IOp → Bool
  | .call .. | .nlq .. | .slc .. | .mif .. => true
  | _ => false
theorem compCvt_noCall {src dst : TypeId} {d : Nat} {x : Opd} {i : IOp} (h : compCvt P src dst d x = some i) : isCall i = false := by
  unfold compCvt at h
  repeat' (first | (cases h; rfl) | (cases h; done) | split at h)
theorem compBin_noCall {W : Opts} {op : BinOp} {t : TypeId} {y0 : Operand} {d : Nat} {x y : Opd} {i : IOp} (h : compBin P W op t y0 d x y = some i) : isCall i = false ∨ (∃ neg, i = .nlq d neg x ∧ y0 = .const (.slice none 0 0) ∧ (op = .eql ∧ neg = false ∨ op = .neq ∧ neg = true) ∧ ∃ e, P.underlying t = some (.slice e)) := by
  unfold compBin at h
  split at h
  case h_5 e hu =>
    right
    split at h
    · cases h; exact ⟨_, rfl, rfl, .inl ⟨rfl, rfl⟩, _, hu⟩
    · cases h; exact ⟨_, rfl, rfl, .inr ⟨rfl, rfl⟩, _, hu⟩
    · cases h
  all_goals
    left
    repeat' (first | (cases h; rfl) | (cases h; done) | split at h)
theorem compIfq_noCall {W : Opts} {op : BinOp} {t : TypeId} {d : Nat} {x y : Opd} {i : IOp} (h : compIfq P W op t d x y = some i) : isCall i = false := by
  unfold compIfq at h
  repeat' (first | (cases h; rfl) | (cases h; done) | split at h)
theorem compStr_noCall {op : BinOp} {t : TypeId} {d : Nat} {x y : Opd} {i : IOp} (h : compStr P op t d x y = some i) : isCall i = false := by
  unfold compStr at h
  repeat' (first | (cases h; rfl) | (cases h; done) | split at h)
set_option maxHeartbeats 1000000 in
theorem comp_call {W : Opts} {o : Oper} {d : Nat} {f : Opd} {args : List Opd} {tl : List (Option TypeId)} {fz : Bool} (h : comp P W o = some (.call d f args tl fz)) :
    ∃ x xs ts, o.op = .call { callee := .value x, args := xs.toArray, argTypes := ts } ∧ o.dst = some d ∧ d < W.N ∧ cOpd x = some f ∧ cOpds xs = some args := by
  unfold comp at h
  split at h
  case h_12 =>
    rename_i cl d' ho hd
    split at h
    · rename_i hdN
      obtain ⟨callee, ars, types⟩ := cl
      obtain ⟨ars⟩ := ars
      unfold compCall at h
      split at h
      · exfalso; repeat' (first | (cases h; done) | split at h)
      · exfalso; repeat' (first | (cases h; done) | split at h)
      · exfalso; obtain ⟨_, _, h⟩ := Option.map_eq_some_iff.1 h; cases h
      · exfalso; obtain ⟨_, _, h⟩ := Option.map_eq_some_iff.1 h; cases h
      · rename_i f' hcal
        simp only at hcal; subst hcal
        split at h
        · rename_i hok hl
          cases h
          exact ⟨_, ars, types, ho, hd, hdN, hok, hl⟩
        · cases h
      · exfalso; repeat' (first | (cases h; done) | split at h)
      · cases h
    · cases h
  case h_3 =>
    exfalso
    split at h
    · split at h
      · split at h
        · rename_i e; cases h
          rcases compBin_noCall e with h9 | ⟨_, h9, _⟩
          · cases h9
          · cases h9
        · split at h
          · rename_i e; cases h; have := compIfq_noCall e; cases this
          · have := compStr_noCall h; cases this
      · cases h
    · cases h
  case h_5 =>
    exfalso
    split at h
    · split at h
      · have := compCvt_noCall h; cases this
      · cases h
    · cases h
  all_goals
    exfalso
    repeat' (first | (cases h; done) | split at h | (replace h := Option.map_eq_some_iff.1 h; obtain ⟨_, _, h⟩ := h))

set_option maxHeartbeats 1000000 in
theorem comp_mif {W : Opts} {o : Oper} {d : Nat} {t : TypeId} {ty e : Ty} {x : Opd} (h : comp P W o = some (.mif d t ty e x)) : ∃ eid, ty = .ptr eid ∧ e = tyOf P 8 eid := by
  unfold comp at h
  split at h
  case h_3 =>
    exfalso
    split at h
    · split at h
      · split at h
        · rename_i e; cases h
          rcases compBin_noCall e with h9 | ⟨_, h9, _⟩
          · unfold compBin at e
            repeat' (first | (cases e; done) | split at e)
          · cases h9
        · split at h
          · rename_i e; cases h
            unfold compIfq at e
            repeat' (first | (cases e; done) | split at e)
          · unfold compStr at h
            repeat' (first | (cases h; done) | split at h)
      · cases h
    · cases h
  case h_12 =>
    exfalso
    rename_i cl d' ho hd
    split at h
    · rename_i hdN
      unfold compCall at h
      repeat' (first | (cases h; done) | split at h | (replace h := Option.map_eq_some_iff.1 h; obtain ⟨_, _, h⟩ := h))
    · cases h
  case h_5 =>
    exfalso
    split at h
    · split at h
      · unfold compCvt at h
        repeat' (first | (cases h; done) | split at h)
      · cases h
    · cases h
  case h_18 =>
    split at h
    · split at h
      · rename_i eid x' hu hx
        cases h
        exact ⟨eid, tyOf_ptr hu, rfl⟩
      · cases h
    · cases h
  all_goals
    exfalso
    repeat' (first | (cases h; done) | split at h | (replace h := Option.map_eq_some_iff.1 h; obtain ⟨_, _, h⟩ := h))

set_option maxHeartbeats 1000000 in
theorem comp_nlq {W : Opts} {o : Oper} {d : Nat} {neg : Bool} {x : Opd} (h : comp P W o = some (.nlq d neg x)) :
    ∃ op t x0 t', o.op = .binOp op t x0 (.const (.slice none 0 0)) t' ∧ o.dst = some d ∧ d < W.N ∧ cOpd x0 = some x ∧ (op = .eql ∧ neg = false ∨ op = .neq ∧ neg = true) ∧ ∃ e, P.underlying t = some (.slice e) := by
  unfold comp at h
  split at h
  case h_3 =>
    rename_i op t x0 y0 t' d' ho hd
    split at h
    · rename_i hdN
      split at h
      · rename_i x' y' hx hy
        split at h
        · rename_i e; cases h
          rcases compBin_noCall e with h9 | ⟨neg', h9, h10, h11, h12⟩
          · cases h9
          · cases h9; subst h10; exact ⟨op, t, x0, t', ho, hd, hdN, hx, h11, h12⟩
        · exfalso
          split at h
          · rename_i e; cases h; have := compIfq_noCall e; cases this
          · have := compStr_noCall h; cases this
      · cases h
    · cases h
  case h_12 =>
    exfalso
    rename_i cl d' ho hd
    split at h
    · rename_i hdN
      unfold compCall at h
      repeat' (first | (cases h; done) | split at h | (replace h := Option.map_eq_some_iff.1 h; obtain ⟨_, _, h⟩ := h))
    · cases h
  case h_5 =>
    exfalso
    split at h
    · split at h
      · have := compCvt_noCall h; cases this
      · cases h
    · cases h
  all_goals
    exfalso
    repeat' (first | (cases h; done) | split at h | (replace h := Option.map_eq_some_iff.1 h; obtain ⟨_, _, h⟩ := h))

theorem eqIn_slice_any (d : Nat) (t : TypeId) {e : TypeId} (hu : P.underlying t = some (.slice e)) (ad : Option Addr) (n cap : Nat) (w : World) : (Op.equalIn (d + 1) t (.slice ad n cap) (.slice none 0 0)).run P w = .ok ad.isNone w := by
  cases ad <;> simp [Op.equalIn, Sem.run_bind, run_underlying hu, Sem.run, pure]
theorem nlq_sound {c : Ctx} {ρ : Nat → Value} {H : FH} {S : SSt} {a : Act} {w : World} (s : Sat P E c ρ H S a w) {o : Oper} {d : Nat} {neg : Bool} {x : Opd} {op : BinOp} {t t' : TypeId} {x0 : Operand} (ho : o.op = .binOp op t x0 (.const (.slice none 0 0)) t') (hd : o.dst = some d) (hdN : d < c.N)
    (hx : cOpd x0 = some x) (hop : op = .eql ∧ neg = false ∨ op = .neq ∧ neg = true) {e : TypeId} (hu : P.underlying t = some (.slice e)) {p q : Prop} (h : evNlq (oget x S.f) S.h = some (p, q)) {KS : SSt → Prop} (hk : ∀ b : Bool, (b = true → p) → (q → b = true) → KS (S.put d (.bool (if neg then !b else b))))
    {K : Act → World → Prop} {Q : Exit → Act → World → Prop} (hK : ∀ S', KS S' → Left P E c S' K) : o.wp P a w K Q := by
  have sx := (s.opd hx).1
  have key : ∃ ad n cap, a.eval x0 = .slice ad n cap ∧ (ad.isNone = true → p) ∧ (q → ad.isNone = true) := by
    generalize hvx : a.eval x0 = vx at sx
    generalize hX : oget x S.f = X at h sx
    unfold evNlq at h
    split at h
    · cases h; cases sx; exact ⟨none, 0, 0, rfl, fun _ => trivial, fun _ => rfl⟩
    · cases h
      cases sx with | dat _ hr =>
      cases hr with
      | slice css hc hcap hn hz hm hr =>
        rename_i l ad cap
        refine ⟨ad, _, _, rfl, fun h => ?_, fun h => h.elim⟩
        have : cap = 0 := hz (by cases ad with | none => rfl | some _ => simp at h)
        exact (List.eq_nil_of_length_eq_zero (by omega) : l = [])
    · split at h
      · rename_i n _ _ l hn
        cases h
        obtain ⟨⟨_, xs, ⟨_, hown⟩, _, _⟩, _⟩ := s.tok hn
        cases sx with | vec _ =>
        rcases hown with ⟨⟨a0, hv⟩, h2⟩ | ⟨g, cap, cur, hv, _⟩
        · exact ⟨a0, 0, 0, hv, fun _ => List.eq_nil_of_length_eq_zero h2, fun h => h.elim⟩
        · exact ⟨_, _, _, hv, fun h => by simp at h, fun h => h.elim⟩
      · cases h
    · cases h
  obtain ⟨ad, n, cap, hv, h1, h2⟩ := key
  have he : (Op.equal t (a.eval x0) (a.eval (.const (.slice none 0 0)))).run P w = .ok ad.isNone w := by
    rw [hv, equal_in]
    exact eqIn_slice_any _ t hu ad n cap w
  have hrun := run_eqop (P := P) ho (by rcases hop with ⟨h, _⟩ | ⟨h, _⟩; exact .inl h; exact .inr h) (.inl ⟨_, rfl⟩) (by rw [hv]; simp) (by rw [hv]; simp) (by rw [hv]; simp) (by rw [hv]; simp) (by rw [hv]; simp) he
  refine put_sound s hd hdN (hK _ (hk ad.isNone h1 h2)) ⟨_, hrun, ?_, trivial⟩
  rcases hop with ⟨rfl, rfl⟩ | ⟨rfl, rfl⟩ <;> exact .bool

theorem Sat.note {c : Ctx} {ρ : Nat → Value} {H : FH} {S : SSt} {a : Act} {w : World} (s : Sat P E c ρ H S a w) {t : Nat} {v b : Bool} (h : fget S.f t = .bool v) (hb : v = b) : Sat P E c ρ H (S.put t (.bool b)) a w := by
  subst hb
  refine ⟨fun i => ?_, s.sz, s.df, s.hs, s.hin, s.kept, s.ownb, fun i => ?_, s.hlt, s.olt, s.nbx, s.sep, s.glob, s.rho, s.hle⟩
  · simp only [SSt.put, fget_cons]
    split
    · rename_i e; subst e; rw [← h]; exact s.fr t
    · exact s.fr i
  · simp only [SSt.put, fget_cons]
    split
    · exact trivial
    · exact s.flt i

/-- What is left behind code: a state that the post says. -/
def exOf : Exit → Option Ex
  | .normal => some .nrm
  | .exit id => some (.ext id)
  | .ret => some .ret
  | _ => none
def SQ (P : Program) (E : Nat → Value) (c : Ctx) (Q : Ex → SSt → Prop) (ex : Exit) (a : Act) (w : World) : Prop :=
  ∃ e S ρ H, exOf ex = some e ∧ Q e S ∧ Sat P E c ρ H S a w

def AllValid (P : Program) (E : Nat → Value) (G : Nat → Bool) (Γ : FuncId → FSpec) : Prop := ∀ f, Valid P E G f (Γ f)

theorem vOp_sound {et : Option TypeId} (hE : Errs2 P et E) {c : Ctx} {W : Opts} (hN : W.N = c.N) (hG : W.gl = c.G) (hC : ErrC E c ∧ W.et = et) {Γ : FuncId → FSpec} (hΓ : AllValid P E c.G Γ) {ρ : Nat → Value} {H : FH} {S : SSt} {a : Act} {w : World} (s : Sat P E c ρ H S a w) {o : Oper} {i : IOp} (hc : comp P W o = some i)
    {KS : SSt → Prop} (h : vOp Γ i S KS) {K : Act → World → Prop} {Q : Exit → Act → World → Prop} (hK : ∀ S', KS S' → Left P E c S' K) : o.wp P a w K Q := by
  by_cases hi : isCall i = true
  · cases i <;> first | (cases hi; done) | skip
    · rename_i d neg x
      obtain ⟨op, t, x0, t', ho, hd, hdN, hx, hop, e, hu⟩ := comp_nlq hc
      simp only [vOp] at h
      split at h
      · rename_i p q e; exact nlq_sound s ho hd (hN ▸ hdN) hx hop hu e h hK
      · exact h.elim
    rename_i d f args tl fz
    obtain ⟨x0, xs, ts, ho, hd, hdN, hf, hx⟩ := comp_call hc
    cases fz with
    | true =>
      simp only [vOp] at h
      obtain ⟨H', _, s'⟩ := s.frzL (l := ogets args S.f)
      exact call_sound hC.1 s' ho hd (hN ▸ hdN) hf hx hΓ h hK
    | false =>
      simp only [vOp] at h
      exact call_sound hC.1 s ho hd (hN ▸ hdN) hf hx hΓ h hK
  · by_cases hsl : ∃ d eid x lo hi, i = .slc d eid x lo hi
    · obtain ⟨d, eid, x, lo, hi, rfl⟩ := hsl
      simp only [vOp] at h
      have s2 : ∃ H', Sat P E c ρ H' (preF (oget x S.f) S) a w := by
        unfold preF
        split
        · rename_i n _; obtain ⟨H', _, h2⟩ := s.frz1 n; exact ⟨H', h2⟩
        · exact ⟨H, s⟩
      obtain ⟨H', s2⟩ := s2
      split at h
      · rename_i p S' e; exact op_sound hE hN hG hC s2 hc e h.1 (hK _ h.2)
      · exact h.elim
    by_cases hmf : ∃ d t ty e x, i = .mif d t ty e x
    · obtain ⟨d, t, ty, e, x, rfl⟩ := hmf
      simp only [vOp] at h
      obtain ⟨eid, hty, he⟩ := comp_mif hc
      have s2 : ∃ H', Sat P E c ρ H' (preP ty e (oget x S.f) S) a w := by
        unfold preP
        split
        · rename_i n _
          unfold prePt
          split
          · rename_i l hl
            unfold prePd
            split
            · rename_i dd htd
              rw [he] at htd
              obtain ⟨H', _, h2, _⟩ := s.frzCells (eid := eid) hl htd
              rw [hty]
              exact ⟨H', h2⟩
            · exact ⟨H, s⟩
          · exact ⟨H, s⟩
        · exact ⟨H, s⟩
      obtain ⟨H', s2⟩ := s2
      split at h
      · rename_i p S' e'; exact op_sound hE hN hG hC s2 hc e' h.1 (hK _ h.2)
      · exact h.elim
    have key : match ev i S with | some (p, S') => p ∧ KS S' | none => False := by
      cases i <;> first | (exact absurd rfl hi) | (exact absurd ⟨_, _, _, _, _, rfl⟩ hsl) | (exact absurd ⟨_, _, _, _, _, rfl⟩ hmf) | exact h
    split at key
    · rename_i p S' e
      exact op_sound hE hN hG hC s hc e key.1 (hK _ key.2)
    · exact key.elim

theorem vOps_sound {et : Option TypeId} (hE : Errs2 P et E) {c : Ctx} {W : Opts} (hN : W.N = c.N) (hG : W.gl = c.G) (hC : ErrC E c ∧ W.et = et) {Γ : FuncId → FSpec} (hΓ : AllValid P E c.G Γ) {all : Array Oper} {Q : Exit → Act → World → Prop} {KS : SSt → Prop} (hK : ∀ S', KS S' → Left P E c S' (Q .normal)) :
    ∀ {l : List Oper} {gl : List GOp} {ρ : Nat → Value} {H : FH} {S : SSt} {a : Act} {w : World}, compOps P W all l = some gl → Sat P E c ρ H S a w → vOps Γ gl KS S → wpList P all Q l a w := by
  intro l
  induction l with
  | nil =>
    intro gl ρ H S a w hc s h
    simp only [compOps] at hc; cases hc
    exact hK S h _ _ _ _ s
  | cons o l ih =>
    intro gl ρ H S a w hc s h
    simp only [compOps] at hc
    split at hc
    · rename_i i r e1 e2 e3
      cases hc
      have hg : o.guard = none := by
        unfold gSlot at e2
        split at e2
        · assumption
        · split at e2 <;> cases e2
      simp only [vOps] at h
      simp only [wpList, Region.wanted, hg, if_true]
      exact .inl (vOp_sound hE hN hG hC hΓ s e1 h (fun S' h' ρ' H' a' w' s' => ih e3 s' h'))
    · rename_i i t b r e1 e2 e3
      have hgd : ∃ j, o.guard = some (j, b) ∧ (all[j]?).bind (·.dst) = some t := by
        unfold gSlot at e2
        split at e2
        · cases e2
        · rename_i j b' hgu
          split at e2
          · rename_i t' ht; cases e2; exact ⟨j, hgu, ht⟩
          · cases e2
      obtain ⟨j, hgu, ht⟩ := hgd
      have fin : ∀ d, o.dst = d → (∀ d', d = some d' → d' < W.N) → vOps Γ (.g t b d i :: r) KS S → wpList P all Q (o :: l) a w := by
        intro d hd hdN h
        simp only [vOps] at h
        split at h
        · rename_i v hv
          have hden := s.fr t
          rw [hv] at hden
          have hval : a.tmps[t]? = some (.bool v) := by
            rw [Array.getD_eq_getD_getElem?] at hden
            cases h0 : a.tmps[t]? with
            | none => rw [h0] at hden; simp only [Option.getD_none] at hden; cases hden
            | some u => rw [h0] at hden; simp only [Option.getD_some] at hden; cases hden; rfl
          have hy : yielded all a.tmps j = some v := by
            unfold yielded
            rw [ht]
            simp [hval]
          simp only [wpList, Region.wanted, hgu, hy]
          by_cases hvb : v = b
          · subst hvb
            simp only [beq_self_eq_true, if_true]
            exact .inl (vOp_sound hE hN hG hC hΓ (s.note hv rfl) e1 (h.1 rfl) (fun S' h' ρ' H' a' w' s' => ih e3 s' h'))
          · have hvb' : v = !b := by cases v <;> cases b <;> simp_all
            have : (some v == some b) = false := by simp [hvb]
            simp only [this, Bool.false_eq_true, if_false]
            have s1 := s.note hv hvb'
            cases d with
            | none => rw [hd]; exact ih e3 s1 (h.2 hvb')
            | some d => rw [hd]; exact ih e3 (s1.put (.tup .nil) trivial (hN ▸ hdN d rfl)) (h.2 hvb')
        · rename_i hv
          have hden := s.fr t
          rw [hv] at hden
          have hy : yielded all a.tmps j = none := by
            unfold yielded
            rw [ht]
            rw [Array.getD_eq_getD_getElem?] at hden
            cases h0 : a.tmps[t]? with
            | none => simp [h0]
            | some u => rw [h0] at hden; simp only [Option.getD_some] at hden; cases hden; simp [h0]
          simp only [wpList, Region.wanted, hgu, hy]
          have : ((none : Option Bool) == some b) = false := rfl
          simp only [this, Bool.false_eq_true, if_false]
          cases d with
          | none => rw [hd]; exact ih e3 s h
          | some d => rw [hd]; exact ih e3 (s.put (.tup .nil) trivial (hN ▸ hdN d rfl)) h
        · exact h.elim
      split at hc
      · rename_i d hd
        split at hc
        · rename_i hdN; cases hc
          exact fin (some d) hd (fun d' e => by cases e; exact hdN) h
        · cases hc
      · rename_i hd
        cases hc
        exact fin none hd (fun d' e => by cases e) h
    · cases hc

end
end Go.Fw
