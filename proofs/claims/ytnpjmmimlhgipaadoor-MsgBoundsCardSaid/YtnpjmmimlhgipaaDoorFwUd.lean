/- The frame-work, part Ud: regions that draw their order, turned and sound. -/
import Derived.Test.YtnpjmmimlhgipaaDoorFwUc
namespace Go.Fw
set_option linter.unusedVariables false
set_option linter.unusedSimpArgs false
open Go

/-- What has to come before. -/
def dirs (ops : Array Oper) (b : Nat) : List Nat := match ops[b]? with
  | some o => (o.after.toList.filter (Region.binds .any)).map (·.on)
  | none => []
def tdep (ops : Array Oper) : Nat → List Nat → List Nat
  | 0, s => s
  | n + 1, s => tdep ops n (s ++ (s.flatMap (dirs ops)).eraseDups.filter fun x => !s.contains x)
def compOp (P : Program) (W : Opts) (ops : Array Oper) (i : Nat) : Option GOp := match ops[i]? with
  | some o => match comp P W o, gSlot ops o.guard with
    | some j, some none => some (.u j)
    | some j, some (some (t, b)) => match o.dst with
      | some d => if d < W.N then some (.g t b (some d) j) else none
      | none => some (.g t b none j)
    | _, _ => none
  | none => none

abbrev Item := Nat × (Bool × GOp)
def pairOk (ops : Array Oper) (x y : Item) : Bool := x.1 != y.1 && !(dirs ops x.1).contains y.1 && ((dirs ops y.1).contains x.1 || swapOk x.2 y.2 || (tdep ops 12 (dirs ops y.1)).contains x.1)
def pairsOk (ops : Array Oper) : List Item → Bool
  | [] => true
  | x :: r => r.all (pairOk ops x) && pairsOk ops r
def itemOk (ops : Array Oper) (x : Item) : Bool := okX x.2 && (dirs ops x.1).all fun d => decide (d < ops.size) && d != x.1

/-- An order: quiet ones as early as may be. -/
def greedy (ops : Array Oper) (q : Nat → Bool) : Nat → List Nat → List Nat → List Nat
  | 0, _, acc => acc.reverse
  | n + 1, rem, acc =>
    match (rem.find? fun i => q i && (dirs ops i).all acc.contains).orElse fun _ => rem.find? fun i => (dirs ops i).all acc.contains with
    | some i => greedy ops q n (rem.filter (· != i)) (i :: acc)
    | none => acc.reverse
def gops (P : Program) (W : Opts) (ops : Array Oper) : List Nat → Option (List (Nat × GOp))
  | [] => some []
  | i :: r => match compOp P W ops i, gops P W ops r with
    | some g, some l => some ((i, g) :: l)
    | _, _ => none
/-- Must it not look at owned memory? -/
def pureC (W : Opts) (i : IOp) : Bool := isCallF i && match i.dst with | some d => W.pu.contains d | none => false
def flagOf (W : Opts) (ops : Array Oper) (all : List (Nat × GOp)) (x : Nat × GOp) : Bool := pureC W x.2.i || heapy x.2.i && all.any fun y => !y.2.i.quiet && !pureC W y.2.i && !(tdep ops 12 (dirs ops x.1)).contains y.1 && !(tdep ops 12 (dirs ops y.1)).contains x.1
/-- The slot whose value an operand is. -/
def rootOf (l : List (Nat × GOp)) : Nat → Nat → Opd → Option Opd
  | 0, _, x => some x
  | n + 1, j, .s k => match (l.filter fun y => y.1 < j).reverse.find? fun y => y.2.i.dst == some k with
    | none => some (.s k)
    | some y => match y.2.i with
      | .mov _ x => rootOf l n y.1 x
      | _ => none
  | _, _, .c _ => none
def fzOf (l : List (Nat × GOp)) : List Opd := l.flatMap fun y => match y.2.i with
  | .call _ _ args _ true => args.filterMap (rootOf l 4 y.1)
  | _ => []
def mkItems (P : Program) (W : Opts) (ops : Array Oper) (fl : Nat → Bool) : List Nat → Option (List Item)
  | [] => some []
  | i :: r => match compOp P W ops i, mkItems P W ops fl r with
    | some g, some l => some ((i, (fl i, g)) :: l)
    | _, _ => none
def rgnOk (P : Program) (ops : Array Oper) (its : List Item) : Bool :=
  P.follows .mixedOrders && its.length == ops.size && (List.range ops.size).all (fun i => its.any fun x => x.1 == i) && its.all (fun x => decide (x.1 < ops.size)) && its.all (itemOk ops) && pairsOk ops its
def compRgn (P : Program) (W : Opts) (ops : Array Oper) : Option (List Opd × List (Bool × GOp)) := match gops P W ops (List.range ops.size) with
  | some l =>
    match mkItems P W ops (fun i => match l.find? (·.1 == i) with | some y => flagOf W ops l y | none => false) (greedy ops (fun i => match l.find? (·.1 == i) with | some y => y.2.i.quiet | none => false) ops.size (List.range ops.size) []) with
    | some its => if rgnOk P ops its = true then some (fzOf l, its.map (·.2)) else none
    | none => none
  | none => none

section
variable {P : Program} {E : Nat → Value}

theorem mkItems_spec {W : Opts} {ops : Array Oper} {fl : Nat → Bool} : ∀ {ord : List Nat} {its : List Item}, mkItems P W ops fl ord = some its → ∀ x ∈ its, compOp P W ops x.1 = some x.2.2
  | [], its, h, x, hx => by simp only [mkItems] at h; cases h; simp at hx
  | i :: r, its, h, x, hx => by
    simp only [mkItems] at h
    split at h
    · rename_i g l e1 e2
      cases h
      simp only [List.mem_cons] at hx
      rcases hx with rfl | hx
      · exact e1
      · exact mkItems_spec e2 x hx
    · cases h

theorem dirs_mem {ops : Array Oper} {i : Nat} {o : Oper} (ho : ops[i]? = some o) {d : Nat} : d ∈ dirs ops i ↔ ∃ e ∈ o.after, Region.binds .any e = true ∧ e.on = d := by
  unfold dirs
  rw [ho]
  simp [and_assoc]

def Down (ops : Array Oper) (listed : Array Bool) : Prop := ∀ b, listed.getD b false = true → ∀ d ∈ dirs ops b, listed.getD d false = true
theorem tdep_listed {ops : Array Oper} {listed : Array Bool} (hd : Down ops listed) : ∀ (n : Nat) (s : List Nat), (∀ d ∈ s, listed.getD d false = true) → ∀ d ∈ tdep ops n s, listed.getD d false = true
  | 0, s, h => h
  | n + 1, s, h => by
    refine tdep_listed hd n _ (fun d hm => ?_)
    simp only [List.mem_append, List.mem_filter, List.mem_eraseDups, List.mem_flatMap] at hm
    rcases hm with hm | ⟨⟨b, hb, hm⟩, _⟩
    · exact h d hm
    · exact hd b (h b hb) d hm

theorem Valid.mono {G : Nat → Bool} {f : FuncId} {sp : FSpec} (h : Valid P E G f sp) : Valid P E G f (fun args h nx K => ∃ K0, sp args h nx K0 ∧ ∀ r h', K0 r h' → K r h') := by
  intro args hp o nx K ρ H w vs ⟨K0, h0, hk⟩ h1 h2 h3 h4 h5 h6 h7 h8
  obtain ⟨hc, h9⟩ := h args hp o nx K0 ρ H w vs h0 h1 h2 h3 h4 h5 h6 h7 h8
  refine ⟨hc, h9.mono ?_⟩
  rintro e w' ⟨v, r, h', ρ', H', a1, a2, a3⟩
  exact ⟨v, r, h', ρ', H', a1, hk _ _ a2, a3⟩

theorem Sat.eqv {c : Ctx} {ρ : Nat → Value} {H : FH} {S S' : SSt} (he : Eqv S S') {a : Act} {w : World} (s : Sat P E c ρ H S a w) : Sat P E c ρ H S' a w := by
  obtain ⟨f, h, nx⟩ := S
  obtain ⟨f', h', nx'⟩ := S'
  obtain ⟨e1, e2, e3⟩ := he
  simp only at e1 e2 e3
  subst e2 e3
  exact ⟨fun i => by have := s.fr i; simp only at this ⊢; rw [← e1 i]; exact this, s.sz, s.df, s.hs, s.hin, s.kept, s.ownb, fun i => by have := s.flt i; simp only at this ⊢; rw [← e1 i]; exact this, s.hlt, s.olt, s.nbx, s.sep, s.glob, s.rho, s.hle⟩
theorem Sat.drew {c : Ctx} {ρ : Nat → Value} {H : FH} {S : SSt} {a : Act} {w : World} (s : Sat P E c ρ H S a w) (n : Nat) : Sat P E c ρ H S a { w with drawn := n } :=
  ⟨s.fr, s.sz, s.df, ⟨fun n t h => by have := s.hs.tok n t h; cases t <;> exact this, s.hs.dis⟩, s.hin, ⟨s.kept.os, s.kept.tape, s.kept.output, s.kept.size, s.kept.block⟩, s.ownb, s.flt, s.hlt, s.olt, s.nbx, s.sep, s.glob, s.rho, s.hle⟩

theorem coreT_sound {et : Option TypeId} (hE : Errs2 P et E) {c : Ctx} {W : Opts} (hN : W.N = c.N) (hG : W.gl = c.G) (hC : ErrC E c ∧ W.et = et) {Γ : FuncId → FSpec} (hΓ : AllValid P E c.G Γ) {ρ : Nat → Value} {H : FH} {S : SSt} {a : Act} {w : World} (s : Sat P E c ρ H S a w) {o : Oper} {i : IOp} (hc : comp P W o = some i) {fl : Bool}
    {KS : SSt → Prop} (h : coreT Γ fl i S KS) {K : Act → World → Prop} {Q : Exit → Act → World → Prop} (hK : ∀ S', KS S' → Left P E c S' K) : o.wp P a w K Q := by
  cases hq : quietOf i with
  | some z =>
    obtain ⟨d, v⟩ := z
    rw [coreT_quiet hq] at h
    obtain ⟨p, y, h1, h2, h3⟩ := h
    have h1' : v S.f S.h = some (p, y) := by
      cases fl with
      | true => exact quiet_mono hq h1 S.h
      | false => exact h1
    have e : ev i S = some (p, ⟨(d, y) :: S.f, S.h, S.nx⟩) := by
      have := quiet_ev hq S.f S.h S.nx
      rw [h1'] at this
      exact this
    exact op_sound hE hN hG hC s hc e h2 (hK _ h3)
  | none =>
    by_cases hcl : isCall i = true
    · cases i <;> first | (cases hcl; done) | (exact h.elim) | skip
      rename_i d f args tl fz
      obtain ⟨x0, xs, ts, ho, hd, hdN, hf, hx⟩ := comp_call hc
      obtain ⟨K0, h1, h2⟩ := h
      refine call_sound hC.1 s ho hd (hN ▸ hdN) hf hx (fun f => Valid.mono (hΓ f)) (KS := KS) (tl := tl) ?_ hK
      unfold callP at h1 ⊢
      split at h1
      · exact ⟨K0, h1, fun r h' hr => (h2 r h' hr).2⟩
      · exact h1.elim
    · rw [coreT_loud hq (by simpa using hcl)] at h
      split at h
      · rename_i p S' e
        exact op_sound hE hN hG hC s hc e h.1 (hK _ h.2)
      · exact h.elim

theorem T_sound {et : Option TypeId} (hE : Errs2 P et E) {c : Ctx} {W : Opts} (hN : W.N = c.N) (hG : W.gl = c.G) (hC : ErrC E c ∧ W.et = et) {Γ : FuncId → FSpec} (hΓ : AllValid P E c.G Γ) {ρ : Nat → Value} {H : FH} {S : SSt} {a : Act} {w : World} (s : Sat P E c ρ H S a w) {ops : Array Oper} {i : Nat} {fl : Bool} {g : GOp} (hc : compOp P W ops i = some g)
    {KS : SSt → Prop} (h : T Γ (fl, g) S KS) {K : Act → World → Prop} {Q : Exit → Act → World → Prop} (hK : ∀ S', KS S' → Left P E c S' K) : wpOp P ops Q i K a w := by
  unfold compOp at hc
  unfold wpOp
  split at hc
  · rename_i o ho
    simp only [ho]
    split at hc
    · rename_i j e1 e2
      cases hc
      have hg : o.guard = none := by
        unfold gSlot at e2
        split at e2
        · assumption
        · split at e2 <;> cases e2
      simp only [Region.wanted, hg, if_true]
      exact .inl (coreT_sound hE hN hG hC hΓ s e1 h hK)
    · rename_i j t b e1 e2
      have hgd : ∃ m, o.guard = some (m, b) ∧ (ops[m]?).bind (·.dst) = some t := by
        unfold gSlot at e2
        split at e2
        · cases e2
        · rename_i m b' hgu
          split at e2
          · rename_i t' ht; cases e2; exact ⟨m, hgu, ht⟩
          · cases e2
      obtain ⟨m, hgu, ht⟩ := hgd
      have fin : ∀ d, o.dst = d → (∀ d', d = some d' → d' < W.N) → T Γ (fl, .g t b d j) S KS → if Region.wanted o (yielded ops a.tmps) = true then o.wp P a w K Q ∨ (o.asks P a w ∧ LetsOut Q) else K (a.put o.dst undef) w := by
        intro d hd hdN h
        rcases h with ⟨v, hv, h1, h2⟩ | ⟨hv, h2⟩
        case inr =>
          have hden := s.fr t
          rw [hv] at hden
          have hy : yielded ops a.tmps m = none := by
            unfold yielded
            rw [ht]
            rw [Array.getD_eq_getD_getElem?] at hden
            cases h0 : a.tmps[t]? with
            | none => simp [h0]
            | some u => rw [h0] at hden; simp only [Option.getD_some] at hden; cases hden; simp [h0]
          simp only [Region.wanted, hgu, hy]
          have : ((none : Option Bool) == some b) = false := rfl
          simp only [this, Bool.false_eq_true, if_false]
          have h2' := hK _ h2
          cases d with
          | none => rw [hd]; exact h2' _ _ _ _ s
          | some d => rw [hd]; exact h2' _ _ _ _ (s.put (.tup .nil) trivial (hN ▸ hdN d rfl))
        have hden := s.fr t
        rw [hv] at hden
        have hval : a.tmps[t]? = some (.bool v) := by
          rw [Array.getD_eq_getD_getElem?] at hden
          cases h0 : a.tmps[t]? with
          | none => rw [h0] at hden; simp only [Option.getD_none] at hden; cases hden
          | some u => rw [h0] at hden; simp only [Option.getD_some] at hden; cases hden; rfl
        have hy : yielded ops a.tmps m = some v := by
          unfold yielded
          rw [ht]
          simp [hval]
        simp only [Region.wanted, hgu, hy]
        by_cases hvb : v = b
        · subst hvb
          simp only [beq_self_eq_true, if_true]
          exact .inl (coreT_sound hE hN hG hC hΓ s e1 (h1 rfl) hK)
        · have hvb' : v = !b := by cases v <;> cases b <;> simp_all
          have : (some v == some b) = false := by simp [hvb]
          simp only [this, Bool.false_eq_true, if_false]
          have h2' := hK _ (h2 hvb')
          cases d with
          | none => rw [hd]; exact h2' _ _ _ _ s
          | some d => rw [hd]; exact h2' _ _ _ _ (s.put (.tup .nil) trivial (hN ▸ hdN d rfl))
      split at hc
      · rename_i d hd
        split at hc
        · rename_i hdN; cases hc
          exact fin (some d) hd (fun d' e => by cases e; exact hdN) h
        · cases hc
      · rename_i hd
        cases hc
        exact fin none hd (fun d' e => by cases e) h
    · cases hc
  · cases hc

theorem ready_mem {ops : Array Oper} {listed : Array Bool} {i : Nat} : i ∈ Region.ready .any ops listed ↔ i < ops.size ∧ listed.getD i true = false ∧ ∃ o, ops[i]? = some o ∧ ∀ e ∈ o.after, Region.binds .any e = true → listed.getD e.on false = true := by
  unfold Region.ready
  simp only [List.mem_filter, List.mem_range, Bool.and_eq_true, Bool.not_eq_true']
  refine and_congr_right fun hi => and_congr_right fun _ => ?_
  rw [Array.getElem?_eq_getElem hi]
  simp only [Option.map_some, Option.getD_some, Array.all_eq_true', Bool.or_eq_true, Bool.not_eq_true', Option.some.injEq, exists_eq_left']
  refine forall_congr' fun e => forall_congr' fun he => ?_
  cases Region.binds .any e <;> simp

structure RInv (ops : Array Oper) (listed : Array Bool) (rem : List Item) : Prop where
  size : listed.size = ops.size
  mem : ∀ i, i < ops.size → (listed.getD i true = false ↔ ∃ x ∈ rem, x.1 = i)
  down : Down ops listed

theorem pairsOk_pw {ops : Array Oper} : ∀ {l : List Item}, pairsOk ops l = true → l.Pairwise (fun x y => pairOk ops x y = true)
  | [], _ => .nil
  | x :: r, h => by
    simp only [pairsOk, Bool.and_eq_true, List.all_eq_true] at h
    exact .cons h.1 (pairsOk_pw h.2)

theorem any_sound {et : Option TypeId} (hE : Errs2 P et E) {c : Ctx} {W : Opts} (hN : W.N = c.N) (hG : W.gl = c.G) (hC : ErrC E c ∧ W.et = et) {Γ : FuncId → FSpec} (hΓ : AllValid P E c.G Γ) {ops : Array Oper} {Q : Exit → Act → World → Prop} {KS : SSt → Prop} (hK : ∀ S', KS S' → Left P E c S' (Q .normal)) :
    ∀ (n : Nat) (rem : List Item) (listed : Array Bool) (ρ : Nat → Value) (H : FH) (S : SSt) (a : Act) (w : World), rem.length = n → RInv ops listed rem → rem.Pairwise (fun x y => pairOk ops x y = true) → (∀ x ∈ rem, itemOk ops x = true ∧ x.1 < ops.size ∧ compOp P W ops x.1 = some x.2.2) →
      TL Γ (rem.map (·.2)) (Clo KS) S → Sat P E c ρ H S a w → wpAny P .any ops Q n listed a w := by
  intro n
  induction n with
  | zero =>
    intro rem listed ρ H S a w hl hi hp hx h s
    have : rem = [] := List.eq_nil_of_length_eq_zero hl
    subst this
    obtain ⟨S0, e, hk⟩ := h
    refine ⟨?_, hK S0 hk _ _ _ _ (s.eqv e.symm)⟩
    refine List.eq_nil_iff_forall_not_mem.2 fun i hm => ?_
    obtain ⟨h1, h2, _⟩ := ready_mem.1 hm
    obtain ⟨x, hx', _⟩ := (hi.mem i h1).1 h2
    simp at hx'
  | succ n ih =>
    intro rem listed ρ H S a w hl hi hp hx h s
    have hlisted : ∀ d, d < ops.size → (∀ x ∈ rem, x.1 ≠ d) → listed.getD d false = true := by
      intro d hd hn
      have h1 : listed.getD d true ≠ false := fun e => by
        obtain ⟨x, hm, he⟩ := (hi.mem d hd).1 e
        exact hn x hm he
      have hd' : d < listed.size := by rw [hi.size]; exact hd
      simp only [Array.getD, hd', dif_pos] at h1 ⊢
      simpa using h1
    have hun : ∀ x ∈ rem, listed.getD x.1 false = false := by
      intro x hm
      have h1 := (hi.mem x.1 (hx x hm).2.1).2 ⟨x, hm, rfl⟩
      have hd' : x.1 < listed.size := by rw [hi.size]; exact (hx x hm).2.1
      simp only [Array.getD, hd', dif_pos] at h1 ⊢
      exact h1
    refine ⟨fun h0 => ?_, fun i hm => ?_⟩
    · exfalso
      cases rem with
      | nil => simp at hl
      | cons x r =>
        have hxx := hx x (by simp)
        have : x.1 ∈ Region.ready .any ops listed := by
          refine ready_mem.2 ⟨hxx.2.1, (hi.mem x.1 hxx.2.1).2 ⟨x, by simp, rfl⟩, _, Array.getElem?_eq_getElem hxx.2.1, fun e he hb => ?_⟩
          have hd : e.on ∈ dirs ops x.1 := (dirs_mem (Array.getElem?_eq_getElem hxx.2.1)).2 ⟨e, he, hb, rfl⟩
          have h1 := hxx.1
          simp only [itemOk, Bool.and_eq_true, List.all_eq_true, decide_eq_true_eq, bne_iff_ne] at h1
          have h2 := h1.2 e.on hd
          refine hlisted _ h2.1 (fun y hy => ?_)
          simp only [List.mem_cons] at hy
          rcases hy with rfl | hy
          · exact fun e => h2.2 e.symm
          · have h3 := List.rel_of_pairwise_cons hp hy
            simp only [pairOk, Bool.and_eq_true, Bool.not_eq_true', List.contains_eq_mem, decide_eq_false_iff_not] at h3
            intro e'
            exact h3.1.2 (e' ▸ hd)
        rw [h0] at this
        simp at this
    · obtain ⟨h1, h2, o, ho, h3⟩ := ready_mem.1 hm
      obtain ⟨x, hxm, rfl⟩ := (hi.mem i h1).1 h2
      obtain ⟨pre, post, rfl⟩ := List.append_of_mem hxm
      have hdl : ∀ d ∈ dirs ops x.1, listed.getD d false = true := fun d hd => by
        obtain ⟨e, he, hb, rfl⟩ := (dirs_mem ho).1 hd
        exact h3 e he hb
      rw [List.pairwise_append] at hp
      obtain ⟨hp1, hp2, hp3⟩ := hp
      have hsw : ∀ y ∈ pre, swapOk y.2 x.2 = true := by
        intro y hy
        have h4 := hp3 y hy x (by simp)
        have h5 := hun y (by simp [hy])
        simp only [pairOk, Bool.and_eq_true, Bool.or_eq_true, List.contains_eq_mem, decide_eq_true_eq] at h4
        rcases h4.2 with (h6 | h6) | h6
        · rw [hdl _ h6] at h5; cases h5
        · exact h6
        · rw [tdep_listed hi.down _ _ hdl _ h6] at h5; cases h5
      have hokX : ∀ y ∈ pre ++ x :: post, okX y.2 = true := fun y hy => by
        have := (hx y hy).1
        simp only [itemOk, Bool.and_eq_true] at this
        exact this.1
      have hne : ∀ y ∈ pre ++ post, y.1 ≠ x.1 := by
        intro y hy
        simp only [List.mem_append] at hy
        rcases hy with hy | hy
        · have := hp3 y hy x (by simp)
          simp only [pairOk, Bool.and_eq_true, bne_iff_ne] at this
          exact this.1.1
        · have := List.rel_of_pairwise_cons hp2 hy
          simp only [pairOk, Bool.and_eq_true, bne_iff_ne] at this
          exact fun e => this.1.1 e.symm
      have hT : T Γ x.2 S (TL Γ (pre.map (·.2) ++ post.map (·.2)) (Clo KS)) := by
        refine T_front (hokX x (by simp)) (Clo.closed KS) ?_ ?_ ?_ ?_
        · intro z hz; obtain ⟨y, hy, rfl⟩ := List.mem_map.1 hz; exact hokX y (by simp [hy])
        · intro z hz; obtain ⟨y, hy, rfl⟩ := List.mem_map.1 hz; exact hokX y (by simp [hy])
        · intro z hz; obtain ⟨y, hy, rfl⟩ := List.mem_map.1 hz; exact hsw y hy
        · simpa using h
      refine T_sound hE hN hG hC hΓ s (fl := x.2.1) (g := x.2.2) (hx x (by simp)).2.2 hT (fun S' hS' ρ' H' a' w' s' => ?_)
      have hsz : x.1 < listed.size := by rw [hi.size]; exact h1
      refine ih (pre ++ post) _ ρ' H' S' a' w' (by simp at hl ⊢; omega) ⟨by rw [Array.size_setIfInBounds]; exact hi.size, fun j hj => ?_, fun b hb d hd => ?_⟩ ?_ (fun y hy => hx y (by simp only [List.mem_append, List.mem_cons] at hy ⊢; rcases hy with hy | hy <;> simp [hy])) (by simpa using hS') s'
      · have hjs : j < listed.size := by rw [hi.size]; exact hj
        have hm := hi.mem j hj
        simp only [Array.getD, Array.size_setIfInBounds, hjs, dif_pos] at hm ⊢
        by_cases e : x.1 = j
        · subst e
          refine ⟨fun hh => ?_, fun ⟨y, hy, e⟩ => absurd e (hne y hy)⟩
          have h9 : (listed.setIfInBounds x.1 true)[x.1]'(by rw [Array.size_setIfInBounds]; exact hjs) = true := by
            simp
          have hh' : (listed.setIfInBounds x.1 true)[x.1]'(by rw [Array.size_setIfInBounds]; exact hjs) = false := hh
          rw [h9] at hh'; cases hh'
        · have : (listed.setIfInBounds x.1 true)[j]'(by rw [Array.size_setIfInBounds]; exact hjs) = listed[j] := by
            rw [Array.getElem_setIfInBounds hjs]
            simp [e]
          show (listed.setIfInBounds x.1 true)[j]'(by rw [Array.size_setIfInBounds]; exact hjs) = false ↔ _
          rw [this]
          refine hm.trans ⟨?_, ?_⟩
          · rintro ⟨y, hy, rfl⟩
            simp only [List.mem_append, List.mem_cons] at hy
            rcases hy with hy | rfl | hy
            · exact ⟨y, by simp [hy], rfl⟩
            · exact absurd rfl e
            · exact ⟨y, by simp [hy], rfl⟩
          · rintro ⟨y, hy, rfl⟩
            simp only [List.mem_append] at hy
            rcases hy with hy | hy
            · exact ⟨y, by simp [hy], rfl⟩
            · exact ⟨y, by simp [hy], rfl⟩
      · have mono : ∀ d, listed.getD d false = true → (listed.setIfInBounds x.1 true).getD d false = true := by
          intro d hd
          by_cases hds : d < listed.size
          · simp only [Array.getD, Array.size_setIfInBounds, hds, dif_pos] at hd ⊢
            show (listed.setIfInBounds x.1 true)[d]'(by rw [Array.size_setIfInBounds]; exact hds) = true
            rw [Array.getElem_setIfInBounds hds]
            split
            · rfl
            · exact hd
          · simp only [Array.getD, hds, dif_neg, not_false_eq_true] at hd
            cases hd
        by_cases e : x.1 = b
        · subst e; exact mono d (hdl d hd)
        · refine mono d (hi.down b ?_ d hd)
          by_cases hbs : b < listed.size
          · simp only [Array.getD, Array.size_setIfInBounds, hbs, dif_pos] at hb ⊢
            have : (listed.setIfInBounds x.1 true)[b]'(by rw [Array.size_setIfInBounds]; exact hbs) = listed[b] := by
              rw [Array.getElem_setIfInBounds hbs]; simp [e]
            have hb' : (listed.setIfInBounds x.1 true)[b]'(by rw [Array.size_setIfInBounds]; exact hbs) = true := hb
            rw [this] at hb'; exact hb'
          · simp only [Array.getD, Array.size_setIfInBounds, hbs, dif_neg, not_false_eq_true] at hb
            cases hb
      · rw [List.pairwise_append]
        exact ⟨hp1, (List.pairwise_cons.1 hp2).2, fun y hy z hz => hp3 y hy z (by simp [hz])⟩

theorem rgn_sound {et : Option TypeId} (hE : Errs2 P et E) {c : Ctx} {W : Opts} (hN : W.N = c.N) (hG : W.gl = c.G) (hC : ErrC E c ∧ W.et = et) {Γ : FuncId → FSpec} (hΓ : AllValid P E c.G Γ) {id : Nat} {ops : Array Oper} {Q : Exit → Act → World → Prop} {KS : SSt → Prop} (hK : ∀ S', KS S' → Left P E c S' (Q .normal))
    {fz : List Opd} {l : List (Bool × GOp)} (hc : compRgn P W ops = some (fz, l)) {ρ : Nat → Value} {H : FH} {S : SSt} {a : Act} {w : World} (s : Sat P E c ρ H S a w) (h : vD Γ l KS S) : (Code.region id ops true).wp P Q a w := by
  unfold compRgn at hc
  split at hc
  · split at hc
    · rename_i its e
      split at hc
      · rename_i hok
        cases hc
        simp only [rgnOk, Bool.and_eq_true, beq_iff_eq, List.all_eq_true, List.mem_range, List.any_eq_true, decide_eq_true_eq] at hok
        obtain ⟨⟨⟨⟨⟨hm, hlen⟩, hall⟩, hlt⟩, hit⟩, hpairs⟩ := hok
        have hx := mkItems_spec e
        refine wp_region_any hm ?_
        have hokX : ∀ x ∈ its.map (·.2), okX x = true := fun z hz => by
          obtain ⟨y, hy, rfl⟩ := List.mem_map.1 hz
          have := hit y hy
          simp only [itemOk, Bool.and_eq_true] at this
          exact this.1
        refine any_sound hE hN hG hC hΓ hK ops.size its _ ρ H S a _ hlen ⟨by simp, fun i hi => ?_, fun b hb => ?_⟩ (pairsOk_pw hpairs) (fun x hxm => ⟨hit x hxm, hlt x hxm, hx x hxm⟩) (TL_of_vD hokX h) (s.drew _)
        · have : (Array.replicate ops.size false).getD i true = false := by simp [Array.getD, hi]
          exact ⟨fun _ => hall i hi, fun _ => this⟩
        · exfalso
          by_cases hbs : b < ops.size
          · simp [Array.getD, hbs] at hb
          · simp [Array.getD, hbs] at hb
      · cases hc
    · cases hc
  · cases hc
end
end Go.Fw
