/- The frame-work, part Uc: one order serves every order. -/
import Derived.Test.YtnpjmmimlhgipaaDoorFwUa
namespace Go.Fw
set_option linter.unusedVariables false
set_option linter.unusedSimpArgs false
open Go

/-- What an operation of such a region does; 'fl': it must not look at owned memory. -/
def evI (fl : Bool) (i : IOp) (S : SSt) : Out := match fl with
  | true => match ev i ⟨S.f, [], S.nx⟩ with
    | some (p, S') => some (p, ⟨S'.f, S.h, S'.nx⟩)
    | none => none
  | false => ev i S
def vOpD (Γ : FuncId → FSpec) (fl : Bool) (i : IOp) (S : SSt) (K : SSt → Prop) : Prop :=
  match i with
  | .call d f args ts _ => match fl with
    | false => callP Γ (oget f S.f) (argSs ts (ogets args S.f)) S.h S.nx (fun r h' => K { f := (d, r) :: S.f, h := h', nx := S.nx + 64 })
    | true => callP Γ (oget f S.f) (argSs ts (ogets args S.f)) S.h S.nx (fun r h' => h' = S.h ∧ K { f := (d, r) :: S.f, h := h', nx := S.nx + 64 })
  | i => match evI fl i S with
    | some (p, S') => p ∧ K S'
    | none => False
def vD (Γ : FuncId → FSpec) : List (Bool × GOp) → (SSt → Prop) → SSt → Prop
  | [], K, S => K S
  | (fl, .u i) :: r, K, S => vOpD Γ fl i S (fun S' => vD Γ r K S')
  | (fl, .g t b d i) :: r, K, S => match fget S.f t with
    | .bool v => (v = b → vOpD Γ fl i (S.put t (.bool b)) (fun S' => vD Γ r K S')) ∧ (v = !b → vD Γ r K (skipD d (S.put t (.bool (!b)))))
    | .tup [] => vD Γ r K (skipD d S)
    | _ => False

/-- Two states that say the same. -/
def Eqv (S S' : SSt) : Prop := (∀ i, fget S.f i = fget S'.f i) ∧ S.h = S'.h ∧ S.nx = S'.nx
theorem Eqv.refl (S : SSt) : Eqv S S := ⟨fun _ => rfl, rfl, rfl⟩
theorem Eqv.symm {S S' : SSt} (h : Eqv S S') : Eqv S' S := ⟨fun i => (h.1 i).symm, h.2.1.symm, h.2.2.symm⟩
theorem Eqv.trans {A B C : SSt} (h : Eqv A B) (k : Eqv B C) : Eqv A C := ⟨fun i => (h.1 i).trans (k.1 i), h.2.1.trans k.2.1, h.2.2.trans k.2.2⟩
def Clo (K : SSt → Prop) : SSt → Prop := fun S => ∃ S0, Eqv S0 S ∧ K S0
def Closed (K : SSt → Prop) : Prop := ∀ S S', Eqv S S' → K S → K S'
theorem Clo.closed (K : SSt → Prop) : Closed (Clo K) := fun _ _ h ⟨S0, h0, hk⟩ => ⟨S0, h0.trans h, hk⟩

theorem fget_app {a f : Fr} {i : Nat} (h : ∀ q ∈ a, q.1 ≠ i) : fget (a ++ f) i = fget f i := by
  induction a with
  | nil => rfl
  | cons q a ih =>
    obtain ⟨j, v⟩ := q
    simp only [List.cons_append, fget]
    rw [if_neg (h (j, v) (by simp))]
    exact ih (fun q hq => h q (by simp [hq]))
theorem fget_app_congr {a f f' : Fr} {i : Nat} (h : fget f i = fget f' i) : fget (a ++ f) i = fget (a ++ f') i := by
  induction a with
  | nil => exact h
  | cons q a ih => obtain ⟨j, v⟩ := q; simp only [List.cons_append, fget]; rw [ih]
theorem fget_app_swap {a b f : Fr} (h : ∀ p ∈ a, ∀ q ∈ b, p.1 ≠ q.1) (i : Nat) : fget (a ++ (b ++ f)) i = fget (b ++ (a ++ f)) i := by
  by_cases ha : ∀ q ∈ a, q.1 ≠ i
  · rw [fget_app ha]
    exact fget_app_congr (fget_app ha).symm
  · have hb : ∀ q ∈ b, q.1 ≠ i := by
      intro q hq e
      apply ha
      intro p hp e'
      exact h p hp q hq (e'.trans e.symm)
    rw [fget_app hb]
    exact fget_app_congr (fget_app hb)

/-- The same, what follows behind a closed word. -/
def coreT (Γ : FuncId → FSpec) (fl : Bool) (i : IOp) (S : SSt) (K : SSt → Prop) : Prop :=
  match i with
  | .call d f args ts _ => ∃ K0, callP Γ (oget f S.f) (argSs ts (ogets args S.f)) S.h S.nx K0 ∧ ∀ r h', K0 r h' → (fl = true → h' = S.h) ∧ K { f := (d, r) :: S.f, h := h', nx := S.nx + 64 }
  | i => match quietOf i with
    | some (d, v) => ∃ p y, v S.f (if fl then [] else S.h) = some (p, y) ∧ p ∧ K ⟨(d, y) :: S.f, S.h, S.nx⟩
    | none => match ev i S with
      | some (p, S') => p ∧ K S'
      | none => False
def T (Γ : FuncId → FSpec) (x : Bool × GOp) (S : SSt) (K : SSt → Prop) : Prop := match x.2 with
  | .u i => coreT Γ x.1 i S K
  | .g t b d i => (∃ v, fget S.f t = .bool v ∧ (v = b → coreT Γ x.1 i S K) ∧ (v = !b → K (skipD d S))) ∨ (fget S.f t = .tup [] ∧ K (skipD d S))
def TL (Γ : FuncId → FSpec) : List (Bool × GOp) → (SSt → Prop) → SSt → Prop
  | [], K, S => K S
  | x :: r, K, S => T Γ x S (TL Γ r K)

def GOp.i : GOp → IOp
  | .u i => i
  | .g _ _ _ i => i
def GOp.looks : GOp → List Nat
  | .u i => i.looks
  | .g t _ _ i => t :: i.looks
def isCallF : IOp → Bool
  | .call .. => true
  | _ => false
/-- It leaves owned memory as it is. -/
def calmI (fl : Bool) (i : IOp) : Bool := i.quiet || (fl && isCallF i)
def calmX (x : Bool × GOp) : Bool := calmI x.1 x.2.i
def quietX (x : Bool × GOp) : Bool := x.2.i.quiet
def steadyX (x : Bool × GOp) : Bool := x.2.i.quiet && (x.1 || !heapy x.2.i)
/-- What the region's check asks of each operation. -/
def okX (x : Bool × GOp) : Bool := !isCvs x.2.i && (!x.1 || x.2.i.quiet || isCallF x.2.i) && match x.2 with
  | .u _ => true
  | .g _ _ d i => d == i.dst

def swapOk (x y : Bool × GOp) : Bool :=
  quietX x && (steadyX x || calmX y) && (match x.2.i.dst with
    | some d => !y.2.looks.contains d && y.2.i.dst != some d
    | none => true) && (match y.2.i.dst with
    | some d => !x.2.looks.contains d
    | none => true)

theorem loud_par {i : IOp} (hq : quietOf i = none) (hc : isCvs i = false) (hcall : isCall i = false) {S : SSt} {f' : Fr} {p : Prop} {S1 : SSt} (hf : ∀ n ∈ i.looks, fget f' n = fget S.f n) (h : ev i S = some (p, S1)) :
    ∃ add h1 nx1, S1 = ⟨add ++ S.f, h1, nx1⟩ ∧ ev i ⟨f', S.h, S.nx⟩ = some (p, ⟨add ++ f', h1, nx1⟩) ∧ ∀ q ∈ add, i.dst = some q.1 := by
  cases i <;> first | (simp [quietOf] at hq; done) | (cases hc; done) | (cases hcall; done) | skip
  case alc d z =>
    simp only [ev] at h ⊢; cases h
    exact ⟨[(d, .ptr S.nx 0)], _, _, rfl, rfl, by simp [IOp.dst]⟩
  case box d n x =>
    simp only [ev] at h ⊢
    rw [oget_par hf]
    split at h
    · rename_i l e; cases h; (try simp only [e])
      exact ⟨[(d, .ptr S.nx 0)], _, _, rfl, rfl, by simp [IOp.dst]⟩
    · rename_i y e; cases h
      refine ⟨[(d, .ptr S.nx 0)], _, _, rfl, ?_, by simp [IOp.dst]⟩
      rfl
  case st t x y =>
    simp only [IOp.looks, List.mem_append] at hf
    simp only [ev] at h ⊢
    rw [oget_par (x := x) (fun n hn => hf n (.inl hn)), oget_par (x := y) (fun n hn => hf n (.inr hn))]
    split at h
    · rename_i p' h' e; cases h; (try simp only [e])
      exact ⟨[], _, _, rfl, rfl, by simp⟩
    · cases h
  case app d eid e b x y =>
    simp only [IOp.looks, List.mem_append] at hf
    simp only [ev] at h ⊢
    rw [oget_par (x := x) (fun n hn => hf n (.inl hn)), oget_par (x := y) (fun n hn => hf n (.inr hn))]
    split at h
    · rename_i p' v h' e; cases h; (try simp only [e])
      exact ⟨[(d, v)], _, _, rfl, rfl, by simp [IOp.dst]⟩
    · cases h
  case mk d eid e b z x y =>
    simp only [IOp.looks, List.mem_append] at hf
    simp only [ev] at h ⊢
    rw [oget_par (x := x) (fun n hn => hf n (.inl hn)), oget_par (x := y) (fun n hn => hf n (.inr hn))]
    split at h
    · rename_i k1 l k2 c e1 e2; cases h; (try simp only [e1, e2])
      exact ⟨[(d, .vec S.nx)], _, _, rfl, rfl, by simp [IOp.dst]⟩
    · cases h
  case sl0 d eid e x =>
    simp only [ev] at h ⊢
    rw [oget_par hf]
    split at h
    · rename_i p' e; cases h; (try simp only [e])
      exact ⟨[(d, .vec S.nx)], _, _, rfl, rfl, by simp [IOp.dst]⟩
    · cases h
  case mkm d kt vt =>
    simp only [ev] at h ⊢; cases h
    exact ⟨[(d, .vec S.nx)], _, _, rfl, rfl, by simp [IOp.dst]⟩
  case mup kt vt k t x i v =>
    simp only [IOp.looks, List.mem_append] at hf
    simp only [ev] at h ⊢
    rw [oget_par (x := x) (fun n hn => hf n (.inl hn)), oget_par (x := i) (fun n hn => hf n (.inr (.inl hn))), oget_par (x := v) (fun n hn => hf n (.inr (.inr hn)))]
    split at h
    · rename_i p' h' e; cases h; (try simp only [e])
      exact ⟨[], _, _, rfl, rfl, by simp⟩
    · cases h
  case mdl d kt vt k x i =>
    simp only [IOp.looks, List.mem_append] at hf
    simp only [ev] at h ⊢
    rw [oget_par (x := x) (fun n hn => hf n (.inl hn)), oget_par (x := i) (fun n hn => hf n (.inr hn))]
    split at h
    · rename_i p' h' e; cases h; (try simp only [e])
      exact ⟨[(d, .tup [])], _, _, rfl, rfl, by simp [IOp.dst]⟩
    · cases h
  case bsl d eid e l =>
    simp only [ev] at h ⊢
    rw [ogets_par hf]
    split at h
    · rename_i ds e; cases h; (try simp only [e])
      exact ⟨[(d, .vec S.nx)], _, _, rfl, rfl, by simp [IOp.dst]⟩
    · cases h

theorem quiet_dst {i : IOp} {d : Nat} {v : Fr → Heap → Option (Prop × SV)} (h : quietOf i = some (d, v)) : i.dst = some d := by
  cases i <;> simp only [quietOf] at h <;> cases h <;> rfl
theorem quiet_call {i : IOp} (h : isCall i = true) : quietOf i = none := by cases i <;> first | (cases h; done) | rfl

theorem coreT_quiet {Γ : FuncId → FSpec} {fl : Bool} {i : IOp} {d : Nat} {v : Fr → Heap → Option (Prop × SV)} (h : quietOf i = some (d, v)) {S : SSt} {K : SSt → Prop} : coreT Γ fl i S K ↔ ∃ p y, v S.f (if fl then [] else S.h) = some (p, y) ∧ p ∧ K ⟨(d, y) :: S.f, S.h, S.nx⟩ := by
  cases i <;> simp only [quietOf] at h <;> cases h <;> exact Iff.rfl
theorem coreT_loud {Γ : FuncId → FSpec} {fl : Bool} {i : IOp} (h : quietOf i = none) (hc : isCall i = false) {S : SSt} {K : SSt → Prop} : coreT Γ fl i S K ↔ match ev i S with | some (p, S') => p ∧ K S' | none => False := by
  cases i <;> first | (simp [quietOf] at h; done) | (cases hc; done) | exact Iff.rfl

theorem coreT_par {Γ : FuncId → FSpec} {fl : Bool} {i : IOp} (hcv : isCvs i = false) {S S' : SSt} (hag : ∀ n ∈ i.looks, fget S'.f n = fget S.f n) (hh : S'.h = S.h) (hn : S'.nx = S.nx) {K K' : SSt → Prop}
    (hK : ∀ add h1 nx1, (∀ q ∈ add, i.dst = some q.1) → (calmI fl i = true → h1 = S.h) → K ⟨add ++ S.f, h1, nx1⟩ → K' ⟨add ++ S'.f, h1, nx1⟩) (h : coreT Γ fl i S K) : coreT Γ fl i S' K' := by
  cases hq : quietOf i with
  | some z =>
    obtain ⟨d, v⟩ := z
    rw [coreT_quiet hq] at h ⊢
    obtain ⟨p, y, h1, h2, h3⟩ := h
    refine ⟨p, y, ?_, h2, ?_⟩
    · rw [quiet_par hq hag, hh]; exact h1
    · have := hK [(d, y)] S.h S.nx (by simp [quiet_dst hq]) (fun _ => rfl) h3
      rw [hh, hn]; exact this
  | none =>
    by_cases hc : isCall i = true
    · cases i <;> first | (cases hc; done) | (exact h.elim) | skip
      rename_i d f args ts fz
      obtain ⟨K0, h1, h2⟩ := h
      refine ⟨K0, ?_, fun r h' hr => ?_⟩
      · simp only [IOp.looks, List.mem_append] at hag
        rw [oget_par (x := f) (fun n hn => hag n (.inl hn)), ogets_par (fun n hn => hag n (.inr hn)), hh, hn]; exact h1
      · have h3 := h2 r h' hr
        have := hK [(d, r)] h' (S.nx + 64) (by simp [IOp.dst]) (fun h => by
          cases fl with
          | true => exact h3.1 rfl
          | false => simp [calmI, IOp.quiet, hq] at h) h3.2
        rw [hn, hh]; exact ⟨h3.1, this⟩
    · have hc' : isCall i = false := by simpa using hc
      rw [coreT_loud hq hc'] at h ⊢
      split at h
      · rename_i p S1 e
        obtain ⟨add, h1, nx1, rfl, e2, e3⟩ := loud_par hq hcv hc' hag e
        have : S' = ⟨S'.f, S.h, S.nx⟩ := by rw [← hh, ← hn]
        rw [this, e2]
        exact ⟨h.1, hK add h1 nx1 e3 (fun hqq => by
          have : isCallF i = false := by cases i <;> first | rfl | (cases hc'; done)
          simp [calmI, IOp.quiet, hq, this] at hqq) h.2⟩
      · exact h.elim

def addD (d : Option Nat) : Fr := match d with
  | some d => [(d, .tup [])]
  | none => []
theorem skipD_add (d : Option Nat) (S : SSt) : skipD d S = ⟨addD d ++ S.f, S.h, S.nx⟩ := by cases d <;> rfl
theorem addD_mem {d : Option Nat} {q : Nat × SV} (h : q ∈ addD d) : d = some q.1 := by
  cases d with
  | none => simp [addD] at h
  | some d => simp [addD] at h; subst h; rfl

theorem T_par {Γ : FuncId → FSpec} {x : Bool × GOp} (hok : okX x = true) {S S' : SSt} (hag : ∀ n ∈ x.2.looks, fget S'.f n = fget S.f n) (hh : S'.h = S.h) (hn : S'.nx = S.nx) {K K' : SSt → Prop}
    (hK : ∀ add h1 nx1, (∀ q ∈ add, x.2.i.dst = some q.1) → (calmX x = true → h1 = S.h) → K ⟨add ++ S.f, h1, nx1⟩ → K' ⟨add ++ S'.f, h1, nx1⟩) (h : T Γ x S K) : T Γ x S' K' := by
  obtain ⟨fl, g⟩ := x
  simp only [okX, Bool.and_eq_true, Bool.not_eq_true'] at hok
  cases g with
  | u i => exact coreT_par hok.1.1 hag hh hn hK h
  | g t b d i =>
    have hd : d = i.dst := by simpa using hok.2
    rcases h with ⟨v, h1, h2, h3⟩ | ⟨h1, h3⟩
    case inr =>
      refine .inr ⟨by rw [hag t (by simp [GOp.looks])]; exact h1, ?_⟩
      have := h3
      rw [skipD_add] at this ⊢
      have := hK (addD d) S.h S.nx (fun q hq => by rw [← addD_mem hq, hd]; rfl) (fun _ => rfl) this
      rw [hh, hn]; exact this
    refine .inl ⟨v, ?_, fun hv => coreT_par hok.1.1 (fun n hn => hag n (List.mem_cons_of_mem _ hn)) hh hn hK (h2 hv), fun hv => ?_⟩
    · rw [hag t (by simp [GOp.looks])]; exact h1
    · have := h3 hv
      rw [skipD_add] at this ⊢
      have := hK (addD d) S.h S.nx (fun q hq => by rw [← addD_mem hq, hd]; rfl) (fun _ => rfl) this
      rw [hh, hn]; exact this
theorem T_mono {Γ : FuncId → FSpec} {x : Bool × GOp} (hok : okX x = true) {S : SSt} {K K' : SSt → Prop} (hK : ∀ S, K S → K' S) (h : T Γ x S K) : T Γ x S K' :=
  T_par hok (fun _ _ => rfl) rfl rfl (fun _ _ _ _ _ hk => hK _ hk) h
theorem T_closed {Γ : FuncId → FSpec} {x : Bool × GOp} (hok : okX x = true) {K : SSt → Prop} (hK : Closed K) : Closed (fun S => T Γ x S K) := by
  intro S S' he h
  exact T_par hok (fun n _ => (he.1 n).symm) he.2.1.symm he.2.2.symm (fun add h1 nx1 _ _ hk => hK ⟨add ++ S.f, h1, nx1⟩ ⟨add ++ S'.f, h1, nx1⟩ ⟨fun i => fget_app_congr (he.1 i), rfl, rfl⟩ hk) h
theorem TL_closed {Γ : FuncId → FSpec} {K : SSt → Prop} (hK : Closed K) : ∀ {l : List (Bool × GOp)}, (∀ x ∈ l, okX x = true) → Closed (TL Γ l K)
  | [], _ => hK
  | x :: r, h => T_closed (h x (by simp)) (TL_closed hK (fun y hy => h y (by simp [hy])))

theorem T_std {Γ : FuncId → FSpec} {x : Bool × GOp} (hok : okX x = true) (hq : quietX x = true) {S : SSt} {K : SSt → Prop} (h : T Γ x S K) :
    ∃ add, (∀ q ∈ add, x.2.i.dst = some q.1) ∧ K ⟨add ++ S.f, S.h, S.nx⟩ ∧ ∀ (S' : SSt) (K' : SSt → Prop), (∀ n ∈ x.2.looks, fget S'.f n = fget S.f n) → (steadyX x = true ∨ S'.h = S.h) → K' ⟨add ++ S'.f, S'.h, S'.nx⟩ → T Γ x S' K' := by
  obtain ⟨fl, g⟩ := x
  simp only [okX, Bool.and_eq_true, Bool.not_eq_true'] at hok
  have key : ∀ i, g.i = i → coreT Γ fl i S K → ∃ add, (∀ q ∈ add, i.dst = some q.1) ∧ K ⟨add ++ S.f, S.h, S.nx⟩ ∧ ∀ (S' : SSt) (K' : SSt → Prop), (∀ n ∈ i.looks, fget S'.f n = fget S.f n) → (steadyX (fl, g) = true ∨ S'.h = S.h) → K' ⟨add ++ S'.f, S'.h, S'.nx⟩ → coreT Γ fl i S' K' := by
    intro i hi hc
    subst hi
    unfold quietX IOp.quiet at hq
    cases hz : quietOf g.i with
    | none => simp only [hz] at hq; cases hq
    | some z =>
      obtain ⟨d, v⟩ := z
      rw [coreT_quiet hz] at hc
      obtain ⟨p, y, h1, h2, h3⟩ := hc
      refine ⟨[(d, y)], by simp [quiet_dst hz], h3, fun S' K' hag hst hk => ?_⟩
      rw [coreT_quiet hz]
      refine ⟨p, y, ?_, h2, hk⟩
      rw [quiet_par hz hag]
      cases fl with
      | true => exact h1
      | false =>
        simp only [Bool.false_eq_true, if_false] at h1 ⊢
        rcases hst with hst | hst
        · simp only [steadyX, Bool.and_eq_true, Bool.false_or, Bool.not_eq_true'] at hst
          rw [quiet_heap hz hst.2 _ _ S.h]; exact h1
        · rw [hst]; exact h1
  cases g with
  | u i => exact key i rfl h
  | g t b d i =>
    have hd : d = i.dst := by simpa using hok.2
    rcases h with ⟨v, h1, h2, h3⟩ | ⟨h1, h3⟩
    case inr =>
      have := h3
      rw [skipD_add] at this
      refine ⟨addD d, fun q hq => by rw [← addD_mem hq, hd]; rfl, this, fun S' K' hag hst hk => .inr ⟨?_, ?_⟩⟩
      · rw [hag t (by simp [GOp.looks])]; exact h1
      · rw [skipD_add]; exact hk
    by_cases hv : v = b
    · obtain ⟨add, e1, e2, e3⟩ := key i rfl (h2 hv)
      refine ⟨add, e1, e2, fun S' K' hag hst hk => .inl ⟨v, ?_, fun _ => e3 S' K' (fun n hn => hag n (by simp [GOp.looks, hn])) hst hk, fun hv' => ?_⟩⟩
      · rw [hag t (by simp [GOp.looks])]; exact h1
      · subst hv; cases v <;> cases hv'
    · have hv' : v = !b := by cases v <;> cases b <;> simp_all
      have := h3 hv'
      rw [skipD_add] at this
      refine ⟨addD d, fun q hq => by rw [← addD_mem hq, hd]; rfl, this, fun S' K' hag hst hk => .inl ⟨v, ?_, fun h => absurd h hv, fun _ => ?_⟩⟩
      · rw [hag t (by simp [GOp.looks])]; exact h1
      · rw [skipD_add]; exact hk

theorem T_swap {Γ : FuncId → FSpec} {x y : Bool × GOp} (hx : okX x = true) (hy : okX y = true) (hs : swapOk x y = true) {S : SSt} {K : SSt → Prop} (hK : Closed K) (h : T Γ x S (fun S1 => T Γ y S1 K)) : T Γ y S (fun S1 => T Γ x S1 K) := by
  simp only [swapOk, Bool.and_eq_true, Bool.or_eq_true] at hs
  obtain ⟨⟨⟨hq, hst⟩, hd1⟩, hd2⟩ := hs
  obtain ⟨add, e1, e2, e3⟩ := T_std hx hq h
  have a1 : ∀ q ∈ add, ∀ n ∈ y.2.looks, q.1 ≠ n := by
    intro q hq n hn e
    have := e1 q hq
    rw [this] at hd1
    simp only [Bool.and_eq_true, Bool.not_eq_true', List.contains_eq_mem, decide_eq_false_iff_not] at hd1
    exact hd1.1 (e ▸ hn)
  refine T_par hy (S := ⟨add ++ S.f, S.h, S.nx⟩) (S' := S) (fun n hn => (fget_app (fun q hq => a1 q hq n hn)).symm) rfl rfl (fun addy h1 nx1 k1 k2 hk => ?_) e2
  have a2 : ∀ q ∈ addy, ∀ n ∈ x.2.looks, q.1 ≠ n := by
    intro q hq n hn e
    have := k1 q hq
    rw [this] at hd2
    simp only [Bool.not_eq_true', List.contains_eq_mem, decide_eq_false_iff_not] at hd2
    exact hd2 (e ▸ hn)
  have a3 : ∀ p ∈ add, ∀ q ∈ addy, p.1 ≠ q.1 := by
    intro p hp q hq e
    have h1 := e1 p hp
    have h2 := k1 q hq
    rw [h1] at hd1
    simp only [Bool.and_eq_true, bne_iff_ne] at hd1
    exact hd1.2 (by rw [h2, e])
  refine e3 ⟨addy ++ S.f, h1, nx1⟩ K (fun n hn => fget_app (fun q hq => a2 q hq n hn)) (hst.imp id (fun hqy => k2 hqy)) (hK ⟨addy ++ (add ++ S.f), h1, nx1⟩ ⟨add ++ (addy ++ S.f), h1, nx1⟩ ⟨fun i => ?_, rfl, rfl⟩ hk)
  exact (fget_app_swap a3 i).symm

theorem T_front {Γ : FuncId → FSpec} {y : Bool × GOp} (hy : okX y = true) {K : SSt → Prop} (hK : Closed K) {post : List (Bool × GOp)} (hpost : ∀ x ∈ post, okX x = true) : ∀ {pre : List (Bool × GOp)}, (∀ x ∈ pre, okX x = true) → (∀ x ∈ pre, swapOk x y = true) → ∀ {S : SSt}, TL Γ (pre ++ y :: post) K S → T Γ y S (TL Γ (pre ++ post) K)
  | [], _, _, S, h => h
  | x :: pre, h1, h2, S, h => by
    have ih : ∀ S1, TL Γ (pre ++ y :: post) K S1 → T Γ y S1 (TL Γ (pre ++ post) K) := fun S1 => T_front hy hK hpost (fun z hz => h1 z (by simp [hz])) (fun z hz => h2 z (by simp [hz]))
    have h' : T Γ x S (fun S1 => T Γ y S1 (TL Γ (pre ++ post) K)) := T_mono (h1 x (by simp)) ih h
    exact T_swap (h1 x (by simp)) hy (h2 x (by simp)) (TL_closed (l := pre ++ post) hK (fun z hz => by
      simp only [List.mem_append] at hz
      rcases hz with hz | hz
      · exact h1 z (by simp [hz])
      · exact hpost z hz)) h'

theorem coreT_of_vOpD {Γ : FuncId → FSpec} {fl : Bool} {i : IOp} (hok : (!fl || i.quiet || isCallF i) = true) {S : SSt} {K : SSt → Prop} (h : vOpD Γ fl i S K) : coreT Γ fl i S K := by
  cases hq : quietOf i with
  | some z =>
    obtain ⟨d, v⟩ := z
    rw [coreT_quiet hq]
    have h' : match evI fl i S with | some (p, S') => p ∧ K S' | none => False := by
      cases i <;> first | (simp [quietOf] at hq; done) | exact h
    cases fl with
    | true =>
      try simp only [evI] at h'
      try rw [quiet_ev hq] at h'
      (try simp only [if_true])
      cases hv : v S.f [] with
      | none => rw [hv] at h'; exact h'.elim
      | some z => obtain ⟨p, y⟩ := z; rw [hv] at h'; exact ⟨p, y, rfl, h'.1, h'.2⟩
    | false =>
      obtain ⟨f, hp, nx⟩ := S
      try simp only [evI] at h'
      try rw [quiet_ev hq] at h'
      (try simp only [Bool.false_eq_true, if_false])
      cases hv : v f hp with
      | none => rw [hv] at h'; exact h'.elim
      | some z => obtain ⟨p, y⟩ := z; rw [hv] at h'; exact ⟨p, y, rfl, h'.1, h'.2⟩
  | none =>
    by_cases hc : isCall i = true
    · cases i <;> first | (cases hc; done) | (cases fl <;> simp [vOpD, evI, ev] at h; done) | skip
      cases fl with
      | false => exact ⟨_, h, fun r h' hr => ⟨fun h => (by cases h), hr⟩⟩
      | true => exact ⟨_, h, fun r h' hr => ⟨fun _ => hr.1, hr.2⟩⟩
    · have hfl : fl = false := by
        cases fl with
        | false => rfl
        | true =>
          have : isCallF i = false := by cases i <;> first | rfl | exact absurd rfl hc
          simp [IOp.quiet, hq, this] at hok
      subst hfl
      rw [coreT_loud hq (by simpa using hc)]
      cases i <;> first | (exact absurd rfl hc) | exact h

theorem TL_of_vD {Γ : FuncId → FSpec} {K : SSt → Prop} : ∀ {l : List (Bool × GOp)}, (∀ x ∈ l, okX x = true) → ∀ {S : SSt}, vD Γ l K S → TL Γ l (Clo K) S
  | [], _, S, h => ⟨S, .refl S, h⟩
  | (fl, .u i) :: r, hok, S, h => by
    have h0 := hok (fl, .u i) (by simp)
    have hfl : (!fl || i.quiet || isCallF i) = true := by simp only [okX, GOp.i, Bool.and_eq_true] at h0; exact h0.1.2
    exact T_mono h0 (fun S1 h1 => TL_of_vD (fun x hx => hok x (by simp [hx])) h1) (show T Γ (fl, .u i) S (fun S' => vD Γ r K S') from coreT_of_vOpD hfl h)
  | (fl, .g t b d i) :: r, hok, S, h => by
    have h0 := hok (fl, .g t b d i) (by simp)
    have hfl : (!fl || i.quiet || isCallF i) = true := by simp only [okX, GOp.i, Bool.and_eq_true] at h0; exact h0.1.2
    have hr : ∀ S1, vD Γ r K S1 → TL Γ r (Clo K) S1 := fun S1 h1 => TL_of_vD (fun x hx => hok x (by simp [hx])) h1
    have hcl : Closed (TL Γ r (Clo K)) := TL_closed (Clo.closed K) (fun x hx => hok x (by simp [hx]))
    simp only [vD] at h
    split at h
    · rename_i v hv
      have heq : ∀ b', v = b' → Eqv (S.put t (.bool b')) S := by
        intro b' e
        refine ⟨fun j => ?_, rfl, rfl⟩
        simp only [SSt.put, fget]
        split
        · rename_i e'; subst e'; rw [hv, e]
        · rfl
      refine .inl ⟨v, hv, fun e => ?_, fun e => ?_⟩
      · have h1 := coreT_of_vOpD hfl (h.1 e)
        have h0' : okX (fl, .u i) = true := by
          simp only [okX, GOp.i, Bool.and_eq_true] at h0 ⊢
          exact ⟨h0.1, trivial⟩
        have h2 : T Γ (fl, .u i) (S.put t (.bool b)) (TL Γ r (Clo K)) := T_mono h0' hr h1
        exact T_closed h0' hcl _ _ (heq b e) h2
      · have h1 := hr _ (h.2 e)
        refine hcl _ _ ?_ h1
        have := heq (!b) e
        rw [skipD_add, skipD_add]
        exact ⟨fun j => fget_app_congr (this.1 j), rfl, rfl⟩
    · rename_i hv
      exact .inr ⟨hv, hr _ h⟩
    · exact h.elim
end Go.Fw
