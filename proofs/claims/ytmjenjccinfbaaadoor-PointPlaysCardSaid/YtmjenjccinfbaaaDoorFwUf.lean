import Derived.Test.YtmjenjccinfbaaaDoorFwUa
/- The frame-work, part Uc: one order serves every order. -/
namespace Go.Fw
set_option linter.unusedVariables false
set_option linter.unusedSimpArgs false
open Go

/-- What an operation of such a region does; 'fl': it must not look at owned memory. -/
def evI (fl : Bool) (i : IOp) (S : SSt) : Out := match fl with
  | true => match ev i ⟨S.f, [], S.nx⟩ with
    | some (p, S') => some (p, ⟨S'.f, S.h, S'.nx⟩)
    | none => none
  | false => ev i S
def vOpD (Γ : Tab) (fl : Bool) (i : IOp) (S : SSt) (K : SSt → Prop) : Prop :=
  match i with
  | .call d f args ts fz => match fl with
    | false => callP Γ (oget f S.f) (argSs ts (ogets args S.f)) S.h S.nx (fun r h' => K { f := (d, r) :: S.f, h := h', nx := S.nx + 64 })
    | true => match fz with
      | true => callP Γ (oget f S.f) (argSs ts (ogets args S.f)) S.h S.nx (fun r h' => h' = S.h ∧ K { f := (d, r) :: S.f, h := h', nx := S.nx + 64 })
      | false => ∃ r0, (∀ nx', callP Γ (oget f S.f) (argSs ts (ogets args S.f)) [] nx' (isR r0)) ∧ r0.lt 0 ∧ K { f := (d, r0) :: S.f, h := S.h, nx := S.nx }
  | i => match evI fl i S with
    | some (p, S') => p ∧ K S'
    | none => False
def vD (Γ : Tab) : List (Bool × GOp) → (SSt → Prop) → SSt → Prop
  | [], K, S => K S
  | (fl, .u i) :: r, K, S => vOpD Γ fl i S (fun S' => vD Γ r K S')
  | (fl, .g t b d i) :: r, K, S => match fget S.f t with
    | .bool v => (v = b → vOpD Γ fl i (S.put t (.bool b)) (fun S' => vD Γ r K S')) ∧ (v = !b → vD Γ r K (skipD d (S.put t (.bool (!b)))))
    | .tup [] => vD Γ r K (skipD d S)
    | _ => False

/-- Two states that say the same. -/
def Eqv (S S' : SSt) : Prop := (∀ i, fget S.f i = fget S'.f i) ∧ S.h = S'.h ∧ S.nx = S'.nx
theorem Eqv.refl (S : SSt) : Eqv S S := ⟨fun _ => rfl, rfl, rfl⟩
theorem Eqv.symm {S S' : SSt} (h : Eqv S S') : Eqv S' S := ⟨fun i => (h.1 i).symm, h.2.1.symm, h.2.2.symm⟩
theorem Eqv.trans {A B C : SSt} (h : Eqv A B) (k : Eqv B C) : Eqv A C := ⟨fun i => (h.1 i).trans (k.1 i), h.2.1.trans k.2.1, h.2.2.trans k.2.2⟩
def Clo (K : SSt → Prop) : SSt → Prop := fun S => ∃ S0, Eqv S0 S ∧ K S0
def Closed (K : SSt → Prop) : Prop := ∀ S S', Eqv S S' → K S → K S'
theorem Clo.closed (K : SSt → Prop) : Closed (Clo K) := fun _ _ h ⟨S0, h0, hk⟩ => ⟨S0, h0.trans h, hk⟩

theorem fget_app {a f : Fr} {i : Nat} (h : ∀ q ∈ a, q.1 ≠ i) : fget (a ++ f) i = fget f i := by
  induction a with
  | nil => rfl
  | cons q a ih =>
    obtain ⟨j, v⟩ := q
    simp only [List.cons_append, fget]
    rw [if_neg (h (j, v) (by simp))]
    exact ih (fun q hq => h q (by simp [hq]))
theorem fget_app_congr {a f f' : Fr} {i : Nat} (h : fget f i = fget f' i) : fget (a ++ f) i = fget (a ++ f') i := by
  induction a with
  | nil => exact h
  | cons q a ih => obtain ⟨j, v⟩ := q; simp only [List.cons_append, fget]; rw [ih]
theorem fget_app_swap {a b f : Fr} (h : ∀ p ∈ a, ∀ q ∈ b, p.1 ≠ q.1) (i : Nat) : fget (a ++ (b ++ f)) i = fget (b ++ (a ++ f)) i := by
  by_cases ha : ∀ q ∈ a, q.1 ≠ i
  · rw [fget_app ha]
    exact fget_app_congr (fget_app ha).symm
  · have hb : ∀ q ∈ b, q.1 ≠ i := by
      intro q hq e
      apply ha
      intro p hp e'
      exact h p hp q hq (e'.trans e.symm)
    rw [fget_app hb]
    exact fget_app_congr (fget_app hb)

/-- The same, what follows behind a closed word. -/
def coreT (Γ : Tab) (fl : Bool) (i : IOp) (S : SSt) (K : SSt → Prop) : Prop :=
  match i with
  | .call d f args ts fz => match fl && !fz with
    | true => ∃ r0, (∀ nx', callP Γ (oget f S.f) (argSs ts (ogets args S.f)) [] nx' (isR r0)) ∧ r0.lt 0 ∧ K { f := (d, r0) :: S.f, h := S.h, nx := S.nx }
    | false => ∃ K0, callP Γ (oget f S.f) (argSs ts (ogets args S.f)) S.h S.nx K0 ∧ ∀ r h', K0 r h' → (fl = true → h' = S.h) ∧ K { f := (d, r) :: S.f, h := h', nx := S.nx + 64 }
  | i => match quietOf i with
    | some (d, v) => ∃ p y, v S.f (if fl then [] else S.h) = some (p, y) ∧ p ∧ K ⟨(d, y) :: S.f, S.h, S.nx⟩
    | none => match ev i S with
      | some (p, S') => p ∧ K S'
      | none => False
def T (Γ : Tab) (x : Bool × GOp) (S : SSt) (K : SSt → Prop) : Prop := match x.2 with
  | .u i => coreT Γ x.1 i S K
  | .g t b d i => (∃ v, fget S.f t = .bool v ∧ (v = b → coreT Γ x.1 i S K) ∧ (v = !b → K (skipD d S))) ∨ (fget S.f t = .tup [] ∧ K (skipD d S))
def TL (Γ : Tab) : List (Bool × GOp) → (SSt → Prop) → SSt → Prop
  | [], K, S => K S
  | x :: r, K, S => T Γ x S (TL Γ r K)

def GOp.i : GOp → IOp
  | .u i => i
  | .g _ _ _ i => i
def GOp.looks : GOp → List Nat
  | .u i => i.looks
  | .g t _ _ i => t :: i.looks
def isCallF : IOp → Bool
  | .call .. => true
  | _ => false
/-- It leaves owned memory as it is. -/
def calmI (fl : Bool) (i : IOp) : Bool := i.quiet || (fl && isCallF i)
def calmX (x : Bool × GOp) : Bool := calmI x.1 x.2.i
/-- A call that looks at nothing owned. -/
def stillI (fl : Bool) : IOp → Bool
  | .call _ _ _ _ fz => fl && !fz
  | _ => false
/-- It takes new memory, and leaves the other as it is. -/
def isAlc : IOp → Bool
  | .alc _ _ => true
  | .bsl _ _ _ _ => true
  | _ => false
def quietX (x : Bool × GOp) : Bool := x.2.i.quiet || stillI x.1 x.2.i
def steadyX (x : Bool × GOp) : Bool := (x.2.i.quiet && (x.1 || !heapy x.2.i)) || stillI x.1 x.2.i
/-- What the region's check asks of each operation. -/
def okX (x : Bool × GOp) : Bool := !isCvs x.2.i && (!x.1 || x.2.i.quiet || isCallF x.2.i) && match x.2 with
  | .u _ => true
  | .g _ _ d i => d == i.dst

def swapOk (x y : Bool × GOp) : Bool :=
  quietX x && (steadyX x || calmX y || isAlc y.2.i) && (match x.2.i.dst with
    | some d => !y.2.looks.contains d && y.2.i.dst != some d
    | none => true) && (match y.2.i.dst with
    | some d => !x.2.looks.contains d
    | none => true)

theorem loud_par {i : IOp} (hq : quietOf i = none) (hc : isCvs i = false) (hcall : isCall i = false) {S : SSt} {f' : Fr} {p : Prop} {S1 : SSt} (hf : ∀ n ∈ i.looks, fget f' n = fget S.f n) (h : ev i S = some (p, S1)) :
    ∃ add h1 nx1, S1 = ⟨add ++ S.f, h1, nx1⟩ ∧ ev i ⟨f', S.h, S.nx⟩ = some (p, ⟨add ++ f', h1, nx1⟩) ∧ ∀ q ∈ add, i.dst = some q.1 := by
  cases i <;> first | (simp [quietOf] at hq; done) | (cases hc; done) | (cases hcall; done) | skip
  case alc d z =>
    simp only [ev] at h ⊢; cases h
    exact ⟨[(d, .ptr S.nx 0)], _, _, rfl, rfl, by simp [IOp.dst]⟩
  case box d n x =>
    simp only [ev] at h ⊢
    rw [oget_par hf]
    split at h
    · rename_i l e; cases h; (try simp only [e])
      exact ⟨[(d, .ptr S.nx 0)], _, _, rfl, rfl, by simp [IOp.dst]⟩
    · rename_i y e; cases h
      refine ⟨[(d, .ptr S.nx 0)], _, _, rfl, ?_, by simp [IOp.dst]⟩
      rfl
  case st t x y =>
    simp only [IOp.looks, List.mem_append] at hf
    simp only [ev] at h ⊢
    rw [oget_par (x := x) (fun n hn => hf n (.inl hn)), oget_par (x := y) (fun n hn => hf n (.inr hn))]
    split at h
    · rename_i p' h' e; cases h; (try simp only [e])
      exact ⟨[], _, _, rfl, rfl, by simp⟩
    · cases h
  case app d eid e b x y =>
    simp only [IOp.looks, List.mem_append] at hf
    simp only [ev] at h ⊢
    rw [oget_par (x := x) (fun n hn => hf n (.inl hn)), oget_par (x := y) (fun n hn => hf n (.inr hn))]
    split at h
    · rename_i p' v h' e; cases h; (try simp only [e])
      exact ⟨[(d, v)], _, _, rfl, rfl, by simp [IOp.dst]⟩
    · cases h
  case mk d eid e b z x y =>
    simp only [IOp.looks, List.mem_append] at hf
    simp only [ev] at h ⊢
    rw [oget_par (x := x) (fun n hn => hf n (.inl hn)), oget_par (x := y) (fun n hn => hf n (.inr hn))]
    split at h
    · rename_i k1 l k2 c e1 e2; cases h; (try simp only [e1, e2])
      exact ⟨[(d, .vec S.nx)], _, _, rfl, rfl, by simp [IOp.dst]⟩
    · cases h
  case sl0 d eid e x =>
    simp only [ev] at h ⊢
    rw [oget_par hf]
    split at h
    · rename_i p' e; cases h; (try simp only [e])
      exact ⟨[(d, .vec S.nx)], _, _, rfl, rfl, by simp [IOp.dst]⟩
    · cases h
  case mkm d kt vt =>
    simp only [ev] at h ⊢; cases h
    exact ⟨[(d, .vec S.nx)], _, _, rfl, rfl, by simp [IOp.dst]⟩
  case mup kt vt k t x i v =>
    simp only [IOp.looks, List.mem_append] at hf
    simp only [ev] at h ⊢
    rw [oget_par (x := x) (fun n hn => hf n (.inl hn)), oget_par (x := i) (fun n hn => hf n (.inr (.inl hn))), oget_par (x := v) (fun n hn => hf n (.inr (.inr hn)))]
    split at h
    · rename_i p' h' e; cases h; (try simp only [e])
      exact ⟨[], _, _, rfl, rfl, by simp⟩
    · cases h
  case mdl d kt vt k x i =>
    simp only [IOp.looks, List.mem_append] at hf
    simp only [ev] at h ⊢
    rw [oget_par (x := x) (fun n hn => hf n (.inl hn)), oget_par (x := i) (fun n hn => hf n (.inr hn))]
    split at h
    · rename_i p' h' e; cases h; (try simp only [e])
      exact ⟨[(d, .tup [])], _, _, rfl, rfl, by simp [IOp.dst]⟩
    · cases h
  case mdn kt vt k x i =>
    simp only [IOp.looks, List.mem_append] at hf
    simp only [ev] at h ⊢
    rw [oget_par (x := x) (fun n hn => hf n (.inl hn)), oget_par (x := i) (fun n hn => hf n (.inr hn))]
    split at h
    · rename_i p' h' e; cases h; (try simp only [e])
      exact ⟨[], _, _, rfl, rfl, by simp⟩
    · cases h
  case bsl d eid e l =>
    simp only [ev] at h ⊢
    rw [ogets_par hf]
    split at h
    · rename_i ds e; cases h; (try simp only [e])
      exact ⟨[(d, .vec S.nx)], _, _, rfl, rfl, by simp [IOp.dst]⟩
    · cases h

theorem quiet_dst {i : IOp} {d : Nat} {v : Fr → Heap → Option (Prop × SV)} (h : quietOf i = some (d, v)) : i.dst = some d := by
  cases i <;> simp only [quietOf] at h <;> cases h <;> rfl
theorem quiet_call {i : IOp} (h : isCall i = true) : quietOf i = none := by cases i <;> first | (cases h; done) | rfl

theorem coreT_quiet {Γ : Tab} {fl : Bool} {i : IOp} {d : Nat} {v : Fr → Heap → Option (Prop × SV)} (h : quietOf i = some (d, v)) {S : SSt} {K : SSt → Prop} : coreT Γ fl i S K ↔ ∃ p y, v S.f (if fl then [] else S.h) = some (p, y) ∧ p ∧ K ⟨(d, y) :: S.f, S.h, S.nx⟩ := by
  cases i <;> simp only [quietOf] at h <;> cases h <;> exact Iff.rfl
theorem coreT_loud {Γ : Tab} {fl : Bool} {i : IOp} (h : quietOf i = none) (hc : isCall i = false) {S : SSt} {K : SSt → Prop} : coreT Γ fl i S K ↔ match ev i S with | some (p, S') => p ∧ K S' | none => False := by
  cases i <;> first | (simp [quietOf] at h; done) | (cases hc; done) | exact Iff.rfl

theorem coreT_par {Γ : Tab} {fl : Bool} {i : IOp} (hcv : isCvs i = false) {S S' : SSt} (hag : ∀ n ∈ i.looks, fget S'.f n = fget S.f n) (hh : S'.h = S.h) (hn : S'.nx = S.nx) {K K' : SSt → Prop}
    (hK : ∀ add h1 nx1, (∀ q ∈ add, i.dst = some q.1) → (calmI fl i = true → h1 = S.h) → (isAlc i = true → h1 = S.h ∨ ∃ t, h1 = (S.nx, t) :: S.h) → K ⟨add ++ S.f, h1, nx1⟩ → K' ⟨add ++ S'.f, h1, nx1⟩) (h : coreT Γ fl i S K) : coreT Γ fl i S' K' := by
  cases hq : quietOf i with
  | some z =>
    obtain ⟨d, v⟩ := z
    rw [coreT_quiet hq] at h ⊢
    obtain ⟨p, y, h1, h2, h3⟩ := h
    refine ⟨p, y, ?_, h2, ?_⟩
    · rw [quiet_par hq hag, hh]; exact h1
    · have := hK [(d, y)] S.h S.nx (by simp [quiet_dst hq]) (fun _ => rfl) (fun _ => .inl rfl) h3
      rw [hh, hn]; exact this
  | none =>
    by_cases hc : isCall i = true
    · cases i <;> first | (cases hc; done) | (exact h.elim) | skip
      rename_i d f args ts fz
      unfold coreT at h ⊢
      cases hst : (fl && !fz) with
      | true =>
        simp only [hst] at h ⊢
        obtain ⟨r0, h1, h2, h3⟩ := h
        simp only [IOp.looks, List.mem_append] at hag
        refine ⟨r0, fun nx' => ?_, h2, ?_⟩
        · rw [oget_par (x := f) (fun n hn => hag n (.inl hn)), ogets_par (fun n hn => hag n (.inr hn))]; exact h1 nx'
        · have := hK [(d, r0)] S.h S.nx (by simp [IOp.dst]) (fun _ => rfl) (fun _ => .inl rfl) h3
          rw [hh, hn]; exact this
      | false =>
      simp only [hst] at h ⊢
      obtain ⟨K0, h1, h2⟩ := h
      refine ⟨K0, ?_, fun r h' hr => ?_⟩
      · simp only [IOp.looks, List.mem_append] at hag
        rw [oget_par (x := f) (fun n hn => hag n (.inl hn)), ogets_par (fun n hn => hag n (.inr hn)), hh, hn]; exact h1
      · have h3 := h2 r h' hr
        have := hK [(d, r)] h' (S.nx + 64) (by simp [IOp.dst]) (fun h => by
          cases fl with
          | true => exact h3.1 rfl
          | false => simp [calmI, IOp.quiet, hq] at h) (fun h => by cases h) h3.2
        rw [hn, hh]; exact ⟨h3.1, this⟩
    · have hc' : isCall i = false := by simpa using hc
      rw [coreT_loud hq hc'] at h ⊢
      split at h
      · rename_i p S1 e
        obtain ⟨add, h1, nx1, rfl, e2, e3⟩ := loud_par hq hcv hc' hag e
        have : S' = ⟨S'.f, S.h, S.nx⟩ := by rw [← hh, ← hn]
        rw [this, e2]
        exact ⟨h.1, hK add h1 nx1 e3 (fun hqq => by
          have : isCallF i = false := by cases i <;> first | rfl | (cases hc'; done)
          simp [calmI, IOp.quiet, hq, this] at hqq) (fun ha => by
          cases i <;> first | (cases ha; done) | skip
          · simp only [ev, Option.some.injEq, Prod.mk.injEq] at e
            have e5 := congrArg SSt.h e.2
            exact .inr ⟨_, e5.symm⟩
          · simp only [ev] at e
            split at e
            · simp only [Option.some.injEq, Prod.mk.injEq] at e
              have e5 := congrArg SSt.h e.2
              exact .inr ⟨_, e5.symm⟩
            · cases e) h.2⟩
      · exact h.elim

def addD (d : Option Nat) : Fr := match d with
  | some d => [(d, .tup [])]
  | none => []
theorem skipD_add (d : Option Nat) (S : SSt) : skipD d S = ⟨addD d ++ S.f, S.h, S.nx⟩ := by cases d <;> rfl
theorem addD_mem {d : Option Nat} {q : Nat × SV} (h : q ∈ addD d) : d = some q.1 := by
  cases d with
  | none => simp [addD] at h
  | some d => simp [addD] at h; subst h; rfl

theorem T_par {Γ : Tab} {x : Bool × GOp} (hok : okX x = true) {S S' : SSt} (hag : ∀ n ∈ x.2.looks, fget S'.f n = fget S.f n) (hh : S'.h = S.h) (hn : S'.nx = S.nx) {K K' : SSt → Prop}
    (hK : ∀ add h1 nx1, (∀ q ∈ add, x.2.i.dst = some q.1) → (calmX x = true → h1 = S.h) → (isAlc x.2.i = true → h1 = S.h ∨ ∃ t, h1 = (S.nx, t) :: S.h) → K ⟨add ++ S.f, h1, nx1⟩ → K' ⟨add ++ S'.f, h1, nx1⟩) (h : T Γ x S K) : T Γ x S' K' := by
  obtain ⟨fl, g⟩ := x
  simp only [okX, Bool.and_eq_true, Bool.not_eq_true'] at hok
  cases g with
  | u i => exact coreT_par hok.1.1 hag hh hn hK h
  | g t b d i =>
    have hd : d = i.dst := by simpa using hok.2
    rcases h with ⟨v, h1, h2, h3⟩ | ⟨h1, h3⟩
    case inr =>
      refine .inr ⟨by rw [hag t (by simp [GOp.looks])]; exact h1, ?_⟩
      have := h3
      rw [skipD_add] at this ⊢
      have := hK (addD d) S.h S.nx (fun q hq => by rw [← addD_mem hq, hd]; rfl) (fun _ => rfl) (fun _ => .inl rfl) this
      rw [hh, hn]; exact this
    refine .inl ⟨v, ?_, fun hv => coreT_par hok.1.1 (fun n hn => hag n (List.mem_cons_of_mem _ hn)) hh hn hK (h2 hv), fun hv => ?_⟩
    · rw [hag t (by simp [GOp.looks])]; exact h1
    · have := h3 hv
      rw [skipD_add] at this ⊢
      have := hK (addD d) S.h S.nx (fun q hq => by rw [← addD_mem hq, hd]; rfl) (fun _ => rfl) (fun _ => .inl rfl) this
      rw [hh, hn]; exact this
theorem T_mono {Γ : Tab} {x : Bool × GOp} (hok : okX x = true) {S : SSt} {K K' : SSt → Prop} (hK : ∀ S, K S → K' S) (h : T Γ x S K) : T Γ x S K' :=
  T_par hok (fun _ _ => rfl) rfl rfl (fun _ _ _ _ _ _ hk => hK _ hk) h
theorem T_closed {Γ : Tab} {x : Bool × GOp} (hok : okX x = true) {K : SSt → Prop} (hK : Closed K) : Closed (fun S => T Γ x S K) := by
  intro S S' he h
  exact T_par hok (fun n _ => (he.1 n).symm) he.2.1.symm he.2.2.symm (fun add h1 nx1 _ _ _ hk => hK ⟨add ++ S.f, h1, nx1⟩ ⟨add ++ S'.f, h1, nx1⟩ ⟨fun i => fget_app_congr (he.1 i), rfl, rfl⟩ hk) h
theorem TL_closed {Γ : Tab} {K : SSt → Prop} (hK : Closed K) : ∀ {l : List (Bool × GOp)}, (∀ x ∈ l, okX x = true) → Closed (TL Γ l K)
  | [], _ => hK
  | x :: r, h => T_closed (h x (by simp)) (TL_closed hK (fun y hy => h y (by simp [hy])))

theorem quiet_more {i : IOp} {d : Nat} {v : Fr → Heap → Option (Prop × SV)} (h : quietOf i = some (d, v)) {f : Fr} {hp : Heap} {z : Prop × SV} (hz : v f hp = some z) {n : Nat} (hn : hget hp n = none) (t : Tok) : v f ((n, t) :: hp) = some z := by
  have key : ∀ m u, hget hp m = some u → hget ((n, t) :: hp) m = some u := by
    intro m u hm
    simp only [hget]
    split
    · rename_i e; subst e; rw [hn] at hm; cases hm
    · exact hm
  have key' : ∀ m, hget hp m ≠ none → hget ((n, t) :: hp) m = hget hp m := by
    intro m hm
    cases e : hget hp m with
    | none => exact absurd e hm
    | some u => exact key m u e
  have fin : ∀ m u, hget hp m = some u → hget ((n, t) :: hp) m = hget hp m := fun m u e => key' m (by rw [e]; simp)
  by_cases hh : heapy i = true
  · cases i <;> first | (cases hh; done) | skip
    · simp only [quietOf] at h; cases h
      simp only [evLd] at hz ⊢
      generalize oget _ f = y at hz ⊢
      cases y <;> first | exact hz | skip
      all_goals (
        simp only [] at hz ⊢
        split at hz <;> first | (cases hz; done) | (rename_i e; rw [key _ _ e]; exact hz))
    · simp only [quietOf] at h; cases h
      rename_i x i
      simp only [evIad] at hz ⊢
      generalize oget x f = y at hz ⊢
      generalize oget i f = y2 at hz ⊢
      cases y
      case vec m =>
        cases y2
        case int k2 i2 =>
          simp only [] at hz ⊢
          split at hz <;> first | (cases hz; done) | (rename_i e; rw [key _ _ e]; exact hz)
        all_goals exact hz
      case dat ty dd => cases ty <;> cases y2 <;> exact hz
      all_goals exact hz
    · simp only [quietOf] at h; cases h
      simp only [heapy, Bool.not_eq_true'] at hh
      subst hh
      simp only [evLen, Bool.false_eq_true, if_false] at hz ⊢
      generalize oget _ f = y at hz ⊢
      cases y
      case vec m =>
        simp only [] at hz ⊢
        split at hz <;> first | (cases hz; done) | (rename_i e; rw [key _ _ e]; exact hz)
      case dat ty dd => cases ty <;> exact hz
      all_goals exact hz
    · simp only [quietOf] at h; cases h
      rename_i x i
      simp only [evLkp] at hz ⊢
      generalize oget x f = y at hz ⊢
      generalize oget i f = y2 at hz ⊢
      cases y
      case vec m =>
        cases y2
        case int k2 i2 =>
          simp only [] at hz ⊢
          split at hz <;> first | (cases hz; done) | (rename_i e; rw [key _ _ e]; exact hz)
        all_goals exact hz
      case dat ty dd => cases ty <;> cases y2 <;> exact hz
      all_goals exact hz
  · rw [quiet_heap h (by simpa using hh) f _ hp]; exact hz

theorem T_std {Γ : Tab} {x : Bool × GOp} (hok : okX x = true) (hq : quietX x = true) {S : SSt} {K : SSt → Prop} (h : T Γ x S K) :
    ∃ add, (∀ q ∈ add, x.2.i.dst = some q.1) ∧ K ⟨add ++ S.f, S.h, S.nx⟩ ∧ ∀ (S' : SSt) (K' : SSt → Prop), (∀ n ∈ x.2.looks, fget S'.f n = fget S.f n) → (steadyX x = true ∨ S'.h = S.h ∨ ∃ t, S'.h = (S.nx, t) :: S.h ∧ hget S.h S.nx = none) → K' ⟨add ++ S'.f, S'.h, S'.nx⟩ → T Γ x S' K' := by
  obtain ⟨fl, g⟩ := x
  simp only [okX, Bool.and_eq_true, Bool.not_eq_true'] at hok
  have key : ∀ i, g.i = i → coreT Γ fl i S K → ∃ add, (∀ q ∈ add, i.dst = some q.1) ∧ K ⟨add ++ S.f, S.h, S.nx⟩ ∧ ∀ (S' : SSt) (K' : SSt → Prop), (∀ n ∈ i.looks, fget S'.f n = fget S.f n) → (steadyX (fl, g) = true ∨ S'.h = S.h ∨ ∃ t, S'.h = (S.nx, t) :: S.h ∧ hget S.h S.nx = none) → K' ⟨add ++ S'.f, S'.h, S'.nx⟩ → coreT Γ fl i S' K' := by
    intro i hi hc
    subst hi
    unfold quietX IOp.quiet at hq
    cases hz : quietOf g.i with
    | none =>
      simp only [hz, Option.isSome_none, Bool.false_or] at hq
      have hsx : steadyX (fl, g) = true := by simp only [steadyX, hq, Bool.or_true]
      generalize hgi : g.i = i at hc hq ⊢
      cases i <;> first | (cases hq; done) | skip
      rename_i d f args ts fz
      have hst : (fl && !fz) = true := hq
      unfold coreT at hc
      simp only [hst] at hc
      obtain ⟨r0, h1, h2, h3⟩ := hc
      refine ⟨[(d, r0)], by simp [IOp.dst], h3, fun S' K' hag _ hk => ?_⟩
      unfold coreT
      simp only [hst]
      simp only [IOp.looks, List.mem_append] at hag
      refine ⟨r0, fun nx' => ?_, h2, hk⟩
      rw [oget_par (x := f) (fun n hn => hag n (.inl hn)), ogets_par (fun n hn => hag n (.inr hn))]; exact h1 nx'
    | some z =>
      obtain ⟨d, v⟩ := z
      rw [coreT_quiet hz] at hc
      obtain ⟨p, y, h1, h2, h3⟩ := hc
      refine ⟨[(d, y)], by simp [quiet_dst hz], h3, fun S' K' hag hst hk => ?_⟩
      rw [coreT_quiet hz]
      refine ⟨p, y, ?_, h2, hk⟩
      rw [quiet_par hz hag]
      cases fl with
      | true => exact h1
      | false =>
        simp only [Bool.false_eq_true, if_false] at h1 ⊢
        rcases hst with hst | hst | ⟨t, hst, hfr⟩
        · have hni : stillI false g.i = false := by cases g.i <;> rfl
          simp only [steadyX, hni, Bool.or_false, Bool.and_eq_true, Bool.false_or, Bool.not_eq_true'] at hst
          rw [quiet_heap hz hst.2 _ _ S.h]; exact h1
        · rw [hst]; exact h1
        · rw [hst]; exact quiet_more hz h1 hfr t
  cases g with
  | u i => exact key i rfl h
  | g t b d i =>
    have hd : d = i.dst := by simpa using hok.2
    rcases h with ⟨v, h1, h2, h3⟩ | ⟨h1, h3⟩
    case inr =>
      have := h3
      rw [skipD_add] at this
      refine ⟨addD d, fun q hq => by rw [← addD_mem hq, hd]; rfl, this, fun S' K' hag hst hk => .inr ⟨?_, ?_⟩⟩
      · rw [hag t (by simp [GOp.looks])]; exact h1
      · rw [skipD_add]; exact hk
    by_cases hv : v = b
    · obtain ⟨add, e1, e2, e3⟩ := key i rfl (h2 hv)
      refine ⟨add, e1, e2, fun S' K' hag hst hk => .inl ⟨v, ?_, fun _ => e3 S' K' (fun n hn => hag n (by simp [GOp.looks, hn])) hst hk, fun hv' => ?_⟩⟩
      · rw [hag t (by simp [GOp.looks])]; exact h1
      · subst hv; cases v <;> cases hv'
    · have hv' : v = !b := by cases v <;> cases b <;> simp_all
      have := h3 hv'
      rw [skipD_add] at this
      refine ⟨addD d, fun q hq => by rw [← addD_mem hq, hd]; rfl, this, fun S' K' hag hst hk => .inl ⟨v, ?_, fun h => absurd h hv, fun _ => ?_⟩⟩
      · rw [hag t (by simp [GOp.looks])]; exact h1
      · rw [skipD_add]; exact hk

theorem T_swap {Γ : Tab} {x y : Bool × GOp} (hx : okX x = true) (hy : okX y = true) (hs : swapOk x y = true) {S : SSt} (hfree : hget S.h S.nx = none) {K : SSt → Prop} (hK : Closed K) (h : T Γ x S (fun S1 => T Γ y S1 K)) : T Γ y S (fun S1 => T Γ x S1 K) := by
  simp only [swapOk, Bool.and_eq_true, Bool.or_eq_true] at hs
  obtain ⟨⟨⟨hq, hst⟩, hd1⟩, hd2⟩ := hs
  obtain ⟨add, e1, e2, e3⟩ := T_std hx hq h
  have a1 : ∀ q ∈ add, ∀ n ∈ y.2.looks, q.1 ≠ n := by
    intro q hq n hn e
    have := e1 q hq
    rw [this] at hd1
    simp only [Bool.and_eq_true, Bool.not_eq_true', List.contains_eq_mem, decide_eq_false_iff_not] at hd1
    exact hd1.1 (e ▸ hn)
  refine T_par hy (S := ⟨add ++ S.f, S.h, S.nx⟩) (S' := S) (fun n hn => (fget_app (fun q hq => a1 q hq n hn)).symm) rfl rfl (fun addy h1 nx1 k1 k2 k3 hk => ?_) e2
  have a2 : ∀ q ∈ addy, ∀ n ∈ x.2.looks, q.1 ≠ n := by
    intro q hq n hn e
    have := k1 q hq
    rw [this] at hd2
    simp only [Bool.not_eq_true', List.contains_eq_mem, decide_eq_false_iff_not] at hd2
    exact hd2 (e ▸ hn)
  have a3 : ∀ p ∈ add, ∀ q ∈ addy, p.1 ≠ q.1 := by
    intro p hp q hq e
    have h1 := e1 p hp
    have h2 := k1 q hq
    rw [h1] at hd1
    simp only [Bool.and_eq_true, bne_iff_ne] at hd1
    exact hd1.2 (by rw [h2, e])
  refine e3 ⟨addy ++ S.f, h1, nx1⟩ K (fun n hn => fget_app (fun q hq => a2 q hq n hn)) (by
    rcases hst with (hst | hqy) | hal
    · exact .inl hst
    · exact .inr (.inl (k2 hqy))
    · rcases k3 hal with h5 | ⟨t, h5⟩
      · exact .inr (.inl h5)
      · exact .inr (.inr ⟨t, h5, hfree⟩)) (hK ⟨addy ++ (add ++ S.f), h1, nx1⟩ ⟨add ++ (addy ++ S.f), h1, nx1⟩ ⟨fun i => ?_, rfl, rfl⟩ hk)
  exact (fget_app_swap a3 i).symm

theorem T_front {Γ : Tab} {y : Bool × GOp} (hy : okX y = true) {K : SSt → Prop} (hK : Closed K) {post : List (Bool × GOp)} (hpost : ∀ x ∈ post, okX x = true) : ∀ {pre : List (Bool × GOp)}, (∀ x ∈ pre, okX x = true) → (∀ x ∈ pre, swapOk x y = true) → ∀ {S : SSt}, hget S.h S.nx = none → TL Γ (pre ++ y :: post) K S → T Γ y S (TL Γ (pre ++ post) K)
  | [], _, _, S, _, h => h
  | x :: pre, h1, h2, S, hfree, h => by
    have hqx : quietX x = true := by
      have := h2 x (by simp)
      simp only [swapOk, Bool.and_eq_true] at this
      exact this.1.1.1
    obtain ⟨add, e1, e2, e3⟩ := T_std (h1 x (by simp)) hqx h
    have ih : T Γ y ⟨add ++ S.f, S.h, S.nx⟩ (TL Γ (pre ++ post) K) := T_front hy hK hpost (fun z hz => h1 z (by simp [hz])) (fun z hz => h2 z (by simp [hz])) hfree e2
    have h' : T Γ x S (fun S1 => T Γ y S1 (TL Γ (pre ++ post) K)) := e3 S _ (fun _ _ => rfl) (.inr (.inl rfl)) ih
    exact T_swap (h1 x (by simp)) hy (h2 x (by simp)) hfree (TL_closed (l := pre ++ post) hK (fun z hz => by
      simp only [List.mem_append] at hz
      rcases hz with hz | hz
      · exact h1 z (by simp [hz])
      · exact hpost z hz)) h'

theorem coreT_of_vOpD {Γ : Tab} {fl : Bool} {i : IOp} (hok : (!fl || i.quiet || isCallF i) = true) {S : SSt} {K : SSt → Prop} (h : vOpD Γ fl i S K) : coreT Γ fl i S K := by
  cases hq : quietOf i with
  | some z =>
    obtain ⟨d, v⟩ := z
    rw [coreT_quiet hq]
    have h' : match evI fl i S with | some (p, S') => p ∧ K S' | none => False := by
      cases i <;> first | (simp [quietOf] at hq; done) | exact h
    cases fl with
    | true =>
      try simp only [evI] at h'
      try rw [quiet_ev hq] at h'
      (try simp only [if_true])
      cases hv : v S.f [] with
      | none => rw [hv] at h'; exact h'.elim
      | some z => obtain ⟨p, y⟩ := z; rw [hv] at h'; exact ⟨p, y, rfl, h'.1, h'.2⟩
    | false =>
      obtain ⟨f, hp, nx⟩ := S
      try simp only [evI] at h'
      try rw [quiet_ev hq] at h'
      (try simp only [Bool.false_eq_true, if_false])
      cases hv : v f hp with
      | none => rw [hv] at h'; exact h'.elim
      | some z => obtain ⟨p, y⟩ := z; rw [hv] at h'; exact ⟨p, y, rfl, h'.1, h'.2⟩
  | none =>
    by_cases hc : isCall i = true
    · cases i <;> first | (cases hc; done) | (cases fl <;> simp [vOpD, evI, ev] at h; done) | skip
      rename_i d f args ts fz
      cases fl with
      | false => exact ⟨_, h, fun r h' hr => ⟨fun h => (by cases h), hr⟩⟩
      | true =>
        cases fz with
        | true => exact ⟨_, h, fun r h' hr => ⟨fun _ => hr.1, hr.2⟩⟩
        | false => exact h
    · have hfl : fl = false := by
        cases fl with
        | false => rfl
        | true =>
          have : isCallF i = false := by cases i <;> first | rfl | exact absurd rfl hc
          simp [IOp.quiet, hq, this] at hok
      subst hfl
      rw [coreT_loud hq (by simpa using hc)]
      cases i <;> first | (exact absurd rfl hc) | exact h

theorem TL_of_vD {Γ : Tab} {K : SSt → Prop} : ∀ {l : List (Bool × GOp)}, (∀ x ∈ l, okX x = true) → ∀ {S : SSt}, vD Γ l K S → TL Γ l (Clo K) S
  | [], _, S, h => ⟨S, .refl S, h⟩
  | (fl, .u i) :: r, hok, S, h => by
    have h0 := hok (fl, .u i) (by simp)
    have hfl : (!fl || i.quiet || isCallF i) = true := by simp only [okX, GOp.i, Bool.and_eq_true] at h0; exact h0.1.2
    exact T_mono h0 (fun S1 h1 => TL_of_vD (fun x hx => hok x (by simp [hx])) h1) (show T Γ (fl, .u i) S (fun S' => vD Γ r K S') from coreT_of_vOpD hfl h)
  | (fl, .g t b d i) :: r, hok, S, h => by
    have h0 := hok (fl, .g t b d i) (by simp)
    have hfl : (!fl || i.quiet || isCallF i) = true := by simp only [okX, GOp.i, Bool.and_eq_true] at h0; exact h0.1.2
    have hr : ∀ S1, vD Γ r K S1 → TL Γ r (Clo K) S1 := fun S1 h1 => TL_of_vD (fun x hx => hok x (by simp [hx])) h1
    have hcl : Closed (TL Γ r (Clo K)) := TL_closed (Clo.closed K) (fun x hx => hok x (by simp [hx]))
    simp only [vD] at h
    split at h
    · rename_i v hv
      have heq : ∀ b', v = b' → Eqv (S.put t (.bool b')) S := by
        intro b' e
        refine ⟨fun j => ?_, rfl, rfl⟩
        simp only [SSt.put, fget]
        split
        · rename_i e'; subst e'; rw [hv, e]
        · rfl
      refine .inl ⟨v, hv, fun e => ?_, fun e => ?_⟩
      · have h1 := coreT_of_vOpD hfl (h.1 e)
        have h0' : okX (fl, .u i) = true := by
          simp only [okX, GOp.i, Bool.and_eq_true] at h0 ⊢
          exact ⟨h0.1, trivial⟩
        have h2 : T Γ (fl, .u i) (S.put t (.bool b)) (TL Γ r (Clo K)) := T_mono h0' hr h1
        exact T_closed h0' hcl _ _ (heq b e) h2
      · have h1 := hr _ (h.2 e)
        refine hcl _ _ ?_ h1
        have := heq (!b) e
        rw [skipD_add, skipD_add]
        exact ⟨fun j => fget_app_congr (this.1 j), rfl, rfl⟩
    · rename_i hv
      exact .inr ⟨hv, hr _ h⟩
    · exact h.elim
end Go.Fw

/- The frame-work, part Ud: regions that draw their order, turned and sound. -/
namespace Go.Fw
set_option linter.unusedVariables false
set_option linter.unusedSimpArgs false
open Go

/-- What has to come before. -/
def dirs (ops : Array Oper) (b : Nat) : List Nat := match ops[b]? with
  | some o => (o.after.toList.filter (Region.binds .any)).map (·.on)
  | none => []
def tdep (ops : Array Oper) : Nat → List Nat → List Nat
  | 0, s => s
  | n + 1, s => tdep ops n (s ++ (s.flatMap (dirs ops)).eraseDups.filter fun x => !s.contains x)
def compOp (P : Program) (W : Opts) (ops : Array Oper) (i : Nat) : Option GOp := match ops[i]? with
  | some o => match comp P W o, gSlot ops o.guard with
    | some j, some none => some (.u j)
    | some j, some (some (t, b)) => match o.dst with
      | some d => if d < W.N then some (.g t b (some d) j) else none
      | none => some (.g t b none j)
    | _, _ => none
  | none => none

abbrev Item := Nat × (Bool × GOp)
def pairOk (ops : Array Oper) (x y : Item) : Bool := x.1 != y.1 && !(dirs ops x.1).contains y.1 && ((dirs ops y.1).contains x.1 || swapOk x.2 y.2 || (tdep ops 12 (dirs ops y.1)).contains x.1)
def pairsOk (ops : Array Oper) : List Item → Bool
  | [] => true
  | x :: r => r.all (pairOk ops x) && pairsOk ops r
def itemOk (ops : Array Oper) (x : Item) : Bool := okX x.2 && (dirs ops x.1).all fun d => decide (d < ops.size) && d != x.1

/-- An order: quiet ones as early as may be. -/
def greedy (ops : Array Oper) (q : Nat → Bool) : Nat → List Nat → List Nat → List Nat
  | 0, _, acc => acc.reverse
  | n + 1, rem, acc =>
    match (rem.find? fun i => q i && (dirs ops i).all acc.contains).orElse fun _ => rem.find? fun i => (dirs ops i).all acc.contains with
    | some i => greedy ops q n (rem.filter (· != i)) (i :: acc)
    | none => acc.reverse
def gops (P : Program) (W : Opts) (ops : Array Oper) : List Nat → Option (List (Nat × GOp))
  | [] => some []
  | i :: r => match compOp P W ops i, gops P W ops r with
    | some g, some l => some ((i, g) :: l)
    | _, _ => none
/-- Must it not look at owned memory? -/
def pureC (W : Opts) (i : IOp) : Bool := isCallF i && match i.dst with | some d => W.pu.contains d | none => false
def flagOf (W : Opts) (ops : Array Oper) (all : List (Nat × GOp)) (x : Nat × GOp) : Bool := pureC W x.2.i || heapy x.2.i && all.any fun y => !y.2.i.quiet && !pureC W y.2.i && !isAlc y.2.i && !(tdep ops 12 (dirs ops x.1)).contains y.1 && !(tdep ops 12 (dirs ops y.1)).contains x.1
/-- The slot whose value an operand is. -/
def rootOf (l : List (Nat × GOp)) : Nat → Nat → Opd → Option Opd
  | 0, _, x => some x
  | n + 1, j, .s k => match (l.filter fun y => y.1 < j).reverse.find? fun y => y.2.i.dst == some k with
    | none => some (.s k)
    | some y => match y.2.i with
      | .mov _ x => rootOf l n y.1 x
      | _ => none
  | _, _, .c _ => none
def fzOf (l : List (Nat × GOp)) : List Opd := l.flatMap fun y => match y.2.i with
  | .call _ _ args _ true => args.filterMap (rootOf l 4 y.1)
  | .slc _ _ x _ _ => [x].filterMap (rootOf l 4 y.1)
  | _ => []
def mkItems (P : Program) (W : Opts) (ops : Array Oper) (fl : Nat → Bool) : List Nat → Option (List Item)
  | [] => some []
  | i :: r => match compOp P W ops i, mkItems P W ops fl r with
    | some g, some l => some ((i, (fl i, g)) :: l)
    | _, _ => none
def rgnOk (P : Program) (ops : Array Oper) (its : List Item) : Bool :=
  P.follows .mixedOrders && its.length == ops.size && (List.range ops.size).all (fun i => its.any fun x => x.1 == i) && its.all (fun x => decide (x.1 < ops.size)) && its.all (itemOk ops) && pairsOk ops its
def compRgn (P : Program) (W : Opts) (ops : Array Oper) : Option (List Opd × List (Bool × GOp)) := match gops P W ops (List.range ops.size) with
  | some l =>
    match mkItems P W ops (fun i => match l.find? (·.1 == i) with | some y => flagOf W ops l y | none => false) (greedy ops (fun i => match l.find? (·.1 == i) with | some y => y.2.i.quiet | none => false) ops.size (List.range ops.size) []) with
    | some its => if rgnOk P ops its = true then some (fzOf l, its.map (·.2)) else none
    | none => none
  | none => none

section
variable {P : Program} {E : Nat → Value}

theorem mkItems_spec {W : Opts} {ops : Array Oper} {fl : Nat → Bool} : ∀ {ord : List Nat} {its : List Item}, mkItems P W ops fl ord = some its → ∀ x ∈ its, compOp P W ops x.1 = some x.2.2
  | [], its, h, x, hx => by simp only [mkItems] at h; cases h; simp at hx
  | i :: r, its, h, x, hx => by
    simp only [mkItems] at h
    split at h
    · rename_i g l e1 e2
      cases h
      simp only [List.mem_cons] at hx
      rcases hx with rfl | hx
      · exact e1
      · exact mkItems_spec e2 x hx
    · cases h

theorem dirs_mem {ops : Array Oper} {i : Nat} {o : Oper} (ho : ops[i]? = some o) {d : Nat} : d ∈ dirs ops i ↔ ∃ e ∈ o.after, Region.binds .any e = true ∧ e.on = d := by
  unfold dirs
  rw [ho]
  simp [and_assoc]

def Down (ops : Array Oper) (listed : Array Bool) : Prop := ∀ b, listed.getD b false = true → ∀ d ∈ dirs ops b, listed.getD d false = true
theorem tdep_listed {ops : Array Oper} {listed : Array Bool} (hd : Down ops listed) : ∀ (n : Nat) (s : List Nat), (∀ d ∈ s, listed.getD d false = true) → ∀ d ∈ tdep ops n s, listed.getD d false = true
  | 0, s, h => h
  | n + 1, s, h => by
    refine tdep_listed hd n _ (fun d hm => ?_)
    simp only [List.mem_append, List.mem_filter, List.mem_eraseDups, List.mem_flatMap] at hm
    rcases hm with hm | ⟨⟨b, hb, hm⟩, _⟩
    · exact h d hm
    · exact hd b (h b hb) d hm

theorem Valid.mono {G : Nat → Bool} {f : FuncId} {sp : FSpec} (h : Valid P E G f sp) : Valid P E G f (fun args h nx K => ∃ K0, sp args h nx K0 ∧ ∀ r h', K0 r h' → K r h') := by
  intro args hp o nx K ρ H w vs ⟨K0, h0, hk⟩ h1 h2 h3 h4 h5 h6 h7 h8
  obtain ⟨hc, h9⟩ := h args hp o nx K0 ρ H w vs h0 h1 h2 h3 h4 h5 h6 h7 h8
  refine ⟨hc, h9.mono ?_⟩
  rintro e w' ⟨v, r, h', ρ', H', a1, a2, a3⟩
  exact ⟨v, r, h', ρ', H', a1, hk _ _ a2, a3⟩

theorem Sat.eqv {c : Ctx} {ρ : Nat → Value} {H : FH} {S S' : SSt} (he : Eqv S S') {a : Act} {w : World} (s : Sat P E c ρ H S a w) : Sat P E c ρ H S' a w := by
  obtain ⟨f, h, nx⟩ := S
  obtain ⟨f', h', nx'⟩ := S'
  obtain ⟨e1, e2, e3⟩ := he
  simp only at e1 e2 e3
  subst e2 e3
  exact ⟨fun i => by have := s.fr i; simp only at this ⊢; rw [← e1 i]; exact this, s.sz, s.df, s.hs, s.hin, s.kept, s.ownb, fun i => by have := s.flt i; simp only at this ⊢; rw [← e1 i]; exact this, s.hlt, s.olt, s.nbx, s.sep, s.glob, s.rho, s.hle⟩
theorem Sat.drew {c : Ctx} {ρ : Nat → Value} {H : FH} {S : SSt} {a : Act} {w : World} (s : Sat P E c ρ H S a w) (n : Nat) : Sat P E c ρ H S a { w with drawn := n } :=
  ⟨s.fr, s.sz, ⟨s.df.eq, s.df.sub, s.df.ks, s.df.nd⟩, ⟨fun n t h => by have := s.hs.tok n t h; cases t <;> exact this, s.hs.dis⟩, s.hin, ⟨s.kept.os, s.kept.tape, s.kept.output, s.kept.size, s.kept.block⟩, s.ownb, s.flt, s.hlt, s.olt, s.nbx, s.sep, s.glob, s.rho, s.hle⟩

theorem coreT_sound {et : Option TypeId} (hE : Errs2 P et E) {c : Ctx} {W : Opts} (hN : W.N = c.N) (hG : W.gl = c.G) (hC : ErrC E c ∧ W.et = et) {Γ : Tab} (hΓ : AllValid P E c.G Γ) {ρ : Nat → Value} {H : FH} {S : SSt} {a : Act} {w : World} (s : Sat P E c ρ H S a w) {o : Oper} {i : IOp} (hc : comp P W o = some i) {fl : Bool}
    {KS : SSt → Prop} (h : coreT Γ fl i S KS) {K : Act → World → Prop} {Q : Exit → Act → World → Prop} (hK : ∀ S', KS S' → Left P E c S' K) : o.wp P a w K Q := by
  cases hq : quietOf i with
  | some z =>
    obtain ⟨d, v⟩ := z
    rw [coreT_quiet hq] at h
    obtain ⟨p, y, h1, h2, h3⟩ := h
    have h1' : v S.f S.h = some (p, y) := by
      cases fl with
      | true => exact quiet_mono hq h1 S.h
      | false => exact h1
    have e : ev i S = some (p, ⟨(d, y) :: S.f, S.h, S.nx⟩) := by
      have := quiet_ev hq S.f S.h S.nx
      rw [h1'] at this
      exact this
    exact op_sound hE hN hG hC s hc e h2 (hK _ h3)
  | none =>
    by_cases hcl : isCall i = true
    · cases i <;> first | (cases hcl; done) | (exact h.elim) | skip
      rename_i d f args tl fz
      obtain ⟨x0, xs, ts, ho, hd, hdN, hf, hx⟩ := comp_call hc
      unfold coreT at h
      cases hst : (fl && !fz) with
      | true =>
        simp only [hst] at h
        obtain ⟨r0, h1, h2, h3⟩ := h
        exact still_sound hC.1 s ho hd (hN ▸ hdN) hf hx hΓ.1 h1 h2 h3 hK
      | false =>
      simp only [hst] at h
      obtain ⟨K0, h1, h2⟩ := h
      refine call_sound hC.1 s ho hd (hN ▸ hdN) hf hx (Γ := ⟨fun f args h nx K => ∃ K0, Γ f args h nx K0 ∧ ∀ r h', K0 r h' → K r h', Γ.it⟩) (fun f => Valid.mono (hΓ.1 f)) (KS := KS) (tl := tl) ?_ hK
      unfold callP at h1 ⊢
      split at h1
      · exact ⟨K0, h1, fun r h' hr => (h2 r h' hr).2⟩
      · exact h1.elim
    · rw [coreT_loud hq (by simpa using hcl)] at h
      split at h
      · rename_i p S' e
        exact op_sound hE hN hG hC s hc e h.1 (hK _ h.2)
      · exact h.elim

theorem T_sound {et : Option TypeId} (hE : Errs2 P et E) {c : Ctx} {W : Opts} (hN : W.N = c.N) (hG : W.gl = c.G) (hC : ErrC E c ∧ W.et = et) {Γ : Tab} (hΓ : AllValid P E c.G Γ) {ρ : Nat → Value} {H : FH} {S : SSt} {a : Act} {w : World} (s : Sat P E c ρ H S a w) {ops : Array Oper} {i : Nat} {fl : Bool} {g : GOp} (hc : compOp P W ops i = some g)
    {KS : SSt → Prop} (h : T Γ (fl, g) S KS) {K : Act → World → Prop} {Q : Exit → Act → World → Prop} (hK : ∀ S', KS S' → Left P E c S' K) : wpOp P ops Q i K a w := by
  unfold compOp at hc
  unfold wpOp
  split at hc
  · rename_i o ho
    simp only [ho]
    split at hc
    · rename_i j e1 e2
      cases hc
      have hg : o.guard = none := by
        unfold gSlot at e2
        split at e2
        · assumption
        · split at e2 <;> cases e2
      simp only [Region.wanted, hg, if_true]
      exact .inl (coreT_sound hE hN hG hC hΓ s e1 h hK)
    · rename_i j t b e1 e2
      have hgd : ∃ m, o.guard = some (m, b) ∧ (ops[m]?).bind (·.dst) = some t := by
        unfold gSlot at e2
        split at e2
        · cases e2
        · rename_i m b' hgu
          split at e2
          · rename_i t' ht; cases e2; exact ⟨m, hgu, ht⟩
          · cases e2
      obtain ⟨m, hgu, ht⟩ := hgd
      have fin : ∀ d, o.dst = d → (∀ d', d = some d' → d' < W.N) → T Γ (fl, .g t b d j) S KS → if Region.wanted o (yielded ops a.tmps) = true then o.wp P a w K Q ∨ (o.asks P a w ∧ LetsOut Q) else K (a.put o.dst undef) w := by
        intro d hd hdN h
        rcases h with ⟨v, hv, h1, h2⟩ | ⟨hv, h2⟩
        case inr =>
          have hden := s.fr t
          rw [hv] at hden
          have hy : yielded ops a.tmps m = none := by
            unfold yielded
            rw [ht]
            rw [Array.getD_eq_getD_getElem?] at hden
            cases h0 : a.tmps[t]? with
            | none => simp [h0]
            | some u => rw [h0] at hden; simp only [Option.getD_some] at hden; cases hden; simp [h0]
          simp only [Region.wanted, hgu, hy]
          have : ((none : Option Bool) == some b) = false := rfl
          simp only [this, Bool.false_eq_true, if_false]
          have h2' := hK _ h2
          cases d with
          | none => rw [hd]; exact h2' _ _ _ _ s
          | some d => rw [hd]; exact h2' _ _ _ _ (s.put (.tup .nil) trivial (hN ▸ hdN d rfl))
        have hden := s.fr t
        rw [hv] at hden
        have hval : a.tmps[t]? = some (.bool v) := by
          rw [Array.getD_eq_getD_getElem?] at hden
          cases h0 : a.tmps[t]? with
          | none => rw [h0] at hden; simp only [Option.getD_none] at hden; cases hden
          | some u => rw [h0] at hden; simp only [Option.getD_some] at hden; cases hden; rfl
        have hy : yielded ops a.tmps m = some v := by
          unfold yielded
          rw [ht]
          simp [hval]
        simp only [Region.wanted, hgu, hy]
        by_cases hvb : v = b
        · subst hvb
          simp only [beq_self_eq_true, if_true]
          exact .inl (coreT_sound hE hN hG hC hΓ s e1 (h1 rfl) hK)
        · have hvb' : v = !b := by cases v <;> cases b <;> simp_all
          have : (some v == some b) = false := by simp [hvb]
          simp only [this, Bool.false_eq_true, if_false]
          have h2' := hK _ (h2 hvb')
          cases d with
          | none => rw [hd]; exact h2' _ _ _ _ s
          | some d => rw [hd]; exact h2' _ _ _ _ (s.put (.tup .nil) trivial (hN ▸ hdN d rfl))
      split at hc
      · rename_i d hd
        split at hc
        · rename_i hdN; cases hc
          exact fin (some d) hd (fun d' e => by cases e; exact hdN) h
        · cases hc
      · rename_i hd
        cases hc
        exact fin none hd (fun d' e => by cases e) h
    · cases hc
  · cases hc

theorem ready_mem {ops : Array Oper} {listed : Array Bool} {i : Nat} : i ∈ Region.ready .any ops listed ↔ i < ops.size ∧ listed.getD i true = false ∧ ∃ o, ops[i]? = some o ∧ ∀ e ∈ o.after, Region.binds .any e = true → listed.getD e.on false = true := by
  unfold Region.ready
  simp only [List.mem_filter, List.mem_range, Bool.and_eq_true, Bool.not_eq_true']
  refine and_congr_right fun hi => and_congr_right fun _ => ?_
  rw [Array.getElem?_eq_getElem hi]
  simp only [Option.map_some, Option.getD_some, Array.all_eq_true', Bool.or_eq_true, Bool.not_eq_true', Option.some.injEq, exists_eq_left']
  refine forall_congr' fun e => forall_congr' fun he => ?_
  cases Region.binds .any e <;> simp

structure RInv (ops : Array Oper) (listed : Array Bool) (rem : List Item) : Prop where
  size : listed.size = ops.size
  mem : ∀ i, i < ops.size → (listed.getD i true = false ↔ ∃ x ∈ rem, x.1 = i)
  down : Down ops listed

theorem pairsOk_pw {ops : Array Oper} : ∀ {l : List Item}, pairsOk ops l = true → l.Pairwise (fun x y => pairOk ops x y = true)
  | [], _ => .nil
  | x :: r, h => by
    simp only [pairsOk, Bool.and_eq_true, List.all_eq_true] at h
    exact .cons h.1 (pairsOk_pw h.2)

theorem any_sound {et : Option TypeId} (hE : Errs2 P et E) {c : Ctx} {W : Opts} (hN : W.N = c.N) (hG : W.gl = c.G) (hC : ErrC E c ∧ W.et = et) {Γ : Tab} (hΓ : AllValid P E c.G Γ) {ops : Array Oper} {Q : Exit → Act → World → Prop} {KS : SSt → Prop} (hK : ∀ S', KS S' → Left P E c S' (Q .normal)) :
    ∀ (n : Nat) (rem : List Item) (listed : Array Bool) (ρ : Nat → Value) (H : FH) (S : SSt) (a : Act) (w : World), rem.length = n → RInv ops listed rem → rem.Pairwise (fun x y => pairOk ops x y = true) → (∀ x ∈ rem, itemOk ops x = true ∧ x.1 < ops.size ∧ compOp P W ops x.1 = some x.2.2) →
      TL Γ (rem.map (·.2)) (Clo KS) S → Sat P E c ρ H S a w → wpAny P .any ops Q n listed a w := by
  intro n
  induction n with
  | zero =>
    intro rem listed ρ H S a w hl hi hp hx h s
    have : rem = [] := List.eq_nil_of_length_eq_zero hl
    subst this
    obtain ⟨S0, e, hk⟩ := h
    refine ⟨?_, hK S0 hk _ _ _ _ (s.eqv e.symm)⟩
    refine List.eq_nil_iff_forall_not_mem.2 fun i hm => ?_
    obtain ⟨h1, h2, _⟩ := ready_mem.1 hm
    obtain ⟨x, hx', _⟩ := (hi.mem i h1).1 h2
    simp at hx'
  | succ n ih =>
    intro rem listed ρ H S a w hl hi hp hx h s
    have hlisted : ∀ d, d < ops.size → (∀ x ∈ rem, x.1 ≠ d) → listed.getD d false = true := by
      intro d hd hn
      have h1 : listed.getD d true ≠ false := fun e => by
        obtain ⟨x, hm, he⟩ := (hi.mem d hd).1 e
        exact hn x hm he
      have hd' : d < listed.size := by rw [hi.size]; exact hd
      simp only [Array.getD, hd', dif_pos] at h1 ⊢
      simpa using h1
    have hun : ∀ x ∈ rem, listed.getD x.1 false = false := by
      intro x hm
      have h1 := (hi.mem x.1 (hx x hm).2.1).2 ⟨x, hm, rfl⟩
      have hd' : x.1 < listed.size := by rw [hi.size]; exact (hx x hm).2.1
      simp only [Array.getD, hd', dif_pos] at h1 ⊢
      exact h1
    refine ⟨fun h0 => ?_, fun i hm => ?_⟩
    · exfalso
      cases rem with
      | nil => simp at hl
      | cons x r =>
        have hxx := hx x (by simp)
        have : x.1 ∈ Region.ready .any ops listed := by
          refine ready_mem.2 ⟨hxx.2.1, (hi.mem x.1 hxx.2.1).2 ⟨x, by simp, rfl⟩, _, Array.getElem?_eq_getElem hxx.2.1, fun e he hb => ?_⟩
          have hd : e.on ∈ dirs ops x.1 := (dirs_mem (Array.getElem?_eq_getElem hxx.2.1)).2 ⟨e, he, hb, rfl⟩
          have h1 := hxx.1
          simp only [itemOk, Bool.and_eq_true, List.all_eq_true, decide_eq_true_eq, bne_iff_ne] at h1
          have h2 := h1.2 e.on hd
          refine hlisted _ h2.1 (fun y hy => ?_)
          simp only [List.mem_cons] at hy
          rcases hy with rfl | hy
          · exact fun e => h2.2 e.symm
          · have h3 := List.rel_of_pairwise_cons hp hy
            simp only [pairOk, Bool.and_eq_true, Bool.not_eq_true', List.contains_eq_mem, decide_eq_false_iff_not] at h3
            intro e'
            exact h3.1.2 (e' ▸ hd)
        rw [h0] at this
        simp at this
    · obtain ⟨h1, h2, o, ho, h3⟩ := ready_mem.1 hm
      obtain ⟨x, hxm, rfl⟩ := (hi.mem i h1).1 h2
      obtain ⟨pre, post, rfl⟩ := List.append_of_mem hxm
      have hdl : ∀ d ∈ dirs ops x.1, listed.getD d false = true := fun d hd => by
        obtain ⟨e, he, hb, rfl⟩ := (dirs_mem ho).1 hd
        exact h3 e he hb
      rw [List.pairwise_append] at hp
      obtain ⟨hp1, hp2, hp3⟩ := hp
      have hsw : ∀ y ∈ pre, swapOk y.2 x.2 = true := by
        intro y hy
        have h4 := hp3 y hy x (by simp)
        have h5 := hun y (by simp [hy])
        simp only [pairOk, Bool.and_eq_true, Bool.or_eq_true, List.contains_eq_mem, decide_eq_true_eq] at h4
        rcases h4.2 with (h6 | h6) | h6
        · rw [hdl _ h6] at h5; cases h5
        · exact h6
        · rw [tdep_listed hi.down _ _ hdl _ h6] at h5; cases h5
      have hokX : ∀ y ∈ pre ++ x :: post, okX y.2 = true := fun y hy => by
        have := (hx y hy).1
        simp only [itemOk, Bool.and_eq_true] at this
        exact this.1
      have hne : ∀ y ∈ pre ++ post, y.1 ≠ x.1 := by
        intro y hy
        simp only [List.mem_append] at hy
        rcases hy with hy | hy
        · have := hp3 y hy x (by simp)
          simp only [pairOk, Bool.and_eq_true, bne_iff_ne] at this
          exact this.1.1
        · have := List.rel_of_pairwise_cons hp2 hy
          simp only [pairOk, Bool.and_eq_true, bne_iff_ne] at this
          exact fun e => this.1.1 e.symm
      have hT : T Γ x.2 S (TL Γ (pre.map (·.2) ++ post.map (·.2)) (Clo KS)) := by
        have hfree : hget S.h S.nx = none := by
          cases e : hget S.h S.nx with
          | none => rfl
          | some t =>
            have := (s.hlt S.nx t (by rw [hget_append, e])).1
            omega
        refine T_front (hokX x (by simp)) (Clo.closed KS) ?_ ?_ ?_ hfree ?_
        · intro z hz; obtain ⟨y, hy, rfl⟩ := List.mem_map.1 hz; exact hokX y (by simp [hy])
        · intro z hz; obtain ⟨y, hy, rfl⟩ := List.mem_map.1 hz; exact hokX y (by simp [hy])
        · intro z hz; obtain ⟨y, hy, rfl⟩ := List.mem_map.1 hz; exact hsw y hy
        · simpa using h
      refine T_sound hE hN hG hC hΓ s (fl := x.2.1) (g := x.2.2) (hx x (by simp)).2.2 hT (fun S' hS' ρ' H' a' w' s' => ?_)
      have hsz : x.1 < listed.size := by rw [hi.size]; exact h1
      refine ih (pre ++ post) _ ρ' H' S' a' w' (by simp at hl ⊢; omega) ⟨by rw [Array.size_setIfInBounds]; exact hi.size, fun j hj => ?_, fun b hb d hd => ?_⟩ ?_ (fun y hy => hx y (by simp only [List.mem_append, List.mem_cons] at hy ⊢; rcases hy with hy | hy <;> simp [hy])) (by simpa using hS') s'
      · have hjs : j < listed.size := by rw [hi.size]; exact hj
        have hm := hi.mem j hj
        simp only [Array.getD, Array.size_setIfInBounds, hjs, dif_pos] at hm ⊢
        by_cases e : x.1 = j
        · subst e
          refine ⟨fun hh => ?_, fun ⟨y, hy, e⟩ => absurd e (hne y hy)⟩
          have h9 : (listed.setIfInBounds x.1 true)[x.1]'(by rw [Array.size_setIfInBounds]; exact hjs) = true := by
            simp
          have hh' : (listed.setIfInBounds x.1 true)[x.1]'(by rw [Array.size_setIfInBounds]; exact hjs) = false := hh
          rw [h9] at hh'; cases hh'
        · have : (listed.setIfInBounds x.1 true)[j]'(by rw [Array.size_setIfInBounds]; exact hjs) = listed[j] := by
            rw [Array.getElem_setIfInBounds hjs]
            simp [e]
          show (listed.setIfInBounds x.1 true)[j]'(by rw [Array.size_setIfInBounds]; exact hjs) = false ↔ _
          rw [this]
          refine hm.trans ⟨?_, ?_⟩
          · rintro ⟨y, hy, rfl⟩
            simp only [List.mem_append, List.mem_cons] at hy
            rcases hy with hy | rfl | hy
            · exact ⟨y, by simp [hy], rfl⟩
            · exact absurd rfl e
            · exact ⟨y, by simp [hy], rfl⟩
          · rintro ⟨y, hy, rfl⟩
            simp only [List.mem_append] at hy
            rcases hy with hy | hy
            · exact ⟨y, by simp [hy], rfl⟩
            · exact ⟨y, by simp [hy], rfl⟩
      · have mono : ∀ d, listed.getD d false = true → (listed.setIfInBounds x.1 true).getD d false = true := by
          intro d hd
          by_cases hds : d < listed.size
          · simp only [Array.getD, Array.size_setIfInBounds, hds, dif_pos] at hd ⊢
            show (listed.setIfInBounds x.1 true)[d]'(by rw [Array.size_setIfInBounds]; exact hds) = true
            rw [Array.getElem_setIfInBounds hds]
            split
            · rfl
            · exact hd
          · simp only [Array.getD, hds, dif_neg, not_false_eq_true] at hd
            cases hd
        by_cases e : x.1 = b
        · subst e; exact mono d (hdl d hd)
        · refine mono d (hi.down b ?_ d hd)
          by_cases hbs : b < listed.size
          · simp only [Array.getD, Array.size_setIfInBounds, hbs, dif_pos] at hb ⊢
            have : (listed.setIfInBounds x.1 true)[b]'(by rw [Array.size_setIfInBounds]; exact hbs) = listed[b] := by
              rw [Array.getElem_setIfInBounds hbs]; simp [e]
            have hb' : (listed.setIfInBounds x.1 true)[b]'(by rw [Array.size_setIfInBounds]; exact hbs) = true := hb
            rw [this] at hb'; exact hb'
          · simp only [Array.getD, Array.size_setIfInBounds, hbs, dif_neg, not_false_eq_true] at hb
            cases hb
      · rw [List.pairwise_append]
        exact ⟨hp1, (List.pairwise_cons.1 hp2).2, fun y hy z hz => hp3 y hy z (by simp [hz])⟩

theorem rgn_any {et : Option TypeId} (hE : Errs2 P et E) {c : Ctx} {W : Opts} (hN : W.N = c.N) (hG : W.gl = c.G) (hC : ErrC E c ∧ W.et = et) {Γ : Tab} (hΓ : AllValid P E c.G Γ) {id : Nat} {ops : Array Oper} {Q : Exit → Act → World → Prop} {KS : SSt → Prop} (hK : ∀ S', KS S' → Left P E c S' (Q .normal))
    {fz : List Opd} {l : List (Bool × GOp)} (hc : compRgn P W ops = some (fz, l)) {ρ : Nat → Value} {H : FH} {S : SSt} {a : Act} {w : World} (s : Sat P E c ρ H S a w) (h : vD Γ l KS S) : P.follows .mixedOrders = true ∧ wpAny P .any ops Q ops.size (Array.replicate ops.size false) a { w with drawn := w.drawn + 1 } ∧ ∀ (i : Nat) (o : Oper), ops[i]? = some o → ∃ j, comp P W o = some j := by
  unfold compRgn at hc
  split at hc
  · split at hc
    · rename_i its e
      split at hc
      · rename_i hok
        cases hc
        simp only [rgnOk, Bool.and_eq_true, beq_iff_eq, List.all_eq_true, List.mem_range, List.any_eq_true, decide_eq_true_eq] at hok
        obtain ⟨⟨⟨⟨⟨hm, hlen⟩, hall⟩, hlt⟩, hit⟩, hpairs⟩ := hok
        have hx := mkItems_spec e
        refine ⟨hm, ?_, fun i o ho => ?_⟩
        case refine_2 =>
          obtain ⟨x, hxm, rfl⟩ := hall i (Array.getElem?_eq_some_iff.1 ho).1
          have h9 := hx x hxm
          unfold compOp at h9
          rw [ho] at h9
          simp only at h9
          cases e9 : comp P W o with
          | none => simp [e9] at h9
          | some j => exact ⟨j, rfl⟩
        have hokX : ∀ x ∈ its.map (·.2), okX x = true := fun z hz => by
          obtain ⟨y, hy, rfl⟩ := List.mem_map.1 hz
          have := hit y hy
          simp only [itemOk, Bool.and_eq_true] at this
          exact this.1
        refine any_sound hE hN hG hC hΓ hK ops.size its _ ρ H S a _ hlen ⟨by simp, fun i hi => ?_, fun b hb => ?_⟩ (pairsOk_pw hpairs) (fun x hxm => ⟨hit x hxm, hlt x hxm, hx x hxm⟩) (TL_of_vD hokX h) (s.drew _)
        · have : (Array.replicate ops.size false).getD i true = false := by simp [Array.getD, hi]
          exact ⟨fun _ => hall i hi, fun _ => this⟩
        · exfalso
          by_cases hbs : b < ops.size
          · simp [Array.getD, hbs] at hb
          · simp [Array.getD, hbs] at hb
      · cases hc
    · cases hc
  · cases hc
theorem rgn_sound {et : Option TypeId} (hE : Errs2 P et E) {c : Ctx} {W : Opts} (hN : W.N = c.N) (hG : W.gl = c.G) (hC : ErrC E c ∧ W.et = et) {Γ : Tab} (hΓ : AllValid P E c.G Γ) {id : Nat} {ops : Array Oper} {Q : Exit → Act → World → Prop} {KS : SSt → Prop} (hK : ∀ S', KS S' → Left P E c S' (Q .normal))
    {fz : List Opd} {l : List (Bool × GOp)} (hc : compRgn P W ops = some (fz, l)) {ρ : Nat → Value} {H : FH} {S : SSt} {a : Act} {w : World} (s : Sat P E c ρ H S a w) (h : vD Γ l KS S) : (Code.region id ops true).wp P Q a w :=
  (fun h => wp_region_any h.1 h.2.1) (rgn_any (id := id) hE hN hG hC hΓ hK hc s h)
end
end Go.Fw

/- The frame-work, part Uf: regions of which two operations do not change places: told in both orders. -/
namespace Go.Fw
set_option linter.unusedVariables false
set_option linter.unusedSimpArgs false
open Go

/-- Two operations may change places; or the first one is a, and the other one b, or comes behind b. -/
def pairOkB (ops : Array Oper) (a b : Nat) (x y : Item) : Bool := x.1 != y.1 && !(dirs ops x.1).contains y.1 && ((dirs ops y.1).contains x.1 || swapOk x.2 y.2 || (tdep ops 12 (dirs ops y.1)).contains x.1 || (x.1 == a && (y.1 == b || (tdep ops 12 (dirs ops y.1)).contains b)))
def pairsOkB (ops : Array Oper) (a b : Nat) : List Item → Bool
  | [] => true
  | x :: r => r.all (pairOkB ops a b x) && pairsOkB ops a b r
def firstBad (ops : Array Oper) : List Item → Option (Nat × Nat)
  | [] => none
  | x :: r => match r.find? fun y => !pairOk ops x y with
    | some y => some (x.1, y.1)
    | none => firstBad ops r
def preLen : List Nat → List Nat → Nat
  | x :: r, y :: q => if x == y then preLen r q + 1 else 0
  | _, _ => 0
def rgnOkB (P : Program) (ops : Array Oper) (a b : Nat) (pre r1 r2 : List Item) : Bool :=
  P.follows .mixedOrders && (pre ++ r1).length == ops.size && (List.range ops.size).all (fun i => (pre ++ r1).any fun x => x.1 == i) && (pre ++ r1).all (fun x => decide (x.1 < ops.size)) && (pre ++ r1).all (itemOk ops)
    && pairsOkB ops a b (pre ++ r1) && pairsOkB ops b a (pre ++ r2) && r1.all (fun x => r2.any fun y => y.1 == x.1) && r2.all (fun x => r1.any fun y => y.1 == x.1) && r1.any (fun x => x.1 == a) && r1.any (fun x => x.1 == b)
    && r1.all fun x => x.1 == a || x.1 == b || !isCall x.2.2.i || (tdep ops 12 (dirs ops x.1)).contains a || (tdep ops 12 (dirs ops x.1)).contains b
def compRgnB (P : Program) (W : Opts) (ops : Array Oper) : Option (List Opd × List (Bool × GOp) × List (Bool × GOp) × List (Bool × GOp)) := match gops P W ops (List.range ops.size) with
  | some l =>
    let fl := fun i => match l.find? (·.1 == i) with | some y => flagOf W ops l y | none => false
    let q := fun i => match l.find? (·.1 == i) with | some y => y.2.i.quiet | none => false
    match mkItems P W ops fl (greedy ops q ops.size (List.range ops.size) []) with
    | some i1 => match firstBad ops i1 with
      | some (a, b) => match mkItems P W ops fl (greedy ops q ops.size ((List.range ops.size).filter (· != a) ++ [a]) []) with
        | some i2 => if rgnOkB P ops a b (i1.take (preLen (i1.map (·.1)) (i2.map (·.1)))) (i1.drop (preLen (i1.map (·.1)) (i2.map (·.1)))) (i2.drop (preLen (i1.map (·.1)) (i2.map (·.1)))) = true
          then some (fzOf l, (i1.take (preLen (i1.map (·.1)) (i2.map (·.1)))).map (·.2), (i1.drop (preLen (i1.map (·.1)) (i2.map (·.1)))).map (·.2), (i2.drop (preLen (i1.map (·.1)) (i2.map (·.1)))).map (·.2)) else none
        | none => none
      | none => none
    | none => none
  | none => none

section
variable {P : Program} {E : Nat → Value}

theorem TL_mono {Γ : Tab} {K K' : SSt → Prop} (hK : ∀ S, K S → K' S) : ∀ {l : List (Bool × GOp)}, (∀ x ∈ l, okX x = true) → ∀ {S : SSt}, TL Γ l K S → TL Γ l K' S
  | [], _, S, h => hK S h
  | x :: r, hl, S, h => T_mono (hl x (by simp)) (fun S' h' => TL_mono hK (fun y hy => hl y (by simp [hy])) h') h
theorem TL_app {Γ : Tab} {K : SSt → Prop} : ∀ {l m : List (Bool × GOp)} {S : SSt}, TL Γ (l ++ m) K S = TL Γ l (TL Γ m K) S
  | [], m, S => rfl
  | x :: r, m, S => by
    show T Γ x S (TL Γ (r ++ m) K) = T Γ x S (TL Γ r (TL Γ m K))
    congr 1
    funext S'
    exact TL_app
/-- Quiet ones: one state, whatever follows. -/
theorem TL_quiet {Γ : Tab} : ∀ {l : List (Bool × GOp)} {K : SSt → Prop} {S : SSt}, (∀ x ∈ l, okX x = true) → (∀ x ∈ l, quietX x = true) → TL Γ l K S →
    ∃ add : Fr, K ⟨add ++ S.f, S.h, S.nx⟩ ∧ ∀ K' : SSt → Prop, K' ⟨add ++ S.f, S.h, S.nx⟩ → TL Γ l K' S
  | [], K, S, _, _, h => ⟨[], h, fun K' h' => h'⟩
  | x :: r, K, S, h1, h2, h => by
    obtain ⟨add, e1, e2, e3⟩ := T_std (h1 x (by simp)) (h2 x (by simp)) h
    obtain ⟨add2, k1, k2⟩ := TL_quiet (fun y hy => h1 y (by simp [hy])) (fun y hy => h2 y (by simp [hy])) e2
    refine ⟨add2 ++ add, by simpa using k1, fun K' h' => ?_⟩
    exact e3 S _ (fun _ _ => rfl) (.inr (.inl rfl)) (k2 K' (by simpa using h'))
theorem coreT_conj {Γ : Tab} {fl : Bool} {i : IOp} (hc : isCall i = false) {S : SSt} {K K' : SSt → Prop} (h : coreT Γ fl i S K) (h' : coreT Γ fl i S K') : coreT Γ fl i S (fun S => K S ∧ K' S) := by
  cases hq : quietOf i with
  | some z =>
    obtain ⟨d, v⟩ := z
    rw [coreT_quiet hq] at h h' ⊢
    obtain ⟨p, y, h1, h2, h3⟩ := h
    obtain ⟨p', y', h1', h2', h3'⟩ := h'
    rw [h1] at h1'
    cases h1'
    exact ⟨p, y, h1, h2, h3, h3'⟩
  | none =>
    rw [coreT_loud hq hc] at h h' ⊢
    split at h
    · rename_i p S' e
      rw [e] at h'
      exact ⟨h.1, h.2, h'.2⟩
    · exact h.elim
theorem T_conj {Γ : Tab} {x : Bool × GOp} (hc : isCall x.2.i = false) {S : SSt} {K K' : SSt → Prop} (h : T Γ x S K) (h' : T Γ x S K') : T Γ x S (fun S => K S ∧ K' S) := by
  obtain ⟨fl, g⟩ := x
  cases g with
  | u i => exact coreT_conj hc h h'
  | g t b d i =>
    simp only [GOp.i] at hc
    simp only [T] at h h' ⊢
    rcases h with ⟨v, hv, h1, h2⟩ | ⟨hv, h1⟩
    · rcases h' with ⟨v', hv', h1', h2'⟩ | ⟨hv', h1'⟩
      · rw [hv] at hv'
        cases hv'
        exact .inl ⟨v, hv, fun e => coreT_conj hc (h1 e) (h1' e), fun e => ⟨h2 e, h2' e⟩⟩
      · rw [hv] at hv'; cases hv'
    · rcases h' with ⟨v', hv', h1', h2'⟩ | ⟨hv', h1'⟩
      · rw [hv] at hv'; cases hv'
      · exact .inr ⟨hv, h1, h1'⟩

theorem pairsOkB_pw {ops : Array Oper} {a b : Nat} : ∀ {l : List Item}, pairsOkB ops a b l = true → l.Pairwise (fun x y => pairOkB ops a b x y = true)
  | [], _ => .nil
  | x :: r, h => by
    simp only [pairsOkB, Bool.and_eq_true, List.all_eq_true] at h
    exact .cons h.1 (pairsOkB_pw h.2)
theorem pairOkB_ne {ops : Array Oper} {a b : Nat} {x y : Item} (h : pairOkB ops a b x y = true) : x.1 ≠ y.1 ∧ y.1 ∉ dirs ops x.1 := by
  simp only [pairOkB, Bool.and_eq_true, bne_iff_ne, Bool.not_eq_true', List.contains_eq_mem, decide_eq_false_iff_not] at h
  exact ⟨h.1.1, h.1.2⟩
/-- Without a it is as for all. -/
theorem pairOkB_free {ops : Array Oper} {a b : Nat} {x y : Item} (h : pairOkB ops a b x y = true) (hx : x.1 ≠ a) : pairOk ops x y = true := by
  simp only [pairOkB, pairOk, Bool.and_eq_true, Bool.or_eq_true, beq_iff_eq] at h ⊢
  refine ⟨h.1, ?_⟩
  rcases h.2 with ((h2 | h2) | h2) | h2
  · exact .inl (.inl h2)
  · exact .inl (.inr h2)
  · exact .inr h2
  · exact absurd h2.1 hx
/-- Nothing of what is listed, and of what it needs, is left. -/
theorem swap_of {ops : Array Oper} {listed : Array Bool} (hd : Down ops listed) {a b : Nat} {x y : Item} (h : pairOkB ops a b x y = true) (hy : ∀ d ∈ dirs ops y.1, listed.getD d false = true) (hx : listed.getD x.1 false = false) (hb : listed.getD b false = false) (hyb : y.1 ≠ b ∨ x.1 ≠ a) : swapOk x.2 y.2 = true := by
  simp only [pairOkB, Bool.and_eq_true, Bool.or_eq_true, List.contains_eq_mem, decide_eq_true_eq, beq_iff_eq] at h
  rcases h.2 with ((h2 | h2) | h2) | ⟨h2, h3 | h3⟩
  · rw [hy _ h2] at hx; cases hx
  · exact h2
  · rw [tdep_listed hd _ _ hy _ h2] at hx; cases hx
  · exact (hyb.elim (fun e => absurd h3 e) (fun e => absurd h2 e))
  · rw [tdep_listed hd _ _ hy _ h3] at hb; cases hb

theorem rinv_step {ops : Array Oper} {listed : Array Bool} {x : Item} {pre post : List Item} (hi : RInv ops listed (pre ++ x :: post)) (h1 : x.1 < ops.size) (hdl : ∀ d ∈ dirs ops x.1, listed.getD d false = true) (hne : ∀ y ∈ pre ++ post, y.1 ≠ x.1) : RInv ops (listed.setIfInBounds x.1 true) (pre ++ post) := by
  have hsz : x.1 < listed.size := by rw [hi.size]; exact h1
  refine ⟨by rw [Array.size_setIfInBounds]; exact hi.size, fun j hj => ?_, fun b hb d hd => ?_⟩
  · have hjs : j < listed.size := by rw [hi.size]; exact hj
    have hm := hi.mem j hj
    simp only [Array.getD, Array.size_setIfInBounds, hjs, dif_pos] at hm ⊢
    by_cases e : x.1 = j
    · subst e
      refine ⟨fun hh => ?_, fun ⟨y, hy, e⟩ => absurd e (hne y hy)⟩
      have h9 : (listed.setIfInBounds x.1 true)[x.1]'(by rw [Array.size_setIfInBounds]; exact hjs) = true := by
        simp
      have hh' : (listed.setIfInBounds x.1 true)[x.1]'(by rw [Array.size_setIfInBounds]; exact hjs) = false := hh
      rw [h9] at hh'; cases hh'
    · have : (listed.setIfInBounds x.1 true)[j]'(by rw [Array.size_setIfInBounds]; exact hjs) = listed[j] := by
        rw [Array.getElem_setIfInBounds hjs]
        simp [e]
      show (listed.setIfInBounds x.1 true)[j]'(by rw [Array.size_setIfInBounds]; exact hjs) = false ↔ _
      rw [this]
      refine hm.trans ⟨?_, ?_⟩
      · rintro ⟨y, hy, rfl⟩
        simp only [List.mem_append, List.mem_cons] at hy
        rcases hy with hy | rfl | hy
        · exact ⟨y, by simp [hy], rfl⟩
        · exact absurd rfl e
        · exact ⟨y, by simp [hy], rfl⟩
      · rintro ⟨y, hy, rfl⟩
        simp only [List.mem_append] at hy
        rcases hy with hy | hy
        · exact ⟨y, by simp [hy], rfl⟩
        · exact ⟨y, by simp [hy], rfl⟩
  · have mono : ∀ d, listed.getD d false = true → (listed.setIfInBounds x.1 true).getD d false = true := by
      intro d hd
      by_cases hds : d < listed.size
      · simp only [Array.getD, Array.size_setIfInBounds, hds, dif_pos] at hd ⊢
        show (listed.setIfInBounds x.1 true)[d]'(by rw [Array.size_setIfInBounds]; exact hds) = true
        rw [Array.getElem_setIfInBounds hds]
        split
        · rfl
        · exact hd
      · simp only [Array.getD, hds, dif_neg, not_false_eq_true] at hd
        cases hd
    by_cases e : x.1 = b
    · subst e; exact mono d (hdl d hd)
    · refine mono d (hi.down b ?_ d hd)
      by_cases hbs : b < listed.size
      · simp only [Array.getD, Array.size_setIfInBounds, hbs, dif_pos] at hb ⊢
        have : (listed.setIfInBounds x.1 true)[b]'(by rw [Array.size_setIfInBounds]; exact hbs) = listed[b] := by
          rw [Array.getElem_setIfInBounds hbs]; simp [e]
        have hb' : (listed.setIfInBounds x.1 true)[b]'(by rw [Array.size_setIfInBounds]; exact hbs) = true := hb
        rw [this] at hb'; exact hb'
      · simp only [Array.getD, Array.size_setIfInBounds, hbs, dif_neg, not_false_eq_true] at hb
        cases hb

/-- The first of what is left can be done. -/
theorem first_ready {ops : Array Oper} {listed : Array Bool} {x : Item} {r : List Item} (hi : RInv ops listed (x :: r)) (hx : itemOk ops x = true ∧ x.1 < ops.size) (hp : ∀ y ∈ r, y.1 ∉ dirs ops x.1) : x.1 ∈ Region.ready .any ops listed := by
  have hlisted : ∀ d, d < ops.size → (∀ y ∈ x :: r, y.1 ≠ d) → listed.getD d false = true := by
    intro d hd hn
    have h1 : listed.getD d true ≠ false := fun e => by
      obtain ⟨x, hm, he⟩ := (hi.mem d hd).1 e
      exact hn x hm he
    have hd' : d < listed.size := by rw [hi.size]; exact hd
    simp only [Array.getD, hd', dif_pos] at h1 ⊢
    simpa using h1
  refine ready_mem.2 ⟨hx.2, (hi.mem x.1 hx.2).2 ⟨x, by simp, rfl⟩, _, Array.getElem?_eq_getElem hx.2, fun e he hb => ?_⟩
  have hd : e.on ∈ dirs ops x.1 := (dirs_mem (Array.getElem?_eq_getElem hx.2)).2 ⟨e, he, hb, rfl⟩
  have h1 := hx.1
  simp only [itemOk, Bool.and_eq_true, List.all_eq_true, decide_eq_true_eq, bne_iff_ne] at h1
  have h2 := h1.2 e.on hd
  refine hlisted _ h2.1 (fun y hy => ?_)
  simp only [List.mem_cons] at hy
  rcases hy with rfl | hy
  · exact fun e => h2.2 e.symm
  · intro e'
    exact hp y hy (e' ▸ hd)

theorem anyB_sound {et : Option TypeId} (hE : Errs2 P et E) {c : Ctx} {W : Opts} (hN : W.N = c.N) (hG : W.gl = c.G) (hC : ErrC E c ∧ W.et = et) {Γ : Tab} (hΓ : AllValid P E c.G Γ) {ops : Array Oper} {Q : Exit → Act → World → Prop} {KS : SSt → Prop} (hK : ∀ S', KS S' → Left P E c S' (Q .normal)) {a0 b0 : Nat} :
    ∀ (n : Nat) (pre r1 r2 : List Item) (listed : Array Bool) (ρ : Nat → Value) (H : FH) (S : SSt) (a : Act) (w : World), (pre ++ r1).length = n → RInv ops listed (pre ++ r1) → (pre ++ r1).Pairwise (fun x y => pairOkB ops a0 b0 x y = true) → (pre ++ r2).Pairwise (fun x y => pairOkB ops b0 a0 x y = true) → (∀ x, x ∈ r1 ↔ x ∈ r2) →
      (∀ x ∈ pre ++ r1, itemOk ops x = true ∧ x.1 < ops.size ∧ compOp P W ops x.1 = some x.2.2) → (∃ x ∈ r1, x.1 = a0) → (∃ x ∈ r1, x.1 = b0) →
      (∀ x ∈ r1, x.1 = a0 ∨ x.1 = b0 ∨ isCall x.2.2.i = false ∨ a0 ∈ tdep ops 12 (dirs ops x.1) ∨ b0 ∈ tdep ops 12 (dirs ops x.1)) →
      TL Γ (pre.map (·.2)) (fun S => TL Γ (r1.map (·.2)) (Clo KS) S ∧ TL Γ (r2.map (·.2)) (Clo KS) S) S → Sat P E c ρ H S a w → wpAny P .any ops Q n listed a w := by
  intro n
  induction n with
  | zero =>
    intro pre r1 r2 listed ρ H S a w hl hi hp1 hp2 hmem hx ha hb hcalls h s
    have : pre ++ r1 = [] := List.eq_nil_of_length_eq_zero hl
    obtain ⟨x, hxm, _⟩ := ha
    have : r1 = [] := (List.append_eq_nil_iff.1 this).2
    rw [this] at hxm
    cases hxm
  | succ n ih =>
    intro pre r1 r2 listed ρ H S a w hl hi hp1 hp2 hmem hx ha hb hcalls h s
    have hun : ∀ x ∈ pre ++ r1, listed.getD x.1 false = false := by
      intro x hm
      have h1 := (hi.mem x.1 (hx x hm).2.1).2 ⟨x, hm, rfl⟩
      have hd' : x.1 < listed.size := by rw [hi.size]; exact (hx x hm).2.1
      simp only [Array.getD, hd', dif_pos] at h1 ⊢
      exact h1
    have hua : listed.getD a0 false = false := by
      obtain ⟨x, hxm, rfl⟩ := ha
      exact hun x (List.mem_append_right _ hxm)
    have hub : listed.getD b0 false = false := by
      obtain ⟨x, hxm, rfl⟩ := hb
      exact hun x (List.mem_append_right _ hxm)
    have hokX : ∀ y ∈ pre ++ r1, okX y.2 = true := fun y hy => by
      have := (hx y hy).1
      simp only [itemOk, Bool.and_eq_true] at this
      exact this.1
    have hokP : ∀ z ∈ pre.map (·.2), okX z = true := fun z hz => by obtain ⟨y, hy, rfl⟩ := List.mem_map.1 hz; exact hokX y (List.mem_append_left _ hy)
    have hok1 : ∀ z ∈ r1.map (·.2), okX z = true := fun z hz => by obtain ⟨y, hy, rfl⟩ := List.mem_map.1 hz; exact hokX y (List.mem_append_right _ hy)
    have hok2 : ∀ z ∈ r2.map (·.2), okX z = true := fun z hz => by obtain ⟨y, hy, rfl⟩ := List.mem_map.1 hz; exact hokX y (List.mem_append_right _ ((hmem y).2 hy))
    have hfree : ∀ f, hget (⟨f, S.h, S.nx⟩ : SSt).h S.nx = none := by
      intro f
      cases e : hget S.h S.nx with
      | none => rfl
      | some t =>
        have := (s.hlt S.nx t (by rw [hget_append, e])).1
        omega
    refine ⟨fun h0 => ?_, fun i hm => ?_⟩
    · exfalso
      cases hr : pre ++ r1 with
      | nil => rw [hr] at hl; simp at hl
      | cons x r =>
        rw [hr] at hi hx hp1
        have := first_ready hi ⟨(hx x (by simp)).1, (hx x (by simp)).2.1⟩ (fun y hy => (pairOkB_ne (List.rel_of_pairwise_cons hp1 hy)).2)
        rw [h0] at this
        simp at this
    · obtain ⟨h1, h2, o, ho, h3⟩ := ready_mem.1 hm
      obtain ⟨x, hxm, rfl⟩ := (hi.mem i h1).1 h2
      have hdl : ∀ d ∈ dirs ops x.1, listed.getD d false = true := fun d hd => by
        obtain ⟨e, he, hb, rfl⟩ := (dirs_mem ho).1 hd
        exact h3 e he hb
      -- one order, from here on
      have single : ∀ (a1 b1 : Nat) (r : List Item), (pre ++ r).Pairwise (fun x y => pairOkB ops a1 b1 x y = true) → (∀ y, y ∈ r1 ↔ y ∈ r) → x.1 = a1 → listed.getD b1 false = false → TL Γ ((pre ++ r).map (·.2)) (Clo KS) S → wpOp P ops (fun ex a w => Q ex a w) x.1 (wpAny P .any ops Q n (listed.setIfInBounds x.1 true)) a w := by
        intro a1 b1 r hp hmr hxa hb1 htl
        have hxr : x ∈ pre ++ r := by
          rcases List.mem_append.1 hxm with hxm | hxm
          · exact List.mem_append_left _ hxm
          · exact List.mem_append_right _ ((hmr x).1 hxm)
        have hall : ∀ y, y ∈ pre ++ r ↔ y ∈ pre ++ r1 := fun y => by simp only [List.mem_append, hmr y]
        obtain ⟨p, q, hpq⟩ := List.append_of_mem hxr
        rw [hpq] at hp htl
        have hall' : ∀ y ∈ p ++ x :: q, y ∈ pre ++ r1 := fun y hy => (hall y).1 (hpq ▸ hy)
        rw [List.pairwise_append] at hp
        obtain ⟨k1, k2, k3⟩ := hp
        have hne : ∀ y ∈ p ++ q, y.1 ≠ x.1 := by
          intro y hy
          rcases List.mem_append.1 hy with hy | hy
          · exact (pairOkB_ne (k3 y hy x (by simp))).1
          · exact fun e => (pairOkB_ne (List.rel_of_pairwise_cons k2 hy)).1 e.symm
        have hsw : ∀ y ∈ p, swapOk y.2 x.2 = true := fun y hy => swap_of hi.down (k3 y hy x (by simp)) hdl (hun y (hall' y (by simp [hy]))) hb1 (.inr (fun e => hne y (by simp [hy]) (e.trans hxa.symm)))
        have hT : T Γ x.2 S (TL Γ (p.map (·.2) ++ q.map (·.2)) (Clo KS)) := by
          refine T_front (hokX x hxm) (Clo.closed KS) ?_ ?_ ?_ (hfree S.f) ?_
          · intro z hz; obtain ⟨y, hy, rfl⟩ := List.mem_map.1 hz; exact hokX y (hall' y (by simp [hy]))
          · intro z hz; obtain ⟨y, hy, rfl⟩ := List.mem_map.1 hz; exact hokX y (hall' y (by simp [hy]))
          · intro z hz; obtain ⟨y, hy, rfl⟩ := List.mem_map.1 hz; exact hsw y hy
          · simpa using htl
        have hi' : RInv ops listed (p ++ x :: q) := ⟨hi.size, fun j hj => (hi.mem j hj).trans ⟨fun ⟨y, hy, e⟩ => ⟨y, hpq ▸ (hall y).2 hy, e⟩, fun ⟨y, hy, e⟩ => ⟨y, hall' y hy, e⟩⟩, hi.down⟩
        have hnd : ∀ {l : List Item}, l.Pairwise (fun x y => x.1 ≠ y.1) → l.Nodup := fun h => h.imp (fun h e => h (by rw [e]))
        have hlen : (p ++ q).length = n := by
          have e1 : (pre ++ r1).Perm (p ++ x :: q) := (List.perm_ext_iff_of_nodup (hnd (hp1.imp (fun h => (pairOkB_ne h).1))) (hnd (by
            rw [List.pairwise_append]
            exact ⟨k1.imp (fun h => (pairOkB_ne h).1), k2.imp (fun h => (pairOkB_ne h).1), fun y hy z hz => (pairOkB_ne (k3 y hy z hz)).1⟩))).2 (fun y => by rw [← hpq]; exact (hall y).symm)
          have := e1.length_eq
          rw [hl] at this
          simp only [List.length_append, List.length_cons] at this ⊢
          omega
        refine T_sound hE hN hG hC hΓ s (fl := x.2.1) (g := x.2.2) (hx x hxm).2.2 hT (fun S' hS' ρ' H' a' w' s' => ?_)
        refine any_sound hE hN hG hC hΓ hK n (p ++ q) _ ρ' H' S' a' w' hlen (rinv_step hi' h1 hdl hne) ?_ (fun y hy => hx y (hall' y (by simp only [List.mem_append, List.mem_cons] at hy ⊢; rcases hy with hy | hy <;> simp [hy]))) (by simpa using hS') s'
        rw [List.pairwise_append]
        have fr : ∀ {y z : Item}, y ∈ p ++ q → pairOkB ops a1 b1 y z = true → pairOk ops y z = true := fun hy h => pairOkB_free h (fun e => hne _ hy (e.trans hxa.symm))
        refine ⟨k1.imp_of_mem (fun hy _ h => fr (by simp [hy]) h), ((List.pairwise_cons.1 k2).2).imp_of_mem (fun hy _ h => fr (by simp [hy]) h), fun y hy z hz => fr (by simp [hy]) (k3 y hy z (by simp [hz]))⟩
      have hcomb : ∀ (r : List Item), (∀ S', (TL Γ (r1.map (·.2)) (Clo KS) S' ∧ TL Γ (r2.map (·.2)) (Clo KS) S') → TL Γ (r.map (·.2)) (Clo KS) S') → TL Γ ((pre ++ r).map (·.2)) (Clo KS) S := fun r hr => by
        rw [List.map_append, TL_app]
        exact TL_mono hr hokP h
      by_cases hxa : x.1 = a0
      · exact single a0 b0 r1 hp1 (fun y => Iff.rfl) hxa hub (hcomb r1 (fun _ h => h.1))
      by_cases hxb : x.1 = b0
      · exact single b0 a0 r2 hp2 hmem hxb hua (hcomb r2 (fun _ h => h.2))
      -- both orders yet
      have hconj : Closed (fun S => TL Γ (r1.map (·.2)) (Clo KS) S ∧ TL Γ (r2.map (·.2)) (Clo KS) S) := fun S S' e h => ⟨TL_closed (Clo.closed KS) hok1 S S' e h.1, TL_closed (Clo.closed KS) hok2 S S' e h.2⟩
      have hne1 : ∀ y ∈ pre ++ r1, y ≠ x → y.1 ≠ x.1 := by
        intro y hy hyx e
        obtain ⟨p, q, hpq⟩ := List.append_of_mem hxm
        rw [hpq] at hp1 hy
        rw [List.pairwise_append] at hp1
        simp only [List.mem_append, List.mem_cons] at hy
        rcases hy with hy | rfl | hy
        · exact (pairOkB_ne (hp1.2.2 y hy x (by simp))).1 e
        · exact hyx rfl
        · exact (pairOkB_ne (List.rel_of_pairwise_cons hp1.2.1 hy)).1 e.symm
      rcases List.mem_append.1 hxm with hxp | hxr
      · -- one of those ahead
        obtain ⟨p, q, rfl⟩ := List.append_of_mem hxp
        have hp1' := hp1
        rw [List.append_assoc, List.cons_append, List.pairwise_append] at hp1'
        obtain ⟨k1, k2, k3⟩ := hp1'
        have hp2' := hp2
        rw [List.append_assoc, List.cons_append, List.pairwise_append] at hp2'
        obtain ⟨j1, j2, j3⟩ := hp2'
        have hne : ∀ y ∈ p ++ (q ++ r1), y.1 ≠ x.1 := by
          intro y hy
          rcases List.mem_append.1 hy with hy | hy
          · exact (pairOkB_ne (k3 y hy x (by simp))).1
          · exact fun e => (pairOkB_ne (List.rel_of_pairwise_cons k2 hy)).1 e.symm
        have hsw : ∀ y ∈ p, swapOk y.2 x.2 = true := fun y hy => swap_of hi.down (k3 y hy x (by simp)) hdl (hun y (by simp [hy])) hub (.inl hxb)
        have hT : T Γ x.2 S (TL Γ (p.map (·.2) ++ q.map (·.2)) (fun S => TL Γ (r1.map (·.2)) (Clo KS) S ∧ TL Γ (r2.map (·.2)) (Clo KS) S)) := by
          refine T_front (hokX x hxm) hconj ?_ ?_ ?_ (hfree S.f) ?_
          · intro z hz; obtain ⟨y, hy, rfl⟩ := List.mem_map.1 hz; exact hokX y (by simp [hy])
          · intro z hz; obtain ⟨y, hy, rfl⟩ := List.mem_map.1 hz; exact hokX y (by simp [hy])
          · intro z hz; obtain ⟨y, hy, rfl⟩ := List.mem_map.1 hz; exact hsw y hy
          · simpa using h
        have hi' : RInv ops listed (p ++ x :: (q ++ r1)) := by simpa using hi
        refine T_sound hE hN hG hC hΓ s (fl := x.2.1) (g := x.2.2) (hx x hxm).2.2 hT (fun S' hS' ρ' H' a' w' s' => ?_)
        refine ih (p ++ q) r1 r2 _ ρ' H' S' a' w' (by simp at hl ⊢; omega) (by have := rinv_step hi' h1 hdl hne; simpa using this) ?_ ?_ hmem (fun y hy => hx y (by simp only [List.mem_append, List.mem_cons] at hy ⊢; rcases hy with (hy | hy) | hy <;> simp [hy])) ha hb hcalls (by simpa using hS') s'
        · rw [List.append_assoc, List.pairwise_append]
          exact ⟨k1, (List.pairwise_cons.1 k2).2, fun y hy z hz => k3 y hy z (List.mem_cons_of_mem _ hz)⟩
        · rw [List.append_assoc, List.pairwise_append]
          exact ⟨j1, (List.pairwise_cons.1 j2).2, fun y hy z hz => j3 y hy z (List.mem_cons_of_mem _ hz)⟩
      · -- one of those behind
        have hcl : isCall x.2.2.i = false := by
          rcases hcalls x hxr with h4 | h4 | h4 | h4 | h4
          · exact absurd h4 hxa
          · exact absurd h4 hxb
          · exact h4
          · have := tdep_listed hi.down _ _ hdl _ h4
            rw [hua] at this; cases this
          · have := tdep_listed hi.down _ _ hdl _ h4
            rw [hub] at this; cases this
        have hxr2 := (hmem x).1 hxr
        obtain ⟨p1, q1, hq1⟩ := List.append_of_mem hxr
        obtain ⟨p2, q2, hq2⟩ := List.append_of_mem hxr2
        have hp1' := hp1
        rw [hq1, List.pairwise_append] at hp1'
        obtain ⟨k1, k2, k3⟩ := hp1'
        rw [List.pairwise_append] at k2
        obtain ⟨k4, k5, k6⟩ := k2
        have hp2' := hp2
        rw [hq2, List.pairwise_append] at hp2'
        obtain ⟨j1, j2, j3⟩ := hp2'
        rw [List.pairwise_append] at j2
        obtain ⟨j4, j5, j6⟩ := j2
        have swP : ∀ y ∈ pre, swapOk y.2 x.2 = true := fun y hy => swap_of hi.down (k3 y hy x (by simp)) hdl (hun y (by simp [hy])) hub (.inl hxb)
        have sw1 : ∀ y ∈ p1, swapOk y.2 x.2 = true := fun y hy => swap_of hi.down (k6 y hy x (by simp)) hdl (hun y (by simp [hq1, hy])) hub (.inl hxb)
        have sw2 : ∀ y ∈ p2, swapOk y.2 x.2 = true := fun y hy => swap_of hi.down (j6 y hy x (by simp)) hdl (hun y (List.mem_append_right _ ((hmem y).2 (by rw [hq2]; simp [hy])))) hua (.inl hxa)
        have hqP : ∀ z ∈ pre.map (·.2), quietX z = true := by
          intro z hz
          obtain ⟨y, hy, rfl⟩ := List.mem_map.1 hz
          have := swP y hy
          simp only [swapOk, Bool.and_eq_true] at this
          exact this.1.1.1
        obtain ⟨add, ⟨m1, m2⟩, m3⟩ := TL_quiet hokP hqP h
        have ok1 : ∀ y ∈ p1 ++ q1, okX y.2 = true := fun y hy => hokX y (List.mem_append_right _ (by rw [hq1]; simp only [List.mem_append, List.mem_cons] at hy ⊢; rcases hy with hy | hy <;> simp [hy]))
        have ok2 : ∀ y ∈ p2 ++ q2, okX y.2 = true := fun y hy => hokX y (List.mem_append_right _ ((hmem y).2 (by rw [hq2]; simp only [List.mem_append, List.mem_cons] at hy ⊢; rcases hy with hy | hy <;> simp [hy])))
        have t1 : T Γ x.2 ⟨add ++ S.f, S.h, S.nx⟩ (TL Γ ((p1 ++ q1).map (·.2)) (Clo KS)) := by
          rw [List.map_append]
          refine T_front (hokX x hxm) (Clo.closed KS) ?_ ?_ ?_ (hfree _) ?_
          · intro z hz; obtain ⟨y, hy, rfl⟩ := List.mem_map.1 hz; exact ok1 y (by simp [hy])
          · intro z hz; obtain ⟨y, hy, rfl⟩ := List.mem_map.1 hz; exact ok1 y (by simp [hy])
          · intro z hz; obtain ⟨y, hy, rfl⟩ := List.mem_map.1 hz; exact sw1 y hy
          · rw [hq1] at m1; simpa using m1
        have t2 : T Γ x.2 ⟨add ++ S.f, S.h, S.nx⟩ (TL Γ ((p2 ++ q2).map (·.2)) (Clo KS)) := by
          rw [List.map_append]
          refine T_front (hokX x hxm) (Clo.closed KS) ?_ ?_ ?_ (hfree _) ?_
          · intro z hz; obtain ⟨y, hy, rfl⟩ := List.mem_map.1 hz; exact ok2 y (by simp [hy])
          · intro z hz; obtain ⟨y, hy, rfl⟩ := List.mem_map.1 hz; exact ok2 y (by simp [hy])
          · intro z hz; obtain ⟨y, hy, rfl⟩ := List.mem_map.1 hz; exact sw2 y hy
          · rw [hq2] at m2; simpa using m2
        have t3 := T_conj hcl t1 t2
        have hok1' : ∀ z ∈ (p1 ++ q1).map (·.2), okX z = true := fun z hz => by obtain ⟨y, hy, rfl⟩ := List.mem_map.1 hz; exact ok1 y hy
        have hok2' : ∀ z ∈ (p2 ++ q2).map (·.2), okX z = true := fun z hz => by obtain ⟨y, hy, rfl⟩ := List.mem_map.1 hz; exact ok2 y hy
        have hconj' : Closed (fun S => TL Γ ((p1 ++ q1).map (·.2)) (Clo KS) S ∧ TL Γ ((p2 ++ q2).map (·.2)) (Clo KS) S) := fun S S' e h => ⟨TL_closed (Clo.closed KS) hok1' S S' e h.1, TL_closed (Clo.closed KS) hok2' S S' e h.2⟩
        have hT : T Γ x.2 S (TL Γ (pre.map (·.2) ++ []) (fun S => TL Γ ((p1 ++ q1).map (·.2)) (Clo KS) S ∧ TL Γ ((p2 ++ q2).map (·.2)) (Clo KS) S)) := by
          refine T_front (hokX x hxm) hconj' (fun z hz => by cases hz) hokP ?_ (hfree S.f) ?_
          · intro z hz; obtain ⟨y, hy, rfl⟩ := List.mem_map.1 hz; exact swP y hy
          · rw [TL_app]
            exact m3 _ t3
        rw [List.append_nil] at hT
        have hne : ∀ y ∈ (pre ++ p1) ++ q1, y.1 ≠ x.1 := by
          intro y hy
          rcases List.mem_append.1 hy with hy | hy
          · rcases List.mem_append.1 hy with hy | hy
            · exact (pairOkB_ne (k3 y hy x (by simp))).1
            · exact (pairOkB_ne (k6 y hy x (by simp))).1
          · exact fun e => (pairOkB_ne (List.rel_of_pairwise_cons k5 hy)).1 e.symm
        have hi' : RInv ops listed ((pre ++ p1) ++ x :: q1) := by rw [hq1] at hi; simpa using hi
        have hmm : ∀ y, y ∈ p1 ++ q1 ↔ y ∈ r1 ∧ y ≠ x := by
          intro y
          rw [hq1]
          simp only [List.mem_append, List.mem_cons]
          constructor
          · rintro (hy | hy)
            · exact ⟨.inl hy, fun e => hne y (by simp [hy]) (by rw [e])⟩
            · exact ⟨.inr (.inr hy), fun e => hne y (by simp [hy]) (by rw [e])⟩
          · rintro ⟨hy | hy | hy, e⟩
            · exact .inl hy
            · exact absurd hy e
            · exact .inr hy
        have hmm2 : ∀ y, y ∈ p2 ++ q2 ↔ y ∈ r2 ∧ y ≠ x := by
          intro y
          rw [hq2]
          simp only [List.mem_append, List.mem_cons]
          constructor
          · rintro (hy | hy)
            · exact ⟨.inl hy, fun e => (pairOkB_ne (j6 y hy x (by simp))).1 (by rw [e])⟩
            · exact ⟨.inr (.inr hy), fun e => (pairOkB_ne (List.rel_of_pairwise_cons j5 hy)).1 (by rw [e])⟩
          · rintro ⟨hy | hy | hy, e⟩
            · exact .inl hy
            · exact absurd hy e
            · exact .inr hy
        refine T_sound hE hN hG hC hΓ s (fl := x.2.1) (g := x.2.2) (hx x hxm).2.2 hT (fun S' hS' ρ' H' a' w' s' => ?_)
        refine ih pre (p1 ++ q1) (p2 ++ q2) _ ρ' H' S' a' w' (by rw [hq1] at hl; simp at hl ⊢; omega) (by have := rinv_step hi' h1 hdl hne; simpa using this) ?_ ?_ (fun y => by rw [hmm, hmm2, hmem]) (fun y hy => hx y (by rw [hq1]; simp only [List.mem_append, List.mem_cons] at hy ⊢; rcases hy with hy | hy | hy <;> simp [hy])) ?_ ?_ (fun y hy => hcalls y ((hmm y).1 hy).1) hS' s'
        · rw [List.pairwise_append, List.pairwise_append]
          exact ⟨k1, ⟨k4, (List.pairwise_cons.1 k5).2, fun y hy z hz => k6 y hy z (List.mem_cons_of_mem _ hz)⟩, fun y hy z hz => k3 y hy z (by simp only [List.mem_append, List.mem_cons] at hz ⊢; rcases hz with hz | hz <;> simp [hz])⟩
        · rw [List.pairwise_append, List.pairwise_append]
          exact ⟨j1, ⟨j4, (List.pairwise_cons.1 j5).2, fun y hy z hz => j6 y hy z (List.mem_cons_of_mem _ hz)⟩, fun y hy z hz => j3 y hy z (by simp only [List.mem_append, List.mem_cons] at hz ⊢; rcases hz with hz | hz <;> simp [hz])⟩
        · obtain ⟨y, hy, e⟩ := ha
          exact ⟨y, (hmm y).2 ⟨hy, fun e' => hxa (by rw [← e', e])⟩, e⟩
        · obtain ⟨y, hy, e⟩ := hb
          exact ⟨y, (hmm y).2 ⟨hy, fun e' => hxb (by rw [← e', e])⟩, e⟩

theorem mkItems_fl {W : Opts} {ops : Array Oper} {fl : Nat → Bool} : ∀ {ord : List Nat} {its : List Item}, mkItems P W ops fl ord = some its → ∀ x ∈ its, x.2.1 = fl x.1
  | [], its, h, x, hx => by simp only [mkItems] at h; cases h; simp at hx
  | i :: r, its, h, x, hx => by
    simp only [mkItems] at h
    split at h
    · rename_i g l e1 e2
      cases h
      simp only [List.mem_cons] at hx
      rcases hx with rfl | hx
      · rfl
      · exact mkItems_fl e2 x hx
    · cases h

theorem rgnB_any {et : Option TypeId} (hE : Errs2 P et E) {c : Ctx} {W : Opts} (hN : W.N = c.N) (hG : W.gl = c.G) (hC : ErrC E c ∧ W.et = et) {Γ : Tab} (hΓ : AllValid P E c.G Γ) {ops : Array Oper} {Q : Exit → Act → World → Prop} {KS : SSt → Prop} (hK : ∀ S', KS S' → Left P E c S' (Q .normal))
    {fz : List Opd} {l l1 l2 : List (Bool × GOp)} (hc : compRgnB P W ops = some (fz, l, l1, l2)) {ρ : Nat → Value} {H : FH} {S : SSt} {a : Act} {w : World} (s : Sat P E c ρ H S a w) (h : vD Γ l (fun S => vD Γ l1 KS S ∧ vD Γ l2 KS S) S) : P.follows .mixedOrders = true ∧ wpAny P .any ops Q ops.size (Array.replicate ops.size false) a { w with drawn := w.drawn + 1 } ∧ ∀ (i : Nat) (o : Oper), ops[i]? = some o → ∃ j, comp P W o = some j := by
  unfold compRgnB at hc
  split at hc
  · simp only at hc
    split at hc
    · rename_i i1 e1
      split at hc
      · rename_i a0 b0 _
        split at hc
        · rename_i i2 e2
          split at hc
          · rename_i hok
            generalize preLen (i1.map (·.1)) (i2.map (·.1)) = k at hok hc
            cases hc
            simp only [rgnOkB, Bool.and_eq_true, beq_iff_eq, List.all_eq_true, List.mem_range, List.any_eq_true, decide_eq_true_eq, Bool.or_eq_true, Bool.not_eq_true', List.contains_eq_mem] at hok
            obtain ⟨⟨⟨⟨⟨⟨⟨⟨⟨⟨⟨hm, hlen⟩, hall⟩, hlt⟩, hit⟩, hp1⟩, hp2⟩, hm1⟩, hm2⟩, ha⟩, hb⟩, hcl⟩ := hok
            rw [List.take_append_drop] at hlen hall hlt hit hp1
            have hx1 := mkItems_spec e1
            have hx2 := mkItems_spec e2
            have hf1 := mkItems_fl e1
            have hf2 := mkItems_fl e2
            have same : ∀ x ∈ i1, ∀ y ∈ i2, y.1 = x.1 → y = x := by
              intro x hx y hy e
              have g1 := hx1 x hx
              have g2 := hx2 y hy
              have h1 := hf1 x hx
              have h2 := hf2 y hy
              obtain ⟨xi, xf, xg⟩ := x
              obtain ⟨yi, yf, yg⟩ := y
              simp only at e g1 g2 h1 h2
              subst e
              rw [g1] at g2
              cases g2
              rw [h1, h2]
            have hokX : ∀ x ∈ i1.map (·.2), okX x = true := fun z hz => by
              obtain ⟨y, hy, rfl⟩ := List.mem_map.1 hz
              have := hit y hy
              simp only [itemOk, Bool.and_eq_true] at this
              exact this.1
            have hok1 : ∀ x ∈ (i1.drop k).map (·.2), okX x = true := fun z hz => by
              obtain ⟨y, hy, rfl⟩ := List.mem_map.1 hz
              exact hokX _ (List.mem_map.2 ⟨y, List.mem_of_mem_drop hy, rfl⟩)
            have hmem : ∀ x, x ∈ i1.drop k ↔ x ∈ i2.drop k := by
              intro x
              constructor
              · intro hx
                obtain ⟨y, hy, e⟩ := hm1 x hx
                have := same x (List.mem_of_mem_drop hx) y (List.mem_of_mem_drop hy) e
                exact this ▸ hy
              · intro hx
                obtain ⟨y, hy, e⟩ := hm2 x hx
                have := same y (List.mem_of_mem_drop hy) x (List.mem_of_mem_drop hx) e.symm
                exact this ▸ hy
            have hok2 : ∀ x ∈ (i2.drop k).map (·.2), okX x = true := fun z hz => by
              obtain ⟨y, hy, rfl⟩ := List.mem_map.1 hz
              exact hok1 _ (List.mem_map.2 ⟨y, (hmem y).2 hy, rfl⟩)
            have hokP : ∀ x ∈ (i1.take k).map (·.2), okX x = true := fun z hz => by
              obtain ⟨y, hy, rfl⟩ := List.mem_map.1 hz
              exact hokX _ (List.mem_map.2 ⟨y, List.mem_of_mem_take hy, rfl⟩)
            refine ⟨hm, ?_, fun i o ho => ?_⟩
            case refine_2 =>
              obtain ⟨x, hxm, rfl⟩ := hall i (Array.getElem?_eq_some_iff.1 ho).1
              have h9 := hx1 x hxm
              unfold compOp at h9
              rw [ho] at h9
              simp only at h9
              cases e9 : comp P W o with
              | none => simp [e9] at h9
              | some j => exact ⟨j, rfl⟩
            have htl : TL Γ ((i1.take k).map (·.2)) (fun S => TL Γ ((i1.drop k).map (·.2)) (Clo KS) S ∧ TL Γ ((i2.drop k).map (·.2)) (Clo KS) S) S := by
              refine TL_mono (fun S' hS' => ?_) hokP (TL_of_vD hokP h)
              obtain ⟨S0, e, h1, h2⟩ := hS'
              exact ⟨TL_closed (Clo.closed KS) hok1 _ _ e (TL_of_vD hok1 h1), TL_closed (Clo.closed KS) hok2 _ _ e (TL_of_vD hok2 h2)⟩
            refine anyB_sound (a0 := a0) (b0 := b0) hE hN hG hC hΓ hK ops.size (i1.take k) (i1.drop k) (i2.drop k) _ ρ H S a _ (by rw [List.take_append_drop]; exact hlen) ⟨by simp, fun i hi => ?_, fun b hb => ?_⟩ (by rw [List.take_append_drop]; exact pairsOkB_pw hp1) (pairsOkB_pw hp2) hmem (fun x hxm => by rw [List.take_append_drop] at hxm; exact ⟨hit x hxm, hlt x hxm, hx1 x hxm⟩) ha hb (fun x hx => by
              rcases hcl x hx with (((h | h) | h) | h) | h
              · exact .inl h
              · exact .inr (.inl h)
              · exact .inr (.inr (.inl h))
              · exact .inr (.inr (.inr (.inl h)))
              · exact .inr (.inr (.inr (.inr h)))) htl (s.drew _)
            · have : (Array.replicate ops.size false).getD i true = false := by simp [Array.getD, hi]
              exact ⟨fun _ => by rw [List.take_append_drop]; exact hall i hi, fun _ => this⟩
            · exfalso
              by_cases hbs : b < ops.size
              · simp [Array.getD, hbs] at hb
              · simp [Array.getD, hbs] at hb
          · cases hc
        · cases hc
      · cases hc
    · cases hc
  · cases hc
theorem rgnB_sound {et : Option TypeId} (hE : Errs2 P et E) {c : Ctx} {W : Opts} (hN : W.N = c.N) (hG : W.gl = c.G) (hC : ErrC E c ∧ W.et = et) {Γ : Tab} (hΓ : AllValid P E c.G Γ) {id : Nat} {ops : Array Oper} {Q : Exit → Act → World → Prop} {KS : SSt → Prop} (hK : ∀ S', KS S' → Left P E c S' (Q .normal))
    {fz : List Opd} {l l1 l2 : List (Bool × GOp)} (hc : compRgnB P W ops = some (fz, l, l1, l2)) {ρ : Nat → Value} {H : FH} {S : SSt} {a : Act} {w : World} (s : Sat P E c ρ H S a w) (h : vD Γ l (fun S => vD Γ l1 KS S ∧ vD Γ l2 KS S) S) : (Code.region id ops true).wp P Q a w :=
  (fun h => wp_region_any h.1 h.2.1) (rgnB_any hE hN hG hC hΓ hK hc s h)
end
end Go.Fw
