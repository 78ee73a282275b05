/- The frame-work, part Ub: code. -/
import Derived.Control
import Derived.Scope
import Derived.Test.YtnpjmmimlhgipaaDoorFwUd
namespace Go.Fw
set_option linter.unusedVariables false
set_option linter.unusedSimpArgs false
open Go

inductive IC where
  | skip
  | ops (l : List GOp)
  | rgn (fz : List Opd) (l : List (Bool × GOp))
  | seq (a b : IC)
  | cond (c : Opd) (t e : IC)
  | block (id : Nat) (b : IC)
  | loop (b : IC)
  | exit (id : Nat)
  | ret
  | tr (lv : List Nat)
  | frp (xs : List (Nat × TypeId × Ty))
  deriving Inhabited

/-- Only these slots are told from now on. -/
def Fr.trim (f : Fr) : List Nat → Fr
  | [] => []
  | i :: r => (i, fget f i) :: Fr.trim f r
def SSt.trim (S : SSt) (lv : List Nat) : SSt := { f := Fr.trim S.f lv, h := S.h, nx := S.nx }
theorem trim_get {f : Fr} : ∀ {lv : List Nat} {i : Nat}, fget (Fr.trim f lv) i = fget f i ∨ fget (Fr.trim f lv) i = .any
  | [], i => .inr rfl
  | j :: r, i => by
    simp only [Fr.trim, fget]
    split
    · rename_i e; subst e; exact .inl rfl
    · exact trim_get

/-- Which slots are looked at later: what nobody looks at is told no longer. -/
def un (a b : List Nat) : List Nat := a.foldr (fun x l => if l.contains x then l else x :: l) b
def liveOps : List GOp → List Nat → List Nat
  | [], L => L
  | .u i :: r, L => un i.looks (match i.dst with | some d => (liveOps r L).filter (fun x => !(x == d)) | none => liveOps r L)
  | .g t _ d i :: r, L => un (t :: i.looks) (match d with | some d => (liveOps r L).filter (fun x => !(x == d)) | none => liveOps r L)
def usesIC : IC → List Nat
  | .frp xs => xs.map (·.1)
  | .ops l => l.foldr (fun g L => un g.looks L) []
  | .rgn fz l => un (slots fz) (l.foldr (fun g L => un g.2.looks L) [])
  | .seq a b => un (usesIC a) (usesIC b)
  | .cond c t e => un c.sl (un (usesIC t) (usesIC e))
  | .block _ b => usesIC b
  | .loop b => usesIC b
  | _ => []
def trimIC (R : List Nat) : IC → List Nat → List Nat → IC × List Nat
  | .skip, L, _ => (.skip, L)
  | .ops l, L, _ => (.seq (.ops l) (.tr L), liveOps l L)
  | .rgn fz l, L, _ => (.seq (.rgn fz l) (.tr L), un (slots fz) (liveOps (l.map (·.2)) L))
  | .seq a b, L, X => (.seq (trimIC R a (trimIC R b L X).2 X).1 (trimIC R b L X).1, (trimIC R a (trimIC R b L X).2 X).2)
  | .cond c t e, L, X => (.cond c (trimIC R t L X).1 (trimIC R e L X).1, un c.sl (un (trimIC R t L X).2 (trimIC R e L X).2))
  | .block id b, L, X => (.block id (trimIC R b L (un L X)).1, (trimIC R b L (un L X)).2)
  | .loop b, _, X => (.loop (trimIC R b (trimIC R b [] X).2 X).1, (trimIC R b [] X).2)
  | .exit id, _, X => (.exit id, X)
  | .ret, _, _ => (.ret, R)
  | .tr lv, L, _ => (.tr lv, L)
  | .frp xs, L, _ => (.frp xs, un (xs.map (·.1)) L)

/-- Slices that are nil become slices of the function's own, of nothing. -/
inductive NilTo : SSt → SSt → Prop
  | refl (S : SSt) : NilTo S S
  | slot {S S' : SSt} (d : Nat) (eid : TypeId) (e : Ty) (h : fget S.f d = .nils) (h' : NilTo { f := (d, .vec S.nx) :: S.f, h := (S.nx, .arr eid e []) :: S.h, nx := S.nx + 1 } S') : NilTo S S'
  | tup {S S' : SSt} (d i : Nat) (eid : TypeId) (e : Ty) {l : List SV} (h : fget S.f d = .tup l) (hi : l[i]? = some .nils) (h' : NilTo { f := (d, .tup (l.set i (.vec S.nx))) :: S.f, h := (S.nx, .arr eid e []) :: S.h, nx := S.nx + 1 } S') : NilTo S S'
  | agg {S S' : SSt} (d k : Nat) (eid : TypeId) (e : Ty) {l l' : List SV} (h : fget S.f d = .agg l) (hi : cellAt l k = some .nils) (hs : setCellAt l k (.vec S.nx) = some l') (h' : NilTo { f := (d, .agg l') :: S.f, h := (S.nx, .arr eid e []) :: S.h, nx := S.nx + 1 } S') : NilTo S S'
  | cell {S S' : SSt} (m k : Nat) (eid : TypeId) (e : Ty) {l l' : List SV} (h : hget S.h m = some (.cells l)) (hi : cellAt l k = some .nils) (hs : setCellAt l k (.vec S.nx) = some l') (h' : NilTo { f := S.f, h := (S.nx, .arr eid e []) :: hset S.h m (.cells l'), nx := S.nx + 1 } S') : NilTo S S'
  | frz {S S' : SSt} (n : Nat) (h' : NilTo (frz1 n S) S') : NilTo S S'


def Leq0 (nb : Nat) (S S' : SSt) : Prop := ∃ π : Nat → Nat, (∀ i, (fget S'.f i).ren π = fget S.f i ∨ fget S'.f i = .any) ∧ (∀ n t, hget S'.h n = some t → hget S.h (π n) = some (t.ren π)) ∧
  (∀ n m t u, hget S'.h n = some t → hget S'.h m = some u → n ≠ m → π n ≠ π m) ∧ (∀ n, n < nb → π n = n) ∧ (∀ i, (fget S'.f i).lt S'.nx) ∧ (∀ n t, hget S'.h n = some t → n < S'.nx ∧ t.lt S'.nx) ∧ nb ≤ S'.nx

def Leq (nb : Nat) (S S' : SSt) : Prop := ∃ S0, NilTo S S0 ∧ Leq0 nb S0 S'
theorem Leq0.leq {nb : Nat} {S S' : SSt} (h : Leq0 nb S S') : Leq nb S S' := ⟨S, .refl S, h⟩

def LoopVC (nb : Nat) (B : (Ex → SSt → Prop) → SSt → Prop) (Q : Ex → SSt → Prop) (S : SSt) : Prop :=
  ∃ (α : Type) (I : α → SSt) (μ : α → Nat) (a0 : α), Leq nb S (I a0) ∧ ∀ a, B (fun ex S' => match ex with
    | .nrm => ∃ a', μ a' < μ a ∧ Leq nb S' (I a')
    | ex => Q ex S') (I a)

/-- Cells of the function's own that no longer change. -/
def frpL : List (Nat × TypeId × Ty) → SSt → SSt
  | [], S => S
  | (k, eid, t) :: r, S => frpL r (preP (.ptr eid) t (fget S.f k) S)
def vc (Γ : FuncId → FSpec) (nb : Nat) : IC → (Ex → SSt → Prop) → SSt → Prop
  | .skip, Q, S => Q .nrm S
  | .ops l, Q, S => vOps Γ l (Q .nrm) S
  | .rgn fz l, Q, S => vD Γ l (Q .nrm) (frzL (ogets fz S.f) S)
  | .seq a b, Q, S => vc Γ nb a (fun ex S' => match ex with
    | .nrm => vc Γ nb b Q S'
    | ex => Q ex S') S
  | .cond c t e, Q, S => match oget c S.f with
    | .bool b => (b = true → vc Γ nb t Q S) ∧ (b = false → vc Γ nb e Q S)
    | _ => False
  | .block id b, Q, S => vc Γ nb b (fun ex S' => match ex with
    | .ext j => if j = id then Q .nrm S' else Q (.ext j) S'
    | ex => Q ex S') S
  | .loop b, Q, S => LoopVC nb (vc Γ nb b) Q S
  | .exit id, Q, S => Q (.ext id) S
  | .ret, Q, S => Q .ret S
  | .tr lv, Q, S => Q .nrm (S.trim lv)
  | .frp xs, Q, S => Q .nrm (frpL xs S)

def fpOf (P : Program) (W : Opts) (l : List (Bool × GOp)) : List (Nat × TypeId × Ty) := (W.fp.filter fun p => l.any fun y => y.2.looks.contains p.1).map fun p => (p.1, p.2, tyOf P 8 p.2)
def compC (P : Program) (W : Opts) : Code → Option IC
  | .skip => some .skip
  | .region _ ops false => (compOps P W ops ops.toList).map .ops
  | .region _ ops true => match compRgn P W ops with
    | some (fz, l) => match fpOf P W l with
      | [] => some (.rgn fz l)
      | xs => some (.seq (.frp xs) (.rgn fz l))
    | none => none
  | .seq a b => match compC P W a, compC P W b with
    | some x, some y => some (.seq x y)
    | _, _ => none
  | .cond c t e => match cOpd c, compC P W t, compC P W e with
    | some c', some x, some y => some (.cond c' x y)
    | _, _, _ => none
  | .block id b => (compC P W b).map (.block id)
  | .loop b => (compC P W b).map .loop
  | .exit id => some (.exit id)
  | .ret => some .ret
  | .scope c => compC P W c
  | .label _ => some .skip
  | _ => none

section
variable {P : Program} {E : Nat → Value}

theorem Leq0.sat {c : Ctx} {S S' : SSt} (h : Leq0 c.nb S S') {ρ : Nat → Value} {H : FH} {a : Act} {w : World} (s : Sat P E c ρ H S a w) : ∃ ρ', Sat P E c ρ' H S' a w := by
  obtain ⟨π, h1, h2, h3, h4, h5, h6, h7⟩ := h
  exact ⟨_, s.weaken ⟨h1, h2, h3, h4, h5, h6, h7⟩⟩
/-- A slot told in other words. -/
theorem Sat.retell {c : Ctx} {ρ : Nat → Value} {H : FH} {S : SSt} {a : Act} {w : World} (s : Sat P E c ρ H S a w) {d : Nat} {x : SV} (hx : Den P E ρ H x (a.tmps.getD d undef)) (hl : x.lt S.nx) : Sat P E c ρ H { f := (d, x) :: S.f, h := S.h, nx := S.nx } a w := by
  refine ⟨fun i => ?_, s.sz, s.df, s.hs, s.hin, s.kept, s.ownb, fun i => ?_, s.hlt, s.olt, s.nbx, s.sep, s.glob, s.rho, s.hle⟩
  · simp only [fget_cons]
    split
    · rename_i e; subst e; exact hx
    · exact s.fr i
  · simp only [fget_cons]
    split
    · exact hl
    · exact s.flt i
theorem Sat.nilTok {c : Ctx} {ρ : Nat → Value} {H : FH} {S : SSt} {a : Act} {w : World} (s : Sat P E c ρ H S a w) (eid : TypeId) (e : Ty) : Sat P E c (upd ρ S.nx (.slice none 0 0)) H { f := S.f, h := (S.nx, .arr eid e []) :: S.h, nx := S.nx + 1 } a w := by
  refine s.grow (Nat.le_refl _) (Nat.lt_succ_self _) _ _ (Kept.refl w _) ⟨fun h => absurd rfl h, [], ⟨by simp, .inl ⟨⟨none, ?_⟩, rfl⟩⟩, .nil, ?_⟩ (fun b hb => by rw [blk_none] at hb; cases hb) trivial
  · rw [upd_same]
  · rw [upd_same]; intro b hb; rw [blk_none] at hb; cases hb
theorem denV_set {ρ : Nat → Value} {H : FH} {y : SV} : ∀ {l : List SV} {vs : List Value} {i : Nat} {x : SV}, DenV P E ρ H l vs → l[i]? = some x → (∀ v, Den P E ρ H x v → Den P E ρ H y v) → DenV P E ρ H (l.set i y) vs
  | [], _, _, _, _, h, _ => by simp at h
  | x :: l, _, 0, _, .cons h1 h2, h, hy => by simp at h; subst h; exact .cons (hy _ h1) h2
  | x :: l, _, i + 1, _, .cons h1 h2, h, hy => by rw [List.set_cons_succ]; exact .cons h1 (denV_set h2 (by simpa using h) hy)
theorem ltL_set {nx : Nat} {y : SV} (hy : y.lt nx) : ∀ {l : List SV} {i : Nat}, SV.ltL nx l → SV.ltL nx (l.set i y)
  | [], _, h => h
  | x :: l, 0, h => ⟨hy, h.2⟩
  | x :: l, i + 1, h => by rw [List.set_cons_succ]; exact ⟨h.1, ltL_set hy h.2⟩
theorem denC_nil {ρ : Nat → Value} {H : FH} {l l' : List SV} {cs : List Value} {k n : Nat} (hd : DenC P E ρ H l cs) (h : cellAt l k = some .nils) (hs : setCellAt l k (.vec n) = some l') (hn : ρ n = .slice none 0 0) : DenC P E ρ H l' cs := by
  obtain ⟨v, h1, h2, h3⟩ := cellAt_den hd h
  cases h2
  have hv : Den P E ρ H (.vec n) (.slice none 0 0) := by
    have := Den.vec (P := P) (E := E) (ρ := ρ) (H := H) (n := n) (by rw [hn]; rfl)
    rwa [hn] at this
  obtain ⟨h4, h5⟩ := setCellAt_den hv rfl hd hs
  have e : cs.take k ++ [.slice none 0 0] ++ cs.drop (k + 1) = cs := by
    have h6 : cs[k] = .slice none 0 0 := by rw [List.getElem?_eq_getElem h4] at h1; exact Option.some.inj h1
    rw [← h6, List.append_assoc, List.singleton_append, ← List.drop_eq_getElem_cons h4, List.take_append_drop]
  rwa [e] at h5
theorem NilTo.sat {c : Ctx} {S S' : SSt} (h : NilTo S S') {a : Act} {w : World} : ∀ {ρ : Nat → Value} {H : FH}, Sat P E c ρ H S a w → ∃ ρ' H', Sat P E c ρ' H' S' a w := by
  induction h with
  | refl S => intro ρ H s; exact ⟨ρ, H, s⟩
  | frz n h' ih =>
    intro ρ H s
    obtain ⟨H1, _, s1⟩ := s.frz1 n
    exact ih s1
  | @slot S S' d eid e h h' ih =>
    intro ρ H s
    have s1 := s.nilTok eid e
    have h1 := s1.fr d
    rw [show fget _ d = SV.nils from h] at h1
    refine ih (s1.retell (d := d) (x := .vec S.nx) ?_ (Nat.lt_succ_self _))
    generalize a.tmps.getD d undef = v at h1
    cases h1
    have := Den.vec (P := P) (E := E) (ρ := upd ρ S.nx (.slice none 0 0)) (H := H) (n := S.nx) (by rw [upd_same]; rfl)
    rwa [upd_same] at this
  | @tup S S' d i eid e l h hi h' ih =>
    intro ρ H s
    have s1 := s.nilTok eid e
    have h1 := s1.fr d
    have hl1 := s1.flt d
    rw [show fget _ d = SV.tup l from h] at h1 hl1
    refine ih (s1.retell (d := d) (x := .tup (l.set i (.vec S.nx))) ?_ (ltL_set (l := l) (Nat.lt_succ_self _) hl1))
    generalize a.tmps.getD d undef = v at h1
    cases h1 with | tup h2 =>
    refine .tup (denV_set h2 hi fun v hv => ?_)
    cases hv
    have := Den.vec (P := P) (E := E) (ρ := upd ρ S.nx (.slice none 0 0)) (H := H) (n := S.nx) (by rw [upd_same]; rfl)
    rwa [upd_same] at this
  | @agg S S' d k eid e l l' h hi hs h' ih =>
    intro ρ H s
    have s1 := s.nilTok eid e
    have h1 := s1.fr d
    have hl1 := s1.flt d
    rw [show fget _ d = SV.agg l from h] at h1 hl1
    refine ih (s1.retell (d := d) (x := .agg l') ?_ (setCellAt_lt (Nat.lt_succ_self _) (l := l) hl1 hs))
    generalize a.tmps.getD d undef = v at h1
    cases h1 with | agg h2 => exact .agg (denC_nil h2 hi hs (upd_same _ _ _))
  | @cell S S' m k eid e l l' h hi hs h' ih =>
    intro ρ H s
    have s1 := s.nilTok eid e
    have hm : hget ((S.nx, Tok.arr eid e []) :: S.h) m = some (.cells l) := by
      have := (s.tok h).2.1
      simp only [hget]; rw [if_neg (by omega)]; exact h
    obtain ⟨⟨b, t, cs, h1, h2, h3, h4⟩, h5, h6⟩ := s1.tok hm
    have := s1.change hm (.cells l') (Kept.refl w _) ⟨b, t, cs, h1, h2, denC_nil h3 hi hs (upd_same _ _ _), h4⟩ (setCellAt_lt (Nat.lt_succ_self _) (l := l) h6 hs)
    simp only [hset] at this
    rw [if_neg (by have := (s.tok h).2.1; omega)] at this
    exact ih this
theorem Leq.sat {c : Ctx} {S S' : SSt} (h : Leq c.nb S S') {ρ : Nat → Value} {H : FH} {a : Act} {w : World} (s : Sat P E c ρ H S a w) : ∃ ρ' H', Sat P E c ρ' H' S' a w := by
  obtain ⟨S0, h0, h1⟩ := h
  obtain ⟨ρ1, H1, s1⟩ := h0.sat s
  obtain ⟨ρ2, s2⟩ := h1.sat s1
  exact ⟨ρ2, H1, s2⟩

theorem least (p : Nat → Prop) (h : ∃ n, p n) : ∃ n, p n ∧ ∀ m, p m → n ≤ m := by
  obtain ⟨n, hn⟩ := h
  induction n using Nat.strongRecOn with
  | _ n ih =>
    by_cases hm : ∃ m, m < n ∧ p m
    · obtain ⟨m, h1, h2⟩ := hm
      exact ih m h1 h2
    · exact ⟨n, hn, fun m hp => Nat.le_of_not_lt fun hlt => hm ⟨m, hlt, hp⟩⟩

theorem Sat.trim {c : Ctx} {ρ : Nat → Value} {H : FH} {S : SSt} {a : Act} {w : World} (s : Sat P E c ρ H S a w) {lv : List Nat} : Sat P E c ρ H (S.trim lv) a w := by
  refine ⟨fun i => ?_, s.sz, s.df, s.hs, s.hin, s.kept, s.ownb, fun i => ?_, s.hlt, s.olt, s.nbx, s.sep, s.glob, s.rho, s.hle⟩
  · simp only [SSt.trim]
    rcases trim_get (f := S.f) (lv := lv) (i := i) with h | h
    · rw [h]; exact s.fr i
    · rw [h]; exact .any
  · simp only [SSt.trim]
    rcases trim_get (f := S.f) (lv := lv) (i := i) with h | h
    · rw [h]; exact s.flt i
    · rw [h]; exact trivial

theorem Sat.preP {c : Ctx} {ρ : Nat → Value} {H : FH} {S : SSt} {a : Act} {w : World} (s : Sat P E c ρ H S a w) (eid : TypeId) (v : SV) : ∃ H', Sat P E c ρ H' (Fw.preP (.ptr eid) (tyOf P 8 eid) v S) a w := by
  unfold Fw.preP
  split
  · rename_i n
    unfold prePt
    split
    · rename_i l hl
      unfold prePd
      split
      · rename_i dd htd
        obtain ⟨H', _, h2, _⟩ := s.frzCells (eid := eid) hl htd
        exact ⟨H', h2⟩
      · exact ⟨H, s⟩
    · exact ⟨H, s⟩
  · exact ⟨H, s⟩
theorem Sat.frpL {c : Ctx} {ρ : Nat → Value} : ∀ {xs : List (Nat × TypeId × Ty)} {H : FH} {S : SSt} {a : Act} {w : World}, (∀ x ∈ xs, x.2.2 = tyOf P 8 x.2.1) → Sat P E c ρ H S a w → ∃ H', Sat P E c ρ H' (frpL xs S) a w
  | [], H, S, a, w, _, s => ⟨H, s⟩
  | (k, eid, t) :: r, H, S, a, w, h, s => by
    have e := h (k, eid, t) (by simp)
    simp only at e
    subst e
    obtain ⟨H1, s1⟩ := s.preP eid (fget S.f k)
    have := Sat.frpL (S := Fw.preP (.ptr eid) (tyOf P 8 eid) (fget S.f k) S) (xs := r) (fun x hx => h x (by simp [hx])) s1
    exact this
theorem vc_sound {et : Option TypeId} (hE : Errs2 P et E) {c : Ctx} {W : Opts} (hN : W.N = c.N) (hG : W.gl = c.G) (hC : ErrC E c ∧ W.et = et) {Γ : FuncId → FSpec} (hΓ : AllValid P E c.G Γ) {R : List Nat} : ∀ {code : Code} {ic : IC} {L X : List Nat} {Q : Ex → SSt → Prop} {ρ : Nat → Value} {H : FH} {S : SSt} {a : Act} {w : World},
    compC P W code = some ic → vc Γ c.nb (trimIC R ic L X).1 Q S → Sat P E c ρ H S a w → code.wp P (SQ P E c Q) a w := by
  intro code
  induction code with
  | skip => intro ic L X Q ρ H S a w hc h s; simp only [compC] at hc; cases hc; simp only [trimIC] at h; exact wp_skip ⟨.nrm, S, ρ, H, rfl, h, s⟩
  | region id ops draw =>
    intro ic L X Q ρ H S a w hc h s
    cases draw with
    | true =>
      simp only [compC] at hc
      split at hc
      · rename_i fz l e
        have key : ∀ {ρ : Nat → Value} {H : FH} {S : SSt}, Sat P E c ρ H S a w → vD Γ l (fun S' => Q .nrm (S'.trim L)) (Fw.frzL (ogets fz S.f) S) → Code.wp P (.region id ops true) (SQ P E c Q) a w := by
          intro ρ H S s h
          obtain ⟨H', _, s'⟩ := s.frzL (l := ogets fz S.f)
          exact rgn_sound hE hN hG hC hΓ (fun S' h' ρ' H' a' w' s' => ⟨.nrm, S'.trim L, ρ', H', rfl, h', s'.trim⟩) e s' h
        split at hc
        · cases hc
          simp only [trimIC, vc] at h
          exact key s h
        · cases hc
          simp only [trimIC, vc] at h
          obtain ⟨H1, s1⟩ := s.frpL (xs := fpOf P W l) (fun x hx => by
            unfold fpOf at hx
            obtain ⟨p, _, rfl⟩ := List.mem_map.1 hx
            rfl)
          exact key s1 h
      · cases hc
    | false =>
      simp only [compC] at hc
      obtain ⟨l, hl, rfl⟩ := Option.map_eq_some_iff.1 hc
      simp only [trimIC, vc] at h
      exact wp_region_list (vOps_sound hE hN hG hC hΓ (fun S' h' ρ' H' a' w' s' => ⟨.nrm, S'.trim L, ρ', H', rfl, h', s'.trim⟩) hl s h)
  | seq x y ihx ihy =>
    intro ic L X Q ρ H S a w hc h s
    simp only [compC] at hc
    split at hc
    · rename_i x' y' e1 e2; cases hc
      simp only [trimIC, vc] at h
      refine wp_seq (Code.wp_mono ?_ (ihx e1 h s))
      rintro ex a' w' ⟨e, S', ρ', H', he, hq, s'⟩
      cases ex <;> simp only [exOf] at he <;> cases he
      · exact ihy e2 hq s'
      · exact ⟨_, S', ρ', H', rfl, hq, s'⟩
      · exact ⟨_, S', ρ', H', rfl, hq, s'⟩
    · cases hc
  | cond cc x y ihx ihy =>
    intro ic L X Q ρ H S a w hc h s
    simp only [compC] at hc
    split at hc
    · rename_i c' x' y' e1 e2 e3; cases hc
      simp only [trimIC, vc] at h
      split at h
      · rename_i b hb
        have sc := (s.opd e1).1
        rw [hb] at sc
        generalize hv : a.eval cc = v at sc
        cases sc
        exact wp_cond_split hv (fun e => ihx e2 (h.1 e) s) (fun e => ihy e3 (h.2 e) s)
      · exact h.elim
    · cases hc
  | block id b ih =>
    intro ic L X Q ρ H S a w hc h s
    simp only [compC] at hc
    obtain ⟨b', hb, rfl⟩ := Option.map_eq_some_iff.1 hc
    simp only [trimIC, vc] at h
    refine wp_block (Code.wp_mono ?_ (ih hb h s))
    rintro ex a' w' ⟨e, S', ρ', H', he, hq, s'⟩
    cases ex <;> simp only [exOf] at he <;> cases he
    · exact ⟨_, S', ρ', H', rfl, hq, s'⟩
    · rename_i j
      simp only [Exit.inBlock]
      simp only at hq
      split at hq
      · rename_i e; rw [if_pos e]; exact ⟨_, S', ρ', H', rfl, hq, s'⟩
      · rename_i e; rw [if_neg e]; exact ⟨_, S', ρ', H', rfl, hq, s'⟩
    · exact ⟨_, S', ρ', H', rfl, hq, s'⟩
  | loop b ih =>
    intro ic L X Q ρ H S a w hc h s
    simp only [compC] at hc
    obtain ⟨b', hb, rfl⟩ := Option.map_eq_some_iff.1 hc
    simp only [trimIC, vc] at h
    obtain ⟨α, I, μ, a0, h0, hr⟩ := h
    obtain ⟨ρ0, H0, s0⟩ := h0.sat s
    classical
    have hm : ∀ a w, ∃ m, (∃ x ρ H, Sat P E c ρ H (I x) a w) → (∃ x ρ H, Sat P E c ρ H (I x) a w ∧ μ x = m) ∧ ∀ x ρ H, Sat P E c ρ H (I x) a w → m ≤ μ x := by
      intro a w
      by_cases hx : ∃ n x ρ H, Sat P E c ρ H (I x) a w ∧ μ x = n
      · obtain ⟨m, h1, h2⟩ := least _ hx
        exact ⟨m, fun _ => ⟨h1, fun x ρ H hs => h2 _ ⟨x, ρ, H, hs, rfl⟩⟩⟩
      · exact ⟨0, fun ⟨x, ρ, H, hs⟩ => absurd ⟨_, x, ρ, H, hs, rfl⟩ hx⟩
    refine wp_loop (fun a w => ∃ x ρ H, Sat P E c ρ H (I x) a w) (fun a w => Classical.choose (hm a w)) ⟨a0, ρ0, H0, s0⟩ ?_
    intro a w hx
    obtain ⟨⟨x, ρx, Hx, hs, hmx⟩, hle⟩ := Classical.choose_spec (hm a w) hx
    refine Code.wp_mono ?_ (ih hb (hr x) hs)
    rintro ex a' w' ⟨e, S', ρ', H', he, hq, s'⟩
    cases ex <;> simp only [exOf] at he <;> cases he
    · obtain ⟨x', hlt, hleq⟩ := hq
      obtain ⟨ρ'', H'', s''⟩ := hleq.sat s'
      have hx' : ∃ x ρ H, Sat P E c ρ H (I x) a' w' := ⟨x', ρ'', H'', s''⟩
      refine ⟨hx', ?_⟩
      have := (Classical.choose_spec (hm a' w') hx').2 x' ρ'' H'' s''
      show Classical.choose (hm a' w') < Classical.choose (hm a w)
      omega
    · exact ⟨_, S', ρ', H', rfl, hq, s'⟩
    · exact ⟨_, S', ρ', H', rfl, hq, s'⟩
  | exit id => intro ic L X Q ρ H S a w hc h s; simp only [compC] at hc; cases hc; exact wp_exit ⟨_, S, ρ, H, rfl, h, s⟩
  | ret => intro ic L X Q ρ H S a w hc h s; simp only [compC] at hc; cases hc; exact wp_ret ⟨_, S, ρ, H, rfl, h, s⟩
  | rangeFunc => intro ic L X Q ρ H S a w hc h s; simp [compC] at hc
  | scope b ih =>
    intro ic L X Q ρ H S a w hc h s
    simp only [compC] at hc
    refine wp_scope_straight (Code.wp_mono ?_ (ih hc h s))
    rintro ex a' w' ⟨e, S', ρ', H', he, hq, s'⟩
    cases ex <;> simp only [exOf] at he <;> cases he
    · exact ⟨_, S', ρ', H', rfl, hq, s'⟩
    · exact ⟨_, S', ρ', H', rfl, hq, s'⟩
    · exact ⟨_, S', ρ', H', rfl, hq, s'⟩
  | label => intro ic L X Q ρ H S a w hc h s; simp only [compC] at hc; cases hc; simp only [trimIC] at h; exact wp_label ⟨.nrm, S, ρ, H, rfl, h, s⟩
  | goto => intro ic L X Q ρ H S a w hc h s; simp [compC] at hc
  | refuse => intro ic L X Q ρ H S a w hc h s; simp [compC] at hc
end
end Go.Fw
