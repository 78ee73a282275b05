import Derived.OrdersIn
import Derived.TacticsIn
import Derived.Test.YtmjenjccinfbaaaDoorFwUf
import Derived.Control
import Derived.Scope
import Derived.RangeFuncIn
/- The frame-work, part Ue: what is carried out in a round of a loop over a function. -/
namespace Go.Fw
set_option linter.unusedVariables false
set_option linter.unusedSimpArgs false
open Go

section
variable {P : Program} {E : Nat → Value}

set_option maxHeartbeats 1000000 in
theorem comp_noDefer {W : Opts} {o : Oper} {i : IOp} (h : comp P W o = some i) : ∀ c, o.op ≠ .defer c := by
  intro c e
  unfold comp at h
  split at h
  all_goals first
    | (rename_i ho _; rw [e] at ho; cases ho; done)
    | (rename_i ho; rw [e] at ho; cases ho; done)
    | (cases h; done)

theorem oper_in {o : Oper} {a : Act} {w : World} {K : Act → World → Prop} {Q : Exit → Act → World → Prop} (l n : Nat) (hd : ∀ c, o.op ≠ .defer c) (h : o.wp P a w K Q) : o.wpIn (Fence.wide.inRound l) n P a w K Q := by
  unfold Oper.wpIn
  refine ⟨fun _ _ => trivial, ?_⟩
  have e : Oper.semAt (Fence.wide.inRound l).round a.eval o = execOp a.eval o := Oper.semAt_some l a.eval o hd
  rw [e]
  unfold Oper.wp at h
  generalize (execOp a.eval o).run P w = r at h ⊢
  unfold Oper.upon at h
  split at h
  · exact h
  · exact h
  · exact h
  · exact ⟨fun hh => (by cases hh), callsIn_wide.2 h⟩
  · exact ⟨fun hh => (by cases hh), fun c cs _ => (by obtain ⟨v, w', h1, h2⟩ := h c cs; exact ⟨v, w', h1, stepsIn_wide.2 h2⟩)⟩
  · exact h
  · exact h.elim

theorem list_in {ops : Array Oper} {Q : Exit → Act → World → Prop} (k n : Nat) (hQ : ¬ LetsOut Q) : ∀ (l : List Oper) (a : Act) (w : World), (∀ o ∈ l, ∀ c, o.op ≠ .defer c) → wpList P ops Q l a w → wpListIn (Fence.wide.inRound k) n P ops Q l a w := by
  intro l
  induction l with
  | nil => intro a w _ h; exact h
  | cons o l ih =>
    intro a w hd h
    simp only [wpList] at h
    simp only [wpListIn]
    split
    · rename_i hw
      rw [if_pos hw] at h
      rcases h with h | ⟨_, h⟩
      · exact oper_in k n (hd o (by simp)) (Oper.wp_mono (fun a w h => ih a w (fun o ho => hd o (by simp [ho])) h) h)
      · exact absurd h hQ
    · rename_i hw
      rw [if_neg hw] at h
      exact ⟨fun _ _ => trivial, ih _ _ (fun o ho => hd o (by simp [ho])) h⟩

theorem any_in {md : Region.Mode} {ops : Array Oper} {Q : Exit → Act → World → Prop} (k n : Nat) (hQ : ¬ LetsOut Q) (hd : ∀ (i : Nat) (o : Oper), ops[i]? = some o → ∀ c, o.op ≠ .defer c) : ∀ (f : Nat) (listed : Array Bool) (a : Act) (w : World), wpAny P md ops Q f listed a w → wpAnyIn (Fence.wide.inRound k) n P md ops Q f listed a w := by
  intro f
  induction f with
  | zero => intro listed a w h; exact h
  | succ f ih =>
    intro listed a w h
    refine ⟨h.1, fun i hi => ?_⟩
    have h2 := h.2 i hi
    unfold wpOp at h2
    unfold wpOpIn
    split
    · rename_i e; rw [e] at h2; exact ih _ _ _ h2
    · rename_i o e
      rw [e] at h2
      simp only at h2
      split
      · rename_i hw
        rw [if_pos hw] at h2
        rcases h2 with h2 | ⟨_, h2⟩
        · exact oper_in k n (hd i o e) (Oper.wp_mono (fun a w h => ih _ a w h) h2)
        · exact absurd h2 hQ
      · rename_i hw
        rw [if_neg hw] at h2
        exact ⟨fun _ _ => trivial, ih _ _ _ h2⟩

/-! ### Names moved up -/
def shN (k : Nat) : Nat → Nat := fun n => k + n
def shH (k : Nat) : Heap → Heap
  | [] => []
  | (n, t) :: r => (k + n, t.ren (shN k)) :: shH k r
theorem shH_nil (k : Nat) : shH k [] = [] := rfl
theorem shH_cons (k n : Nat) (t : Tok) (r : Heap) : shH k ((n, t) :: r) = (k + n, t.ren (shN k)) :: shH k r := rfl
theorem shN_def (k n : Nat) : shN k n = k + n := rfl
def zipF : List Nat → List SV → Fr → Fr
  | p :: ps, x :: xs, f => (p, x) :: zipF ps xs f
  | _, _, f => f
theorem zipF_cons (p : Nat) (ps : List Nat) (x : SV) (xs : List SV) (f : Fr) : zipF (p :: ps) (x :: xs) f = (p, x) :: zipF ps xs f := rfl
theorem zipF_nil (xs : List SV) (f : Fr) : zipF [] xs f = f := rfl

mutual
theorem Den.rn {ρ ρ' : Nat → Value} {H : FH} {π : Nat → Nat} (hρ : ∀ n, ρ' (π n) = ρ n) : ∀ {x : SV} {v}, Den P E ρ H x v → Den P E ρ' H (x.ren π) v
  | _, _, .int h => by simp only [SV.ren]; exact .int h
  | _, _, .bool => by simp only [SV.ren]; exact .bool
  | _, _, .str h => by simp only [SV.ren]; exact .str h
  | _, _, .dat hs h => by simp only [SV.ren]; exact .dat hs h
  | _, _, .elt hs hm h => by simp only [SV.ren]; exact .elt hs hm h
  | _, _, .ptr h => by simp only [SV.ren]; exact .ptr ((hρ _).trans h)
  | .vec n, _, .vec h => by simp only [SV.ren]; rw [← hρ n] at h ⊢; exact .vec h
  | _, _, .eltv h => by simp only [SV.ren]; exact .eltv ((hρ _).trans h)
  | _, _, .eltc h => by simp only [SV.ren]; exact .eltc ((hρ _).trans h)
  | _, _, .agg h => by simp only [SV.ren]; exact .agg (DenC.rn hρ h)
  | _, _, .tup h => by simp only [SV.ren]; exact .tup (DenV.rn hρ h)
  | _, _, .clo h => by simp only [SV.ren]; exact .clo (DenV.rn hρ h)
  | _, _, .nils => by simp only [SV.ren]; exact .nils
  | _, _, .ifc h => by simp only [SV.ren]; exact .ifc (Den.rn hρ h)
  | _, _, .raw h => by simp only [SV.ren]; exact .raw h
  | _, _, .any => by simp only [SV.ren]; exact .any
theorem DenC.rn {ρ ρ' : Nat → Value} {H : FH} {π : Nat → Nat} (hρ : ∀ n, ρ' (π n) = ρ n) : ∀ {l : List SV} {cs}, DenC P E ρ H l cs → DenC P E ρ' H (SV.renL π l) cs
  | _, _, .nil => by simp only [SV.renL]; exact .nil
  | _, _, .one h h1 h' => by simp only [SV.renL]; exact .one (Den.rn hρ h) h1 (DenC.rn hρ h')
  | _, _, .arrc h h' => by simp only [SV.renL, SV.ren]; exact .arrc h (DenC.rn hρ h')
theorem DenV.rn {ρ ρ' : Nat → Value} {H : FH} {π : Nat → Nat} (hρ : ∀ n, ρ' (π n) = ρ n) : ∀ {l : List SV} {vs}, DenV P E ρ H l vs → DenV P E ρ' H (SV.renL π l) vs
  | _, _, .nil => by simp only [SV.renL]; exact .nil
  | _, _, .cons h h' => by simp only [SV.renL]; exact .cons (Den.rn hρ h) (DenV.rn hρ h')
end
theorem TokSat.rn {ρ ρ' : Nat → Value} {H : FH} {π : Nat → Nat} (hρ : ∀ n, ρ' (π n) = ρ n) {w : World} {n : Nat} {t : Tok} (h : TokSat P E ρ H w n t) : TokSat P E ρ' H w (π n) (t.ren π) := by
  cases t with
  | cells l =>
    obtain ⟨b, t, cs, h1, h2, h3, h4⟩ := h
    exact ⟨b, t, cs, (hρ n).trans h1, h2, DenC.rn hρ h3, h4⟩
  | arr eid e l =>
    obtain ⟨he, xs, h1, h2, h3⟩ := h
    rw [← hρ n] at h1 h3
    exact ⟨he, xs, h1, h2, h3⟩
  | map kt vt f =>
    obtain ⟨b, es, clock, k, h1, h2⟩ := h
    exact ⟨b, es, clock, k, (hρ n).trans h1, h2⟩
mutual
theorem SV.lt_rn {k m : Nat} : ∀ {x : SV}, x.lt m → (x.ren (shN k)).lt (k + m)
  | .ptr n _, h => by simp only [SV.ren]; have : n < m := h; show k + n < k + m; omega
  | .vec n, h => by simp only [SV.ren]; have : n < m := h; show k + n < k + m; omega
  | .eltv n _ _ _, h => by simp only [SV.ren]; have : n < m := h; show k + n < k + m; omega
  | .eltc n _ _ _, h => by simp only [SV.ren]; have : n < m := h; show k + n < k + m; omega
  | .agg l, h => by simp only [SV.ren]; exact SV.ltL_rn (l := l) h
  | .tup l, h => by simp only [SV.ren]; exact SV.ltL_rn (l := l) h
  | .clo _ l, h => by simp only [SV.ren]; exact SV.ltL_rn (l := l) h
  | .ifc _ x, h => by simp only [SV.ren]; exact SV.lt_rn (x := x) h
  | .int .., _ | .bool _, _ | .str _, _ | .dat .., _ | .elt .., _ | .arrc .., _ | .nils, _ | .raw _, _ | .any, _ => by simp only [SV.ren]; exact trivial
theorem SV.ltL_rn {k m : Nat} : ∀ {l : List SV}, SV.ltL m l → SV.ltL (k + m) (SV.renL (shN k) l)
  | [], _ => by simp only [SV.renL]; exact trivial
  | _ :: _, h => by simp only [SV.renL]; exact ⟨SV.lt_rn h.1, SV.ltL_rn h.2⟩
end
theorem Tok.lt_rn {k m : Nat} {t : Tok} (h : t.lt m) : (t.ren (shN k)).lt (k + m) := by
  cases t with
  | cells l => exact SV.ltL_rn (l := l) h
  | arr => exact trivial
  | map => exact trivial
theorem hget_shH {k : Nat} : ∀ {h : Heap} {n : Nat} {t : Tok}, hget (shH k h) n = some t → ∃ m u, n = k + m ∧ hget h m = some u ∧ t = u.ren (shN k)
  | [], _, _, h => by simp [shH, hget] at h
  | (m, u) :: r, n, t, h => by
    simp only [shH, hget] at h
    split at h
    · rename_i e; cases h; exact ⟨m, u, e.symm, by simp [hget], rfl⟩
    · rename_i e
      obtain ⟨m', u', h1, h2, h3⟩ := hget_shH h
      refine ⟨m', u', h1, ?_, h3⟩
      simp only [hget]
      rw [if_neg (fun e' => e (by rw [h1, e']))]
      exact h2

/-! ### States, told with other marks -/
/-- The world grows. -/
theorem Sat.grown {c : Ctx} {ρ : Nat → Value} {H : FH} {S : SSt} {a : Act} {w w' : World} (s : Sat P E c ρ H S a w) (hk : Grown w w') : Sat P E c ρ H S a w' :=
  s.next (Nat.le_refl _) (fun _ _ => rfl) (FH.le_refl H) (s.hin.keep fun b hb _ => hk.block b hb (fun h => h))
    ⟨fun n t h => tokSat_keep (s.hs.tok n t h) (s.hlt n t h).1 (s.hlt n t h).2 (fun _ _ => rfl) (FH.le_refl H) (fun b hb => hk.block b (tokSat_new (s.hs.tok n t h) b hb).1 (fun h => h)) (fun b hb => (tokSat_new (s.hs.tok n t h) b hb).2), s.hs.dis⟩
    ⟨hk.os, hk.tape, hk.output, hk.size, fun b hb _ => hk.block b hb (fun h => h)⟩ (fun n t b h hb => .inl ⟨n, t, h, hb⟩) s.hlt s.sep
/-- Other marks, another activation whose slots are told. -/
theorem Sat.re {c : Ctx} {ρ : Nat → Value} {H : FH} {S : SSt} {a a' : Act} {w : World} (s : Sat P E c ρ H S a w) {f0 : Fr} (hf : ∀ i, Den P E ρ H (fget f0 i) (a'.tmps.getD i undef)) (hl : ∀ i, (fget f0 i).lt S.nx) (hz : a'.tmps.size = c.N) {ds : List Nat} {ks : List (Nat × Obj)} (hd : DfOk { c with dfs := ds, ks := ks } a'.defers w) :
    Sat P E { c with dfs := ds, ks := ks } ρ H ⟨f0, S.h, S.nx⟩ a' w :=
  ⟨hf, hz, hd, s.hs, s.hin, s.kept, s.ownb, hl, s.hlt, s.olt, s.nbx, s.sep, s.glob, s.rho, s.hle⟩
/-- A block that no token has is another one: no cells, no map, both times. -/
theorem Sat.odd {c : Ctx} {ρ : Nat → Value} {H : FH} {S : SSt} {a : Act} {w : World} (s : Sat P E c ρ H S a w) {l : Nat} {o o' : Obj} (hl : w.heap[l]? = some o) (ho : oddO o = true) (hbase : c.w0.heap.size ≤ l) {ds : List Nat} {ks : List (Nat × Obj)} (hd : DfOk { c with dfs := ds, ks := ks } a.defers (w.putObj l o')) :
    Sat P E { c with dfs := ds, ks := ks } ρ H S a (w.putObj l o') := by
  have hne : ∀ b, b ≠ l → (w.putObj l o').heap[b]? = w.heap[b]? := fun b hb => World.putObj_heap_other hb
  have hH : ∀ o'', H l o'' = none := by
    intro o''
    cases hv : H l o'' with
    | none => rfl
    | some v =>
      have := s.hin l o'' v hv
      unfold World.cell? at this
      rw [hl] at this
      cases o <;> first | (cases ho; done) | (simp at this)
  have hown : ∀ n t b, hget (S.h ++ c.o) n = some t → blk (ρ n) = some b → b ≠ l := fun n t b h1 h2 e => by
    subst e
    have := tokSat_odd (s.hs.tok n t h1) h2 hl
    rw [ho] at this; cases this
  refine ⟨s.fr, s.sz, hd, ⟨fun n t h => tokSat_keep (s.hs.tok n t h) (s.hlt n t h).1 (s.hlt n t h).2 (fun _ _ => rfl) (FH.le_refl H) (fun b hb => hne b (hown n t b h hb)) (fun b hb => (tokSat_new (s.hs.tok n t h) b hb).2), s.hs.dis⟩, s.hin.keep fun b _ ⟨o, v, hv⟩ => hne b (fun e => by subst e; rw [hH] at hv; cases hv),
    ⟨s.kept.os, s.kept.tape, s.kept.output, by simpa using s.kept.size, fun b hb hn => (hne b (Nat.ne_of_lt (Nat.lt_of_lt_of_le (show b < c.w0.heap.size from hb) hbase))).trans (s.kept.block b hb hn)⟩, s.ownb, s.flt, s.hlt, s.olt, s.nbx, s.sep, s.glob, s.rho, s.hle⟩
end
end Go.Fw

/- The frame-work, part Ub: code. -/
namespace Go.Fw
set_option linter.unusedVariables false
set_option linter.unusedSimpArgs false
open Go

inductive IC where
  | skip
  | ops (l : List GOp)
  | rgn (fz : List Opd) (l : List (Bool × GOp))
  | rgb (fz : List Opd) (l l1 l2 : List (Bool × GOp))
  | seq (a b : IC)
  | cond (c : Opd) (t e : IC)
  | block (id : Nat) (b : IC)
  | loop (b : IC)
  | exit (id : Nat)
  | ret
  | tr (lv : List Nat)
  | frp (xs : List (Nat × TypeId × Ty))
  | rng (f : Opd) (ps : List Nat) (a b : IC)
  | die
  deriving Inhabited

/-- Only these slots are told from now on. -/
def Fr.trim (f : Fr) : List Nat → Fr
  | [] => []
  | i :: r => (i, fget f i) :: Fr.trim f r
def SSt.trim (S : SSt) (lv : List Nat) : SSt := { f := Fr.trim S.f lv, h := S.h, nx := S.nx }
theorem trim_get {f : Fr} : ∀ {lv : List Nat} {i : Nat}, fget (Fr.trim f lv) i = fget f i ∨ fget (Fr.trim f lv) i = .any
  | [], i => .inr rfl
  | j :: r, i => by
    simp only [Fr.trim, fget]
    split
    · rename_i e; subst e; exact .inl rfl
    · exact trim_get

/-- Which slots are looked at later: what nobody looks at is told no longer. -/
def un (a b : List Nat) : List Nat := a.foldr (fun x l => if l.contains x then l else x :: l) b
def liveOps : List GOp → List Nat → List Nat
  | [], L => L
  | .u i :: r, L => un i.looks (match i.dst with | some d => (liveOps r L).filter (fun x => !(x == d)) | none => liveOps r L)
  | .g t _ d i :: r, L => un (t :: i.looks) (match d with | some d => (liveOps r L).filter (fun x => !(x == d)) | none => liveOps r L)
def usesIC : IC → List Nat
  | .frp xs => xs.map (·.1)
  | .ops l => l.foldr (fun g L => un g.looks L) []
  | .rgn fz l => un (slots fz) (l.foldr (fun g L => un g.2.looks L) [])
  | .rgb fz l l1 l2 => un (slots fz) ((l ++ l1).foldr (fun g L => un g.2.looks L) [])
  | .seq a b => un (usesIC a) (usesIC b)
  | .cond c t e => un c.sl (un (usesIC t) (usesIC e))
  | .block _ b => usesIC b
  | .loop b => usesIC b
  | .rng f _ a b => un f.sl (un (usesIC a) (usesIC b))
  | _ => []
def trimIC (R : List Nat) : IC → List Nat → List Nat → IC × List Nat
  | .skip, L, _ => (.skip, L)
  | .ops l, L, _ => (.seq (.ops l) (.tr L), liveOps l L)
  | .rgn fz l, L, _ => (.seq (.rgn fz l) (.tr L), un (slots fz) (liveOps (l.map (·.2)) L))
  | .rgb fz l l1 l2, L, _ => (.seq (.rgb fz l l1 l2) (.tr L), un (slots fz) (un (liveOps ((l ++ l1).map (·.2)) L) (liveOps ((l ++ l2).map (·.2)) L)))
  | .seq a b, L, X => (.seq (trimIC R a (trimIC R b L X).2 X).1 (trimIC R b L X).1, (trimIC R a (trimIC R b L X).2 X).2)
  | .cond c t e, L, X => (.cond c (trimIC R t L X).1 (trimIC R e L X).1, un c.sl (un (trimIC R t L X).2 (trimIC R e L X).2))
  | .block id b, L, X => (.block id (trimIC R b L (un L X)).1, (trimIC R b L (un L X)).2)
  | .loop b, _, X => (.loop (trimIC R b (trimIC R b [] X).2 X).1, (trimIC R b [] X).2)
  | .exit id, _, X => (.exit id, X)
  | .ret, _, _ => (.ret, R)
  | .tr lv, L, _ => (.tr lv, L)
  | .frp xs, L, _ => (.frp xs, un (xs.map (·.1)) L)
  | .die, _, _ => (.die, [])
  | .rng f ps a b, L, X => (.seq (.rng f ps (trimIC R a (trimIC R b [] []).2 []).1 (trimIC R b [] []).1) (.tr L), un f.sl (un L (un X (un R (trimIC R a (trimIC R b [] []).2 []).2))))

/-- Slices that are nil become slices of the function's own, of nothing. -/
inductive NilTo : SSt → SSt → Prop
  | refl (S : SSt) : NilTo S S
  | slot {S S' : SSt} (d : Nat) (eid : TypeId) (e : Ty) (h : fget S.f d = .nils) (h' : NilTo { f := (d, .vec S.nx) :: S.f, h := (S.nx, .arr eid e []) :: S.h, nx := S.nx + 1 } S') : NilTo S S'
  | tup {S S' : SSt} (d i : Nat) (eid : TypeId) (e : Ty) {l : List SV} (h : fget S.f d = .tup l) (hi : l[i]? = some .nils) (h' : NilTo { f := (d, .tup (l.set i (.vec S.nx))) :: S.f, h := (S.nx, .arr eid e []) :: S.h, nx := S.nx + 1 } S') : NilTo S S'
  | agg {S S' : SSt} (d k : Nat) (eid : TypeId) (e : Ty) {l l' : List SV} (h : fget S.f d = .agg l) (hi : cellAt l k = some .nils) (hs : setCellAt l k (.vec S.nx) = some l') (h' : NilTo { f := (d, .agg l') :: S.f, h := (S.nx, .arr eid e []) :: S.h, nx := S.nx + 1 } S') : NilTo S S'
  | cell {S S' : SSt} (m k : Nat) (eid : TypeId) (e : Ty) {l l' : List SV} (h : hget S.h m = some (.cells l)) (hi : cellAt l k = some .nils) (hs : setCellAt l k (.vec S.nx) = some l') (h' : NilTo { f := S.f, h := (S.nx, .arr eid e []) :: hset S.h m (.cells l'), nx := S.nx + 1 } S') : NilTo S S'
  | frz {S S' : SSt} (n : Nat) (h' : NilTo (frz1 n S) S') : NilTo S S'
  | dagg {S S' : SSt} (d k : Nat) (eid : TypeId) {l l' : List SV} (h : fget S.f d = .agg l) (hi : cellAt l k = some .nils) (hs : setCellAt l k (.dat (.slice eid) (.list [])) = some l') (h' : NilTo { f := (d, .agg l') :: S.f, h := S.h, nx := S.nx } S') : NilTo S S'
  | dtag {S S' : SSt} (d i k : Nat) (eid : TypeId) {l m m' : List SV} (h : fget S.f d = .tup l) (hj : l[i]? = some (.agg m)) (hi : cellAt m k = some .nils) (hs : setCellAt m k (.dat (.slice eid) (.list [])) = some m') (h' : NilTo { f := (d, .tup (l.set i (.agg m'))) :: S.f, h := S.h, nx := S.nx } S') : NilTo S S'


def Leq0 (nb : Nat) (S S' : SSt) : Prop := ∃ π : Nat → Nat, (∀ i, (fget S'.f i).ren π = fget S.f i ∨ fget S'.f i = .any) ∧ (∀ n t, hget S'.h n = some t → hget S.h (π n) = some (t.ren π)) ∧
  (∀ n m t u, hget S'.h n = some t → hget S'.h m = some u → n ≠ m → π n ≠ π m) ∧ (∀ n, n < nb → π n = n) ∧ (∀ i, (fget S'.f i).lt S'.nx) ∧ (∀ n t, hget S'.h n = some t → n < S'.nx ∧ t.lt S'.nx) ∧ nb ≤ S'.nx

def Leq (nb : Nat) (S S' : SSt) : Prop := ∃ S0, NilTo S S0 ∧ Leq0 nb S0 S'
theorem Leq0.leq {nb : Nat} {S S' : SSt} (h : Leq0 nb S S') : Leq nb S S' := ⟨S, .refl S, h⟩

def LoopVC (nb : Nat) (B : (Ex → SSt → Prop) → SSt → Prop) (Q : Ex → SSt → Prop) (S : SSt) : Prop :=
  ∃ (α : Type) (I : α → SSt) (μ : α → Nat) (a0 : α), Leq nb S (I a0) ∧ ∀ a, B (fun ex S' => match ex with
    | .nrm => ∃ a', μ a' < μ a ∧ Leq nb S' (I a')
    | ex => Q ex S') (I a)

/-- Cells of the function's own that no longer change. -/
def eltV (eid : TypeId) (t : Ty) (x : SV) : Option SV := match x with
  | .dat (.ptr e) (.ptr d) => if e = eid then some (.elt t d) else none
  | _ => none
def eltK (k : Nat) (r : Option SV) (S : SSt) : SSt := match r with
  | some x => { f := (k, x) :: S.f, h := S.h, nx := S.nx }
  | none => S
def eltP (eid : TypeId) (t : Ty) (k : Nat) (S : SSt) : SSt := eltK k (eltV eid t (fget S.f k)) S
/-- A slot above 100000: the cells are told as what is pointed at. -/
def frpL : List (Nat × TypeId × Ty) → SSt → SSt
  | [], S => S
  | (k, eid, t) :: r, S => if k < 100000 then frpL r (preP (.ptr eid) t (fget S.f k) S) else frpL r (eltP eid t (k - 100000) (preP (.ptr eid) t (fget S.f (k - 100000)) S))
/-- A loop over a function: what holds ahead of each round; what the rounds leave. -/
def RngVC (Γ : Tab) (nb : Nat) (f : Opd) (ps : List Nat) (A B : Nat → (Ex → SSt → Prop) → SSt → Prop) (Q : Ex → SSt → Prop) (S : SSt) : Prop :=
  ∃ (f0 : Fr) (g : FuncId) (caps : List SV) (items : List (List SV × Heap)) (α : Type) (I : α → Heap × Nat) (idx : α → Nat) (x0 : α) (nb1 : Nat),
    nb ≤ nb1 ∧ nb1 ≤ (I x0).2 ∧ (∀ i, (fget f0 i).lt nb1) ∧ idx x0 = 0 ∧ Leq nb S ⟨f0, (I x0).1, (I x0).2⟩ ∧ oget f f0 = .clo g caps ∧ Γ.it g caps items ∧ (∀ it ∈ items, it.1.length = ps.length) ∧
    (∀ x, idx x < items.length → A nb1 (fun ex S1 => match ex with
      | .nrm => B nb1 (fun ex S2 => match ex with
        | .nrm => ∃ x', idx x' = idx x + 1 ∧ Leq nb1 S2 ⟨[], (I x').1, (I x').2⟩
        | ex => Q ex ⟨f0, S2.h, S2.nx⟩) S1
      | _ => False) ⟨zipF ps (SV.renL (shN (I x).2) (items.getD (idx x) ([], [])).1) f0, shH (I x).2 (items.getD (idx x) ([], [])).2 ++ (I x).1, (I x).2 + 64⟩) ∧
    (∀ x, idx x = items.length → Q .nrm ⟨f0, (I x).1, (I x).2⟩)
def vc (Γ : Tab) (nb : Nat) : IC → (Ex → SSt → Prop) → SSt → Prop
  | .skip, Q, S => Q .nrm S
  | .ops l, Q, S => vOps Γ l (Q .nrm) S
  | .rgn fz l, Q, S => vD Γ l (Q .nrm) (frzL (ogets fz S.f) S)
  | .rgb fz l l1 l2, Q, S => vD Γ l (fun S' => vD Γ l1 (Q .nrm) S' ∧ vD Γ l2 (Q .nrm) S') (frzL (ogets fz S.f) S)
  | .seq a b, Q, S => vc Γ nb a (fun ex S' => match ex with
    | .nrm => vc Γ nb b Q S'
    | ex => Q ex S') S
  | .cond c t e, Q, S => match oget c S.f with
    | .bool b => (b = true → vc Γ nb t Q S) ∧ (b = false → vc Γ nb e Q S)
    | _ => False
  | .block id b, Q, S => vc Γ nb b (fun ex S' => match ex with
    | .ext j => if j = id then Q .nrm S' else Q (.ext j) S'
    | ex => Q ex S') S
  | .loop b, Q, S => LoopVC nb (vc Γ nb b) Q S
  | .exit id, Q, S => Q (.ext id) S
  | .ret, Q, S => Q .ret S
  | .tr lv, Q, S => Q .nrm (S.trim lv)
  | .frp xs, Q, S => Q .nrm (frpL xs S)
  | .die, Q, S => False
  | .rng f ps a b, Q, S => RngVC Γ nb f ps (fun nb' => vc Γ nb' a) (fun nb' => vc Γ nb' b) Q S

/-- No loop over a function. -/
def noRng : Code → Bool
  | .rangeFunc .. => false
  | .seq a b => noRng a && noRng b
  | .cond _ a b => noRng a && noRng b
  | .block _ b => noRng b
  | .loop b => noRng b
  | .scope _ => false
  | _ => true
/-- A slot above 200000: ahead of a drawn region the cells are told as what is pointed at. -/
def fpOf (P : Program) (W : Opts) (l : List (Bool × GOp)) : List (Nat × TypeId × Ty) := (W.fp.filter fun p => l.any fun y => y.2.looks.contains p.1 || (decide (200000 ≤ p.1) && y.2.looks.contains (p.1 - 200000))).map fun p => (if p.1 < 200000 then p.1 else p.1 - 100000, p.2, tyOf P 8 p.2)
/-- The same, ahead of a loop over a function. -/
def fpRng (P : Program) (W : Opts) (x y : IC) : List (Nat × TypeId × Ty) := (W.fp.filter fun p => decide (100000 ≤ p.1) && (un (usesIC x) (usesIC y)).contains (p.1 - 100000)).map fun p => (p.1, p.2, tyOf P 8 p.2)
/-- It panics. -/
def hasPanic (ops : Array Oper) : Bool := ops.toList.any fun o => match o.op with
  | .panic _ => true
  | _ => false
def compC (P : Program) (W : Opts) : Code → Option IC
  | .skip => some .skip
  | .region _ ops false => if hasPanic ops = true then some .die else (compOps P W ops ops.toList).map .ops
  | .region _ ops true => match compRgn P W ops with
    | some (fz, l) => match fpOf P W l with
      | [] => some (.rgn fz l)
      | xs => some (.seq (.frp xs) (.rgn fz l))
    | none => (compRgnB P W ops).map fun x => .rgb x.1 x.2.1 x.2.2.1 x.2.2.2
  | .seq a b => match compC P W a, compC P W b with
    | some x, some y => some (.seq x y)
    | _, _ => none
  | .cond c t e => match cOpd c, compC P W t, compC P W e with
    | some c', some x, some y => some (.cond c' x y)
    | _, _, _ => none
  | .block id b => (compC P W b).map (.block id)
  | .loop b => (compC P W b).map .loop
  | .exit id => some (.exit id)
  | .ret => some .ret
  | .scope c => compC P W c
  | .label _ => some .skip
  | .rangeFunc g ps a b => match cOpd g, compC P W a, compC P W b with
    | some g', some x, some y => if ps.toList.all (fun p => decide (p < W.N)) = true ∧ ps.toList.Nodup ∧ noRng a = true ∧ noRng b = true then (match fpRng P W x y with | [] => some (.rng g' ps.toList x y) | xs => some (.seq (.frp xs) (.rng g' ps.toList x y))) else none
    | _, _, _ => none
  | _ => none

section
variable {P : Program} {E : Nat → Value}

theorem Leq0.sat {c : Ctx} {S S' : SSt} (h : Leq0 c.nb S S') {ρ : Nat → Value} {H : FH} {a : Act} {w : World} (s : Sat P E c ρ H S a w) : ∃ ρ', Sat P E c ρ' H S' a w := by
  obtain ⟨π, h1, h2, h3, h4, h5, h6, h7⟩ := h
  exact ⟨_, s.weaken ⟨h1, h2, h3, h4, h5, h6, h7⟩⟩
/-- A slot told in other words. -/
theorem Sat.retell {c : Ctx} {ρ : Nat → Value} {H : FH} {S : SSt} {a : Act} {w : World} (s : Sat P E c ρ H S a w) {d : Nat} {x : SV} (hx : Den P E ρ H x (a.tmps.getD d undef)) (hl : x.lt S.nx) : Sat P E c ρ H { f := (d, x) :: S.f, h := S.h, nx := S.nx } a w := by
  refine ⟨fun i => ?_, s.sz, s.df, s.hs, s.hin, s.kept, s.ownb, fun i => ?_, s.hlt, s.olt, s.nbx, s.sep, s.glob, s.rho, s.hle⟩
  · simp only [fget_cons]
    split
    · rename_i e; subst e; exact hx
    · exact s.fr i
  · simp only [fget_cons]
    split
    · exact hl
    · exact s.flt i
theorem Sat.nilTok {c : Ctx} {ρ : Nat → Value} {H : FH} {S : SSt} {a : Act} {w : World} (s : Sat P E c ρ H S a w) (eid : TypeId) (e : Ty) : Sat P E c (upd ρ S.nx (.slice none 0 0)) H { f := S.f, h := (S.nx, .arr eid e []) :: S.h, nx := S.nx + 1 } a w := by
  refine s.grow (Nat.le_refl _) (Nat.lt_succ_self _) _ _ (Kept.refl w _) ⟨fun h => absurd rfl h, [], ⟨by simp, .inl ⟨⟨none, ?_⟩, rfl⟩⟩, .nil, ?_⟩ (fun b hb => by rw [blk_none] at hb; cases hb) trivial
  · rw [upd_same]
  · rw [upd_same]; intro b hb; rw [blk_none] at hb; cases hb
theorem denV_set {ρ : Nat → Value} {H : FH} {y : SV} : ∀ {l : List SV} {vs : List Value} {i : Nat} {x : SV}, DenV P E ρ H l vs → l[i]? = some x → (∀ v, Den P E ρ H x v → Den P E ρ H y v) → DenV P E ρ H (l.set i y) vs
  | [], _, _, _, _, h, _ => by simp at h
  | x :: l, _, 0, _, .cons h1 h2, h, hy => by simp at h; subst h; exact .cons (hy _ h1) h2
  | x :: l, _, i + 1, _, .cons h1 h2, h, hy => by rw [List.set_cons_succ]; exact .cons h1 (denV_set h2 (by simpa using h) hy)
theorem ltL_set {nx : Nat} {y : SV} (hy : y.lt nx) : ∀ {l : List SV} {i : Nat}, SV.ltL nx l → SV.ltL nx (l.set i y)
  | [], _, h => h
  | x :: l, 0, h => ⟨hy, h.2⟩
  | x :: l, i + 1, h => by rw [List.set_cons_succ]; exact ⟨h.1, ltL_set hy h.2⟩
theorem denC_nil {ρ : Nat → Value} {H : FH} {l l' : List SV} {cs : List Value} {k n : Nat} (hd : DenC P E ρ H l cs) (h : cellAt l k = some .nils) (hs : setCellAt l k (.vec n) = some l') (hn : ρ n = .slice none 0 0) : DenC P E ρ H l' cs := by
  obtain ⟨v, h1, h2, h3⟩ := cellAt_den hd h
  cases h2
  have hv : Den P E ρ H (.vec n) (.slice none 0 0) := by
    have := Den.vec (P := P) (E := E) (ρ := ρ) (H := H) (n := n) (by rw [hn]; rfl)
    rwa [hn] at this
  obtain ⟨h4, h5⟩ := setCellAt_den hv rfl hd hs
  have e : cs.take k ++ [.slice none 0 0] ++ cs.drop (k + 1) = cs := by
    have h6 : cs[k] = .slice none 0 0 := by rw [List.getElem?_eq_getElem h4] at h1; exact Option.some.inj h1
    rw [← h6, List.append_assoc, List.singleton_append, ← List.drop_eq_getElem_cons h4, List.take_append_drop]
  rwa [e] at h5
theorem den_nilD {ρ : Nat → Value} {H : FH} {eid : TypeId} : Den P E ρ H (.dat (.slice eid) (.list [])) (.slice none 0 0) :=
  .dat rfl (.slice (l := []) (fun _ => []) (Nat.le_refl _) (Nat.zero_le _) (fun h => absurd rfl h) (fun _ => rfl) (fun i hi => by simp at hi) (fun i hi => by simp at hi))
theorem denC_nilD {ρ : Nat → Value} {H : FH} {eid : TypeId} {l l' : List SV} {cs : List Value} {k : Nat} (hd : DenC P E ρ H l cs) (h : cellAt l k = some .nils) (hs : setCellAt l k (.dat (.slice eid) (.list [])) = some l') : DenC P E ρ H l' cs := by
  obtain ⟨v, h1, h2, h3⟩ := cellAt_den hd h
  cases h2
  obtain ⟨h4, h5⟩ := setCellAt_den (den_nilD (P := P) (E := E) (ρ := ρ) (H := H) (eid := eid)) rfl hd hs
  have e : cs.take k ++ [.slice none 0 0] ++ cs.drop (k + 1) = cs := by
    have h6 : cs[k] = .slice none 0 0 := by rw [List.getElem?_eq_getElem h4] at h1; exact Option.some.inj h1
    rw [← h6, List.append_assoc, List.singleton_append, ← List.drop_eq_getElem_cons h4, List.take_append_drop]
  rwa [e] at h5
theorem NilTo.sat {c : Ctx} {S S' : SSt} (h : NilTo S S') {a : Act} {w : World} : ∀ {ρ : Nat → Value} {H : FH}, Sat P E c ρ H S a w → ∃ ρ' H', Sat P E c ρ' H' S' a w := by
  induction h with
  | refl S => intro ρ H s; exact ⟨ρ, H, s⟩
  | frz n h' ih =>
    intro ρ H s
    obtain ⟨H1, _, s1⟩ := s.frz1 n
    exact ih s1
  | @slot S S' d eid e h h' ih =>
    intro ρ H s
    have s1 := s.nilTok eid e
    have h1 := s1.fr d
    rw [show fget _ d = SV.nils from h] at h1
    refine ih (s1.retell (d := d) (x := .vec S.nx) ?_ (Nat.lt_succ_self _))
    generalize a.tmps.getD d undef = v at h1
    cases h1
    have := Den.vec (P := P) (E := E) (ρ := upd ρ S.nx (.slice none 0 0)) (H := H) (n := S.nx) (by rw [upd_same]; rfl)
    rwa [upd_same] at this
  | @tup S S' d i eid e l h hi h' ih =>
    intro ρ H s
    have s1 := s.nilTok eid e
    have h1 := s1.fr d
    have hl1 := s1.flt d
    rw [show fget _ d = SV.tup l from h] at h1 hl1
    refine ih (s1.retell (d := d) (x := .tup (l.set i (.vec S.nx))) ?_ (ltL_set (l := l) (Nat.lt_succ_self _) hl1))
    generalize a.tmps.getD d undef = v at h1
    cases h1 with | tup h2 =>
    refine .tup (denV_set h2 hi fun v hv => ?_)
    cases hv
    have := Den.vec (P := P) (E := E) (ρ := upd ρ S.nx (.slice none 0 0)) (H := H) (n := S.nx) (by rw [upd_same]; rfl)
    rwa [upd_same] at this
  | @agg S S' d k eid e l l' h hi hs h' ih =>
    intro ρ H s
    have s1 := s.nilTok eid e
    have h1 := s1.fr d
    have hl1 := s1.flt d
    rw [show fget _ d = SV.agg l from h] at h1 hl1
    refine ih (s1.retell (d := d) (x := .agg l') ?_ (setCellAt_lt (Nat.lt_succ_self _) (l := l) hl1 hs))
    generalize a.tmps.getD d undef = v at h1
    cases h1 with | agg h2 => exact .agg (denC_nil h2 hi hs (upd_same _ _ _))
  | @cell S S' m k eid e l l' h hi hs h' ih =>
    intro ρ H s
    have s1 := s.nilTok eid e
    have hm : hget ((S.nx, Tok.arr eid e []) :: S.h) m = some (.cells l) := by
      have := (s.tok h).2.1
      simp only [hget]; rw [if_neg (by omega)]; exact h
    obtain ⟨⟨b, t, cs, h1, h2, h3, h4⟩, h5, h6⟩ := s1.tok hm
    have := s1.change hm (.cells l') (Kept.refl w _) ⟨b, t, cs, h1, h2, denC_nil h3 hi hs (upd_same _ _ _), h4⟩ (setCellAt_lt (Nat.lt_succ_self _) (l := l) h6 hs)
    simp only [hset] at this
    rw [if_neg (by have := (s.tok h).2.1; omega)] at this
    exact ih this
  | @dagg S S' d k eid l l' h hi hs h' ih =>
    intro ρ H s
    have h1 := s.fr d
    have hl1 := s.flt d
    rw [show fget _ d = SV.agg l from h] at h1 hl1
    refine ih (s.retell (d := d) (x := .agg l') ?_ (setCellAt_lt (show (SV.dat (.slice eid) (.list [])).lt S.nx from trivial) (l := l) hl1 hs))
    generalize a.tmps.getD d undef = v at h1
    cases h1 with | agg h2 => exact .agg (denC_nilD h2 hi hs)
  | @dtag S S' d i k eid l m m' h hj hi hs h' ih =>
    intro ρ H s
    have h1 := s.fr d
    have hl1 := s.flt d
    rw [show fget _ d = SV.tup l from h] at h1 hl1
    have hlm : SV.ltL S.nx m := by
      have : ∀ (l : List SV) (i : Nat), SV.ltL S.nx l → l[i]? = some (.agg m) → SV.ltL S.nx m := by
        intro l
        induction l with
        | nil => intro i _ h; simp at h
        | cons x l ih =>
          intro i hl h
          cases i with
          | zero => simp at h; subst h; exact hl.1
          | succ i => exact ih i hl.2 (by simpa using h)
      exact this l i hl1 hj
    refine ih (s.retell (d := d) (x := .tup (l.set i (.agg m'))) ?_ (ltL_set (l := l) (show (SV.agg m').lt S.nx from setCellAt_lt (show (SV.dat (.slice eid) (.list [])).lt S.nx from trivial) (l := m) hlm hs) hl1))
    generalize a.tmps.getD d undef = v at h1
    cases h1 with | tup h2 =>
    refine .tup (denV_set h2 hj fun v hv => ?_)
    cases hv with | agg h3 => exact .agg (denC_nilD h3 hi hs)
theorem Leq.sat {c : Ctx} {S S' : SSt} (h : Leq c.nb S S') {ρ : Nat → Value} {H : FH} {a : Act} {w : World} (s : Sat P E c ρ H S a w) : ∃ ρ' H', Sat P E c ρ' H' S' a w := by
  obtain ⟨S0, h0, h1⟩ := h
  obtain ⟨ρ1, H1, s1⟩ := h0.sat s
  obtain ⟨ρ2, s2⟩ := h1.sat s1
  exact ⟨ρ2, H1, s2⟩

theorem least (p : Nat → Prop) (h : ∃ n, p n) : ∃ n, p n ∧ ∀ m, p m → n ≤ m := by
  obtain ⟨n, hn⟩ := h
  induction n using Nat.strongRecOn with
  | _ n ih =>
    by_cases hm : ∃ m, m < n ∧ p m
    · obtain ⟨m, h1, h2⟩ := hm
      exact ih m h1 h2
    · exact ⟨n, hn, fun m hp => Nat.le_of_not_lt fun hlt => hm ⟨m, hlt, hp⟩⟩

theorem Sat.trim {c : Ctx} {ρ : Nat → Value} {H : FH} {S : SSt} {a : Act} {w : World} (s : Sat P E c ρ H S a w) {lv : List Nat} : Sat P E c ρ H (S.trim lv) a w := by
  refine ⟨fun i => ?_, s.sz, s.df, s.hs, s.hin, s.kept, s.ownb, fun i => ?_, s.hlt, s.olt, s.nbx, s.sep, s.glob, s.rho, s.hle⟩
  · simp only [SSt.trim]
    rcases trim_get (f := S.f) (lv := lv) (i := i) with h | h
    · rw [h]; exact s.fr i
    · rw [h]; exact .any
  · simp only [SSt.trim]
    rcases trim_get (f := S.f) (lv := lv) (i := i) with h | h
    · rw [h]; exact s.flt i
    · rw [h]; exact trivial

theorem Sat.preP {c : Ctx} {ρ : Nat → Value} {H : FH} {S : SSt} {a : Act} {w : World} (s : Sat P E c ρ H S a w) (eid : TypeId) (v : SV) : ∃ H', Sat P E c ρ H' (Fw.preP (.ptr eid) (tyOf P 8 eid) v S) a w := by
  unfold Fw.preP
  split
  · rename_i n
    unfold prePt
    split
    · rename_i l hl
      unfold prePd
      split
      · rename_i dd htd
        obtain ⟨H', _, h2, _⟩ := s.frzCells (eid := eid) hl htd
        exact ⟨H', h2⟩
      · exact ⟨H, s⟩
    · exact ⟨H, s⟩
  · exact ⟨H, s⟩
theorem Sat.eltP {c : Ctx} {ρ : Nat → Value} {H : FH} {S : SSt} {a : Act} {w : World} (s : Sat P E c ρ H S a w) (eid : TypeId) (k : Nat) : Sat P E c ρ H (Fw.eltP eid (tyOf P 8 eid) k S) a w := by
  unfold Fw.eltP
  have hd := s.fr k
  generalize fget S.f k = x at hd
  unfold eltV
  split
  · rename_i e d
    split
    · rename_i he
      subst he
      refine s.retell (d := k) (x := .elt (tyOf P 8 e) d) ?_ trivial
      generalize a.tmps.getD k undef = v at hd
      cases hd with | dat hs h =>
      cases h with | ptr h1 h2 h3 => exact .elt h1 h2 h3
    · exact s
  · exact s
theorem Sat.frpL {c : Ctx} {ρ : Nat → Value} : ∀ {xs : List (Nat × TypeId × Ty)} {H : FH} {S : SSt} {a : Act} {w : World}, (∀ x ∈ xs, x.2.2 = tyOf P 8 x.2.1) → Sat P E c ρ H S a w → ∃ H', Sat P E c ρ H' (frpL xs S) a w
  | [], H, S, a, w, _, s => ⟨H, s⟩
  | (k, eid, t) :: r, H, S, a, w, h, s => by
    have e := h (k, eid, t) (by simp)
    simp only at e
    subst e
    unfold Fw.frpL
    split
    · obtain ⟨H1, s1⟩ := s.preP eid (fget S.f k)
      exact Sat.frpL (xs := r) (fun x hx => h x (by simp [hx])) s1
    · obtain ⟨H1, s1⟩ := s.preP eid (fget S.f (k - 100000))
      exact Sat.frpL (xs := r) (fun x hx => h x (by simp [hx])) (s1.eltP eid (k - 100000))
theorem compOps_mem {W : Opts} {all : Array Oper} : ∀ {l : List Oper} {gs : List GOp}, compOps P W all l = some gs → ∀ o ∈ l, ∃ j, comp P W o = some j
  | [], _, _, o, ho => by cases ho
  | o' :: l, gs, h, o, ho => by
    simp only [compOps] at h
    split at h
    · rename_i i r e1 e2 e3
      rcases List.mem_cons.1 ho with rfl | ho
      · exact ⟨_, e1⟩
      · exact compOps_mem e3 o ho
    · rename_i i t b r e1 e2 e3
      rcases List.mem_cons.1 ho with rfl | ho
      · exact ⟨_, e1⟩
      · exact compOps_mem e3 o ho
    · cases h
theorem vc_soundF {et : Option TypeId} (hE : Errs2 P et E) {c : Ctx} {W : Opts} (hN : W.N = c.N) (hG : W.gl = c.G) (hC : ErrC E c ∧ W.et = et) {Γ : Tab} (hΓ : AllValid P E c.G Γ) {R : List Nat} (l0 : Nat) : ∀ {code : Code}, noRng code = true → ∀ {ic : IC} {L X : List Nat} {Q : Ex → SSt → Prop} {ρ : Nat → Value} {H : FH} {S : SSt} {a : Act} {w : World},
    compC P W code = some ic → vc Γ c.nb (trimIC R ic L X).1 Q S → Sat P E c ρ H S a w → code.wpIn (Fence.wide.inRound l0) 0 P (SQ P E c Q) a w := by
  have hLo : ∀ Q, ¬ LetsOut (SQ P E c Q) := fun Q ⟨a, w, e, S, ρ, H, he, _⟩ => by cases he
  intro code
  induction code with
  | skip => intro hn ic L X Q ρ H S a w hc h s; simp only [compC] at hc; cases hc; simp only [trimIC] at h; exact wpIn_skip ⟨.nrm, S, ρ, H, rfl, h, s⟩
  | region id ops draw =>
    intro hn ic L X Q ρ H S a w hc h s
    cases draw with
    | true =>
      simp only [compC] at hc
      split at hc
      · rename_i fz l e
        have key : ∀ {ρ : Nat → Value} {H : FH} {S : SSt}, Sat P E c ρ H S a w → vD Γ l (fun S' => Q .nrm (S'.trim L)) (Fw.frzL (ogets fz S.f) S) → Code.wpIn (Fence.wide.inRound l0) 0 P (.region id ops true) (SQ P E c Q) a w := by
          intro ρ H S s h
          obtain ⟨H', _, s'⟩ := s.frzL (l := ogets fz S.f)
          obtain ⟨h1, h2, h3⟩ := rgn_any (id := id) (Q := SQ P E c Q) hE hN hG hC hΓ (fun S' h' ρ' H' a' w' s' => ⟨.nrm, S'.trim L, ρ', H', rfl, h', s'.trim⟩) e s' h
          exact wpIn_region_any h1 (any_in l0 0 (hLo Q) (fun i o ho => (h3 i o ho).elim fun j hj => comp_noDefer hj) _ _ _ _ h2)
        split at hc
        · cases hc
          simp only [trimIC, vc] at h
          exact key s h
        · cases hc
          simp only [trimIC, vc] at h
          obtain ⟨H1, s1⟩ := s.frpL (xs := fpOf P W l) (fun x hx => by
            unfold fpOf at hx
            obtain ⟨p, _, rfl⟩ := List.mem_map.1 hx
            rfl)
          exact key s1 h
      · obtain ⟨⟨fz, l, l1, l2⟩, e, rfl⟩ := Option.map_eq_some_iff.1 hc
        simp only [trimIC, vc] at h
        obtain ⟨H', _, s'⟩ := s.frzL (l := ogets fz S.f)
        obtain ⟨h1, h2, h3⟩ := rgnB_any (Q := SQ P E c Q) hE hN hG hC hΓ (fun S' h' ρ' H' a' w' s' => ⟨.nrm, S'.trim L, ρ', H', rfl, h', s'.trim⟩) e s' h
        exact wpIn_region_any h1 (any_in l0 0 (hLo Q) (fun i o ho => (h3 i o ho).elim fun j hj => comp_noDefer hj) _ _ _ _ h2)
    | false =>
      simp only [compC] at hc
      split at hc
      · cases hc; simp only [trimIC, vc] at h
      obtain ⟨l, hl, rfl⟩ := Option.map_eq_some_iff.1 hc
      simp only [trimIC, vc] at h
      have h9 := vOps_sound (Q := SQ P E c Q) hE hN hG hC hΓ (fun S' h' ρ' H' a' w' s' => ⟨.nrm, S'.trim L, ρ', H', rfl, h', s'.trim⟩) hl s h
      exact wpIn_region_list (list_in l0 0 (hLo Q) _ _ _ (fun o ho => (compOps_mem hl o ho).elim fun j hj => comp_noDefer hj) h9)
  | seq x y ihx ihy =>
    intro hn ic L X Q ρ H S a w hc h s
    simp only [compC] at hc
    split at hc
    · rename_i x' y' e1 e2; cases hc
      simp only [trimIC, vc] at h
      refine wpIn_seq (Code.wpIn_mono ?_ (ihx (by simp only [noRng, Bool.and_eq_true] at hn; exact hn.1) e1 h s))
      rintro ex a' w' ⟨e, S', ρ', H', he, hq, s'⟩
      cases ex <;> simp only [exOf] at he <;> cases he
      · exact ihy (by simp only [noRng, Bool.and_eq_true] at hn; exact hn.2) e2 hq s'
      · exact ⟨_, S', ρ', H', rfl, hq, s'⟩
      · exact ⟨_, S', ρ', H', rfl, hq, s'⟩
    · cases hc
  | cond cc x y ihx ihy =>
    intro hn ic L X Q ρ H S a w hc h s
    simp only [compC] at hc
    split at hc
    · rename_i c' x' y' e1 e2 e3; cases hc
      simp only [trimIC, vc] at h
      split at h
      · rename_i b hb
        have sc := (s.opd e1).1
        rw [hb] at sc
        generalize hv : a.eval cc = v at sc
        cases sc
        exact wpIn_cond_split hv (fun e => ihx (by simp only [noRng, Bool.and_eq_true] at hn; exact hn.1) e2 (h.1 e) s) (fun e => ihy (by simp only [noRng, Bool.and_eq_true] at hn; exact hn.2) e3 (h.2 e) s)
      · exact h.elim
    · cases hc
  | block id b ih =>
    intro hn ic L X Q ρ H S a w hc h s
    simp only [compC] at hc
    obtain ⟨b', hb, rfl⟩ := Option.map_eq_some_iff.1 hc
    simp only [trimIC, vc] at h
    refine wpIn_block (Code.wpIn_mono ?_ (ih (by simpa only [noRng] using hn) hb h s))
    rintro ex a' w' ⟨e, S', ρ', H', he, hq, s'⟩
    cases ex <;> simp only [exOf] at he <;> cases he
    · exact ⟨_, S', ρ', H', rfl, hq, s'⟩
    · rename_i j
      simp only [Exit.inBlock]
      simp only at hq
      split at hq
      · rename_i e; rw [if_pos e]; exact ⟨_, S', ρ', H', rfl, hq, s'⟩
      · rename_i e; rw [if_neg e]; exact ⟨_, S', ρ', H', rfl, hq, s'⟩
    · exact ⟨_, S', ρ', H', rfl, hq, s'⟩
  | loop b ih =>
    intro hn ic L X Q ρ H S a w hc h s
    simp only [compC] at hc
    obtain ⟨b', hb, rfl⟩ := Option.map_eq_some_iff.1 hc
    simp only [trimIC, vc] at h
    obtain ⟨α, I, μ, a0, h0, hr⟩ := h
    obtain ⟨ρ0, H0, s0⟩ := h0.sat s
    classical
    have hm : ∀ a w, ∃ m, (∃ x ρ H, Sat P E c ρ H (I x) a w) → (∃ x ρ H, Sat P E c ρ H (I x) a w ∧ μ x = m) ∧ ∀ x ρ H, Sat P E c ρ H (I x) a w → m ≤ μ x := by
      intro a w
      by_cases hx : ∃ n x ρ H, Sat P E c ρ H (I x) a w ∧ μ x = n
      · obtain ⟨m, h1, h2⟩ := least _ hx
        exact ⟨m, fun _ => ⟨h1, fun x ρ H hs => h2 _ ⟨x, ρ, H, hs, rfl⟩⟩⟩
      · exact ⟨0, fun ⟨x, ρ, H, hs⟩ => absurd ⟨_, x, ρ, H, hs, rfl⟩ hx⟩
    refine wpIn_loop (fun a w => ∃ x ρ H, Sat P E c ρ H (I x) a w) (fun a w => Classical.choose (hm a w)) ⟨a0, ρ0, H0, s0⟩ ?_
    intro a w hx
    obtain ⟨⟨x, ρx, Hx, hs, hmx⟩, hle⟩ := Classical.choose_spec (hm a w) hx
    refine Code.wpIn_mono ?_ (ih (by simpa only [noRng] using hn) hb (hr x) hs)
    rintro ex a' w' ⟨e, S', ρ', H', he, hq, s'⟩
    cases ex <;> simp only [exOf] at he <;> cases he
    · obtain ⟨x', hlt, hleq⟩ := hq
      obtain ⟨ρ'', H'', s''⟩ := hleq.sat s'
      have hx' : ∃ x ρ H, Sat P E c ρ H (I x) a' w' := ⟨x', ρ'', H'', s''⟩
      refine ⟨hx', ?_⟩
      have := (Classical.choose_spec (hm a' w') hx').2 x' ρ'' H'' s''
      show Classical.choose (hm a' w') < Classical.choose (hm a w)
      omega
    · exact ⟨_, S', ρ', H', rfl, hq, s'⟩
    · exact ⟨_, S', ρ', H', rfl, hq, s'⟩
  | exit id => intro hn ic L X Q ρ H S a w hc h s; simp only [compC] at hc; cases hc; exact wpIn_exit ⟨_, S, ρ, H, rfl, h, s⟩
  | ret => intro hn ic L X Q ρ H S a w hc h s; simp only [compC] at hc; cases hc; exact wpIn_ret ⟨_, S, ρ, H, rfl, h, s⟩
  | rangeFunc => intro hn; simp [noRng] at hn
  | scope b ih => intro hn; simp [noRng] at hn
  | label => intro hn ic L X Q ρ H S a w hc h s; simp only [compC] at hc; cases hc; simp only [trimIC] at h; exact wpIn_label ⟨.nrm, S, ρ, H, rfl, h, s⟩
  | goto => intro hn ic L X Q ρ H S a w hc h s; simp [compC] at hc
  | refuse => intro hn ic L X Q ρ H S a w hc h s; simp [compC] at hc
/-- What is left behind code in which marks may have been laid. -/
def SQX (P : Program) (E : Nat → Value) (c : Ctx) (Q : Ex → SSt → Prop) (ex : Exit) (a : Act) (w : World) : Prop :=
  ∃ e S ρ H ds ks, (∀ x ∈ c.ks, x ∈ ks) ∧ exOf ex = some e ∧ Q e S ∧ Sat P E { c with dfs := ds, ks := ks } ρ H S a w
theorem SQX.widen {c : Ctx} {ds : List Nat} {ks : List (Nat × Obj)} (hks : ∀ x ∈ c.ks, x ∈ ks) {Q : Ex → SSt → Prop} {code : Code} {a : Act} {w : World} (h : code.wp P (SQX P E { c with dfs := ds, ks := ks } Q) a w) : code.wp P (SQX P E c Q) a w :=
  wp_mono h fun e a w ⟨e', S, ρ, H, ds', ks', h1, h2⟩ => ⟨e', S, ρ, H, ds', ks', fun x hx => h1 x (hks x hx), h2⟩
theorem ErrC.now0 {c : Ctx} (h : ErrC E c) {ρ : Nat → Value} {H : FH} {S : SSt} {a : Act} {w : World} (s : Sat P E c ρ H S a w) : ErrW E c.G c.H0 w := by
  intro g ad T hg he
  obtain ⟨h1, h2, cs, t, h3⟩ := h g ad T hg he
  refine ⟨h2, cs, t, ?_⟩
  rw [s.kept.block _ (Array.getElem?_eq_some_iff.1 h3).1 h1]; exact h3
theorem callOk_run {f : FuncId} (h : callOk P f = true) (args : Array Value) (w : World) : (callFunc f args).run P w = .ok (.enter f args) w := by
  unfold callOk at h
  split at h
  · rename_i fn hfn
    simp only [Bool.and_eq_true, Bool.not_eq_true'] at h
    have hb : fn.body ≠ none := by intro e; rw [e] at h; simp at h
    have hn : fn.name ≠ "runtime.NumGoroutine" := by have := h.2; simpa using this
    simp [callFunc, program, Sem.run_bind, Sem.run, pure, hfn, hn, hb]
  · cases h

/-- A round's temporaries. -/
theorem zip_den {ρ : Nat → Value} {H : FH} {N : Nat} : ∀ {ps : List Nat} {xs : List SV} {vs : List Value} {f : Fr} {t : Array Value}, DenV P E ρ H xs vs → ps.Nodup → (∀ p ∈ ps, p < N) → t.size = N → (∀ i, Den P E ρ H (fget f i) (t.getD i undef)) →
    ((ps.zip vs).foldl (fun t p => t.setIfInBounds p.1 p.2) t).size = N ∧ ∀ i, Den P E ρ H (fget (zipF ps xs f) i) (((ps.zip vs).foldl (fun t p => t.setIfInBounds p.1 p.2) t).getD i undef)
  | [], xs, vs, f, t, _, _, _, hz, hf => by simp only [zipF, List.zip_nil_left, List.foldl_nil]; exact ⟨hz, hf⟩
  | p :: ps, [], vs, f, t, hd, _, _, hz, hf => by cases hd; simp only [zipF, List.zip_nil_right, List.foldl_nil]; exact ⟨hz, hf⟩
  | p :: ps, x :: xs, vs, f, t, hd, hn, hp, hz, hf => by
    cases hd with
    | cons h1 h2 =>
      rename_i v vs
      have hpn := List.nodup_cons.1 hn
      simp only [List.zip_cons_cons, List.foldl_cons]
      have key := zip_den (N := N) (f := (p, x) :: f) (t := t.setIfInBounds p v) h2 hpn.2 (fun q hq => hp q (by simp [hq])) (by simp [hz]) (fun i => ?_)
      · refine ⟨key.1, fun i => ?_⟩
        have e : fget (zipF (p :: ps) (x :: xs) f) i = fget (zipF ps xs ((p, x) :: f)) i := by
          clear key h2
          simp only [zipF, fget]
          induction ps generalizing xs with
          | nil => simp only [zipF, fget]
          | cons q ps ih =>
            cases xs with
            | nil => simp only [zipF, fget]
            | cons y ys =>
              simp only [zipF, fget]
              by_cases e1 : p = i
              · subst e1
                have e2 : q ≠ p := fun e => hpn.1 (by simp [e])
                rw [if_pos rfl, if_neg e2]
                have := ih (xs := ys) (List.nodup_cons.2 ⟨fun hm => hpn.1 (by simp [hm]), (List.nodup_cons.1 hpn.2).2⟩) (fun r hr => hp r (by simp only [List.mem_cons] at hr ⊢; rcases hr with h | h; exact .inl h; exact .inr (.inr h))) ⟨fun hm => hpn.1 (by simp [hm]), (List.nodup_cons.1 hpn.2).2⟩
                rw [if_pos rfl] at this
                exact this
              · rw [if_neg e1]
                split
                · rfl
                · have := ih (xs := ys) (List.nodup_cons.2 ⟨fun hm => hpn.1 (by simp [hm]), (List.nodup_cons.1 hpn.2).2⟩) (fun r hr => hp r (by simp only [List.mem_cons] at hr ⊢; rcases hr with h | h; exact .inl h; exact .inr (.inr h))) ⟨fun hm => hpn.1 (by simp [hm]), (List.nodup_cons.1 hpn.2).2⟩
                  rw [if_neg e1] at this
                  exact this
        rw [e]; exact key.2 i
      · have hpN : p < t.size := by rw [hz]; exact hp p (by simp)
        simp only [fget]
        split
        · rename_i e; subst e
          rw [Array.getD_eq_getD_getElem?, Array.getElem?_setIfInBounds_self_of_lt hpN]
          exact h1
        · rename_i e
          rw [Array.getD_eq_getD_getElem?, Array.getElem?_setIfInBounds_ne e, ← Array.getD_eq_getD_getElem?]
          exact hf i
theorem zip_lt {nx : Nat} : ∀ {ps : List Nat} {xs : List SV} {f : Fr}, SV.ltL nx xs → (∀ i, (fget f i).lt nx) → ∀ i, (fget (zipF ps xs f) i).lt nx
  | [], _, _, _, hf, i => hf i
  | _ :: _, [], _, _, hf, i => hf i
  | p :: ps, x :: xs, f, h, hf, i => by
    simp only [zipF, fget]
    split
    · exact h.1
    · exact zip_lt h.2 hf i
theorem denV_length {ρ : Nat → Value} {H : FH} : ∀ {l : List SV} {vs : List Value}, DenV P E ρ H l vs → l.length = vs.length
  | _, _, .nil => rfl
  | _, _, .cons _ h => by simp only [List.length_cons]; rw [denV_length h]
/-- Names from here on stay as they are. -/
def Ctx.fix (c : Ctx) (nb : Nat) (ρ0 : Nat → Value) (H0 : FH) (ks : List (Nat × Obj)) : Ctx := { c with nb := nb, ρ0 := ρ0, H0 := H0, dfs := [], ks := ks }
theorem Sat.fix {c : Ctx} {ρ : Nat → Value} {H : FH} {S : SSt} {a : Act} {w : World} (s : Sat P E c ρ H S a w) {nb1 : Nat} (h1 : c.nb ≤ nb1) (h2 : nb1 ≤ S.nx) {tmps : Array Value} (ht : tmps = a.tmps) {ks : List (Nat × Obj)} (hk : ∀ x ∈ ks, w.heap[x.1]? = some x.2 ∧ oddO x.2 = true ∧ c.w0.heap.size ≤ x.1) :
    Sat P E (c.fix nb1 ρ H ks) ρ H S { tmps := tmps, defers := [] } w := by
  subst ht
  exact ⟨s.fr, s.sz, ⟨rfl, fun D hD => (by cases hD), hk, .nil⟩, s.hs, s.hin, s.kept, s.ownb, s.flt, s.hlt, fun n t h => ⟨Nat.lt_of_lt_of_le (s.olt n t h).1 h1, Tok.lt_mono h1 (s.olt n t h).2⟩, h2, s.sep, s.glob, fun _ _ => rfl, FH.le_refl H⟩
/-- A round's own frame is let go: the outer one is as it was. -/
theorem Sat.outer {c : Ctx} {ρ ρ0 : Nat → Value} {H H0 : FH} {S S' : SSt} {a a' : Act} {w w' : World} {ks ks' : List (Nat × Obj)} (s0 : Sat P E c ρ0 H0 S a w) {nb1 : Nat} (hf : ∀ i, (fget S.f i).lt nb1) (s : Sat P E (c.fix nb1 ρ0 H0 ks) ρ H S' a' w') {tmps : Array Value} (ht : tmps = a.tmps) (hk : ∀ x ∈ ks', w'.heap[x.1]? = some x.2 ∧ oddO x.2 = true ∧ c.w0.heap.size ≤ x.1) :
    Sat P E (c.fix nb1 ρ0 H0 ks') ρ H ⟨S.f, S'.h, S'.nx⟩ { tmps := tmps, defers := [] } w' := by
  subst ht
  exact ⟨fun i => Den.congr P E s.rho s.hle (hf i) (s0.fr i), s0.sz, ⟨rfl, fun D hD => (by cases hD), hk, .nil⟩, s.hs, s.hin, s.kept, s.ownb, fun i => SV.lt_mono s.nbx (hf i), s.hlt, s.olt, s.nbx, s.sep, s.glob, s.rho, s.hle⟩

theorem rng_sound {c : Ctx} {W : Opts} (hN : W.N = c.N) (hG : W.gl = c.G) (hC : ErrC E c) {Γ : Tab} (hΓ : AllValid P E c.G Γ) {g : Operand} {ps : Array Tmp} {ca cb : Code} {g' : Opd} (hg : cOpd g = some g') (hps : ps.toList.all (fun p => decide (p < W.N)) = true) (hnd : ps.toList.Nodup)
    {A B : Nat → (Ex → SSt → Prop) → SSt → Prop}
    (hA : ∀ (l : Nat) (c' : Ctx) (Q : Ex → SSt → Prop) (ρ : Nat → Value) (H : FH) (S : SSt) (a : Act) (w : World), c'.N = c.N → c'.G = c.G → ErrC E c' → A c'.nb Q S → Sat P E c' ρ H S a w → ca.wpIn (Fence.wide.inRound l) 0 P (SQ P E c' Q) a w)
    (hB : ∀ (l : Nat) (c' : Ctx) (Q : Ex → SSt → Prop) (ρ : Nat → Value) (H : FH) (S : SSt) (a : Act) (w : World), c'.N = c.N → c'.G = c.G → ErrC E c' → B c'.nb Q S → Sat P E c' ρ H S a w → cb.wpIn (Fence.wide.inRound l) 0 P (SQ P E c' Q) a w)
    {Q : Ex → SSt → Prop} {ρ : Nat → Value} {H : FH} {S : SSt} {a : Act} {w : World} (h : RngVC Γ c.nb g' ps.toList A B Q S) (s : Sat P E c ρ H S a w) : (Code.rangeFunc g ps ca cb).wpIn Fence.wide 0 P (SQX P E c Q) a w := by
  obtain ⟨f0, gf, caps, items, α, I, idx, x0, nb1, hnb1, hnb2, hfl, hi0, hleq, hf, hit, hlen, hround, hdone⟩ := h
  obtain ⟨ρ0, H0, s0⟩ := hleq.sat s
  obtain ⟨hcall, hsem⟩ := hΓ.2 gf caps items hit
  have hv := (s0.opd hg).1
  rw [show oget g' f0 = .clo gf caps from hf] at hv
  generalize hvg : a.eval g = vg at hv
  cases hv with | clo hcaps =>
  rename_i lb
  refine wpIn_rangeFunc ?_
  intro fn hfn
  obtain ⟨rec, hrec⟩ : ∃ rec : LoopState → Option Code → Loop, rec = fun st pe => { state := st, pending := pe, fn, tmps := a.tmps, params := ps, assign := ca, body := cb, defers := w.heap.size } := ⟨_, rfl⟩
  obtain ⟨W1, hW1⟩ : ∃ W1, (w.alloc (.deferred (some []))).alloc (.loop (rec .ready none)) = W1 := ⟨_, rfl⟩
  have hL1 : W1.heap[w.heap.size + 1]? = some (.loop (rec .ready none)) := by
    rw [← hW1]; have := World.alloc_heap_new (w.alloc (.deferred (some []))) (.loop (rec .ready none)); rwa [World.size_alloc] at this
  have hK1 : W1.heap[w.heap.size]? = some (.deferred (some [])) := by
    rw [← hW1]; exact (RowKit.Below.heap_alloc _ _ _ (by simp)).trans (World.alloc_heap_new w _)
  have hgrow1 : Grown w W1 := by
    rw [← hW1]
    refine ⟨rfl, rfl, rfl, by simp; omega, fun b hb _ => ?_⟩
    rw [RowKit.Below.heap_alloc _ _ _ (by simp; omega), RowKit.Below.heap_alloc _ _ _ hb]
  have hbase : c.w0.heap.size ≤ w.heap.size := s0.kept.size
  let ksO : Obj → List (Nat × Obj) := fun o => (w.heap.size + 1, o) :: (w.heap.size, .deferred (some [])) :: c.ks
  let cr : Obj → Ctx := fun o => c.fix nb1 ρ0 H0 (ksO o)
  have hold : ∀ x ∈ c.ks, x.1 < w.heap.size := fun x hx => (Array.getElem?_eq_some_iff.1 (s0.df.ks x hx).1).1
  have sW1 : Sat P E c ρ0 H0 ⟨f0, (I x0).1, (I x0).2⟩ a W1 := s0.grown hgrow1
  have s1 : Sat P E (cr (.loop (rec .ready none))) ρ0 H0 ⟨f0, (I x0).1, (I x0).2⟩ { tmps := a.tmps, defers := [] } W1 := sW1.fix hnb1 hnb2 rfl (fun x hx => by
    simp only [ksO, List.mem_cons] at hx
    rcases hx with rfl | rfl | hx
    · exact ⟨hL1, rfl, by show c.w0.heap.size ≤ w.heap.size + 1; omega⟩
    · exact ⟨hK1, rfl, hbase⟩
    · exact sW1.df.ks x hx)
  have hCr : ∀ o, ErrC E (cr o) := fun o g ad T hg he => by
    obtain ⟨h1, ⟨o', v, h2⟩, h3⟩ := hC g ad T hg he
    exact ⟨h1, ⟨o', v, s0.hle _ _ _ h2⟩, h3⟩
  -- the record of the loop becomes another one
  have turn : ∀ {o o' : Obj} {ρ' : Nat → Value} {H' : FH} {S' : SSt} {a' : Act} {W : World}, oddO o = true → oddO o' = true → Sat P E (cr o) ρ' H' S' a' W → Sat P E (cr o') ρ' H' S' a' (W.putObj (w.heap.size + 1) o') := by
    intro o o' ρ' H' S' a' W ho ho' s'
    have hl := (s'.df.ks (w.heap.size + 1, o) (by simp [cr, ksO, Ctx.fix])).1
    have hll : w.heap.size + 1 < W.heap.size := (Array.getElem?_eq_some_iff.1 hl).1
    refine s'.odd (ds := []) (ks := ksO o') hl ho (by show c.w0.heap.size ≤ w.heap.size + 1; omega) ⟨s'.df.eq, fun D hD => (by cases hD), fun x hx => ?_, .nil⟩
    simp only [ksO, List.mem_cons] at hx
    rcases hx with rfl | rfl | hx
    · exact ⟨World.putObj_heap_same hll, ho', by show c.w0.heap.size ≤ w.heap.size + 1; omega⟩
    · exact ⟨(World.putObj_heap_other (by omega)).trans (s'.df.ks (w.heap.size, .deferred (some [])) (by simp [cr, ksO, Ctx.fix])).1, rfl, hbase⟩
    · refine ⟨(World.putObj_heap_other (by have := hold x hx; omega)).trans (s'.df.ks x (by simp [cr, ksO, Ctx.fix, hx])).1, (s0.df.ks x hx).2⟩
  have keepK : ∀ {o : Obj} {ρ' : Nat → Value} {H' : FH} {S' : SSt} {a' : Act} {W : World}, Sat P E (cr o) ρ' H' S' a' W → ∀ x ∈ ksO o, W.heap[x.1]? = some x.2 ∧ oddO x.2 = true ∧ c.w0.heap.size ≤ x.1 := fun s' x hx => s'.df.ks x hx
  have out : ∀ {o : Obj} {ρ' : Nat → Value} {H' : FH} {S' : SSt} {a' : Act} {W : World}, Sat P E (cr o) ρ' H' S' a' W → Sat P E (cr o) ρ' H' ⟨f0, S'.h, S'.nx⟩ { tmps := a.tmps, defers := [] } W := fun s' => Sat.outer s0 hfl s' rfl (keepK s')
  refine ⟨w.heap.size + 1, [{ target := .collected w.heap.size, args := #[] }], W1, { target := .fn (.func gf) lb.toArray, args := #[.func (.yield (w.heap.size + 1)) #[] #[]] }, W1, gf,
    #[.func (.yield (w.heap.size + 1)) #[] #[]] ++ lb.toArray, W1, ?_, ?_, fun _ _ => trivial, ?_, fun hh => (by cases hh), ?_⟩
  · rw [← hW1, hrec]; exact run_enterLoop_outer _ _ _ _ _
  · simp only [resolve, hvg]
    simp [go_sem]
  · simp [invoke, go_sem, callOk_run hcall]
  refine (hsem ρ0 H0 lb hcaps s0.glob (w.heap.size + 1)
    (fun i W => ∃ x ρ' H', idx x = i ∧ Sat P E (cr (.loop (rec .ready none))) ρ' H' ⟨f0, (I x).1, (I x).2⟩ { tmps := a.tmps, defers := [] } W)
    (fun W => ∃ (cd : Code) (e : Ex) (hh : Heap) (nn : Nat) (ρ' : Nat → Value) (H' : FH), (cd = .ret ∧ e = .ret ∨ ∃ id, cd = .exit id ∧ e = .ext id) ∧ Q e ⟨f0, hh, nn⟩ ∧ Sat P E (cr (.loop (rec .done (some cd)))) ρ' H' ⟨f0, hh, nn⟩ { tmps := a.tmps, defers := [] } W)
    (fun i W W' ⟨x, ρ', H', hx, hs⟩ hk => ⟨x, ρ', H', hx, hs.grown hk⟩) (fun W W' ⟨cd, e, hh, nn, ρ', H', h1, h2, hs⟩ hk => ⟨cd, e, hh, nn, ρ', H', h1, h2, hs.grown hk⟩) ?_ W1 ⟨x0, ρ0, H0, hi0, s1⟩ s1.hin ((hCr _).now0 s1)).mono ?_
  · -- a round
    rintro i hi Wa Wb ρ1 H1 vs ⟨x, ρ', H', hx, sx⟩ hgr hH1 hin1 hle1 hs1 hlt1 hnew1 hden1 hltl
    subst hx
    have hL2 := ((sx.grown hgr).df.ks (w.heap.size + 1, .loop (rec .ready none)) (by simp [cr, ksO, Ctx.fix])).1
    have hil : items.getD (idx x) ([], []) = items[idx x] := by rw [List.getD_eq_getElem?_getD, List.getElem?_eq_getElem hi]; rfl
    have hvl : vs.length = ps.toList.length := by rw [← denV_length hden1]; exact hlen _ (List.getElem_mem hi)
    have hy := run_yield (P := P) (args := vs.toArray) hL2 (by rw [hrec]; simpa using hvl)
    rw [hrec] at hy
    refine ⟨fn, _, ca, cb, hy, roundIn_of_wpIn hfn ?_⟩
    -- the round's first state
    let ρ2 : Nat → Value := fun m => if m < (I x).2 then ρ' m else ρ1 (m - (I x).2)
    let H2 : FH := fun b o => if b < Wa.heap.size then H' b o else H1 b o
    have hρ1 : ∀ n, ρ2 (shN (I x).2 n) = ρ1 n := fun n => by show (if (I x).2 + n < (I x).2 then _ else _) = _; rw [if_neg (by omega)]; congr 1; show (I x).2 + n - (I x).2 = n; omega
    have hρo : ∀ n, n < (I x).2 → ρ2 n = ρ' n := fun n hn => if_pos hn
    have hHo : H'.le H2 := fun b o v hv => by show (if b < Wa.heap.size then _ else _) = _; rw [if_pos (sx.hin.lt hv)]; exact hv
    have hHn : H1.le H2 := fun b o v hv => by
      show (if b < Wa.heap.size then _ else _) = _
      split
      · rename_i hb
        rcases hH1 b o v hv with h1 | h1
        · exact sx.hle b o v h1
        · omega
      · exact hv
    have hin2 : FHin H2 Wb := fun b o v hv => by
      change (if b < Wa.heap.size then _ else _) = _ at hv
      split at hv
      · exact (sx.grown hgr).hin b o v hv
      · exact hin1 b o v hv
    have hnoH : ∀ n t b, hget items[idx x].2 n = some t → blk (ρ1 n) = some b → ∀ o, H2 b o = none := fun n t b h1 h2 o => by
      show (if b < Wa.heap.size then _ else _) = _
      rw [if_neg (by have := hnew1 n t b h1 h2; omega)]
      exact (tokSat_new (hs1.tok n t h1) b h2).2 o
    have hoNo : ∀ n t b, hget ((I x).1 ++ c.o) n = some t → blk (ρ' n) = some b → ∀ o, H2 b o = none := fun n t b h1 h2 o => by
      show (if b < Wa.heap.size then _ else _) = _
      have h3 := tokSat_new (sx.hs.tok n t h1) b h2
      rw [if_pos h3.1]; exact h3.2 o
    have hget3 : ∀ n t, hget (shH (I x).2 items[idx x].2 ++ (I x).1 ++ c.o) n = some t → (∃ m u, n = (I x).2 + m ∧ hget items[idx x].2 m = some u ∧ t = u.ren (shN (I x).2)) ∨ (n < (I x).2 ∧ hget ((I x).1 ++ c.o) n = some t) := by
      intro n t hn
      rw [List.append_assoc, hget_append] at hn
      cases hm : hget (shH (I x).2 items[idx x].2) n with
      | some u =>
        rw [hm] at hn
        cases hn
        exact .inl (hget_shH hm)
      | none => rw [hm] at hn; exact .inr ⟨(sx.hlt n t hn).1, hn⟩
    have s2 : Sat P E (cr (.loop (rec .ready none))) ρ2 H2 ⟨f0, shH (I x).2 items[idx x].2 ++ (I x).1, (I x).2 + 64⟩ { tmps := a.tmps, defers := [] } Wb := by
      refine sx.next (Nat.le_add_right _ _) hρo hHo hin2 ⟨?_, ?_⟩ ⟨hgr.os, hgr.tape, hgr.output, hgr.size, fun b hb _ => hgr.block b hb (fun h => h)⟩ ?_ ?_ ?_
      · intro n t hn
        rcases hget3 n t hn with ⟨m, u, rfl, hm, rfl⟩ | ⟨hnx, hn⟩
        · have := TokSat.rn hρ1 (hs1.tok m u hm)
          refine tokSat_keep (nx := (I x).2 + 64) this (by have := (hlt1 m u hm).1; show (I x).2 + m < _; omega) (Tok.lt_rn (hlt1 m u hm).2) (fun _ _ => rfl) hHn (fun _ _ => rfl) (fun b hb => ?_)
          rw [show ρ2 ((I x).2 + m) = ρ1 m from hρ1 m] at hb
          exact hnoH m u b hm hb
        · exact tokSat_keep (sx.hs.tok n t hn) hnx (sx.hlt n t hn).2 hρo hHo (fun b hb => hgr.block b (tokSat_new (sx.hs.tok n t hn) b hb).1 (fun h => h)) (fun b hb => hoNo n t b hn hb)
      · intro n m t u b h1 h2 hne hb hc
        rcases hget3 n t h1 with ⟨n', t', rfl, hn, rfl⟩ | ⟨hnx, hn⟩ <;> rcases hget3 m u h2 with ⟨m', u', rfl, hm, rfl⟩ | ⟨hmx, hm⟩
        · rw [show ρ2 ((I x).2 + n') = ρ1 n' from hρ1 n'] at hb
          rw [show ρ2 ((I x).2 + m') = ρ1 m' from hρ1 m'] at hc
          exact hs1.dis n' m' _ _ b hn hm (fun e => hne (by rw [e])) hb hc
        · rw [show ρ2 ((I x).2 + n') = ρ1 n' from hρ1 n'] at hb
          rw [hρo m hmx] at hc
          have := hnew1 n' _ b hn hb
          have := (tokSat_new (sx.hs.tok m u hm) b hc).1
          omega
        · rw [hρo n hnx] at hb
          rw [show ρ2 ((I x).2 + m') = ρ1 m' from hρ1 m'] at hc
          have := hnew1 m' _ b hm hc
          have := (tokSat_new (sx.hs.tok n t hn) b hb).1
          omega
        · rw [hρo n hnx] at hb
          rw [hρo m hmx] at hc
          exact sx.hs.dis n m t u b hn hm hne hb hc
      · intro n t b h1 hb
        rcases hget3 n t h1 with ⟨n', t', rfl, hn, rfl⟩ | ⟨hnx, hn⟩
        · rw [show ρ2 ((I x).2 + n') = ρ1 n' from hρ1 n'] at hb
          exact .inr (hnew1 n' _ b hn hb)
        · rw [hρo n hnx] at hb
          exact .inl ⟨n, t, hn, hb⟩
      · intro n t h1
        rcases hget3 n t h1 with ⟨n', t', rfl, hn, rfl⟩ | ⟨hnx, hn⟩
        · have := hlt1 n' _ hn
          exact ⟨by omega, Tok.lt_rn this.2⟩
        · exact ⟨Nat.lt_of_lt_of_le hnx (Nat.le_add_right _ 64), Tok.lt_mono (Nat.le_add_right (I x).2 64) (sx.hlt n t hn).2⟩
      · intro n t h1
        rw [hget_append] at h1
        cases hm : hget (shH (I x).2 items[idx x].2) n with
        | some u =>
          obtain ⟨m, u', rfl, _, _⟩ := hget_shH hm
          cases ho : hget c.o ((I x).2 + m) with
          | none => exact ho
          | some v => have := (sx.olt _ v ho).1; have := sx.nbx; simp only [cr, Ctx.fix] at *; omega
        | none => rw [hm] at h1; exact sx.sep n t h1
    have hz := zip_den (P := P) (E := E) (N := c.N) (ps := ps.toList) (f := f0) (t := a.tmps) (DenV.rn hρ1 (DenV.congr P E (nx := 64) (fun _ _ => rfl) hHn hltl hden1)) hnd (fun p hp => by have := List.all_eq_true.1 hps p hp; rw [hN] at this; exact of_decide_eq_true this) s0.sz (fun i => s2.fr i)
    have s3 : Sat P E (cr (.loop (rec .ready none))) ρ2 H2 ⟨zipF ps.toList (SV.renL (shN (I x).2) items[idx x].1) f0, shH (I x).2 items[idx x].2 ++ (I x).1, (I x).2 + 64⟩ { tmps := (ps.toList.zip vs).foldl (fun t p => t.setIfInBounds p.1 p.2) a.tmps, defers := [] } Wb :=
      Sat.re s2 hz.2 (zip_lt (SV.ltL_rn hltl) s2.flt) hz.1 s2.df
    have ezip : ((ps.zip vs.toArray).foldl (fun tmps (t, a) => tmps.setIfInBounds t a) a.tmps) = (ps.toList.zip vs).foldl (fun t p => t.setIfInBounds p.1 p.2) a.tmps := by
      rw [← Array.foldl_toList, Array.toList_zip]
    have hr := hround x hi
    rw [hil] at hr
    rw [ezip]
    refine wpIn_mono (hA (w.heap.size + 1) (cr (.loop (rec .ready none))) _ _ _ _ _ _ rfl rfl (hCr _) hr s3) ?_
    rintro ex a4 W4 ⟨e4, S4, ρ4, H4, he4, hq4, s4⟩
    cases ex <;> simp only [exOf] at he4 <;> cases he4
    · -- the body
      have hL4 := (s4.df.ks (w.heap.size + 1, .loop (rec .ready none)) (by simp [cr, ksO, Ctx.fix])).1
      refine ⟨_, run_beginRound hL4 (by rw [hrec]), ?_⟩
      have s5 := turn (o' := .loop { rec .ready none with state := .busy }) rfl rfl s4
      refine wpIn_mono (hB (w.heap.size + 1) (cr (.loop { rec .ready none with state := .busy })) _ _ _ _ _ _ rfl rfl (hCr _) hq4 s5) ?_
      rintro ex a6 W6 ⟨e6, S6, ρ6, H6, he6, hq6, s6⟩
      have hL6 := (s6.df.ks (w.heap.size + 1, .loop { rec .ready none with state := .busy }) (by simp [cr, ksO, Ctx.fix])).1
      cases ex <;> simp only [exOf] at he6 <;> cases he6
      · obtain ⟨x', hx', hleq'⟩ := hq6
        obtain ⟨ρ7, H7, s7⟩ := Leq.sat (c := cr (.loop { rec .ready none with state := .busy })) hleq' s6
        have s8 := out s7
        have s9 := turn (o' := .loop { { rec .ready none with state := .busy } with state := .ready, pending := none }) rfl rfl s8
        have hrr : ({ { rec .ready none with state := .busy } with state := .ready, pending := none } : Loop) = rec .ready none := by rw [hrec]
        rw [hrr] at s9
        have hrun := run_endRound (P := P) none hL6
        simp only [Option.isNone_none, if_true] at hrun
        rw [hrr] at hrun
        exact ⟨_, _, hrun, .inl ⟨rfl, ⟨x', ρ7, H7, hx', s9⟩, fun b o v hv => s9.hin b o v (s9.hle b o v hv), (hCr _).now0 s9⟩⟩
      · rename_i id
        have s8 := out s6
        have s9 := turn (o' := .loop { { rec .ready none with state := .busy } with state := .done, pending := some (.exit id) }) rfl rfl s8
        have hrr : ({ { rec .ready none with state := .busy } with state := .done, pending := some (.exit id) } : Loop) = rec .done (some (.exit id)) := by rw [hrec]
        rw [hrr] at s9
        have hrun := run_endRound (P := P) (some (.exit id)) hL6
        simp only [Option.isNone_some, Bool.false_eq_true, if_false] at hrun
        rw [hrr] at hrun
        exact ⟨_, _, hrun, .inr ⟨rfl, ⟨.exit id, .ext id, S6.h, S6.nx, ρ6, H6, .inr ⟨id, rfl, rfl⟩, hq6, s9⟩, fun b o v hv => s9.hin b o v (s9.hle b o v hv), (hCr _).now0 s9⟩⟩
      · have s8 := out s6
        have s9 := turn (o' := .loop { { rec .ready none with state := .busy } with state := .done, pending := some .ret }) rfl rfl s8
        have hrr : ({ { rec .ready none with state := .busy } with state := .done, pending := some .ret } : Loop) = rec .done (some .ret) := by rw [hrec]
        rw [hrr] at s9
        have hrun := run_endRound (P := P) (some .ret) hL6
        simp only [Option.isNone_some, Bool.false_eq_true, if_false] at hrun
        rw [hrr] at hrun
        exact ⟨_, _, hrun, .inr ⟨rfl, ⟨.ret, .ret, S6.h, S6.nx, ρ6, H6, .inl ⟨rfl, rfl⟩, hq6, s9⟩, fun b o v hv => s9.hin b o v (s9.hle b o v hv), (hCr _).now0 s9⟩⟩
    · exact hq4.elim
    · exact hq4.elim
  · -- behind the iterator
    have fin : ∀ {o : Obj} {ρ' : Nat → Value} {H' : FH} {S' : SSt} {W : World}, Sat P E (cr o) ρ' H' S' { tmps := a.tmps, defers := [] } W → Sat P E { c with dfs := w.heap.size :: c.dfs, ks := (w.heap.size, .deferred (some [])) :: c.ks } ρ' H' S' { a with defers := [{ target := .collected w.heap.size, args := #[] }] ++ a.defers } W := by
      intro o ρ' H' S' W s'
      refine ⟨s'.fr, s'.sz, ⟨?_, fun D hD => ?_, fun x hx => ?_, ?_⟩, s'.hs, s'.hin, s'.kept, s'.ownb, s'.flt, s'.hlt, s0.olt, Nat.le_trans hnb1 s'.nbx, s'.sep, s'.glob, fun n hn => (s'.rho n (Nat.lt_of_lt_of_le hn hnb1)).trans (s0.rho n hn), FH.le_trans s0.hle s'.hle⟩
      · simp [s0.df.eq]
      · simp only [List.mem_cons] at hD
        rcases hD with rfl | hD
        · simp
        · simp [s0.df.sub D hD]
      · simp only [List.mem_cons] at hx
        rcases hx with rfl | hx
        · exact s'.df.ks (w.heap.size, .deferred (some [])) (by simp [cr, ksO, Ctx.fix])
        · exact s'.df.ks x (by simp [cr, ksO, Ctx.fix, hx])
      · exact List.nodup_cons.2 ⟨fun hm => by have := hold _ (s0.df.sub _ hm); simp at this, s0.df.nd⟩
    rintro e W2 ⟨⟨v, rfl⟩, ⟨x, ρ', H', hx, sx⟩ | ⟨cd, e', hh, nn, ρ', H', hcd, hq, sx⟩⟩
    · have hl := (sx.df.ks (w.heap.size + 1, .loop (rec .ready none)) (by simp [cr, ksO, Ctx.fix])).1
      have hrun := run_endLoop (P := P) hl (by rw [hrec]; simp)
      have hrun2 : (Instr.endLoop (w.heap.size + 1)).run P W2 = .ok none (W2.putObj (w.heap.size + 1) (.loop { rec .ready none with state := .exhausted })) := by rw [hrun, hrec]
      have s9 := fin (turn (o' := .loop { rec .ready none with state := .exhausted }) rfl rfl sx)
      exact ⟨none, _, hrun2, .nrm, _, ρ', H', w.heap.size :: c.dfs, (w.heap.size, .deferred (some [])) :: c.ks, fun y hy => List.mem_cons_of_mem _ hy, rfl, hdone x hx, s9⟩
    · have hl := (sx.df.ks (w.heap.size + 1, .loop (rec .done (some cd))) (by simp [cr, ksO, Ctx.fix])).1
      have hrun := run_endLoop (P := P) hl (by rw [hrec]; simp)
      have hrun2 : (Instr.endLoop (w.heap.size + 1)).run P W2 = .ok (some cd) (W2.putObj (w.heap.size + 1) (.loop { rec .done (some cd) with state := .exhausted })) := by rw [hrun, hrec]
      have s9 := fin (turn (o' := .loop { rec .done (some cd) with state := .exhausted }) rfl rfl sx)
      refine ⟨some cd, _, hrun2, ?_⟩
      rcases hcd with ⟨rfl, rfl⟩ | ⟨id, rfl, rfl⟩
      · exact wpIn_ret ⟨.ret, _, ρ', H', w.heap.size :: c.dfs, (w.heap.size, .deferred (some [])) :: c.ks, fun y hy => List.mem_cons_of_mem _ hy, rfl, hq, s9⟩
      · exact wpIn_exit ⟨.ext id, _, ρ', H', w.heap.size :: c.dfs, (w.heap.size, .deferred (some [])) :: c.ks, fun y hy => List.mem_cons_of_mem _ hy, rfl, hq, s9⟩
theorem vc_sound {et : Option TypeId} (hE : Errs2 P et E) {W : Opts} {Γ : Tab} (hΓ : AllValid P E W.gl Γ) (het : W.et = et) {R : List Nat} : ∀ {code : Code} {c : Ctx} (hN : W.N = c.N) (hG : W.gl = c.G) (hC : ErrC E c) {ic : IC} {L X : List Nat} {Q : Ex → SSt → Prop} {ρ : Nat → Value} {H : FH} {S : SSt} {a : Act} {w : World},
    compC P W code = some ic → vc Γ c.nb (trimIC R ic L X).1 Q S → Sat P E c ρ H S a w → code.wp P (SQX P E c Q) a w := by
  intro code
  induction code with
  | skip => intro c hN hG hC ic L X Q ρ H S a w hc h s; simp only [compC] at hc; cases hc; simp only [trimIC] at h; exact wp_skip ⟨.nrm, S, ρ, H, c.dfs, c.ks, fun _ h => h, rfl, h, s⟩
  | region id ops draw =>
    intro c hN hG hC ic L X Q ρ H S a w hc h s
    cases draw with
    | true =>
      simp only [compC] at hc
      split at hc
      · rename_i fz l e
        have key : ∀ {ρ : Nat → Value} {H : FH} {S : SSt}, Sat P E c ρ H S a w → vD Γ l (fun S' => Q .nrm (S'.trim L)) (Fw.frzL (ogets fz S.f) S) → Code.wp P (.region id ops true) (SQX P E c Q) a w := by
          intro ρ H S s h
          obtain ⟨H', _, s'⟩ := s.frzL (l := ogets fz S.f)
          exact rgn_sound hE hN hG ⟨hC, het⟩ (hG ▸ hΓ) (fun S' h' ρ' H' a' w' s' => ⟨.nrm, S'.trim L, ρ', H', c.dfs, c.ks, fun _ h => h, rfl, h', s'.trim⟩) e s' h
        split at hc
        · cases hc
          simp only [trimIC, vc] at h
          exact key s h
        · cases hc
          simp only [trimIC, vc] at h
          obtain ⟨H1, s1⟩ := s.frpL (xs := fpOf P W l) (fun x hx => by
            unfold fpOf at hx
            obtain ⟨p, _, rfl⟩ := List.mem_map.1 hx
            rfl)
          exact key s1 h
      · obtain ⟨⟨fz, l, l1, l2⟩, e, rfl⟩ := Option.map_eq_some_iff.1 hc
        simp only [trimIC, vc] at h
        obtain ⟨H', _, s'⟩ := s.frzL (l := ogets fz S.f)
        exact rgnB_sound hE hN hG ⟨hC, het⟩ (hG ▸ hΓ) (fun S' h' ρ' H' a' w' s' => ⟨.nrm, S'.trim L, ρ', H', c.dfs, c.ks, fun _ h => h, rfl, h', s'.trim⟩) e s' h
    | false =>
      simp only [compC] at hc
      split at hc
      · cases hc; simp only [trimIC, vc] at h
      obtain ⟨l, hl, rfl⟩ := Option.map_eq_some_iff.1 hc
      simp only [trimIC, vc] at h
      exact wp_region_list (vOps_sound hE hN hG ⟨hC, het⟩ (hG ▸ hΓ) (fun S' h' ρ' H' a' w' s' => ⟨.nrm, S'.trim L, ρ', H', c.dfs, c.ks, fun _ h => h, rfl, h', s'.trim⟩) hl s h)
  | seq x y ihx ihy =>
    intro c hN hG hC ic L X Q ρ H S a w hc h s
    simp only [compC] at hc
    split at hc
    · rename_i x' y' e1 e2; cases hc
      simp only [trimIC, vc] at h
      refine wp_seq (Code.wp_mono ?_ (ihx hN hG hC e1 h s))
      rintro ex a' w' ⟨e, S', ρ', H', ds, ks, hks, he, hq, s'⟩
      cases ex <;> simp only [exOf] at he <;> cases he
      · exact SQX.widen hks (ihy (c := { c with dfs := ds, ks := ks }) hN hG hC e2 hq s')
      · exact ⟨_, S', ρ', H', ds, ks, hks, rfl, hq, s'⟩
      · exact ⟨_, S', ρ', H', ds, ks, hks, rfl, hq, s'⟩
    · cases hc
  | cond cc x y ihx ihy =>
    intro c hN hG hC ic L X Q ρ H S a w hc h s
    simp only [compC] at hc
    split at hc
    · rename_i c' x' y' e1 e2 e3; cases hc
      simp only [trimIC, vc] at h
      split at h
      · rename_i b hb
        have sc := (s.opd e1).1
        rw [hb] at sc
        generalize hv : a.eval cc = v at sc
        cases sc
        exact wp_cond_split hv (fun e => ihx hN hG hC e2 (h.1 e) s) (fun e => ihy hN hG hC e3 (h.2 e) s)
      · exact h.elim
    · cases hc
  | block id b ih =>
    intro c hN hG hC ic L X Q ρ H S a w hc h s
    simp only [compC] at hc
    obtain ⟨b', hb, rfl⟩ := Option.map_eq_some_iff.1 hc
    simp only [trimIC, vc] at h
    refine wp_block (Code.wp_mono ?_ (ih hN hG hC hb h s))
    rintro ex a' w' ⟨e, S', ρ', H', ds, ks, hks, he, hq, s'⟩
    cases ex <;> simp only [exOf] at he <;> cases he
    · exact ⟨_, S', ρ', H', ds, ks, hks, rfl, hq, s'⟩
    · rename_i j
      simp only [Exit.inBlock]
      simp only at hq
      split at hq
      · rename_i e; rw [if_pos e]; exact ⟨_, S', ρ', H', ds, ks, hks, rfl, hq, s'⟩
      · rename_i e; rw [if_neg e]; exact ⟨_, S', ρ', H', ds, ks, hks, rfl, hq, s'⟩
    · exact ⟨_, S', ρ', H', ds, ks, hks, rfl, hq, s'⟩
  | loop b ih =>
    intro c hN hG hC ic L X Q ρ H S a w hc h s
    simp only [compC] at hc
    obtain ⟨b', hb, rfl⟩ := Option.map_eq_some_iff.1 hc
    simp only [trimIC, vc] at h
    obtain ⟨α, I, μ, a0, h0, hr⟩ := h
    obtain ⟨ρ0, H0, s0⟩ := h0.sat s
    classical
    let HS : α → Act → World → Prop := fun x a w => ∃ ρ H ds ks, (∀ x ∈ c.ks, x ∈ ks) ∧ Sat P E { c with dfs := ds, ks := ks } ρ H (I x) a w
    have hm : ∀ a w, ∃ m, (∃ x, HS x a w) → (∃ x, HS x a w ∧ μ x = m) ∧ ∀ x, HS x a w → m ≤ μ x := by
      intro a w
      by_cases hx : ∃ n x, HS x a w ∧ μ x = n
      · obtain ⟨m, h1, h2⟩ := least _ hx
        exact ⟨m, fun _ => ⟨h1, fun x hs => h2 _ ⟨x, hs, rfl⟩⟩⟩
      · exact ⟨0, fun ⟨x, hs⟩ => absurd ⟨_, x, hs, rfl⟩ hx⟩
    refine wp_loop (fun a w => ∃ x, HS x a w) (fun a w => Classical.choose (hm a w)) ⟨a0, ρ0, H0, c.dfs, c.ks, fun _ h => h, s0⟩ ?_
    intro a w hx
    obtain ⟨⟨x, hsx, hmx⟩, hle⟩ := Classical.choose_spec (hm a w) hx
    obtain ⟨ρx, Hx, dx, kx, hkx, hs⟩ := hsx
    refine Code.wp_mono ?_ (ih (c := { c with dfs := dx, ks := kx }) hN hG hC hb (hr x) hs)
    rintro ex a' w' ⟨e, S', ρ', H', ds, ks, hks, he, hq, s'⟩
    cases ex <;> simp only [exOf] at he <;> cases he
    · obtain ⟨x', hlt, hleq⟩ := hq
      obtain ⟨ρ'', H'', s''⟩ := Leq.sat (c := { c with dfs := ds, ks := ks }) hleq s'
      have hx' : ∃ x, HS x a' w' := ⟨x', ρ'', H'', ds, ks, fun x h => hks x (hkx x h), s''⟩
      refine ⟨hx', ?_⟩
      have := (Classical.choose_spec (hm a' w') hx').2 x' ⟨ρ'', H'', ds, ks, fun x h => hks x (hkx x h), s''⟩
      show Classical.choose (hm a' w') < Classical.choose (hm a w)
      omega
    · exact ⟨_, S', ρ', H', ds, ks, fun x h => hks x (hkx x h), rfl, hq, s'⟩
    · exact ⟨_, S', ρ', H', ds, ks, fun x h => hks x (hkx x h), rfl, hq, s'⟩
  | exit id => intro c hN hG hC ic L X Q ρ H S a w hc h s; simp only [compC] at hc; cases hc; exact wp_exit ⟨_, S, ρ, H, c.dfs, c.ks, fun _ h => h, rfl, h, s⟩
  | ret => intro c hN hG hC ic L X Q ρ H S a w hc h s; simp only [compC] at hc; cases hc; exact wp_ret ⟨_, S, ρ, H, c.dfs, c.ks, fun _ h => h, rfl, h, s⟩
  | rangeFunc g ps ca cb iha ihb =>
    intro c hN hG hC ic L X Q ρ H S a w hc h s
    simp only [compC] at hc
    split at hc
    · rename_i g' x y e1 e2 e3
      split at hc
      · rename_i hok
        have key : ∀ {Hx : FH} {Sx : SSt}, Sat P E c ρ Hx Sx a w → vc Γ c.nb (trimIC R (.rng g' ps.toList x y) L X).1 Q Sx → Code.wp P (.rangeFunc g ps ca cb) (SQX P E c Q) a w := by
          intro Hx Sx s h
          simp only [trimIC, vc] at h
          refine Code.wp_mono ?_ (wpIn_wide.1 (rng_sound hN hG hC (hG ▸ hΓ) e1 hok.1 hok.2.1
            (fun l c' Q ρ H S a w h1 h2 h3 h4 s => vc_soundF (c := c') hE (hN.trans h1.symm) (hG.trans h2.symm) ⟨h3, het⟩ (show AllValid P E c'.G Γ by rw [h2, ← hG]; exact hΓ) l hok.2.2.1 e2 h4 s)
            (fun l c' Q ρ H S a w h1 h2 h3 h4 s => vc_soundF (c := c') hE (hN.trans h1.symm) (hG.trans h2.symm) ⟨h3, het⟩ (show AllValid P E c'.G Γ by rw [h2, ← hG]; exact hΓ) l hok.2.2.2 e3 h4 s) h s))
          rintro ex a' w' ⟨e, S', ρ', H', ds, ks, hks, he, hq, s'⟩
          cases ex <;> simp only [exOf] at he <;> cases he
          · exact ⟨.nrm, S'.trim L, ρ', H', ds, ks, hks, rfl, hq, s'.trim⟩
          · exact ⟨_, S', ρ', H', ds, ks, hks, rfl, hq, s'⟩
          · exact ⟨_, S', ρ', H', ds, ks, hks, rfl, hq, s'⟩
        split at hc
        · cases hc
          exact key s h
        · cases hc
          obtain ⟨H1, s1⟩ := s.frpL (xs := fpRng P W x y) (fun z hz => by
            unfold fpRng at hz
            obtain ⟨p, _, rfl⟩ := List.mem_map.1 hz
            rfl)
          refine key s1 ?_
          simp only [trimIC, vc] at h ⊢
          exact h
      · cases hc
    · cases hc
  | scope b ih =>
    intro c hN hG hC ic L X Q ρ H S a w hc h s
    simp only [compC] at hc
    refine wp_scope_straight (Code.wp_mono ?_ (ih hN hG hC hc h s))
    rintro ex a' w' ⟨e, S', ρ', H', ds, ks, hks, he, hq, s'⟩
    cases ex <;> simp only [exOf] at he <;> cases he
    · exact ⟨_, S', ρ', H', ds, ks, hks, rfl, hq, s'⟩
    · exact ⟨_, S', ρ', H', ds, ks, hks, rfl, hq, s'⟩
    · exact ⟨_, S', ρ', H', ds, ks, hks, rfl, hq, s'⟩
  | label => intro c hN hG hC ic L X Q ρ H S a w hc h s; simp only [compC] at hc; cases hc; simp only [trimIC] at h; exact wp_label ⟨.nrm, S, ρ, H, c.dfs, c.ks, fun _ h => h, rfl, h, s⟩
  | goto => intro c hN hG hC ic L X Q ρ H S a w hc h s; simp [compC] at hc
  | refuse => intro c hN hG hC ic L X Q ρ H S a w hc h s; simp [compC] at hc
end
end Go.Fw
