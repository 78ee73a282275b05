/- The frame-work, part V: functions. -/
import Derived.Test.YtnpjmmimlhgipaaDoorFwUb
namespace Go.Fw
set_option linter.unusedVariables false
set_option linter.unusedSimpArgs false
open Go

inductive RV where
  | t (s : Nat)
  | c (s : Nat) (ty : Ty)
  deriving Inhabited

def compR (P : Program) : List ResultVar → Option (List RV)
  | [] => some []
  | .tmp t :: r => (compR P r).map (.t t :: ·)
  | .cell a ty :: r => if szOk P ty = true then (compR P r).map (.c a (tyOf P 8 ty) :: ·) else none

def evR (r : RV) (S : SSt) : Option (Prop × SV) :=
  match r with
  | .t s => some (True, fget S.f s)
  | .c s ty => match fget S.f s with
    | .ptr n o => evLd ty (.ptr n o) S.h
    | _ => none
def evRs : List RV → SSt → Option (Prop × List SV)
  | [], _ => some (True, [])
  | r :: l, S => match evR r S, evRs l S with
    | some (p, x), some (q, xs) => some (p ∧ q, x :: xs)
    | _, _ => none
def mkR : List SV → SV
  | [x] => x
  | l => .tup l

/-- The state that is left, out of a function: its results, what it owns. -/
def Fin (nb : Nat) (K : SV → Heap → Prop) (rs : List RV) (S : SSt) : Prop :=
  match evRs rs S with
  | some (p, xs) => p ∧ ∃ x h', Leq nb { f := [(0, mkR xs)], h := S.h, nx := S.nx } { f := [(0, x)], h := h', nx := nb + 64 } ∧ K x h'
  | none => False

def frOf : Nat → List SV → Fr
  | _, [] => []
  | k, x :: l => (k, x) :: frOf (k + 1) l

section
variable {P : Program} {E : Nat → Value}

def rv (tmps : Array Value) : ResultVar → Sem Value
  | .tmp t => pure (tmps.getD t undef)
  | .cell a t => do loadVar t (← asAddr (tmps.getD a undef))

theorem results_rv (fn : Func) (tmps : Array Value) : results fn tmps = (do let vs ← fn.results.mapM (rv tmps); pure (if h : vs.size = 1 then vs[0] else .tuple vs)) := by
  unfold results
  congr 1
theorem run_results1 {fn : Func} {tmps : Array Value} {r : ResultVar} (h : fn.results = #[r]) {w : World} {v : Value} (hv : (rv tmps r).run P w = .ok v w) : (results fn tmps).run P w = .ok v w := by
  simp [results_rv, h, hv]
theorem run_results0 {fn : Func} {tmps : Array Value} (h : fn.results = #[]) {w : World} : (results fn tmps).run P w = .ok (.tuple #[]) w := by
  simp [results_rv, h]
theorem run_results2 {fn : Func} {tmps : Array Value} {r s : ResultVar} (h : fn.results = #[r, s]) {w : World} {u v : Value} (hu : (rv tmps r).run P w = .ok u w) (hv : (rv tmps s).run P w = .ok v w) : (results fn tmps).run P w = .ok (.tuple #[u, v]) w := by
  simp [results_rv, h, hu, hv]
theorem run_results3 {fn : Func} {tmps : Array Value} {r s t : ResultVar} (h : fn.results = #[r, s, t]) {w : World} {u v x : Value} (hu : (rv tmps r).run P w = .ok u w) (hv : (rv tmps s).run P w = .ok v w) (hx : (rv tmps t).run P w = .ok x w) : (results fn tmps).run P w = .ok (.tuple #[u, v, x]) w := by
  simp [results_rv, h, hu, hv, hx]

theorem evR_sound (hE : Errs E) {c : Ctx} {ρ : Nat → Value} {H : FH} {S : SSt} {a : Act} {w : World} (s : Sat P E c ρ H S a w) {r : ResultVar} {r' : RV} {l : List RV} {rest : List ResultVar} (hc : compR P (r :: rest) = some (r' :: l)) {p : Prop} {x : SV} (h : evR r' S = some (p, x)) (hp : p) :
    compR P rest = some l ∧ ∃ v, (rv a.tmps r).run P w = .ok v w ∧ Den P E ρ H x v ∧ x.lt S.nx := by
  cases r with
  | tmp t =>
    simp only [compR] at hc
    obtain ⟨m, h1, h2⟩ := Option.map_eq_some_iff.1 hc
    cases h2
    simp only [evR] at h; cases h
    exact ⟨h1, _, by simp [rv, Sem.run, pure], s.fr t, s.flt t⟩
  | cell ad ty =>
    simp only [compR] at hc
    split at hc
    · rename_i hsz
      obtain ⟨m, h1, h2⟩ := Option.map_eq_some_iff.1 hc
      cases h2
      refine ⟨h1, ?_⟩
      simp only [evR] at h
      split at h
      · rename_i n o hv
        obtain ⟨hu, hs⟩ := szOk_spec hsz
        have sx := s.fr ad
        have sl := s.flt ad
        rw [hv] at sx sl
        obtain ⟨v, h3, h4, h5⟩ := load_sound hE.one s hu hs h hp sx sl
        refine ⟨v, ?_, h4, h5⟩
        generalize hvx : a.tmps.getD ad undef = vx at *
        cases sx with | ptr _ =>
        simp only [Instr.loadAt, Instr.sureAddr, Sem.run_bind] at h3
        simp only [rv, hvx, asAddr, Sem.run_bind]
        exact h3
      · cases h
    · cases hc

theorem results_sound (hE : Errs E) {c : Ctx} {ρ : Nat → Value} {H : FH} {S : SSt} {a : Act} {w : World} (s : Sat P E c ρ H S a w) {fn : Func} {rs : List RV} (hc : compR P fn.results.toList = some rs) (h3 : rs.length ≤ 3) {p : Prop} {xs : List SV} (h : evRs rs S = some (p, xs)) (hp : p) :
    ∃ v, (results fn a.tmps).run P w = .ok v w ∧ Den P E ρ H (mkR xs) v ∧ (mkR xs).lt S.nx := by
  have one : ∀ {r : ResultVar} {rest : List ResultVar} {rs : List RV} {p : Prop} {xs : List SV}, compR P (r :: rest) = some rs → evRs rs S = some (p, xs) → p → ∃ r' l q x ys, rs = r' :: l ∧ compR P rest = some l ∧ evRs l S = some (q, ys) ∧ q ∧ xs = x :: ys ∧ ∃ v, (rv a.tmps r).run P w = .ok v w ∧ Den P E ρ H x v ∧ x.lt S.nx := by
    intro r rest rs p xs hc h hp
    cases rs with
    | nil => cases r <;> simp only [compR] at hc <;> (try split at hc) <;> (try cases hc) <;> (obtain ⟨_, _, h2⟩ := Option.map_eq_some_iff.1 hc; cases h2)
    | cons r' l =>
      simp only [evRs] at h
      split at h
      · rename_i p1 x q ys e1 e2
        cases h
        obtain ⟨h1, h2⟩ := evR_sound hE s hc e1 hp.1
        exact ⟨r', l, q, x, ys, rfl, h1, e2, hp.2, rfl, h2⟩
      · cases h
  obtain ⟨rl, hrl⟩ : ∃ rl, fn.results = rl.toArray := ⟨fn.results.toList, by simp⟩
  rw [hrl] at hc
  simp only [List.toList_toArray] at hc
  match rl, hrl with
  | [], hrl =>
    simp only [compR] at hc; cases hc
    simp only [evRs] at h; cases h
    exact ⟨_, run_results0 hrl, .tup .nil, trivial⟩
  | [r1], hrl =>
    obtain ⟨_, _, _, _, _, rfl, c1, e1, q1, rfl, v1, g1, d1, l1⟩ := one hc h hp
    simp only [compR] at c1; cases c1
    simp only [evRs] at e1; cases e1
    exact ⟨_, run_results1 hrl g1, d1, l1⟩
  | [r1, r2], hrl =>
    obtain ⟨_, _, _, _, _, rfl, c1, e1, q1, rfl, v1, g1, d1, l1⟩ := one hc h hp
    obtain ⟨_, _, _, _, _, rfl, c2, e2, q2, rfl, v2, g2, d2, l2⟩ := one c1 e1 q1
    simp only [compR] at c2; cases c2
    simp only [evRs] at e2; cases e2
    exact ⟨_, run_results2 hrl g1 g2, .tup (.cons d1 (.cons d2 .nil)), l1, l2, trivial⟩
  | [r1, r2, r3], hrl =>
    obtain ⟨_, _, _, _, _, rfl, c1, e1, q1, rfl, v1, g1, d1, l1⟩ := one hc h hp
    obtain ⟨_, _, _, _, _, rfl, c2, e2, q2, rfl, v2, g2, d2, l2⟩ := one c1 e1 q1
    obtain ⟨_, _, _, _, _, rfl, c3, e3, q3, rfl, v3, g3, d3, l3⟩ := one c2 e2 q2
    simp only [compR] at c3; cases c3
    simp only [evRs] at e3; cases e3
    exact ⟨_, run_results3 hrl g1 g2 g3, .tup (.cons d1 (.cons d2 (.cons d3 .nil))), l1, l2, l3, trivial⟩
  | r1 :: r2 :: r3 :: r4 :: rest, hrl =>
    obtain ⟨_, _, _, _, _, rfl, c1, e1, q1, rfl, _⟩ := one hc h hp
    obtain ⟨_, _, _, _, _, rfl, c2, e2, q2, rfl, _⟩ := one c1 e1 q1
    obtain ⟨_, _, _, _, _, rfl, c3, e3, q3, rfl, _⟩ := one c2 e2 q2
    obtain ⟨_, _, _, _, _, rfl, _⟩ := one c3 e3 q3
    simp at h3

theorem frOf_den {ρ : Nat → Value} {H : FH} : ∀ {xs : List SV} {vs : List Value} {k i : Nat}, DenV P E ρ H xs vs → k ≤ i → Den P E ρ H (fget (frOf k xs) i) (vs.getD (i - k) undef) := by
  intro xs
  induction xs with
  | nil => intro vs k i _ _; exact .any
  | cons x xs ih =>
    intro vs k i hd hk
    cases hd with
    | cons h1 h2 =>
      simp only [frOf, fget]
      split
      · rename_i e; subst e; simpa using h1
      · rename_i e
        have := ih (k := k + 1) (i := i) h2 (by omega)
        rw [show i - k = (i - (k + 1)) + 1 from by omega]
        simpa using this
theorem frOf_low {xs : List SV} {k i : Nat} (h : i < k) : fget (frOf k xs) i = .any := by
  induction xs generalizing k with
  | nil => rfl
  | cons x xs ih => simp only [frOf, fget]; rw [if_neg (by omega)]; exact ih (by omega)
theorem frOf_lt {nx : Nat} : ∀ {xs : List SV} {k i : Nat}, SV.ltL nx xs → (fget (frOf k xs) i).lt nx := by
  intro xs
  induction xs with
  | nil => intro k i _; exact trivial
  | cons x xs ih =>
    intro k i h
    simp only [frOf, fget]
    split
    · exact h.1
    · exact ih h.2
theorem denV_len {ρ : Nat → Value} {H : FH} {xs : List SV} {vs : List Value} (h : DenV P E ρ H xs vs) : vs.length = xs.length := by
  induction xs generalizing vs with
  | nil => cases h; rfl
  | cons x xs ih => cases h with | cons h1 h2 => simp [ih h2]

/-- A datum of a type. -/
def Wt (P : Program) (E : Nat → Value) (t : Ty) (d : D) : Prop := ∃ H cs, Rep P E H t d cs
theorem Wt.int {k : IntKind} {d : D} (h : Wt P E (.int k) d) : d = .int d.i ∧ k.min ≤ d.i ∧ d.i ≤ k.max := by
  obtain ⟨H, cs, h⟩ := h
  cases h with | int h => exact ⟨rfl, h⟩
theorem Wt.slice {e : TypeId} {d : D} (h : Wt P E (.slice e) d) : d = .list d.l ∧ d.l.length ≤ maxLen ∧ ∀ x ∈ d.l, Wt P E (tyOf P 8 e) x := by
  obtain ⟨H, cs, h⟩ := h
  cases h with
  | slice css hc hcap hn hz hm hr =>
    refine ⟨rfl, Nat.le_trans hc hcap, fun x hx => ?_⟩
    obtain ⟨i, hi, rfl⟩ := List.getElem_of_mem hx
    exact ⟨H, _, hr i hi⟩
theorem Wt.fld {ts : List Ty} {d : D} (h : Wt P E (.strct ts) d) (k : Nat) (t : Ty) (hk : ts[k]? = some t) : Wt P E t (d.fld k) := by
  obtain ⟨H, cs, h⟩ := h
  cases h with
  | strct h =>
    obtain ⟨x, cs', h1, h2, _⟩ := repL_fld h k t hk
    exact ⟨H, cs', by simpa [D.fld, D.fs, h1] using h2⟩
mutual
def SV.ok (P : Program) (E : Nat → Value) : SV → Prop
  | .int k n => k.min ≤ n ∧ n ≤ k.max
  | .dat t d => Wt P E t d
  | .elt t d => Wt P E t d
  | .arrc e ds => ∀ d ∈ ds, Wt P E e d
  | .agg l => SV.okL P E l
  | .tup l => SV.okL P E l
  | .ifc _ x => SV.ok P E x
  | _ => True
def SV.okL (P : Program) (E : Nat → Value) : List SV → Prop
  | [] => True
  | x :: l => SV.ok P E x ∧ SV.okL P E l
end
mutual
theorem Den.ok {ρ : Nat → Value} {H : FH} : ∀ {x : SV} {v}, Den P E ρ H x v → SV.ok P E x
  | _, _, .int h => h
  | _, _, .dat _ h => ⟨H, _, h⟩
  | _, _, .elt _ _ h => ⟨H, _, h⟩
  | _, _, .agg h => DenC.ok h
  | _, _, .tup h => DenV.ok h
  | _, _, .ifc h => by simp only [SV.ok]; exact Den.ok h
  | _, _, .bool | _, _, .str _ | _, _, .ptr _ | _, _, .vec _ | _, _, .eltv _ | _, _, .eltc _ | _, _, .clo _ | _, _, .nils | _, _, .raw _ | _, _, .any => trivial
theorem DenC.ok {ρ : Nat → Value} {H : FH} : ∀ {l : List SV} {cs}, DenC P E ρ H l cs → SV.okL P E l
  | _, _, .nil => trivial
  | _, _, .one h _ h' => ⟨Den.ok h, DenC.ok h'⟩
  | _, _, .arrc h h' => ⟨fun d hd => by obtain ⟨i, hi, rfl⟩ := List.getElem_of_mem hd; exact ⟨H, _, repL_get h i hi⟩, DenC.ok h'⟩
theorem DenV.ok {ρ : Nat → Value} {H : FH} : ∀ {l : List SV} {vs}, DenV P E ρ H l vs → SV.okL P E l
  | _, _, .nil => trivial
  | _, _, .cons h h' => ⟨Den.ok h, DenV.ok h'⟩
end

def rvSl : List RV → List Nat
  | [] => []
  | .t s :: r => s :: rvSl r
  | .c s _ :: r => s :: rvSl r
/-- A function's specification, out of its code. -/
theorem valid_of {W : Opts} (hE : Errs2 P W.et E) {Γ : FuncId → FSpec} (hΓ : AllValid P E W.gl Γ) {f : FuncId} {fn : Func} (hf : P.funcs[f]? = some fn) (hcall : callOk P f = true) {code : Code} (hb : fn.body = some code) (hN : fn.ntmps = W.N) {ic : IC} (hc : compC P W code = some ic)
    {rs : List RV} (hr : compR P fn.results.toList = some rs) (h3 : rs.length ≤ 3) {sp : FSpec}
    (h : ∀ args h nx K, sp args h nx K → SV.okL P E args → (∀ n t, hget h n = some t → n < nx ∧ t.lt nx) → args.length ≤ W.N ∧
      vc Γ nx (trimIC (rvSl rs) ic (rvSl rs) []).1 (fun ex S' => match ex with | .ext _ => False | _ => Fin nx K rs S') { f := frOf 0 args, h := h, nx := nx }) : Valid P E W.gl f sp := by
  intro args h0 o nx K ρ H w vs hsp hhs hden hlt hnm hsep hin hgl herr
  obtain ⟨hlen, hvc⟩ := h args h0 nx K hsp hden.ok (fun n t hn => hnm n t (by rw [hget_append, hn]))
  refine ⟨hcall, calls_of_wp hf hb ?_⟩
  let c : Ctx := { w0 := w, own := fun b => ∃ n t, hget (h0 ++ o) n = some t ∧ blk (ρ n) = some b, N := W.N, o := o, nb := nx, G := W.gl, ρ0 := ρ, H0 := H }
  have hvl := denV_len hden
  have s : Sat P E c ρ H { f := frOf 0 args, h := h0, nx := nx } { tmps := vs.toArray ++ Array.replicate (fn.ntmps - vs.toArray.size) undef, defers := [] } w := by
    refine ⟨fun i => ?_, ?_, rfl, hhs, hin, Kept.refl w _, fun n t b hn hb => .inl ⟨n, t, hn, hb⟩, fun i => frOf_lt hlt, hnm, ?_, Nat.le_refl _, hsep, hgl, fun _ _ => rfl, FH.le_refl H⟩
    · have := frOf_den (k := 0) (i := i) hden (Nat.zero_le _)
      rw [Array.getD_eq_getD_getElem?, Array.getElem?_append]
      simp only [List.size_toArray, List.getElem?_toArray, Array.getElem?_replicate]
      rw [Nat.sub_zero, List.getD_eq_getElem?_getD] at this
      split
      · exact this
      · rename_i hi
        rw [List.getElem?_eq_none (by omega)] at this
        split <;> exact this
    · simp only [Array.size_append, List.size_toArray, Array.size_replicate]
      show _ = W.N
      rw [hN]; omega
    · intro n t hn
      refine hnm n t ?_
      rw [hget_append]
      cases h1 : hget h0 n with
      | none => exact hn
      | some u => have := hsep n u h1; rw [hn] at this; cases this
  have hC : ErrC E c := by
    intro g ad T hg he
    obtain ⟨⟨o', v, hv⟩, h2⟩ := herr g ad T hg he
    refine ⟨?_, ⟨o', v, hv⟩, h2⟩
    rintro ⟨n, t, hn, hb⟩
    have ht := hhs.tok n t hn
    cases t with
    | cells l =>
      obtain ⟨b, t', cs, h3, _, _, h4⟩ := ht
      rw [h3] at hb
      simp only [blk] at hb
      cases hb
      rw [h4] at hv; cases hv
    | arr eid e l =>
      obtain ⟨_, xs, h3, _, h4⟩ := ht
      rw [h4 _ hb] at hv; cases hv
    | map kt vt f =>
      obtain ⟨b, es, clock, k, h3, _, _, _, h4⟩ := ht
      rw [h3] at hb
      simp only [blk] at hb
      cases hb
      rw [h4] at hv; cases hv
  have := vc_sound (c := c) hE (rfl : W.N = c.N) rfl ⟨hC, rfl⟩ hΓ hc hvc s
  refine Code.wp_mono ?_ this
  rintro ex a' w' ⟨e, S', ρ', H', he, hq, s'⟩
  have fin : Fin nx K rs S' → a'.defers = [] ∧ ∃ v, (results fn a'.tmps).run P w' = .ok v w' ∧ (∃ v' r h' ρ' H', Ending.returned v = .returned v' ∧ K r h' ∧ (∀ n, n < nx → ρ' n = ρ n) ∧ H.le H' ∧ Den P E ρ' H' r v' ∧ HSat P E ρ' H' w' (h' ++ o) ∧ FHin H' w' ∧
      Kept w (fun b => ∃ n t, hget (h0 ++ o) n = some t ∧ blk (ρ n) = some b) w' ∧ (∀ n t b, hget (h' ++ o) n = some t → blk (ρ' n) = some b → (∃ m u, hget (h0 ++ o) m = some u ∧ blk (ρ m) = some b) ∨ w.heap.size ≤ b) ∧
      r.lt (nx + 64) ∧ (∀ n t, hget (h' ++ o) n = some t → n < nx + 64 ∧ t.lt (nx + 64)) ∧ ∀ n t, hget h' n = some t → hget o n = none) := by
    intro hfin
    refine ⟨s'.df, ?_⟩
    unfold Fin at hfin
    split at hfin
    · rename_i p xs hxs
      obtain ⟨hp, x, h', hleq, hk⟩ := hfin
      obtain ⟨v, h4, h5, h6⟩ := results_sound hE.1 s' hr h3 hxs hp
      refine ⟨v, h4, ?_⟩
      let c1 : Ctx := { w0 := w, own := c.own, N := 1, o := o, nb := nx, G := W.gl, ρ0 := ρ, H0 := H }
      have s1 : Sat P E c1 ρ' H' { f := [(0, mkR xs)], h := S'.h, nx := S'.nx } { tmps := #[v], defers := [] } w' := by
        refine ⟨fun i => ?_, rfl, rfl, s'.hs, s'.hin, s'.kept, s'.ownb, fun i => ?_, s'.hlt, s'.olt, s'.nbx, s'.sep, s'.glob, s'.rho, s'.hle⟩
        · simp only [fget]
          split
          · rename_i e; subst e; exact h5
          · exact .any
        · simp only [fget]
          split
          · exact h6
          · exact trivial
      obtain ⟨ρ2, H2, s2⟩ := Leq.sat (c := c1) hleq s1
      have hx := s2.fr 0
      have hxl := s2.flt 0
      simp only [fget, if_true] at hx hxl
      exact ⟨v, x, h', ρ2, H2, rfl, hk, s2.rho, s2.hle, hx, s2.hs, s2.hin, s2.kept, s2.ownb, hxl, s2.hlt, s2.sep⟩
    · exact hfin.elim
  cases ex <;> simp only [exOf] at he <;> cases he
  · exact fin hq
  · exact hq.elim
  · exact fin hq
end
end Go.Fw
