import Derived.Test.YtmjenjccinfbaaaDoorFwUb
/- The frame-work, part V: functions. -/
namespace Go.Fw
set_option linter.unusedVariables false
set_option linter.unusedSimpArgs false
open Go

inductive RV where
  | t (s : Nat)
  | c (s : Nat) (ty : Ty)
  deriving Inhabited

def compR (P : Program) : List ResultVar → Option (List RV)
  | [] => some []
  | .tmp t :: r => (compR P r).map (.t t :: ·)
  | .cell a ty :: r => if szOk P ty = true then (compR P r).map (.c a (tyOf P 8 ty) :: ·) else none

def evR (r : RV) (S : SSt) : Option (Prop × SV) :=
  match r with
  | .t s => some (True, fget S.f s)
  | .c s ty => match fget S.f s with
    | .ptr n o => evLd ty (.ptr n o) S.h
    | _ => none
def evRs : List RV → SSt → Option (Prop × List SV)
  | [], _ => some (True, [])
  | r :: l, S => match evR r S, evRs l S with
    | some (p, x), some (q, xs) => some (p ∧ q, x :: xs)
    | _, _ => none
def mkR : List SV → SV
  | [x] => x
  | l => .tup l

/-- The state that is left, out of a function: its results, what it owns. -/
def Fin (nb : Nat) (K : SV → Heap → Prop) (rs : List RV) (S : SSt) : Prop :=
  match evRs rs S with
  | some (p, xs) => p ∧ ∃ x h', Leq nb { f := [(0, mkR xs)], h := S.h, nx := S.nx } { f := [(0, x)], h := h', nx := nb + 64 } ∧ K x h'
  | none => False

def frOf : Nat → List SV → Fr
  | _, [] => []
  | k, x :: l => (k, x) :: frOf (k + 1) l

section
variable {P : Program} {E : Nat → Value}

def rv (tmps : Array Value) : ResultVar → Sem Value
  | .tmp t => pure (tmps.getD t undef)
  | .cell a t => do loadVar t (← asAddr (tmps.getD a undef))

theorem results_rv (fn : Func) (tmps : Array Value) : results fn tmps = (do let vs ← fn.results.mapM (rv tmps); pure (if h : vs.size = 1 then vs[0] else .tuple vs)) := by
  unfold results
  congr 1
theorem run_results1 {fn : Func} {tmps : Array Value} {r : ResultVar} (h : fn.results = #[r]) {w : World} {v : Value} (hv : (rv tmps r).run P w = .ok v w) : (results fn tmps).run P w = .ok v w := by
  simp [results_rv, h, hv]
theorem run_results0 {fn : Func} {tmps : Array Value} (h : fn.results = #[]) {w : World} : (results fn tmps).run P w = .ok (.tuple #[]) w := by
  simp [results_rv, h]
theorem run_results2 {fn : Func} {tmps : Array Value} {r s : ResultVar} (h : fn.results = #[r, s]) {w : World} {u v : Value} (hu : (rv tmps r).run P w = .ok u w) (hv : (rv tmps s).run P w = .ok v w) : (results fn tmps).run P w = .ok (.tuple #[u, v]) w := by
  simp [results_rv, h, hu, hv]
theorem run_results3 {fn : Func} {tmps : Array Value} {r s t : ResultVar} (h : fn.results = #[r, s, t]) {w : World} {u v x : Value} (hu : (rv tmps r).run P w = .ok u w) (hv : (rv tmps s).run P w = .ok v w) (hx : (rv tmps t).run P w = .ok x w) : (results fn tmps).run P w = .ok (.tuple #[u, v, x]) w := by
  simp [results_rv, h, hu, hv, hx]

theorem evR_sound (hE : Errs E) {c : Ctx} {ρ : Nat → Value} {H : FH} {S : SSt} {a : Act} {w : World} (s : Sat P E c ρ H S a w) {r : ResultVar} {r' : RV} {l : List RV} {rest : List ResultVar} (hc : compR P (r :: rest) = some (r' :: l)) {p : Prop} {x : SV} (h : evR r' S = some (p, x)) (hp : p) :
    compR P rest = some l ∧ ∃ v, (rv a.tmps r).run P w = .ok v w ∧ Den P E ρ H x v ∧ x.lt S.nx := by
  cases r with
  | tmp t =>
    simp only [compR] at hc
    obtain ⟨m, h1, h2⟩ := Option.map_eq_some_iff.1 hc
    cases h2
    simp only [evR] at h; cases h
    exact ⟨h1, _, by simp [rv, Sem.run, pure], s.fr t, s.flt t⟩
  | cell ad ty =>
    simp only [compR] at hc
    split at hc
    · rename_i hsz
      obtain ⟨m, h1, h2⟩ := Option.map_eq_some_iff.1 hc
      cases h2
      refine ⟨h1, ?_⟩
      simp only [evR] at h
      split at h
      · rename_i n o hv
        obtain ⟨hu, hs⟩ := szOk_spec hsz
        have sx := s.fr ad
        have sl := s.flt ad
        rw [hv] at sx sl
        obtain ⟨v, h3, h4, h5⟩ := load_sound hE.one s hu hs h hp sx sl
        refine ⟨v, ?_, h4, h5⟩
        generalize hvx : a.tmps.getD ad undef = vx at *
        cases sx with | ptr _ =>
        simp only [Instr.loadAt, Instr.sureAddr, Sem.run_bind] at h3
        simp only [rv, hvx, asAddr, Sem.run_bind]
        exact h3
      · cases h
    · cases hc

theorem results_sound (hE : Errs E) {c : Ctx} {ρ : Nat → Value} {H : FH} {S : SSt} {a : Act} {w : World} (s : Sat P E c ρ H S a w) {fn : Func} {rs : List RV} (hc : compR P fn.results.toList = some rs) (h3 : rs.length ≤ 3) {p : Prop} {xs : List SV} (h : evRs rs S = some (p, xs)) (hp : p) :
    ∃ v, (results fn a.tmps).run P w = .ok v w ∧ Den P E ρ H (mkR xs) v ∧ (mkR xs).lt S.nx := by
  have one : ∀ {r : ResultVar} {rest : List ResultVar} {rs : List RV} {p : Prop} {xs : List SV}, compR P (r :: rest) = some rs → evRs rs S = some (p, xs) → p → ∃ r' l q x ys, rs = r' :: l ∧ compR P rest = some l ∧ evRs l S = some (q, ys) ∧ q ∧ xs = x :: ys ∧ ∃ v, (rv a.tmps r).run P w = .ok v w ∧ Den P E ρ H x v ∧ x.lt S.nx := by
    intro r rest rs p xs hc h hp
    cases rs with
    | nil => cases r <;> simp only [compR] at hc <;> (try split at hc) <;> (try cases hc) <;> (obtain ⟨_, _, h2⟩ := Option.map_eq_some_iff.1 hc; cases h2)
    | cons r' l =>
      simp only [evRs] at h
      split at h
      · rename_i p1 x q ys e1 e2
        cases h
        obtain ⟨h1, h2⟩ := evR_sound hE s hc e1 hp.1
        exact ⟨r', l, q, x, ys, rfl, h1, e2, hp.2, rfl, h2⟩
      · cases h
  obtain ⟨rl, hrl⟩ : ∃ rl, fn.results = rl.toArray := ⟨fn.results.toList, by simp⟩
  rw [hrl] at hc
  simp only [List.toList_toArray] at hc
  match rl, hrl with
  | [], hrl =>
    simp only [compR] at hc; cases hc
    simp only [evRs] at h; cases h
    exact ⟨_, run_results0 hrl, .tup .nil, trivial⟩
  | [r1], hrl =>
    obtain ⟨_, _, _, _, _, rfl, c1, e1, q1, rfl, v1, g1, d1, l1⟩ := one hc h hp
    simp only [compR] at c1; cases c1
    simp only [evRs] at e1; cases e1
    exact ⟨_, run_results1 hrl g1, d1, l1⟩
  | [r1, r2], hrl =>
    obtain ⟨_, _, _, _, _, rfl, c1, e1, q1, rfl, v1, g1, d1, l1⟩ := one hc h hp
    obtain ⟨_, _, _, _, _, rfl, c2, e2, q2, rfl, v2, g2, d2, l2⟩ := one c1 e1 q1
    simp only [compR] at c2; cases c2
    simp only [evRs] at e2; cases e2
    exact ⟨_, run_results2 hrl g1 g2, .tup (.cons d1 (.cons d2 .nil)), l1, l2, trivial⟩
  | [r1, r2, r3], hrl =>
    obtain ⟨_, _, _, _, _, rfl, c1, e1, q1, rfl, v1, g1, d1, l1⟩ := one hc h hp
    obtain ⟨_, _, _, _, _, rfl, c2, e2, q2, rfl, v2, g2, d2, l2⟩ := one c1 e1 q1
    obtain ⟨_, _, _, _, _, rfl, c3, e3, q3, rfl, v3, g3, d3, l3⟩ := one c2 e2 q2
    simp only [compR] at c3; cases c3
    simp only [evRs] at e3; cases e3
    exact ⟨_, run_results3 hrl g1 g2 g3, .tup (.cons d1 (.cons d2 (.cons d3 .nil))), l1, l2, l3, trivial⟩
  | r1 :: r2 :: r3 :: r4 :: rest, hrl =>
    obtain ⟨_, _, _, _, _, rfl, c1, e1, q1, rfl, _⟩ := one hc h hp
    obtain ⟨_, _, _, _, _, rfl, c2, e2, q2, rfl, _⟩ := one c1 e1 q1
    obtain ⟨_, _, _, _, _, rfl, c3, e3, q3, rfl, _⟩ := one c2 e2 q2
    obtain ⟨_, _, _, _, _, rfl, _⟩ := one c3 e3 q3
    simp at h3

theorem frOf_den {ρ : Nat → Value} {H : FH} : ∀ {xs : List SV} {vs : List Value} {k i : Nat}, DenV P E ρ H xs vs → k ≤ i → Den P E ρ H (fget (frOf k xs) i) (vs.getD (i - k) undef) := by
  intro xs
  induction xs with
  | nil => intro vs k i _ _; exact .any
  | cons x xs ih =>
    intro vs k i hd hk
    cases hd with
    | cons h1 h2 =>
      simp only [frOf, fget]
      split
      · rename_i e; subst e; simpa using h1
      · rename_i e
        have := ih (k := k + 1) (i := i) h2 (by omega)
        rw [show i - k = (i - (k + 1)) + 1 from by omega]
        simpa using this
theorem frOf_low {xs : List SV} {k i : Nat} (h : i < k) : fget (frOf k xs) i = .any := by
  induction xs generalizing k with
  | nil => rfl
  | cons x xs ih => simp only [frOf, fget]; rw [if_neg (by omega)]; exact ih (by omega)
theorem frOf_lt {nx : Nat} : ∀ {xs : List SV} {k i : Nat}, SV.ltL nx xs → (fget (frOf k xs) i).lt nx := by
  intro xs
  induction xs with
  | nil => intro k i _; exact trivial
  | cons x xs ih =>
    intro k i h
    simp only [frOf, fget]
    split
    · exact h.1
    · exact ih h.2
theorem denV_len {ρ : Nat → Value} {H : FH} {xs : List SV} {vs : List Value} (h : DenV P E ρ H xs vs) : vs.length = xs.length := by
  induction xs generalizing vs with
  | nil => cases h; rfl
  | cons x xs ih => cases h with | cons h1 h2 => simp [ih h2]

/-- A datum of a type. -/
def Wt (P : Program) (E : Nat → Value) (t : Ty) (d : D) : Prop := ∃ H cs, Rep P E H t d cs
theorem Wt.int {k : IntKind} {d : D} (h : Wt P E (.int k) d) : d = .int d.i ∧ k.min ≤ d.i ∧ d.i ≤ k.max := by
  obtain ⟨H, cs, h⟩ := h
  cases h with | int h => exact ⟨rfl, h⟩
theorem Wt.slice {e : TypeId} {d : D} (h : Wt P E (.slice e) d) : d = .list d.l ∧ d.l.length ≤ maxLen ∧ ∀ x ∈ d.l, Wt P E (tyOf P 8 e) x := by
  obtain ⟨H, cs, h⟩ := h
  cases h with
  | slice css hc hcap hn hz hm hr =>
    refine ⟨rfl, Nat.le_trans hc hcap, fun x hx => ?_⟩
    obtain ⟨i, hi, rfl⟩ := List.getElem_of_mem hx
    exact ⟨H, _, hr i hi⟩
theorem Wt.fld {ts : List Ty} {d : D} (h : Wt P E (.strct ts) d) (k : Nat) (t : Ty) (hk : ts[k]? = some t) : Wt P E t (d.fld k) := by
  obtain ⟨H, cs, h⟩ := h
  cases h with
  | strct h =>
    obtain ⟨x, cs', h1, h2, _⟩ := repL_fld h k t hk
    exact ⟨H, cs', by simpa [D.fld, D.fs, h1] using h2⟩
mutual
def SV.ok (P : Program) (E : Nat → Value) : SV → Prop
  | .int k n => k.min ≤ n ∧ n ≤ k.max
  | .dat t d => Wt P E t d
  | .elt t d => Wt P E t d
  | .arrc e ds => ∀ d ∈ ds, Wt P E e d
  | .agg l => SV.okL P E l
  | .tup l => SV.okL P E l
  | .ifc _ x => SV.ok P E x
  | _ => True
def SV.okL (P : Program) (E : Nat → Value) : List SV → Prop
  | [] => True
  | x :: l => SV.ok P E x ∧ SV.okL P E l
end
mutual
theorem Den.ok {ρ : Nat → Value} {H : FH} : ∀ {x : SV} {v}, Den P E ρ H x v → SV.ok P E x
  | _, _, .int h => h
  | _, _, .dat _ h => ⟨H, _, h⟩
  | _, _, .elt _ _ h => ⟨H, _, h⟩
  | _, _, .agg h => DenC.ok h
  | _, _, .tup h => DenV.ok h
  | _, _, .ifc h => by simp only [SV.ok]; exact Den.ok h
  | _, _, .bool | _, _, .str _ | _, _, .ptr _ | _, _, .vec _ | _, _, .eltv _ | _, _, .eltc _ | _, _, .clo _ | _, _, .nils | _, _, .raw _ | _, _, .any => trivial
theorem DenC.ok {ρ : Nat → Value} {H : FH} : ∀ {l : List SV} {cs}, DenC P E ρ H l cs → SV.okL P E l
  | _, _, .nil => trivial
  | _, _, .one h _ h' => ⟨Den.ok h, DenC.ok h'⟩
  | _, _, .arrc h h' => ⟨fun d hd => by obtain ⟨i, hi, rfl⟩ := List.getElem_of_mem hd; exact ⟨H, _, repL_get h i hi⟩, DenC.ok h'⟩
theorem DenV.ok {ρ : Nat → Value} {H : FH} : ∀ {l : List SV} {vs}, DenV P E ρ H l vs → SV.okL P E l
  | _, _, .nil => trivial
  | _, _, .cons h h' => ⟨Den.ok h, DenV.ok h'⟩
end

def rvSl : List RV → List Nat
  | [] => []
  | .t s :: r => s :: rvSl r
  | .c s _ :: r => s :: rvSl r
/-- The marks of loops over functions are come to, one by one. -/
theorem Sat.marks {c : Ctx} {ρ : Nat → Value} {H : FH} {S : SSt} {fn : Func} {R : Ending → World → Prop} {tmps : Array Value} : ∀ (ds : List Nat) (ks : List (Nat × Obj)) (dl : List Deferred) (w : World), Sat P E { c with dfs := ds, ks := ks } ρ H S { tmps := tmps, defers := dl } w →
    (∀ w', Sat P E { c with dfs := [], ks := [] } ρ H S { tmps := tmps, defers := [] } w' → LeavesIn Fence.wide 0 P fn tmps R [] .returning w') → LeavesInM Fence.wide 0 P fn tmps R dl .returning w := by
  intro ds
  induction ds with
  | nil =>
    intro ks dl w s h
    have e : dl = [] := s.df.eq
    subst e
    exact h w (Sat.re (c := { c with dfs := [], ks := ks }) (ds := []) (ks := []) s s.fr s.flt s.sz ⟨rfl, fun D hD => (by cases hD), fun x hx => (by cases hx), .nil⟩)
  | cons D ds ih =>
    intro ks dl w s h
    have e : dl = ({ target := .collected D, args := #[] } : Deferred) :: ds.map (fun D => { target := .collected D, args := #[] }) := s.df.eq
    have hnd := List.nodup_cons.1 s.df.nd
    have hD := s.df.ks _ (s.df.sub D (by simp))
    subst e
    refine ⟨by simp, .inl ⟨D, _, rfl, run_takeDeferred hD.1, ?_⟩⟩
    have s1 : Sat P E { c with dfs := ds, ks := ks } ρ H S { tmps := tmps, defers := ds.map (fun D => { target := .collected D, args := #[] }) } w :=
      Sat.re (c := { c with dfs := D :: ds, ks := ks }) (a' := { tmps := tmps, defers := ds.map (fun D => { target := .collected D, args := #[] }) }) (ds := ds) (ks := ks) s s.fr s.flt s.sz ⟨rfl, fun D' hD' => s.df.sub D' (by simp [hD']), s.df.ks, hnd.2⟩
    refine ih (ks.filter fun x => x.1 != D) _ _ (Sat.odd (c := { c with dfs := ds, ks := ks }) (ds := ds) (ks := ks.filter fun x => x.1 != D) s1 hD.1 rfl hD.2.2 ⟨rfl, fun D' hD' => ?_, fun x hx => ?_, hnd.2⟩) h
    · rw [List.mem_filter]
      refine ⟨s.df.sub D' (by simp [hD']), ?_⟩
      simp only [bne_iff_ne]
      exact fun e => hnd.1 (e ▸ hD')
    · rw [List.mem_filter] at hx
      have hne : x.1 ≠ D := by simpa using hx.2
      have := s.df.ks x hx.1
      exact ⟨(World.putObj_heap_other hne).trans this.1, this.2⟩

/-- A function's specification, out of its code. -/
theorem valid_of {W : Opts} (hE : Errs2 P W.et E) {Γ : Tab} (hΓ : AllValid P E W.gl Γ) {f : FuncId} {fn : Func} (hf : P.funcs[f]? = some fn) (hcall : callOk P f = true) {code : Code} (hb : fn.body = some code) (hN : fn.ntmps = W.N) {ic : IC} (hc : compC P W code = some ic)
    {rs : List RV} (hr : compR P fn.results.toList = some rs) (h3 : rs.length ≤ 3) {sp : FSpec}
    (h : ∀ args h nx K, sp args h nx K → SV.okL P E args → (∀ n t, hget h n = some t → n < nx ∧ t.lt nx) → args.length ≤ W.N ∧
      vc Γ nx (trimIC (rvSl rs) ic (rvSl rs) []).1 (fun ex S' => match ex with | .ext _ => False | _ => Fin nx K rs S') { f := frOf 0 args, h := h, nx := nx }) : Valid P E W.gl f sp := by
  intro args h0 o nx K ρ H w vs hsp hhs hden hlt hnm hsep hin hgl herr
  obtain ⟨hlen, hvc⟩ := h args h0 nx K hsp hden.ok (fun n t hn => hnm n t (by rw [hget_append, hn]))
  refine ⟨hcall, callsIn_wide.1 (callsIn_of_wp_marks (n := 0) hf hb trivial ?_)⟩
  let c : Ctx := { w0 := w, own := fun b => ∃ n t, hget (h0 ++ o) n = some t ∧ blk (ρ n) = some b, N := W.N, o := o, nb := nx, G := W.gl, ρ0 := ρ, H0 := H }
  have hvl := denV_len hden
  have s : Sat P E c ρ H { f := frOf 0 args, h := h0, nx := nx } { tmps := vs.toArray ++ Array.replicate (fn.ntmps - vs.toArray.size) undef, defers := [] } w := by
    refine ⟨fun i => ?_, ?_, ⟨rfl, fun D hD => (by cases hD), fun x hx => (by cases hx), .nil⟩, hhs, hin, Kept.refl w _, fun n t b hn hb => .inl ⟨n, t, hn, hb⟩, fun i => frOf_lt hlt, hnm, ?_, Nat.le_refl _, hsep, hgl, fun _ _ => rfl, FH.le_refl H⟩
    · have := frOf_den (k := 0) (i := i) hden (Nat.zero_le _)
      rw [Array.getD_eq_getD_getElem?, Array.getElem?_append]
      simp only [List.size_toArray, List.getElem?_toArray, Array.getElem?_replicate]
      rw [Nat.sub_zero, List.getD_eq_getElem?_getD] at this
      split
      · exact this
      · rename_i hi
        rw [List.getElem?_eq_none (by omega)] at this
        split <;> exact this
    · simp only [Array.size_append, List.size_toArray, Array.size_replicate]
      show _ = W.N
      rw [hN]; omega
    · intro n t hn
      refine hnm n t ?_
      rw [hget_append]
      cases h1 : hget h0 n with
      | none => exact hn
      | some u => have := hsep n u h1; rw [hn] at this; cases this
  have hC : ErrC E c := by
    intro g ad T hg he
    obtain ⟨⟨o', v, hv⟩, h2⟩ := herr g ad T hg he
    refine ⟨?_, ⟨o', v, hv⟩, h2⟩
    rintro ⟨n, t, hn, hb⟩
    have ht := hhs.tok n t hn
    cases t with
    | cells l =>
      obtain ⟨b, t', cs, h3, _, _, h4⟩ := ht
      rw [h3] at hb
      simp only [blk] at hb
      cases hb
      rw [h4] at hv; cases hv
    | arr eid e l =>
      obtain ⟨_, xs, h3, _, h4⟩ := ht
      rw [h4 _ hb] at hv; cases hv
    | map kt vt f =>
      obtain ⟨b, es, clock, k, h3, _, _, _, h4⟩ := ht
      rw [h3] at hb
      simp only [blk] at hb
      cases hb
      rw [h4] at hv; cases hv
  have := vc_sound hE hΓ rfl (c := c) rfl rfl hC hc hvc s
  refine Code.wpIn_mono ?_ (wpIn_wide.2 this)
  rintro ex a' w0' ⟨e, S', ρ', H', ds, ks, hks, he, hq, s0'⟩
  have fin : ∀ w', Sat P E { c with dfs := [], ks := [] } ρ' H' S' { tmps := a'.tmps, defers := [] } w' → Fin nx K rs S' → ∃ v, (results fn a'.tmps).run P w' = .ok v w' ∧ (∃ v' r h' ρ' H', Ending.returned v = .returned v' ∧ K r h' ∧ (∀ n, n < nx → ρ' n = ρ n) ∧ H.le H' ∧ Den P E ρ' H' r v' ∧ HSat P E ρ' H' w' (h' ++ o) ∧ FHin H' w' ∧
      Kept w (fun b => ∃ n t, hget (h0 ++ o) n = some t ∧ blk (ρ n) = some b) w' ∧ (∀ n t b, hget (h' ++ o) n = some t → blk (ρ' n) = some b → (∃ m u, hget (h0 ++ o) m = some u ∧ blk (ρ m) = some b) ∨ w.heap.size ≤ b) ∧
      r.lt (nx + 64) ∧ (∀ n t, hget (h' ++ o) n = some t → n < nx + 64 ∧ t.lt (nx + 64)) ∧ ∀ n t, hget h' n = some t → hget o n = none) := by
    intro w' s' hfin
    unfold Fin at hfin
    split at hfin
    · rename_i p xs hxs
      obtain ⟨hp, x, h', hleq, hk⟩ := hfin
      obtain ⟨v, h4, h5, h6⟩ := results_sound hE.1 s' hr h3 hxs hp
      refine ⟨v, h4, ?_⟩
      let c1 : Ctx := { w0 := w, own := c.own, N := 1, o := o, nb := nx, G := W.gl, ρ0 := ρ, H0 := H }
      have s1 : Sat P E c1 ρ' H' { f := [(0, mkR xs)], h := S'.h, nx := S'.nx } { tmps := #[v], defers := [] } w' := by
        refine ⟨fun i => ?_, rfl, ⟨rfl, fun D hD => (by cases hD), fun x hx => (by cases hx), .nil⟩, s'.hs, s'.hin, s'.kept, s'.ownb, fun i => ?_, s'.hlt, s'.olt, s'.nbx, s'.sep, s'.glob, s'.rho, s'.hle⟩
        · simp only [fget]
          split
          · rename_i e; subst e; exact h5
          · exact .any
        · simp only [fget]
          split
          · exact h6
          · exact trivial
      obtain ⟨ρ2, H2, s2⟩ := Leq.sat (c := c1) hleq s1
      have hx := s2.fr 0
      have hxl := s2.flt 0
      simp only [fget, if_true] at hx hxl
      exact ⟨v, x, h', ρ2, H2, rfl, hk, s2.rho, s2.hle, hx, s2.hs, s2.hin, s2.kept, s2.ownb, hxl, s2.hlt, s2.sep⟩
    · exact hfin.elim
  cases ex <;> simp only [exOf] at he <;> cases he
  · exact Sat.marks (c := c) ds ks a'.defers w0' s0' (fun w' s' => fin w' s' hq)
  · exact hq.elim
  · exact Sat.marks (c := c) ds ks a'.defers w0' s0' (fun w' s' => fin w' s' hq)
end
end Go.Fw

/- The frame-work, part W: how code is gone through, step by step. -/
namespace Go.Fw
set_option linter.unusedVariables false
set_option linter.unusedSimpArgs false
open Go

/-- A function's code and results in our form. -/
def fnIR (P : Program) (W : Opts) (f : FuncId) : Option (IC × List RV) :=
  match P.funcs[f]? with
  | some fn => match fn.body with
    | some code => if fn.ntmps = W.N ∧ callOk P f = true then match compC P W code, compR P fn.results.toList with
      | some ic, some rs => some ((trimIC (rvSl rs) ic (rvSl rs) []).1, rs)
      | _, _ => none else none
    | none => none
  | none => none

inductive Fm where
  | seq (b : IC)
  | blk (id : Nat)
  | lp (B : SSt → Prop)
  | bth (l1 l2 : List (Bool × GOp))

section
variable (Γ : Tab) (nb : Nat) (Q : Ex → SSt → Prop)

def den : List Fm → Ex → SSt → Prop
  | [], ex, S => Q ex S
  | .seq b :: κ, ex, S => match ex with
    | .nrm => vc Γ nb b (den κ) S
    | ex => den κ ex S
  | .blk id :: κ, ex, S => match ex with
    | .ext j => if j = id then den κ .nrm S else den κ (.ext j) S
    | ex => den κ ex S
  | .lp B :: κ, ex, S => match ex with
    | .nrm => B S
    | ex => den κ ex S
  | .bth l1 l2 :: κ, ex, S => match ex with
    | .nrm => vD Γ l1 (den κ .nrm) S ∧ vD Γ l2 (den κ .nrm) S
    | ex => den κ ex S

def go (ic : IC) (κ : List Fm) (S : SSt) : Prop := vc Γ nb ic (den Γ nb Q κ) S
def goO (l : List GOp) (κ : List Fm) (S : SSt) : Prop := vOps Γ l (den Γ nb Q κ .nrm) S

theorem den_nil (ex : Ex) (S : SSt) : den Γ nb Q [] ex S = Q ex S := rfl
theorem den_seq (b : IC) (κ : List Fm) (S : SSt) : den Γ nb Q (.seq b :: κ) .nrm S = go Γ nb Q b κ S := rfl
theorem den_seq_ret (b : IC) (κ : List Fm) (S : SSt) : den Γ nb Q (.seq b :: κ) .ret S = den Γ nb Q κ .ret S := rfl
theorem den_seq_ext (b : IC) (κ : List Fm) (j : Nat) (S : SSt) : den Γ nb Q (.seq b :: κ) (.ext j) S = den Γ nb Q κ (.ext j) S := rfl
theorem den_blk (id : Nat) (κ : List Fm) (S : SSt) : den Γ nb Q (.blk id :: κ) .nrm S = den Γ nb Q κ .nrm S := rfl
theorem den_blk_ret (id : Nat) (κ : List Fm) (S : SSt) : den Γ nb Q (.blk id :: κ) .ret S = den Γ nb Q κ .ret S := rfl
theorem den_blk_ext (id : Nat) (κ : List Fm) (j : Nat) (S : SSt) : den Γ nb Q (.blk id :: κ) (.ext j) S = if j = id then den Γ nb Q κ .nrm S else den Γ nb Q κ (.ext j) S := rfl
theorem den_lp (B : SSt → Prop) (κ : List Fm) (S : SSt) : den Γ nb Q (.lp B :: κ) .nrm S = B S := rfl
theorem den_lp_ret (B : SSt → Prop) (κ : List Fm) (S : SSt) : den Γ nb Q (.lp B :: κ) .ret S = den Γ nb Q κ .ret S := rfl
theorem den_lp_ext (B : SSt → Prop) (κ : List Fm) (j : Nat) (S : SSt) : den Γ nb Q (.lp B :: κ) (.ext j) S = den Γ nb Q κ (.ext j) S := rfl

theorem go_skip (κ : List Fm) (S : SSt) : go Γ nb Q .skip κ S = den Γ nb Q κ .nrm S := rfl
theorem go_ops (l : List GOp) (κ : List Fm) (S : SSt) : go Γ nb Q (.ops l) κ S = goO Γ nb Q l κ S := rfl
theorem go_seq (a b : IC) (κ : List Fm) (S : SSt) : go Γ nb Q (.seq a b) κ S = go Γ nb Q a (.seq b :: κ) S := by
  unfold go
  rw [vc]
  congr 1
def condK (v : SV) (t e : IC) (κ : List Fm) (S : SSt) : Prop := match v with
  | .bool b => (b = true → go Γ nb Q t κ S) ∧ (b = false → go Γ nb Q e κ S)
  | _ => False
theorem go_cond (c : Opd) (t e : IC) (κ : List Fm) (S : SSt) : go Γ nb Q (.cond c t e) κ S = condK Γ nb Q (oget c S.f) t e κ S := by
  unfold go condK
  rw [vc]
  rfl
theorem condK_bool (b : Bool) (t e : IC) (κ : List Fm) (S : SSt) : condK Γ nb Q (.bool b) t e κ S = ((b = true → go Γ nb Q t κ S) ∧ (b = false → go Γ nb Q e κ S)) := rfl
theorem go_block (id : Nat) (b : IC) (κ : List Fm) (S : SSt) : go Γ nb Q (.block id b) κ S = go Γ nb Q b (.blk id :: κ) S := by
  unfold go
  rw [vc]
  congr 1
theorem go_tr (lv : List Nat) (κ : List Fm) (S : SSt) : go Γ nb Q (.tr lv) κ S = den Γ nb Q κ .nrm (S.trim lv) := rfl
theorem go_frp (xs : List (Nat × TypeId × Ty)) (κ : List Fm) (S : SSt) : go Γ nb Q (.frp xs) κ S = den Γ nb Q κ .nrm (frpL xs S) := rfl
theorem go_die (κ : List Fm) (S : SSt) : go Γ nb Q .die κ S = False := rfl
theorem go_exit (id : Nat) (κ : List Fm) (S : SSt) : go Γ nb Q (.exit id) κ S = den Γ nb Q κ (.ext id) S := rfl
theorem go_ret (κ : List Fm) (S : SSt) : go Γ nb Q .ret κ S = den Γ nb Q κ .ret S := rfl

/-- A loop: what holds at each round's head, for some x; a measure. -/
theorem go_loop {α : Type} (I : α → SSt) (μ : α → Nat) (x0 : α) {b : IC} {κ : List Fm} {S : SSt} (h0 : Leq nb S (I x0))
    (h : ∀ x (B : SSt → Prop), (∀ S' x', μ x' < μ x → Leq nb S' (I x') → B S') → go Γ nb Q b (.lp B :: κ) (I x)) : go Γ nb Q (.loop b) κ S := by
  unfold go
  rw [vc]
  refine ⟨α, I, μ, x0, h0, fun x => ?_⟩
  have := h x (fun S' => ∃ x', μ x' < μ x ∧ Leq nb S' (I x')) (fun S' x' h1 h2 => ⟨x', h1, h2⟩)
  unfold go at this
  refine Eq.mp ?_ this
  congr 1

/-- A loop over a function: the iterator hands on the items, one by one; what is owned ahead of each round. -/
theorem go_rng {α : Type} (f0 : Fr) (g : FuncId) (caps : List SV) (items : List (List SV × Heap)) (I : α → Heap × Nat) (idx : α → Nat) (x0 : α) (nb1 : Nat) {f : Opd} {ps : List Nat} {a b : IC} {κ : List Fm} {S : SSt}
    (hnb : nb ≤ nb1) (hnb2 : nb1 ≤ (I x0).2) (hfl : ∀ i, (fget f0 i).lt nb1) (hi0 : idx x0 = 0) (h0 : Leq nb S ⟨f0, (I x0).1, (I x0).2⟩) (hf : oget f f0 = .clo g caps) (hit : Γ.it g caps items) (hlen : ∀ it ∈ items, it.1.length = ps.length)
    (h : ∀ x (Qa R : Ex → SSt → Prop), idx x < items.length → (∀ S1, go Γ nb1 R b [] S1 → Qa .nrm S1) → (∀ S' x', idx x' = idx x + 1 → Leq nb1 S' ⟨[], (I x').1, (I x').2⟩ → R .nrm S') →
      (∀ S', den Γ nb Q κ .ret ⟨f0, S'.h, S'.nx⟩ → R .ret S') → (∀ id S', den Γ nb Q κ (.ext id) ⟨f0, S'.h, S'.nx⟩ → R (.ext id) S') →
      go Γ nb1 Qa a [] ⟨zipF ps (SV.renL (shN (I x).2) (items.getD (idx x) ([], [])).1) f0, shH (I x).2 (items.getD (idx x) ([], [])).2 ++ (I x).1, (I x).2 + 64⟩)
    (hd : ∀ x, idx x = items.length → den Γ nb Q κ .nrm ⟨f0, (I x).1, (I x).2⟩) : go Γ nb Q (.rng f ps a b) κ S := by
  unfold go
  rw [vc]
  refine ⟨f0, g, caps, items, α, I, idx, x0, nb1, hnb, hnb2, hfl, hi0, h0, hf, hit, hlen, fun x hx => ?_, hd⟩
  have := h x (fun ex S1 => match ex with
      | .nrm => vc Γ nb1 b (fun ex S2 => match ex with
        | .nrm => ∃ x', idx x' = idx x + 1 ∧ Leq nb1 S2 ⟨[], (I x').1, (I x').2⟩
        | ex => den Γ nb Q κ ex ⟨f0, S2.h, S2.nx⟩) S1
      | _ => False) (fun ex S2 => match ex with
        | .nrm => ∃ x', idx x' = idx x + 1 ∧ Leq nb1 S2 ⟨[], (I x').1, (I x').2⟩
        | ex => den Γ nb Q κ ex ⟨f0, S2.h, S2.nx⟩) hx (fun S1 h1 => by unfold go at h1; exact h1) (fun S' x' h1 h2 => ⟨x', h1, h2⟩) (fun S' h => h) (fun id S' h => h)
  unfold go at this
  exact this

def goD (l : List (Bool × GOp)) (κ : List Fm) (S : SSt) : Prop := vD Γ l (den Γ nb Q κ .nrm) S
def rgnK (vs : List SV) (l : List (Bool × GOp)) (κ : List Fm) (S : SSt) : Prop := goD Γ nb Q l κ (frzL vs S)
theorem rgnK_def (vs : List SV) (l : List (Bool × GOp)) (κ : List Fm) (S : SSt) : rgnK Γ nb Q vs l κ S = goD Γ nb Q l κ (frzL vs S) := rfl
theorem go_rgn (fz : List Opd) (l : List (Bool × GOp)) (κ : List Fm) (S : SSt) : go Γ nb Q (.rgn fz l) κ S = rgnK Γ nb Q (ogets fz S.f) l κ S := rfl
theorem go_rgb (fz : List Opd) (l l1 l2 : List (Bool × GOp)) (κ : List Fm) (S : SSt) : go Γ nb Q (.rgb fz l l1 l2) κ S = rgnK Γ nb Q (ogets fz S.f) l (.bth l1 l2 :: κ) S := rfl
theorem den_bth (l1 l2 : List (Bool × GOp)) (κ : List Fm) (S : SSt) : den Γ nb Q (.bth l1 l2 :: κ) .nrm S = (goD Γ nb Q l1 κ S ∧ goD Γ nb Q l2 κ S) := rfl
theorem goD_nil (κ : List Fm) (S : SSt) : goD Γ nb Q [] κ S = den Γ nb Q κ .nrm S := rfl
def contD (r : Out) (l : List (Bool × GOp)) (κ : List Fm) : Prop := match r with
  | some (p, S') => p ∧ goD Γ nb Q l κ S'
  | none => False
theorem contD_some (p : Prop) (S : SSt) (l : List (Bool × GOp)) (κ : List Fm) : contD Γ nb Q (some (p, S)) l κ = (p ∧ goD Γ nb Q l κ S) := rfl
theorem goD_u {i : IOp} (hi : isCall i = false) (fl : Bool) (l : List (Bool × GOp)) (κ : List Fm) (S : SSt) : goD Γ nb Q ((fl, .u i) :: l) κ S = contD Γ nb Q (evI fl i S) l κ := by
  cases i <;> first | (cases hi; done) | rfl
def callD (v : SV) (args : List SV) (d : Nat) (l : List (Bool × GOp)) (κ : List Fm) (S : SSt) : Prop := callP Γ v args S.h S.nx (fun r h' => goD Γ nb Q l κ { f := (d, r) :: S.f, h := h', nx := S.nx + 64 })
/-- What follows behind a call's result. -/
def kD (d : Nat) (l : List (Bool × GOp)) (κ : List Fm) (f : Fr) (nx : Nat) : SV → Heap → Prop := fun r h' => goD Γ nb Q l κ { f := (d, r) :: f, h := h', nx := nx }
theorem kD_app (d : Nat) (l : List (Bool × GOp)) (κ : List Fm) (f : Fr) (nx : Nat) (r : SV) (h' : Heap) : kD Γ nb Q d l κ f nx r h' = goD Γ nb Q l κ { f := (d, r) :: f, h := h', nx := nx } := rfl
theorem callD_clo (fid : FuncId) (caps : List SV) (args : List SV) (d : Nat) (l : List (Bool × GOp)) (κ : List Fm) (f : Fr) (h : Heap) (nx : Nat) : callD Γ nb Q (.clo fid caps) args d l κ ⟨f, h, nx⟩ = Γ fid (args ++ caps) h nx (kD Γ nb Q d l κ f (nx + 64)) := rfl
theorem goD_call (d : Nat) (f : Opd) (args : List Opd) (ts : List (Option TypeId)) (fz : Bool) (l : List (Bool × GOp)) (κ : List Fm) (S : SSt) : goD Γ nb Q ((false, .u (.call d f args ts fz)) :: l) κ S = callD Γ nb Q (oget f S.f) (argSs ts (ogets args S.f)) d l κ S := rfl
/-- The same, of a call that leaves owned memory as it is. -/
def kDp (h0 : Heap) (d : Nat) (l : List (Bool × GOp)) (κ : List Fm) (f : Fr) (nx : Nat) : SV → Heap → Prop := fun r h' => h' = h0 ∧ goD Γ nb Q l κ { f := (d, r) :: f, h := h', nx := nx }
theorem kDp_app (h0 : Heap) (d : Nat) (l : List (Bool × GOp)) (κ : List Fm) (f : Fr) (nx : Nat) (r : SV) (h' : Heap) : kDp Γ nb Q h0 d l κ f nx r h' = (h' = h0 ∧ goD Γ nb Q l κ { f := (d, r) :: f, h := h', nx := nx }) := rfl
def callDp (v : SV) (args : List SV) (d : Nat) (l : List (Bool × GOp)) (κ : List Fm) (S : SSt) : Prop := callP Γ v args S.h S.nx (fun r h' => h' = S.h ∧ goD Γ nb Q l κ { f := (d, r) :: S.f, h := h', nx := S.nx + 64 })
theorem callDp_clo (fid : FuncId) (caps : List SV) (args : List SV) (d : Nat) (l : List (Bool × GOp)) (κ : List Fm) (f : Fr) (h : Heap) (nx : Nat) : callDp Γ nb Q (.clo fid caps) args d l κ ⟨f, h, nx⟩ = Γ fid (args ++ caps) h nx (kDp Γ nb Q h d l κ f (nx + 64)) := rfl
theorem goD_callp (d : Nat) (f : Opd) (args : List Opd) (ts : List (Option TypeId)) (l : List (Bool × GOp)) (κ : List Fm) (S : SSt) : goD Γ nb Q ((true, .u (.call d f args ts true)) :: l) κ S = callDp Γ nb Q (oget f S.f) (argSs ts (ogets args S.f)) d l κ S := rfl
/-- The same, of a call that looks at nothing owned. -/
def callDs (v : SV) (args : List SV) (d : Nat) (l : List (Bool × GOp)) (κ : List Fm) (S : SSt) : Prop := ∃ r0, (∀ nx', callP Γ v args [] nx' (isR r0)) ∧ r0.lt 0 ∧ goD Γ nb Q l κ { f := (d, r0) :: S.f, h := S.h, nx := S.nx }
theorem callDs_clo (fid : FuncId) (caps : List SV) (args : List SV) (d : Nat) (l : List (Bool × GOp)) (κ : List Fm) (f : Fr) (h : Heap) (nx : Nat) : callDs Γ nb Q (.clo fid caps) args d l κ ⟨f, h, nx⟩ = ∃ r0, (∀ nx', Γ fid (args ++ caps) [] nx' (isR r0)) ∧ r0.lt 0 ∧ goD Γ nb Q l κ { f := (d, r0) :: f, h := h, nx := nx } := rfl
theorem goD_calls (d : Nat) (f : Opd) (args : List Opd) (ts : List (Option TypeId)) (l : List (Bool × GOp)) (κ : List Fm) (S : SSt) : goD Γ nb Q ((true, .u (.call d f args ts false)) :: l) κ S = callDs Γ nb Q (oget f S.f) (argSs ts (ogets args S.f)) d l κ S := rfl
def gD (v : SV) (fl : Bool) (t : Nat) (b : Bool) (d : Option Nat) (i : IOp) (l : List (Bool × GOp)) (κ : List Fm) (S : SSt) : Prop := match v with
  | .bool v => (v = b → goD Γ nb Q ((fl, .u i) :: l) κ (S.put t (.bool b))) ∧ (v = !b → goD Γ nb Q l κ (skipD d (S.put t (.bool (!b)))))
  | .tup [] => goD Γ nb Q l κ (skipD d S)
  | _ => False
theorem gD_U (fl : Bool) (t : Nat) (b : Bool) (d : Option Nat) (i : IOp) (l : List (Bool × GOp)) (κ : List Fm) (S : SSt) : gD Γ nb Q (.tup []) fl t b d i l κ S = goD Γ nb Q l κ (skipD d S) := rfl
theorem gD_bool (v fl : Bool) (t : Nat) (b : Bool) (d : Option Nat) (i : IOp) (l : List (Bool × GOp)) (κ : List Fm) (S : SSt) : gD Γ nb Q (.bool v) fl t b d i l κ S = ((v = b → goD Γ nb Q ((fl, .u i) :: l) κ (S.put t (.bool b))) ∧ (v = !b → goD Γ nb Q l κ (skipD d (S.put t (.bool (!b)))))) := rfl
theorem goD_g (fl : Bool) (t : Nat) (b : Bool) (d : Option Nat) (i : IOp) (l : List (Bool × GOp)) (κ : List Fm) (S : SSt) : goD Γ nb Q ((fl, .g t b d i) :: l) κ S = gD Γ nb Q (fget S.f t) fl t b d i l κ S := by
  unfold goD gD
  rw [vD]
  rfl
theorem goO_nil (κ : List Fm) (S : SSt) : goO Γ nb Q [] κ S = den Γ nb Q κ .nrm S := rfl
def contK (r : Out) (l : List GOp) (κ : List Fm) : Prop := match r with
  | some (p, S') => p ∧ goO Γ nb Q l κ S'
  | none => False
theorem contK_some (p : Prop) (S : SSt) (l : List GOp) (κ : List Fm) : contK Γ nb Q (some (p, S)) l κ = (p ∧ goO Γ nb Q l κ S) := rfl
theorem goO_u {i : IOp} (hi : isSp i = false) (l : List GOp) (κ : List Fm) (S : SSt) : goO Γ nb Q (.u i :: l) κ S = contK Γ nb Q (ev i S) l κ := by
  cases i <;> first | (cases hi; done) | rfl
theorem goO_slc (d : Nat) (eid : TypeId) (x : Opd) (lo hi : Option Opd) (l : List GOp) (κ : List Fm) (S : SSt) : goO Γ nb Q (.u (.slc d eid x lo hi) :: l) κ S = contK Γ nb Q (ev (.slc d eid x lo hi) (preF (oget x S.f) S)) l κ := rfl
theorem goO_mif (d : Nat) (t : TypeId) (ty e : Ty) (x : Opd) (l : List GOp) (κ : List Fm) (S : SSt) : goO Γ nb Q (.u (.mif d t ty e x) :: l) κ S = contK Γ nb Q (ev (.mif d t ty e x) (preP ty e (oget x S.f) S)) l κ := rfl
def callK (v : SV) (args : List SV) (d : Nat) (l : List GOp) (κ : List Fm) (S : SSt) : Prop := callP Γ v args S.h S.nx (fun r h' => goO Γ nb Q l κ { f := (d, r) :: S.f, h := h', nx := S.nx + 64 })
def kO (d : Nat) (l : List GOp) (κ : List Fm) (f : Fr) (nx : Nat) : SV → Heap → Prop := fun r h' => goO Γ nb Q l κ { f := (d, r) :: f, h := h', nx := nx }
theorem kO_app (d : Nat) (l : List GOp) (κ : List Fm) (f : Fr) (nx : Nat) (r : SV) (h' : Heap) : kO Γ nb Q d l κ f nx r h' = goO Γ nb Q l κ { f := (d, r) :: f, h := h', nx := nx } := rfl
theorem callK_clo (fid : FuncId) (caps : List SV) (args : List SV) (d : Nat) (l : List GOp) (κ : List Fm) (f : Fr) (h : Heap) (nx : Nat) : callK Γ nb Q (.clo fid caps) args d l κ ⟨f, h, nx⟩ = Γ fid (args ++ caps) h nx (kO Γ nb Q d l κ f (nx + 64)) := rfl
theorem goO_call (d : Nat) (f : Opd) (args : List Opd) (ts : List (Option TypeId)) (l : List GOp) (κ : List Fm) (S : SSt) : goO Γ nb Q (.u (.call d f args ts false) :: l) κ S = callK Γ nb Q (oget f S.f) (argSs ts (ogets args S.f)) d l κ S := rfl
def frzK (vs : List SV) (args : List Opd) (ts : List (Option TypeId)) (f : Opd) (d : Nat) (l : List GOp) (κ : List Fm) (S : SSt) : Prop := goO Γ nb Q (.u (.call d f args ts false) :: l) κ (frzL vs S)
theorem frzK_def (vs : List SV) (args : List Opd) (ts : List (Option TypeId)) (f : Opd) (d : Nat) (l : List GOp) (κ : List Fm) (S : SSt) : frzK Γ nb Q vs args ts f d l κ S = goO Γ nb Q (.u (.call d f args ts false) :: l) κ (frzL vs S) := rfl
theorem goO_callf (d : Nat) (f : Opd) (args : List Opd) (ts : List (Option TypeId)) (l : List GOp) (κ : List Fm) (S : SSt) : goO Γ nb Q (.u (.call d f args ts true) :: l) κ S = frzK Γ nb Q (ogets args S.f) args ts f d l κ S := rfl
def nlqK (r : Option (Prop × Prop)) (d : Nat) (neg : Bool) (l : List GOp) (κ : List Fm) (S : SSt) : Prop := match r with
  | some (p, q) => ∀ b : Bool, (b = true → p) → (q → b = true) → goO Γ nb Q l κ (S.put d (.bool (if neg then !b else b)))
  | none => False
theorem nlqK_some (p q : Prop) (d : Nat) (neg : Bool) (l : List GOp) (κ : List Fm) (S : SSt) : nlqK Γ nb Q (some (p, q)) d neg l κ S = ∀ b : Bool, (b = true → p) → (q → b = true) → goO Γ nb Q l κ (S.put d (.bool (if neg then !b else b))) := rfl
theorem goO_nlq (d : Nat) (neg : Bool) (x : Opd) (l : List GOp) (κ : List Fm) (S : SSt) : goO Γ nb Q (.u (.nlq d neg x) :: l) κ S = nlqK Γ nb Q (evNlq (oget x S.f) S.h) d neg l κ S := rfl
def gK (v : SV) (t : Nat) (b : Bool) (d : Option Nat) (i : IOp) (l : List GOp) (κ : List Fm) (S : SSt) : Prop := match v with
  | .bool v => (v = b → goO Γ nb Q (.u i :: l) κ (S.put t (.bool b))) ∧ (v = !b → goO Γ nb Q l κ (skipD d (S.put t (.bool (!b)))))
  | .tup [] => goO Γ nb Q l κ (skipD d S)
  | _ => False
theorem gK_U (t : Nat) (b : Bool) (d : Option Nat) (i : IOp) (l : List GOp) (κ : List Fm) (S : SSt) : gK Γ nb Q (.tup []) t b d i l κ S = goO Γ nb Q l κ (skipD d S) := rfl
theorem gK_bool (v : Bool) (t : Nat) (b : Bool) (d : Option Nat) (i : IOp) (l : List GOp) (κ : List Fm) (S : SSt) : gK Γ nb Q (.bool v) t b d i l κ S = ((v = b → goO Γ nb Q (.u i :: l) κ (S.put t (.bool b))) ∧ (v = !b → goO Γ nb Q l κ (skipD d (S.put t (.bool (!b)))))) := rfl
theorem goO_g (t : Nat) (b : Bool) (d : Option Nat) (i : IOp) (l : List GOp) (κ : List Fm) (S : SSt) : goO Γ nb Q (.g t b d i :: l) κ S = gK Γ nb Q (fget S.f t) t b d i l κ S := by
  unfold goO gK
  rw [vOps]
  rfl
end

theorem iteT (v : Bool) (A B : Prop) : (if v = true then A else B) = ((v = true → A) ∧ (v = false → B)) := by cases v <;> simp
theorem iteF (v : Bool) (A B : Prop) : (if v = false then A else B) = ((v = false → A) ∧ (v = true → B)) := by cases v <;> simp
theorem condK_ite (Γ : Tab) (nb : Nat) (Q : Ex → SSt → Prop) (b : Bool) (t e : IC) (κ : List Fm) (S : SSt) : condK Γ nb Q (.bool b) t e κ S = if b = true then go Γ nb Q t κ S else go Γ nb Q e κ S := by rw [iteT]; rfl
theorem gK_T (Γ : Tab) (nb : Nat) (Q : Ex → SSt → Prop) (v : Bool) (t : Nat) (d : Option Nat) (i : IOp) (l : List GOp) (κ : List Fm) (S : SSt) : gK Γ nb Q (.bool v) t true d i l κ S = if v = true then goO Γ nb Q (.u i :: l) κ (S.put t (.bool true)) else goO Γ nb Q l κ (skipD d (S.put t (.bool false))) := by rw [iteT]; rfl
theorem gK_F (Γ : Tab) (nb : Nat) (Q : Ex → SSt → Prop) (v : Bool) (t : Nat) (d : Option Nat) (i : IOp) (l : List GOp) (κ : List Fm) (S : SSt) : gK Γ nb Q (.bool v) t false d i l κ S = if v = false then goO Γ nb Q (.u i :: l) κ (S.put t (.bool false)) else goO Γ nb Q l κ (skipD d (S.put t (.bool true))) := by rw [iteF]; rfl
theorem gD_T (Γ : Tab) (nb : Nat) (Q : Ex → SSt → Prop) (v fl : Bool) (t : Nat) (d : Option Nat) (i : IOp) (l : List (Bool × GOp)) (κ : List Fm) (S : SSt) : gD Γ nb Q (.bool v) fl t true d i l κ S = if v = true then goD Γ nb Q ((fl, .u i) :: l) κ (S.put t (.bool true)) else goD Γ nb Q l κ (skipD d (S.put t (.bool false))) := by rw [iteT]; rfl
theorem gD_F (Γ : Tab) (nb : Nat) (Q : Ex → SSt → Prop) (v fl : Bool) (t : Nat) (d : Option Nat) (i : IOp) (l : List (Bool × GOp)) (κ : List Fm) (S : SSt) : gD Γ nb Q (.bool v) fl t false d i l κ S = if v = false then goD Γ nb Q ((fl, .u i) :: l) κ (S.put t (.bool false)) else goD Γ nb Q l κ (skipD d (S.put t (.bool true))) := by rw [iteF]; rfl

def bareK (S : SSt) : Out → Out
  | some (p, S') => some (p, ⟨S'.f, S.h, S'.nx⟩)
  | none => none
theorem evI_true (i : IOp) (f : Fr) (h : Heap) (nx : Nat) : evI true i ⟨f, h, nx⟩ = bareK ⟨f, h, nx⟩ (ev i ⟨f, [], nx⟩) := rfl
theorem evI_false (i : IOp) (S : SSt) : evI false i S = ev i S := rfl
theorem bareK_some (S S' : SSt) (p : Prop) : bareK S (some (p, S')) = some (p, ⟨S'.f, S.h, S'.nx⟩) := rfl
theorem trim_def (f : Fr) (h : Heap) (nx : Nat) (lv : List Nat) : SSt.trim ⟨f, h, nx⟩ lv = ⟨Fr.trim f lv, h, nx⟩ := rfl
theorem trim_nil (f : Fr) : Fr.trim f [] = [] := rfl
theorem trim_cons (f : Fr) (i : Nat) (r : List Nat) : Fr.trim f (i :: r) = (i, fget f i) :: Fr.trim f r := rfl
theorem fget_nil (i : Nat) : fget [] i = .any := rfl
theorem put_def (f : Fr) (h : Heap) (nx d : Nat) (x : SV) : SSt.put ⟨f, h, nx⟩ d x = ⟨(d, x) :: f, h, nx⟩ := rfl
theorem skipD_some (d : Nat) (S : SSt) : skipD (some d) S = S.put d (.tup []) := rfl
theorem skipD_none (S : SSt) : skipD none S = S := rfl
theorem sput_def (S : SSt) (d : Nat) (p : Prop) (v : SV) : sput S d (some (p, v)) = some (p, S.put d v) := rfl

section
variable {P : Program} {E : Nat → Value}

theorem valid_go {W : Opts} (hE : Errs2 P W.et E) {Γ : Tab} (hΓ : AllValid P E W.gl Γ) {f : FuncId} {ic : IC} {rs : List RV} (hir : fnIR P W f = some (ic, rs)) (h3 : rs.length ≤ 3) {sp : FSpec}
    (h : ∀ args h nx K, sp args h nx K → SV.okL P E args → (∀ n t, hget h n = some t → n < nx ∧ t.lt nx) → args.length ≤ W.N ∧
      ∀ Q : Ex → SSt → Prop, (∀ S', Fin nx K rs S' → Q .ret S' ∧ Q .nrm S') → go Γ nx Q ic [] { f := frOf 0 args, h := h, nx := nx }) : Valid P E W.gl f sp := by
  unfold fnIR at hir
  split at hir
  · rename_i fn hf
    split at hir
    · rename_i code hb
      split at hir
      · rename_i hN
        split at hir
        · rename_i ic' rs' hc hr
          cases hir
          refine valid_of hE hΓ hf hN.2 hb hN.1 hc hr h3 (fun args h0 nx K hsp hok hnm => ?_)
          obtain ⟨h1, h2⟩ := h args h0 nx K hsp hok hnm
          refine ⟨h1, ?_⟩
          have := h2 (fun ex S' => match ex with | .ext _ => False | _ => Fin nx K rs S') (fun S' hf => ⟨hf, hf⟩)
          exact this
        · cases hir
      · cases hir
    · cases hir
  · cases hir
/-- The same, the table chosen for the arguments at hand. -/
theorem valid_goG {W : Opts} (hE : Errs2 P W.et E) {f : FuncId} {ic : IC} {rs : List RV} (hir : fnIR P W f = some (ic, rs)) (h3 : rs.length ≤ 3) {sp : FSpec}
    (h : ∀ args h nx K, sp args h nx K → SV.okL P E args → (∀ n t, hget h n = some t → n < nx ∧ t.lt nx) → args.length ≤ W.N ∧
      ∃ Γ, AllValid P E W.gl Γ ∧ ∀ Q : Ex → SSt → Prop, (∀ S', Fin nx K rs S' → Q .ret S' ∧ Q .nrm S') → go Γ nx Q ic [] { f := frOf 0 args, h := h, nx := nx }) : Valid P E W.gl f sp := by
  intro args h0 o nx K ρ H w vs hsp hhs hden hlt hnm
  obtain ⟨h1, Γ, hΓ, h2⟩ := h args h0 nx K hsp hden.ok (fun n t hn => hnm n t (by rw [hget_append, hn]))
  have := valid_go hE hΓ hir h3 (sp := fun a b c d => a = args ∧ b = h0 ∧ c = nx ∧ d = K) (fun a b c d he _ _ => by
    obtain ⟨rfl, rfl, rfl, rfl⟩ := he
    exact ⟨h1, h2⟩)
  exact this args h0 o nx K ρ H w vs ⟨rfl, rfl, rfl, rfl⟩ hhs hden hlt hnm
end
end Go.Fw

/- The frame-work, part X: tables of specifications; words for the walk. -/
namespace Go.Fw
set_option linter.unusedVariables false
set_option linter.unusedSimpArgs false
open Go

/-- A function's options by lists: slots that may go round, variables that are known, calls that leave what is owned. -/
def mkW (n : Nat) (wr gl keep : List Nat) : Opts := { N := n, wr := fun d => wr.contains d, gl := fun d => gl.contains d, keep := fun d => keep.contains d }
/-- The same, with the known errors' type, and which of them are held against one another. -/
def mkWE (n : Nat) (wr gl keep : List Nat) (et : TypeId) (es fb : List Nat) : Opts := { N := n, wr := fun d => wr.contains d, gl := fun d => gl.contains d, keep := fun d => keep.contains d, et := some et, es := es, fb := fb }
/-- The same, with cells that no longer change from a region on, calls that leave owned memory as it is. -/
def mkWF (n : Nat) (wr gl keep : List Nat) (et : TypeId) (es fb : List Nat) (fp : List (Nat × TypeId)) (pu : List Nat := []) (nk : List Nat := []) (fq : List Nat := []) : Opts := { pu := pu, nk := nk, fq := fq, N := n, wr := fun d => wr.contains d, gl := fun d => gl.contains d, keep := fun d => keep.contains d, et := some et, es := es, fb := fb, fp := fp }
theorem noCall : (∀ d x, isCall (.mov d x) = false) ∧ (∀ d op k x y, isCall (.bin d op k x y) = false) ∧ (∀ d op k x y, isCall (.wrp d op k x y) = false) ∧ (∀ d op k x y, isCall (.shf d op k x y) = false) ∧ (∀ d op x y, isCall (.cmp d op x y) = false) ∧ (∀ d n k x, isCall (.eqb d n k x) = false) ∧ (∀ d n x y, isCall (.beq d n x y) = false) ∧ (∀ d op x, isCall (.una d op x) = false) ∧ (∀ d k x, isCall (.cnv d k x) = false) ∧ (∀ d g, isCall (.gld d g) = false) ∧ (∀ d z, isCall (.alc d z) = false) ∧ (∀ d n x, isCall (.box d n x) = false) ∧ (∀ d t x, isCall (.ld d t x) = false) ∧ (∀ t a x, isCall (.st t a x) = false) ∧ (∀ d k o t i x, isCall (.fad d k o t i x) = false) ∧ (∀ d i e x y, isCall (.iad d i e x y) = false) ∧ (∀ d n e x i, isCall (.aad d n e x i) = false) ∧ (∀ d s x, isCall (.len d s x) = false) ∧ (∀ d i e b x y, isCall (.app d i e b x y) = false) ∧ (∀ d i e b z l c, isCall (.mk d i e b z l c) = false) ∧ (∀ d i e p, isCall (.bsl d i e p) = false) ∧ (∀ d i x l h, isCall (.slc d i x l h) = false) ∧ (∀ d x, isCall (.nlc d x) = false) ∧ (∀ d i x, isCall (.ext d i x) = false) ∧ (∀ d t y e x, isCall (.mif d t y e x) = false) ∧ (∀ d c x y, isCall (.pck d c x y) = false) ∧ (∀ d x, isCall (.cvs d x) = false) ∧ (∀ d m l, isCall (.mmx d m l) = false) ∧ (∀ d a b c x, isCall (.fld d a b c x) = false) ∧ (∀ d z p, isCall (.bld d z p) = false) ∧ (∀ d et t e x, isCall (.tas d et t e x) = false) ∧ (∀ d neg et es x y, isCall (.ifq d neg et es x y) = false) ∧ (∀ d i e x, isCall (.sl0 d i e x) = false) ∧ (∀ d f c, isCall (.clo d f c) = false) ∧ (∀ d t p x, isCall (.bxf d t p x) = false) ∧ (∀ d n x y, isCall (.seq d n x y) = false) ∧ (∀ d x y, isCall (.cat d x y) = false) ∧ (∀ d n k x y, isCall (.agq d n k x y) = false) ∧ (∀ d i e l, isCall (.bsf d i e l) = false) ∧ (∀ d a b, isCall (.mkm d a b) = false) ∧ (∀ d a b k t z o x i, isCall (.lkp d a b k t z o x i) = false) ∧ (∀ a b k t x i v, isCall (.mup a b k t x i v) = false) ∧ (∀ d a b k x i, isCall (.mdl d a b k x i) = false) ∧ (∀ a b k x i, isCall (.mdn a b k x i) = false) := by refine ⟨?_, ?_⟩ <;> (repeat' (first | (intros; rfl) | constructor))
theorem noSp : (∀ d x, isSp (.mov d x) = false) ∧ (∀ d op k x y, isSp (.bin d op k x y) = false) ∧ (∀ d op k x y, isSp (.wrp d op k x y) = false) ∧ (∀ d op k x y, isSp (.shf d op k x y) = false) ∧ (∀ d op x y, isSp (.cmp d op x y) = false) ∧ (∀ d n k x, isSp (.eqb d n k x) = false) ∧ (∀ d n x y, isSp (.beq d n x y) = false) ∧ (∀ d op x, isSp (.una d op x) = false) ∧ (∀ d k x, isSp (.cnv d k x) = false) ∧ (∀ d g, isSp (.gld d g) = false) ∧ (∀ d z, isSp (.alc d z) = false) ∧ (∀ d n x, isSp (.box d n x) = false) ∧ (∀ d t x, isSp (.ld d t x) = false) ∧ (∀ t a x, isSp (.st t a x) = false) ∧ (∀ d k o t i x, isSp (.fad d k o t i x) = false) ∧ (∀ d i e x y, isSp (.iad d i e x y) = false) ∧ (∀ d n e x i, isSp (.aad d n e x i) = false) ∧ (∀ d s x, isSp (.len d s x) = false) ∧ (∀ d i e b x y, isSp (.app d i e b x y) = false) ∧ (∀ d i e b z l c, isSp (.mk d i e b z l c) = false) ∧ (∀ d i e p, isSp (.bsl d i e p) = false) ∧ (∀ d x, isSp (.nlc d x) = false) ∧ (∀ d i x, isSp (.ext d i x) = false) ∧ (∀ d c x y, isSp (.pck d c x y) = false) ∧ (∀ d x, isSp (.cvs d x) = false) ∧ (∀ d m l, isSp (.mmx d m l) = false) ∧ (∀ d a b c x, isSp (.fld d a b c x) = false) ∧ (∀ d z p, isSp (.bld d z p) = false) ∧ (∀ d et t e x, isSp (.tas d et t e x) = false) ∧ (∀ d neg et es x y, isSp (.ifq d neg et es x y) = false) ∧ (∀ d i e x, isSp (.sl0 d i e x) = false) ∧ (∀ d f c, isSp (.clo d f c) = false) ∧ (∀ d t p x, isSp (.bxf d t p x) = false) ∧ (∀ d n x y, isSp (.seq d n x y) = false) ∧ (∀ d x y, isSp (.cat d x y) = false) ∧ (∀ d n k x y, isSp (.agq d n k x y) = false) ∧ (∀ d i e l, isSp (.bsf d i e l) = false) ∧ (∀ d a b, isSp (.mkm d a b) = false) ∧ (∀ d a b k t z o x i, isSp (.lkp d a b k t z o x i) = false) ∧ (∀ a b k t x i v, isSp (.mup a b k t x i v) = false) ∧ (∀ d a b k x i, isSp (.mdl d a b k x i) = false) ∧ (∀ a b k x i, isSp (.mdn a b k x i) = false) := by refine ⟨?_, ?_⟩ <;> (repeat' (first | (intros; rfl) | constructor))
def bot : Tab := ⟨fun _ _ _ _ _ => False, fun _ _ _ => False⟩
def add (Γ : Tab) (f : FuncId) (sp : FSpec) : Tab := ⟨fun g => if g = f then sp else Γ g, Γ.it⟩
theorem add_def (Γ : Tab) (f : FuncId) (sp : FSpec) (g : FuncId) : add Γ f sp g = if g = f then sp else Γ g := rfl
def addIt (Γ : Tab) (f : FuncId) (sp : ItS) : Tab := ⟨Γ.fn, fun g => if g = f then sp else Γ.it g⟩
theorem add_it (Γ : Tab) (f : FuncId) (sp : FSpec) (g : FuncId) : (add Γ f sp).it g = Γ.it g := rfl
theorem addIt_fn (Γ : Tab) (f : FuncId) (sp : ItS) (g : FuncId) : addIt Γ f sp g = Γ g := rfl
theorem addIt_it (Γ : Tab) (f : FuncId) (sp : ItS) (g : FuncId) : (addIt Γ f sp).it g = if g = f then sp else Γ.it g := rfl
section
variable {P : Program} {E : Nat → Value} {G : Nat → Bool}
theorem allValid_bot : AllValid P E G bot := ⟨fun f args h o nx K ρ H w vs hsp => hsp.elim, fun g caps items h => h.elim⟩
theorem AllValid.add {Γ : Tab} (h : AllValid P E G Γ) {f : FuncId} {sp : FSpec} (hs : Valid P E G f sp) : AllValid P E G (add Γ f sp) := by
  refine ⟨fun g => ?_, h.2⟩
  show Valid P E G g (if g = f then sp else Γ g)
  split
  · rename_i e; subst e; exact hs
  · exact h.1 g
theorem AllValid.addIt {Γ : Tab} (h : AllValid P E G Γ) {f : FuncId} {sp : ItS} (hs : ItValid P E G f sp) : AllValid P E G (addIt Γ f sp) := by
  refine ⟨h.1, fun g => ?_⟩
  show ItValid P E G g (if g = f then sp else Γ.it g)
  split
  · rename_i e; subst e; exact hs
  · exact h.2 g
end

mutual
theorem sv_ren_id : ∀ x : SV, x.ren (fun n => n) = x
  | .agg l => by simp only [SV.ren]; rw [svL_ren_id l]
  | .tup l => by simp only [SV.ren]; rw [svL_ren_id l]
  | .clo f l => by simp only [SV.ren]; rw [svL_ren_id l]
  | .ifc t x => by simp only [SV.ren]; rw [sv_ren_id x]
  | .ptr .. | .vec _ | .eltv .. | .eltc .. | .int .. | .bool _ | .str _ | .dat .. | .elt .. | .arrc .. | .nils | .raw _ | .any => by simp only [SV.ren]
theorem svL_ren_id : ∀ l : List SV, SV.renL (fun n => n) l = l
  | [] => by simp only [SV.renL]
  | x :: l => by simp only [SV.renL]; rw [sv_ren_id x, svL_ren_id l]
end
theorem tok_ren_id (t : Tok) : t.ren (fun n => n) = t := by
  cases t with
  | arr _ _ _ => rfl
  | map _ _ _ => rfl
  | cells l => simp only [Tok.ren]; rw [svL_ren_id l]

/-- The end of a function that leaves what its caller owns as it is, its result no memory of its own. -/
theorem fin_same {nb : Nat} {h : Heap} {K : SV → Heap → Prop} {rs : List RV} {S : SSt} {p : Prop} {xs : List SV} (he : evRs rs S = some (p, xs)) (hp : p) (hl : ∀ π, (mkR xs).ren π = mkR xs) (hlt : (mkR xs).lt nb) (hh : ∀ n t, hget h n = some t → n < nb ∧ t.lt nb)
    (hs : ∀ n t, hget h n = some t → hget S.h n = some t) (hk : K (mkR xs) h) : Fin nb K rs S := by
  unfold Fin
  rw [he]
  refine ⟨hp, mkR xs, h, Leq0.leq ⟨fun n => n, fun i => ?_, fun n t hn => ?_, fun n m t u _ _ hne => hne, fun _ _ => rfl, fun i => ?_, fun n t hn => ?_, Nat.le_add_right _ _⟩, hk⟩
  · simp only [fget]
    split
    · exact .inl (hl _)
    · exact .inr rfl
  · have hid : t.ren (fun n => n) = t := tok_ren_id t
    rw [hid]; exact hs n t hn
  · simp only [fget]
    split
    · exact SV.lt_mono (Nat.le_add_right _ _) hlt
    · exact trivial
  · have := hh n t hn
    exact ⟨Nat.lt_of_lt_of_le this.1 (Nat.le_add_right _ _), Tok.lt_mono (Nat.le_add_right _ _) this.2⟩

mutual
/-- It names no memory of the function's own. -/
def SV.nn : SV → Bool
  | .ptr _ _ | .vec _ | .eltv _ _ _ _ | .eltc _ _ _ _ => false
  | .agg l | .tup l | .clo _ l => SV.nnL l
  | .ifc _ x => SV.nn x
  | _ => true
def SV.nnL : List SV → Bool
  | [] => true
  | x :: l => SV.nn x && SV.nnL l
end
mutual
theorem nn_ren {π : Nat → Nat} : ∀ {x : SV}, x.nn = true → x.ren π = x
  | .agg l, h => by simp only [SV.ren]; rw [nnL_ren (l := l) (by simpa [SV.nn] using h)]
  | .tup l, h => by simp only [SV.ren]; rw [nnL_ren (l := l) (by simpa [SV.nn] using h)]
  | .clo f l, h => by simp only [SV.ren]; rw [nnL_ren (l := l) (by simpa [SV.nn] using h)]
  | .ifc t x, h => by simp only [SV.ren]; rw [nn_ren (x := x) (by simpa [SV.nn] using h)]
  | .ptr .., h | .vec _, h | .eltv .., h | .eltc .., h => by simp [SV.nn] at h
  | .int .., _ | .bool _, _ | .str _, _ | .dat .., _ | .elt .., _ | .arrc .., _ | .nils, _ | .raw _, _ | .any, _ => by simp only [SV.ren]
theorem nnL_ren {π : Nat → Nat} : ∀ {l : List SV}, SV.nnL l = true → SV.renL π l = l
  | [], _ => by simp only [SV.renL]
  | x :: l, h => by
    simp only [SV.nnL, Bool.and_eq_true] at h
    simp only [SV.renL]; rw [nn_ren h.1, nnL_ren h.2]
end
mutual
theorem nn_lt {nx : Nat} : ∀ {x : SV}, x.nn = true → x.lt nx
  | .agg l, h => nnL_lt (l := l) (by simpa [SV.nn] using h)
  | .tup l, h => nnL_lt (l := l) (by simpa [SV.nn] using h)
  | .clo f l, h => nnL_lt (l := l) (by simpa [SV.nn] using h)
  | .ifc t x, h => nn_lt (x := x) (by simpa [SV.nn] using h)
  | .ptr .., h | .vec _, h | .eltv .., h | .eltc .., h => by simp [SV.nn] at h
  | .int .., _ | .bool _, _ | .str _, _ | .dat .., _ | .elt .., _ | .arrc .., _ | .nils, _ | .raw _, _ | .any, _ => trivial
theorem nnL_lt {nx : Nat} : ∀ {l : List SV}, SV.nnL l = true → SV.ltL nx l
  | [], _ => trivial
  | x :: l, h => by
    simp only [SV.nnL, Bool.and_eq_true] at h
    exact ⟨nn_lt h.1, nnL_lt h.2⟩
end

/-- One result out of a slot. -/
theorem fin_t {nb : Nat} {h : Heap} {K : SV → Heap → Prop} {s : Nat} {S : SSt} (x : SV) (hx : fget S.f s = x) (hn : x.nn = true) (hh : ∀ n t, hget h n = some t → n < nb ∧ t.lt nb) (hs : ∀ n t, hget h n = some t → hget S.h n = some t) (hk : K x h) : Fin nb K [.t s] S := by
  subst hx
  exact fin_same (p := True ∧ True) (xs := [fget S.f s]) rfl ⟨trivial, trivial⟩ (fun _ => nn_ren hn) (nn_lt hn) hh hs hk
/-- One result out of a cell of its own. -/
theorem fin_c {nb : Nat} {h : Heap} {K : SV → Heap → Prop} {s : Nat} {ty : Ty} {S : SSt} {p : Prop} (x : SV) (hx : evR (.c s ty) S = some (p, x)) (hp : p) (hn : x.nn = true) (hh : ∀ n t, hget h n = some t → n < nb ∧ t.lt nb) (hs : ∀ n t, hget h n = some t → hget S.h n = some t) (hk : K x h) : Fin nb K [.c s ty] S := by
  refine fin_same (p := p ∧ True) (xs := [x]) ?_ ⟨hp, trivial⟩ (fun _ => nn_ren hn) (nn_lt hn) hh hs hk
  simp [evRs, hx]

theorem D_i (n : Int) : (D.int n).i = n := rfl
theorem D_b (b : Bool) : (D.bool b).b = b := rfl
theorem D_s (s : ByteArray) : (D.str s).s = s := rfl
theorem D_l (l : List D) : (D.list l).l = l := rfl
theorem D_tgt (d : D) : (D.ptr d).tgt = d := rfl
theorem nil_nil : D.nil.isNil = true := rfl
theorem nil_err (k : Nat) : (D.err k).isNil = false := rfl
theorem nil_ifc (t : TypeId) (d : D) : (D.ifc t d).isNil = false := rfl
theorem nil_ptr (d : D) : (D.ptr d).isNil = false := rfl
theorem nil_node (l : List D) : (D.node l).isNil = false := rfl
theorem D_fld0 (x0 : D) (l : List D) : (D.node (x0 :: l)).fld 0 = x0 := rfl
theorem D_fld1 (x0 x1 : D) (l : List D) : (D.node (x0 :: x1 :: l)).fld 1 = x1 := rfl
theorem D_fld2 (x0 x1 x2 : D) (l : List D) : (D.node (x0 :: x1 :: x2 :: l)).fld 2 = x2 := rfl
theorem D_fld3 (x0 x1 x2 x3 : D) (l : List D) : (D.node (x0 :: x1 :: x2 :: x3 :: l)).fld 3 = x3 := rfl
theorem D_fld4 (x0 x1 x2 x3 x4 : D) (l : List D) : (D.node (x0 :: x1 :: x2 :: x3 :: x4 :: l)).fld 4 = x4 := rfl
theorem D_fld5 (x0 x1 x2 x3 x4 x5 : D) (l : List D) : (D.node (x0 :: x1 :: x2 :: x3 :: x4 :: x5 :: l)).fld 5 = x5 := rfl
theorem D_fld6 (x0 x1 x2 x3 x4 x5 x6 : D) (l : List D) : (D.node (x0 :: x1 :: x2 :: x3 :: x4 :: x5 :: x6 :: l)).fld 6 = x6 := rfl
theorem D_fld7 (x0 x1 x2 x3 x4 x5 x6 x7 : D) (l : List D) : (D.node (x0 :: x1 :: x2 :: x3 :: x4 :: x5 :: x6 :: x7 :: l)).fld 7 = x7 := rfl
theorem D_fld8 (x0 x1 x2 x3 x4 x5 x6 x7 x8 : D) (l : List D) : (D.node (x0 :: x1 :: x2 :: x3 :: x4 :: x5 :: x6 :: x7 :: x8 :: l)).fld 8 = x8 := rfl
theorem D_fld9 (x0 x1 x2 x3 x4 x5 x6 x7 x8 x9 : D) (l : List D) : (D.node (x0 :: x1 :: x2 :: x3 :: x4 :: x5 :: x6 :: x7 :: x8 :: x9 :: l)).fld 9 = x9 := rfl
theorem D_fld10 (x0 x1 x2 x3 x4 x5 x6 x7 x8 x9 x10 : D) (l : List D) : (D.node (x0 :: x1 :: x2 :: x3 :: x4 :: x5 :: x6 :: x7 :: x8 :: x9 :: x10 :: l)).fld 10 = x10 := rfl
theorem D_fld11 (x0 x1 x2 x3 x4 x5 x6 x7 x8 x9 x10 x11 : D) (l : List D) : (D.node (x0 :: x1 :: x2 :: x3 :: x4 :: x5 :: x6 :: x7 :: x8 :: x9 :: x10 :: x11 :: l)).fld 11 = x11 := rfl
theorem D_fld12 (x0 x1 x2 x3 x4 x5 x6 x7 x8 x9 x10 x11 x12 : D) (l : List D) : (D.node (x0 :: x1 :: x2 :: x3 :: x4 :: x5 :: x6 :: x7 :: x8 :: x9 :: x10 :: x11 :: x12 :: l)).fld 12 = x12 := rfl
theorem D_fld13 (x0 x1 x2 x3 x4 x5 x6 x7 x8 x9 x10 x11 x12 x13 : D) (l : List D) : (D.node (x0 :: x1 :: x2 :: x3 :: x4 :: x5 :: x6 :: x7 :: x8 :: x9 :: x10 :: x11 :: x12 :: x13 :: l)).fld 13 = x13 := rfl
theorem D_fld14 (x0 x1 x2 x3 x4 x5 x6 x7 x8 x9 x10 x11 x12 x13 x14 : D) (l : List D) : (D.node (x0 :: x1 :: x2 :: x3 :: x4 :: x5 :: x6 :: x7 :: x8 :: x9 :: x10 :: x11 :: x12 :: x13 :: x14 :: l)).fld 14 = x14 := rfl
theorem D_fld15 (x0 x1 x2 x3 x4 x5 x6 x7 x8 x9 x10 x11 x12 x13 x14 x15 : D) (l : List D) : (D.node (x0 :: x1 :: x2 :: x3 :: x4 :: x5 :: x6 :: x7 :: x8 :: x9 :: x10 :: x11 :: x12 :: x13 :: x14 :: x15 :: l)).fld 15 = x15 := rfl
theorem nm_ne2 (n a0 a1 : Nat) : (n + a0 + a1 = n) = (a0 + a1 = 0) := by apply propext; omega
theorem nm_en2 (n a0 a1 : Nat) : (n = n + a0 + a1) = (a0 + a1 = 0) := by apply propext; omega
theorem nm_ne3 (n a0 a1 a2 : Nat) : (n + a0 + a1 + a2 = n) = (a0 + a1 + a2 = 0) := by apply propext; omega
theorem nm_en3 (n a0 a1 a2 : Nat) : (n = n + a0 + a1 + a2) = (a0 + a1 + a2 = 0) := by apply propext; omega
theorem nm_ne4 (n a0 a1 a2 a3 : Nat) : (n + a0 + a1 + a2 + a3 = n) = (a0 + a1 + a2 + a3 = 0) := by apply propext; omega
theorem nm_en4 (n a0 a1 a2 a3 : Nat) : (n = n + a0 + a1 + a2 + a3) = (a0 + a1 + a2 + a3 = 0) := by apply propext; omega
theorem nm_ne5 (n a0 a1 a2 a3 a4 : Nat) : (n + a0 + a1 + a2 + a3 + a4 = n) = (a0 + a1 + a2 + a3 + a4 = 0) := by apply propext; omega
theorem nm_en5 (n a0 a1 a2 a3 a4 : Nat) : (n = n + a0 + a1 + a2 + a3 + a4) = (a0 + a1 + a2 + a3 + a4 = 0) := by apply propext; omega
theorem nm_ne6 (n a0 a1 a2 a3 a4 a5 : Nat) : (n + a0 + a1 + a2 + a3 + a4 + a5 = n) = (a0 + a1 + a2 + a3 + a4 + a5 = 0) := by apply propext; omega
theorem nm_en6 (n a0 a1 a2 a3 a4 a5 : Nat) : (n = n + a0 + a1 + a2 + a3 + a4 + a5) = (a0 + a1 + a2 + a3 + a4 + a5 = 0) := by apply propext; omega
theorem nm_ne7 (n a0 a1 a2 a3 a4 a5 a6 : Nat) : (n + a0 + a1 + a2 + a3 + a4 + a5 + a6 = n) = (a0 + a1 + a2 + a3 + a4 + a5 + a6 = 0) := by apply propext; omega
theorem nm_en7 (n a0 a1 a2 a3 a4 a5 a6 : Nat) : (n = n + a0 + a1 + a2 + a3 + a4 + a5 + a6) = (a0 + a1 + a2 + a3 + a4 + a5 + a6 = 0) := by apply propext; omega
theorem nm_ne8 (n a0 a1 a2 a3 a4 a5 a6 a7 : Nat) : (n + a0 + a1 + a2 + a3 + a4 + a5 + a6 + a7 = n) = (a0 + a1 + a2 + a3 + a4 + a5 + a6 + a7 = 0) := by apply propext; omega
theorem nm_en8 (n a0 a1 a2 a3 a4 a5 a6 a7 : Nat) : (n = n + a0 + a1 + a2 + a3 + a4 + a5 + a6 + a7) = (a0 + a1 + a2 + a3 + a4 + a5 + a6 + a7 = 0) := by apply propext; omega
theorem nm_ne9 (n a0 a1 a2 a3 a4 a5 a6 a7 a8 : Nat) : (n + a0 + a1 + a2 + a3 + a4 + a5 + a6 + a7 + a8 = n) = (a0 + a1 + a2 + a3 + a4 + a5 + a6 + a7 + a8 = 0) := by apply propext; omega
theorem nm_en9 (n a0 a1 a2 a3 a4 a5 a6 a7 a8 : Nat) : (n = n + a0 + a1 + a2 + a3 + a4 + a5 + a6 + a7 + a8) = (a0 + a1 + a2 + a3 + a4 + a5 + a6 + a7 + a8 = 0) := by apply propext; omega
theorem nm_ne10 (n a0 a1 a2 a3 a4 a5 a6 a7 a8 a9 : Nat) : (n + a0 + a1 + a2 + a3 + a4 + a5 + a6 + a7 + a8 + a9 = n) = (a0 + a1 + a2 + a3 + a4 + a5 + a6 + a7 + a8 + a9 = 0) := by apply propext; omega
theorem nm_en10 (n a0 a1 a2 a3 a4 a5 a6 a7 a8 a9 : Nat) : (n = n + a0 + a1 + a2 + a3 + a4 + a5 + a6 + a7 + a8 + a9) = (a0 + a1 + a2 + a3 + a4 + a5 + a6 + a7 + a8 + a9 = 0) := by apply propext; omega
theorem bq_tt : (true == true) = true := rfl
theorem bq_tf : (true == false) = false := rfl
theorem bq_ft : (false == true) = false := rfl
theorem bq_ff : (false == false) = true := rfl
theorem min_i64 : IntKind.i64.min = -9223372036854775808 := rfl
theorem max_i64 : IntKind.i64.max = 9223372036854775807 := rfl
theorem min_u32 : IntKind.u32.min = 0 := rfl
theorem max_u32 : IntKind.u32.max = 4294967295 := rfl
theorem min_u64 : IntKind.u64.min = 0 := rfl
theorem max_u64 : IntKind.u64.max = 18446744073709551615 := rfl
theorem min_u8 : IntKind.u8.min = 0 := rfl
theorem max_u8 : IntKind.u8.max = 255 := rfl
end Go.Fw
