import Derived.Test.YtmjenjccinfbaaaDoorFwRm
/- The frame-work, part S: all operations together. -/
namespace Go.Fw
set_option linter.unusedVariables false
set_option linter.unusedSimpArgs false
open Go

section
variable {P : Program} {E : Nat → Value}

/-- What one operation leaves. -/
def Left (P : Program) (E : Nat → Value) (c : Ctx) (S' : SSt) (K : Act → World → Prop) : Prop := ∀ ρ' H' a' w', Sat P E c ρ' H' S' a' w' → K a' w'

theorem tyOf_slice {tid eid : TypeId} (hu : P.underlying tid = some (.slice eid)) : tyOf P 8 tid = .slice eid := by simp [tyOf, hu]
theorem tyOf_ptr {tid eid : TypeId} (hu : P.underlying tid = some (.pointer eid)) : tyOf P 8 tid = .ptr eid := by simp [tyOf, hu]

theorem mm_sound {op : Value → Value → Sem Value} {mx : Bool} {w : World} (hop : ∀ k x y, (op (.int k x) (.int k y)).run P w = .ok (.int k (if mx then max x y else min x y)) w) {ρ : Nat → Value} {H : FH} : ∀ {r : List SV} {vs : List Value} {k : IntKind} {x : Int} {v : SV},
    DenV P E ρ H r vs → k.min ≤ x ∧ x ≤ k.max → evMm mx (.int k x) r = some v → ∃ u, (vs.foldlM op (.int k x)).run P w = .ok u w ∧ Den P E ρ H v u ∧ ∀ n, v.lt n := by
  intro r
  induction r with
  | nil => intro vs k x v hd hr h; cases hd; simp only [evMm] at h; cases h; exact ⟨_, by simp [Sem.run, pure], .int hr, fun _ => trivial⟩
  | cons y r ih =>
    intro vs k x v hd hr h
    cases hd with
    | cons h1 h2 =>
      unfold evMm at h
      split at h
      · rename_i heq; cases heq
      · rename_i k1 a k2 b r' e1 e2
        cases e1; cases e2
        split at h
        · rename_i hk; subst hk
          cases h1 with | int h3 =>
          obtain ⟨u, h4, h5⟩ := ih h2 (by cases mx <;> simp <;> omega) h
          refine ⟨u, ?_, h5⟩
          simp only [List.foldlM_cons, Sem.run_bind, hop, Result.andThen_ok]
          exact h4
        · cases h
      · cases h

theorem op_sound {et : Option TypeId} (hE : Errs2 P et E) {c : Ctx} {W : Opts} (hN : W.N = c.N) (hG : W.gl = c.G) (hC : ErrC E c ∧ W.et = et) {ρ : Nat → Value} {H : FH} {S : SSt} {a : Act} {w : World} (s : Sat P E c ρ H S a w) {o : Oper} {i : IOp} (hc : comp P W o = some i) {p : Prop} {S' : SSt} (h : ev i S = some (p, S')) (hp : p)
    {K : Act → World → Prop} {Q : Exit → Act → World → Prop} (hK : Left P E c S' K) : o.wp P a w K Q := by
  have h1 := hE.1.one
  unfold comp at hc
  split at hc
  · -- move
    rename_i x d ho hd
    split at hc
    · rename_i hdN
      obtain ⟨x', hx, rfl⟩ := Option.map_eq_some_iff.1 hc
      simp only [ev] at h; cases h
      exact put_sound s hd (hN ▸ hdN) hK ⟨_, run_mov a o x w (.inl ho), s.opd hx⟩
    · cases hc
  · -- assign
    rename_i x d ho hd
    split at hc
    · rename_i hdN
      obtain ⟨x', hx, rfl⟩ := Option.map_eq_some_iff.1 hc
      simp only [ev] at h; cases h
      exact put_sound s hd (hN ▸ hdN) hK ⟨_, run_mov a o x w (.inr ho), s.opd hx⟩
    · cases hc
  · -- binOp
    rename_i op t x y t' d ho hd
    split at hc
    · rename_i hdN
      split at hc
      · rename_i x' y' hx hy
        split at hc
        · rename_i i' e
          cases hc
          exact bin_sound hE.1 s hd (hN ▸ hdN) ho hx hy e h hp hK
        · split at hc
          · rename_i i' e
            cases hc
            exact ifq_sound hE hG hC s hd (hN ▸ hdN) ho hx hy e h hp hK
          · exact seq_sound s hd (hN ▸ hdN) ho hx hy hc h hp hK
      · cases hc
    · cases hc
  · -- unOp
    rename_i op t x d ho hd
    split at hc
    · rename_i hdN
      obtain ⟨x', hx, rfl⟩ := Option.map_eq_some_iff.1 hc
      simp only [ev] at h
      obtain ⟨v, h2, rfl⟩ := sput_some h
      have sx := s.opd hx
      obtain ⟨u, h3, h4, h5⟩ := run_una h2 sx.1 w
      refine put_sound s hd (hN ▸ hdN) hK ⟨u, ?_, h4, h5 _⟩
      simp only [execOp, ho]
      exact run_v _ w w u h3
    · cases hc
  · -- convert
    rename_i src dst x d ho hd
    split at hc
    · rename_i hdN
      split at hc
      · rename_i x' hx
        unfold compCvt at hc
        split at hc
        · rename_i k0 hu1
          split at hc
          · rename_i k hu2
            cases hc
            simp only [ev] at h
            have sx := s.opd hx
            split at h
            · rename_i k1 n hv
              cases h
              rw [hv] at sx
              obtain ⟨sx, _⟩ := sx
              generalize hvx : a.eval x = vx at sx
              cases sx with | int hr =>
              refine put_sound s hd (hN ▸ hdN) hK ⟨.int k (k.wrap n), ?_, .int (wrap_range _ _), trivial⟩
              simp only [execOp, ho, hvx]
              refine run_v _ w w _ ?_
              simp [convert, Sem.run_bind, run_underlying hu1, run_underlying hu2, Conv.intToInt, Sem.run, pure]
            · cases h
          · cases hc
        · rename_i e hu1
          split at hc
          · rename_i hcond
            cases hc
            obtain ⟨rfl, hu8⟩ := hcond
            simp only [ev] at h
            have sx := s.opd hx
            split at h
            · rename_i n hv
              split at h
              · rename_i eid e' l hn
                cases h
                rw [hv] at sx
                obtain ⟨sx, _⟩ := sx
                generalize hvx : a.eval x = vx at sx
                cases sx with | vec _ =>
                obtain ⟨he, xs, hown, hrep, hH⟩ := (s.tok hn).1
                rcases hown.2 with ⟨_, h2⟩ | ⟨g, cap, cur, hρ, _, hh, _⟩
                · exact absurd (List.eq_nil_of_length_eq_zero h2) hp
                · rename_i hcap0 _
                  obtain ⟨H', s1, hden⟩ := s.frzMark hn (g := g) (by rw [hρ]; exact blk_slice (by assumption)) ⟨g, cur.size, none⟩ rfl 1
                  have hu8' := isU8_spec hu8
                  refine wp_value (w' := w.freeze ⟨g, cur.size, none⟩ 1) (v := ρ n) ?_ hd (hK _ _ _ _ (s1.put hden trivial (hN ▸ hdN)))
                  simp only [execOp, ho, hvx]
                  refine run_v _ w _ _ ?_
                  rw [hρ]
                  simp [convert, Sem.run_bind, run_underlying hu1, run_underlying hu8', markStringish, shape, World.shape?, hh, freeze, Sem.run, pure]
              · cases h
            · cases h
          · cases hc
        · cases hc
      · cases hc
    · cases hc
  · -- alloc
    rename_i t d ho hd
    split at hc
    · rename_i hdN
      obtain ⟨z, hz, rfl⟩ := Option.map_eq_some_iff.1 hc
      simp only [ev] at h; cases h
      obtain ⟨inf, zv, hi, hzz, hden, hlt⟩ := zsv_den (P := P) (E := E) hz ρ H
      obtain ⟨ρ', hs⟩ := s.alloc hden (hlt _) t (hN ▸ hdN : d < c.N)
      refine wp_value (w' := w.alloc (.cells zv.cells.toList.toArray t)) ?_ hd (hK _ _ _ _ hs)
      simp only [execOp, ho]
      refine run_v _ w _ _ ?_
      rw [run_allocI (P := P) t (z := zv) (by rw [hi]; simp [hzz]) w]
    · cases hc
  · -- box
    rename_i t x d ho hd
    split at hc
    · rename_i hdN
      obtain ⟨x', hx, hc⟩ := Option.map_eq_some_iff.1 hc
      have sx := s.opd hx
      split at hc
      · subst hc
        simp only [ev] at h
        obtain ⟨v, h2, rfl⟩ := sput_some h
        unfold evBxf at h2
        split at h2
        · rename_i dd htd
          cases h2
          obtain ⟨cs, hcs, hden⟩ := svCells_den h1 sx.1 hp
          obtain ⟨H', s2, h3⟩ := s.bornFrozen (toD_all htd hden) t
          have h4 : ∀ {pe : Option TypeId}, (∀ e, pe = some e → e = t) → Den P E ρ H' (match pe with | none => SV.elt (tyOf P 8 t) dd | some e => .dat (.ptr e) (.ptr dd)) (.pointer (some ⟨w.heap.size, 0, none⟩)) ∧ (match pe with | none => SV.elt (tyOf P 8 t) dd | some e => .dat (.ptr e) (.ptr dd)).lt S.nx := by
            intro pe hpe
            cases pe with
            | none => exact ⟨h3, trivial⟩
            | some e =>
              obtain rfl := hpe e rfl
              cases h3 with | elt a1 a2 a3 => exact ⟨.dat rfl (.ptr a1 a2 a3), trivial⟩
          have h5 := h4 (pe := if W.fq.contains d then some t else none) (fun e he => by split at he <;> cases he; rfl)
          refine wp_value (w' := w.alloc (.cells cs.toArray t)) ?_ hd (hK _ _ _ _ (s2.put h5.1 h5.2 (hN ▸ hdN)))
          simp only [execOp, ho]
          refine run_v _ w _ _ ?_
          rw [run_boxI, hcs]
        · cases h2
      subst hc
      simp only [ev] at h
      have fin : ∀ (l : List SV) (cs : List Value), DenC P E ρ H l cs → SV.ltL S.nx l → (a.eval x).cells = cs.toArray → S' = { f := (d, .ptr S.nx 0) :: S.f, h := (S.nx, .cells l) :: S.h, nx := S.nx + 1 } → o.wp P a w K Q := by
        intro l cs hden hlt hcs hS
        subst hS
        obtain ⟨ρ', hs⟩ := s.alloc hden hlt t (hN ▸ hdN : d < c.N)
        refine wp_value (w' := w.alloc (.cells cs.toArray t)) ?_ hd (hK _ _ _ _ hs)
        simp only [execOp, ho]
        refine run_v _ w _ _ ?_
        rw [run_boxI, hcs]
      split at h
      · rename_i l hv
        cases h
        rw [hv] at sx
        generalize hvx : a.eval x = vx at sx
        cases sx.1 with
        | agg hd' => exact fin l _ hd' sx.2 (by rw [hvx]; rfl) rfl
      · rename_i y hne
        cases h
        have hone := den_one h1 sx.1 hp
        have hcells : (a.eval x).cells = #[a.eval x] := by generalize a.eval x = vx at hone; cases vx <;> first | rfl | (simp [Value.oneCell'] at hone)
        exact fin _ [a.eval x] (.one sx.1 hone .nil) ⟨sx.2, trivial⟩ (by rw [hcells]) rfl
    · cases hc
  · -- load
    rename_i t x d ho hd
    split at hc
    · rename_i hcond
      obtain ⟨hdN, hsz⟩ := hcond
      obtain ⟨hu, hs⟩ := szOk_spec hsz
      split at hc
      · rename_i g
        split at hc
        · rename_i hcond
          obtain ⟨hgl, hagg⟩ := hcond
          cases hc
          simp only [ev] at h; cases h
          have hg := s.hin _ _ _ (s.glob g (hG ▸ hgl))
          have hl := (run_loadVar (P := P) t hu (cs := [E g]) (by rw [hs, size_noAgg hagg]; rfl) ⟨g, 0, none⟩ w (fun j v hj => by
            match j, hj with
            | 0, hj => simp at hj; subst hj; rw [add_lit]; exact hg)).2 hagg _ rfl
          refine put_sound s hd (hN ▸ hdN) hK ⟨E g, ?_, .dat rfl .err, trivial⟩
          simp only [execOp, ho]
          refine run_v _ w w _ ?_
          simp [Instr.loadAt, Instr.sureAddr, Sem.run_bind, Act.eval, hl]
        · cases hc
      · obtain ⟨x', hx, rfl⟩ := Option.map_eq_some_iff.1 hc
        simp only [ev] at h
        obtain ⟨v, h2, rfl⟩ := sput_some h
        have sx := s.opd hx
        obtain ⟨u, h3, h4, h5⟩ := load_sound h1 s hu hs h2 hp sx.1 sx.2
        refine put_sound s hd (hN ▸ hdN) hK ⟨u, ?_, h4, h5⟩
        simp only [execOp, ho]
        exact run_v _ w w u h3
    · cases hc
  · -- store
    rename_i t x y ho hd
    split at hc
    · rename_i hsz
      split at hc
      · rename_i x' y' hx hy
        cases hc
        obtain ⟨hu, hs⟩ := szOk_spec hsz
        have sx := s.opd hx
        have sy := s.opd hy
        simp only [ev] at h
        split at h
        · rename_i p' h' e; cases h
          obtain ⟨w', h3, h4⟩ := store_sound h1 s hs e hp sx.1 sy.1 sy.2
          refine wp_skipped (w' := w') ?_ hd (hK _ _ _ _ h4)
          simp only [execOp, ho]
          simp [Sem.run_bind, h3, Sem.run, pure]
        · cases h
      · cases hc
    · cases hc
  · -- fieldAddr
    rename_i t x k d ho hd
    split at hc
    · rename_i hdN
      split at hc
      · rename_i fs x' hu hx
        split at hc
        · rename_i f hf
          split at hc
          · rename_i hcond; cases hc
            simp only [ev] at h
            obtain ⟨v, h2, rfl⟩ := sput_some h
            have sx := s.opd hx
            obtain ⟨_, hs⟩ := szOk_spec hcond.1
            obtain ⟨u, h3, h4, h5⟩ := fad_sound s (tid := t) ⟨fs, f, hu, hf, rfl, by rw [hs]; simp; omega, rfl, hcond.2.2⟩ h2 hp sx.1 sx.2
            refine put_sound s hd (hN ▸ hdN) hK ⟨u, ?_, h4, h5⟩
            simp only [execOp, ho]
            exact run_v _ w w u h3
          · cases hc
        · cases hc
      · cases hc
    · cases hc
  · -- indexAddr
    rename_i t x y d ho hd
    split at hc
    · rename_i hdN
      split at hc
      · rename_i eid x' y' hu hx hy
        split at hc
        · rename_i hsz; cases hc
          simp only [ev] at h
          obtain ⟨v, h2, rfl⟩ := sput_some h
          have sx := s.opd hx
          have sy := s.opd hy
          obtain ⟨u, h3, h4, h5⟩ := iad_sound s hu (szOk_spec hsz).2 h2 hp sx.1 sy.1 sx.2
          refine put_sound s hd (hN ▸ hdN) hK ⟨u, ?_, h4, h5⟩
          simp only [execOp, ho]
          exact run_v _ w w u h3
        · cases hc
      · rename_i n eid x' y' hu hx hy
        split at hc
        · rename_i hsz; cases hc
          simp only [ev] at h
          obtain ⟨v, h2, rfl⟩ := sput_some h
          have sx := s.opd hx
          have sy := s.opd hy
          obtain ⟨u, h3, h4, h5⟩ := aad_sound s hu hsz h2 hp sx.1 sy.1 sx.2
          refine put_sound s hd (hN ▸ hdN) hK ⟨u, ?_, h4, h5⟩
          simp only [execOp, ho]
          exact run_v _ w w u h3
        · cases hc
      · cases hc
    · cases hc
  · -- calls
    rename_i cl d ho hd
    split at hc
    · rename_i hdN
      obtain ⟨callee, args, types⟩ := cl
      obtain ⟨args⟩ := args
      obtain ⟨types⟩ := types
      unfold compCall at hc
      split at hc
      · -- len
        rename_i hcal
        simp only at hcal; subst hcal
        split at hc
        · rename_i x t e1 e2
          simp only at e1 e2; subst e1; subst e2
          have run : ∀ u, (Builtin.len_ #[t] o.type #[a.eval x]).run P w = .ok u w → (execOp a.eval o).run P w = .ok (.value u) w := by
            intro u hr
            simp [execOp, ho, resolve, invoke, builtin, Sem.run_bind, hr, Sem.run, pure]
          split at hc
          · rename_i eid x' hu hx; cases hc
            simp only [ev, if_false, Bool.false_eq_true] at h
            obtain ⟨v, h2, rfl⟩ := sput_some h
            have sx := s.opd hx
            obtain ⟨u, h3, h4, h5⟩ := len_sound s hu h2 sx.1 o.type
            exact put_sound s hd (hN ▸ hdN) hK ⟨u, run u h3, h4, h5⟩
          · rename_i x' hu hx; cases hc
            simp only [ev, if_true] at h
            obtain ⟨v, h2, rfl⟩ := sput_some h
            have sx := s.opd hx
            obtain ⟨u, h3, h4, h5⟩ := sln_sound (w := w) hu h2 sx.1 o.type
            exact put_sound s hd (hN ▸ hdN) hK ⟨u, run u h3, h4, h5 _⟩
          · cases hc
        · cases hc
      · -- append
        rename_i hcal
        simp only at hcal; subst hcal
        split at hc
        · rename_i x y t t' e1 e2
          simp only at e1 e2; subst e1; subst e2
          split at hc
          · rename_i htt; subst htt
            split at hc
            · rename_i eid bytes z0 x' y' he hx hy
              cases hc
              obtain ⟨z, ok, _⟩ := elemI_spec (P := P) (E := E) he
              have sx := s.opd hx
              have sy := s.opd hy
              simp only [ev] at h
              split at h
              · rename_i p' v h' e; cases h
                obtain ⟨u, w', ρ', h3, h4, h5, h6⟩ := app_sound h1 s ok o.type e hp sx.1 sy.1
                refine wp_value (w' := w') (v := u) ?_ hd (hK _ _ _ _ (h4.put h5 h6 (hN ▸ hdN)))
                simp [execOp, ho, resolve, invoke, builtin, Sem.run_bind, h3, Sem.run, pure]
              · cases h
            · cases hc
          · cases hc
        · cases hc
      · -- min
        obtain ⟨l, hl, rfl⟩ := Option.map_eq_some_iff.1 hc
        rename_i hcal
        simp only at hcal; subst hcal
        simp only [ev] at h
        split at h
        · rename_i k a' r hv
          split at h
          · rename_i v hv2; cases h
            have sx := (s.opds hl).1
            rw [hv] at sx
            simp only [List.toList_toArray] at sx
            generalize hvs : args.map a.eval = vs at sx
            cases sx with | cons h2 h3 =>
            cases h2 with | int h4 =>
            obtain ⟨u, h5, h6, h7⟩ := mm_sound (P := P) (w := w) (op := Builtin.min2) (mx := false) (fun k x y => by simp [Builtin.min2, Sem.run, pure]; omega) h3 h4 hv2
            refine put_sound s hd (hN ▸ hdN) hK ⟨u, ?_, h6, h7 _⟩
            simp [execOp, ho, resolve, invoke, builtin, Builtin.min_, hvs, Sem.run_bind, h5, Sem.run, pure]
          · cases h
        · cases h
      · -- max
        obtain ⟨l, hl, rfl⟩ := Option.map_eq_some_iff.1 hc
        rename_i hcal
        simp only at hcal; subst hcal
        simp only [ev] at h
        split at h
        · rename_i k a' r hv
          split at h
          · rename_i v hv2; cases h
            have sx := (s.opds hl).1
            rw [hv] at sx
            simp only [List.toList_toArray] at sx
            generalize hvs : args.map a.eval = vs at sx
            cases sx with | cons h2 h3 =>
            cases h2 with | int h4 =>
            obtain ⟨u, h5, h6, h7⟩ := mm_sound (P := P) (w := w) (op := Builtin.max2) (mx := true) (fun k x y => by simp [Builtin.max2, Sem.run, pure]; omega) h3 h4 hv2
            refine put_sound s hd (hN ▸ hdN) hK ⟨u, ?_, h6, h7 _⟩
            simp [execOp, ho, resolve, invoke, builtin, Builtin.max_, hvs, Sem.run_bind, h5, Sem.run, pure]
          · cases h
        · cases h
      · -- a call
        split at hc
        · cases hc
          simp [ev] at h
        · cases hc
      · -- delete
        rename_i hcal
        simp only at hcal; subst hcal
        split at hc
        · rename_i m0 i0 t0 t1 ea et'
          split at hc
          · rename_i kt vt k z m' y' e hm hy
            cases hc
            simp only at ea et'
            subst ea et'
            simp only [ev] at h
            have sm := s.opd hm
            have sy := s.opd hy
            split at h
            · rename_i p' h' e2; cases h
              obtain ⟨w', h3, h4⟩ := mdl_sound s (t2 := t1) e e2 hp sm.1 sy.1 o.type
              refine wp_value (w' := w') (v := .tuple #[]) ?_ hd (hK _ _ _ _ (h4.put (.tup .nil) trivial (hN ▸ hdN)))
              simp [execOp, ho, resolve, invoke, builtin, Sem.run_bind, h3, Sem.run, pure]
            · cases h
          · cases hc
        · cases hc
      · cases hc
    · cases hc
  · -- makeSlice
    rename_i t l cc d ho hd
    split at hc
    · rename_i hdN
      split at hc
      · rename_i eid bytes z0 l' c' he hl hcc
        cases hc
        obtain ⟨z, ok, hz⟩ := elemI_spec (P := P) (E := E) he
        have sl := s.opd hl
        have sc := s.opd hcc
        simp only [ev] at h
        split at h
        · rename_i k1 n1 k2 n2 e1 e2
          cases h
          rw [e1] at sl
          rw [e2] at sc
          obtain ⟨sl, _⟩ := sl
          obtain ⟨sc, _⟩ := sc
          generalize hv1 : a.eval l = v1 at sl
          generalize hv2 : a.eval cc = v2 at sc
          cases sl with | int _ =>
          cases sc with | int _ =>
          obtain ⟨u, w', ρ', h3, h4, h5⟩ := mk_sound s ok (hz H) (kl := k1) (kc := k2) hp.1 hp.2.1 hp.2.2
          refine wp_value (w' := w') (v := u) ?_ hd (hK _ _ _ _ (h4.put h5 (Nat.lt_succ_self _) (hN ▸ hdN)))
          simp only [execOp, ho, hv1, hv2]
          exact run_v _ w w' u h3
        · cases h
      · cases hc
    · cases hc
  · -- buildSlice
    rename_i t n ps d ho hd
    split at hc
    · rename_i hdN
      split at hc
      · rename_i eid bytes z0 xs he hxs
        split at hc
        · rename_i xs' hx
          split at hc
          · rename_i hcond
            obtain ⟨z, ok, _⟩ := elemI_spec (P := P) (E := E) he
            have sx := s.opds hx
            split at hc
            · cases hc
              simp only [ev] at h
              obtain ⟨v, h2, rfl⟩ := sput_some h
              unfold evBsf at h2
              split at h2
              · rename_i ds e; cases h2
                have hlen := (evParts_den h1 sx.1 e).2.2
                have hn0 : 0 < xs.length := by
                  rcases Nat.eq_zero_or_pos xs.length with h0 | h0
                  · rw [List.length_map, h0] at hlen; exact absurd (List.eq_nil_of_length_eq_zero hlen) hp
                  · exact h0
                obtain ⟨u, w', H', h3, h4, h5⟩ := bsf_sound h1 s ok sx.1 e (by rw [List.length_map, hcond.1]; exact hcond.2) (by rw [List.length_map]; exact hn0)
                refine wp_value (w' := w') (v := u) ?_ hd (hK _ _ _ _ (h4.put h5 trivial (hN ▸ hdN)))
                simp only [execOp, ho]
                refine run_v _ w w' u ?_
                rw [List.length_map, hcond.1] at h3
                have := inOrder_zip (a := a) hxs
                rw [← this] at h3
                rw [← h3]
                congr 2
                apply Array.ext'
                simp
              · cases h2
            cases hc
            simp only [ev] at h
            split at h
            · rename_i ds e; cases h
              rcases Nat.eq_zero_or_pos n with hn0 | hn0
              · have hxs0 : xs = [] := List.eq_nil_of_length_eq_zero (by omega)
                subst hxs0
                simp only [cOpds] at hx; cases hx
                simp only [ogets, evParts] at e; cases e
                have hps : ps = #[] := by
                  have : ps.toList = [] := by
                    generalize ps.toList = l at hxs
                    cases l with
                    | nil => rfl
                    | cons p l =>
                      obtain ⟨i, x⟩ := p
                      simp only [inOrder] at hxs
                      split at hxs
                      · obtain ⟨_, _, h9⟩ := Option.map_eq_some_iff.1 hxs; cases h9
                      · cases hxs
                  exact Array.toList_eq_nil_iff.1 this
                subst hps hn0
                obtain ⟨u, w', ρ', h3, h4, h5⟩ := bsl0_sound s ok
                refine wp_value (w' := w') (v := u) ?_ hd (hK _ _ _ _ (h4.put h5 (Nat.lt_succ_self _) (hN ▸ hdN)))
                simp only [execOp, ho]
                exact run_v _ w w' u h3
              obtain ⟨u, w', ρ', h3, h4, h5⟩ := bsl_sound h1 s ok sx.1 e (by rw [List.length_map, hcond.1]; exact hcond.2) (by rw [List.length_map, hcond.1]; exact hn0)
              refine wp_value (w' := w') (v := u) ?_ hd (hK _ _ _ _ (h4.put h5 (Nat.lt_succ_self _) (hN ▸ hdN)))
              simp only [execOp, ho]
              refine run_v _ w w' u ?_
              rw [List.length_map, hcond.1] at h3
              have := inOrder_zip (a := a) hxs
              rw [← this] at h3
              rw [← h3]
              congr 2
              apply Array.ext'
              simp
            · cases h
          · cases hc
        · cases hc
      · cases hc
    · cases hc
  · -- slice
    rename_i t x lo hi d ho hd
    split at hc
    · rename_i hdN
      split at hc
      · rename_i eid x' lo' hi' hu hx hlo hhi
        split at hc
        · rename_i hsz; cases hc
          simp only [ev] at h
          obtain ⟨v, h2, rfl⟩ := sput_some h
          have sx := s.opd hx
          obtain ⟨u, h3, h4, h5⟩ := slc_sound s hu (szOk_spec hsz).2 h2 hp sx.1 (s.opt hlo) (s.opt hhi)
          refine put_sound s hd (hN ▸ hdN) hK ⟨u, ?_, h4, h5⟩
          simp only [execOp, ho]
          exact run_v _ w w u h3
        · cases hc
      · cases hc
    · cases hc
  · -- nilCheck
    rename_i x d ho hd
    split at hc
    · rename_i hdN
      obtain ⟨x', hx, rfl⟩ := Option.map_eq_some_iff.1 hc
      simp only [ev] at h
      obtain ⟨v, h2, rfl⟩ := sput_some h
      have sx := s.opd hx
      exact put_sound s hd (hN ▸ hdN) hK (nlc_sound s h2 hp ho sx.1 sx.2)
    · cases hc
  · -- extract
    rename_i x i' d ho hd
    split at hc
    · rename_i hdN
      obtain ⟨x', hx, rfl⟩ := Option.map_eq_some_iff.1 hc
      have sx := s.opd hx
      simp only [ev] at h
      split at h
      · rename_i l hv
        split at h
        · rename_i y hy; cases h
          rw [hv] at sx
          obtain ⟨sx, sxl⟩ := sx
          generalize hvx : a.eval x = vx at sx
          cases sx with
          | tup hdv =>
            rename_i vs
            have key : ∀ {l : List SV} {vs : List Value} {k : Nat} {y : SV}, DenV P E ρ H l vs → SV.ltL S.nx l → l[k]? = some y → ∃ u, vs[k]? = some u ∧ Den P E ρ H y u ∧ y.lt S.nx := by
              intro l
              induction l with
              | nil => intro vs k y _ _ h; simp at h
              | cons z l ih =>
                intro vs k y hd hl h
                cases hd with
                | cons h1 h2 =>
                  cases k with
                  | zero => simp at h; subst h; exact ⟨_, rfl, h1, hl.1⟩
                  | succ k => obtain ⟨u, h3, h4⟩ := ih h2 hl.2 (by simpa using h); exact ⟨u, by simpa using h3, h4⟩
            obtain ⟨u, h3, h4, h5⟩ := key hdv sxl hy
            refine put_sound s hd (hN ▸ hdN) hK ⟨u, ?_, h4, h5⟩
            simp only [execOp, ho, hvx]
            refine run_v _ w w u ?_
            simp [Instr.extract, h3, Sem.run, pure]
        · cases h
      · cases h
    · cases hc
  · -- makeInterface
    rename_i t x d ho hd
    split at hc
    · rename_i hdN
      split at hc
      · rename_i e x' hu hx
        cases hc
        simp only [ev] at h
        obtain ⟨v, h2, rfl⟩ := sput_some h
        have sx := s.opd hx
        have run : (execOp a.eval o).run P w = .ok (.value (.iface t (a.eval x))) w := by
          simp only [execOp, ho]
          refine run_v _ w w _ ?_
          simp [Instr.makeInterface, Sem.run_bind, run_underlying hu, Sem.run, pure]
        unfold evMif at h2
        split at h2
        · rename_i ty' dd hv
          cases h2
          rw [hv] at sx
          obtain ⟨sx, _⟩ := sx
          generalize hvx : a.eval x = vx at *
          cases sx with | dat hsc hr =>
          rw [hp] at hr
          exact put_sound s hd (hN ▸ hdN) hK ⟨_, run, .dat rfl (.ifc hr), trivial⟩
        · rename_i n o' hv
          cases h2
          rw [hv] at sx
          exact put_sound s hd (hN ▸ hdN) hK ⟨_, run, .ifc sx.1, sx.2⟩
        · cases h2
      · cases hc
    · cases hc
  · -- pick
    rename_i cc x y d ho hd
    split at hc
    · rename_i hdN
      split at hc
      · rename_i c' x' y' hcc hx hy
        cases hc
        simp only [ev] at h
        obtain ⟨v, h2, rfl⟩ := sput_some h
        have sc := s.opd hcc
        have sx := s.opd hx
        have sy := s.opd hy
        unfold evPck at h2
        split at h2
        · rename_i hv; cases h2
          rw [hv] at sc
          obtain ⟨sc, _⟩ := sc
          generalize hvc : a.eval cc = vc at sc
          cases sc with | bool =>
          refine put_sound s hd (hN ▸ hdN) hK ⟨_, ?_, sx⟩
          simp [execOp, ho, hvc, asBool, Sem.run_bind, Sem.run, pure]
        · rename_i hv; cases h2
          rw [hv] at sc
          obtain ⟨sc, _⟩ := sc
          generalize hvc : a.eval cc = vc at sc
          cases sc with | bool =>
          refine put_sound s hd (hN ▸ hdN) hK ⟨_, ?_, sy⟩
          simp [execOp, ho, hvc, asBool, Sem.run_bind, Sem.run, pure]
        · cases h2
      · cases hc
    · cases hc
  · -- field
    rename_i st x k d ho hd
    split at hc
    · rename_i hdN
      split at hc
      · rename_i fs x' hu hx
        split at hc
        · rename_i f hf
          split at hc
          · rename_i hsz
            cases hc
            simp only [ev] at h
            obtain ⟨v, h2, rfl⟩ := sput_some h
            have sx := s.opd hx
            have h2' := h2
            unfold evFld at h2'
            split at h2'
            · rename_i l hv
              rw [hv] at sx h2
              obtain ⟨sx, sxl⟩ := sx
              generalize hvx : a.eval x = vx at sx
              cases sx with
              | agg hdc =>
                obtain ⟨h3, h4⟩ := szOk_spec hsz
                obtain ⟨u, h5, h6, h7⟩ := fld_part h3 h4 hdc h2 sxl w
                refine put_sound s hd (hN ▸ hdN) hK ⟨u, ?_, h6, h7⟩
                simp only [execOp, ho, hvx]
                refine run_v _ w w u ?_
                simp [Instr.field, Sem.run_bind, run_underlying hu, hf, asAgg, h5]
            · cases h2'
          · cases hc
        · cases hc
      · cases hc
    · cases hc
  · -- build
    rename_i t ps d ho hd
    split at hc
    · rename_i hdN
      split at hc
      · rename_i fs hu
        split at hc
        · rename_i zs ps' hz hps
          cases hc
          simp only [ev] at h
          split at h
          · rename_i q l e; cases h
            obtain ⟨u, h3, h4, h5⟩ := bld_sound h1 (fun hx => s.opd hx) hu hz hps e hp w
            refine put_sound s hd (hN ▸ hdN) hK ⟨u, ?_, h4, h5⟩
            simp only [execOp, ho]
            exact run_v _ w w u h3
          · cases h
        · cases hc
      · cases hc
    · cases hc
  · -- typeAssert
    rename_i x xt t d ho hd
    split at hc
    · rename_i hdN
      split at hc
      · rename_i e x' hu hx
        split at hc
        · rename_i hn
          cases hc
          simp only [ev] at h
          obtain ⟨v, h2, rfl⟩ := sput_some h
          have sx := s.opd hx
          obtain ⟨u, h3, h4, h5⟩ := tas_sound (xt := xt) hE hC.2 hu hn sx.1 sx.2 h2 hp w
          refine put_sound s hd (hN ▸ hdN) hK ⟨u, ?_, h4, h5⟩
          simp only [execOp, ho]
          exact run_v _ w w u h3
        · cases hc
      · cases hc
    · cases hc
  · -- cut to nothing
    rename_i t x hi mx d ho hd
    split at hc
    · rename_i hcond
      obtain ⟨hdN, hz1, hz2⟩ := hcond
      have e1 := isZ_spec hz1
      have e2 := isZ_spec hz2
      subst e1 e2
      split at hc
      · rename_i eid x' hu hx
        split at hc
        · rename_i hsz
          cases hc
          simp only [ev] at h
          have sx := s.opd hx
          split at h
          · rename_i p' e; cases h
            obtain ⟨u, ρ', h3, h4, h5⟩ := sl0_sound s hu (szOk_spec hsz).2 e hp sx.1
            refine wp_value (w' := w) (v := u) ?_ hd (hK _ _ _ _ (h4.put h5 (Nat.lt_succ_self _) (hN ▸ hdN)))
            simp only [execOp, ho]
            exact run_v _ w w u h3
          · cases h
        · cases hc
      · cases hc
    · cases hc
  · -- closures
    rename_i f first caps d ho hd
    split at hc
    · rename_i hcond
      obtain ⟨hdN, hfi⟩ := hcond
      split at hc
      · rename_i l hl
        cases hc
        simp only [ev] at h; cases h
        have sx := s.opds hl
        refine put_sound s hd (hN ▸ hdN) hK ⟨_, ?_, .clo sx.1, sx.2⟩
        have e0 : first = #[] := Array.eq_empty_of_size_eq_zero hfi
        have e1 : caps.map a.eval = (caps.toList.map a.eval).toArray := by apply Array.ext'; simp
        simp only [execOp, ho, e0, Instr.makeFunc]
        rw [← e1]
        simp [Sem.run, pure]
      · cases hc
    · cases hc
  · -- maps
    rename_i t d ho hd
    split at hc
    · rename_i hdN
      split at hc
      · rename_i kt vt k z e
        cases hc
        simp only [ev] at h; cases h
        obtain ⟨hu, hk, _⟩ := mapI_spec (E := E) e
        obtain ⟨ρ', h3⟩ := mkm_sound s hk (vt := vt) (hN ▸ hdN)
        refine wp_value (w' := w.alloc (.map #[] 0)) (v := .map (some w.heap.size)) ?_ hd (hK _ _ _ _ h3)
        simp only [execOp, ho]
        exact run_v _ _ _ _ (by simp [Instr.makeMap, Sem.run_bind, Result.andThen])
      · cases hc
    · cases hc
  · -- look-ups
    rename_i t x i' ok d ho hd
    split at hc
    · rename_i hdN
      split at hc
      · rename_i kt vt k z x' y' e hx hy
        cases hc
        simp only [ev] at h
        obtain ⟨v, h2, rfl⟩ := sput_some h
        have sx := s.opd hx
        have sy := s.opd hy
        obtain ⟨u, h3, h4, h5⟩ := lkp_sound h1 s e h2 hp sx.1 sy.1
        refine put_sound s hd (hN ▸ hdN) hK ⟨u, ?_, h4, h5 _⟩
        simp only [execOp, ho]
        exact run_v _ w w u h3
      · cases hc
    · cases hc
  · -- stores into maps
    rename_i t m i' v ho hd
    split at hc
    · rename_i kt vt k z m' y' v' e hm hy hv
      cases hc
      simp only [ev] at h
      have sm := s.opd hm
      have sy := s.opd hy
      have sv := s.opd hv
      split at h
      · rename_i p' h' e2; cases h
        obtain ⟨w', h3, h4⟩ := mup_sound h1 s e e2 hp sm.1 sy.1 sv.1
        refine wp_skipped (w' := w') ?_ hd (hK _ _ _ _ h4)
        simp only [execOp, ho]
        simp [Sem.run_bind, h3, Sem.run, pure]
      · cases h
    · cases hc
  · -- delete, whose nothing nobody takes
    rename_i cl ho hd
    obtain ⟨callee, args, types⟩ := cl
    obtain ⟨args⟩ := args
    obtain ⟨types⟩ := types
    split at hc
    · rename_i m0 i0 t0 t1 hcal ea et'
      split at hc
      · rename_i kt vt k z m' y' e hm hy
        cases hc
        simp only at hcal ea et'
        subst hcal ea et'
        simp only [ev] at h
        have sm := s.opd hm
        have sy := s.opd hy
        split at h
        · rename_i p' h' e2; cases h
          obtain ⟨w', h3, h4⟩ := mdl_sound s (t2 := t1) e e2 hp sm.1 sy.1 o.type
          have hrun : (execOp a.eval o).run P w = .ok (.value (.tuple #[])) w' := by
            simp [execOp, ho, resolve, invoke, builtin, Sem.run_bind, h3, Sem.run, pure]
          unfold Oper.wp
          rw [hrun, Oper.upon_value, hd]
          exact hK _ _ _ _ h4
        · cases h
      · cases hc
    · cases hc
  · cases hc
end
end Go.Fw
