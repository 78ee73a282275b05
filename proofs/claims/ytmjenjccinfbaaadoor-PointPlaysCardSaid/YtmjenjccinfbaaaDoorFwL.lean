import Derived.Test.YtmjenjccinfbaaaDoorFwH
/- The frame-work, part I: the machine does what 'ev' says: places, and what is read there. -/
namespace Go.Fw
set_option linter.unusedVariables false
set_option linter.unusedSimpArgs false
open Go

section
variable {P : Program} {E : Nat → Value}

theorem add_lit (b o j : Nat) : (⟨b, o, none⟩ : Addr).add j = ⟨b, o + j, none⟩ := by
  unfold Addr.add
  split <;> simp_all

theorem cell_of_block {w : World} {b : Nat} {cs : List Value} {t : TypeId} {fr : Nat × Nat} (h : w.heap[b]? = some (.cells cs.toArray t fr)) (o : Nat) : w.cell? ⟨b, o, none⟩ = cs[o]? := by
  simp [World.cell?, h]
theorem cell_of_block' {w : World} {b : Nat} {cs : Array Value} {t : TypeId} {fr : Nat × Nat} (h : w.heap[b]? = some (.cells cs t fr)) (o : Nat) : w.cell? ⟨b, o, none⟩ = cs[o]? := by
  simp [World.cell?, h]

theorem size_noAgg {t : Ty} (h : isAgg t = false) : t.size = 1 := by cases t <;> simp_all [isAgg, Ty.size]

theorem Sat.tok {c : Ctx} {ρ : Nat → Value} {H : FH} {S : SSt} {a : Act} {w : World} (s : Sat P E c ρ H S a w) {n : Nat} {t : Tok} (h : hget S.h n = some t) : TokSat P E ρ H w n t ∧ n < S.nx ∧ t.lt S.nx := by
  have h' : hget (S.h ++ c.o) n = some t := by rw [hget_append, h]
  exact ⟨s.hs.tok n t h', s.hlt n t h'⟩

/-- The cells of an owned slice's element. -/
theorem arr_elem {ρ : Nat → Value} {H : FH} {w : World} {n : Nat} {eid : TypeId} {e : Ty} {l : List D} (h : TokSat P E ρ H w n (.arr eid e l)) {b len cap : Nat} (hb : ρ n = .slice (some ⟨b, 0, none⟩) len cap) (i : Nat) (hi : i < l.length) :
    ∃ cs, Rep P E H e l[i] cs ∧ ∀ j v, cs[j]? = some v → w.cell? ⟨b, i * e.size + j, none⟩ = some v := by
  obtain ⟨he, xs, ⟨hx, hown⟩, hr, _⟩ := h
  refine ⟨_, repL_get hr i hi, fun j v hv => ?_⟩
  rcases hown with ⟨_, hn⟩ | ⟨g, cap', cur, hv', _, hh, _, _, _, htake⟩
  · omega
  · rw [hb] at hv'; cases hv'
    rw [cell_of_block' hh]
    rw [List.getElem?_take] at hv
    split at hv
    · rw [List.getElem?_drop] at hv
      rw [← htake, List.getElem?_take] at hv
      split at hv
      · simpa using hv
      · cases hv
    · cases hv

theorem arrAt_den {ρ : Nat → Value} {H : FH} : ∀ {l : List SV} {cs : List Value} {o : Nat} {e : Ty} {ds : List D}, DenC P E ρ H l cs → arrAt l o = some (e, ds) → ∃ c1 c2 c3, cs = c1 ++ (c2 ++ c3) ∧ c1.length = o ∧ RepL P E H (List.replicate ds.length e) ds c2 := by
  intro l
  induction l with
  | nil => intro cs o e ds _ h; simp [arrAt] at h
  | cons y r ih =>
    intro cs o e ds hd h
    cases hd with
    | arrc h1 h2 =>
      rename_i e' ds' cs1 cs2
      simp only [arrAt] at h
      split at h
      · rename_i h0; cases h; exact ⟨[], cs1, cs2, rfl, h0.symm, h1⟩
      · split at h
        · rename_i hle
          have hl := repL_len h1
          rw [sizeL_replicate] at hl
          obtain ⟨c1, c2, c3, g1, g2, g3⟩ := ih h2 h
          exact ⟨cs1 ++ c1, c2, c3, by rw [g1, List.append_assoc], by rw [List.length_append, g2]; omega, g3⟩
        · cases h
    | one h1 h1' h2 =>
      rename_i v cs'
      have key : arrAt (y :: r) o = match o with | 0 => none | o + 1 => arrAt r o := by
        cases y <;> first | (cases h1; done) | (cases o <;> rfl)
      rw [key] at h
      cases o with
      | zero => cases h
      | succ o =>
        obtain ⟨c1, c2, c3, g1, g2, g3⟩ := ih h2 h
        exact ⟨v :: c1, c2, c3, by rw [g1]; rfl, by simp [g2], g3⟩

theorem load_sound (hE : ∀ k, (E k).oneCell' = true) {c : Ctx} {ρ : Nat → Value} {H : FH} {S : SSt} {a : Act} {w : World} (s : Sat P E c ρ H S a w) {tid : TypeId} (hu : (P.underlying tid).isSome = true) (hsz : (P.info? tid).map (·.size) = some (tyOf P 8 tid).size)
    {x : SV} {p : Prop} {v : SV} (h : evLd (tyOf P 8 tid) x S.h = some (p, v)) (hp : p) {vx : Value} (hx : Den P E ρ H x vx) (hl : x.lt S.nx) :
    ∃ u, (Instr.loadAt tid vx).run P w = .ok u w ∧ Den P E ρ H v u ∧ v.lt S.nx := by
  -- the cells of a datum, at an address
  have datum : ∀ (b o : Nat) (d : D) (cs : List Value), Rep P E H (tyOf P 8 tid) d cs → (∀ j v, cs[j]? = some v → w.cell? ⟨b, o + j, none⟩ = some v) →
      ∃ u, (Instr.loadAt tid (.pointer (some ⟨b, o, none⟩))).run P w = .ok u w ∧ Den P E ρ H (ldSV (tyOf P 8 tid) d) u ∧ (ldSV (tyOf P 8 tid) d).lt S.nx := by
    intro b o d cs hr hc
    have hlen := rep_len hr
    have h1 := ldSV_den (ρ := ρ) hE hr
    have h2 := run_loadVar (P := P) tid hu (cs := cs) (by rw [hsz, hlen]) ⟨b, o, none⟩ w (fun j v hj => by rw [add_lit]; exact hc j v hj)
    have h3 : ∀ u, (loadVar tid ⟨b, o, none⟩).run P w = .ok u w → (Instr.loadAt tid (.pointer (some ⟨b, o, none⟩))).run P w = .ok u w := fun u h => by
      simp [Instr.loadAt, Instr.sureAddr, Sem.run_bind, h]
    cases hg : isAgg (tyOf P 8 tid) with
    | true => exact ⟨_, h3 _ (h2.1 hg), h1.1 hg, ldSV_lt _ _ _⟩
    | false =>
      obtain ⟨u, hcs, hden, _⟩ := h1.2 hg
      exact ⟨u, h3 _ (h2.2 hg u hcs), hden, ldSV_lt _ _ _⟩
  -- one cell
  have single : ∀ (b o : Nat) (u : Value), isAgg (tyOf P 8 tid) = false → w.cell? ⟨b, o, none⟩ = some u → (Instr.loadAt tid (.pointer (some ⟨b, o, none⟩))).run P w = .ok u w := by
    intro b o u hg hc
    have h2 := run_loadVar (P := P) tid hu (cs := [u]) (by rw [hsz, size_noAgg hg]; rfl) ⟨b, o, none⟩ w (fun j v hj => by
      match j, hj with
      | 0, hj => simp at hj; subst hj; rw [add_lit]; exact hc)
    simp [Instr.loadAt, Instr.sureAddr, Sem.run_bind, h2.2 hg u rfl]
  unfold evLd at h
  split at h
  · -- elt
    rename_i t' d
    cases h
    cases hp
    cases hx with
    | elt hs hm hr =>
      rename_i ad cs
      obtain ⟨b, o, sp⟩ := ad
      cases hs
      exact datum b o d cs hr (fun j v hj => s.hin _ _ _ (hm j v hj))
  · -- ptr
    rename_i n off
    split at h
    · rename_i l hn
      obtain ⟨ht, hnl, htl⟩ := s.tok hn
      obtain ⟨b, t, cs, hρ, hh, hd, _⟩ := ht
      cases hx with
      | ptr hx =>
        rw [hρ] at hx; cases hx
        split at h
        · rename_i hg
          split at h
          · rename_i r e1
            split at h
            · rename_i q r' e2
              cases h
              obtain ⟨c1, c2, g1, g2, g3, g4⟩ := takeC_den _ hd e1
              obtain ⟨c3, c4, g5, g6, g7, g8⟩ := takeC_den _ g4 e2
              have hlt := takeC_lt _ (takeC_lt _ htl e1).2 e2
              have h2 := run_loadVar (P := P) tid hu (cs := c3) (by rw [hsz, g6]) ⟨b, off, none⟩ w (fun j v hj => by
                rw [add_lit, cell_of_block hh, g1, g5, List.getElem?_append_right (by omega), g2, List.getElem?_append_left (by rw [Nat.add_sub_cancel_left]; exact (List.getElem?_eq_some_iff.1 hj).1), Nat.add_sub_cancel_left]
                exact hj)
              exact ⟨_, by simp [Instr.loadAt, Instr.sureAddr, Sem.run_bind, h2.1 hg], .agg g7, hlt.1⟩
            · cases h
          · cases h
        · rename_i hg
          split at h
          · rename_i v' e1
            cases h
            obtain ⟨u, hu', hden, _⟩ := cellAt_den hd e1
            exact ⟨u, single b off u (by simpa using hg) (by rw [cell_of_block hh]; exact hu'), hden, cellAt_lt htl e1⟩
          · cases h
    · cases h
  · -- eltv
    rename_i n i sz off
    split at h
    · rename_i eid e l hn
      obtain ⟨ht, hnl, htl⟩ := s.tok hn
      cases hx with
      | eltv hx =>
        rename_i b len cap
        split at h
        · cases h
          obtain ⟨h0, h1, h2, h3, h4⟩ := hp
          subst h3; subst h4
          obtain ⟨cs, hr, hc⟩ := arr_elem ht hx i.toNat (by omega)
          rw [List.getD_eq_getElem?_getD, List.getElem?_eq_getElem (by omega : i.toNat < l.length), Option.getD_some]
          rw [← h2] at hr
          have := datum b (i.toNat * e.size + 0) l[i.toNat] cs hr (fun j v hj => by rw [Nat.add_zero]; exact hc j v hj)
          rwa [h2] at this
        · split at h
          · rename_i v' e1
            cases h
            obtain ⟨h0, h1, h2, h4⟩ := hp
            subst h4
            obtain ⟨cs, hr, hc⟩ := arr_elem ht hx i.toNat (by omega)
            rw [List.getD_eq_getElem?_getD, List.getElem?_eq_getElem (by omega : i.toNat < l.length), Option.getD_some] at e1
            obtain ⟨u, hu', hden, _⟩ := cellAt_den (rep_explode (ρ := ρ) hE hr) e1
            exact ⟨u, single b _ u h2 (hc _ _ hu'), hden, cellAt_lt (explode_lt _ _ _) e1⟩
          · cases h
    · cases h
  · -- eltc
    rename_i n off e i
    split at h
    · rename_i l hn
      obtain ⟨ht, hnl, htl⟩ := s.tok hn
      obtain ⟨b, t, cs, hρ, hh, hd, _⟩ := ht
      cases hx with
      | eltc hx =>
        rw [hρ] at hx; cases hx
        split at h
        · rename_i e' ds e1
          cases h
          obtain ⟨h0, h1, h2, h3⟩ := hp
          subst h2
          obtain ⟨c1, c2, c3, g1, g2, g3⟩ := arrAt_den hd e1
          have hr := repL_get g3 i.toNat (by omega)
          rw [List.getD_eq_getElem?_getD, List.getElem?_eq_getElem (by omega : i.toNat < ds.length), Option.getD_some]
          rw [← h3] at hr ⊢
          refine datum b _ _ _ hr (fun j v hj => ?_)
          rw [cell_of_block hh, g1]
          rw [List.getElem?_take] at hj
          split at hj
          · rw [List.getElem?_drop] at hj
            have := (List.getElem?_eq_some_iff.1 hj).1
            rw [List.getElem?_append_right (by omega), List.getElem?_append_left (by omega), ← hj, h3]
            congr 1
            omega
          · cases hj
        · cases h
    · cases h
  · cases h
end
end Go.Fw

/- The frame-work, part J: the machine does what 'ev' says: places, lengths, parts. -/
namespace Go.Fw
set_option linter.unusedVariables false
set_option linter.unusedSimpArgs false
open Go

section
variable {P : Program} {E : Nat → Value}

theorem repL_fld {H : FH} : ∀ {ts : List Ty} {ds : List D} {cs : List Value}, RepL P E H ts ds cs → ∀ k t, ts[k]? = some t → ∃ d cs', ds[k]? = some d ∧ Rep P E H t d cs' ∧ ∀ j v, cs'[j]? = some v → cs[Ty.sizeL (ts.take k) + j]? = some v
  | _, _, _, .nil, k, t, h => by simp at h
  | _, _, _, .cons h h', k, t, hk => by
    cases k with
    | zero =>
      simp at hk; subst hk
      refine ⟨_, _, rfl, h, fun j v hj => ?_⟩
      simp only [List.take_zero, Ty.sizeL, Nat.zero_add]
      rw [List.getElem?_append_left (List.getElem?_eq_some_iff.1 hj).1]; exact hj
    | succ k =>
      obtain ⟨d, cs', h1, h2, h3⟩ := repL_fld h' k t (by simpa using hk)
      refine ⟨d, cs', by simpa using h1, h2, fun j v hj => ?_⟩
      have hl := rep_len h
      simp only [List.take_succ_cons, Ty.sizeL]
      rw [List.getElem?_append_right (by omega), ← h3 j v hj]
      congr 1
      omega

/-- What the translator says of a field is what the type says. -/
def fadOk (P : Program) (tid : TypeId) (k off : Nat) (t : Ty) : Prop :=
  ∃ fs f, P.underlying tid = some (.struct fs) ∧ fs[k]? = some f ∧ f.offset = off ∧ ((P.info? f.type).map (·.size)).any (· != 0) = true ∧ t = tyOf P 7 f.type ∧ Ty.sizeL ((fs.toList.take k).map fun f => tyOf P 7 f.type) = off

theorem fad_sound {c : Ctx} {ρ : Nat → Value} {H : FH} {S : SSt} {a : Act} {w : World} (s : Sat P E c ρ H S a w) {tid : TypeId} {k off : Nat} {t : Ty} (hf : fadOk P tid k off t)
    {x : SV} {p : Prop} {v : SV} (h : evFad k off t tid x = some (p, v)) (hp : p) {vx : Value} (hx : Den P E ρ H x vx) (hl : x.lt S.nx) :
    ∃ u, (Instr.fieldAt tid vx k).run P w = .ok u w ∧ Den P E ρ H v u ∧ v.lt S.nx := by
  obtain ⟨fs, f, h1, h2, rfl, h4, h5, h6⟩ := hf
  have run : ∀ b o, (Instr.fieldAt tid (.pointer (some ⟨b, o, none⟩)) k).run P w = .ok (.pointer (some ⟨b, o + f.offset, none⟩)) w := by
    intro b o
    cases hi : P.info? f.type with
    | none => rw [hi] at h4; simp at h4
    | some i =>
      rw [hi] at h4
      simp only [Option.map_some, Option.any_some, bne_iff_ne, ne_eq] at h4
      simp [Instr.fieldAt, Sem.run_bind, run_underlying h1, h2, Instr.sureAddr, fieldPlace, sizeOf, typeInfo, hi, h4, add_lit, program, Sem.run, pure]
  unfold evFad at h
  split at h
  · rename_i ts d
    cases h
    obtain ⟨g1, g2⟩ := hp
    cases hx with
    | elt hs hm hr =>
      rename_i ad cs
      obtain ⟨b, o, sp⟩ := ad
      cases hs
      cases hr with
      | strct hr =>
        rename_i ds
        obtain ⟨d', cs', e1, e2, e3⟩ := repL_fld hr k t g1
        refine ⟨_, run b o, ?_, trivial⟩
        have hd : (D.node ds).fld k = d' := by simp [D.fld, D.fs, e1]
        rw [hd]
        exact .elt rfl (fun j v hj => by have := hm _ _ (e3 j v hj); rw [g2] at this; simpa [Nat.add_assoc] using this) e2
  · cases h
    cases hx with
    | ptr hx => exact ⟨_, run _ _, .ptr hx, hl⟩
  · cases h
    cases hx with
    | eltv hx => exact ⟨_, run _ _, by rw [Nat.add_assoc]; exact .eltv hx, hl⟩
  · rename_i ee dd
    cases h
    obtain ⟨hee, hn⟩ := hp
    subst hee
    cases hx with
    | dat _ hr =>
      cases hr with
      | pnil => simp [D.isNil] at hn
      | ptr hs hm hr =>
        rename_i d0 ad cs
        obtain ⟨b, o, sp⟩ := ad
        cases hs
        have hty : tyOf P 8 ee = .strct (fs.toList.map fun f => tyOf P 7 f.type) := by rw [tyOf]; rw [h1]
        rw [hty] at hr
        cases hr with
        | strct hr =>
          rename_i ds
          have g1 : (fs.toList.map fun f => tyOf P 7 f.type)[k]? = some t := by
            rw [List.getElem?_map, Array.getElem?_toList, h2, h5]; rfl
          obtain ⟨d', cs', e1, e2, e3⟩ := repL_fld hr k t g1
          refine ⟨_, run b o, ?_, trivial⟩
          have hd : (D.node ds).fld k = d' := by simp [D.fld, D.fs, e1]
          simp only [D.tgt]
          rw [hd]
          exact .elt rfl (fun j v hj => by have := hm _ _ (e3 j v hj); rw [← List.map_take, h6] at this; simpa [Nat.add_assoc] using this) e2
  · cases h

theorem run_indexAt_in (tid eid : TypeId) (hu : P.underlying tid = some (.slice eid)) {n : Nat} (hs : (P.info? eid).map (·.size) = some n) (b o len cap : Nat) (k : IntKind) (i : Int) (h0 : 0 ≤ i) (h1 : i < len) (w : World) :
    (Instr.indexAt tid (.slice (some ⟨b, o, none⟩) len cap) (.int k i)).run P w = .ok (.pointer (some ⟨b, o + i.toNat * n, none⟩)) w := by
  obtain ⟨inf, hi, rfl⟩ := Option.map_eq_some_iff.1 hs
  simp [Instr.indexAt, asIntOf, Sem.run_bind, run_underlying hu, sizeOf, typeInfo, hi, h0, h1, add_lit, program, Sem.run, pure]

theorem run_indexAt_arr (tid eid : TypeId) {m : Nat} (hu : P.underlying tid = some (.array m eid)) {n : Nat} (hs : (P.info? eid).map (·.size) = some n) (b o : Nat) (k : IntKind) (i : Int) (h0 : 0 ≤ i) (h1 : i < m) (w : World) :
    (Instr.indexAt tid (.pointer (some ⟨b, o, none⟩)) (.int k i)).run P w = .ok (.pointer (some ⟨b, o + i.toNat * n, none⟩)) w := by
  obtain ⟨inf, hi, rfl⟩ := Option.map_eq_some_iff.1 hs
  simp [Instr.indexAt, asIntOf, Sem.run_bind, run_underlying hu, Instr.sureAddr, sizeOf, typeInfo, hi, h0, h1, add_lit, program, Sem.run, pure]

theorem iad_sound {c : Ctx} {ρ : Nat → Value} {H : FH} {S : SSt} {a : Act} {w : World} (s : Sat P E c ρ H S a w) {tid eid : TypeId} (hu : P.underlying tid = some (.slice eid)) (hs : (P.info? eid).map (·.size) = some (tyOf P 8 eid).size)
    {x y : SV} {p : Prop} {v : SV} (h : evIad eid (tyOf P 8 eid) x y S.h = some (p, v)) (hp : p) {vx vy : Value} (hx : Den P E ρ H x vx) (hy : Den P E ρ H y vy) (hl : x.lt S.nx) :
    ∃ u, (Instr.indexAt tid vx vy).run P w = .ok u w ∧ Den P E ρ H v u ∧ v.lt S.nx := by
  unfold evIad at h
  split at h
  · rename_i eid' d k i
    cases h
    obtain ⟨rfl, h0, h1⟩ := hp
    cases hx with | dat _ hr =>
    cases hy with | int _ =>
    cases hr with
    | slice css hc hcap hn hz hm hr =>
      rename_i l ad cap
      simp only [D.l] at h1 ⊢
      obtain ⟨ad', e1, e2⟩ := hn (fun e => by rw [e] at h1; simp at h1; omega)
      subst e1
      obtain ⟨b, o, sp⟩ := ad'
      cases e2
      have hi : i.toNat < l.length := by omega
      refine ⟨_, run_indexAt_in tid _ hu hs b o _ _ _ _ h0 h1 w, ?_, trivial⟩
      rw [List.getD_eq_getElem?_getD, List.getElem?_eq_getElem hi, Option.getD_some]
      exact .elt rfl (fun j v hj => hm i.toNat hi _ rfl j v hj) (hr i.toNat hi)
  · rename_i n k i
    split at h
    · rename_i eid' e' l hn
      cases h
      obtain ⟨rfl, h0, h1⟩ := hp
      obtain ⟨⟨he, xs, ⟨_, hown⟩, _, _⟩, hnl, _⟩ := s.tok hn
      cases hx with | vec _ =>
      cases hy with | int _ =>
      rcases hown with ⟨_, h2⟩ | ⟨g, cap, cur, hv, _⟩
      · rw [h2] at h1; omega
      · rw [hv]
        refine ⟨_, run_indexAt_in tid _ hu hs g 0 _ _ _ _ h0 h1 w, ?_, hnl⟩
        have := Den.eltv (P := P) (E := E) (ρ := ρ) (H := H) (i := i) (sz := (tyOf P 8 eid').size) (off := 0) hv
        simpa using this
    · cases h
  · cases h

theorem aad_sound {c : Ctx} {ρ : Nat → Value} {H : FH} {S : SSt} {a : Act} {w : World} (s : Sat P E c ρ H S a w) {tid eid : TypeId} {n : Nat} (hu : P.underlying tid = some (.array n eid)) (hs : (P.info? eid).map (·.size) = some (tyOf P 7 eid).size)
    {x y : SV} {p : Prop} {v : SV} (h : evAad n (tyOf P 7 eid) x y = some (p, v)) (hp : p) {vx vy : Value} (hx : Den P E ρ H x vx) (hy : Den P E ρ H y vy) (hl : x.lt S.nx) :
    ∃ u, (Instr.indexAt tid vx vy).run P w = .ok u w ∧ Den P E ρ H v u ∧ v.lt S.nx := by
  unfold evAad at h
  split at h
  · cases h
    obtain ⟨h0, h1⟩ := hp
    cases hx with | ptr hx =>
    cases hy with | int _ =>
    exact ⟨_, run_indexAt_arr tid _ hu hs _ _ _ _ h0 h1 w, .eltc hx, hl⟩
  · cases h

theorem inI64 {n : Nat} (h : n ≤ maxLen) : IntKind.i64.min ≤ (n : Int) ∧ (n : Int) ≤ IntKind.i64.max := by
  unfold maxLen at h
  simp only [IntKind.min, IntKind.max, IntKind.signed, IntKind.bits]
  simp
  omega

theorem len_sound {c : Ctx} {ρ : Nat → Value} {H : FH} {S : SSt} {a : Act} {w : World} (s : Sat P E c ρ H S a w) {tid eid : TypeId} (hu : P.underlying tid = some (.slice eid))
    {x : SV} {p : Prop} {v : SV} (h : evLen x S.h = some (p, v)) {vx : Value} (hx : Den P E ρ H x vx) (t : TypeId) :
    ∃ u, (Builtin.len_ #[tid] t #[vx]).run P w = .ok u w ∧ Den P E ρ H v u ∧ v.lt S.nx := by
  have slice : ∀ ad n cap, (Builtin.len_ #[tid] t #[.slice ad n cap]).run P w = .ok (.int .i64 n) w := fun ad n cap => by
    simp [Builtin.len_, Sem.run_bind, run_underlying hu, goInt, Sem.run, pure]
  unfold evLen at h
  split at h
  · cases h
    cases hx with | dat _ hr =>
    cases hr with
    | slice css hc hcap _ _ _ _ => exact ⟨_, slice _ _ _, .int (inI64 (Nat.le_trans hc hcap)), trivial⟩
  · split at h
    · rename_i n _ _ e l hn
      cases h
      obtain ⟨⟨_, xs, ⟨_, hown⟩, _, _⟩, _⟩ := s.tok hn
      cases hx with | vec _ =>
      rcases hown with ⟨hv, h2⟩ | ⟨g, cap, cur, hv, _, _, h3, h4, _⟩
      · obtain ⟨a0, hv⟩ := hv
        rw [hv]; exact ⟨_, slice _ _ _, by rw [h2]; exact .int (inI64 (Nat.zero_le _)), trivial⟩
      · rw [hv]; exact ⟨_, slice _ _ _, .int (inI64 (Nat.le_trans h3 h4)), trivial⟩
    · cases h
  · cases h
    cases hx with | nils => exact ⟨_, slice _ _ _, .int (inI64 (n := 0) (Nat.zero_le _)), trivial⟩
  · cases h

theorem sln_sound {ρ : Nat → Value} {H : FH} {w : World} {tid : TypeId} (hu : P.underlying tid = some .string)
    {x : SV} {p : Prop} {v : SV} (h : evSln x = some (p, v)) {vx : Value} (hx : Den P E ρ H x vx) (t : TypeId) :
    ∃ u, (Builtin.len_ #[tid] t #[vx]).run P w = .ok u w ∧ Den P E ρ H v u ∧ ∀ nx, v.lt nx := by
  unfold evSln at h
  split at h
  · cases h
    cases hx with | str hs => exact ⟨_, by simp [Builtin.len_, Sem.run_bind, run_underlying hu, goInt, Sem.run, pure], .int (inI64 hs), fun _ => trivial⟩
  · cases h

theorem nlc_sound {c : Ctx} {ρ : Nat → Value} {H : FH} {S : SSt} {a : Act} {w : World} (s : Sat P E c ρ H S a w)
    {x : SV} {p : Prop} {v : SV} (h : evNlc x = some (p, v)) (hp : p) {o : Oper} {op : Operand} (ho : o.op = .nilCheck op) (hx : Den P E ρ H x (a.eval op)) (hl : x.lt S.nx) :
    ∃ u, (execOp a.eval o).run P w = .ok (.value u) w ∧ Den P E ρ H v u ∧ v.lt S.nx := by
  have run : ∀ ad, a.eval op = .pointer (some ad) → (execOp a.eval o).run P w = .ok (.value (.pointer (some ad))) w := fun ad h => by
    simp [execOp, ho, h, Sem.run, pure]
  unfold evNlc at h
  split at h
  · cases h
    have h1 := hp
    generalize hv : a.eval op = vx at hx
    cases hx with | dat _ hr =>
    cases hr with
    | pnil => simp [D.isNil] at h1
    | ptr hs hm hr => exact ⟨_, run _ hv, .dat rfl (.ptr hs hm hr), trivial⟩
  all_goals (try cases h)
  · generalize hv : a.eval op = vx at hx
    cases hx with | elt h1 h2 h3 => exact ⟨_, run _ hv, .elt h1 h2 h3, trivial⟩
  · generalize hv : a.eval op = vx at hx
    cases hx with | ptr h1 => exact ⟨_, run _ hv, .ptr h1, hl⟩
  · generalize hv : a.eval op = vx at hx
    cases hx with | eltv h1 => exact ⟨_, run _ hv, .eltv h1, hl⟩
  · generalize hv : a.eval op = vx at hx
    cases hx with | eltc h1 => exact ⟨_, run _ hv, .eltc h1, hl⟩
end
end Go.Fw

/- The frame-work, part K: the machine does what 'ev' says: new memory, stores. -/
namespace Go.Fw
set_option linter.unusedVariables false
set_option linter.unusedSimpArgs false
open Go

section
variable {P : Program} {E : Nat → Value}

mutual
theorem rep_one (hE : ∀ k, (E k).oneCell' = true) {H : FH} : ∀ {t : Ty} {d cs}, Rep P E H t d cs → ∀ v ∈ cs, v.oneCell' = true
  | _, _, _, .int _ => by simp [Value.oneCell']
  | _, _, _, .bool => by simp [Value.oneCell']
  | _, _, _, .str _ => by simp [Value.oneCell']
  | _, _, _, .slice .. => by simp [Value.oneCell']
  | _, _, _, .strct h => repL_one hE h
  | _, _, _, .arr _ h => repL_one hE h
  | _, _, _, .pnil => by simp [Value.oneCell']
  | _, _, _, .ptr .. => by simp [Value.oneCell']
  | _, _, _, .inil => by simp [Value.oneCell']
  | _, _, _, .err => by intro v hv; simp at hv; subst hv; exact hE _
  | _, _, _, .ifc _ => by simp [Value.oneCell']
theorem repL_one (hE : ∀ k, (E k).oneCell' = true) {H : FH} : ∀ {ts : List Ty} {ds cs}, RepL P E H ts ds cs → ∀ v ∈ cs, v.oneCell' = true
  | _, _, _, .nil => by simp
  | _, _, _, .cons h h' => by
    intro v hv
    rcases List.mem_append.1 hv with h1 | h1
    · exact rep_one hE h v h1
    · exact repL_one hE h' v h1
end

theorem denC_ones (hE : ∀ k, (E k).oneCell' = true) {ρ : Nat → Value} {H : FH} {l : List SV} {cs : List Value} (h : DenC P E ρ H l cs) : ∀ v ∈ cs, v.oneCell' = true := by
  induction l generalizing cs with
  | nil => cases h; simp
  | cons x l ih =>
    cases h with
    | one h h1 h' =>
      intro v hv
      rcases List.mem_cons.1 hv with rfl | hv
      · exact h1
      · exact ih h' v hv
    | arrc h h' =>
      intro v hv
      rcases List.mem_append.1 hv with hv | hv
      · exact repL_one hE h v hv
      · exact ih h' v hv

theorem den_one (hE : ∀ k, (E k).oneCell' = true) {ρ : Nat → Value} {H : FH} {x : SV} {v : Value} (h : Den P E ρ H x v) (h1 : x.one = true) : v.oneCell' = true := by
  cases h <;> first | rfl | (simp [SV.one] at h1; done) | assumption | skip
  rename_i hr
  exact rep_one hE hr _ (by simp)

theorem kept_alloc (w : World) (o : Obj) : Kept w (fun _ => False) (w.alloc o) :=
  ⟨rfl, rfl, rfl, by simp, fun b hb _ => RowKit.Below.heap_alloc w o b hb⟩
theorem heap_alloc_last (w : World) (o : Obj) : (w.alloc o).heap[w.heap.size]? = some o := heap_alloc_new w o

/-- A new variable of the function's own. -/
theorem Sat.alloc {c : Ctx} {ρ : Nat → Value} {H : FH} {S : SSt} {a : Act} {w : World} (s : Sat P E c ρ H S a w) {l : List SV} {cs : List Value} (hd : DenC P E ρ H l cs) (hl : SV.ltL S.nx l) (t : TypeId) {d : Nat} (hdN : d < c.N) :
    ∃ ρ', Sat P E c ρ' H { f := (d, .ptr S.nx 0) :: S.f, h := (S.nx, .cells l) :: S.h, nx := S.nx + 1 } (a.put (some d) (.pointer (some ⟨w.heap.size, 0, none⟩))) (w.alloc (.cells cs.toArray t)) := by
  refine ⟨upd ρ S.nx (.pointer (some ⟨w.heap.size, 0, none⟩)), ?_⟩
  have hg := s.grow (N := S.nx) (nx' := S.nx + 1) (Nat.le_refl _) (Nat.lt_succ_self _) (.pointer (some ⟨w.heap.size, 0, none⟩)) (.cells l) (kept_alloc w (.cells cs.toArray t))
    ⟨w.heap.size, t, cs, upd_same _ _ _, heap_alloc_last w _, DenC.congr P E (upd_lt ρ _ (Nat.le_refl _)) (FH.le_refl H) hl hd, fun o => s.hin.none_new (Nat.le_refl _) o⟩
    (fun b hb => by simp [blk] at hb; omega) (SV.ltL_mono (Nat.le_succ _) hl)
  exact hg.put (.ptr (upd_same _ _ _)) (Nat.lt_succ_self _) hdN

theorem run_allocI (tid : TypeId) {z : Value} (hz : (P.info? tid).map (·.zero) = some (some z)) (w : World) :
    (Instr.alloc tid true (.tuple #[])).run P w = .ok (.pointer (some ⟨w.heap.size, 0, none⟩)) (w.alloc (.cells z.cells tid)) := by
  obtain ⟨i, hi, hz⟩ := Option.map_eq_some_iff.1 hz
  simp [Instr.alloc, zeroValue, typeInfo, hi, hz, Sem.run_bind, newVar, newRow, newObj, program, Sem.run, pure]
theorem run_boxI (tid : TypeId) (v : Value) (w : World) :
    (Instr.box tid v).run P w = .ok (.pointer (some ⟨w.heap.size, 0, none⟩)) (w.alloc (.cells v.cells tid)) := by
  simp [Instr.box, Sem.run_bind, newVar, newRow, newObj, Sem.run, pure]

/-! ### Stores -/
theorem setCellAt_den {ρ : Nat → Value} {H : FH} {y : SV} {u : Value} (hy : Den P E ρ H y u) (hu : u.oneCell' = true) : ∀ {l l' : List SV} {cs : List Value} {o : Nat}, DenC P E ρ H l cs → setCellAt l o y = some l' → o < cs.length ∧ DenC P E ρ H l' (cs.take o ++ [u] ++ cs.drop (o + 1)) := by
  intro l
  induction l with
  | nil => intro l' cs o _ h; simp [setCellAt] at h
  | cons x r ih =>
    intro l' cs o hd h
    cases hd with
    | arrc h1 h2 =>
      rename_i e ds cs1 cs2
      have hl := repL_len h1
      rw [sizeL_replicate] at hl
      simp only [setCellAt] at h
      split at h
      · rename_i hle
        obtain ⟨q, h3, rfl⟩ := Option.map_eq_some_iff.1 h
        obtain ⟨h4, h5⟩ := ih h2 h3
        refine ⟨by rw [List.length_append]; omega, ?_⟩
        have := DenC.arrc h1 h5
        rw [List.take_append, List.drop_append, List.take_of_length_le (by omega), show List.drop (o + 1) cs1 = [] from by rw [List.drop_eq_nil_iff]; omega]
        rw [show o - cs1.length = o - ds.length * e.size from by omega, show o + 1 - cs1.length = o - ds.length * e.size + 1 from by omega]
        simpa [List.append_assoc] using this
      · cases h
    | one h1 h1' h2 =>
      rename_i v cs'
      have key : setCellAt (x :: r) o y = match o with | 0 => some (y :: r) | o + 1 => (setCellAt r o y).map (x :: ·) := by
        cases x <;> first | (cases h1; done) | (cases o <;> rfl)
      rw [key] at h
      cases o with
      | zero => cases h; exact ⟨by simp, .one hy hu h2⟩
      | succ o =>
        obtain ⟨q, h3, rfl⟩ := Option.map_eq_some_iff.1 h
        obtain ⟨h4, h5⟩ := ih h2 h3
        exact ⟨by simp; exact h4, .one h1 h1' h5⟩

theorem setCellAt_lt {nx : Nat} {y : SV} (hy : y.lt nx) : ∀ {l l' : List SV} {o : Nat}, SV.ltL nx l → setCellAt l o y = some l' → SV.ltL nx l' := by
  intro l
  induction l with
  | nil => intro l' o _ h; simp [setCellAt] at h
  | cons x r ih =>
    intro l' o hl h
    have key : (∃ e ds, x = .arrc e ds) ∨ setCellAt (x :: r) o y = match o with | 0 => some (y :: r) | o + 1 => (setCellAt r o y).map (x :: ·) := by
      cases x <;> first | exact .inl ⟨_, _, rfl⟩ | (cases o <;> exact .inr rfl)
    rcases key with ⟨e, ds, rfl⟩ | key
    · simp only [setCellAt] at h
      split at h
      · obtain ⟨q, h3, rfl⟩ := Option.map_eq_some_iff.1 h
        exact ⟨trivial, ih hl.2 h3⟩
      · cases h
    · rw [key] at h
      cases o with
      | zero => cases h; exact ⟨hy, hl.2⟩
      | succ o =>
        obtain ⟨q, h3, rfl⟩ := Option.map_eq_some_iff.1 h
        exact ⟨hl.1, ih hl.2 h3⟩

theorem setArrAt_den {ρ : Nat → Value} {H : FH} {d : D} {c' : List Value} : ∀ {l l' : List SV} {cs : List Value} {o i : Nat} {e : Ty} {ds : List D}, DenC P E ρ H l cs → arrAt l o = some (e, ds) → Rep P E H e d c' → i < ds.length → setArrAt l o i d = some l' →
    o + i * e.size + e.size ≤ cs.length ∧ DenC P E ρ H l' (cs.take (o + i * e.size) ++ c' ++ cs.drop (o + i * e.size + e.size)) := by
  intro l
  induction l with
  | nil => intro l' cs o i e ds _ h; simp [arrAt] at h
  | cons x r ih =>
    intro l' cs o i e ds hd ha hr hi h
    cases hd with
    | arrc h1 h2 =>
      rename_i e' ds' cs1 cs2
      have hl := repL_len h1
      rw [sizeL_replicate] at hl
      simp only [setArrAt] at h
      simp only [arrAt] at ha
      split at h
      · rename_i h0; subst h0
        simp only [if_true] at ha
        cases ha
        cases h
        have hle : i * e.size + e.size ≤ cs1.length := by
          rw [hl, ← Nat.succ_mul]; exact Nat.mul_le_mul_right _ hi
        refine ⟨by rw [List.length_append]; omega, ?_⟩
        have := repL_set i hi h1 hr
        rw [List.take_append_of_le_length (by omega), List.drop_append_of_le_length (by omega)]
        have hh := DenC.arrc (ρ := ρ) (l := r) (ds := ds.set i d) (by rw [List.length_set]; exact this) h2
        simpa [List.append_assoc] using hh
      · rename_i h0
        rw [if_neg h0] at ha
        split at h
        · rename_i hle
          rw [if_pos hle] at ha
          obtain ⟨q, h3, rfl⟩ := Option.map_eq_some_iff.1 h
          obtain ⟨h4, h5⟩ := ih h2 ha hr hi h3
          refine ⟨by rw [List.length_append]; omega, ?_⟩
          have := DenC.arrc h1 h5
          rw [List.take_append, List.drop_append, List.take_of_length_le (by omega), show List.drop (o + i * e.size + e.size) cs1 = [] from by rw [List.drop_eq_nil_iff]; omega]
          rw [show o + i * e.size - cs1.length = o - ds'.length * e'.size + i * e.size from by omega, show o + i * e.size + e.size - cs1.length = o - ds'.length * e'.size + i * e.size + e.size from by omega]
          simpa [List.append_assoc] using this
        · cases h
    | one h1 h1' h2 =>
      rename_i v cs'
      have key : setArrAt (x :: r) o i d = match o with | 0 => none | o + 1 => (setArrAt r o i d).map (x :: ·) := by
        cases x <;> first | (cases h1; done) | (cases o <;> rfl)
      have key2 : arrAt (x :: r) o = match o with | 0 => none | o + 1 => arrAt r o := by
        cases x <;> first | (cases h1; done) | (cases o <;> rfl)
      rw [key] at h
      rw [key2] at ha
      cases o with
      | zero => cases h
      | succ o =>
        obtain ⟨q, h3, rfl⟩ := Option.map_eq_some_iff.1 h
        obtain ⟨h4, h5⟩ := ih h2 ha hr hi h3
        refine ⟨by simp; omega, ?_⟩
        have := DenC.one h1 h1' h5
        rw [show o + 1 + i * e.size = (o + i * e.size) + 1 from by omega, show o + i * e.size + 1 + e.size = (o + i * e.size + e.size) + 1 from by omega]
        exact this

theorem setArrAt_lt {nx : Nat} {d : D} : ∀ {l l' : List SV} {o i : Nat}, SV.ltL nx l → setArrAt l o i d = some l' → SV.ltL nx l' := by
  intro l
  induction l with
  | nil => intro l' o i _ h; simp [setArrAt] at h
  | cons x r ih =>
    intro l' o i hl h
    have key : (∃ e ds, x = .arrc e ds) ∨ setArrAt (x :: r) o i d = match o with | 0 => none | o + 1 => (setArrAt r o i d).map (x :: ·) := by
      cases x <;> first | exact .inl ⟨_, _, rfl⟩ | (cases o <;> exact .inr rfl)
    rcases key with ⟨e, ds, rfl⟩ | key
    · simp only [setArrAt] at h
      split at h
      · cases h; exact ⟨trivial, hl.2⟩
      · split at h
        · obtain ⟨q, h3, rfl⟩ := Option.map_eq_some_iff.1 h
          exact ⟨trivial, ih hl.2 h3⟩
        · cases h
    · rw [key] at h
      cases o with
      | zero => cases h
      | succ o =>
        obtain ⟨q, h3, rfl⟩ := Option.map_eq_some_iff.1 h
        exact ⟨hl.1, ih hl.2 h3⟩

theorem kept_setRow (w : World) (b : Nat) (cs : Array Value) : Kept w (fun k => some b = some k) (w.setRow b cs) :=
  ⟨rfl, rfl, rfl, by simp [World.setRow], fun k hk hn => by simp only [World.setRow, Array.getElem?_modify]; rw [if_neg (fun e => hn (by rw [e]))]⟩

theorem run_storeVar (tid : TypeId) {v : Value} (hs : (P.info? tid).map (·.size) = some v.cells.size) (h1 : ∀ u ∈ v.cells.toList, u.oneCell' = true) (b o : Nat) {cur : Array Value} {t : TypeId} {w : World} (hg : w.heap[b]? = some (.cells cur t (0, 0))) (ho : o + v.cells.size ≤ cur.size) :
    (Instr.storeAt tid (.pointer (some ⟨b, o, none⟩)) v).run P w = .ok () (w.setRow b (cur.toList.take o ++ v.cells.toList ++ cur.toList.drop (o + v.cells.size)).toArray) := by
  have := run_storeCells_at P b o t v.cells.toList 0 cur w hg (by simpa using ho) h1
  simp only [Nat.add_zero, Array.length_toList] at this
  simp [Instr.storeAt, Instr.sureAddr, storeVar, Sem.run_bind, run_sizeOf tid hs, this]
end
end Go.Fw

/- The frame-work, part L: the machine does what 'ev' says: stores; slices that are made. -/
namespace Go.Fw
set_option linter.unusedVariables false
set_option linter.unusedSimpArgs false
open Go

section
variable {P : Program} {E : Nat → Value}

theorem denC_len {ρ : Nat → Value} {H : FH} : ∀ {l : List SV} {cs : List Value}, DenC P E ρ H l cs → cs.length = lenC l := by
  intro l
  induction l with
  | nil => intro cs h; cases h; rfl
  | cons x r ih =>
    intro cs h
    cases h with
    | one h h1 h' =>
      have key : lenC (x :: r) = lenC r + 1 := by cases x <;> first | rfl | (cases h; done)
      rw [key, List.length_cons, ih h']
    | arrc h h' =>
      have := repL_len h
      rw [sizeL_replicate] at this
      rw [List.length_append, ih h', this]; rfl

theorem svCells_den (hE : ∀ k, (E k).oneCell' = true) {ρ : Nat → Value} {H : FH} {x : SV} {v : Value} (h : Den P E ρ H x v) (hx : x.okc = true) : ∃ cs, v.cells = cs.toArray ∧ DenC P E ρ H (svCells x) cs := by
  by_cases h1 : x.one = true
  · have hv := den_one hE h h1
    refine ⟨[v], ?_, ?_⟩
    · cases v <;> first | rfl | (simp [Value.oneCell'] at hv)
    · have : svCells x = [x] := by cases x <;> first | rfl | (simp [SV.one] at h1)
      rw [this]; exact .one h hv .nil
  · cases h <;> first | (exact absurd rfl h1) | (simp [SV.okc] at hx; done) | skip
    rename_i hc
    exact ⟨_, rfl, hc⟩

theorem toD_all {ρ : Nat → Value} {H : FH} {t : Ty} {l : List SV} {d : D} (h : toD t l = some (d, [])) {cs : List Value} (hd : DenC P E ρ H l cs) : Rep P E H t d cs := by
  obtain ⟨c1, c2, h1, h2, h3⟩ := toD_rep h hd
  cases h3
  rw [h1, List.append_nil]; exact h2

theorem set_cells {α : Type} (l : List α) (k : Nat) (v : α) (h : k < l.length) : l.take k ++ [v] ++ l.drop (k + 1) = l.set k v := by
  rw [List.set_eq_take_append_cons_drop, if_pos h, List.append_assoc]; rfl
theorem set_mid {α : Type} {cur xs : List α} {N p sz off : Nat} (v : α) (hx : cur.take N = xs) (h : p + sz ≤ N) (ho : off < sz) (hc : N ≤ cur.length) :
    (cur.take (p + off) ++ [v] ++ cur.drop (p + off + 1)).take N = xs.take p ++ (((xs.drop p).take sz).take off ++ [v] ++ ((xs.drop p).take sz).drop (off + 1)) ++ xs.drop (p + sz) := by
  subst hx
  have hl : (((cur.take N).drop p).take sz).length = sz := by simp; omega
  rw [set_cells _ _ _ (by omega), set_cells _ _ _ (by omega), List.take_set]
  have e : cur.take N = (cur.take N).take p ++ (((cur.take N).drop p).take sz ++ (cur.take N).drop (p + sz)) := by
    rw [← List.drop_drop, List.take_append_drop, List.take_append_drop]
  have hp : ((cur.take N).take p).length = p := by simp; omega
  conv => lhs; rw [e]
  rw [List.set_append_right _ _ (by omega), hp, show p + off - p = off from by omega, List.set_append_left _ _ (by omega), List.append_assoc]

theorem store_sound (hE : ∀ k, (E k).oneCell' = true) {c : Ctx} {ρ : Nat → Value} {H : FH} {S : SSt} {a : Act} {w : World} (s : Sat P E c ρ H S a w) {tid : TypeId} (hsz : (P.info? tid).map (·.size) = some (tyOf P 8 tid).size)
    {x y : SV} {p : Prop} {h' : Heap} (h : evSt (tyOf P 8 tid) x y S.h = some (p, h')) (hp : p) {vx vy : Value} (hx : Den P E ρ H x vx) (hy : Den P E ρ H y vy) (hly : y.lt S.nx) :
    ∃ w', (Instr.storeAt tid vx vy).run P w = .ok () w' ∧ Sat P E c ρ H { f := S.f, h := h', nx := S.nx } a w' := by
  -- the store into a block of cells
  have go : ∀ (n b o : Nat) (l l' : List SV) (t : TypeId) (cs new : List Value), hget S.h n = some (.cells l) → ρ n = .pointer (some ⟨b, 0, none⟩) → w.heap[b]? = some (.cells cs.toArray t (0, 0)) → (∀ o, H b o = none) →
      vy.cells = new.toArray → new.length = (tyOf P 8 tid).size → (∀ u ∈ new, u.oneCell' = true) → o + new.length ≤ cs.length → DenC P E ρ H l' (cs.take o ++ new ++ cs.drop (o + new.length)) → SV.ltL S.nx l' →
      ∃ w', (Instr.storeAt tid (.pointer (some ⟨b, o, none⟩)) vy).run P w = .ok () w' ∧ Sat P E c ρ H { f := S.f, h := hset S.h n (.cells l'), nx := S.nx } a w' := by
    intro n b o l l' t cs new hn hρ hh hH hv hl h1 ho hd hlt
    have hr := run_storeVar (P := P) tid (v := vy) (by rw [hsz, hv, List.size_toArray, hl]) (by rw [hv]; simpa using h1) b o hh (by rw [hv]; simpa using ho)
    refine ⟨_, hr, ?_⟩
    refine s.change hn (.cells l') ?_ ⟨b, t, cs.take o ++ new ++ cs.drop (o + new.length), hρ, ?_, hd, hH⟩ hlt
    · have := kept_setRow w b (cs.toArray.toList.take o ++ vy.cells.toList ++ cs.toArray.toList.drop (o + vy.cells.size)).toArray
      rw [hρ]; exact this
    · rw [setRow_heap w b _ _ t (0, 0) hh, hv]
      simp
  unfold evSt at h
  split at h
  · -- ptr
    rename_i n off
    split at h
    · rename_i l hn
      obtain ⟨ht, hnl, htl⟩ := s.tok hn
      obtain ⟨b, t, cs, hρ, hh, hd, hH⟩ := ht
      cases hx with
      | ptr hx =>
        rw [hρ] at hx; cases hx
        split at h
        · rename_i m
          split at h
          · rename_i q r e1
            split at h
            · rename_i q' r' e2
              cases h
              obtain ⟨c1, c2, g1, g2, g3, g4⟩ := takeC_den _ hd e1
              obtain ⟨c3, c4, g5, g6, g7, g8⟩ := takeC_den _ g4 e2
              have hl1 := takeC_lt _ htl e1
              have hl2 := takeC_lt _ hl1.2 e2
              cases hy with
              | agg hm =>
                rename_i new
                have hlen := denC_len hm
                refine go n _ off l _ t cs new hn hρ hh hH rfl (by rw [hlen, hp]) (denC_ones hE hm) (by rw [g1, g5]; simp; omega) ?_ ?_
                · have := denC_append g3 (denC_append hm g8)
                  rw [g1, g5]
                  rw [List.take_append_of_le_length (by omega), List.take_of_length_le (by omega), List.drop_append, List.drop_append, show List.drop (off + new.length) c1 = [] from by rw [List.drop_eq_nil_iff]; omega,
                    show List.drop (off + new.length - c1.length) c3 = [] from by rw [List.drop_eq_nil_iff]; omega, show off + new.length - c1.length - c3.length = 0 from by omega]
                  simpa [List.append_assoc] using this
                · have app : ∀ {a b : List SV}, SV.ltL S.nx a → SV.ltL S.nx b → SV.ltL S.nx (a ++ b) := by
                    intro a b ha hb
                    induction a with
                    | nil => exact hb
                    | cons z a ih => exact ⟨ha.1, ih ha.2⟩
                  exact app hl1.1 (app hly hl2.2)
            · cases h
          · cases h
        · rename_i y' hne
          split at h
          · rename_i l' e1
            cases h
            have hone := den_one hE hy hp.1
            obtain ⟨g1, g2⟩ := setCellAt_den hy hone hd e1
            have hc : vy.cells = #[vy] := by cases vy <;> first | rfl | (simp [Value.oneCell'] at hone)
            exact go n _ off l _ t cs [vy] hn hρ hh hH (by rw [hc]) (by rw [size_noAgg hp.2]; rfl) (by simpa using hone) (by simp; omega) (by simpa using g2) (setCellAt_lt hly htl e1)
          · cases h
    · cases h
  · -- eltv
    rename_i n i sz off
    split at h
    · rename_i eid e l hn
      split at h
      · rename_i d e1
        cases h
        obtain ⟨h0, h1, h2, h3, h4, h5⟩ := hp
        subst h3; subst h4
        obtain ⟨ht, hnl, htl⟩ := s.tok hn
        obtain ⟨he, xs, ⟨hlen, hown⟩, hr, hH⟩ := ht
        obtain ⟨new, hv, hd⟩ := svCells_den hE hy h5
        have hrep := toD_all e1 hd
        have hnl' := rep_len hrep
        cases hx with
        | eltv hx =>
          rename_i b len cap
          rcases hown with ⟨_, hn'⟩ | ⟨g, cap', cur, hv', hg0, hh, hc1, hc2, hc3, htake⟩
          · omega
          · rw [hx] at hv'; cases hv'
            have hi : i.toNat < l.length := by omega
            have hmul : i.toNat * e.size + e.size ≤ l.length * e.size := by rw [← Nat.succ_mul]; exact Nat.mul_le_mul_right _ hi
            have hmul2 : l.length * e.size ≤ cap * e.size := Nat.mul_le_mul_right _ hc1
            have hsv := run_storeVar (P := P) tid (v := vy) (by rw [hsz, hv, List.size_toArray, hnl', h2]) (by rw [hv]; simpa using rep_one hE hrep) b (i.toNat * e.size + 0) hh (by rw [hv, hc3]; simp; omega)
            refine ⟨_, hsv, ?_⟩
            refine s.change hn _ ?_ ⟨fun _ => he (by rintro rfl; simp at hi), _, ⟨?_, .inr ⟨b, cap, _, by rw [hx, List.length_set], hg0, setRow_heap w b _ _ _ (0, 0) hh, by rw [List.length_set]; exact hc1, hc2, ?_, rfl⟩⟩, ?_, ?_⟩ trivial
            · have := kept_setRow w b (cur.toList.take (i.toNat * e.size + 0) ++ vy.cells.toList ++ cur.toList.drop (i.toNat * e.size + 0 + vy.cells.size)).toArray
              rw [hx, blk_slice hg0]; exact this
            · have hcl : cur.toList.length = cap * e.size := by rw [Array.length_toList, hc3]
              rw [List.length_set, hv]
              simp only [Nat.add_zero, List.toList_toArray, List.size_toArray, List.length_take, List.length_append, List.length_drop, hcl, hnl']
              omega
            · have hcl : cur.toList.length = cap * e.size := by rw [Array.length_toList, hc3]
              rw [hv]
              simp only [Nat.add_zero, List.toList_toArray, List.size_toArray, List.length_take, List.length_append, List.length_drop, hcl, hnl']
              omega
            · have := repL_set i.toNat hi hr hrep
              rw [List.length_set]
              have hcl : cur.toList.length = cap * e.size := by rw [Array.length_toList, hc3]
              have hx' : List.take (l.length * e.size) (cur.toList.take (i.toNat * e.size + 0) ++ vy.cells.toList ++ cur.toList.drop (i.toNat * e.size + 0 + vy.cells.size)) = xs.take (i.toNat * e.size) ++ new ++ xs.drop (i.toNat * e.size + e.size) := by
                rw [hv, ← htake]
                simp only [Nat.add_zero, List.toList_toArray, List.size_toArray, hnl', List.append_assoc]
                rw [List.take_append, List.take_of_length_le (by rw [List.length_take]; omega), List.take_take, Nat.min_eq_left (by omega), List.length_take, hcl, Nat.min_eq_left (by omega)]
                congr 1
                rw [List.take_append, List.take_of_length_le (by omega)]
                congr 1
                rw [List.take_drop]
                congr 2
                omega
              rw [hx']; exact this
            · intro b hb
              exact hH b hb
      · split at h
        · rename_i m e1
          split at h
          · rename_i d e2
            cases h
            obtain ⟨h0, h1, h2, h4, h5⟩ := hp
            subst h4
            obtain ⟨ht, hnl, htl⟩ := s.tok hn
            obtain ⟨he, xs, ⟨hlen, hown⟩, hr, hH⟩ := ht
            have hone := den_one hE hy h5
            have hc : vy.cells = #[vy] := by cases vy <;> first | rfl | (simp [Value.oneCell'] at hone)
            cases hx with
            | eltv hx =>
              rename_i b len cap
              rcases hown with ⟨_, hn'⟩ | ⟨g, cap', cur, hv', hg0, hh, hc1, hc2, hc3, htake⟩
              · omega
              · rw [hx] at hv'; cases hv'
                have hi : i.toNat < l.length := by omega
                have hrep0 := repL_get hr i.toNat hi
                have hden := rep_explode (ρ := ρ) hE hrep0
                have hgt : l.getD i.toNat .nil = l[i.toNat] := by simp [hi]
                rw [hgt] at e1
                obtain ⟨g1, g2⟩ := setCellAt_den hy hone hden e1
                have hrep := toD_all e2 g2
                have hsz0 := rep_len hrep0
                have hoff : off < e.size := by omega
                have hmul : i.toNat * e.size + e.size ≤ l.length * e.size := by rw [← Nat.succ_mul]; exact Nat.mul_le_mul_right _ hi
                have hmul2 : l.length * e.size ≤ cap * e.size := Nat.mul_le_mul_right _ hc1
                have hcl : cur.toList.length = cap * e.size := by rw [Array.length_toList, hc3]
                have hsv := run_storeVar (P := P) tid (v := vy) (by rw [hsz, hc, size_noAgg h2]; rfl) (by rw [hc]; simpa using hone) b (i.toNat * e.size + off) hh (by rw [hc, hc3]; simp; omega)
                refine ⟨_, hsv, ?_⟩
                refine s.change hn _ ?_ ⟨fun _ => he (by rintro rfl; simp at hi), _, ⟨?_, .inr ⟨b, cap, _, by rw [hx, List.length_set], hg0, setRow_heap w b _ _ _ (0, 0) hh, by rw [List.length_set]; exact hc1, hc2, ?_, rfl⟩⟩, ?_, ?_⟩ trivial
                · have := kept_setRow w b (cur.toList.take (i.toNat * e.size + off) ++ vy.cells.toList ++ cur.toList.drop (i.toNat * e.size + off + vy.cells.size)).toArray
                  rw [hx, blk_slice hg0]; exact this
                · rw [List.length_set, hc]
                  simp only [List.toList_toArray, List.size_toArray, List.length_take, List.length_append, List.length_drop, hcl, List.length_cons, List.length_nil]
                  omega
                · rw [hc]
                  simp only [List.toList_toArray, List.size_toArray, List.length_take, List.length_append, List.length_drop, hcl, List.length_cons, List.length_nil]
                  omega
                · have := repL_set i.toNat hi hr hrep
                  rw [List.length_set]
                  have hx' := set_mid (cur := cur.toList) (N := l.length * e.size) (p := i.toNat * e.size) (sz := e.size) (off := off) vy htake hmul hoff (by omega)
                  rw [hc]
                  simp only [List.toList_toArray, List.size_toArray, List.length_cons, List.length_nil, Nat.zero_add]
                  rw [hx']; exact this
                · intro b hb
                  exact hH b hb
          · cases h
        · cases h
    · cases h
  · -- eltc
    rename_i n off e i
    split at h
    · rename_i l hn
      obtain ⟨ht, hnl, htl⟩ := s.tok hn
      obtain ⟨b, t, cs, hρ, hh, hd, hH⟩ := ht
      cases hx with
      | eltc hx =>
        rw [hρ] at hx; cases hx
        split at h
        · rename_i e' ds d e1 e2
          split at h
          · rename_i l' e3
            cases h
            obtain ⟨h0, h1, h2, h3, h4⟩ := hp
            subst h2
            obtain ⟨new, hv, hdn⟩ := svCells_den hE hy h4
            have hrep := toD_all e2 hdn
            have hnl' := rep_len hrep
            obtain ⟨g1, g2⟩ := setArrAt_den hd e1 hrep (by omega) e3
            exact go n _ _ l _ t cs new hn hρ hh hH hv (by rw [hnl', h3]) (rep_one hE hrep) (by omega) (by rw [hnl']; exact g2) (setArrAt_lt htl e3)
          · cases h
        · cases h
    · cases h
  · cases h
end
end Go.Fw
