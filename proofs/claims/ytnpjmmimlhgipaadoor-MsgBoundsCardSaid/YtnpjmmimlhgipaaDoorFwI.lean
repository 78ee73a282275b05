/- The frame-work, part I: the machine does what 'ev' says: places, and what is read there. -/
import Derived.Test.YtnpjmmimlhgipaaDoorFwH
namespace Go.Fw
set_option linter.unusedVariables false
set_option linter.unusedSimpArgs false
open Go

section
variable {P : Program} {E : Nat → Value}

theorem add_lit (b o j : Nat) : (⟨b, o, none⟩ : Addr).add j = ⟨b, o + j, none⟩ := by
  unfold Addr.add
  split <;> simp_all

theorem cell_of_block {w : World} {b : Nat} {cs : List Value} {t : TypeId} {fr : Nat × Nat} (h : w.heap[b]? = some (.cells cs.toArray t fr)) (o : Nat) : w.cell? ⟨b, o, none⟩ = cs[o]? := by
  simp [World.cell?, h]
theorem cell_of_block' {w : World} {b : Nat} {cs : Array Value} {t : TypeId} {fr : Nat × Nat} (h : w.heap[b]? = some (.cells cs t fr)) (o : Nat) : w.cell? ⟨b, o, none⟩ = cs[o]? := by
  simp [World.cell?, h]

theorem size_noAgg {t : Ty} (h : isAgg t = false) : t.size = 1 := by cases t <;> simp_all [isAgg, Ty.size]

theorem Sat.tok {c : Ctx} {ρ : Nat → Value} {H : FH} {S : SSt} {a : Act} {w : World} (s : Sat P E c ρ H S a w) {n : Nat} {t : Tok} (h : hget S.h n = some t) : TokSat P E ρ H w n t ∧ n < S.nx ∧ t.lt S.nx := by
  have h' : hget (S.h ++ c.o) n = some t := by rw [hget_append, h]
  exact ⟨s.hs.tok n t h', s.hlt n t h'⟩

/-- The cells of an owned slice's element. -/
theorem arr_elem {ρ : Nat → Value} {H : FH} {w : World} {n : Nat} {eid : TypeId} {e : Ty} {l : List D} (h : TokSat P E ρ H w n (.arr eid e l)) {b len cap : Nat} (hb : ρ n = .slice (some ⟨b, 0, none⟩) len cap) (i : Nat) (hi : i < l.length) :
    ∃ cs, Rep P E H e l[i] cs ∧ ∀ j v, cs[j]? = some v → w.cell? ⟨b, i * e.size + j, none⟩ = some v := by
  obtain ⟨he, xs, ⟨hx, hown⟩, hr, _⟩ := h
  refine ⟨_, repL_get hr i hi, fun j v hv => ?_⟩
  rcases hown with ⟨_, hn⟩ | ⟨g, cap', cur, hv', _, hh, _, _, _, htake⟩
  · omega
  · rw [hb] at hv'; cases hv'
    rw [cell_of_block' hh]
    rw [List.getElem?_take] at hv
    split at hv
    · rw [List.getElem?_drop] at hv
      rw [← htake, List.getElem?_take] at hv
      split at hv
      · simpa using hv
      · cases hv
    · cases hv

theorem arrAt_den {ρ : Nat → Value} {H : FH} : ∀ {l : List SV} {cs : List Value} {o : Nat} {e : Ty} {ds : List D}, DenC P E ρ H l cs → arrAt l o = some (e, ds) → ∃ c1 c2 c3, cs = c1 ++ (c2 ++ c3) ∧ c1.length = o ∧ RepL P E H (List.replicate ds.length e) ds c2 := by
  intro l
  induction l with
  | nil => intro cs o e ds _ h; simp [arrAt] at h
  | cons y r ih =>
    intro cs o e ds hd h
    cases hd with
    | arrc h1 h2 =>
      rename_i e' ds' cs1 cs2
      simp only [arrAt] at h
      split at h
      · rename_i h0; cases h; exact ⟨[], cs1, cs2, rfl, h0.symm, h1⟩
      · split at h
        · rename_i hle
          have hl := repL_len h1
          rw [sizeL_replicate] at hl
          obtain ⟨c1, c2, c3, g1, g2, g3⟩ := ih h2 h
          exact ⟨cs1 ++ c1, c2, c3, by rw [g1, List.append_assoc], by rw [List.length_append, g2]; omega, g3⟩
        · cases h
    | one h1 h1' h2 =>
      rename_i v cs'
      have key : arrAt (y :: r) o = match o with | 0 => none | o + 1 => arrAt r o := by
        cases y <;> first | (cases h1; done) | (cases o <;> rfl)
      rw [key] at h
      cases o with
      | zero => cases h
      | succ o =>
        obtain ⟨c1, c2, c3, g1, g2, g3⟩ := ih h2 h
        exact ⟨v :: c1, c2, c3, by rw [g1]; rfl, by simp [g2], g3⟩

theorem load_sound (hE : ∀ k, (E k).oneCell' = true) {c : Ctx} {ρ : Nat → Value} {H : FH} {S : SSt} {a : Act} {w : World} (s : Sat P E c ρ H S a w) {tid : TypeId} (hu : (P.underlying tid).isSome = true) (hsz : (P.info? tid).map (·.size) = some (tyOf P 8 tid).size)
    {x : SV} {p : Prop} {v : SV} (h : evLd (tyOf P 8 tid) x S.h = some (p, v)) (hp : p) {vx : Value} (hx : Den P E ρ H x vx) (hl : x.lt S.nx) :
    ∃ u, (Instr.loadAt tid vx).run P w = .ok u w ∧ Den P E ρ H v u ∧ v.lt S.nx := by
  -- the cells of a datum, at an address
  have datum : ∀ (b o : Nat) (d : D) (cs : List Value), Rep P E H (tyOf P 8 tid) d cs → (∀ j v, cs[j]? = some v → w.cell? ⟨b, o + j, none⟩ = some v) →
      ∃ u, (Instr.loadAt tid (.pointer (some ⟨b, o, none⟩))).run P w = .ok u w ∧ Den P E ρ H (ldSV (tyOf P 8 tid) d) u ∧ (ldSV (tyOf P 8 tid) d).lt S.nx := by
    intro b o d cs hr hc
    have hlen := rep_len hr
    have h1 := ldSV_den (ρ := ρ) hE hr
    have h2 := run_loadVar (P := P) tid hu (cs := cs) (by rw [hsz, hlen]) ⟨b, o, none⟩ w (fun j v hj => by rw [add_lit]; exact hc j v hj)
    have h3 : ∀ u, (loadVar tid ⟨b, o, none⟩).run P w = .ok u w → (Instr.loadAt tid (.pointer (some ⟨b, o, none⟩))).run P w = .ok u w := fun u h => by
      simp [Instr.loadAt, Instr.sureAddr, Sem.run_bind, h]
    cases hg : isAgg (tyOf P 8 tid) with
    | true => exact ⟨_, h3 _ (h2.1 hg), h1.1 hg, ldSV_lt _ _ _⟩
    | false =>
      obtain ⟨u, hcs, hden, _⟩ := h1.2 hg
      exact ⟨u, h3 _ (h2.2 hg u hcs), hden, ldSV_lt _ _ _⟩
  -- one cell
  have single : ∀ (b o : Nat) (u : Value), isAgg (tyOf P 8 tid) = false → w.cell? ⟨b, o, none⟩ = some u → (Instr.loadAt tid (.pointer (some ⟨b, o, none⟩))).run P w = .ok u w := by
    intro b o u hg hc
    have h2 := run_loadVar (P := P) tid hu (cs := [u]) (by rw [hsz, size_noAgg hg]; rfl) ⟨b, o, none⟩ w (fun j v hj => by
      match j, hj with
      | 0, hj => simp at hj; subst hj; rw [add_lit]; exact hc)
    simp [Instr.loadAt, Instr.sureAddr, Sem.run_bind, h2.2 hg u rfl]
  unfold evLd at h
  split at h
  · -- elt
    rename_i t' d
    cases h
    cases hp
    cases hx with
    | elt hs hm hr =>
      rename_i ad cs
      obtain ⟨b, o, sp⟩ := ad
      cases hs
      exact datum b o d cs hr (fun j v hj => s.hin _ _ _ (hm j v hj))
  · -- ptr
    rename_i n off
    split at h
    · rename_i l hn
      obtain ⟨ht, hnl, htl⟩ := s.tok hn
      obtain ⟨b, t, cs, hρ, hh, hd, _⟩ := ht
      cases hx with
      | ptr hx =>
        rw [hρ] at hx; cases hx
        split at h
        · rename_i hg
          split at h
          · rename_i r e1
            split at h
            · rename_i q r' e2
              cases h
              obtain ⟨c1, c2, g1, g2, g3, g4⟩ := takeC_den _ hd e1
              obtain ⟨c3, c4, g5, g6, g7, g8⟩ := takeC_den _ g4 e2
              have hlt := takeC_lt _ (takeC_lt _ htl e1).2 e2
              have h2 := run_loadVar (P := P) tid hu (cs := c3) (by rw [hsz, g6]) ⟨b, off, none⟩ w (fun j v hj => by
                rw [add_lit, cell_of_block hh, g1, g5, List.getElem?_append_right (by omega), g2, List.getElem?_append_left (by rw [Nat.add_sub_cancel_left]; exact (List.getElem?_eq_some_iff.1 hj).1), Nat.add_sub_cancel_left]
                exact hj)
              exact ⟨_, by simp [Instr.loadAt, Instr.sureAddr, Sem.run_bind, h2.1 hg], .agg g7, hlt.1⟩
            · cases h
          · cases h
        · rename_i hg
          split at h
          · rename_i v' e1
            cases h
            obtain ⟨u, hu', hden, _⟩ := cellAt_den hd e1
            exact ⟨u, single b off u (by simpa using hg) (by rw [cell_of_block hh]; exact hu'), hden, cellAt_lt htl e1⟩
          · cases h
    · cases h
  · -- eltv
    rename_i n i sz off
    split at h
    · rename_i eid e l hn
      obtain ⟨ht, hnl, htl⟩ := s.tok hn
      cases hx with
      | eltv hx =>
        rename_i b len cap
        split at h
        · cases h
          obtain ⟨h0, h1, h2, h3, h4⟩ := hp
          subst h3; subst h4
          obtain ⟨cs, hr, hc⟩ := arr_elem ht hx i.toNat (by omega)
          rw [List.getD_eq_getElem?_getD, List.getElem?_eq_getElem (by omega : i.toNat < l.length), Option.getD_some]
          rw [← h2] at hr
          have := datum b (i.toNat * e.size + 0) l[i.toNat] cs hr (fun j v hj => by rw [Nat.add_zero]; exact hc j v hj)
          rwa [h2] at this
        · split at h
          · rename_i v' e1
            cases h
            obtain ⟨h0, h1, h2, h4⟩ := hp
            subst h4
            obtain ⟨cs, hr, hc⟩ := arr_elem ht hx i.toNat (by omega)
            rw [List.getD_eq_getElem?_getD, List.getElem?_eq_getElem (by omega : i.toNat < l.length), Option.getD_some] at e1
            obtain ⟨u, hu', hden, _⟩ := cellAt_den (rep_explode (ρ := ρ) hE hr) e1
            exact ⟨u, single b _ u h2 (hc _ _ hu'), hden, cellAt_lt (explode_lt _ _ _) e1⟩
          · cases h
    · cases h
  · -- eltc
    rename_i n off e i
    split at h
    · rename_i l hn
      obtain ⟨ht, hnl, htl⟩ := s.tok hn
      obtain ⟨b, t, cs, hρ, hh, hd, _⟩ := ht
      cases hx with
      | eltc hx =>
        rw [hρ] at hx; cases hx
        split at h
        · rename_i e' ds e1
          cases h
          obtain ⟨h0, h1, h2, h3⟩ := hp
          subst h2
          obtain ⟨c1, c2, c3, g1, g2, g3⟩ := arrAt_den hd e1
          have hr := repL_get g3 i.toNat (by omega)
          rw [List.getD_eq_getElem?_getD, List.getElem?_eq_getElem (by omega : i.toNat < ds.length), Option.getD_some]
          rw [← h3] at hr ⊢
          refine datum b _ _ _ hr (fun j v hj => ?_)
          rw [cell_of_block hh, g1]
          rw [List.getElem?_take] at hj
          split at hj
          · rw [List.getElem?_drop] at hj
            have := (List.getElem?_eq_some_iff.1 hj).1
            rw [List.getElem?_append_right (by omega), List.getElem?_append_left (by omega), ← hj, h3]
            congr 1
            omega
          · cases hj
        · cases h
    · cases h
  · cases h
end
end Go.Fw
