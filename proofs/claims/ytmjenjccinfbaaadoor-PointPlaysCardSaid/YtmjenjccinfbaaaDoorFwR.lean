import Derived.Test.YtmjenjccinfbaaaDoorFwQ
/- The frame-work, part P: what is owned becomes what no longer changes. -/
namespace Go.Fw
set_option linter.unusedVariables false
set_option linter.unusedSimpArgs false
open Go

section
variable {P : Program} {E : Nat → Value}

theorem fget_sub {n : Nat} {y : SV} {f : Fr} {i : Nat} : fget (Fr.sub n y f) i = SV.sub n y (fget f i) := by
  induction f with
  | nil => simp [Fr.sub, fget, SV.sub]
  | cons p f ih =>
    obtain ⟨j, x⟩ := p
    simp only [Fr.sub, fget]
    split
    · rfl
    · exact ih
theorem hget_sub {n : Nat} {y : SV} {h : Heap} {m : Nat} : hget (Heap.sub n y h) m = (hget h m).map (Tok.sub n y) := by
  induction h with
  | nil => rfl
  | cons p h ih =>
    obtain ⟨k, t⟩ := p
    simp only [Heap.sub, hget]
    split
    · rfl
    · exact ih

mutual
theorem SV.sub_lt {nx n : Nat} {y : SV} (hy : y.lt nx) : ∀ {x : SV}, x.lt nx → (SV.sub n y x).lt nx
  | .vec m, h => by simp only [SV.sub]; split; exact hy; exact h
  | .ptr m o, h => by simp only [SV.sub]; split; (split; exact hy; exact trivial); exact h
  | .eltv .., h => by simp only [SV.sub]; split; exact trivial; exact h
  | .eltc .., h => by simp only [SV.sub]; split; exact trivial; exact h
  | .agg l, h => by simp only [SV.sub]; exact SV.subL_lt hy (l := l) h
  | .tup l, h => by simp only [SV.sub]; exact SV.subL_lt hy (l := l) h
  | .clo f l, h => by simp only [SV.sub]; exact SV.subL_lt hy (l := l) h
  | .ifc t x, h => by simp only [SV.sub]; exact SV.sub_lt hy (x := x) h
  | .int .., _ => by simp only [SV.sub]; exact trivial
  | .bool _, _ => by simp only [SV.sub]; exact trivial
  | .str _, _ => by simp only [SV.sub]; exact trivial
  | .dat .., _ => by simp only [SV.sub]; exact trivial
  | .elt .., _ => by simp only [SV.sub]; exact trivial
  | .arrc .., _ => by simp only [SV.sub]; exact trivial
  | .nils, _ => by simp only [SV.sub]; exact trivial
  | .raw _, _ => by simp only [SV.sub]; exact trivial
  | .any, _ => by simp only [SV.sub]; exact trivial
theorem SV.subL_lt {nx n : Nat} {y : SV} (hy : y.lt nx) : ∀ {l : List SV}, SV.ltL nx l → SV.ltL nx (SV.subL n y l)
  | [], _ => by simp only [SV.subL]; exact trivial
  | x :: l, h => by simp only [SV.subL]; exact ⟨SV.sub_lt hy h.1, SV.subL_lt hy h.2⟩
end

/-- What a slice of the function's own holds becomes what no longer changes. -/
theorem Sat.frzTok {c : Ctx} {ρ : Nat → Value} {H : FH} {S : SSt} {a : Act} {w : World} (s : Sat P E c ρ H S a w) {n : Nat} {eid : TypeId} {e : Ty} {l : List D} (hn : hget S.h n = some (.arr eid e l)) :
    ∃ H', H.le H' ∧ Sat P E c ρ H' { f := Fr.sub n (.dat (.slice eid) (.list l)) S.f, h := Heap.sub n (.dat (.slice eid) (.list l)) (hdel S.h n), nx := S.nx } a w ∧ Den P E ρ H' (.dat (.slice eid) (.list l)) (ρ n) := by
    have hn' : hget (S.h ++ c.o) n = some (.arr eid e l) := by rw [hget_append, hn]
    obtain ⟨he, xs, hown, hrep, hH⟩ := (s.tok hn).1
    let H' : FH := fun b o => if blk (ρ n) = some b then xs[o]? else H b o
    have hle : H.le H' := by
      intro b o v hv
      show (if blk (ρ n) = some b then xs[o]? else H b o) = some v
      split
      · rename_i hb; rw [hH b hb o] at hv; cases hv
      · exact hv
    have hden : Den P E ρ H' (.dat (.slice eid) (.list l)) (ρ n) := by
      refine .dat rfl ?_
      rcases hown.2 with ⟨⟨a0, hv⟩, hl⟩ | ⟨g, cap, cur, hv, hg0, hh, hc1, hc2, hc3, htake⟩
      · have : l = [] := List.eq_nil_of_length_eq_zero hl
        subst this
        rw [hv]
        exact .slice (l := []) (fun _ => []) (Nat.le_refl _) (Nat.zero_le _) (fun h => absurd rfl h) (fun _ => rfl) (fun i hi => by simp at hi) (fun i hi => by simp at hi)
      · rw [hv]
        by_cases hl : l = []
        · subst hl
          exact .slice (l := []) (fun _ => []) (Nat.zero_le _) hc2 (fun h => absurd rfl h) (fun h => by cases h) (fun i hi => by simp at hi) (fun i hi => by simp at hi)
        have he := he hl
        subst he
        refine .slice (fun i => (xs.drop (i * (tyOf P 8 eid).size)).take (tyOf P 8 eid).size) hc1 hc2 (fun _ => ⟨_, rfl, rfl⟩) (fun h => by cases h) ?_ (fun i hi => Rep.mono P E hle (repL_get hrep i hi))
        intro i hi ad had j v hj
        cases had
        show (if blk (ρ n) = some g then xs[0 + i * (tyOf P 8 eid).size + j]? else _) = some v
        rw [if_pos (by rw [hv]; exact blk_slice hg0), Nat.zero_add]
        rw [List.getElem?_take] at hj
        split at hj
        · rwa [List.getElem?_drop] at hj
        · cases hj
    have hin' : FHin H' w := by
      intro b o v hv
      have hv' : (if blk (ρ n) = some b then xs[o]? else H b o) = some v := hv
      split at hv'
      · rename_i hb
        exact hown.cells hb o v hv'
      · exact s.hin b o v hv'
    have hlt : (SV.dat (.slice eid) (.list l)).lt S.nx := trivial
    have hgo : ∀ m t, hget (Heap.sub n (.dat (.slice eid) (.list l)) (hdel S.h n) ++ c.o) m = some t → m ≠ n ∧ ∃ u, hget (S.h ++ c.o) m = some u ∧ (t = u ∨ t = Tok.sub n (.dat (.slice eid) (.list l)) u) := by
      intro m t h
      rw [hget_append, hget_sub, hget_hdel] at h
      by_cases hm : n = m
      · subst hm
        simp only [if_true, Option.map_none] at h
        have := s.sep n _ hn
        rw [this] at h; cases h
      · rw [if_neg hm] at h
        refine ⟨fun e => hm e.symm, ?_⟩
        rw [hget_append]
        cases h1 : hget S.h m with
        | some u => rw [h1] at h; cases h; exact ⟨u, rfl, .inr rfl⟩
        | none => rw [h1] at h; exact ⟨t, h, .inl rfl⟩
    have hnone : ∀ m u, m ≠ n → hget (S.h ++ c.o) m = some u → ∀ b, blk (ρ m) = some b → ∀ o, H' b o = none := by
      intro m u hm h b hb o
      show (if blk (ρ n) = some b then xs[o]? else H b o) = none
      rw [if_neg (fun hc => s.hs.dis m n u _ b h hn' hm hb hc)]
      exact (tokSat_new (s.hs.tok m u h) b hb).2 o
    refine ⟨H', hle, ?_, hden⟩
    refine ⟨?_, s.sz, s.df, ⟨?_, ?_⟩, hin', s.kept, ?_, ?_, ?_, s.olt, s.nbx, ?_, fun g hg => hle _ _ _ (s.glob g hg), s.rho, FH.le_trans s.hle hle⟩
    · intro i
      rw [fget_sub]
      exact Den.sub hle hden (s.fr i)
    · intro m t h
      obtain ⟨hm, u, hu, ht⟩ := hgo m t h
      have hk := tokSat_keep (s.hs.tok m u hu) (s.hlt m u hu).1 (s.hlt m u hu).2 (ρ' := ρ) (fun _ _ => rfl) hle (w' := w) (fun _ _ => rfl) (hnone m u hm hu)
      rcases ht with rfl | rfl
      · exact hk
      · cases u with
        | arr _ _ _ => exact hk
        | map _ _ _ => exact hk
        | cells q =>
          obtain ⟨b, t, cs, h1, h2, h3, h4⟩ := s.hs.tok m _ hu
          exact ⟨b, t, cs, h1, h2, DenC.sub hle hden h3, hnone m _ hm hu b (by rw [h1]; rfl)⟩
    · intro m m' t t' b h1 h2 hne hb
      obtain ⟨_, u, hu, _⟩ := hgo m t h1
      obtain ⟨_, u', hu', _⟩ := hgo m' t' h2
      exact s.hs.dis m m' u u' b hu hu' hne hb
    · intro m t b h hb
      obtain ⟨_, u, hu, _⟩ := hgo m t h
      exact s.ownb m u b hu hb
    · intro i
      rw [fget_sub]
      exact SV.sub_lt hlt (s.flt i)
    · intro m t h
      obtain ⟨_, u, hu, ht⟩ := hgo m t h
      refine ⟨(s.hlt m u hu).1, ?_⟩
      rcases ht with rfl | rfl
      · exact (s.hlt m _ hu).2
      · cases u with
        | arr _ _ _ => exact trivial
        | map _ _ _ => exact trivial
        | cells q => exact SV.subL_lt hlt (l := q) (s.hlt m _ hu).2
    · intro m t h
      rw [hget_sub, hget_hdel] at h
      by_cases hm : n = m
      · simp [hm] at h
      · rw [if_neg hm] at h
        cases h1 : hget S.h m with
        | some u => exact s.sep m u h1
        | none => rw [h1] at h; cases h
/-- What a block of the function's own holds becomes what no longer changes. -/
theorem Sat.frzCells {c : Ctx} {ρ : Nat → Value} {H : FH} {S : SSt} {a : Act} {w : World} (s : Sat P E c ρ H S a w) {n : Nat} {eid : TypeId} {l : List SV} (hn : hget S.h n = some (.cells l)) {dd : D} (htd : toD (tyOf P 8 eid) l = some (dd, [])) :
    ∃ H', H.le H' ∧ Sat P E c ρ H' { f := Fr.sub n (.dat (.ptr eid) (.ptr dd)) S.f, h := Heap.sub n (.dat (.ptr eid) (.ptr dd)) (hdel S.h n), nx := S.nx } a w ∧ Den P E ρ H' (.dat (.ptr eid) (.ptr dd)) (ρ n) := by
    have hn' : hget (S.h ++ c.o) n = some (.cells l) := by rw [hget_append, hn]
    obtain ⟨g, tt, xs, hρ, hheap, hdc, hH0⟩ := (s.tok hn).1
    have hrep : Rep P E H (tyOf P 8 eid) dd xs := toD_all htd hdc
    have hbg : blk (ρ n) = some g := by rw [hρ]; rfl
    have hH : ∀ b, blk (ρ n) = some b → ∀ o, H b o = none := fun b hb => by rw [hbg] at hb; cases hb; exact hH0
    let H' : FH := fun b o => if blk (ρ n) = some b then xs[o]? else H b o
    have hle : H.le H' := by
      intro b o v hv
      show (if blk (ρ n) = some b then xs[o]? else H b o) = some v
      split
      · rename_i hb; rw [hH b hb o] at hv; cases hv
      · exact hv
    have hden : Den P E ρ H' (.dat (.ptr eid) (.ptr dd)) (ρ n) := by
      rw [hρ]
      refine .dat rfl (.ptr (cs := xs) rfl (fun j v hj => ?_) (Rep.mono P E hle hrep))
      show (if blk (ρ n) = some g then xs[0 + j]? else H g (0 + j)) = some v
      rw [if_pos hbg, Nat.zero_add]; exact hj
    have hin' : FHin H' w := by
      intro b o v hv
      have hv' : (if blk (ρ n) = some b then xs[o]? else H b o) = some v := hv
      split at hv'
      · rename_i hb
        rw [hbg] at hb; cases hb
        rw [cell_of_block' hheap]; simpa using hv'
      · exact s.hin b o v hv'
    have hlt : (SV.dat (.ptr eid) (.ptr dd)).lt S.nx := trivial
    have hgo : ∀ m t, hget (Heap.sub n (.dat (.ptr eid) (.ptr dd)) (hdel S.h n) ++ c.o) m = some t → m ≠ n ∧ ∃ u, hget (S.h ++ c.o) m = some u ∧ (t = u ∨ t = Tok.sub n (.dat (.ptr eid) (.ptr dd)) u) := by
      intro m t h
      rw [hget_append, hget_sub, hget_hdel] at h
      by_cases hm : n = m
      · subst hm
        simp only [if_true, Option.map_none] at h
        have := s.sep n _ hn
        rw [this] at h; cases h
      · rw [if_neg hm] at h
        refine ⟨fun e => hm e.symm, ?_⟩
        rw [hget_append]
        cases h1 : hget S.h m with
        | some u => rw [h1] at h; cases h; exact ⟨u, rfl, .inr rfl⟩
        | none => rw [h1] at h; exact ⟨t, h, .inl rfl⟩
    have hnone : ∀ m u, m ≠ n → hget (S.h ++ c.o) m = some u → ∀ b, blk (ρ m) = some b → ∀ o, H' b o = none := by
      intro m u hm h b hb o
      show (if blk (ρ n) = some b then xs[o]? else H b o) = none
      rw [if_neg (fun hc => s.hs.dis m n u _ b h hn' hm hb hc)]
      exact (tokSat_new (s.hs.tok m u h) b hb).2 o
    refine ⟨H', hle, ?_, hden⟩
    refine ⟨?_, s.sz, s.df, ⟨?_, ?_⟩, hin', s.kept, ?_, ?_, ?_, s.olt, s.nbx, ?_, fun g hg => hle _ _ _ (s.glob g hg), s.rho, FH.le_trans s.hle hle⟩
    · intro i
      rw [fget_sub]
      exact Den.sub hle hden (s.fr i)
    · intro m t h
      obtain ⟨hm, u, hu, ht⟩ := hgo m t h
      have hk := tokSat_keep (s.hs.tok m u hu) (s.hlt m u hu).1 (s.hlt m u hu).2 (ρ' := ρ) (fun _ _ => rfl) hle (w' := w) (fun _ _ => rfl) (hnone m u hm hu)
      rcases ht with rfl | rfl
      · exact hk
      · cases u with
        | arr _ _ _ => exact hk
        | map _ _ _ => exact hk
        | cells q =>
          obtain ⟨b, t, cs, h1, h2, h3, h4⟩ := s.hs.tok m _ hu
          exact ⟨b, t, cs, h1, h2, DenC.sub hle hden h3, hnone m _ hm hu b (by rw [h1]; rfl)⟩
    · intro m m' t t' b h1 h2 hne hb
      obtain ⟨_, u, hu, _⟩ := hgo m t h1
      obtain ⟨_, u', hu', _⟩ := hgo m' t' h2
      exact s.hs.dis m m' u u' b hu hu' hne hb
    · intro m t b h hb
      obtain ⟨_, u, hu, _⟩ := hgo m t h
      exact s.ownb m u b hu hb
    · intro i
      rw [fget_sub]
      exact SV.sub_lt hlt (s.flt i)
    · intro m t h
      obtain ⟨_, u, hu, ht⟩ := hgo m t h
      refine ⟨(s.hlt m u hu).1, ?_⟩
      rcases ht with rfl | rfl
      · exact (s.hlt m _ hu).2
      · cases u with
        | arr _ _ _ => exact trivial
        | map _ _ _ => exact trivial
        | cells q => exact SV.subL_lt hlt (l := q) (s.hlt m _ hu).2
    · intro m t h
      rw [hget_sub, hget_hdel] at h
      by_cases hm : n = m
      · simp [hm] at h
      · rw [if_neg hm] at h
        cases h1 : hget S.h m with
        | some u => exact s.sep m u h1
        | none => rw [h1] at h; cases h
theorem Sat.frz1 {c : Ctx} {ρ : Nat → Value} {H : FH} {S : SSt} {a : Act} {w : World} (s : Sat P E c ρ H S a w) (n : Nat) : ∃ H', H.le H' ∧ Sat P E c ρ H' (Fw.frz1 n S) a w := by
  unfold Fw.frz1
  split
  · rename_i eid e l hn
    obtain ⟨H', h1, h2, _⟩ := s.frzTok hn
    exact ⟨H', h1, h2⟩
  · exact ⟨H, FH.le_refl H, s⟩

theorem Sat.frzL {c : Ctx} {ρ : Nat → Value} : ∀ {l : List SV} {H : FH} {S : SSt} {a : Act} {w : World}, Sat P E c ρ H S a w → ∃ H', H.le H' ∧ Sat P E c ρ H' (frzL l S) a w := by
  intro l
  induction l with
  | nil => intro H S a w s; exact ⟨H, FH.le_refl H, s⟩
  | cons x l ih =>
    intro H S a w s
    have skip : Fw.frzL (x :: l) S = Fw.frzL l S → ∃ H', H.le H' ∧ Sat P E c ρ H' (Fw.frzL (x :: l) S) a w := fun e => by rw [e]; exact ih s
    cases x <;> first | (exact skip rfl) | skip
    rename_i n
    obtain ⟨H1, h1, s1⟩ := s.frz1 n
    obtain ⟨H2, h2, s2⟩ := ih s1
    exact ⟨H2, FH.le_trans h1 h2, s2⟩


theorem cell_freeze (w : World) (a : Addr) (n : Nat) (b : Addr) : (w.freeze a n).cell? b = w.cell? b := by
  unfold World.freeze
  split
  · rfl
  · simp only [World.cell?, Array.getElem?_modify]
    by_cases h : a.block = b.block
    · rw [if_pos h]
      cases hb : w.heap[b.block]? with
      | none => rfl
      | some o => cases o <;> rfl
    · rw [if_neg h]

/-- A slice of the function's own becomes what no longer changes, and its block is marked. -/
theorem Sat.frzMark {c : Ctx} {ρ : Nat → Value} {H : FH} {S : SSt} {a : Act} {w : World} (s : Sat P E c ρ H S a w) {n : Nat} {eid : TypeId} {e : Ty} {l : List D} (hn : hget S.h n = some (.arr eid e l)) {g : Nat} (hg : blk (ρ n) = some g) (ad : Addr) (had : ad.block = g) (k : Nat) :
    ∃ H', Sat P E c ρ H' (Fw.frz1 n S) a (w.freeze ad k) ∧ Den P E ρ H' (.dat (.slice eid) (.list l)) (ρ n) := by
  have hn' : hget (S.h ++ c.o) n = some (.arr eid e l) := by rw [hget_append, hn]
  obtain ⟨H', hle, s1, hden⟩ := s.frzTok hn
  have hS : Fw.frz1 n S = { f := Fr.sub n (.dat (.slice eid) (.list l)) S.f, h := Heap.sub n (.dat (.slice eid) (.list l)) (hdel S.h n), nx := S.nx } := by unfold Fw.frz1; rw [hn]
  rw [← hS] at s1
  have hother : ∀ b, b ≠ g → (w.freeze ad k).heap[b]? = w.heap[b]? := by
    intro b hb
    unfold World.freeze
    split
    · rfl
    · simp only [Array.getElem?_modify]
      rw [if_neg (by rw [had]; exact fun e => hb e.symm)]
  have hkept : Kept w (fun b => b = g) (w.freeze ad k) := by
    refine ⟨?_, ?_, ?_, ?_, fun b _ hb => hother b hb⟩ <;> (unfold World.freeze; split <;> simp)
  have hin : FHin H' (w.freeze ad k) := fun b o v hv => by rw [cell_freeze]; exact s1.hin b o v hv
  have hsub : ∀ m t, hget ((Fw.frz1 n S).h ++ c.o) m = some t → m ≠ n ∧ ∃ u, hget (S.h ++ c.o) m = some u := by
    intro m t h
    unfold Fw.frz1 at h
    rw [hn] at h
    simp only at h
    rw [hget_append, hget_sub, hget_hdel] at h
    by_cases hm : n = m
    · subst hm
      simp only [if_true, Option.map_none] at h
      have := s.sep n _ hn
      rw [this] at h; cases h
    · refine ⟨fun e => hm e.symm, ?_⟩
      rw [if_neg hm] at h
      rw [hget_append]
      cases h1 : hget S.h m with
      | some u => exact ⟨u, rfl⟩
      | none => rw [h1] at h; exact ⟨t, h⟩
  refine ⟨H', ⟨s1.fr, s1.sz, s1.df.keep (fun b o hb hod => by rw [hother b (fun e => by subst e; have := tokSat_odd (s.hs.tok n _ hn') hg hb; rw [hod] at this; cases this)]; exact hb), ⟨fun m t h => ?_, s1.hs.dis⟩, hin, s.kept.trans hkept (fun b hb => by subst hb; exact s.ownb n _ b hn' hg), s1.ownb, s1.flt, s1.hlt, s1.olt, s1.nbx, s1.sep, s1.glob, s1.rho, s1.hle⟩, hden⟩
  · obtain ⟨hm, u, hu⟩ := hsub m t h
    refine tokSat_keep (s1.hs.tok m t h) (s1.hlt m t h).1 (s1.hlt m t h).2 (fun _ _ => rfl) (FH.le_refl H') (fun b hb => hother b (fun e => ?_)) (fun b hb => (tokSat_new (s1.hs.tok m t h) b hb).2)
    subst e
    exact s.hs.dis m n u _ b hu hn' hm hb hg
end
end Go.Fw

/- The frame-work, part R: each of the machine's operations does what 'ev' says. -/
namespace Go.Fw
set_option linter.unusedVariables false
set_option linter.unusedSimpArgs false
open Go

section
variable {P : Program} {E : Nat → Value}

theorem sput_some {S S' : SSt} {d : Nat} {r : Option (Prop × SV)} {p : Prop} (h : sput S d r = some (p, S')) : ∃ v, r = some (p, v) ∧ S' = S.put d v := by
  unfold sput at h
  split at h
  · cases h; exact ⟨_, rfl, rfl⟩
  · cases h

/-- A value is told, and put. -/
theorem put_sound {c : Ctx} {ρ : Nat → Value} {H : FH} {S : SSt} {a : Act} {w : World} (s : Sat P E c ρ H S a w) {o : Oper} {d : Nat} (hd : o.dst = some d) (hdN : d < c.N) {x : SV} {K : Act → World → Prop} {Q : Exit → Act → World → Prop}
    (hK : ∀ ρ' H' a' w', Sat P E c ρ' H' (S.put d x) a' w' → K a' w') (h : ∃ u, (execOp a.eval o).run P w = .ok (.value u) w ∧ Den P E ρ H x u ∧ x.lt S.nx) : o.wp P a w K Q := by
  obtain ⟨u, h1, h2, h3⟩ := h
  exact wp_value h1 hd (hK _ _ _ _ (s.put h2 h3 hdN))

theorem eqIn_bool (d : Nat) (t : TypeId) (hu : P.underlying t = some .bool) (a b : Bool) (w : World) : (Op.equalIn (d + 1) t (.bool a) (.bool b)).run P w = .ok (a == b) w := by
  simp [Op.equalIn, Sem.run_bind, run_underlying hu, Sem.run, pure]
theorem eqIn_iface (d : Nat) (t : TypeId) {ms : Array (String × TypeId)} (hu : P.underlying t = some (.interface ms)) (v : Value) (b : Bool) (hv : (v = .nilIface ∧ b = true) ∨ (∃ t x, v = .iface t x) ∧ b = false) (w : World) : (Op.equalIn (d + 1) t v .nilIface).run P w = .ok b w := by
  rcases hv with ⟨rfl, rfl⟩ | ⟨⟨t', x, rfl⟩, rfl⟩ <;> simp [Op.equalIn, Sem.run_bind, run_underlying hu, Sem.run, pure]
theorem eqIn_ptr (d : Nat) (t : TypeId) {e : TypeId} (hu : P.underlying t = some (.pointer e)) (a : Option Addr) (w : World) : (Op.equalIn (d + 1) t (.pointer a) (.pointer none)).run P w = .ok a.isNone w := by
  cases a <;> simp [Op.equalIn, Sem.run_bind, run_underlying hu, Sem.run, pure]
theorem eqIn_slice (d : Nat) (t : TypeId) {e : TypeId} (hu : P.underlying t = some (.slice e)) (w : World) : (Op.equalIn (d + 1) t (.slice none 0 0) (.slice none 0 0)).run P w = .ok true w := by
  simp [Op.equalIn, Sem.run_bind, run_underlying hu, Sem.run, pure]
theorem equal_in (t : TypeId) (x y : Value) : Op.equal t x y = Op.equalIn (9999 + 1) t x y := rfl
theorem run_bool_eq (t : TypeId) (hu : P.underlying t = some .bool) (a b : Bool) (w : World) : (Op.equal t (.bool a) (.bool b)).run P w = .ok (a == b) w := by rw [equal_in]; exact eqIn_bool _ t hu a b w
theorem run_iface_eq (t : TypeId) {ms : Array (String × TypeId)} (hu : P.underlying t = some (.interface ms)) (v : Value) (b : Bool) (hv : (v = .nilIface ∧ b = true) ∨ (∃ t x, v = .iface t x) ∧ b = false) (w : World) : (Op.equal t v .nilIface).run P w = .ok b w := by rw [equal_in]; exact eqIn_iface _ t hu v b hv w
theorem run_ptr_eq (t : TypeId) {e : TypeId} (hu : P.underlying t = some (.pointer e)) (a : Option Addr) (w : World) : (Op.equal t (.pointer a) (.pointer none)).run P w = .ok a.isNone w := by rw [equal_in]; exact eqIn_ptr _ t hu a w
theorem run_slice_eq (t : TypeId) {e : TypeId} (hu : P.underlying t = some (.slice e)) (w : World) : (Op.equal t (.slice none 0 0) (.slice none 0 0)).run P w = .ok true w := by rw [equal_in]; exact eqIn_slice _ t hu w

theorem run_eqop {a : Act} {o : Oper} {op : BinOp} {t t' : TypeId} {x y : Operand} (ho : o.op = .binOp op t x y t') {w : World} {b : Bool} (hop : op = .eql ∨ op = .neq)
    (hc : (∃ v, y = .const v) ∨ (∃ b, a.eval x = .bool b)) (hna : ∀ cs, a.eval x ≠ .agg cs) (hni : ∀ k n, a.eval x ≠ .int k n) (hnf : ∀ k n, a.eval x ≠ .float k n) (hnc : ∀ k n m, a.eval x ≠ .complex k n m) (hns : ∀ s, a.eval x ≠ .string s)
    (h : (Op.equal t (a.eval x) (a.eval y)).run P w = .ok b w) :
    (execOp a.eval o).run P w = .ok (.value (.bool (if op == .neq then !b else b))) w := by
  simp only [execOp, ho]
  refine run_v _ w w _ ?_
  simp only [Sem.run_bind]
  have hg : (eqGuard op t x y (a.eval x) (a.eval y)).run P w = .ok () w := by
    unfold eqGuard
    rcases hop with rfl | rfl
    all_goals
      simp only [Bool.not_true, Bool.false_eq_true, if_false]
      split
      · rcases hc with ⟨v, rfl⟩ | ⟨b, hb⟩
        · simp [Sem.run, pure]
        · simp_all
      · rename_i h1 _; exact absurd h1 (hna _)
      · rfl
  rw [hg]
  simp only [Result.andThen_ok]
  generalize a.eval x = vx at *
  generalize a.eval y = vy at *
  rcases hop with rfl | rfl
  · cases vx <;> first | (exact absurd rfl (hni _ _)) | (exact absurd rfl (hnf _ _)) | (exact absurd rfl (hnc _ _ _)) | (exact absurd rfl (hns _)) | (cases vy <;> simp [binOp, Sem.run_bind, h, Sem.run, pure])
  · cases vx <;> first | (exact absurd rfl (hni _ _)) | (exact absurd rfl (hnf _ _)) | (exact absurd rfl (hnc _ _ _)) | (exact absurd rfl (hns _)) | (cases vy <;> simp [binOp, Sem.run_bind, h, Sem.run, pure])

/-- What is asked of the errors that are known. -/
def Errs (E : Nat → Value) : Prop := ∀ k, ∃ t x, E k = .iface t x
theorem Errs.one (h : Errs E) (k : Nat) : (E k).oneCell' = true := by obtain ⟨t, x, e⟩ := h k; rw [e]; rfl

theorem nil_sound (hE : Errs E) {ρ : Nat → Value} {H : FH} {a : Act} {w : World} {o : Oper} {op : BinOp} {t t' : TypeId} {x0 y0 : Operand} (ho : o.op = .binOp op t x0 y0 t') (hop : op = .eql ∨ op = .neq) {kind : Nat} {x : SV} {b : Bool}
    (hk : (kind = 0 ∧ y0 = .const .nilIface ∧ ∃ ms, P.underlying t = some (.interface ms)) ∨ (kind = 1 ∧ y0 = .const (.pointer none) ∧ ∃ e, P.underlying t = some (.pointer e)) ∨ (kind = 2 ∧ y0 = .const (.slice none 0 0) ∧ ∃ e, P.underlying t = some (.slice e)))
    (h : evNil kind x = some b) (hx : Den P E ρ H x (a.eval x0)) : (execOp a.eval o).run P w = .ok (.value (.bool (if op == .neq then !b else b))) w := by
  have key : ∀ vx, a.eval x0 = vx → (∀ cs, vx ≠ .agg cs) → (∀ k n, vx ≠ .int k n) → (∀ k n, vx ≠ .float k n) → (∀ k n m, vx ≠ .complex k n m) → (∀ s, vx ≠ .string s) → (∃ v, y0 = .const v) → (Op.equal t vx (a.eval y0)).run P w = .ok b w →
      (execOp a.eval o).run P w = .ok (.value (.bool (if op == .neq then !b else b))) w := by
    intro vx hv h1 h2 h3 h4 h5 h6 h7
    subst hv
    exact run_eqop ho hop (.inl h6) h1 h2 h3 h4 h5 h7
  unfold evNil at h
  split at h
  · cases h
    rcases hk with ⟨_, rfl, ms, hu⟩ | ⟨h0, _⟩ | ⟨h0, _⟩
    · generalize hv : a.eval x0 = vx at hx
      cases hx with | dat _ hr =>
      cases hr with
      | inil => exact key _ hv (by simp) (by simp) (by simp) (by simp) (by simp) ⟨_, rfl⟩ (run_iface_eq t hu _ _ (.inl ⟨rfl, rfl⟩) w)
      | err =>
        rename_i k
        obtain ⟨t1, x1, e1⟩ := hE k
        rw [e1] at hv
        exact key _ hv (by simp) (by simp) (by simp) (by simp) (by simp) ⟨_, rfl⟩ (run_iface_eq t hu _ _ (.inr ⟨⟨_, _, rfl⟩, rfl⟩) w)
      | ifc _ => exact key _ hv (by simp) (by simp) (by simp) (by simp) (by simp) ⟨_, rfl⟩ (run_iface_eq t hu _ _ (.inr ⟨⟨_, _, rfl⟩, rfl⟩) w)
    · cases h0
    · cases h0
  · cases h
    rcases hk with ⟨_, rfl, ms, hu⟩ | ⟨h0, _⟩ | ⟨h0, _⟩
    · generalize hv : a.eval x0 = vx at hx
      cases hx with | ifc _ =>
      exact key _ hv (by simp) (by simp) (by simp) (by simp) (by simp) ⟨_, rfl⟩ (run_iface_eq t hu _ _ (.inr ⟨⟨_, _, rfl⟩, rfl⟩) w)
    · cases h0
    · cases h0
  · cases h
    rcases hk with ⟨h0, _⟩ | ⟨_, rfl, e, hu⟩ | ⟨h0, _⟩
    · cases h0
    · generalize hv : a.eval x0 = vx at hx
      cases hx with | dat _ hr =>
      cases hr with
      | pnil => exact key _ hv (by simp) (by simp) (by simp) (by simp) (by simp) ⟨_, rfl⟩ (run_ptr_eq t hu _ w)
      | ptr _ _ _ => exact key _ hv (by simp) (by simp) (by simp) (by simp) (by simp) ⟨_, rfl⟩ (run_ptr_eq t hu _ w)
    · cases h0
  · cases h
    rcases hk with ⟨h0, _⟩ | ⟨_, rfl, e, hu⟩ | ⟨h0, _⟩
    · cases h0
    · generalize hv : a.eval x0 = vx at hx
      cases hx with | ptr _ =>
      exact key _ hv (by simp) (by simp) (by simp) (by simp) (by simp) ⟨_, rfl⟩ (run_ptr_eq t hu _ w)
    · cases h0
  · cases h
    rcases hk with ⟨h0, _⟩ | ⟨_, rfl, e, hu⟩ | ⟨h0, _⟩
    · cases h0
    · generalize hv : a.eval x0 = vx at hx
      cases hx with | elt _ _ _ =>
      exact key _ hv (by simp) (by simp) (by simp) (by simp) (by simp) ⟨_, rfl⟩ (run_ptr_eq t hu _ w)
    · cases h0
  · cases h
    rcases hk with ⟨h0, _⟩ | ⟨_, rfl, e, hu⟩ | ⟨h0, _⟩
    · cases h0
    · generalize hv : a.eval x0 = vx at hx
      cases hx with | raw _ =>
      exact key _ hv (by simp) (by simp) (by simp) (by simp) (by simp) ⟨_, rfl⟩ (run_ptr_eq t hu _ w)
    · cases h0
  · cases h
    rcases hk with ⟨h0, _⟩ | ⟨h0, _⟩ | ⟨_, rfl, e, hu⟩
    · cases h0
    · cases h0
    · generalize hv : a.eval x0 = vx at hx
      cases hx with | nils =>
      exact key _ hv (by simp) (by simp) (by simp) (by simp) (by simp) ⟨_, rfl⟩ (run_slice_eq t hu w)
  · cases h

/-- Two values held against each other, or reckoned with. -/
theorem bin_sound (hE : Errs E) {c : Ctx} {ρ : Nat → Value} {H : FH} {S : SSt} {a : Act} {w : World} (s : Sat P E c ρ H S a w) {o : Oper} {d : Nat} (hd : o.dst = some d) (hdN : d < c.N) {W : Opts} {op : BinOp} {t t' : TypeId} {x y : Operand} (ho : o.op = .binOp op t x y t') {x' y' : Opd} (hx : cOpd x = some x') (hy : cOpd y = some y')
    {i : IOp} (hc : compBin P W op t y d x' y' = some i) {p : Prop} {S' : SSt} (h : ev i S = some (p, S')) (hp : p) {K : Act → World → Prop} {Q : Exit → Act → World → Prop} (hK : ∀ ρ' H' a' w', Sat P E c ρ' H' S' a' w' → K a' w') : o.wp P a w K Q := by
  have sx := s.opd hx
  have sy := s.opd hy
  unfold compBin at hc
  split at hc
  · -- whole numbers
    rename_i k hu
    have fin : ∀ v, S' = S.put d v → (∃ u, (binOp op t (a.eval x) (a.eval y)).run P w = .ok u w ∧ Den P E ρ H v u ∧ (∀ n, v.lt n) ∧ ∃ k n, a.eval x = .int k n) → o.wp P a w K Q := by
      rintro v rfl ⟨u, h1, h2, h3, h4⟩
      exact put_sound s hd hdN hK ⟨u, run_binop_int ho h4 h1, h2, h3 _⟩
    split at hc
    all_goals (first | (split at hc <;> (cases hc; simp only [ev] at h; obtain ⟨v, h1, h2⟩ := sput_some h; first | exact fin v h2 (run_bin h1 hp sx.1 sy.1 t w) | exact fin v h2 (run_wrp h1 sx.1 sy.1 t w))) | (cases hc; simp only [ev] at h; obtain ⟨v, h1, h2⟩ := sput_some h; first | exact fin v h2 (run_shf h1 hp sx.1 sy.1 t w) | exact fin v h2 (run_cmp h1 sx.1 sy.1 t w) | exact fin v h2 (run_bin h1 hp sx.1 sy.1 t w)))
  · -- truth values
    rename_i hu
    have fin : ∀ neg, (op = .eql ∧ neg = false ∨ op = .neq ∧ neg = true) → ev (.beq d neg x' y') S = some (p, S') → o.wp P a w K Q := by
      intro neg hop h
      simp only [ev] at h
      split at h
      · rename_i b hb
        cases h
        unfold evBeq at hb
        split at hb
        · rename_i b1 b2 e1 e2
          cases hb
          rw [e1] at sx
          rw [e2] at sy
          obtain ⟨sx, _⟩ := sx
          obtain ⟨sy, _⟩ := sy
          generalize hvx : a.eval x = vx at sx
          generalize hvy : a.eval y = vy at sy
          cases sx with | bool =>
          cases sy with | bool =>
          have := run_eqop (P := P) (w := w) (b := b1 == b2) ho (by rcases hop with ⟨h, _⟩ | ⟨h, _⟩; exact .inl h; exact .inr h) (.inr ⟨_, hvx⟩) (by rw [hvx]; simp) (by rw [hvx]; simp) (by rw [hvx]; simp) (by rw [hvx]; simp) (by rw [hvx]; simp) (by rw [hvx, hvy]; exact run_bool_eq t hu _ _ w)
          refine put_sound s hd hdN hK ⟨_, this, ?_, trivial⟩
          rcases hop with ⟨rfl, rfl⟩ | ⟨rfl, rfl⟩ <;> exact .bool
        · cases hb
      · cases h
    split at hc
    · cases hc; exact fin false (.inl ⟨rfl, rfl⟩) h
    · cases hc; exact fin true (.inr ⟨rfl, rfl⟩) h
    · cases hc
  all_goals try (cases hc; done)
  all_goals
    rename_i hu
    have fin : ∀ neg kind, (op = .eql ∧ neg = false ∨ op = .neq ∧ neg = true) → ((kind = 0 ∧ y = .const .nilIface ∧ ∃ ms, P.underlying t = some (.interface ms)) ∨ (kind = 1 ∧ y = .const (.pointer none) ∧ ∃ e, P.underlying t = some (.pointer e)) ∨ (kind = 2 ∧ y = .const (.slice none 0 0) ∧ ∃ e, P.underlying t = some (.slice e))) →
        ev (.eqb d neg kind x') S = some (p, S') → o.wp P a w K Q := by
      intro neg kind hop hk h
      simp only [ev] at h
      split at h
      · rename_i b hb
        cases h
        have := nil_sound (P := P) (w := w) hE ho (by rcases hop with ⟨h, _⟩ | ⟨h, _⟩; exact .inl h; exact .inr h) hk hb sx.1
        refine put_sound s hd hdN hK ⟨_, this, ?_, trivial⟩
        rcases hop with ⟨rfl, rfl⟩ | ⟨rfl, rfl⟩ <;> exact .bool
      · cases h
    split at hc
    · cases hc; first | (simp [ev] at h; done) | exact fin _ _ (.inl ⟨rfl, rfl⟩) (by first | exact .inl ⟨rfl, rfl, _, hu⟩ | exact .inr (.inl ⟨rfl, rfl, _, hu⟩) | exact .inr (.inr ⟨rfl, rfl, _, hu⟩)) h
    · cases hc; first | (simp [ev] at h; done) | exact fin _ _ (.inr ⟨rfl, rfl⟩) (by first | exact .inl ⟨rfl, rfl, _, hu⟩ | exact .inr (.inl ⟨rfl, rfl, _, hu⟩) | exact .inr (.inr ⟨rfl, rfl, _, hu⟩)) h
    · cases hc
end
end Go.Fw
