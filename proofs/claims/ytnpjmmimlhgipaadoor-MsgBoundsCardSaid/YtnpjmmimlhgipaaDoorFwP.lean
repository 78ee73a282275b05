/- The frame-work, part P: what is owned becomes what no longer changes. -/
import Derived.Test.YtnpjmmimlhgipaaDoorFwQ
namespace Go.Fw
set_option linter.unusedVariables false
set_option linter.unusedSimpArgs false
open Go

section
variable {P : Program} {E : Nat → Value}

theorem fget_sub {n : Nat} {y : SV} {f : Fr} {i : Nat} : fget (Fr.sub n y f) i = SV.sub n y (fget f i) := by
  induction f with
  | nil => simp [Fr.sub, fget, SV.sub]
  | cons p f ih =>
    obtain ⟨j, x⟩ := p
    simp only [Fr.sub, fget]
    split
    · rfl
    · exact ih
theorem hget_sub {n : Nat} {y : SV} {h : Heap} {m : Nat} : hget (Heap.sub n y h) m = (hget h m).map (Tok.sub n y) := by
  induction h with
  | nil => rfl
  | cons p h ih =>
    obtain ⟨k, t⟩ := p
    simp only [Heap.sub, hget]
    split
    · rfl
    · exact ih

mutual
theorem SV.sub_lt {nx n : Nat} {y : SV} (hy : y.lt nx) : ∀ {x : SV}, x.lt nx → (SV.sub n y x).lt nx
  | .vec m, h => by simp only [SV.sub]; split; exact hy; exact h
  | .ptr m o, h => by simp only [SV.sub]; split; (split; exact hy; exact trivial); exact h
  | .eltv .., h => by simp only [SV.sub]; split; exact trivial; exact h
  | .eltc .., h => by simp only [SV.sub]; split; exact trivial; exact h
  | .agg l, h => by simp only [SV.sub]; exact SV.subL_lt hy (l := l) h
  | .tup l, h => by simp only [SV.sub]; exact SV.subL_lt hy (l := l) h
  | .clo f l, h => by simp only [SV.sub]; exact SV.subL_lt hy (l := l) h
  | .ifc t x, h => by simp only [SV.sub]; exact SV.sub_lt hy (x := x) h
  | .int .., _ => by simp only [SV.sub]; exact trivial
  | .bool _, _ => by simp only [SV.sub]; exact trivial
  | .str _, _ => by simp only [SV.sub]; exact trivial
  | .dat .., _ => by simp only [SV.sub]; exact trivial
  | .elt .., _ => by simp only [SV.sub]; exact trivial
  | .arrc .., _ => by simp only [SV.sub]; exact trivial
  | .nils, _ => by simp only [SV.sub]; exact trivial
  | .raw _, _ => by simp only [SV.sub]; exact trivial
  | .any, _ => by simp only [SV.sub]; exact trivial
theorem SV.subL_lt {nx n : Nat} {y : SV} (hy : y.lt nx) : ∀ {l : List SV}, SV.ltL nx l → SV.ltL nx (SV.subL n y l)
  | [], _ => by simp only [SV.subL]; exact trivial
  | x :: l, h => by simp only [SV.subL]; exact ⟨SV.sub_lt hy h.1, SV.subL_lt hy h.2⟩
end

/-- What a slice of the function's own holds becomes what no longer changes. -/
theorem Sat.frzTok {c : Ctx} {ρ : Nat → Value} {H : FH} {S : SSt} {a : Act} {w : World} (s : Sat P E c ρ H S a w) {n : Nat} {eid : TypeId} {e : Ty} {l : List D} (hn : hget S.h n = some (.arr eid e l)) :
    ∃ H', H.le H' ∧ Sat P E c ρ H' { f := Fr.sub n (.dat (.slice eid) (.list l)) S.f, h := Heap.sub n (.dat (.slice eid) (.list l)) (hdel S.h n), nx := S.nx } a w ∧ Den P E ρ H' (.dat (.slice eid) (.list l)) (ρ n) := by
    have hn' : hget (S.h ++ c.o) n = some (.arr eid e l) := by rw [hget_append, hn]
    obtain ⟨he, xs, hown, hrep, hH⟩ := (s.tok hn).1
    let H' : FH := fun b o => if blk (ρ n) = some b then xs[o]? else H b o
    have hle : H.le H' := by
      intro b o v hv
      show (if blk (ρ n) = some b then xs[o]? else H b o) = some v
      split
      · rename_i hb; rw [hH b hb o] at hv; cases hv
      · exact hv
    have hden : Den P E ρ H' (.dat (.slice eid) (.list l)) (ρ n) := by
      refine .dat rfl ?_
      rcases hown.2 with ⟨⟨a0, hv⟩, hl⟩ | ⟨g, cap, cur, hv, hg0, hh, hc1, hc2, hc3, htake⟩
      · have : l = [] := List.eq_nil_of_length_eq_zero hl
        subst this
        rw [hv]
        exact .slice (l := []) (fun _ => []) (Nat.le_refl _) (Nat.zero_le _) (fun h => absurd rfl h) (fun _ => rfl) (fun i hi => by simp at hi) (fun i hi => by simp at hi)
      · rw [hv]
        by_cases hl : l = []
        · subst hl
          exact .slice (l := []) (fun _ => []) (Nat.zero_le _) hc2 (fun h => absurd rfl h) (fun h => by cases h) (fun i hi => by simp at hi) (fun i hi => by simp at hi)
        have he := he hl
        subst he
        refine .slice (fun i => (xs.drop (i * (tyOf P 8 eid).size)).take (tyOf P 8 eid).size) hc1 hc2 (fun _ => ⟨_, rfl, rfl⟩) (fun h => by cases h) ?_ (fun i hi => Rep.mono P E hle (repL_get hrep i hi))
        intro i hi ad had j v hj
        cases had
        show (if blk (ρ n) = some g then xs[0 + i * (tyOf P 8 eid).size + j]? else _) = some v
        rw [if_pos (by rw [hv]; exact blk_slice hg0), Nat.zero_add]
        rw [List.getElem?_take] at hj
        split at hj
        · rwa [List.getElem?_drop] at hj
        · cases hj
    have hin' : FHin H' w := by
      intro b o v hv
      have hv' : (if blk (ρ n) = some b then xs[o]? else H b o) = some v := hv
      split at hv'
      · rename_i hb
        exact hown.cells hb o v hv'
      · exact s.hin b o v hv'
    have hlt : (SV.dat (.slice eid) (.list l)).lt S.nx := trivial
    have hgo : ∀ m t, hget (Heap.sub n (.dat (.slice eid) (.list l)) (hdel S.h n) ++ c.o) m = some t → m ≠ n ∧ ∃ u, hget (S.h ++ c.o) m = some u ∧ (t = u ∨ t = Tok.sub n (.dat (.slice eid) (.list l)) u) := by
      intro m t h
      rw [hget_append, hget_sub, hget_hdel] at h
      by_cases hm : n = m
      · subst hm
        simp only [if_true, Option.map_none] at h
        have := s.sep n _ hn
        rw [this] at h; cases h
      · rw [if_neg hm] at h
        refine ⟨fun e => hm e.symm, ?_⟩
        rw [hget_append]
        cases h1 : hget S.h m with
        | some u => rw [h1] at h; cases h; exact ⟨u, rfl, .inr rfl⟩
        | none => rw [h1] at h; exact ⟨t, h, .inl rfl⟩
    have hnone : ∀ m u, m ≠ n → hget (S.h ++ c.o) m = some u → ∀ b, blk (ρ m) = some b → ∀ o, H' b o = none := by
      intro m u hm h b hb o
      show (if blk (ρ n) = some b then xs[o]? else H b o) = none
      rw [if_neg (fun hc => s.hs.dis m n u _ b h hn' hm hb hc)]
      exact (tokSat_new (s.hs.tok m u h) b hb).2 o
    refine ⟨H', hle, ?_, hden⟩
    refine ⟨?_, s.sz, s.df, ⟨?_, ?_⟩, hin', s.kept, ?_, ?_, ?_, s.olt, s.nbx, ?_, fun g hg => hle _ _ _ (s.glob g hg), s.rho, FH.le_trans s.hle hle⟩
    · intro i
      rw [fget_sub]
      exact Den.sub hle hden (s.fr i)
    · intro m t h
      obtain ⟨hm, u, hu, ht⟩ := hgo m t h
      have hk := tokSat_keep (s.hs.tok m u hu) (s.hlt m u hu).1 (s.hlt m u hu).2 (ρ' := ρ) (fun _ _ => rfl) hle (w' := w) (fun _ _ => rfl) (hnone m u hm hu)
      rcases ht with rfl | rfl
      · exact hk
      · cases u with
        | arr _ _ _ => exact hk
        | map _ _ _ => exact hk
        | cells q =>
          obtain ⟨b, t, cs, h1, h2, h3, h4⟩ := s.hs.tok m _ hu
          exact ⟨b, t, cs, h1, h2, DenC.sub hle hden h3, hnone m _ hm hu b (by rw [h1]; rfl)⟩
    · intro m m' t t' b h1 h2 hne hb
      obtain ⟨_, u, hu, _⟩ := hgo m t h1
      obtain ⟨_, u', hu', _⟩ := hgo m' t' h2
      exact s.hs.dis m m' u u' b hu hu' hne hb
    · intro m t b h hb
      obtain ⟨_, u, hu, _⟩ := hgo m t h
      exact s.ownb m u b hu hb
    · intro i
      rw [fget_sub]
      exact SV.sub_lt hlt (s.flt i)
    · intro m t h
      obtain ⟨_, u, hu, ht⟩ := hgo m t h
      refine ⟨(s.hlt m u hu).1, ?_⟩
      rcases ht with rfl | rfl
      · exact (s.hlt m _ hu).2
      · cases u with
        | arr _ _ _ => exact trivial
        | map _ _ _ => exact trivial
        | cells q => exact SV.subL_lt hlt (l := q) (s.hlt m _ hu).2
    · intro m t h
      rw [hget_sub, hget_hdel] at h
      by_cases hm : n = m
      · simp [hm] at h
      · rw [if_neg hm] at h
        cases h1 : hget S.h m with
        | some u => exact s.sep m u h1
        | none => rw [h1] at h; cases h
/-- What a block of the function's own holds becomes what no longer changes. -/
theorem Sat.frzCells {c : Ctx} {ρ : Nat → Value} {H : FH} {S : SSt} {a : Act} {w : World} (s : Sat P E c ρ H S a w) {n : Nat} {eid : TypeId} {l : List SV} (hn : hget S.h n = some (.cells l)) {dd : D} (htd : toD (tyOf P 8 eid) l = some (dd, [])) :
    ∃ H', H.le H' ∧ Sat P E c ρ H' { f := Fr.sub n (.dat (.ptr eid) (.ptr dd)) S.f, h := Heap.sub n (.dat (.ptr eid) (.ptr dd)) (hdel S.h n), nx := S.nx } a w ∧ Den P E ρ H' (.dat (.ptr eid) (.ptr dd)) (ρ n) := by
    have hn' : hget (S.h ++ c.o) n = some (.cells l) := by rw [hget_append, hn]
    obtain ⟨g, tt, xs, hρ, hheap, hdc, hH0⟩ := (s.tok hn).1
    have hrep : Rep P E H (tyOf P 8 eid) dd xs := toD_all htd hdc
    have hbg : blk (ρ n) = some g := by rw [hρ]; rfl
    have hH : ∀ b, blk (ρ n) = some b → ∀ o, H b o = none := fun b hb => by rw [hbg] at hb; cases hb; exact hH0
    let H' : FH := fun b o => if blk (ρ n) = some b then xs[o]? else H b o
    have hle : H.le H' := by
      intro b o v hv
      show (if blk (ρ n) = some b then xs[o]? else H b o) = some v
      split
      · rename_i hb; rw [hH b hb o] at hv; cases hv
      · exact hv
    have hden : Den P E ρ H' (.dat (.ptr eid) (.ptr dd)) (ρ n) := by
      rw [hρ]
      refine .dat rfl (.ptr (cs := xs) rfl (fun j v hj => ?_) (Rep.mono P E hle hrep))
      show (if blk (ρ n) = some g then xs[0 + j]? else H g (0 + j)) = some v
      rw [if_pos hbg, Nat.zero_add]; exact hj
    have hin' : FHin H' w := by
      intro b o v hv
      have hv' : (if blk (ρ n) = some b then xs[o]? else H b o) = some v := hv
      split at hv'
      · rename_i hb
        rw [hbg] at hb; cases hb
        rw [cell_of_block' hheap]; simpa using hv'
      · exact s.hin b o v hv'
    have hlt : (SV.dat (.ptr eid) (.ptr dd)).lt S.nx := trivial
    have hgo : ∀ m t, hget (Heap.sub n (.dat (.ptr eid) (.ptr dd)) (hdel S.h n) ++ c.o) m = some t → m ≠ n ∧ ∃ u, hget (S.h ++ c.o) m = some u ∧ (t = u ∨ t = Tok.sub n (.dat (.ptr eid) (.ptr dd)) u) := by
      intro m t h
      rw [hget_append, hget_sub, hget_hdel] at h
      by_cases hm : n = m
      · subst hm
        simp only [if_true, Option.map_none] at h
        have := s.sep n _ hn
        rw [this] at h; cases h
      · rw [if_neg hm] at h
        refine ⟨fun e => hm e.symm, ?_⟩
        rw [hget_append]
        cases h1 : hget S.h m with
        | some u => rw [h1] at h; cases h; exact ⟨u, rfl, .inr rfl⟩
        | none => rw [h1] at h; exact ⟨t, h, .inl rfl⟩
    have hnone : ∀ m u, m ≠ n → hget (S.h ++ c.o) m = some u → ∀ b, blk (ρ m) = some b → ∀ o, H' b o = none := by
      intro m u hm h b hb o
      show (if blk (ρ n) = some b then xs[o]? else H b o) = none
      rw [if_neg (fun hc => s.hs.dis m n u _ b h hn' hm hb hc)]
      exact (tokSat_new (s.hs.tok m u h) b hb).2 o
    refine ⟨H', hle, ?_, hden⟩
    refine ⟨?_, s.sz, s.df, ⟨?_, ?_⟩, hin', s.kept, ?_, ?_, ?_, s.olt, s.nbx, ?_, fun g hg => hle _ _ _ (s.glob g hg), s.rho, FH.le_trans s.hle hle⟩
    · intro i
      rw [fget_sub]
      exact Den.sub hle hden (s.fr i)
    · intro m t h
      obtain ⟨hm, u, hu, ht⟩ := hgo m t h
      have hk := tokSat_keep (s.hs.tok m u hu) (s.hlt m u hu).1 (s.hlt m u hu).2 (ρ' := ρ) (fun _ _ => rfl) hle (w' := w) (fun _ _ => rfl) (hnone m u hm hu)
      rcases ht with rfl | rfl
      · exact hk
      · cases u with
        | arr _ _ _ => exact hk
        | map _ _ _ => exact hk
        | cells q =>
          obtain ⟨b, t, cs, h1, h2, h3, h4⟩ := s.hs.tok m _ hu
          exact ⟨b, t, cs, h1, h2, DenC.sub hle hden h3, hnone m _ hm hu b (by rw [h1]; rfl)⟩
    · intro m m' t t' b h1 h2 hne hb
      obtain ⟨_, u, hu, _⟩ := hgo m t h1
      obtain ⟨_, u', hu', _⟩ := hgo m' t' h2
      exact s.hs.dis m m' u u' b hu hu' hne hb
    · intro m t b h hb
      obtain ⟨_, u, hu, _⟩ := hgo m t h
      exact s.ownb m u b hu hb
    · intro i
      rw [fget_sub]
      exact SV.sub_lt hlt (s.flt i)
    · intro m t h
      obtain ⟨_, u, hu, ht⟩ := hgo m t h
      refine ⟨(s.hlt m u hu).1, ?_⟩
      rcases ht with rfl | rfl
      · exact (s.hlt m _ hu).2
      · cases u with
        | arr _ _ _ => exact trivial
        | map _ _ _ => exact trivial
        | cells q => exact SV.subL_lt hlt (l := q) (s.hlt m _ hu).2
    · intro m t h
      rw [hget_sub, hget_hdel] at h
      by_cases hm : n = m
      · simp [hm] at h
      · rw [if_neg hm] at h
        cases h1 : hget S.h m with
        | some u => exact s.sep m u h1
        | none => rw [h1] at h; cases h
theorem Sat.frz1 {c : Ctx} {ρ : Nat → Value} {H : FH} {S : SSt} {a : Act} {w : World} (s : Sat P E c ρ H S a w) (n : Nat) : ∃ H', H.le H' ∧ Sat P E c ρ H' (Fw.frz1 n S) a w := by
  unfold Fw.frz1
  split
  · rename_i eid e l hn
    obtain ⟨H', h1, h2, _⟩ := s.frzTok hn
    exact ⟨H', h1, h2⟩
  · exact ⟨H, FH.le_refl H, s⟩

theorem Sat.frzL {c : Ctx} {ρ : Nat → Value} : ∀ {l : List SV} {H : FH} {S : SSt} {a : Act} {w : World}, Sat P E c ρ H S a w → ∃ H', H.le H' ∧ Sat P E c ρ H' (frzL l S) a w := by
  intro l
  induction l with
  | nil => intro H S a w s; exact ⟨H, FH.le_refl H, s⟩
  | cons x l ih =>
    intro H S a w s
    have skip : Fw.frzL (x :: l) S = Fw.frzL l S → ∃ H', H.le H' ∧ Sat P E c ρ H' (Fw.frzL (x :: l) S) a w := fun e => by rw [e]; exact ih s
    cases x <;> first | (exact skip rfl) | skip
    rename_i n
    obtain ⟨H1, h1, s1⟩ := s.frz1 n
    obtain ⟨H2, h2, s2⟩ := ih s1
    exact ⟨H2, FH.le_trans h1 h2, s2⟩


theorem cell_freeze (w : World) (a : Addr) (n : Nat) (b : Addr) : (w.freeze a n).cell? b = w.cell? b := by
  unfold World.freeze
  split
  · rfl
  · simp only [World.cell?, Array.getElem?_modify]
    by_cases h : a.block = b.block
    · rw [if_pos h]
      cases hb : w.heap[b.block]? with
      | none => rfl
      | some o => cases o <;> rfl
    · rw [if_neg h]

/-- A slice of the function's own becomes what no longer changes, and its block is marked. -/
theorem Sat.frzMark {c : Ctx} {ρ : Nat → Value} {H : FH} {S : SSt} {a : Act} {w : World} (s : Sat P E c ρ H S a w) {n : Nat} {eid : TypeId} {e : Ty} {l : List D} (hn : hget S.h n = some (.arr eid e l)) {g : Nat} (hg : blk (ρ n) = some g) (ad : Addr) (had : ad.block = g) (k : Nat) :
    ∃ H', Sat P E c ρ H' (Fw.frz1 n S) a (w.freeze ad k) ∧ Den P E ρ H' (.dat (.slice eid) (.list l)) (ρ n) := by
  have hn' : hget (S.h ++ c.o) n = some (.arr eid e l) := by rw [hget_append, hn]
  obtain ⟨H', hle, s1, hden⟩ := s.frzTok hn
  have hS : Fw.frz1 n S = { f := Fr.sub n (.dat (.slice eid) (.list l)) S.f, h := Heap.sub n (.dat (.slice eid) (.list l)) (hdel S.h n), nx := S.nx } := by unfold Fw.frz1; rw [hn]
  rw [← hS] at s1
  have hother : ∀ b, b ≠ g → (w.freeze ad k).heap[b]? = w.heap[b]? := by
    intro b hb
    unfold World.freeze
    split
    · rfl
    · simp only [Array.getElem?_modify]
      rw [if_neg (by rw [had]; exact fun e => hb e.symm)]
  have hkept : Kept w (fun b => b = g) (w.freeze ad k) := by
    refine ⟨?_, ?_, ?_, ?_, fun b _ hb => hother b hb⟩ <;> (unfold World.freeze; split <;> simp)
  have hin : FHin H' (w.freeze ad k) := fun b o v hv => by rw [cell_freeze]; exact s1.hin b o v hv
  have hsub : ∀ m t, hget ((Fw.frz1 n S).h ++ c.o) m = some t → m ≠ n ∧ ∃ u, hget (S.h ++ c.o) m = some u := by
    intro m t h
    unfold Fw.frz1 at h
    rw [hn] at h
    simp only at h
    rw [hget_append, hget_sub, hget_hdel] at h
    by_cases hm : n = m
    · subst hm
      simp only [if_true, Option.map_none] at h
      have := s.sep n _ hn
      rw [this] at h; cases h
    · refine ⟨fun e => hm e.symm, ?_⟩
      rw [if_neg hm] at h
      rw [hget_append]
      cases h1 : hget S.h m with
      | some u => exact ⟨u, rfl⟩
      | none => rw [h1] at h; exact ⟨t, h⟩
  refine ⟨H', ⟨s1.fr, s1.sz, s1.df, ⟨fun m t h => ?_, s1.hs.dis⟩, hin, s.kept.trans hkept (fun b hb => by subst hb; exact s.ownb n _ b hn' hg), s1.ownb, s1.flt, s1.hlt, s1.olt, s1.nbx, s1.sep, s1.glob, s1.rho, s1.hle⟩, hden⟩
  · obtain ⟨hm, u, hu⟩ := hsub m t h
    refine tokSat_keep (s1.hs.tok m t h) (s1.hlt m t h).1 (s1.hlt m t h).2 (fun _ _ => rfl) (FH.le_refl H') (fun b hb => hother b (fun e => ?_)) (fun b hb => (tokSat_new (s1.hs.tok m t h) b hb).2)
    subst e
    exact s.hs.dis m n u _ b hu hn' hm hb hg
end
end Go.Fw
