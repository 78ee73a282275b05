/- The frame-work, part D: fewer things told; what is owned becomes what no longer changes. -/
import Derived.Test.YtnpjmmimlhgipaaDoorFwC
namespace Go.Fw
set_option linter.unusedVariables false
set_option linter.unusedSimpArgs false
open Go

section
variable {P : Program} {E : Nat → Value}

theorem Sat.weaken {c : Ctx} {ρ : Nat → Value} {H : FH} {π : Nat → Nat} {S S' : SSt} {a : Act} {w : World} (s : Sat P E c ρ H S a w) (l : Le c π S S') : Sat P E c (fun n => ρ (π n)) H S' a w := by
  have hS : ∀ n t, hget S'.h n = some t → hget (S.h ++ c.o) (π n) = some (t.ren π) := fun n t h => by rw [hget_append, l.h n t h]
  have hO : ∀ n t, hget S'.h n = none → hget (S'.h ++ c.o) n = some t → hget c.o n = some t ∧ hget (S.h ++ c.o) n = some t ∧ π n = n := by
    intro n t h0 h
    rw [hget_append, h0] at h
    have hn := (s.olt n t h).1
    refine ⟨h, ?_, l.id n hn⟩
    rw [hget_append]
    cases h1 : hget S.h n with
    | none => exact h
    | some u => have h2 := s.sep n u h1; have h3 : hget c.o n = some t := h; rw [h3] at h2; cases h2
  have hsep : ∀ n t, hget S'.h n = some t → hget c.o n = none := by
    intro n t h
    cases h0 : hget c.o n with
    | none => rfl
    | some u =>
      have hn := (s.olt n u h0).1
      have h1 := l.h n t h
      rw [l.id n hn] at h1
      have := s.sep n _ h1
      rw [h0] at this; cases this
  refine ⟨?_, s.sz, s.df, ⟨?_, ?_⟩, s.hin, s.kept, ?_, l.flt, ?_, s.olt, l.nbx, hsep, s.glob, fun n hn => (congrArg ρ (l.id n hn)).trans (s.rho n hn), s.hle⟩
  · intro i
    rcases l.f i with h | h
    · exact Den.unren (by rw [h]; exact s.fr i)
    · rw [h]; exact .any
  · intro n t h
    cases h0 : hget S'.h n with
    | some u =>
      have h' : some u = some t := by rw [hget_append, h0] at h; exact h
      cases h'
      exact TokSat.unren (s.hs.tok _ _ (hS n _ h0))
    | none =>
      obtain ⟨h1, h2, h3⟩ := hO n t h0 h
      have hl := s.olt n t h1
      exact tokSat_keep (ρ := ρ) (s.hs.tok n t h2) hl.1 hl.2 (fun m hm => by rw [l.id m hm]) (FH.le_refl H) (fun _ _ => rfl) (fun b hb => (tokSat_new (s.hs.tok n t h2) b hb).2)
  · intro n m t u b h1 h2 hne hb
    cases hn : hget S'.h n with
    | some t' =>
      cases hm : hget S'.h m with
      | some u' => exact s.hs.dis (π n) (π m) _ _ b (hS n t' hn) (hS m u' hm) (l.inj n m t' u' hn hm hne) hb
      | none =>
        obtain ⟨h3, h4, h5⟩ := hO m u hm h2
        show blk (ρ (π m)) ≠ some b
        rw [h5]
        refine s.hs.dis (π n) m _ _ b (hS n t' hn) h4 (fun e => ?_) hb
        have := s.sep (π n) _ (l.h n t' hn)
        rw [e, h3] at this; cases this
    | none =>
      obtain ⟨h3, h4, h5⟩ := hO n t hn h1
      have hb' : blk (ρ n) = some b := by have : blk (ρ (π n)) = some b := hb; rwa [h5] at this
      cases hm : hget S'.h m with
      | some u' =>
        refine s.hs.dis n (π m) _ _ b h4 (hS m u' hm) (fun e => ?_) hb'
        have := s.sep (π m) _ (l.h m u' hm)
        rw [← e, h3] at this; cases this
      | none =>
        obtain ⟨h3', h4', h5'⟩ := hO m u hm h2
        show blk (ρ (π m)) ≠ some b
        rw [h5']
        exact s.hs.dis n m _ _ b h4 h4' hne hb'
  · intro n t b h hb
    cases hn : hget S'.h n with
    | some t' => exact s.ownb (π n) _ b (hS n t' hn) hb
    | none =>
      obtain ⟨_, h4, h5⟩ := hO n t hn h
      have hb' : blk (ρ n) = some b := by have : blk (ρ (π n)) = some b := hb; rwa [h5] at this
      exact s.ownb n t b h4 hb'
  · intro n t h
    cases hn : hget S'.h n with
    | some t' =>
      have h' : some t' = some t := by rw [hget_append, hn] at h; exact h
      cases h'
      exact l.hlt n _ hn
    | none =>
      obtain ⟨h3, _, _⟩ := hO n t hn h
      have := s.olt n t h3
      exact ⟨Nat.lt_of_lt_of_le this.1 l.nbx, Tok.lt_mono l.nbx this.2⟩

mutual
/-- In the place of a name: what it has become. -/
def SV.sub (n : Nat) (y : SV) : SV → SV
  | .vec m => if m = n then y else .vec m
  | .ptr m o => if m = n then (if o = 0 then y else .any) else .ptr m o
  | .eltv m i s o => if m = n then .any else .eltv m i s o
  | .eltc m o e i => if m = n then .any else .eltc m o e i
  | .agg l => .agg (SV.subL n y l)
  | .tup l => .tup (SV.subL n y l)
  | .clo f l => .clo f (SV.subL n y l)
  | .ifc t x => .ifc t (SV.sub n y x)
  | .int k n => .int k n
  | .bool b => .bool b
  | .str s => .str s
  | .dat t d => .dat t d
  | .elt t d => .elt t d
  | .arrc e ds => .arrc e ds
  | .nils => .nils
  | .raw v => .raw v
  | .any => .any
def SV.subL (n : Nat) (y : SV) : List SV → List SV
  | [] => []
  | x :: l => SV.sub n y x :: SV.subL n y l
end

mutual
theorem Den.sub {ρ : Nat → Value} {H H' : FH} {n : Nat} {y : SV} (hH : H.le H') (hy : Den P E ρ H' y (ρ n)) : ∀ {x : SV} {v}, Den P E ρ H x v → Den P E ρ H' (SV.sub n y x) v
  | _, _, .int h => by simp only [SV.sub]; exact .int h
  | _, _, .bool => by simp only [SV.sub]; exact .bool
  | _, _, .str h => by simp only [SV.sub]; exact .str h
  | _, _, .dat hs h => by simp only [SV.sub]; exact .dat hs (Rep.mono P E hH h)
  | _, _, .elt hs hm h => by simp only [SV.sub]; exact .elt hs (fun j v hv => hH _ _ _ (hm j v hv)) (Rep.mono P E hH h)
  | .ptr m o, _, .ptr h => by
    simp only [SV.sub]
    split
    · rename_i e; subst e
      split
      · rename_i e; subst e; rw [← h]; exact hy
      · exact .any
    · exact .ptr h
  | .vec m, _, .vec h => by
    simp only [SV.sub]
    split
    · rename_i e; subst e; exact hy
    · exact .vec h
  | .eltv m .., _, .eltv h => by
    simp only [SV.sub]
    split
    · exact .any
    · exact .eltv h
  | .eltc m .., _, .eltc h => by
    simp only [SV.sub]
    split
    · exact .any
    · exact .eltc h
  | _, _, .agg h => by simp only [SV.sub]; exact .agg (DenC.sub hH hy h)
  | _, _, .tup h => by simp only [SV.sub]; exact .tup (DenV.sub hH hy h)
  | _, _, .clo h => by simp only [SV.sub]; exact .clo (DenV.sub hH hy h)
  | _, _, .nils => by simp only [SV.sub]; exact .nils
  | _, _, .ifc h => by simp only [SV.sub]; exact .ifc (Den.sub hH hy h)
  | _, _, .raw h => by simp only [SV.sub]; exact .raw h
  | _, _, .any => by simp only [SV.sub]; exact .any
theorem DenC.sub {ρ : Nat → Value} {H H' : FH} {n : Nat} {y : SV} (hH : H.le H') (hy : Den P E ρ H' y (ρ n)) : ∀ {l : List SV} {cs}, DenC P E ρ H l cs → DenC P E ρ H' (SV.subL n y l) cs
  | _, _, .nil => by simp only [SV.subL]; exact .nil
  | _, _, .one h h1 h' => by simp only [SV.subL]; exact .one (Den.sub hH hy h) h1 (DenC.sub hH hy h')
  | _, _, .arrc h h' => by simp only [SV.subL, SV.sub]; exact .arrc (RepL.mono P E hH h) (DenC.sub hH hy h')
theorem DenV.sub {ρ : Nat → Value} {H H' : FH} {n : Nat} {y : SV} (hH : H.le H') (hy : Den P E ρ H' y (ρ n)) : ∀ {l : List SV} {vs}, DenV P E ρ H l vs → DenV P E ρ H' (SV.subL n y l) vs
  | _, _, .nil => by simp only [SV.subL]; exact .nil
  | _, _, .cons h h' => by simp only [SV.subL]; exact .cons (Den.sub hH hy h) (DenV.sub hH hy h')
end
end
end Go.Fw
