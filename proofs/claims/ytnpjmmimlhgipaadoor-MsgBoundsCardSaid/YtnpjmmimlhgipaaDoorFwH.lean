/- The frame-work, part H: the machine does what 'ev' says: reading memory. -/
import Derived.Test.YtnpjmmimlhgipaaDoorFwG
namespace Go.Fw
set_option linter.unusedVariables false
set_option linter.unusedSimpArgs false
open Go

section
variable {P : Program} {E : Nat → Value}

theorem cellAt_den {ρ : Nat → Value} {H : FH} : ∀ {l : List SV} {cs : List Value} {o : Nat} {x : SV}, DenC P E ρ H l cs → cellAt l o = some x → ∃ v, cs[o]? = some v ∧ Den P E ρ H x v ∧ v.oneCell' = true := by
  intro l
  induction l with
  | nil => intro cs o x _ h; simp [cellAt] at h
  | cons y r ih =>
    intro cs o x hd h
    cases hd with
    | arrc h1 h2 =>
      rename_i e ds cs1 cs2
      simp only [cellAt] at h
      split at h
      · rename_i hle
        have hl := repL_len h1
        rw [sizeL_replicate] at hl
        obtain ⟨v, hv, h3⟩ := ih h2 h
        exact ⟨v, by rw [List.getElem?_append_right (by omega), hl]; exact hv, h3⟩
      · cases h
    | one h1 h1' h2 =>
      rename_i v cs'
      have key : cellAt (y :: r) o = match o with | 0 => some y | o + 1 => cellAt r o := by
        cases y <;> first | (cases h1; done) | (cases o <;> rfl)
      rw [key] at h
      cases o with
      | zero => cases h; exact ⟨v, rfl, h1, h1'⟩
      | succ o => obtain ⟨u, hu, h3⟩ := ih h2 h; exact ⟨u, by simpa using hu, h3⟩

theorem cellAt_lt {nx : Nat} : ∀ {l : List SV} {o : Nat} {x : SV}, SV.ltL nx l → cellAt l o = some x → x.lt nx := by
  intro l
  induction l with
  | nil => intro o x _ h; simp [cellAt] at h
  | cons y r ih =>
    intro o x hl h
    have key : (∃ e ds, y = .arrc e ds) ∨ cellAt (y :: r) o = match o with | 0 => some y | o + 1 => cellAt r o := by
      cases y <;> first | exact .inl ⟨_, _, rfl⟩ | (cases o <;> exact .inr rfl)
    rcases key with ⟨e, ds, rfl⟩ | key
    · simp only [cellAt] at h
      split at h
      · exact ih hl.2 h
      · cases h
    · rw [key] at h
      cases o with
      | zero => cases h; exact hl.1
      | succ o => exact ih hl.2 h

theorem takeC_den {ρ : Nat → Value} {H : FH} : ∀ (n : Nat) {l a r : List SV} {cs : List Value}, DenC P E ρ H l cs → takeC n l = some (a, r) → ∃ c1 c2, cs = c1 ++ c2 ∧ c1.length = n ∧ DenC P E ρ H a c1 ∧ DenC P E ρ H r c2 := by
  intro n
  induction n using Nat.strongRecOn with
  | _ n ih =>
    intro l a r cs hd h
    cases n with
    | zero => simp only [takeC] at h; cases h; exact ⟨[], cs, rfl, rfl, .nil, hd⟩
    | succ n =>
      cases l with
      | nil => simp [takeC] at h
      | cons y q =>
        cases hd with
        | arrc h1 h2 =>
          rename_i e ds cs1 cs2
          have hl := repL_len h1
          rw [sizeL_replicate] at hl
          rw [takeC] at h
          split at h
          · rename_i hc
            split at h
            · rename_i a' b' e'
              cases h
              obtain ⟨c1, c2, g1, g2, g3, g4⟩ := ih (n + 1 - ds.length * e.size) (by omega) h2 e'
              exact ⟨cs1 ++ c1, c2, by rw [g1, List.append_assoc], by rw [List.length_append, g2]; omega, .arrc h1 g3, g4⟩
            · cases h
          · cases h
        | one h1 h1' h2 =>
          have key : takeC (n + 1) (y :: q) = match takeC n q with | some (a, b) => some (y :: a, b) | none => none := by
            cases y <;> first | (cases h1; done) | (rw [takeC] <;> first | (intro _ _ h; cases h; done) | (cases takeC n q <;> rfl))
          rw [key] at h
          split at h
          · rename_i a' b' e'
            cases h
            obtain ⟨c1, c2, g1, g2, g3, g4⟩ := ih n (by omega) h2 e'
            exact ⟨_ :: c1, c2, by rw [g1]; rfl, by simp [g2], .one h1 h1' g3, g4⟩
          · cases h

theorem takeC_lt {nx : Nat} : ∀ (n : Nat) {l a r : List SV}, SV.ltL nx l → takeC n l = some (a, r) → SV.ltL nx a ∧ SV.ltL nx r := by
  intro n
  induction n using Nat.strongRecOn with
  | _ n ih =>
    intro l a r hl h
    cases n with
    | zero => simp only [takeC] at h; cases h; exact ⟨trivial, hl⟩
    | succ n =>
      cases l with
      | nil => simp [takeC] at h
      | cons y q =>
        have key : (∃ e ds, y = .arrc e ds) ∨ takeC (n + 1) (y :: q) = match takeC n q with | some (a, b) => some (y :: a, b) | none => none := by
          cases y <;> first | exact .inl ⟨_, _, rfl⟩ | (right; rw [takeC] <;> first | (intro _ _ h; cases h; done) | (cases takeC n q <;> rfl))
        rcases key with ⟨e, ds, rfl⟩ | key
        · rw [takeC] at h
          split at h
          · split at h
            · rename_i e'
              cases h
              have := ih (n + 1 - ds.length * e.size) (by omega) hl.2 e'
              exact ⟨⟨trivial, this.1⟩, this.2⟩
            · cases h
          · cases h
        · rw [key] at h
          split at h
          · rename_i e'
            cases h
            have := ih n (by omega) hl.2 e'
            exact ⟨⟨hl.1, this.1⟩, this.2⟩
          · cases h

mutual
theorem explode_lt (nx : Nat) : ∀ (t : Ty) (d : D), SV.ltL nx (explode t d)
  | .int _, _ => by simp only [explode]; exact ⟨trivial, trivial⟩
  | .bool, _ => by simp only [explode]; exact ⟨trivial, trivial⟩
  | .str, _ => by simp only [explode]; exact ⟨trivial, trivial⟩
  | .slice _, _ => by simp only [explode]; exact ⟨trivial, trivial⟩
  | .ptr _, _ => by simp only [explode]; exact ⟨trivial, trivial⟩
  | .iface, _ => by simp only [explode]; exact ⟨trivial, trivial⟩
  | .fn, _ => by simp only [explode]; exact ⟨trivial, trivial⟩
  | .map _ _, _ => by simp only [explode]; exact ⟨trivial, trivial⟩
  | .other, _ => by simp only [explode]; exact ⟨trivial, trivial⟩
  | .arr _ _, _ => by simp only [explode]; exact ⟨trivial, trivial⟩
  | .strct ts, d => by simp only [explode]; exact explodeL_lt nx ts d 0
theorem explodeL_lt (nx : Nat) : ∀ (ts : List Ty) (d : D) (k : Nat), SV.ltL nx (explodeL ts d k)
  | [], _, _ => by simp only [explodeL]; exact trivial
  | t :: ts, d, k => by
    simp only [explodeL]
    have h1 := explode_lt nx t (d.fld k)
    have h2 := explodeL_lt nx ts d (k + 1)
    revert h1
    generalize explode t (d.fld k) = a
    intro h1
    induction a with
    | nil => exact h2
    | cons x a ih => exact ⟨h1.1, ih h1.2⟩
end

theorem ldSV_lt (nx : Nat) (t : Ty) (d : D) : (ldSV t d).lt nx := by
  cases t <;> simp only [ldSV] <;> first | trivial | exact explode_lt nx _ d

theorem denC_one {ρ : Nat → Value} {H : FH} {x : SV} {cs : List Value} (h : DenC P E ρ H [x] cs) (hx : ∀ e ds, x ≠ .arrc e ds) : ∃ v, cs = [v] ∧ Den P E ρ H x v ∧ v.oneCell' = true := by
  cases h with
  | one h1 h2 h3 => cases h3; exact ⟨_, rfl, h1, h2⟩
  | arrc => exact absurd rfl (hx _ _)

/-- What is read of cells that hold a datum. -/
theorem ldSV_den (hE : ∀ k, (E k).oneCell' = true) {ρ : Nat → Value} {H : FH} {t : Ty} {d : D} {cs : List Value} (h : Rep P E H t d cs) :
    (isAgg t = true → Den P E ρ H (ldSV t d) (.agg cs.toArray)) ∧ (isAgg t = false → ∃ v, cs = [v] ∧ Den P E ρ H (ldSV t d) v ∧ v.oneCell' = true) := by
  have hx := rep_explode (ρ := ρ) hE h
  cases t <;> simp only [isAgg, ldSV, explode] at hx ⊢ <;> refine ⟨fun h => ?_, fun h => ?_⟩ <;> first | (cases h; done) | exact denC_one hx (fun _ _ => by simp) | (exact .agg (by simpa only [explode] using hx))

theorem run_isAgg (tid : TypeId) (hu : (P.underlying tid).isSome = true) (w : World) : (_root_.Go.isAgg tid).run P w = .ok (isAgg (tyOf P 8 tid)) w := by
  obtain ⟨d, hd⟩ := Option.isSome_iff_exists.1 hu
  simp only [_root_.Go.isAgg, Sem.run_bind, run_underlying hd, tyOf, hd]
  cases d <;> rfl

theorem run_sizeOf (tid : TypeId) {n : Nat} (hs : (P.info? tid).map (·.size) = some n) (w : World) : (sizeOf tid).run P w = .ok n w := by
  obtain ⟨i, hi, rfl⟩ := Option.map_eq_some_iff.1 hs
  simp [sizeOf, typeInfo, hi, Sem.run_bind, program, Sem.run, pure]

/-- A variable is read. -/
theorem run_loadVar (tid : TypeId) (hu : (P.underlying tid).isSome = true) {cs : List Value} (hs : (P.info? tid).map (·.size) = some cs.length) (a : Addr) (w : World) (h : ∀ j v, cs[j]? = some v → w.cell? (a.add j) = some v) :
    (isAgg (tyOf P 8 tid) = true → (loadVar tid a).run P w = .ok (.agg cs.toArray) w) ∧ (isAgg (tyOf P 8 tid) = false → ∀ v, cs = [v] → (loadVar tid a).run P w = .ok v w) := by
  constructor
  · intro hg
    simp only [loadVar, Sem.run_bind, run_isAgg tid hu, hg, if_true, run_sizeOf tid hs, Result.andThen_ok]
    rw [run_loadCells_list w a cs h]
    rfl
  · intro hg v hv
    subst hv
    have h0 := h 0 v rfl
    simp only [loadVar, Sem.run_bind, run_isAgg tid hu, hg, Result.andThen_ok]
    rw [show a.add 0 = a from by simp [Addr.add]] at h0
    simp [load, Sem.run, h0]
end
end Go.Fw
