/- A function's end, whatever of the heap is another one: things changed, let go, new. -/
import Derived.Test.YtmjenjccinfbaaaDoorFwY
namespace Go.Fw
set_option linter.unusedVariables false
set_option linter.unusedSimpArgs false
open Go

theorem hget_hsetA {h : Heap} {m n : Nat} {t : Tok} : hget (hset h m t) n = if m = n then (hget h m).map (fun _ => t) else hget h n := by
  induction h with
  | nil => simp [hset, hget]
  | cons q r ih =>
    obtain ⟨k, u⟩ := q
    simp only [hset]
    by_cases e : k = m
    · subst e
      simp only [if_true, hget]
      by_cases e2 : k = n
      · subst e2; simp
      · simp [e2]
    · rw [if_neg e]
      simp only [hget, ih]
      rw [if_neg e]
      by_cases e2 : m = n
      · subst e2; simp [e]
      · simp [e2]
theorem hget_hdelA {h : Heap} {m n : Nat} : hget (hdel h m) n = if m = n then none else hget h n := by
  rw [hget_hdel]
theorem HRen.hset {π : Nat → Nat} {h0 h : Heap} {m : Nat} {t : Tok} (hm : hget h (π m) = some (t.ren π)) (hh : ∀ n u, n ≠ m → hget h0 n = some u → hget h (π n) = some (u.ren π)) : HRen π (hset h0 m t) h := by
  intro n u hn
  rw [hget_hsetA] at hn
  by_cases e : m = n
  · subst e
    rw [if_pos rfl] at hn
    cases hg : hget h0 m with
    | none => rw [hg] at hn; cases hn
    | some v => rw [hg] at hn; cases hn; exact hm
  · rw [if_neg e] at hn
    exact hh n u (fun e' => e e'.symm) hn
theorem HLt.hsetA {h : Heap} {m nb : Nat} {t : Tok} (hl : HLt h nb) (ht : t.lt nb) : HLt (hset h m t) nb := by
  intro n u hn
  rw [hget_hsetA] at hn
  by_cases e : m = n
  · subst e
    rw [if_pos rfl] at hn
    cases hg : hget h m with
    | none => rw [hg] at hn; cases hn
    | some v => rw [hg] at hn; cases hn; exact ⟨(hl m v hg).1, ht⟩
  · rw [if_neg e] at hn; exact hl n u hn
theorem HLt.hdelA {h : Heap} {m nb : Nat} (hl : HLt h nb) : HLt (hdel h m) nb := by
  intro n u hn
  rw [hget_hdel] at hn
  split at hn
  · cases hn
  · exact hl n u hn

theorem FrLt.all {nb : Nat} {f : Fr} (h : FrLt nb f) : ∀ i, (fget f i).lt nb := fun i => by
  rcases fget_mem (f := f) (i := i) with h1 | ⟨p, e1, e2, e3⟩
  · rw [h1]; exact trivial
  · rw [← e3]; exact h.mem p e1

theorem fin_gen {nb : Nat} {K : SV → Heap → Prop} {rs : List RV} {S : SSt} {p : Prop} {xs : List SV} (he : evRs rs S = some (p, xs)) (hp : p) {S0 : SSt} (hS0 : NilTo { f := [(0, mkR xs)], h := S.h, nx := S.nx } S0) (l : List (Nat × Nat)) (x : SV) (h' : Heap)
    (h1 : ∀ p ∈ l, nb ≤ p.1) (h2 : ∀ p ∈ l, nb ≤ p.2) (h3 : (l.map (·.2)).Nodup) (hx : x.ren (rens l) = fget S0.f 0) (hxl : x.lt (nb + 64)) (hk : ∀ n t, hget h' n = some t → n < nb ∨ n ∈ l.map (·.1)) (hr : HRen (rens l) h' S0.h) (hl : HLt h' (nb + 64)) (hK : K x h') : Fin nb K rs S := by
  unfold Fin
  rw [he]
  refine ⟨hp, x, h', ?_, hK⟩
  obtain ⟨S1, k1, k2⟩ := leq_rens (S := S0) (S' := { f := [(0, x)], h := h', nx := nb + 64 }) l h1 h2 h3 hk ⟨hx.symm, trivial⟩ ⟨hxl, trivial⟩ hr hl (Nat.le_add_right _ _)
  have tr : ∀ {A B C : SSt}, NilTo A B → NilTo B C → NilTo A C := by
    intro A B C hab
    induction hab with
    | refl S => exact id
    | slot d eid e h h' ih => exact fun hc => .slot d eid e h (ih hc)
    | tup d i eid e h hi h' ih => exact fun hc => .tup d i eid e h hi (ih hc)
    | agg d k eid e h hi hs h' ih => exact fun hc => .agg d k eid e h hi hs (ih hc)
    | cell m k eid e h hi hs h' ih => exact fun hc => .cell m k eid e h hi hs (ih hc)
    | frz n h' ih => exact fun hc => .frz n (ih hc)
    | dagg d k eid h hi hs h' ih => exact fun hc => .dagg d k eid h hi hs (ih hc)
    | dtag d i k eid h hj hi hs h' ih => exact fun hc => .dtag d i k eid h hj hi hs (ih hc)
  exact ⟨S1, tr hS0 k1, k2⟩

/-- A specification out of what a call does, told of states. -/
theorem valid_raw {P : Program} {E : Nat → Value} {G : Nat → Bool} {f : FuncId} {sp : FSpec} (hc : callOk P f = true)
    (hr : ∀ (args : List SV) (h : Heap) (nx : Nat) (K : SV → Heap → Prop) (c : Ctx) (ρ : Nat → Value) (H : FH) (w : World) (vs : List Value), sp args h nx K → c.nb = nx → Sat P E c ρ H { f := [], h := h, nx := nx } { tmps := vs.toArray, defers := [] } w → DenV P E ρ H args vs → SV.ltL nx args →
      Calls P f vs.toArray w fun e w' => ∃ v r h' ρ' H' nx', e = .returned v ∧ K r h' ∧ Den P E ρ' H' r v ∧ r.lt (nx + 64) ∧ nx' ≤ nx + 64 ∧ Sat P E c ρ' H' { f := [], h := h', nx := nx' } { tmps := vs.toArray, defers := [] } w') : Valid P E G f sp := by
  intro args h0 o nx K ρ H w vs hsp hhs hden hlt hnm hsep hin hgl herr
  let c : Ctx := { w0 := w, own := fun b => ∃ n t, hget (h0 ++ o) n = some t ∧ blk (ρ n) = some b, N := vs.length, o := o, nb := nx, G := G, ρ0 := ρ, H0 := H }
  have s : Sat P E c ρ H { f := [], h := h0, nx := nx } { tmps := vs.toArray, defers := [] } w := by
    refine ⟨fun i => .any, by simp [c], ⟨rfl, fun D hD => (by cases hD), fun x hx => (by cases hx), .nil⟩, hhs, hin, Kept.refl w _, fun n t b hn hb => .inl ⟨n, t, hn, hb⟩, fun i => trivial, hnm, ?_, Nat.le_refl _, hsep, hgl, fun _ _ => rfl, FH.le_refl H⟩
    intro n t hn
    refine hnm n t ?_
    rw [hget_append]
    cases h1 : hget h0 n with
    | none => exact hn
    | some u => have := hsep n u h1; rw [hn] at this; cases this
  refine ⟨hc, (hr args h0 nx K c ρ H w vs hsp rfl s hden hlt).mono ?_⟩
  rintro e w' ⟨v, r, h', ρ', H', nx', he, hk, hd, hl, hnx, s'⟩
  exact ⟨v, r, h', ρ', H', he, hk, s'.rho, s'.hle, hd, s'.hs, s'.hin, s'.kept, s'.ownb, hl, fun n t hn => ⟨Nat.lt_of_lt_of_le (s'.hlt n t hn).1 hnx, Tok.lt_mono hnx (s'.hlt n t hn).2⟩, s'.sep⟩
end Go.Fw
