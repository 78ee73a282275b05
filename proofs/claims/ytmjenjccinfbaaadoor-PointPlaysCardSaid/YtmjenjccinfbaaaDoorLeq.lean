/- How a state is told as another one, with new things under other names. -/
import Derived.Test.YtmjenjccinfbaaaDoorFwZ
namespace Go.Fw
set_option linter.unusedVariables false
set_option linter.unusedSimpArgs false
open Go
theorem NilTo.trans {A B C : SSt} (hab : NilTo A B) : NilTo B C → NilTo A C := by
  induction hab with
  | refl S => exact id
  | slot d eid e h h' ih => exact fun hc => .slot d eid e h (ih hc)
  | tup d i eid e h hi h' ih => exact fun hc => .tup d i eid e h hi (ih hc)
  | agg d k eid e h hi hs h' ih => exact fun hc => .agg d k eid e h hi hs (ih hc)
  | cell m k eid e h hi hs h' ih => exact fun hc => .cell m k eid e h hi hs (ih hc)
  | frz n h' ih => exact fun hc => .frz n (ih hc)
  | dagg d k eid h hi hs h' ih => exact fun hc => .dagg d k eid h hi hs (ih hc)
  | dtag d i k eid h hj hi hs h' ih => exact fun hc => .dtag d i k eid h hj hi hs (ih hc)
theorem leq_nil {nb : Nat} {S S0 S' : SSt} (hn : NilTo S S0) (h : Leq nb S0 S') : Leq nb S S' := by
  obtain ⟨S1, k1, k2⟩ := h
  exact ⟨S1, hn.trans k1, k2⟩
theorem hget_app {ts h : Heap} : ∀ n t, hget (ts ++ h) n = some t → (n, t) ∈ ts ∨ hget h n = some t := by
  induction ts with
  | nil => intro n t hn; exact .inr hn
  | cons q ts ih =>
    intro n t hn
    obtain ⟨m, u⟩ := q
    simp only [List.cons_append, hget] at hn
    split at hn
    · rename_i e; subst e; cases hn; exact .inl (by simp)
    · rcases ih n t hn with h | h
      · exact .inl (by simp [h])
      · exact .inr h
/-- New things under other names. -/
theorem leq_news {nb : Nat} {h : Heap} {S S0 : SSt} {f' : Fr} {nx' : Nat} (l : List (Nat × Nat)) (ts : Heap) (hn : NilTo S S0) (h1 : ∀ p ∈ l, nb ≤ p.1) (h2 : ∀ p ∈ l, nb ≤ p.2) (h3 : (l.map (·.2)).Nodup) (hts : ts.map (·.1) = l.map (·.1)) (hf : FrIn (rens l) S0.f f') (hfl : FrLt nx' f')
    (hh : ∀ q ∈ ts, hget S0.h (rens l q.1) = some (q.2.ren (rens l))) (htl : ∀ q ∈ ts, q.1 < nx' ∧ q.2.lt nx') (hl : HLt h nb) (hs : HLe h S0.h) (hx : nb ≤ nx') : Leq nb S { f := f', h := ts ++ h, nx := nx' } := by
  refine leq_nil hn (leq_rens l h1 h2 h3 (fun n t hn => ?_) hf hfl (fun n t hn => ?_) (fun n t hn => ?_) hx)
  · rcases hget_app n t hn with h4 | h4
    · right; rw [← hts]; exact List.mem_map_of_mem h4
    · exact .inl (hl n t h4).1
  · rcases hget_app n t hn with h4 | h4
    · exact hh _ h4
    · have h5 := hl n t h4
      rw [rens_lt h1 n h5.1, tok_ren_lt (rens_lt h1) h5.2]
      exact hs n t h4
  · rcases hget_app n t hn with h4 | h4
    · exact htl _ h4
    · have h5 := hl n t h4
      exact ⟨Nat.lt_of_lt_of_le h5.1 hx, Tok.lt_mono hx h5.2⟩
/-- A nil slice told as data. -/
theorem nilD {S : SSt} (d : Nat) (eid : TypeId) (e : Ty) (h : fget S.f d = .nils) {S' : SSt} (h' : NilTo (frz1 S.nx { f := (d, .vec S.nx) :: S.f, h := (S.nx, .arr eid e []) :: S.h, nx := S.nx + 1 }) S') : NilTo S S' := .slot d eid e h (.frz S.nx h')
end Go.Fw
