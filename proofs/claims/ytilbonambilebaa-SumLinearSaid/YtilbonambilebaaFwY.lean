/- The frame-work, part Y: one state within another one. -/
import Derived.Test.YtilbonambilebaaFwX
namespace Go.Fw
set_option linter.unusedVariables false
set_option linter.unusedSimpArgs false
open Go

theorem fget_mem {f : Fr} {i : Nat} : fget f i = .any ∨ ∃ p ∈ f, p.1 = i ∧ p.2 = fget f i := by
  induction f with
  | nil => exact .inl rfl
  | cons q f ih =>
    obtain ⟨j, v⟩ := q
    simp only [fget]
    split
    · rename_i e; exact .inr ⟨(j, v), by simp, e, rfl⟩
    · rcases ih with h | ⟨p, h1, h2, h3⟩
      · exact .inl h
      · exact .inr ⟨p, by simp [h1], h2, h3⟩

/-- All of a heap's names, and what they hold, are below. -/
def HLt (h : Heap) (nx : Nat) : Prop := ∀ n t, hget h n = some t → n < nx ∧ t.lt nx
theorem HLt.cons {h : Heap} {nx m : Nat} {u : Tok} (h1 : m < nx) (h2 : u.lt nx) (h3 : HLt h nx) : HLt ((m, u) :: h) nx := by
  intro n t hn
  simp only [hget] at hn
  split at hn
  · rename_i e; subst e; cases hn; exact ⟨h1, h2⟩
  · exact h3 n t hn
theorem HLt.mono {h : Heap} {a b : Nat} (h1 : HLt h a) (hab : a ≤ b) : HLt h b := fun n t hn => ⟨Nat.lt_of_lt_of_le (h1 n t hn).1 hab, Tok.lt_mono hab (h1 n t hn).2⟩

def HLe (h' h : Heap) : Prop := ∀ n t, hget h' n = some t → hget h n = some t
theorem HLe.refl (h : Heap) : HLe h h := fun _ _ h => h
theorem HLe.cons {h' h : Heap} {m : Nat} {u : Tok} (h1 : hget h m = some u) (h2 : HLe h' h) : HLe ((m, u) :: h') h := by
  intro n t hn
  simp only [hget] at hn
  split at hn
  · rename_i e; subst e; cases hn; exact h1
  · exact h2 n t hn
theorem HLe.skip {h' h : Heap} {m nb : Nat} {u : Tok} (hl : HLt h' nb) (hm : nb ≤ m) (h2 : HLe h' h) : HLe h' ((m, u) :: h) := by
  intro n t hn
  have := (hl n t hn).1
  rw [hget, if_neg (by omega)]
  exact h2 n t hn

def FrIn (π : Nat → Nat) (f : Fr) : Fr → Prop
  | [] => True
  | (i, v) :: r => fget f i = v.ren π ∧ FrIn π f r
def FrLt (nx : Nat) : Fr → Prop
  | [] => True
  | (_, v) :: r => v.lt nx ∧ FrLt nx r
def FrEq (f : Fr) : Fr → Prop
  | [] => True
  | (i, v) :: r => fget f i = v ∧ FrEq f r
theorem frIn_nil (π : Nat → Nat) (f : Fr) : FrIn π f [] = True := rfl
theorem frIn_cons (π : Nat → Nat) (f : Fr) (i : Nat) (v : SV) (r : Fr) : FrIn π f ((i, v) :: r) = (fget f i = v.ren π ∧ FrIn π f r) := rfl
theorem frEq_nil (f : Fr) : FrEq f [] = True := rfl
theorem frEq_cons (f : Fr) (i : Nat) (v : SV) (r : Fr) : FrEq f ((i, v) :: r) = (fget f i = v ∧ FrEq f r) := rfl
theorem frLt_nil (nx : Nat) : FrLt nx [] = True := rfl
theorem frLt_cons (nx i : Nat) (v : SV) (r : Fr) : FrLt nx ((i, v) :: r) = (v.lt nx ∧ FrLt nx r) := rfl
theorem FrIn.mem {π : Nat → Nat} {f : Fr} : ∀ {r : Fr}, FrIn π f r → ∀ p ∈ r, fget f p.1 = p.2.ren π
  | (i, v) :: r, h, p, hp => by
    simp only [List.mem_cons] at hp
    rcases hp with rfl | hp
    · exact h.1
    · exact FrIn.mem h.2 p hp
theorem FrEq.mem {f : Fr} : ∀ {r : Fr}, FrEq f r → ∀ p ∈ r, fget f p.1 = p.2
  | (i, v) :: r, h, p, hp => by
    simp only [List.mem_cons] at hp
    rcases hp with rfl | hp
    · exact h.1
    · exact FrEq.mem h.2 p hp
theorem FrLt.mem {nx : Nat} : ∀ {r : Fr}, FrLt nx r → ∀ p ∈ r, p.2.lt nx
  | (i, v) :: r, h, p, hp => by
    simp only [List.mem_cons] at hp
    rcases hp with rfl | hp
    · exact h.1
    · exact FrLt.mem h.2 p hp
theorem leq_id {nb : Nat} {S S' : SSt} (hf : FrEq S.f S'.f) (hl : FrLt S'.nx S'.f) (hh : HLe S'.h S.h) (hht : HLt S'.h S'.nx) (hnb : nb ≤ S'.nx) : Leq nb S S' := by
  refine ⟨fun n => n, fun i => ?_, fun n t hn => ?_, fun n m t u _ _ hne => hne, fun _ _ => rfl, fun i => ?_, hht, hnb⟩
  · rcases fget_mem (f := S'.f) (i := i) with h | ⟨p, h1, h2, h3⟩
    · exact .inr h
    · left; rw [sv_ren_id, ← h3, ← h2]; exact (hf.mem p h1).symm
  · rw [tok_ren_id]; exact hh n t hn
  · rcases fget_mem (f := S'.f) (i := i) with h | ⟨p, h1, h2, h3⟩
    · rw [h]; exact trivial
    · rw [← h3]; exact hl.mem p h1

def HRen (π : Nat → Nat) (h' h : Heap) : Prop := ∀ n t, hget h' n = some t → hget h (π n) = some (t.ren π)
theorem HRen.cons {π : Nat → Nat} {h' h : Heap} {m : Nat} {u : Tok} (h1 : hget h (π m) = some (u.ren π)) (h2 : HRen π h' h) : HRen π ((m, u) :: h') h := by
  intro n t hn
  simp only [hget] at hn
  split at hn
  · rename_i e; subst e; cases hn; exact h1
  · exact h2 n t hn

/-- One name goes by another one. -/
def ren1 (m k : Nat) : Nat → Nat := fun n => if n = m then k else n
theorem leq_ren {nb : Nat} {S S' : SSt} (m k : Nat) (hm : nb ≤ m) (hf : FrIn (ren1 m k) S.f S'.f) (hl : FrLt S'.nx S'.f) (hh : HRen (ren1 m k) S'.h S.h) (hk : ∀ n t, hget S'.h n = some t → n ≠ m → n ≠ k) (hht : HLt S'.h S'.nx) (hnb : nb ≤ S'.nx) : Leq nb S S' := by
  refine ⟨ren1 m k, fun i => ?_, fun n t hn => hh n t hn, fun n n' t u h1 h2 hne => ?_, fun n hn => ?_, fun i => ?_, hht, hnb⟩
  · rcases fget_mem (f := S'.f) (i := i) with h | ⟨p, h1, h2, h3⟩
    · exact .inr h
    · left; rw [← h3, ← h2]; exact (hf.mem p h1).symm
  · unfold ren1
    by_cases e1 : n = m
    · by_cases e2 : n' = m
      · omega
      · rw [if_pos e1, if_neg e2]; exact fun e => hk n' u h2 e2 e.symm
    · by_cases e2 : n' = m
      · rw [if_neg e1, if_pos e2]; exact hk n t h1 e1
      · rw [if_neg e1, if_neg e2]; exact hne
  · unfold ren1; rw [if_neg (by omega)]
  · rcases fget_mem (f := S'.f) (i := i) with h | ⟨p, h1, h2, h3⟩
    · rw [h]; exact trivial
    · rw [← h3]; exact hl.mem p h1
mutual
theorem sv_ren_lt {π : Nat → Nat} {nb : Nat} (e : ∀ i, i < nb → π i = i) : ∀ x : SV, x.lt nb → x.ren π = x
  | .agg l, h => by simp only [SV.ren]; rw [svL_ren_lt e l h]
  | .tup l, h => by simp only [SV.ren]; rw [svL_ren_lt e l h]
  | .clo f l, h => by simp only [SV.ren]; rw [svL_ren_lt e l h]
  | .ifc t x, h => by simp only [SV.ren]; rw [sv_ren_lt e x h]
  | .ptr n _, h => by simp only [SV.ren]; rw [e n h]
  | .vec n, h => by simp only [SV.ren]; rw [e n h]
  | .eltv n _ _ _, h => by simp only [SV.ren]; rw [e n h]
  | .eltc n _ _ _, h => by simp only [SV.ren]; rw [e n h]
  | .int .., _ | .bool _, _ | .str _, _ | .dat .., _ | .elt .., _ | .arrc .., _ | .nils, _ | .raw _, _ | .any, _ => by simp only [SV.ren]
theorem svL_ren_lt {π : Nat → Nat} {nb : Nat} (e : ∀ i, i < nb → π i = i) : ∀ l : List SV, SV.ltL nb l → SV.renL π l = l
  | [], _ => by simp only [SV.renL]
  | x :: l, h => by simp only [SV.renL]; rw [sv_ren_lt e x h.1, svL_ren_lt e l h.2]
end
theorem tok_ren_lt {π : Nat → Nat} {nb : Nat} (e : ∀ i, i < nb → π i = i) {t : Tok} (h : t.lt nb) : t.ren π = t := by
  cases t with
  | arr _ _ _ => rfl
  | cells l => simp only [Tok.ren]; rw [svL_ren_lt e l h]
theorem HRen.base {m k nb : Nat} {h' h : Heap} (hl : HLt h' nb) (hm : nb ≤ m) (hh : HLe h' h) : HRen (ren1 m k) h' h := by
  intro n t hn
  have h1 := hl n t hn
  have e : ∀ i, i < nb → ren1 m k i = i := fun i hi => by unfold ren1; rw [if_neg (by omega)]
  rw [e n h1.1, tok_ren_lt e h1.2]
  exact hh n t hn

theorem hdel_fresh {h : Heap} {n nb : Nat} (hl : HLt h nb) (hn : nb ≤ n) : hdel h n = h := by
  have key : ∀ h : Heap, hget h n = none → hdel h n = h := by
    intro h
    induction h with
    | nil => intro _; rfl
    | cons q h ih =>
      intro h1
      obtain ⟨m, t⟩ := q
      simp only [hget] at h1
      simp only [hdel]
      split at h1
      · cases h1
      · rename_i hne; rw [if_neg hne, ih h1]
  apply key
  cases e : hget h n with
  | none => rfl
  | some t => have := (hl n t e).1; omega
mutual
theorem sv_sub_lt {n : Nat} {y : SV} : ∀ {x : SV}, x.lt n → SV.sub n y x = x
  | .agg l, h => by simp only [SV.sub]; rw [svL_sub_lt (l := l) h]
  | .tup l, h => by simp only [SV.sub]; rw [svL_sub_lt (l := l) h]
  | .clo f l, h => by simp only [SV.sub]; rw [svL_sub_lt (l := l) h]
  | .ifc t x, h => by simp only [SV.sub]; rw [sv_sub_lt (x := x) h]
  | .vec m, h => by simp only [SV.sub]; rw [if_neg (by have : m < n := h; omega)]
  | .ptr m _, h => by simp only [SV.sub] <;> (try rw [if_neg (by have : m < n := h; omega)])
  | .eltv m _ _ _, h => by simp only [SV.sub] <;> (try rw [if_neg (by have : m < n := h; omega)])
  | .eltc m _ _ _, h => by simp only [SV.sub] <;> (try rw [if_neg (by have : m < n := h; omega)])
  | .int .., _ | .bool _, _ | .str _, _ | .dat .., _ | .elt .., _ | .arrc .., _ | .nils, _ | .raw _, _ | .any, _ => by simp only [SV.sub]
theorem svL_sub_lt {n : Nat} {y : SV} : ∀ {l : List SV}, SV.ltL n l → SV.subL n y l = l
  | [], _ => by simp only [SV.subL]
  | x :: l, h => by simp only [SV.subL]; rw [sv_sub_lt (x := x) h.1, svL_sub_lt (l := l) h.2]
end
theorem tok_sub_lt {n : Nat} {y : SV} {t : Tok} (h : t.lt n) : Tok.sub n y t = t := by
  cases t with
  | arr _ _ _ => rfl
  | cells l => simp only [Tok.sub]; rw [svL_sub_lt h]
theorem hget_sub' {n : Nat} {y : SV} {h : Heap} {m : Nat} : hget (Heap.sub n y h) m = (hget h m).map (Tok.sub n y) := by
  induction h with
  | nil => rfl
  | cons q h ih =>
    obtain ⟨k, t⟩ := q
    simp only [Heap.sub, hget]
    split
    · rfl
    · exact ih
theorem HLe.frz {h : Heap} {n nb : Nat} {y : SV} (hl : HLt h nb) (hn : nb ≤ n) {h' : Heap} (hh : HLe h h') : HLe h (Heap.sub n y h') := by
  intro m t hm
  have h1 := hl m t hm
  rw [hget_sub', hh m t hm, Option.map_some, tok_sub_lt (Tok.lt_mono hn h1.2)]
theorem HLe.del {h : Heap} {n nb : Nat} (hl : HLt h nb) (hn : nb ≤ n) {h' : Heap} (hh : HLe h h') : HLe h (hdel h' n) := by
  have key : ∀ (h' : Heap) m, m ≠ n → hget (hdel h' n) m = hget h' m := by
    intro h'
    induction h' with
    | nil => intro _ _; rfl
    | cons q h' ih =>
      intro m hm
      obtain ⟨k, t⟩ := q
      simp only [hdel, hget]
      by_cases e : k = n
      · rw [if_pos e, ih m hm, if_neg (by omega)]
      · rw [if_neg e, hget, ih m hm]
  intro m t hm
  have h1 := hl m t hm
  rw [key _ _ (by omega)]
  exact hh m t hm
theorem hget_fresh {h : Heap} {n nb : Nat} (hl : HLt h nb) (hn : nb ≤ n) : hget h n = none := by
  cases e : hget h n with
  | none => rfl
  | some t => have := (hl n t e).1; omega
/-- A name that is another one at the next round. -/
theorem leq_ren1 {nb : Nat} {S S' : SSt} (m k : Nat) (hm : nb ≤ m) (hk : S'.nx ≤ k) (hf : FrIn (ren1 m k) S.f S'.f) (hl : FrLt S'.nx S'.f) (hh : HRen (ren1 m k) S'.h S.h) (hht : HLt S'.h S'.nx) (hnb : nb ≤ S'.nx) : Leq nb S S' :=
  leq_ren m k hm hf hl hh (fun n t hn _ => by have := (hht n t hn).1; omega) hht hnb
theorem ren1_eq {m k : Nat} : ren1 m k m = k := by unfold ren1; rw [if_pos rfl]

/-- One result, a slice of its own. -/
theorem fin_vec {nb : Nat} {h : Heap} {K : SV → Heap → Prop} {s : Nat} {S : SSt} {m : Nat} {eid : TypeId} {e : Ty} {l : List D} (hx : fget S.f s = .vec m) (hm : hget S.h m = some (.arr eid e l)) (hnb : nb ≤ m) (hl : HLt h nb) (hs : HLe h S.h) (hk : K (.vec nb) ((nb, .arr eid e l) :: h)) : Fin nb K [.t s] S := by
  unfold Fin
  simp only [evRs, evR, hx]
  refine ⟨⟨trivial, trivial⟩, .vec nb, (nb, .arr eid e l) :: h, ?_, hk⟩
  refine leq_ren nb m (Nat.le_refl _) ?_ ?_ ?_ (fun n t hn hne => ?_) ?_ (Nat.le_add_right _ _)
  · exact ⟨by simp only [fget, if_true, mkR, SV.ren, ren1_eq], trivial⟩
  · exact ⟨show nb < nb + 64 by omega, trivial⟩
  · exact HRen.cons (by rw [ren1_eq]; exact hm) (HRen.base hl (Nat.le_refl _) hs)
  · simp only [hget] at hn
    rw [if_neg (by omega)] at hn
    have := (hl n t hn).1
    omega
  · exact HLt.cons (by simp only []; omega) (by simp only [Tok.lt]) (hl.mono (by simp only []; omega))
end Go.Fw
