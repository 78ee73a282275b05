import Derived.Test.YtmjenjccinfbaaaDoorFwX
/- The frame-work, part Y: one state within another one. -/
namespace Go.Fw
set_option linter.unusedVariables false
set_option linter.unusedSimpArgs false
open Go

theorem fget_mem {f : Fr} {i : Nat} : fget f i = .any ∨ ∃ p ∈ f, p.1 = i ∧ p.2 = fget f i := by
  induction f with
  | nil => exact .inl rfl
  | cons q f ih =>
    obtain ⟨j, v⟩ := q
    simp only [fget]
    split
    · rename_i e; exact .inr ⟨(j, v), by simp, e, rfl⟩
    · rcases ih with h | ⟨p, h1, h2, h3⟩
      · exact .inl h
      · exact .inr ⟨p, by simp [h1], h2, h3⟩

/-- All of a heap's names, and what they hold, are below. -/
def HLt (h : Heap) (nx : Nat) : Prop := ∀ n t, hget h n = some t → n < nx ∧ t.lt nx
theorem HLt.cons {h : Heap} {nx m : Nat} {u : Tok} (h1 : m < nx) (h2 : u.lt nx) (h3 : HLt h nx) : HLt ((m, u) :: h) nx := by
  intro n t hn
  simp only [hget] at hn
  split at hn
  · rename_i e; subst e; cases hn; exact ⟨h1, h2⟩
  · exact h3 n t hn
theorem HLt.mono {h : Heap} {a b : Nat} (h1 : HLt h a) (hab : a ≤ b) : HLt h b := fun n t hn => ⟨Nat.lt_of_lt_of_le (h1 n t hn).1 hab, Tok.lt_mono hab (h1 n t hn).2⟩

def HLe (h' h : Heap) : Prop := ∀ n t, hget h' n = some t → hget h n = some t
theorem HLe.refl (h : Heap) : HLe h h := fun _ _ h => h
theorem HLe.cons {h' h : Heap} {m : Nat} {u : Tok} (h1 : hget h m = some u) (h2 : HLe h' h) : HLe ((m, u) :: h') h := by
  intro n t hn
  simp only [hget] at hn
  split at hn
  · rename_i e; subst e; cases hn; exact h1
  · exact h2 n t hn
theorem HLe.skip {h' h : Heap} {m nb : Nat} {u : Tok} (hl : HLt h' nb) (hm : nb ≤ m) (h2 : HLe h' h) : HLe h' ((m, u) :: h) := by
  intro n t hn
  have := (hl n t hn).1
  rw [hget, if_neg (by omega)]
  exact h2 n t hn

def FrIn (π : Nat → Nat) (f : Fr) : Fr → Prop
  | [] => True
  | (i, v) :: r => fget f i = v.ren π ∧ FrIn π f r
def FrLt (nx : Nat) : Fr → Prop
  | [] => True
  | (_, v) :: r => v.lt nx ∧ FrLt nx r
def FrEq (f : Fr) : Fr → Prop
  | [] => True
  | (i, v) :: r => fget f i = v ∧ FrEq f r
theorem frIn_nil (π : Nat → Nat) (f : Fr) : FrIn π f [] = True := rfl
theorem frIn_cons (π : Nat → Nat) (f : Fr) (i : Nat) (v : SV) (r : Fr) : FrIn π f ((i, v) :: r) = (fget f i = v.ren π ∧ FrIn π f r) := rfl
theorem frEq_nil (f : Fr) : FrEq f [] = True := rfl
theorem frEq_cons (f : Fr) (i : Nat) (v : SV) (r : Fr) : FrEq f ((i, v) :: r) = (fget f i = v ∧ FrEq f r) := rfl
theorem frLt_nil (nx : Nat) : FrLt nx [] = True := rfl
theorem frLt_cons (nx i : Nat) (v : SV) (r : Fr) : FrLt nx ((i, v) :: r) = (v.lt nx ∧ FrLt nx r) := rfl
theorem FrIn.mem {π : Nat → Nat} {f : Fr} : ∀ {r : Fr}, FrIn π f r → ∀ p ∈ r, fget f p.1 = p.2.ren π
  | (i, v) :: r, h, p, hp => by
    simp only [List.mem_cons] at hp
    rcases hp with rfl | hp
    · exact h.1
    · exact FrIn.mem h.2 p hp
theorem FrEq.mem {f : Fr} : ∀ {r : Fr}, FrEq f r → ∀ p ∈ r, fget f p.1 = p.2
  | (i, v) :: r, h, p, hp => by
    simp only [List.mem_cons] at hp
    rcases hp with rfl | hp
    · exact h.1
    · exact FrEq.mem h.2 p hp
theorem FrLt.mem {nx : Nat} : ∀ {r : Fr}, FrLt nx r → ∀ p ∈ r, p.2.lt nx
  | (i, v) :: r, h, p, hp => by
    simp only [List.mem_cons] at hp
    rcases hp with rfl | hp
    · exact h.1
    · exact FrLt.mem h.2 p hp
theorem leq_id {nb : Nat} {S S' : SSt} (hf : FrEq S.f S'.f) (hl : FrLt S'.nx S'.f) (hh : HLe S'.h S.h) (hht : HLt S'.h S'.nx) (hnb : nb ≤ S'.nx) : Leq nb S S' := by
  refine Leq0.leq ⟨fun n => n, fun i => ?_, fun n t hn => ?_, fun n m t u _ _ hne => hne, fun _ _ => rfl, fun i => ?_, hht, hnb⟩
  · rcases fget_mem (f := S'.f) (i := i) with h | ⟨p, h1, h2, h3⟩
    · exact .inr h
    · left; rw [sv_ren_id, ← h3, ← h2]; exact (hf.mem p h1).symm
  · rw [tok_ren_id]; exact hh n t hn
  · rcases fget_mem (f := S'.f) (i := i) with h | ⟨p, h1, h2, h3⟩
    · rw [h]; exact trivial
    · rw [← h3]; exact hl.mem p h1

def HRen (π : Nat → Nat) (h' h : Heap) : Prop := ∀ n t, hget h' n = some t → hget h (π n) = some (t.ren π)
theorem HRen.cons {π : Nat → Nat} {h' h : Heap} {m : Nat} {u : Tok} (h1 : hget h (π m) = some (u.ren π)) (h2 : HRen π h' h) : HRen π ((m, u) :: h') h := by
  intro n t hn
  simp only [hget] at hn
  split at hn
  · rename_i e; subst e; cases hn; exact h1
  · exact h2 n t hn

/-- One name goes by another one. -/
def ren1 (m k : Nat) : Nat → Nat := fun n => if n = m then k else n
theorem leq_ren {nb : Nat} {S S' : SSt} (m k : Nat) (hm : nb ≤ m) (hf : FrIn (ren1 m k) S.f S'.f) (hl : FrLt S'.nx S'.f) (hh : HRen (ren1 m k) S'.h S.h) (hk : ∀ n t, hget S'.h n = some t → n ≠ m → n ≠ k) (hht : HLt S'.h S'.nx) (hnb : nb ≤ S'.nx) : Leq nb S S' := by
  refine Leq0.leq ⟨ren1 m k, fun i => ?_, fun n t hn => hh n t hn, fun n n' t u h1 h2 hne => ?_, fun n hn => ?_, fun i => ?_, hht, hnb⟩
  · rcases fget_mem (f := S'.f) (i := i) with h | ⟨p, h1, h2, h3⟩
    · exact .inr h
    · left; rw [← h3, ← h2]; exact (hf.mem p h1).symm
  · unfold ren1
    by_cases e1 : n = m
    · by_cases e2 : n' = m
      · omega
      · rw [if_pos e1, if_neg e2]; exact fun e => hk n' u h2 e2 e.symm
    · by_cases e2 : n' = m
      · rw [if_neg e1, if_pos e2]; exact hk n t h1 e1
      · rw [if_neg e1, if_neg e2]; exact hne
  · unfold ren1; rw [if_neg (by omega)]
  · rcases fget_mem (f := S'.f) (i := i) with h | ⟨p, h1, h2, h3⟩
    · rw [h]; exact trivial
    · rw [← h3]; exact hl.mem p h1
mutual
theorem sv_ren_lt {π : Nat → Nat} {nb : Nat} (e : ∀ i, i < nb → π i = i) : ∀ x : SV, x.lt nb → x.ren π = x
  | .agg l, h => by simp only [SV.ren]; rw [svL_ren_lt e l h]
  | .tup l, h => by simp only [SV.ren]; rw [svL_ren_lt e l h]
  | .clo f l, h => by simp only [SV.ren]; rw [svL_ren_lt e l h]
  | .ifc t x, h => by simp only [SV.ren]; rw [sv_ren_lt e x h]
  | .ptr n _, h => by simp only [SV.ren]; rw [e n h]
  | .vec n, h => by simp only [SV.ren]; rw [e n h]
  | .eltv n _ _ _, h => by simp only [SV.ren]; rw [e n h]
  | .eltc n _ _ _, h => by simp only [SV.ren]; rw [e n h]
  | .int .., _ | .bool _, _ | .str _, _ | .dat .., _ | .elt .., _ | .arrc .., _ | .nils, _ | .raw _, _ | .any, _ => by simp only [SV.ren]
theorem svL_ren_lt {π : Nat → Nat} {nb : Nat} (e : ∀ i, i < nb → π i = i) : ∀ l : List SV, SV.ltL nb l → SV.renL π l = l
  | [], _ => by simp only [SV.renL]
  | x :: l, h => by simp only [SV.renL]; rw [sv_ren_lt e x h.1, svL_ren_lt e l h.2]
end
theorem tok_ren_lt {π : Nat → Nat} {nb : Nat} (e : ∀ i, i < nb → π i = i) {t : Tok} (h : t.lt nb) : t.ren π = t := by
  cases t with
  | arr _ _ _ => rfl
  | map _ _ _ => rfl
  | cells l => simp only [Tok.ren]; rw [svL_ren_lt e l h]
theorem HRen.base {m k nb : Nat} {h' h : Heap} (hl : HLt h' nb) (hm : nb ≤ m) (hh : HLe h' h) : HRen (ren1 m k) h' h := by
  intro n t hn
  have h1 := hl n t hn
  have e : ∀ i, i < nb → ren1 m k i = i := fun i hi => by unfold ren1; rw [if_neg (by omega)]
  rw [e n h1.1, tok_ren_lt e h1.2]
  exact hh n t hn

theorem hdel_fresh {h : Heap} {n nb : Nat} (hl : HLt h nb) (hn : nb ≤ n) : hdel h n = h := by
  have key : ∀ h : Heap, hget h n = none → hdel h n = h := by
    intro h
    induction h with
    | nil => intro _; rfl
    | cons q h ih =>
      intro h1
      obtain ⟨m, t⟩ := q
      simp only [hget] at h1
      simp only [hdel]
      split at h1
      · cases h1
      · rename_i hne; rw [if_neg hne, ih h1]
  apply key
  cases e : hget h n with
  | none => rfl
  | some t => have := (hl n t e).1; omega
mutual
theorem sv_sub_lt {n : Nat} {y : SV} : ∀ {x : SV}, x.lt n → SV.sub n y x = x
  | .agg l, h => by simp only [SV.sub]; rw [svL_sub_lt (l := l) h]
  | .tup l, h => by simp only [SV.sub]; rw [svL_sub_lt (l := l) h]
  | .clo f l, h => by simp only [SV.sub]; rw [svL_sub_lt (l := l) h]
  | .ifc t x, h => by simp only [SV.sub]; rw [sv_sub_lt (x := x) h]
  | .vec m, h => by simp only [SV.sub]; rw [if_neg (by have : m < n := h; omega)]
  | .ptr m _, h => by simp only [SV.sub] <;> (try rw [if_neg (by have : m < n := h; omega)])
  | .eltv m _ _ _, h => by simp only [SV.sub] <;> (try rw [if_neg (by have : m < n := h; omega)])
  | .eltc m _ _ _, h => by simp only [SV.sub] <;> (try rw [if_neg (by have : m < n := h; omega)])
  | .int .., _ | .bool _, _ | .str _, _ | .dat .., _ | .elt .., _ | .arrc .., _ | .nils, _ | .raw _, _ | .any, _ => by simp only [SV.sub]
theorem svL_sub_lt {n : Nat} {y : SV} : ∀ {l : List SV}, SV.ltL n l → SV.subL n y l = l
  | [], _ => by simp only [SV.subL]
  | x :: l, h => by simp only [SV.subL]; rw [sv_sub_lt (x := x) h.1, svL_sub_lt (l := l) h.2]
end
theorem tok_sub_lt {n : Nat} {y : SV} {t : Tok} (h : t.lt n) : Tok.sub n y t = t := by
  cases t with
  | arr _ _ _ => rfl
  | map _ _ _ => rfl
  | cells l => simp only [Tok.sub]; rw [svL_sub_lt h]
theorem hget_sub' {n : Nat} {y : SV} {h : Heap} {m : Nat} : hget (Heap.sub n y h) m = (hget h m).map (Tok.sub n y) := by
  induction h with
  | nil => rfl
  | cons q h ih =>
    obtain ⟨k, t⟩ := q
    simp only [Heap.sub, hget]
    split
    · rfl
    · exact ih
theorem HLe.frz {h : Heap} {n nb : Nat} {y : SV} (hl : HLt h nb) (hn : nb ≤ n) {h' : Heap} (hh : HLe h h') : HLe h (Heap.sub n y h') := by
  intro m t hm
  have h1 := hl m t hm
  rw [hget_sub', hh m t hm, Option.map_some, tok_sub_lt (Tok.lt_mono hn h1.2)]
theorem HLe.del {h : Heap} {n nb : Nat} (hl : HLt h nb) (hn : nb ≤ n) {h' : Heap} (hh : HLe h h') : HLe h (hdel h' n) := by
  have key : ∀ (h' : Heap) m, m ≠ n → hget (hdel h' n) m = hget h' m := by
    intro h'
    induction h' with
    | nil => intro _ _; rfl
    | cons q h' ih =>
      intro m hm
      obtain ⟨k, t⟩ := q
      simp only [hdel, hget]
      by_cases e : k = n
      · rw [if_pos e, ih m hm, if_neg (by omega)]
      · rw [if_neg e, hget, ih m hm]
  intro m t hm
  have h1 := hl m t hm
  rw [key _ _ (by omega)]
  exact hh m t hm
theorem hget_fresh {h : Heap} {n nb : Nat} (hl : HLt h nb) (hn : nb ≤ n) : hget h n = none := by
  cases e : hget h n with
  | none => rfl
  | some t => have := (hl n t e).1; omega
/-- A name that is another one at the next round. -/
theorem leq_ren1 {nb : Nat} {S S' : SSt} (m k : Nat) (hm : nb ≤ m) (hk : S'.nx ≤ k) (hf : FrIn (ren1 m k) S.f S'.f) (hl : FrLt S'.nx S'.f) (hh : HRen (ren1 m k) S'.h S.h) (hht : HLt S'.h S'.nx) (hnb : nb ≤ S'.nx) : Leq nb S S' :=
  leq_ren m k hm hf hl hh (fun n t hn _ => by have := (hht n t hn).1; omega) hht hnb
theorem ren1_eq {m k : Nat} : ren1 m k m = k := by unfold ren1; rw [if_pos rfl]

/-- Names go by other ones. -/
def rens : List (Nat × Nat) → Nat → Nat
  | [], n => n
  | (m, k) :: r, n => if n = m then k else rens r n
theorem rens_lt {nb : Nat} : ∀ {l : List (Nat × Nat)}, (∀ p ∈ l, nb ≤ p.1) → ∀ n, n < nb → rens l n = n
  | [], _, _, _ => rfl
  | (m, k) :: r, h, n, hn => by
    have := h (m, k) (by simp)
    simp only at this
    simp only [rens]
    rw [if_neg (by omega)]
    exact rens_lt (fun p hp => h p (by simp [hp])) n hn
theorem rens_mem : ∀ {l : List (Nat × Nat)} {n : Nat}, n ∈ l.map (·.1) → (n, rens l n) ∈ l
  | (m, k) :: r, n, h => by
    simp only [rens]
    by_cases e : n = m
    · subst e; rw [if_pos rfl]; simp
    · rw [if_neg e]
      have : n ∈ r.map (·.1) := by simpa [e] using h
      exact List.mem_cons_of_mem _ (rens_mem this)
theorem rens_inj : ∀ {l : List (Nat × Nat)}, (l.map (·.2)).Nodup → ∀ {n m : Nat}, n ∈ l.map (·.1) → m ∈ l.map (·.1) → rens l n = rens l m → n = m := by
  intro l hl n m hn hm he
  have h1 := rens_mem hn
  have h2 := rens_mem hm
  rw [he] at h1
  induction l with
  | nil => simp at hn
  | cons p r ih =>
    rw [List.map_cons, List.nodup_cons] at hl
    rcases List.mem_cons.1 h1 with e1 | e1 <;> rcases List.mem_cons.1 h2 with e2 | e2
    · exact (Prod.mk.inj (e1.trans e2.symm)).1
    · exfalso; apply hl.1; rw [← e1]; exact List.mem_map_of_mem (f := (·.2)) e2
    · exfalso; apply hl.1; rw [← e2]; exact List.mem_map_of_mem (f := (·.2)) e1
    · have key : ∀ {r : List (Nat × Nat)}, (r.map (·.2)).Nodup → ∀ {n m k : Nat}, (n, k) ∈ r → (m, k) ∈ r → n = m := by
        intro r
        induction r with
        | nil => intro _ _ _ _ h; simp at h
        | cons q r ih2 =>
          intro hr n m k a b
          rw [List.map_cons, List.nodup_cons] at hr
          rcases List.mem_cons.1 a with a | a <;> rcases List.mem_cons.1 b with b | b
          · exact (Prod.mk.inj (a.trans b.symm)).1
          · exfalso; apply hr.1; rw [← a]; exact List.mem_map_of_mem (f := (·.2)) b
          · exfalso; apply hr.1; rw [← b]; exact List.mem_map_of_mem (f := (·.2)) a
          · exact ih2 hr.2 a b
      exact key hl.2 e1 e2
theorem HRen.base' {π : Nat → Nat} {nb : Nat} {h' h : Heap} (hl : HLt h' nb) (e : ∀ i, i < nb → π i = i) (hh : HLe h' h) : HRen π h' h := by
  intro n t hn
  have h1 := hl n t hn
  rw [e n h1.1, tok_ren_lt e h1.2]
  exact hh n t hn
theorem leq_rens {nb : Nat} {S S' : SSt} (l : List (Nat × Nat)) (h1 : ∀ p ∈ l, nb ≤ p.1) (h2 : ∀ p ∈ l, nb ≤ p.2) (h3 : (l.map (·.2)).Nodup) (hk : ∀ n t, hget S'.h n = some t → n < nb ∨ n ∈ l.map (·.1)) (hf : FrIn (rens l) S.f S'.f) (hl : FrLt S'.nx S'.f) (hh : HRen (rens l) S'.h S.h) (hht : HLt S'.h S'.nx) (hnb : nb ≤ S'.nx) : Leq nb S S' := by
  refine Leq0.leq ⟨rens l, fun i => ?_, fun n t hn => hh n t hn, fun n m t u e1 e2 hne => ?_, fun n hn => rens_lt h1 n hn, fun i => ?_, hht, hnb⟩
  · rcases fget_mem (f := S'.f) (i := i) with h | ⟨p, e1, e2, e3⟩
    · exact .inr h
    · left; rw [← e3, ← e2]; exact (hf.mem p e1).symm
  · rcases hk n t e1 with a | a <;> rcases hk m u e2 with b | b
    · rw [rens_lt h1 n a, rens_lt h1 m b]; exact hne
    · rw [rens_lt h1 n a]; have := h2 _ (rens_mem b); simp only at this; omega
    · rw [rens_lt h1 m b]; have := h2 _ (rens_mem a); simp only at this; omega
    · exact fun e => hne (rens_inj h3 a b e)
  · rcases fget_mem (f := S'.f) (i := i) with h | ⟨p, e1, e2, e3⟩
    · rw [h]; exact trivial
    · rw [← e3]; exact hl.mem p e1

/-- What a function leaves: its results, new things of its own behind what was there. -/
theorem fin_new {nb : Nat} {h : Heap} {K : SV → Heap → Prop} {rs : List RV} {S : SSt} {p : Prop} {xs : List SV} (he : evRs rs S = some (p, xs)) (hp : p) {S0 : SSt} (hS0 : NilTo { f := [(0, mkR xs)], h := S.h, nx := S.nx } S0) (l : List (Nat × Nat)) (x : SV) (ts : Heap)
    (h1 : ∀ p ∈ l, nb ≤ p.1) (h2 : ∀ p ∈ l, nb ≤ p.2) (h3 : (l.map (·.2)).Nodup) (hx : x.ren (rens l) = fget S0.f 0) (hxl : x.lt (nb + 64)) (hts : ts.map (·.1) = l.map (·.1)) (htl : ∀ q ∈ ts, q.1 < nb + 64 ∧ q.2.lt (nb + 64)) (hh : ∀ q ∈ ts, hget S0.h (rens l q.1) = some (q.2.ren (rens l)))
    (hl : HLt h nb) (hs : HLe h S0.h) (hk : K x (ts ++ h)) : Fin nb K rs S := by
  unfold Fin
  rw [he]
  refine ⟨hp, x, ts ++ h, ?_, hk⟩
  have hgt : ∀ n t, hget (ts ++ h) n = some t → (n, t) ∈ ts ∨ hget h n = some t := by
    clear hts htl hh hk
    induction ts with
    | nil => intro n t hn; exact .inr hn
    | cons q ts ih =>
      intro n t hn
      obtain ⟨m, u⟩ := q
      simp only [List.cons_append, hget] at hn
      split at hn
      · rename_i e; subst e; cases hn; exact .inl (by simp)
      · rcases ih n t hn with h | h
        · exact .inl (by simp [h])
        · exact .inr h
  have key : Leq nb S0 { f := [(0, x)], h := ts ++ h, nx := nb + 64 } := by
    refine leq_rens l h1 h2 h3 (fun n t hn => ?_) ⟨hx.symm, trivial⟩ ⟨hxl, trivial⟩ (fun n t hn => ?_) (fun n t hn => ?_) (Nat.le_add_right _ _)
    · rcases hgt n t hn with h4 | h4
      · right; rw [← hts]; exact List.mem_map_of_mem h4
      · exact .inl (hl n t h4).1
    · rcases hgt n t hn with h4 | h4
      · exact hh _ h4
      · have h5 := hl n t h4
        rw [rens_lt h1 n h5.1, tok_ren_lt (rens_lt h1) h5.2]
        exact hs n t h4
    · rcases hgt n t hn with h4 | h4
      · exact htl _ h4
      · have h5 := hl n t h4
        exact ⟨Nat.lt_of_lt_of_le h5.1 (Nat.le_add_right _ _), Tok.lt_mono (Nat.le_add_right _ _) h5.2⟩
  obtain ⟨S1, k1, k2⟩ := key
  have tr : ∀ {A B C : SSt}, NilTo A B → NilTo B C → NilTo A C := by
    intro A B C hab
    induction hab with
    | refl S => exact id
    | slot d eid e h h' ih => exact fun hc => .slot d eid e h (ih hc)
    | tup d i eid e h hi h' ih => exact fun hc => .tup d i eid e h hi (ih hc)
    | agg d k eid e h hi hs h' ih => exact fun hc => .agg d k eid e h hi hs (ih hc)
    | cell m k eid e h hi hs h' ih => exact fun hc => .cell m k eid e h hi hs (ih hc)
    | frz n h' ih => exact fun hc => .frz n (ih hc)
    | dagg d k eid h hi hs h' ih => exact fun hc => .dagg d k eid h hi hs (ih hc)
    | dtag d i k eid h hj hi hs h' ih => exact fun hc => .dtag d i k eid h hj hi hs (ih hc)
  exact ⟨S1, tr hS0 k1, k2⟩

/-- One result, a slice of its own. -/
theorem fin_vec {nb : Nat} {h : Heap} {K : SV → Heap → Prop} {s : Nat} {S : SSt} {m : Nat} {eid : TypeId} {e : Ty} {l : List D} (hx : fget S.f s = .vec m) (hm : hget S.h m = some (.arr eid e l)) (hnb : nb ≤ m) (hl : HLt h nb) (hs : HLe h S.h) (hk : K (.vec nb) ((nb, .arr eid e l) :: h)) : Fin nb K [.t s] S := by
  unfold Fin
  simp only [evRs, evR, hx]
  refine ⟨⟨trivial, trivial⟩, .vec nb, (nb, .arr eid e l) :: h, ?_, hk⟩
  refine leq_ren nb m (Nat.le_refl _) ?_ ?_ ?_ (fun n t hn hne => ?_) ?_ (Nat.le_add_right _ _)
  · exact ⟨by simp only [fget, if_true, mkR, SV.ren, ren1_eq], trivial⟩
  · exact ⟨show nb < nb + 64 by omega, trivial⟩
  · exact HRen.cons (by rw [ren1_eq]; exact hm) (HRen.base hl (Nat.le_refl _) hs)
  · simp only [hget] at hn
    rw [if_neg (by omega)] at hn
    have := (hl n t hn).1
    omega
  · exact HLt.cons (by simp only []; omega) (by simp only [Tok.lt]) (hl.mono (by simp only []; omega))

/-- One result, a nil slice, told as one of the function's own. -/
theorem fin_nils {nb : Nat} {h : Heap} {K : SV → Heap → Prop} {s : Nat} {S : SSt} (eid : TypeId) (e : Ty) (hx : fget S.f s = .nils) (hnx : nb ≤ S.nx) (hl : HLt h nb) (hs : HLe h S.h) (hk : K (.vec nb) ((nb, .arr eid e []) :: h)) : Fin nb K [.t s] S := by
  refine fin_new (p := True ∧ True) (xs := [.nils]) (by simp [evRs, evR, hx]) ⟨trivial, trivial⟩ (.slot 0 eid e rfl (.refl _)) [(nb, S.nx)] (.vec nb) [(nb, .arr eid e [])] (by simp) (by simpa using hnx) (by simp) ?_ ?_ rfl ?_ ?_ hl ?_ hk
  · simp [fget, SV.ren, rens]
  · show nb < nb + 64; omega
  · simp [Tok.lt]
  · simp [hget, rens, Tok.ren]
  · exact HLe.skip hl hnx hs
/-- Two results: a slice of the function's own, and something without names. -/
theorem fin_vecT {nb : Nat} {h : Heap} {K : SV → Heap → Prop} {s1 s2 : Nat} {S : SSt} {m : Nat} {eid : TypeId} {e : Ty} {l : List D} (y : SV) (hx : fget S.f s1 = .vec m) (hy : fget S.f s2 = y) (hn : y.nn = true) (hm : hget S.h m = some (.arr eid e l)) (hnb : nb ≤ m) (hl : HLt h nb) (hs : HLe h S.h) (hk : K (.tup [.vec nb, y]) ((nb, .arr eid e l) :: h)) : Fin nb K [.t s1, .t s2] S := by
  refine fin_new (p := True ∧ True ∧ True) (xs := [.vec m, y]) (by simp [evRs, evR, hx, hy]) ⟨trivial, trivial, trivial⟩ (.refl _) [(nb, m)] (.tup [.vec nb, y]) [(nb, .arr eid e l)] (by simp) (by simpa using hnb) (by simp) ?_ ?_ rfl ?_ ?_ hl hs hk
  · simp [fget, SV.ren, SV.renL, rens, mkR, nn_ren hn]
  · exact ⟨by show nb < nb + 64; omega, nn_lt hn, trivial⟩
  · simp [Tok.lt]
  · simpa [rens, Tok.ren] using hm
theorem fin_nilsT {nb : Nat} {h : Heap} {K : SV → Heap → Prop} {s1 s2 : Nat} {S : SSt} (eid : TypeId) (e : Ty) (y : SV) (hx : fget S.f s1 = .nils) (hy : fget S.f s2 = y) (hn : y.nn = true) (hnx : nb ≤ S.nx) (hl : HLt h nb) (hs : HLe h S.h) (hk : K (.tup [.vec nb, y]) ((nb, .arr eid e []) :: h)) : Fin nb K [.t s1, .t s2] S := by
  refine fin_new (p := True ∧ True ∧ True) (xs := [.nils, y]) (by simp [evRs, evR, hx, hy]) ⟨trivial, trivial, trivial⟩ (.tup 0 0 eid e rfl rfl (.refl _)) [(nb, S.nx)] (.tup [.vec nb, y]) [(nb, .arr eid e [])] (by simp) (by simpa using hnx) (by simp) ?_ ?_ rfl ?_ ?_ hl ?_ hk
  · simp [fget, SV.ren, SV.renL, rens, nn_ren hn]
  · exact ⟨by show nb < nb + 64; omega, nn_lt hn, trivial⟩
  · simp [Tok.lt]
  · simp [hget, rens, Tok.ren]
  · exact HLe.skip hl hnx hs
/-- Two, or three, results without names. -/
theorem fin_t2 {nb : Nat} {h : Heap} {K : SV → Heap → Prop} {s1 s2 : Nat} {S : SSt} (x y : SV) (hx : fget S.f s1 = x) (hy : fget S.f s2 = y) (hn : x.nn = true) (hn' : y.nn = true) (hh : ∀ n t, hget h n = some t → n < nb ∧ t.lt nb) (hs : ∀ n t, hget h n = some t → hget S.h n = some t) (hk : K (.tup [x, y]) h) : Fin nb K [.t s1, .t s2] S := by
  subst hx hy
  have hnn : (SV.tup [fget S.f s1, fget S.f s2]).nn = true := by simp [SV.nn, SV.nnL, hn, hn']
  exact fin_same (p := True ∧ True ∧ True) (xs := [fget S.f s1, fget S.f s2]) rfl ⟨trivial, trivial, trivial⟩ (fun _ => nn_ren hnn) (nn_lt hnn) hh hs hk
theorem fin_t3 {nb : Nat} {h : Heap} {K : SV → Heap → Prop} {s1 s2 s3 : Nat} {S : SSt} (x y z : SV) (hx : fget S.f s1 = x) (hy : fget S.f s2 = y) (hz : fget S.f s3 = z) (hn : x.nn = true) (hn' : y.nn = true) (hn'' : z.nn = true) (hh : ∀ n t, hget h n = some t → n < nb ∧ t.lt nb) (hs : ∀ n t, hget h n = some t → hget S.h n = some t) (hk : K (.tup [x, y, z]) h) : Fin nb K [.t s1, .t s2, .t s3] S := by
  subst hx hy hz
  have hnn : (SV.tup [fget S.f s1, fget S.f s2, fget S.f s3]).nn = true := by simp [SV.nn, SV.nnL, hn, hn', hn'']
  exact fin_same (p := True ∧ True ∧ True ∧ True) (xs := [fget S.f s1, fget S.f s2, fget S.f s3]) rfl ⟨trivial, trivial, trivial, trivial⟩ (fun _ => nn_ren hnn) (nn_lt hnn) hh hs hk
/-- No result: what is handed back lies in what was handed in. -/
theorem fin_0 {nb : Nat} {h : Heap} {K : SV → Heap → Prop} {S : SSt} (hh : ∀ n t, hget h n = some t → n < nb ∧ t.lt nb) (hs : ∀ n t, hget h n = some t → hget S.h n = some t) (hk : K (.tup []) h) : Fin nb K [] S :=
  fin_same (p := True) (xs := []) rfl trivial (fun _ => rfl) trivial hh hs hk

theorem den_retQ (Γ : Tab) (nb : Nat) (Q : Ex → SSt → Prop) : ∀ (κ : List Fm) (S : SSt), den Γ nb Q κ .ret S = Q .ret S
  | [], _ => rfl
  | .seq _ :: κ, S => den_retQ Γ nb Q κ S
  | .blk _ :: κ, S => den_retQ Γ nb Q κ S
  | .lp _ :: κ, S => den_retQ Γ nb Q κ S
  | .bth _ _ :: κ, S => den_retQ Γ nb Q κ S
/-- A loop of which what follows behind it is gone through once. -/
theorem go_loopX {Γ : Tab} {nb : Nat} {Q : Ex → SSt → Prop} {α : Type} (id : Nat) (R : SSt → Prop) (I : α → SSt) (μ : α → Nat) (x0 : α) {b : IC} {κ : List Fm} {S : SSt} (h0 : Leq nb S (I x0))
    (hr : ∀ S', R S' → den Γ nb Q κ (.ext id) S')
    (h : ∀ κ' x (B : SSt → Prop), (∀ S', R S' → den Γ nb Q κ' (.ext id) S') → (∀ S' x', μ x' < μ x → Leq nb S' (I x') → B S') → go Γ nb Q b (.lp B :: κ') (I x)) : go Γ nb Q (.loop b) κ S :=
  go_loop Γ nb Q I μ x0 h0 (fun x B hB => h κ x B hr hB)

/-! ### A call whose slices of the caller's own no longer change -/
def slotsOf : Nat → List SV → List Opd
  | _, [] => []
  | i, _ :: r => .s i :: slotsOf (i + 1) r
def fzGo (sp : FSpec) (l : List Opd) (S : SSt) (K : SV → Heap → Prop) : Prop := sp (ogets l S.f) S.h S.nx K
def fzSp (sp : FSpec) : FSpec := fun args h nx K => fzGo sp (slotsOf 0 args) (frzL args ⟨frOf 0 args, h, nx⟩) K
theorem fzSp_app (sp : FSpec) (args : List SV) (h : Heap) (nx : Nat) (K : SV → Heap → Prop) : fzSp sp args h nx K = fzGo sp (slotsOf 0 args) (frzL args ⟨frOf 0 args, h, nx⟩) K := rfl
theorem fzGo_app (sp : FSpec) (l : List Opd) (f : Fr) (h : Heap) (nx : Nat) (K : SV → Heap → Prop) : fzGo sp l ⟨f, h, nx⟩ K = sp (ogets l f) h nx K := rfl
theorem slotsOf_nil (i : Nat) : slotsOf i [] = [] := rfl
theorem slotsOf_cons (i : Nat) (x : SV) (r : List SV) : slotsOf i (x :: r) = .s i :: slotsOf (i + 1) r := rfl
theorem frzL_nx : ∀ (l : List SV) (S : SSt), (frzL l S).nx = S.nx := by
  intro l
  induction l with
  | nil => intro S; rfl
  | cons x l ih =>
    intro S
    cases x <;> first | exact ih S | skip
    rename_i n
    show (frzL l (frz1 n S)).nx = S.nx
    rw [ih]
    unfold frz1
    split <;> rfl
section
variable {P : Program} {E : Nat → Value} {G : Nat → Bool}
theorem slotsOf_den {ρ : Nat → Value} {H : FH} {f : Fr} : ∀ {args : List SV} {vs : List Value} {i : Nat}, args.length = vs.length → (∀ j, Den P E ρ H (fget f (i + j)) (vs.getD j undef)) → DenV P E ρ H (ogets (slotsOf i args) f) vs
  | [], [], _, _, _ => .nil
  | [], _ :: _, _, h, _ => by simp at h
  | _ :: _, [], _, h, _ => by simp at h
  | x :: args, v :: vs, i, h, hf => by
    refine .cons ?_ (slotsOf_den (by simpa using h) (fun j => ?_))
    · have := hf 0; simpa [oget] using this
    · have := hf (j + 1)
      rw [show i + (j + 1) = i + 1 + j from by omega] at this
      simpa using this
theorem slotsOf_lt {nx : Nat} {f : Fr} (hf : ∀ i, (fget f i).lt nx) : ∀ {args : List SV} {i : Nat}, SV.ltL nx (ogets (slotsOf i args) f)
  | [], _ => trivial
  | _ :: args, i => ⟨hf i, slotsOf_lt hf⟩
theorem Valid.fz {f : FuncId} {sp : FSpec} (hv : Valid P E G f sp) : Valid P E G f (fzSp sp) := by
  intro args h0 o nx K ρ H w vs hsp hhs hden hlt hnm hsep hin hgl herr
  let c : Ctx := { w0 := w, own := fun b => ∃ n t, hget (h0 ++ o) n = some t ∧ blk (ρ n) = some b, N := vs.length, o := o, nb := nx, G := G, ρ0 := ρ, H0 := H }
  have hvl := denV_len hden
  have s : Sat P E c ρ H { f := frOf 0 args, h := h0, nx := nx } { tmps := vs.toArray, defers := [] } w := by
    refine ⟨fun i => ?_, by simp [c], ⟨rfl, fun D hD => (by cases hD), fun x hx => (by cases hx), .nil⟩, hhs, hin, Kept.refl w _, fun n t b hn hb => .inl ⟨n, t, hn, hb⟩, fun i => frOf_lt hlt, hnm, ?_, Nat.le_refl _, hsep, hgl, fun _ _ => rfl, FH.le_refl H⟩
    · have := frOf_den (k := 0) (i := i) hden (Nat.zero_le _)
      simpa [Array.getD_eq_getD_getElem?, List.getD_eq_getElem?_getD] using this
    · intro n t hn
      refine hnm n t ?_
      rw [hget_append]
      cases h1 : hget h0 n with
      | none => exact hn
      | some u => have := hsep n u h1; rw [hn] at this; cases this
  have hC : ErrC E c := by
    intro g ad T hg he
    obtain ⟨⟨o', v, hv⟩, h2⟩ := herr g ad T hg he
    refine ⟨?_, ⟨o', v, hv⟩, h2⟩
    rintro ⟨n, t, hn, hb⟩
    have ht := hhs.tok n t hn
    cases t with
    | cells l =>
      obtain ⟨b, t', cs, h3, _, _, h4⟩ := ht
      rw [h3] at hb
      simp only [blk] at hb
      cases hb
      rw [h4] at hv; cases hv
    | arr eid e l =>
      obtain ⟨_, xs, h3, _, h4⟩ := ht
      rw [h4 _ hb] at hv; cases hv
    | map kt vt f =>
      obtain ⟨b, es, clock, k, h3, _, _, _, h4⟩ := ht
      rw [h3] at hb
      simp only [blk] at hb
      cases hb
      rw [h4] at hv; cases hv
  obtain ⟨H', hle, s'⟩ := s.frzL (l := args)
  have hnx : (frzL args { f := frOf 0 args, h := h0, nx := nx }).nx = nx := frzL_nx _ _
  have hd' := slotsOf_den (P := P) (E := E) (ρ := ρ) (H := H') (f := (frzL args { f := frOf 0 args, h := h0, nx := nx }).f) (args := args) (vs := vs) (i := 0) hvl.symm (fun j => by
    have := s'.fr j
    simpa [Array.getD_eq_getD_getElem?, List.getD_eq_getElem?_getD] using this)
  have hl' := slotsOf_lt s'.flt (args := args) (i := 0)
  have hsp' : sp (ogets (slotsOf 0 args) (frzL args { f := frOf 0 args, h := h0, nx := nx }).f) (frzL args { f := frOf 0 args, h := h0, nx := nx }).h (frzL args { f := frOf 0 args, h := h0, nx := nx }).nx K := hsp
  obtain ⟨hok, hc⟩ := hv _ _ o _ K ρ H' w vs hsp' s'.hs hd' hl' s'.hlt s'.sep s'.hin s'.glob (hC.now s')
  rw [hnx] at hc
  refine ⟨hok, hc.mono ?_⟩
  rintro e w' ⟨v, r, h', ρ', H'', rfl, hk, hρ, hle', hden', hhs', hin', hkept, hown, hr, hlt', hsep'⟩
  have s2 := s'.next (by rw [hnx]; exact Nat.le_add_right _ 64) (by rw [hnx]; exact hρ) hle' hin' hhs' hkept hown hlt' hsep'
  exact ⟨v, r, h', ρ', H'', rfl, hk, hρ, FH.le_trans hle hle', hden', hhs', hin', s2.kept, s2.ownb, hr, hlt', hsep'⟩
end
/-- The walk's rules. -/
theorem walkSet : type_of% (And.intro @go_rgb <| And.intro @den_bth <| And.intro @not_false_eq_true <| And.intro @not_true_eq_false <| And.intro @goD_callp <| And.intro @callDp_clo <| And.intro @callDs_clo <| And.intro @kDp_app <| And.intro @fzSp_app <| And.intro @fzGo_app <| And.intro @slotsOf_nil <| And.intro @slotsOf_cons <| And.intro @bq_tt <| And.intro @bq_tf <| And.intro @bq_ft <| And.intro @bq_ff <| And.intro @Bool.true_and <| And.intro @Bool.false_and <| And.intro @Bool.and_true <| And.intro @Bool.and_false <| And.intro @Bool.true_or <| And.intro @Bool.false_or <| And.intro @Bool.or_true <| And.intro @Bool.or_false <| And.intro @decide_true <| And.intro @decide_false <| And.intro @nm_ne2 <| And.intro @nm_en2 <| And.intro @nm_ne3 <| And.intro @nm_en3 <| And.intro @nm_ne4 <| And.intro @nm_en4 <| And.intro @nm_ne5 <| And.intro @nm_en5 <| And.intro @nm_ne6 <| And.intro @nm_en6 <| And.intro @nm_ne7 <| And.intro @nm_en7 <| And.intro @nm_ne8 <| And.intro @nm_en8 <| And.intro @nm_ne9 <| And.intro @nm_en9 <| And.intro @nm_ne10 <| And.intro @nm_en10 <| And.intro @D_i <| And.intro @D_b <| And.intro @D_s <| And.intro @D_l <| And.intro @D_tgt <| And.intro @nil_nil <| And.intro @nil_err <| And.intro @nil_ifc <| And.intro @nil_ptr <| And.intro @nil_node <| And.intro @D_fld0 <| And.intro @D_fld1 <| And.intro @D_fld2 <| And.intro @D_fld3 <| And.intro @D_fld4 <| And.intro @D_fld5 <| And.intro @D_fld6 <| And.intro @D_fld7 <| And.intro @D_fld8 <| And.intro @D_fld9 <| And.intro @D_fld10 <| And.intro @D_fld11 <| And.intro @D_fld12 <| And.intro @D_fld13 <| And.intro @D_fld14 <| And.intro @D_fld15 <| And.intro @go_frp <| And.intro @go_rgn <| And.intro @rgnK_def <| And.intro @goD_nil <| And.intro @goD_u <| And.intro @contD_some <| And.intro @goD_call <| And.intro @callD_clo <| And.intro @kD_app <| And.intro @goD_g <| And.intro @gD_T <| And.intro @gD_F <| And.intro @gD_U <| And.intro @gK_U <| And.intro @evI_true <| And.intro @evI_false <| And.intro @bareK_some <| And.intro @go_seq <| And.intro @go_ops <| And.intro @go_cond <| And.intro @go_block <| And.intro @go_skip <| And.intro @go_tr <| And.intro @trim_def <| And.intro @trim_nil <| And.intro @trim_cons <| And.intro @fget_nil <| And.intro @go_ret <| And.intro @go_exit <| And.intro @den_nil <| And.intro @den_seq <| And.intro @den_seq_ret <| And.intro @den_seq_ext <| And.intro @den_blk <| And.intro @den_blk_ret <| And.intro @den_blk_ext <| And.intro @den_lp <| And.intro @den_lp_ret <| And.intro @den_lp_ext <| And.intro @goO_nil <| And.intro @goO_u <| And.intro @noCall <| And.intro @contK_some <| And.intro @goO_slc <| And.intro @goO_mif <| And.intro @noSp <| And.intro @goO_nlq <| And.intro @nlqK_some <| And.intro @goO_g <| And.intro @gK_T <| And.intro @gK_F <| And.intro @skipD_some <| And.intro @skipD_none <| And.intro @goO_call <| And.intro @goO_callf <| And.intro @frzK_def <| And.intro @callK_clo <| And.intro @kO_app <| And.intro @condK_ite <| And.intro @iteT <| And.intro @iteF <| And.intro @put_def <| And.intro @sput_def <| And.intro @fget_cons <| And.intro @Nat.lt_irrefl <| And.intro @Nat.not_lt_zero <| And.intro @Nat.add_eq_left <| And.intro @Nat.left_eq_add <| And.intro @Nat.zero_lt_one <| And.intro @Bool.false_eq_true <| And.intro @Bool.not_true <| And.intro @Bool.not_false <| And.intro @true_imp_iff <| And.intro @false_imp_iff <| And.intro @Bool.true_eq_false <| And.intro @add_def <| And.intro @Nat.zero_add <| And.intro @and_self <| And.intro @and_true <| And.intro @true_and <| And.intro @List.set_cons_zero.{0} <| And.intro @List.set_cons_succ.{0} <| And.intro @List.set_nil.{0} <| And.intro @List.flatten_cons.{0} <| And.intro @List.flatten_nil.{0} <| And.intro @List.getD_cons_zero.{0} <| And.intro @List.getD_cons_succ.{0} <| And.intro @List.contains_cons.{0} <| And.intro @List.nil_append.{0} <| And.intro @List.length_cons.{0} <| And.intro @List.length_nil.{0} <| And.intro @List.append_nil.{0} <| And.intro @List.cons_append.{0} <| And.intro @Option.map_some.{0, 0} <| And.intro @Option.map_none.{0, 0} <| And.intro @List.getElem?_cons_zero.{0} <| And.intro @List.getElem?_cons_succ.{0} <| And.intro @beq_self_eq_true.{0} <| @bne_self_eq_false.{0}) := And.intro @go_rgb <| And.intro @den_bth <| And.intro @not_false_eq_true <| And.intro @not_true_eq_false <| And.intro @goD_callp <| And.intro @callDp_clo <| And.intro @callDs_clo <| And.intro @kDp_app <| And.intro @fzSp_app <| And.intro @fzGo_app <| And.intro @slotsOf_nil <| And.intro @slotsOf_cons <| And.intro @bq_tt <| And.intro @bq_tf <| And.intro @bq_ft <| And.intro @bq_ff <| And.intro @Bool.true_and <| And.intro @Bool.false_and <| And.intro @Bool.and_true <| And.intro @Bool.and_false <| And.intro @Bool.true_or <| And.intro @Bool.false_or <| And.intro @Bool.or_true <| And.intro @Bool.or_false <| And.intro @decide_true <| And.intro @decide_false <| And.intro @nm_ne2 <| And.intro @nm_en2 <| And.intro @nm_ne3 <| And.intro @nm_en3 <| And.intro @nm_ne4 <| And.intro @nm_en4 <| And.intro @nm_ne5 <| And.intro @nm_en5 <| And.intro @nm_ne6 <| And.intro @nm_en6 <| And.intro @nm_ne7 <| And.intro @nm_en7 <| And.intro @nm_ne8 <| And.intro @nm_en8 <| And.intro @nm_ne9 <| And.intro @nm_en9 <| And.intro @nm_ne10 <| And.intro @nm_en10 <| And.intro @D_i <| And.intro @D_b <| And.intro @D_s <| And.intro @D_l <| And.intro @D_tgt <| And.intro @nil_nil <| And.intro @nil_err <| And.intro @nil_ifc <| And.intro @nil_ptr <| And.intro @nil_node <| And.intro @D_fld0 <| And.intro @D_fld1 <| And.intro @D_fld2 <| And.intro @D_fld3 <| And.intro @D_fld4 <| And.intro @D_fld5 <| And.intro @D_fld6 <| And.intro @D_fld7 <| And.intro @D_fld8 <| And.intro @D_fld9 <| And.intro @D_fld10 <| And.intro @D_fld11 <| And.intro @D_fld12 <| And.intro @D_fld13 <| And.intro @D_fld14 <| And.intro @D_fld15 <| And.intro @go_frp <| And.intro @go_rgn <| And.intro @rgnK_def <| And.intro @goD_nil <| And.intro @goD_u <| And.intro @contD_some <| And.intro @goD_call <| And.intro @callD_clo <| And.intro @kD_app <| And.intro @goD_g <| And.intro @gD_T <| And.intro @gD_F <| And.intro @gD_U <| And.intro @gK_U <| And.intro @evI_true <| And.intro @evI_false <| And.intro @bareK_some <| And.intro @go_seq <| And.intro @go_ops <| And.intro @go_cond <| And.intro @go_block <| And.intro @go_skip <| And.intro @go_tr <| And.intro @trim_def <| And.intro @trim_nil <| And.intro @trim_cons <| And.intro @fget_nil <| And.intro @go_ret <| And.intro @go_exit <| And.intro @den_nil <| And.intro @den_seq <| And.intro @den_seq_ret <| And.intro @den_seq_ext <| And.intro @den_blk <| And.intro @den_blk_ret <| And.intro @den_blk_ext <| And.intro @den_lp <| And.intro @den_lp_ret <| And.intro @den_lp_ext <| And.intro @goO_nil <| And.intro @goO_u <| And.intro @noCall <| And.intro @contK_some <| And.intro @goO_slc <| And.intro @goO_mif <| And.intro @noSp <| And.intro @goO_nlq <| And.intro @nlqK_some <| And.intro @goO_g <| And.intro @gK_T <| And.intro @gK_F <| And.intro @skipD_some <| And.intro @skipD_none <| And.intro @goO_call <| And.intro @goO_callf <| And.intro @frzK_def <| And.intro @callK_clo <| And.intro @kO_app <| And.intro @condK_ite <| And.intro @iteT <| And.intro @iteF <| And.intro @put_def <| And.intro @sput_def <| And.intro @fget_cons <| And.intro @Nat.lt_irrefl <| And.intro @Nat.not_lt_zero <| And.intro @Nat.add_eq_left <| And.intro @Nat.left_eq_add <| And.intro @Nat.zero_lt_one <| And.intro @Bool.false_eq_true <| And.intro @Bool.not_true <| And.intro @Bool.not_false <| And.intro @true_imp_iff <| And.intro @false_imp_iff <| And.intro @Bool.true_eq_false <| And.intro @add_def <| And.intro @Nat.zero_add <| And.intro @and_self <| And.intro @and_true <| And.intro @true_and <| And.intro @List.set_cons_zero.{0} <| And.intro @List.set_cons_succ.{0} <| And.intro @List.set_nil.{0} <| And.intro @List.flatten_cons.{0} <| And.intro @List.flatten_nil.{0} <| And.intro @List.getD_cons_zero.{0} <| And.intro @List.getD_cons_succ.{0} <| And.intro @List.contains_cons.{0} <| And.intro @List.nil_append.{0} <| And.intro @List.length_cons.{0} <| And.intro @List.length_nil.{0} <| And.intro @List.append_nil.{0} <| And.intro @List.cons_append.{0} <| And.intro @Option.map_some.{0, 0} <| And.intro @Option.map_none.{0, 0} <| And.intro @List.getElem?_cons_zero.{0} <| And.intro @List.getElem?_cons_succ.{0} <| And.intro @beq_self_eq_true.{0} <| @bne_self_eq_false.{0}
end Go.Fw
