/- The frame-work, part C: how a state is kept while memory changes. -/
import Derived.Test.YtnpjmmimlhgipaaDoorFwB
namespace Go.Fw
set_option linter.unusedVariables false
set_option linter.unusedSimpArgs false
open Go

section
variable {P : Program} {E : Nat → Value}

theorem blk_slice {a : Addr} {n cap : Nat} (h : 0 < cap) : blk (.slice (some a) n cap) = some a.block := by simp only [blk]; rw [if_neg (by omega)]
theorem blk_none {a : Option Addr} {n : Nat} : blk (.slice a n 0) = none := by cases a <;> simp [blk]
theorem ownBlock_blk {v : Value} {b : Nat} (h : blk v = some b) : (∃ a n c, v = .slice a n c) → v.ownBlock = some b := by
  rintro ⟨a, n, c, rfl⟩
  cases a with
  | none => simp [blk] at h
  | some a =>
    simp only [blk] at h
    split at h
    · cases h
    · exact h
theorem Owns.block {w w' : World} {e : TypeId} {size : Nat} {v : Value} {n : Nat} {xs : List Value} (h : Owns w e size v n xs)
    (hb : ∀ b, blk v = some b → w'.heap[b]? = w.heap[b]?) : Owns w' e size v n xs := by
  obtain ⟨h1, h2⟩ := h
  refine ⟨h1, ?_⟩
  rcases h2 with h2 | ⟨g, cap, cur, hv, hg, hh, r⟩
  · exact .inl h2
  · exact .inr ⟨g, cap, cur, hv, hg, by rw [hb g (by rw [hv]; exact blk_slice hg)]; exact hh, r⟩

theorem tokSat_keep {ρ ρ' : Nat → Value} {H H' : FH} {w w' : World} {n nx : Nat} {t : Tok} (h : TokSat P E ρ H w n t) (hn : n < nx) (ht : t.lt nx) (hρ : ∀ n, n < nx → ρ' n = ρ n) (hH : H.le H')
    (hb : ∀ b, blk (ρ n) = some b → w'.heap[b]? = w.heap[b]?) (hf : ∀ b, blk (ρ n) = some b → ∀ o, H' b o = none) : TokSat P E ρ' H' w' n t := by
  cases t with
  | cells l =>
    obtain ⟨b, t, cs, h1, h2, h3, h4⟩ := h
    exact ⟨b, t, cs, (hρ n hn).trans h1, by rw [hb b (by rw [h1]; rfl)]; exact h2, DenC.congr P E hρ hH ht h3, hf b (by rw [h1]; rfl)⟩
  | arr eid e l =>
    obtain ⟨he, xs, h1, h2, h3⟩ := h
    refine ⟨he, xs, ?_, RepL.mono P E hH h2, ?_⟩
    · rw [hρ n hn]; exact h1.block hb
    · rw [hρ n hn]; exact fun b hb' => hf b hb'
  | map kt vt f =>
    obtain ⟨b, es, clock, k, h1, h2, h3, h4, h5⟩ := h
    exact ⟨b, es, clock, k, (hρ n hn).trans h1, by rw [hb b (by rw [h1]; rfl)]; exact h2, h3, h4.mono P E hH, hf b (by rw [h1]; rfl)⟩

theorem tokSat_new {ρ : Nat → Value} {H : FH} {w : World} {n : Nat} {t : Tok} (h : TokSat P E ρ H w n t) : ∀ b, blk (ρ n) = some b → b < w.heap.size ∧ ∀ o, H b o = none := by
  intro b hb
  cases t with
  | cells l =>
    obtain ⟨b', t, cs, h1, h2, h3, h4⟩ := h
    rw [h1] at hb
    simp only [blk, Option.some.injEq] at hb
    subst hb
    exact ⟨(Array.getElem?_eq_some_iff.1 h2).1, h4⟩
  | arr eid e l =>
    obtain ⟨_, xs, ⟨_, h1⟩, _, h3⟩ := h
    rcases h1 with ⟨⟨a, h1⟩, _⟩ | ⟨g, cap, cur, hv, h0, hh, _⟩
    · rw [h1, blk_none] at hb; cases hb
    · have hb' := hb
      rw [hv, blk_slice h0, Option.some.injEq] at hb
      subst hb
      exact ⟨(Array.getElem?_eq_some_iff.1 hh).1, h3 _ hb'⟩
  | map kt vt f =>
    obtain ⟨b', es, clock, k, h1, h2, h3, h4, h5⟩ := h
    rw [h1] at hb
    simp only [blk, Option.some.injEq] at hb
    subst hb
    exact ⟨(Array.getElem?_eq_some_iff.1 h2).1, h5⟩

theorem FHin.lt {H : FH} {w : World} (h : FHin H w) {b o : Nat} {v : Value} (hv : H b o = some v) : b < w.heap.size := World.block_lt_of_cell? w _ (h b o v hv)
theorem FHin.none_new {H : FH} {w : World} (h : FHin H w) {b : Nat} (hb : w.heap.size ≤ b) (o : Nat) : H b o = none := by
  cases hv : H b o with
  | none => rfl
  | some v => have := h.lt hv; omega

/-- Frozen cells lie in no owned block: they stay while owned blocks change. -/
theorem FHin.keep {H : FH} {w w' : World} (h : FHin H w) (hb : ∀ b, b < w.heap.size → (∃ o v, H b o = some v) → w'.heap[b]? = w.heap[b]?) : FHin H w' := by
  intro b o v hv
  have := h b o v hv
  have hk := hb b (h.lt hv) ⟨o, v, hv⟩
  rw [← this]
  exact World.cell?_of_block hk

theorem Kept.trans {w0 w w' : World} {own own' : Nat → Prop} (h : Kept w0 own w) (h' : Kept w own' w') (ho : ∀ b, own' b → own b ∨ w0.heap.size ≤ b) : Kept w0 own w' :=
  ⟨h'.os.trans h.os, h'.tape.trans h.tape, h'.output.trans h.output, Nat.le_trans h.size h'.size, fun b hb hn => by
    rw [h'.block b (Nat.lt_of_lt_of_le hb h.size) (fun hc => by rcases ho b hc with h1 | h1; exact hn h1; omega)]
    exact h.block b hb hn⟩
theorem Kept.refl (w : World) (own : Nat → Prop) : Kept w own w := ⟨rfl, rfl, rfl, Nat.le_refl _, fun _ _ _ => rfl⟩

theorem hget_append {h o : Heap} {n : Nat} : hget (h ++ o) n = match hget h n with | some t => some t | none => hget o n := by
  induction h with
  | nil => rfl
  | cons x r ih =>
    obtain ⟨m, t⟩ := x
    simp only [List.cons_append, hget]
    by_cases h : m = n
    · simp [h]
    · simp [h, ih]

/-- The whole step: a new memory, new names. -/
theorem Sat.next {c : Ctx} {ρ ρ' : Nat → Value} {H H' : FH} {S : SSt} {a : Act} {w w' : World} {h' : Heap} {nx' : Nat} (s : Sat P E c ρ H S a w)
    (hn : S.nx ≤ nx') (hρ : ∀ n, n < S.nx → ρ' n = ρ n) (hH : H.le H') (hin : FHin H' w') (hs : HSat P E ρ' H' w' (h' ++ c.o)) (hk : Kept w (fun b => ∃ n t, hget (S.h ++ c.o) n = some t ∧ blk (ρ n) = some b) w')
    (ho : ∀ n t b, hget (h' ++ c.o) n = some t → blk (ρ' n) = some b → (∃ m u, hget (S.h ++ c.o) m = some u ∧ blk (ρ m) = some b) ∨ w.heap.size ≤ b)
    (hl : ∀ n t, hget (h' ++ c.o) n = some t → n < nx' ∧ t.lt nx') (hsep : ∀ n t, hget h' n = some t → hget c.o n = none) : Sat P E c ρ' H' { f := S.f, h := h', nx := nx' } a w' where
  fr := fun i => Den.congr P E hρ hH (s.flt i) (s.fr i)
  sz := s.sz
  df := s.df
  hs := hs
  hin := hin
  kept := s.kept.trans hk (fun b ⟨n, t, h1, h2⟩ => s.ownb n t b h1 h2)
  ownb := fun n t b h1 h2 => by
    rcases ho n t b h1 h2 with ⟨m, u, h3, h4⟩ | h3
    · exact s.ownb m u b h3 h4
    · exact .inr (Nat.le_trans s.kept.size h3)
  flt := fun i => SV.lt_mono hn (s.flt i)
  hlt := hl
  olt := s.olt
  nbx := Nat.le_trans s.nbx hn
  sep := hsep
  glob := fun g hg => hH _ _ _ (s.glob g hg)
  rho := fun n hn => (hρ n (Nat.lt_of_lt_of_le hn s.nbx)).trans (s.rho n hn)
  hle := FH.le_trans s.hle hH

theorem fget_cons (i j : Nat) (v : SV) (f : Fr) : fget ((i, v) :: f) j = if i = j then v else fget f j := rfl

theorem Sat.put {c : Ctx} {ρ : Nat → Value} {H : FH} {S : SSt} {a : Act} {w : World} (s : Sat P E c ρ H S a w) {d : Nat} {x : SV} {v : Value} (hx : Den P E ρ H x v) (hl : x.lt S.nx) (hd : d < c.N) :
    Sat P E c ρ H { S with f := (d, x) :: S.f } (a.put (some d) v) w where
  fr := fun i => by
    simp only [fget_cons, Act.put]
    split
    · rename_i h; subst h
      rw [Array.getD_eq_getD_getElem?, Array.getElem?_setIfInBounds_self_of_lt (by rw [s.sz]; exact hd)]
      exact hx
    · rename_i h
      rw [Array.getD_eq_getD_getElem?, Array.getElem?_setIfInBounds_ne h, ← Array.getD_eq_getD_getElem?]
      exact s.fr i
  sz := by simp [Act.put, s.sz]
  df := s.df
  hs := s.hs
  hin := s.hin
  kept := s.kept
  ownb := s.ownb
  flt := fun i => by
    simp only [fget_cons]
    split
    · exact hl
    · exact s.flt i
  hlt := s.hlt
  olt := s.olt
  nbx := s.nbx
  sep := s.sep
  glob := s.glob
  rho := s.rho
  hle := s.hle

def upd (ρ : Nat → Value) (n : Nat) (v : Value) : Nat → Value := fun m => if m = n then v else ρ m
theorem upd_lt (ρ : Nat → Value) {n nx : Nat} (v : Value) (h : nx ≤ n) : ∀ m, m < nx → upd ρ n v m = ρ m := fun m hm => if_neg (by omega)
theorem upd_same (ρ : Nat → Value) (n : Nat) (v : Value) : upd ρ n v n = v := if_pos rfl

/-- A new token under a new name, the memory grown by new blocks. -/
theorem Sat.grow {c : Ctx} {ρ : Nat → Value} {H : FH} {S : SSt} {a : Act} {w w' : World} (s : Sat P E c ρ H S a w) {N nx' : Nat} (hN : S.nx ≤ N) (hx : N < nx') (v : Value) (t : Tok)
    (hk : Kept w (fun _ => False) w') (ht : TokSat P E (upd ρ N v) H w' N t) (hnew : ∀ b, blk v = some b → w.heap.size ≤ b) (hl : t.lt nx') :
    Sat P E c (upd ρ N v) H { f := S.f, h := (N, t) :: S.h, nx := nx' } a w' := by
  have hkeep : ∀ n t, hget (S.h ++ c.o) n = some t → TokSat P E (upd ρ N v) H w' n t := fun n t h =>
    tokSat_keep (s.hs.tok n t h) (s.hlt n t h).1 (s.hlt n t h).2 (upd_lt ρ v hN) (FH.le_refl H)
      (fun b hb => hk.block b (tokSat_new (s.hs.tok n t h) b hb).1 (fun h => h)) (fun b hb => (tokSat_new (s.hs.tok n t h) b hb).2)
  refine s.next (by omega) (upd_lt ρ v hN) (FH.le_refl H) (s.hin.keep fun b hb _ => hk.block b hb (fun h => h)) ⟨?_, ?_⟩ ⟨hk.os, hk.tape, hk.output, hk.size, fun b hb _ => hk.block b hb (fun h => h)⟩ ?_ ?_ ?_
  · intro n u h
    simp only [List.cons_append, hget] at h
    split at h
    · rename_i e; subst e; cases h; exact ht
    · exact hkeep n u h
  · intro n m u u' b h1 h2 hne hb
    simp only [List.cons_append, hget] at h1 h2
    split at h1
    · rename_i e; subst e
      rw [if_neg hne] at h2
      rw [upd_same] at hb
      rw [upd_lt ρ v hN m (s.hlt m _ h2).1]
      intro hc
      have := (tokSat_new (s.hs.tok m _ h2) b hc).1
      have := hnew b hb
      omega
    · split at h2
      · rename_i e; subst e
        rw [upd_same]
        rw [upd_lt ρ v hN n (s.hlt n _ h1).1] at hb
        intro hc
        have := (tokSat_new (s.hs.tok n _ h1) b hb).1
        have := hnew b hc
        omega
      · rw [upd_lt ρ v hN n (s.hlt n _ h1).1] at hb
        rw [upd_lt ρ v hN m (s.hlt m _ h2).1]
        exact s.hs.dis n m u u' b h1 h2 hne hb
  · intro n u b h hb
    simp only [List.cons_append, hget] at h
    split at h
    · rename_i e; subst e
      rw [upd_same] at hb
      exact .inr (hnew b hb)
    · rw [upd_lt ρ v hN n (s.hlt n _ h).1] at hb
      exact .inl ⟨n, u, h, hb⟩
  · intro n u h
    simp only [List.cons_append, hget] at h
    split at h
    · rename_i e; subst e; cases h; exact ⟨hx, hl⟩
    · exact ⟨by have := (s.hlt n u h).1; omega, Tok.lt_mono (by omega) (s.hlt n u h).2⟩
  · intro n u h
    simp only [hget] at h
    split at h
    · rename_i e; subst e
      cases ho : hget c.o N with
      | none => rfl
      | some t => have := (s.olt N t ho).1; have := s.nbx; omega
    · exact s.sep n u h

theorem hget_hset {h : Heap} {n m : Nat} {t u : Tok} (hn : hget h n = some u) : hget (hset h n t) m = if n = m then some t else hget h m := by
  induction h with
  | nil => simp [hget] at hn
  | cons x r ih =>
    obtain ⟨k, v⟩ := x
    simp only [hset, hget] at hn ⊢
    by_cases hk : k = n
    · subst hk
      simp only [if_true, hget]
      split <;> rfl
    · rw [if_neg hk] at hn ⊢
      simp only [hget]
      rw [ih hn]
      by_cases hkm : k = m
      · subst hkm
        rw [if_pos rfl, if_neg (fun e => hk e.symm), if_pos rfl]
      · rw [if_neg hkm]
        split <;> simp_all

theorem hget_hdel {h : Heap} {n m : Nat} : hget (hdel h n) m = if n = m then none else hget h m := by
  induction h with
  | nil => simp [hdel, hget]
  | cons x r ih =>
    obtain ⟨k, v⟩ := x
    simp only [hdel, hget]
    by_cases hk : k = n
    · subst hk
      rw [if_pos rfl, ih]
      by_cases hm : k = m
      · simp [hm]
      · simp [hm]
    · rw [if_neg hk]
      simp only [hget, ih]
      by_cases hm : k = m
      · subst hm
        rw [if_pos rfl, if_neg (fun e => hk e.symm), if_pos rfl]
      · simp [hm]

/-- One owned block is another one's content: the same name and value, another token. -/
theorem Sat.change {c : Ctx} {ρ : Nat → Value} {H : FH} {S : SSt} {a : Act} {w w' : World} (s : Sat P E c ρ H S a w) {n : Nat} {u : Tok} (hn : hget S.h n = some u) (t : Tok)
    (hk : Kept w (fun b => blk (ρ n) = some b) w') (ht : TokSat P E ρ H w' n t) (hl : t.lt S.nx) :
    Sat P E c ρ H { f := S.f, h := hset S.h n t, nx := S.nx } a w' := by
  have hg : ∀ m, hget (hset S.h n t ++ c.o) m = if n = m then some t else hget (S.h ++ c.o) m := by
    intro m
    rw [hget_append, hget_append, hget_hset hn]
    by_cases e : n = m <;> simp [e]
  have hn' : hget (S.h ++ c.o) n = some u := by rw [hget_append, hn]
  have hne : ∀ m k, hget (S.h ++ c.o) m = some k → n ≠ m → ∀ b, blk (ρ m) = some b → blk (ρ n) ≠ some b := fun m k hm e b hb => s.hs.dis m n k u b hm hn' (fun e' => e e'.symm) hb
  refine s.next (Nat.le_refl _) (fun _ _ => rfl) (FH.le_refl H) (s.hin.keep fun b hb ⟨o, v, hv⟩ => hk.block b hb (fun hc => ?_)) ⟨?_, ?_⟩ ⟨hk.os, hk.tape, hk.output, hk.size, fun b hb hb' => hk.block b hb (fun hc => hb' ⟨n, u, hn', hc⟩)⟩ ?_ ?_ ?_
  · have := (tokSat_new (s.hs.tok n u hn') b hc).2 o
    rw [this] at hv; cases hv
  · intro m k h
    rw [hg] at h
    split at h
    · rename_i e; subst e; cases h; exact ht
    · rename_i e
      exact tokSat_keep (s.hs.tok m k h) (s.hlt m k h).1 (s.hlt m k h).2 (fun _ _ => rfl) (FH.le_refl H)
        (fun b hb => hk.block b (tokSat_new (s.hs.tok m k h) b hb).1 (hne m k h e b hb)) (fun b hb => (tokSat_new (s.hs.tok m k h) b hb).2)
  · intro m m' k k' b h1 h2 e hb
    rw [hg] at h1 h2
    have h1' : ∃ k, hget (S.h ++ c.o) m = some k := by
      split at h1
      · rename_i e; subst e; exact ⟨u, hn'⟩
      · exact ⟨k, h1⟩
    have h2' : ∃ k, hget (S.h ++ c.o) m' = some k := by
      split at h2
      · rename_i e; subst e; exact ⟨u, hn'⟩
      · exact ⟨k', h2⟩
    obtain ⟨_, h1'⟩ := h1'
    obtain ⟨_, h2'⟩ := h2'
    exact s.hs.dis m m' _ _ b h1' h2' e hb
  · intro m k b h hb
    rw [hg] at h
    split at h
    · rename_i e; subst e; exact .inl ⟨n, u, hn', hb⟩
    · exact .inl ⟨m, k, h, hb⟩
  · intro m k h
    rw [hg] at h
    split at h
    · rename_i e; subst e; cases h; exact ⟨(s.hlt n u hn').1, hl⟩
    · exact s.hlt m k h
  · intro m k h
    rw [hget_hset hn] at h
    split at h
    · rename_i e; subst e; exact s.sep n u hn
    · exact s.sep m k h

/-- What an owned block was is let go; a new name has what became of it. -/
theorem Sat.renew {c : Ctx} {ρ : Nat → Value} {H : FH} {S : SSt} {a : Act} {w w' : World} (s : Sat P E c ρ H S a w) {n : Nat} {u : Tok} (hn : hget S.h n = some u) {N nx' : Nat} (hN : S.nx ≤ N) (hx : N < nx') (v : Value) (t : Tok)
    (hk : Kept w (fun b => blk (ρ n) = some b) w') (ht : TokSat P E (upd ρ N v) H w' N t) (hv : ∀ b, blk v = some b → blk (ρ n) = some b ∨ w.heap.size ≤ b) (hl : t.lt nx') :
    Sat P E c (upd ρ N v) H { f := S.f, h := (N, t) :: hdel S.h n, nx := nx' } a w' := by
  have hn' : hget (S.h ++ c.o) n = some u := by rw [hget_append, hn]
  have hnN : n < N := Nat.lt_of_lt_of_le (s.hlt n u hn').1 hN
  have hoN : hget c.o N = none := by
    cases ho : hget c.o N with
    | none => rfl
    | some t => have := (s.olt N t ho).1; have := s.nbx; omega
  have hg : ∀ m, hget (((N, t) :: hdel S.h n) ++ c.o) m = if N = m then some t else if n = m then none else hget (S.h ++ c.o) m := by
    intro m
    rw [List.cons_append]
    show (if N = m then some t else hget (hdel S.h n ++ c.o) m) = _
    rw [hget_append, hget_hdel, hget_append]
    by_cases e : n = m
    · subst e
      simp [s.sep n u hn]
    · simp [e]
  have hne : ∀ m k, hget (S.h ++ c.o) m = some k → n ≠ m → ∀ b, blk (ρ m) = some b → blk (ρ n) ≠ some b := fun m k hm e b hb => s.hs.dis m n k u b hm hn' (fun e' => e e'.symm) hb
  have hu : ∀ m k, hget (S.h ++ c.o) m = some k → upd ρ N v m = ρ m := fun m k h => upd_lt ρ v hN m (s.hlt m k h).1
  refine s.next (by omega) (upd_lt ρ v hN) (FH.le_refl H) (s.hin.keep fun b hb ⟨o, v, hv⟩ => hk.block b hb (fun hc => ?_)) ⟨?_, ?_⟩ ⟨hk.os, hk.tape, hk.output, hk.size, fun b hb hb' => hk.block b hb (fun hc => hb' ⟨n, u, hn', hc⟩)⟩ ?_ ?_ ?_
  · have := (tokSat_new (s.hs.tok n u hn') b hc).2 o
    rw [this] at hv; cases hv
  · intro m k h
    rw [hg] at h
    split at h
    · rename_i e; subst e; cases h; exact ht
    · split at h
      · cases h
      · rename_i e
        exact tokSat_keep (s.hs.tok m k h) (s.hlt m k h).1 (s.hlt m k h).2 (upd_lt ρ v hN) (FH.le_refl H)
          (fun b hb => hk.block b (tokSat_new (s.hs.tok m k h) b hb).1 (hne m k h e b hb)) (fun b hb => (tokSat_new (s.hs.tok m k h) b hb).2)
  · intro m m' k k' b h1 h2 e hb hc
    rw [hg] at h1 h2
    split at h1
    · rename_i e1; subst e1
      rw [if_neg e] at h2
      split at h2
      · cases h2
      · rename_i e2
        rw [upd_same] at hb
        rw [hu _ _ h2] at hc
        rcases hv b hb with h3 | h3
        · exact hne _ _ h2 e2 b hc h3
        · have := (tokSat_new (s.hs.tok _ _ h2) b hc).1; omega
    · split at h1
      · cases h1
      · rename_i e1
        rw [hu _ _ h1] at hb
        split at h2
        · rename_i e2; subst e2
          rw [upd_same] at hc
          rcases hv b hc with h3 | h3
          · exact hne _ _ h1 e1 b hb h3
          · have := (tokSat_new (s.hs.tok _ _ h1) b hb).1; omega
        · split at h2
          · cases h2
          · rw [hu _ _ h2] at hc
            exact s.hs.dis m m' _ _ b h1 h2 e hb hc
  · intro m k b h hb
    rw [hg] at h
    split at h
    · rename_i e; subst e
      rw [upd_same] at hb
      rcases hv b hb with h3 | h3
      · exact .inl ⟨n, u, hn', h3⟩
      · exact .inr h3
    · split at h
      · cases h
      · rw [hu _ _ h] at hb
        exact .inl ⟨m, k, h, hb⟩
  · intro m k h
    rw [hg] at h
    split at h
    · rename_i e; subst e; cases h; exact ⟨hx, hl⟩
    · split at h
      · cases h
      · exact ⟨by have := (s.hlt m k h).1; omega, Tok.lt_mono (by omega) (s.hlt m k h).2⟩
  · intro m k h
    simp only [hget] at h
    split at h
    · rename_i e; subst e; exact hoN
    · rw [hget_hdel] at h
      split at h
      · cases h
      · exact s.sep m k h

/-- A step that changes nothing that is told. -/
theorem Sat.still {c : Ctx} {ρ : Nat → Value} {H : FH} {S : SSt} {a : Act} {w w' : World} (s : Sat P E c ρ H S a w) (hh : w'.heap = w.heap) (ho : w'.os = w.os) (ht : w'.tape = w.tape) (hp : w'.output = w.output) : Sat P E c ρ H S a w' :=
  s.next (Nat.le_refl _) (fun _ _ => rfl) (FH.le_refl H) (s.hin.keep fun b _ _ => by rw [hh]) ⟨fun n t h => tokSat_keep (s.hs.tok n t h) (s.hlt n t h).1 (s.hlt n t h).2 (fun _ _ => rfl) (FH.le_refl H) (fun b _ => by rw [hh]) (fun b hb => (tokSat_new (s.hs.tok n t h) b hb).2), s.hs.dis⟩
    ⟨ho, ht, hp, by rw [hh]; exact Nat.le_refl _, fun b _ _ => by rw [hh]⟩ (fun n t b h hb => .inl ⟨n, t, h, hb⟩) s.hlt s.sep

/-! ### Fewer things told, under other names -/
mutual
def SV.ren (π : Nat → Nat) : SV → SV
  | .ptr n o => .ptr (π n) o
  | .vec n => .vec (π n)
  | .eltv n i s o => .eltv (π n) i s o
  | .eltc n o e i => .eltc (π n) o e i
  | .agg l => .agg (SV.renL π l)
  | .tup l => .tup (SV.renL π l)
  | .clo f l => .clo f (SV.renL π l)
  | .ifc t x => .ifc t (SV.ren π x)
  | .int k n => .int k n
  | .bool b => .bool b
  | .str s => .str s
  | .dat t d => .dat t d
  | .elt t d => .elt t d
  | .arrc e ds => .arrc e ds
  | .nils => .nils
  | .raw v => .raw v
  | .any => .any
def SV.renL (π : Nat → Nat) : List SV → List SV
  | [] => []
  | x :: l => SV.ren π x :: SV.renL π l
end
def Tok.ren (π : Nat → Nat) : Tok → Tok
  | .cells l => .cells (SV.renL π l)
  | .arr i e l => .arr i e l
  | .map k v f => .map k v f

theorem SV.ren_any {π : Nat → Nat} : (SV.any).ren π = .any := by simp [SV.ren]

mutual
theorem Den.unren {ρ : Nat → Value} {H : FH} {π : Nat → Nat} : ∀ {x : SV} {v}, Den P E ρ H (x.ren π) v → Den P E (fun n => ρ (π n)) H x v
  | .ptr n o, v, h => by simp only [SV.ren] at h; cases h with | ptr h => exact .ptr h
  | .vec n, v, h => by simp only [SV.ren] at h; cases h with | vec h => exact .vec h
  | .eltv n i s o, v, h => by simp only [SV.ren] at h; cases h with | eltv h => exact .eltv h
  | .eltc n o e i, v, h => by simp only [SV.ren] at h; cases h with | eltc h => exact .eltc h
  | .agg l, v, h => by simp only [SV.ren] at h; cases h with | agg h => exact .agg (DenC.unren h)
  | .tup l, v, h => by simp only [SV.ren] at h; cases h with | tup h => exact .tup (DenV.unren h)
  | .clo f l, v, h => by simp only [SV.ren] at h; cases h with | clo h => exact .clo (DenV.unren h)
  | .ifc t x, v, h => by simp only [SV.ren] at h; cases h with | ifc h => exact .ifc (Den.unren h)
  | .int k n, v, h => by simp only [SV.ren] at h; cases h with | int h => exact .int h
  | .bool b, v, h => by simp only [SV.ren] at h; cases h with | bool => exact .bool
  | .str s, v, h => by simp only [SV.ren] at h; cases h with | str h => exact .str h
  | .dat t d, v, h => by simp only [SV.ren] at h; cases h with | dat h1 h2 => exact .dat h1 h2
  | .elt t d, v, h => by simp only [SV.ren] at h; cases h with | elt h1 h2 h3 => exact .elt h1 h2 h3
  | .arrc e ds, v, h => by simp only [SV.ren] at h; cases h
  | .nils, v, h => by simp only [SV.ren] at h; cases h with | nils => exact .nils
  | .raw u, v, h => by simp only [SV.ren] at h; cases h with | raw h => exact .raw h
  | .any, v, h => .any
theorem DenC.unren {ρ : Nat → Value} {H : FH} {π : Nat → Nat} : ∀ {l : List SV} {cs}, DenC P E ρ H (SV.renL π l) cs → DenC P E (fun n => ρ (π n)) H l cs
  | [], _, h => by simp only [SV.renL] at h; cases h; exact .nil
  | x :: l, cs, h => by
    simp only [SV.renL] at h
    generalize hy : x.ren π = y at h
    cases h with
    | one h h1 h' => subst hy; exact .one (Den.unren h) h1 (DenC.unren h')
    | arrc h h' =>
      cases x <;> simp only [SV.ren] at hy <;> cases hy
      exact .arrc h (DenC.unren h')
theorem DenV.unren {ρ : Nat → Value} {H : FH} {π : Nat → Nat} : ∀ {l : List SV} {cs}, DenV P E ρ H (SV.renL π l) cs → DenV P E (fun n => ρ (π n)) H l cs
  | [], _, h => by simp only [SV.renL] at h; cases h; exact .nil
  | x :: l, cs, h => by
    simp only [SV.renL] at h
    cases h with
    | cons h h' => exact .cons (Den.unren h) (DenV.unren h')
end

theorem TokSat.unren {ρ : Nat → Value} {H : FH} {π : Nat → Nat} {w : World} {n : Nat} {t : Tok} (h : TokSat P E ρ H w (π n) (t.ren π)) : TokSat P E (fun n => ρ (π n)) H w n t := by
  cases t with
  | cells l =>
    obtain ⟨b, t, cs, h1, h2, h3, h4⟩ := h
    exact ⟨b, t, cs, h1, h2, DenC.unren h3, h4⟩
  | arr eid e l => exact h
  | map kt vt f => exact h

/-- The state S tells all that S' tells, under the names that π gives. -/
structure Le (c : Ctx) (π : Nat → Nat) (S S' : SSt) : Prop where
  f : ∀ i, (fget S'.f i).ren π = fget S.f i ∨ fget S'.f i = .any
  h : ∀ n t, hget S'.h n = some t → hget S.h (π n) = some (t.ren π)
  inj : ∀ n m t u, hget S'.h n = some t → hget S'.h m = some u → n ≠ m → π n ≠ π m
  id : ∀ n, n < c.nb → π n = n
  flt : ∀ i, (fget S'.f i).lt S'.nx
  hlt : ∀ n t, hget S'.h n = some t → n < S'.nx ∧ t.lt S'.nx
  nbx : c.nb ≤ S'.nx
end
end Go.Fw
