import Derived.Test.YtmjenjccinfbaaaDoorFwZ
import Derived.Stop.LaidErr
import Derived.LaidSub
import Derived.MakeChecks
/- The frame-work, part Zd: the errors that a program's variables hold. -/
namespace Go.Fw
set_option linter.unusedVariables false
set_option linter.unusedSimpArgs false
open Go Go.RowKit Go.ChangeShapes

section
variable {P : Program}

/-- Of these variables each is an error made by errors.New. -/
def Sents (P : Program) (nm : String) (ti : TypeId) : List (String × DataW Unit) → List Nat → Prop
  | [], [] => True
  | (n, d) :: r, g :: gs => P.globalNamed n = some g ∧ (P.globals[g]?).map (·.type) = some ti ∧ (∃ text, d = .iface nm (.ptr (.agg [.lit (.string text)]))) ∧ Sents P nm ti r gs
  | _, _ => False

/-- What the translation says of the errors' type. -/
structure SentT (P : Program) (nm : String) (ti tp te ts : TypeId) : Prop where
  hi : ∃ ms, P.underlying ti = some (.interface ms)
  hrow : ∀ u, P.typeName? 3 u = some nm → u = tp
  hp : P.underlying tp = some (.pointer te)
  he : ∃ f : Field, P.underlying te = some (.struct #[f]) ∧ f.type = ts ∧ f.offset = 0
  hs : P.underlying ts = some .string
  hc : P.cellsOf te = 1
  hcs : P.cellsOf ts = 1
  ht : ErrT P tp

theorem laidL {nm : String} {ti tp te ts : TypeId} (T : SentT P nm ti tp te ts) {W : World} : ∀ {laid : List (String × DataW Unit)} {ids : List Nat} {ps : List MemPlace}, DataW.LaidVars P W laid ps → Sents P nm ti laid ids → ps.Nodup →
    (∀ b off, MemPlace.cell b off ∈ ps → (∃ c t, W.heap[b]? = some (.cells c t (0, 0))) ∧ ∀ u v, W.cell? ⟨b, off, none⟩ = some (.iface u v) → Value.okWide P W .any 0 u v) →
    ∃ ad : Nat → Addr, (∀ g ∈ ids, MemPlace.cell g 0 ∈ ps ∧ W.cell? ⟨g, 0, none⟩ = some (.iface tp (.pointer (some (ad g)))) ∧ (∃ v, W.cell? (ad g) = some v) ∧ MemPlace.cell (ad g).block (ad g).off ∈ ps) ∧ (∀ g ∈ ids, ∀ g' ∈ ids, ad g = ad g' → g = g')
  | [], [], ps, _, _, _, _ => ⟨fun _ => ⟨0, 0, none⟩, by simp, by simp⟩
  | [], _ :: _, _, _, h, _, _ => h.elim
  | _ :: _, [], _, _, h, _, _ => by obtain ⟨_, _⟩ := ‹_ × _›; exact h.elim
  | (n, d) :: r, g :: gs, ps, hv, hn, hnd, hrows => by
    obtain ⟨g0, t0, cs0, f0, p0, q0, hg0, ht0, hv0, hd0, hq, e0⟩ := hv
    obtain ⟨h1, h2, ⟨text, rfl⟩, h4⟩ := hn
    obtain rfl := Option.some.inj (h1.symm.trans hg0)
    obtain rfl := Option.some.inj (h2.symm.trans ht0)
    obtain ⟨ms, hi⟩ := T.hi
    obtain ⟨f, he, hft, hfo⟩ := T.he
    subst e0
    obtain ⟨l0⟩ := cs0
    have ok0 : ∀ u v, l0 = [.iface u v] → Value.okWide P W .any 0 u v := fun u v e => by
      subst e
      exact (hrows g 0 (by simp [MemPlace.row])).2 u v (by simpa using World.var?_cell hg0 hv0 0)
    obtain ⟨a0, s0, rfl, hc0, hs0, hz0, hp0⟩ := errorString_of_trod hi T.hrow T.hp he hft hfo T.hs T.hc T.hcs hd0 ok0
    subst hp0
    have hcell : W.cell? ⟨g, 0, none⟩ = some (.iface tp (.pointer (some a0))) := by simpa using World.var?_cell hg0 hv0 0
    have hsub : q0.Nodup := List.Nodup.sublist (List.sublist_append_right _ _) hnd
    obtain ⟨ad, k1, k2⟩ := laidL T hq h4 hsub (fun b off hm => hrows b off (List.mem_append_right _ hm))
    have hg : MemPlace.cell g 0 ∈ MemPlace.row ⟨g, 0, none⟩ (#[Value.iface tp (.pointer (some a0))] : Array Value).size ++ MemPlace.row a0 1 := by simp [MemPlace.row]
    have ha : MemPlace.cell a0.block a0.off ∈ MemPlace.row ⟨g, 0, none⟩ (#[Value.iface tp (.pointer (some a0))] : Array Value).size ++ MemPlace.row a0 1 := by simp [MemPlace.row]
    have dis := List.nodup_append.1 hnd
    have hgn : ∀ x ∈ gs, x ≠ g := by
      intro x hx e
      subst e
      exact dis.2.2 _ hg _ (k1 x hx).1 rfl
    have han : ∀ x ∈ gs, ad x ≠ a0 := by
      intro x hx e
      have := (k1 x hx).2.2.2
      rw [e] at this
      exact dis.2.2 _ ha _ this rfl
    refine ⟨fun x => if x = g then a0 else ad x, ?_, ?_⟩
    · intro x hx
      by_cases e : x = g
      · subst e
        simp only [if_true]
        exact ⟨List.mem_append_left _ hg, hcell, ⟨_, hc0⟩, List.mem_append_left _ ha⟩
      · simp only [if_neg e]
        have hx' : x ∈ gs := by simpa [e] using hx
        obtain ⟨m1, m2, m3, m4⟩ := k1 x hx'
        exact ⟨List.mem_append_right _ m1, m2, m3, List.mem_append_right _ m4⟩
    · intro x hx y hy
      by_cases e : x = g <;> by_cases e' : y = g
      · intro _; omega
      · have hy' : y ∈ gs := by simpa [e'] using hy
        simp only [if_pos e, if_neg e']
        exact fun h => absurd h.symm (han y hy')
      · have hx' : x ∈ gs := by simpa [e] using hx
        simp only [if_neg e, if_pos e']
        exact fun h => absurd h (han x hx')
      · have hx' : x ∈ gs := by simpa [e] using hx
        have hy' : y ∈ gs := by simpa [e'] using hy
        simp only [if_neg e, if_neg e']
        exact k2 x hx' y hy'

/-- The errors that a world's listed variables hold; of others nothing but that they are others. -/
theorem errs_of_laid {nm : String} {ti tp te ts : TypeId} (T : SentT P nm ti tp te ts) {W : World} {laid : List (String × DataW Unit)} {ids : List Nat} (hn : Sents P nm ti laid ids) (h : laidMet P laid W) :
    ∃ E, Errs2 P (some tp) E ∧ (∀ g, (ids.contains g) = true → Hof W g 0 = some (E g)) ∧ ErrW E (fun g => ids.contains g) (Hof W) W := by
  obtain ⟨ps, hv, hnd, hrows⟩ := h
  obtain ⟨ad, k1, k2⟩ := laidL T hv hn hnd hrows
  let a : Nat → Addr := fun g => if g ∈ ids then ad g else ⟨W.heap.size + g, 0, none⟩
  have hin : ∀ g, g ∈ ids → a g = ad g := fun g hg => if_pos hg
  have hout : ∀ g, g ∉ ids → a g = ⟨W.heap.size + g, 0, none⟩ := fun g hg => if_neg hg
  have hlt : ∀ g, g ∈ ids → (ad g).block < W.heap.size := fun g hg => by obtain ⟨_, _, ⟨v, hv⟩, _⟩ := k1 g hg; exact cell_lt hv
  refine ⟨fun g => .iface tp (.pointer (some (a g))), ⟨fun k => ⟨_, _, rfl⟩, fun U hU => ?_⟩, fun g hg => ?_, fun g b U hg he => ?_⟩
  · cases hU
    refine ⟨T.ht, a, fun k => rfl, fun x y e => ?_⟩
    by_cases hx : x ∈ ids <;> by_cases hy : y ∈ ids
    · rw [hin x hx, hin y hy] at e; exact k2 x hx y hy e
    · rw [hin x hx, hout y hy] at e
      have := hlt x hx
      rw [e] at this; simp at this; omega
    · rw [hout x hx, hin y hy] at e
      have := hlt y hy
      rw [← e] at this; simp at this; omega
    · rw [hout x hx, hout y hy] at e
      simp only [Addr.mk.injEq] at e
      omega
  · have hg' : g ∈ ids := by simpa using hg
    obtain ⟨m1, m2, _⟩ := k1 g hg'
    show Hof W g 0 = some (.iface tp (.pointer (some (a g))))
    rw [hin g hg']
    unfold Hof
    rw [if_pos (cell_lt m2)]
    exact m2
  · have hg' : g ∈ ids := by simpa using hg
    simp only [Value.iface.injEq, Value.pointer.injEq, Option.some.injEq] at he
    obtain ⟨rfl, rfl⟩ := he
    rw [hin g hg']
    obtain ⟨_, _, ⟨v, hv⟩, m4⟩ := k1 g hg'
    refine ⟨⟨(ad g).off, v, ?_⟩, (hrows _ _ m4).1⟩
    unfold Hof
    rw [if_pos (cell_lt hv)]
    generalize ad g = b at hv
    obtain ⟨b, o, sp⟩ := b
    cases sp with
    | none => exact hv
    | some x =>
      unfold World.cell? at hv
      split at hv <;> simp at hv
end
end Go.Fw
