/- The frame-work, part N: slices that are written out, parts of slices, structs that are written out. -/
import Derived.Test.YtnpjmmimlhgipaaDoorFwM
import Derived.Great.FillDense
import Derived.Great.BuildSlice
namespace Go.Fw
set_option linter.unusedVariables false
set_option linter.unusedSimpArgs false
open Go

section
variable {P : Program} {E : Nat → Value}

theorem evParts_den (hE : ∀ k, (E k).oneCell' = true) {ρ : Nat → Value} {H : FH} {e : Ty} : ∀ {xs : List SV} {vs : List Value} {ds : List D}, DenV P E ρ H xs vs → evParts e xs = some ds → RepL P E H (List.replicate ds.length e) ds (vs.flatMap fun v => v.cells.toList) ∧ (∀ v ∈ vs, v.cells.size = e.size) ∧ ds.length = vs.length := by
  intro xs
  induction xs with
  | nil => intro vs ds hd h; cases hd; simp only [evParts] at h; cases h; exact ⟨.nil, by simp, rfl⟩
  | cons x xs ih =>
    intro vs ds hd h
    cases hd with
    | cons hx hxs =>
      simp only [evParts] at h
      split at h
      · rename_i d ds' e1 e2
        split at h
        · rename_i hok
          cases h
          obtain ⟨h1, h2, h3⟩ := ih hxs e2
          obtain ⟨cs, hv, hc⟩ := svCells_den hE hx hok
          have hr := toD_all e1 hc
          have hl := rep_len hr
          refine ⟨?_, ?_, by simp [h3]⟩
          · rw [List.length_cons, List.replicate_succ, List.flatMap_cons, hv]
            exact .cons hr h1
          · intro v hv'
            rcases List.mem_cons.1 hv' with rfl | hv'
            · rw [hv]; simpa using hl
            · exact h2 v hv'
        · cases h
      · cases h

theorem bsl_sound (hE : ∀ k, (E k).oneCell' = true) {c : Ctx} {ρ : Nat → Value} {H : FH} {S : SSt} {a : Act} {w : World} (s : Sat P E c ρ H S a w) {tid eid : TypeId} {bytes : Nat} {z : Value} (ok : ElemOk P tid eid bytes z)
    {xs : List SV} {vs : List Value} {ds : List D} (hd : DenV P E ρ H xs vs) (h : evParts (tyOf P 8 eid) xs = some ds) (hn : vs.length * (tyOf P 8 eid).size ≤ 16777216) (h0 : 0 < vs.length) :
    ∃ u w' ρ', (Instr.buildSlice tid vs.length ((vs.zipIdx 0).map fun x => (x.2, x.1)).toArray).run P w = .ok u w' ∧ Sat P E c ρ' H { f := S.f, h := (S.nx, .arr eid (tyOf P 8 eid) ds) :: S.h, nx := S.nx + 1 } a w' ∧ Den P E ρ' H (.vec S.nx) u := by
  obtain ⟨i, hi, hs, hby, hz⟩ := ok.i
  obtain ⟨h1, h2, h3⟩ := evParts_den hE hd h
  have hfill := Great.fill_whole ok.s0 vs ((Array.range (vs.length * i.size)).map (z.cells[· % z.cells.size]!)) h2 (by simp [hs])
  have hpos : 0 < vs.length * (tyOf P 8 eid).size := Nat.mul_pos h0 ok.s0
  have hr := run_buildSlice (P := P) w tid eid vs.length ((vs.zipIdx 0).map fun x => (x.2, x.1)).toArray _ i z ok.u hi hz (by rw [hs]; omega) (by rw [hs]; omega) (by rw [hs]; simpa [hs] using hfill)
  have hlen := repL_len h1
  rw [sizeL_replicate] at hlen
  have hmax : vs.length ≤ maxLen := by
    have : vs.length * 1 ≤ vs.length * (tyOf P 8 eid).size := Nat.mul_le_mul_left _ ok.s0
    unfold maxLen; omega
  refine ⟨_, _, upd ρ S.nx (.slice (some ⟨w.heap.size, 0, none⟩) vs.length vs.length), hr, ?_, ?_⟩
  · refine s.grow (Nat.le_refl _) (Nat.lt_succ_self _) _ _ (kept_alloc w _) ⟨fun _ => rfl, _, ?_, h1, ?_⟩ (fun b hb => by simp [blk] at hb; omega) trivial
    · rw [upd_same, h3]
      have := Owns.of <| World.ownsRow_lit (base := 0) (e := eid) (size := (tyOf P 8 eid).size) w (vs.flatMap fun v => v.cells.toList).toArray vs.length (Nat.zero_le _) hmax (by rw [List.size_toArray, hlen, h3])
      simpa using this
    · intro b hb o
      rw [upd_same] at hb
      simp [blk] at hb
      exact s.hin.none_new (by omega) o
  · have := Den.vec (P := P) (E := E) (ρ := upd ρ S.nx (.slice (some ⟨w.heap.size, 0, none⟩) vs.length vs.length)) (H := H) (n := S.nx) (by rw [upd_same]; rfl)
    rwa [upd_same] at this

theorem run_bound (k : IntKind) (i : Int) (y : Nat) (code : BoundsCode) (w : World) (h0 : 0 ≤ i) (h1 : i ≤ y) : (Instr.sliceBound (.int k i) y code).run P w = .ok i.toNat w := by
  simp [Instr.sliceBound, asIntOf, Sem.run_bind, h0, h1, Sem.run, pure]

/-- A part of a slice. -/
theorem run_part (tid eid : TypeId) (hu : P.underlying tid = some (.slice eid)) {sz : Nat} (hs : (P.info? eid).map (·.size) = some sz) (ad : Option Addr) (n cap : Nat) (hc : n ≤ cap) (lo hi : Option Value) (l h : Nat)
    (hlo : (lo = none ∧ l = 0) ∨ ∃ k i, lo = some (.int k i) ∧ 0 ≤ i ∧ l = i.toNat) (hhi : (hi = none ∧ h = n) ∨ ∃ k i, hi = some (.int k i) ∧ 0 ≤ i ∧ h = i.toNat) (h1 : l ≤ h) (h2 : h ≤ n) (w : World) :
    (Instr.sliceAt tid (.slice ad n cap) lo hi none).run P w = .ok (.slice (if cap = l then ad else ad.map (·.add (l * sz))) (h - l) (cap - l)) w := by
  have hb : (Instr.sliceBounds true n cap lo hi none).run P w = .ok (l, h, cap) w := by
    rcases hlo with ⟨rfl, rfl⟩ | ⟨k, i, rfl, hi0, rfl⟩ <;> rcases hhi with ⟨rfl, rfl⟩ | ⟨k', i', rfl, hj0, rfl⟩
    · simp [Instr.sliceBounds, Sem.run_bind, Sem.run, pure]
    · simp [Instr.sliceBounds, Sem.run_bind, run_bound k' i' cap _ w hj0 (by omega), Sem.run, pure]
    · simp [Instr.sliceBounds, Sem.run_bind, run_bound k i h _ w hi0 (by omega), Sem.run, pure]
    · simp [Instr.sliceBounds, Sem.run_bind, run_bound k' i' cap _ w hj0 (by omega), run_bound k i i'.toNat _ w hi0 (by omega), Sem.run, pure]
  simp [Instr.sliceAt, Instr.slice, Sem.run_bind, run_underlying hu, hb, run_sizeOf eid hs, Sem.run, pure]

theorem rep_part {H : FH} {eid : TypeId} {l : List D} {ad : Option Addr} {cap : Nat} (css : Nat → List Value) (hc : l.length ≤ cap) (hcap : cap ≤ maxLen) (hn : l ≠ [] → ∃ a, ad = some a ∧ a.spot = none) (hz : ad = none → cap = 0)
    (hm : ∀ i, i < l.length → ∀ a, ad = some a → ∀ j v, (css i)[j]? = some v → H a.block (a.off + i * (tyOf P 8 eid).size + j) = some v) (hr : ∀ i (hi : i < l.length), Rep P E H (tyOf P 8 eid) l[i] (css i)) (a b : Nat) (h1 : a ≤ b) (h2 : b ≤ l.length) :
    Rep P E H (.slice eid) (.list ((l.take b).drop a)) [.slice (if cap = a then ad else ad.map (·.add (a * (tyOf P 8 eid).size))) (b - a) (cap - a)] := by
  have hlen : ((l.take b).drop a).length = b - a := by simp; omega
  rw [← hlen]
  have hsp : ∀ x, (ad.map (·.add (a * (tyOf P 8 eid).size))) = some x → l ≠ [] → ∃ y, ad = some y ∧ y.spot = none ∧ x = ⟨y.block, y.off + a * (tyOf P 8 eid).size, none⟩ := by
    intro x hx hl
    obtain ⟨y, e1, e2⟩ := hn hl
    subst e1
    obtain ⟨b', o, sp⟩ := y
    cases e2
    simp only [Option.map_some, add_lit, Option.some.injEq] at hx
    exact ⟨_, rfl, rfl, hx.symm⟩
  by_cases he : (l.take b).drop a = []
  · rw [he]
    exact .slice (l := []) (fun _ => []) (Nat.zero_le _) (by omega) (fun h => absurd rfl h) (by
      intro hx
      split at hx
      · rename_i e; omega
      · cases ad with
        | none => have := hz rfl; omega
        | some x => simp at hx) (fun i hi => by simp at hi) (fun i hi => by simp at hi)
  · have hab : a < b := by
      rcases Nat.lt_or_ge a b with h | h
      · exact h
      · exfalso; apply he; rw [List.drop_eq_nil_iff]; simp; omega
    have hl : l ≠ [] := by intro e; rw [e] at he; simp at he
    rw [if_neg (by omega)]
    obtain ⟨y, e1, e2⟩ := hn hl
    subst e1
    obtain ⟨b', o, sp⟩ := y
    cases e2
    refine .slice (fun i => css (a + i)) (by omega) (by omega) (fun _ => ⟨⟨b', o + a * (tyOf P 8 eid).size, none⟩, by simp only [Option.map_some, add_lit], rfl⟩) (fun h => by simp at h) ?_ ?_
    · intro i hi x hx j v hv
      simp only [Option.map_some, add_lit, Option.some.injEq] at hx
      subst hx
      have := hm (a + i) (by omega) _ rfl j v hv
      simp only at this ⊢
      rwa [show o + (a + i) * (tyOf P 8 eid).size + j = o + a * (tyOf P 8 eid).size + i * (tyOf P 8 eid).size + j from by rw [Nat.add_mul]; omega] at this
    · intro i hi
      rw [List.getElem_drop, List.getElem_take]
      exact hr (a + i) (by omega)

theorem slc_sound {c : Ctx} {ρ : Nat → Value} {H : FH} {S : SSt} {a : Act} {w : World} (s : Sat P E c ρ H S a w) {tid eid : TypeId} (hu : P.underlying tid = some (.slice eid)) (hs : (P.info? eid).map (·.size) = some (tyOf P 8 eid).size)
    {x : SV} {lo hi : Option SV} {p : Prop} {v : SV} (h : evSlc eid x lo hi = some (p, v)) (hp : p) {vx : Value} (hx : Den P E ρ H x vx) {vlo vhi : Option Value} (hlo : lo = none ∧ vlo = none ∨ ∃ y u, lo = some y ∧ vlo = some u ∧ Den P E ρ H y u)
    (hhi : hi = none ∧ vhi = none ∨ ∃ y u, hi = some y ∧ vhi = some u ∧ Den P E ρ H y u) :
    ∃ u, (Instr.sliceAt tid vx vlo vhi none).run P w = .ok u w ∧ Den P E ρ H v u ∧ v.lt S.nx := by
  have part : ∀ (d : D) (b1 b2 : Nat), x = .dat (.slice eid) d → b1 ≤ b2 → b2 ≤ d.l.length → ((vlo = none ∧ b1 = 0) ∨ ∃ k i, vlo = some (.int k i) ∧ 0 ≤ i ∧ b1 = i.toNat) → ((vhi = none ∧ b2 = d.l.length) ∨ ∃ k i, vhi = some (.int k i) ∧ 0 ≤ i ∧ b2 = i.toNat) →
      ∃ u, (Instr.sliceAt tid vx vlo vhi none).run P w = .ok u w ∧ Den P E ρ H (.dat (.slice eid) (.list ((d.l.take b2).drop b1))) u := by
    intro d b1 b2 hd h1 h2 h3 h4
    subst hd
    cases hx with | dat _ hr =>
    cases hr with
    | slice css hc hcap hn hz hm hr => exact ⟨_, run_part tid eid hu hs _ _ _ hc vlo vhi b1 b2 h3 h4 h1 h2 w, .dat rfl (rep_part css hc hcap hn hz hm hr b1 b2 h1 h2)⟩
  have int : ∀ {y : Option SV} {vy : Option Value} {k : IntKind} {i : Int}, (y = none ∧ vy = none ∨ ∃ z u, y = some z ∧ vy = some u ∧ Den P E ρ H z u) → y = some (.int k i) → vy = some (.int k i) := by
    intro y vy k i h1 h2
    rcases h1 with ⟨h3, _⟩ | ⟨z, u, h3, h4, h5⟩
    · rw [h3] at h2; cases h2
    · rw [h3] at h2; cases h2; cases h5 with | int _ => exact h4
  have nope : ∀ {y : Option SV} {vy : Option Value}, (y = none ∧ vy = none ∨ ∃ z u, y = some z ∧ vy = some u ∧ Den P E ρ H z u) → y = none → vy = none := by
    intro y vy h1 h2
    rcases h1 with ⟨_, h3⟩ | ⟨z, u, h3, _⟩
    · exact h3
    · rw [h3] at h2; cases h2
  unfold evSlc at h
  split at h
  · rename_i eid' d k b
    cases h
    obtain ⟨rfl, h0, h1⟩ := hp
    obtain ⟨u, h2, h3⟩ := part d 0 b.toNat rfl (Nat.zero_le _) (by omega) (.inl ⟨nope hlo rfl, rfl⟩) (.inr ⟨_, _, int hhi rfl, h0, rfl⟩)
    exact ⟨u, h2, by simpa using h3, trivial⟩
  · rename_i eid' d k b
    cases h
    obtain ⟨rfl, h0, h1⟩ := hp
    obtain ⟨u, h2, h3⟩ := part d b.toNat d.l.length rfl (by omega) (Nat.le_refl _) (.inr ⟨_, _, int hlo rfl, h0, rfl⟩) (.inl ⟨nope hhi rfl, rfl⟩)
    exact ⟨u, h2, by simpa using h3, trivial⟩
  · rename_i eid' d k b k' b'
    cases h
    obtain ⟨rfl, h0, h1, h2⟩ := hp
    obtain ⟨u, h3, h4⟩ := part d b.toNat b'.toNat rfl (by omega) (by omega) (.inr ⟨_, _, int hlo rfl, h0, rfl⟩) (.inr ⟨_, _, int hhi rfl, by omega, rfl⟩)
    exact ⟨u, h3, h4, trivial⟩
  · rename_i eid' d
    cases h
    cases hp
    have hd : ∃ l, d = .list l := by
      cases hx with | dat _ hr => cases hr with | slice => exact ⟨_, rfl⟩
    obtain ⟨l, rfl⟩ := hd
    obtain ⟨u, h3, h4⟩ := part (.list l) 0 l.length rfl (Nat.zero_le _) (Nat.le_refl _) (.inl ⟨nope hlo rfl, rfl⟩) (.inl ⟨nope hhi rfl, rfl⟩)
    exact ⟨u, h3, by simpa [D.l] using h4, trivial⟩
  · cases h
    cases hx with | nils =>
    have := run_part (P := P) tid eid hu hs none 0 0 (Nat.le_refl _) vlo vhi 0 0 (.inl ⟨nope hlo rfl, rfl⟩) (.inl ⟨nope hhi rfl, rfl⟩) (Nat.le_refl _) (Nat.le_refl _) w
    exact ⟨_, this, .nils, trivial⟩
  · cases h
end
end Go.Fw
