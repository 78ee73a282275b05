import Derived.Test.YtmjenjccinfbaaaDoorFwL
import Derived.Great.FillDense
import Derived.Great.BuildSlice
/- The frame-work, part M: the machine does what 'ev' says: append, make, slices that are written out, parts of slices. -/
namespace Go.Fw
set_option linter.unusedVariables false
set_option linter.unusedSimpArgs false
open Go

section
variable {P : Program} {E : Nat → Value}

/-- What the translator says of an element type, and the slices of it. -/
structure ElemOk (P : Program) (tid eid : TypeId) (bytes : Nat) (z : Value) : Prop where
  u : P.underlying tid = some (.slice eid)
  i : ∃ i, P.info? eid = some i ∧ i.size = (tyOf P 8 eid).size ∧ i.bytes = bytes ∧ i.zero = some z
  zs : z.cells.size = (tyOf P 8 eid).size
  s0 : 0 < (tyOf P 8 eid).size
  b0 : 0 < bytes

/-- The elements of a slice, as a row of cells that can be read. -/
def Reads (w : World) (sz : Nat) (v : Value) (n : Nat) (xs : List Value) : Prop :=
  xs.length = n * sz ∧ ((v = .slice none 0 0 ∧ n = 0) ∨ ∃ ad cap, v = .slice (some ad) n cap ∧ ∀ j u, xs[j]? = some u → w.cell? (ad.add j) = some u)

theorem rep_row {H : FH} {e : Ty} {b o : Nat} : ∀ {l : List D} (css : Nat → List Value), (∀ i, i < l.length → ∀ j v, (css i)[j]? = some v → H b (o + i * e.size + j) = some v) → (∀ i (hi : i < l.length), Rep P E H e l[i] (css i)) →
    ∃ xs, RepL P E H (List.replicate l.length e) l xs ∧ ∀ j v, xs[j]? = some v → H b (o + j) = some v := by
  intro l
  induction l generalizing o with
  | nil => intro css _ _; exact ⟨[], .nil, by simp⟩
  | cons d l ih =>
    intro css hm hr
    obtain ⟨xs, h1, h2⟩ := ih (o := o + e.size) (fun i => css (i + 1)) (fun i hi j v hj => by
      have := hm (i + 1) (by simpa using hi) j v hj
      rwa [show o + (i + 1) * e.size + j = o + e.size + i * e.size + j from by rw [Nat.succ_mul]; omega] at this) (fun i hi => hr (i + 1) (by simpa using hi))
    have h0 := hr 0 (by simp)
    have hl := rep_len h0
    refine ⟨css 0 ++ xs, by rw [List.length_cons, List.replicate_succ]; exact .cons h0 h1, fun j v hj => ?_⟩
    rw [List.getElem?_append] at hj
    split at hj
    · have := hm 0 (by simp) j v hj; simpa using this
    · have := h2 _ v hj
      rwa [show o + e.size + (j - (css 0).length) = o + j from by omega] at this

theorem els_reads {c : Ctx} {ρ : Nat → Value} {H : FH} {S : SSt} {a : Act} {w : World} (s : Sat P E c ρ H S a w) {eid : TypeId} {y : SV} {ys : List D} (h : evEls eid y S.h = some ys) {vy : Value} (hy : Den P E ρ H y vy) :
    ∃ xs, Reads w (tyOf P 8 eid).size vy ys.length xs ∧ RepL P E H (List.replicate ys.length (tyOf P 8 eid)) ys xs := by
  unfold evEls at h
  split at h
  · split at h
    · rename_i e; subst e
      cases h
      cases hy with | dat _ hr =>
      cases hr with
      | slice css hc hcap hn hz hm hr =>
        rename_i l ad cap
        simp only [D.l]
        by_cases hl : l = []
        · subst hl
          refine ⟨[], ⟨by simp, ?_⟩, .nil⟩
          cases ad with
          | none => cases hz rfl; exact .inl ⟨rfl, rfl⟩
          | some ad => exact .inr ⟨ad, cap, rfl, by simp⟩
        · obtain ⟨ad', e1, e2⟩ := hn hl
          subst e1
          obtain ⟨b, o, sp⟩ := ad'
          cases e2
          obtain ⟨xs, h1, h2⟩ := rep_row css (fun i hi => hm i hi _ rfl) hr
          have := repL_len h1
          rw [sizeL_replicate] at this
          exact ⟨xs, ⟨this, .inr ⟨_, cap, rfl, fun j u hj => by rw [add_lit]; exact s.hin _ _ _ (h2 j u hj)⟩⟩, h1⟩
    · cases h
  · split at h
    · rename_i n eid' e' l hn
      split at h
      · rename_i e; subst e
        cases h
        obtain ⟨⟨he, xs, hown, hr, _⟩, _⟩ := s.tok hn
        cases hy with | vec _ =>
        by_cases hl : ys = []
        · subst hl
          cases hr
          refine ⟨[], ⟨by simp, ?_⟩, .nil⟩
          rcases hown.2 with ⟨⟨a0, h1⟩, h2⟩ | ⟨g, cap, cur, hv, h0, _⟩
          · cases a0 with
            | none => exact .inl ⟨h1, rfl⟩
            | some ad => exact .inr ⟨ad, 0, by rw [h1]; rfl, by simp⟩
          · exact .inr ⟨_, cap, hv, by simp⟩
        have he := he hl
        subst he
        refine ⟨xs, ⟨hown.1, ?_⟩, hr⟩
        rcases hown.2 with ⟨⟨a0, h1⟩, h2⟩ | ⟨g, cap, cur, hv, h0, _⟩
        · cases a0 with
          | none => exact .inl ⟨h1, h2⟩
          | some ad =>
            refine .inr ⟨ad, 0, by rw [h1, h2], fun j u hu => ?_⟩
            have h3 := hown.1
            rw [h2, Nat.zero_mul] at h3
            rw [List.eq_nil_of_length_eq_zero h3] at hu
            cases hu
        · refine .inr ⟨_, cap, hv, fun j u hu => ?_⟩
          rw [add_lit, Nat.zero_add]
          exact hown.cells (by rw [hv]; exact blk_slice h0) j u hu
      · cases h
    · cases h
  · cases h
    cases hy with | nils => exact ⟨[], ⟨by simp, .inl ⟨rfl, rfl⟩⟩, .nil⟩
  · cases h

theorem reads_ones (hE : ∀ k, (E k).oneCell' = true) {H : FH} {e : Ty} {n : Nat} {ys : List D} {xs : List Value} (h : RepL P E H (List.replicate n e) ys xs) : ∀ u ∈ xs, u.oneCell' = true := repL_one hE h

theorem own_one {w : World} {e : TypeId} {size : Nat} {v : Value} {n : Nat} {xs : List Value} (h : Owns w e size v n xs) : v.oneCell' = true := by
  rcases h.2 with ⟨⟨a, h1⟩, _⟩ | ⟨g, cap, cur, hv, _⟩
  · rw [h1]; rfl
  · rw [hv]; rfl

theorem run_append_zero {t ty e : TypeId} {i : TypeInfo} (ht : P.underlying t = some (.slice e)) (hi : P.info? e = some i) (a : Option Addr) (v : Value) (hv : v = .slice none 0 0 ∨ ∃ ad c, v = .slice (some ad) 0 c) (w : World) :
    (Builtin.append_ #[t, t] ty #[.slice a 0 0, v]).run P w = .ok (.slice a 0 0) w := by
  rcases hv with rfl | ⟨ad, c, rfl⟩ <;> cases a <;> simp [Builtin.append_, run_underlying ht, sizeOf, typeInfo, hi, Builtin.lenOf, Builtin.firstCells, storeCells, loadCells, loadCellsFrom]

/-- append, onto what is owned. -/
theorem run_app {tid eid : TypeId} {bytes : Nat} {z : Value} (ok : ElemOk P tid eid bytes z) (ty : TypeId) {w : World} {v : Value} {n : Nat} {xs : List Value} (hown : Owns w eid (tyOf P 8 eid).size v n xs)
    {vy : Value} {m : Nat} {news : List Value} (hr : Reads w (tyOf P 8 eid).size vy m news) (h1 : ∀ u ∈ news, u.oneCell' = true) (hb : (n + m) * bytes ≤ 140737488355328) :
    ∃ v' w', (Builtin.append_ #[tid, tid] ty #[v, vy]).run P w = .ok v' w' ∧ Owns w' eid (tyOf P 8 eid).size v' (n + m) (xs ++ news) ∧ w.grownBy w' (blk v) ∧ ∀ b, blk v' = some b → blk v = some b ∨ w.heap.size ≤ b := by
  obtain ⟨i, hi, hs, hby, hz⟩ := ok.i
  have h63 : n + m ≤ maxLen := by
    have : n + m ≤ (n + m) * bytes := Nat.le_mul_of_pos_right _ ok.b0
    unfold maxLen; omega
  rcases hown.2 with ⟨⟨a, rfl⟩, rfl⟩ | ⟨g, cap, cur, hv, hg, hh, hnc, hcm, hcs, htake⟩
  · have hxs : xs = [] := List.eq_nil_of_length_eq_zero (by have := hown.1; omega)
    subst hxs
    by_cases hm : m = 0
    · subst hm
      have hx : news = [] := List.eq_nil_of_length_eq_zero (by have := hr.1; omega)
      subst hx
      refine ⟨_, w, run_append_zero ok.u hi a vy ?_ w, by simpa using hown, ⟨rfl, rfl, rfl, Nat.le_refl _, fun _ _ _ => rfl⟩, fun b hb => .inl hb⟩
      rcases hr.2 with ⟨h, _⟩ | ⟨ad, c, h, _⟩
      · exact .inl h
      · exact .inr ⟨ad, c, h⟩
    · rcases hr.2 with ⟨_, h⟩ | ⟨ad, c, rfl, hnews⟩
      · exact absurd h hm
      · cases a with
        | none =>
          obtain ⟨v', w', h2, h3, h4, _⟩ := run_append_own (P := P) w w.heap.size tid ty eid i z _ bytes ok.u hi hz hs hby ok.zs ok.s0 (.slice none 0 0) 0 [] (World.ownsRow_nil w w.heap.size eid (tyOf P 8 eid).size) ad m c news hr.1 hnews h1 h63 hb (Nat.le_refl _)
          refine ⟨v', w', h2, Owns.of h3, h4, fun b hb' => ?_⟩
          right
          rcases h3.2 with ⟨h5, _⟩ | ⟨g, cap, cur, hv, hg, _⟩
          · rw [h5] at hb'; simp [blk] at hb'
          · rw [hv] at hb'
            simp only [blk] at hb'
            split at hb'
            · cases hb'
            · cases hb'; exact hg
        | some a =>
          have h5 := run_append_grow (P := P) w tid ty eid i z ok.u hi hz a 0 0 [] (by simp) (by simp) ad m c news (by rw [hs]; exact hr.1) hnews (by omega)
            (by simp only [maxLen] at h63; omega) (growslice_fits (by omega) (by rw [hby]; exact hb))
          have h6 := run_append_own (P := P) w w.heap.size tid ty eid i z _ bytes ok.u hi hz hs hby ok.zs ok.s0 (.slice none 0 0) 0 [] (World.ownsRow_nil w w.heap.size eid (tyOf P 8 eid).size) ad m c news hr.1 hnews h1 h63 hb (Nat.le_refl _)
          have h7 := run_append_nil (P := P) w tid ty eid i z ok.u hi hz ad m c news (by rw [hs]; exact hr.1) hnews (by omega) (by simp only [maxLen] at h63; omega) (by rw [hby]; have hb' := hb; rw [Nat.zero_add] at hb'; omega)
          obtain ⟨v', w', h2, h3, h4, _⟩ := h6
          have h8 : (Builtin.append_ #[tid, tid] ty #[.slice (some a) 0 0, .slice (some ad) m c]).run P w = .ok v' w' := by
            rw [h7] at h2
            cases h2
            rw [h5]
            simp
          refine ⟨v', w', h8, Owns.of h3, ?_, fun b hb' => ?_⟩
          · exact h4
          right
          rcases h3.2 with ⟨h5, _⟩ | ⟨g, cap, cur, hv, hg, _⟩
          · rw [h5] at hb'; simp [blk] at hb'
          · rw [hv] at hb'
            simp only [blk] at hb'
            split at hb'
            · cases hb'
            · cases hb'; exact hg
  · have hown' : w.ownsRow 0 eid (tyOf P 8 eid).size v n xs := ⟨hown.1, .inr ⟨g, cap, cur, hv, Nat.zero_le _, hh, hnc, hcm, hcs, htake⟩⟩
    have hbv : v.ownBlock = blk v := by rw [hv, blk_slice hg]; rfl
    rcases hr.2 with ⟨rfl, rfl⟩ | ⟨ad, c, rfl, hnews⟩
    · have hx : news = [] := List.eq_nil_of_length_eq_zero (by have := hr.1; simpa using this)
      subst hx
      refine ⟨v, w, run_append_owned_none w 0 tid ty eid i _ ok.u hi v n xs hown', by simpa using hown, ⟨rfl, rfl, rfl, Nat.le_refl _, fun _ _ _ => rfl⟩, fun b hb => .inl hb⟩
    · obtain ⟨v', w', h2, h3, h4, _⟩ := run_append_own (P := P) w 0 tid ty eid i z _ bytes ok.u hi hz hs hby ok.zs ok.s0 v n xs hown' ad m c news hr.1 hnews h1 h63 hb (Nat.zero_le _)
      refine ⟨v', w', h2, Owns.of h3, by rw [← hbv]; exact h4, fun b hb' => ?_⟩
      subst hv
      by_cases hroom : n + m ≤ cap
      · obtain ⟨w'', h5, _⟩ := run_append_fits (P := P) (w := w) 0 tid ty eid i _ ok.u hi hs g n cap xs hown' ad m c news hr.1 hnews h1 hroom
        rw [h5] at h2
        cases h2
        left
        rw [blk_slice hg] at hb' ⊢
        exact hb'
      · have h5 := run_append_grow (P := P) w tid ty eid i z ok.u hi hz ⟨g, 0, none⟩ n cap xs (by rw [hs]; exact hown.1) (hown'.cells (g := g) rfl) ad m c news (by rw [hs]; exact hr.1) hnews (by omega)
          (by simp only [maxLen] at h63; omega) (growslice_fits (by omega) (by rw [hby]; exact hb))
        rw [h5] at h2
        cases h2
        simp only [blk] at hb'
        split at hb'
        · cases hb'
        · cases hb'; exact .inr (Nat.le_refl _)

theorem kept_grown {w w' : World} {r : Option Nat} (h : w.grownBy w' r) : Kept w (fun b => r = some b) w' :=
  ⟨h.os, h.tape, h.output, h.size, fun b hb hn => h.block b hb (fun e => hn e.symm)⟩

theorem app_sound (hE : ∀ k, (E k).oneCell' = true) {c : Ctx} {ρ : Nat → Value} {H : FH} {S : SSt} {a : Act} {w : World} (s : Sat P E c ρ H S a w) {tid eid : TypeId} {bytes : Nat} {z : Value} (ok : ElemOk P tid eid bytes z) (ty : TypeId)
    {x y v : SV} {p : Prop} {h' : Heap} (h : evApp eid (tyOf P 8 eid) bytes x y S.h S.nx = some (p, v, h')) (hp : p) {vx vy : Value} (hx : Den P E ρ H x vx) (hy : Den P E ρ H y vy) :
    ∃ u w' ρ', (Builtin.append_ #[tid, tid] ty #[vx, vy]).run P w = .ok u w' ∧ Sat P E c ρ' H { f := S.f, h := h', nx := S.nx + 1 } a w' ∧ Den P E ρ' H v u ∧ v.lt (S.nx + 1) := by
  unfold evApp at h
  split at h
  · cases h
  · rename_i ys e1
    obtain ⟨news, hr, hrep⟩ := els_reads s e1 hy
    have hones := repL_one hE hrep
    split at h
    · cases h
      cases hx with | nils =>
      obtain ⟨v', w', h1, h2, h3, h4⟩ := run_app ok ty (Owns.of (World.ownsRow_nil w 0 eid (tyOf P 8 eid).size)) hr hones (by simpa using hp)
      refine ⟨v', w', upd ρ S.nx v', h1, ?_, ?_, Nat.lt_succ_self _⟩
      · refine s.grow (Nat.le_refl _) (Nat.lt_succ_self _) v' _ ?_ ⟨fun _ => rfl, news, ?_, hrep, ?_⟩ ?_ trivial
        · have := kept_grown h3
          exact ⟨this.os, this.tape, this.output, this.size, fun b hb _ => this.block b hb (by simp [blk])⟩
        · rw [upd_same]; simpa using h2
        · rw [upd_same]
          intro b hb o
          rcases h4 b hb with h5 | h5
          · simp [blk] at h5
          · exact s.hin.none_new h5 o
        · intro b hb
          rcases h4 b hb with h5 | h5
          · simp [blk] at h5
          · exact h5
      · have := Den.vec (P := P) (E := E) (ρ := upd ρ S.nx v') (H := H) (n := S.nx) (by rw [upd_same]; exact own_one h2)
        rwa [upd_same] at this
    · split at h
      · rename_i n _ eid' e' xs hn
        split at h
        · rename_i he; subst he
          cases h
          obtain ⟨rfl, hp⟩ := hp
          obtain ⟨⟨_, cs, hown, hrx, hH⟩, hnl, _⟩ := s.tok hn
          cases hx with | vec _ =>
          obtain ⟨v', w', h1, h2, h3, h4⟩ := run_app ok ty hown hr hones hp
          refine ⟨v', w', upd ρ S.nx v', h1, ?_, ?_, Nat.lt_succ_self _⟩
          · refine s.renew hn (Nat.le_refl _) (Nat.lt_succ_self _) v' _ ?_ ⟨fun _ => rfl, cs ++ news, ?_, repL_replicate hrx hrep, ?_⟩ h4 trivial
            · have := kept_grown h3
              exact ⟨this.os, this.tape, this.output, this.size, fun b hb hb' => this.block b hb hb'⟩
            · rw [upd_same, List.length_append]; exact h2
            · rw [upd_same]
              intro b hb o
              rcases h4 b hb with h5 | h5
              · exact hH b h5 o
              · exact s.hin.none_new h5 o
          · have := Den.vec (P := P) (E := E) (ρ := upd ρ S.nx v') (H := H) (n := S.nx) (by rw [upd_same]; exact own_one h2)
            rwa [upd_same] at this
        · cases h
      · cases h
    · cases h

/-! ### make -/
theorem made_cons (z : Array Value) (s n : Nat) (hs : z.size = s) (h0 : 0 < s) : (madeCells z ((n + 1) * s)).toList = z.toList ++ (madeCells z (n * s)).toList := by
  subst hs
  apply List.ext_getElem?
  intro i
  simp only [madeCells, Array.toList_map, List.getElem?_append, List.getElem?_map, Array.toList_range]
  by_cases h : i < z.size
  · rw [if_pos (by simpa using h)]
    have h2 : i < (n + 1) * z.size := by rw [Nat.succ_mul]; omega
    rw [List.getElem?_range h2]
    simp [Nat.mod_eq_of_lt h, h]
  · rw [if_neg (by simpa using h)]
    by_cases h3 : i < (n + 1) * z.size
    · have h4 : i - z.size < n * z.size := by rw [Nat.succ_mul] at h3; omega
      rw [List.getElem?_range h3, Array.length_toList, List.getElem?_range h4]
      simp only [Option.map_some]
      rw [Nat.mod_eq_sub_mod (by omega)]
    · have h4 : ¬ i - z.size < n * z.size := by rw [Nat.succ_mul] at h3; omega
      rw [List.getElem?_eq_none (by simpa using h3), Array.length_toList, List.getElem?_eq_none (by simpa using h4)]

theorem made_rep {H : FH} {e : Ty} {z : Array Value} {d : D} (hs : z.size = e.size) (h0 : 0 < e.size) (hz : Rep P E H e d z.toList) (n : Nat) : RepL P E H (List.replicate n e) (List.replicate n d) (madeCells z (n * e.size)).toList := by
  induction n with
  | zero => simp [madeCells]; exact .nil
  | succ n ih =>
    rw [made_cons z e.size n hs h0, List.replicate_succ, List.replicate_succ]
    exact .cons hz ih

theorem mk_sound {c : Ctx} {ρ : Nat → Value} {H : FH} {S : SSt} {a : Act} {w : World} (s : Sat P E c ρ H S a w) {tid eid : TypeId} {bytes : Nat} {z : Value} (ok : ElemOk P tid eid bytes z) {d : D} (hz : Rep P E H (tyOf P 8 eid) d z.cells.toList)
    {kl kc : IntKind} {l cc : Int} (h0 : 0 ≤ l) (h1 : l ≤ cc) (h2 : cc * bytes ≤ 140737488355328) :
    ∃ u w' ρ', (Instr.makeSlice tid (.int kl l) (.int kc cc)).run P w = .ok u w' ∧ Sat P E c ρ' H { f := S.f, h := (S.nx, .arr eid (tyOf P 8 eid) (List.replicate l.toNat d)) :: S.h, nx := S.nx + 1 } a w' ∧ Den P E ρ' H (.vec S.nx) u := by
  obtain ⟨i, hi, hs, hby, hzz⟩ := ok.i
  have hcc : cc ≤ 140737488355328 := by
    have hb : (1 : Int) ≤ bytes := by have := ok.b0; omega
    have : cc * 1 ≤ cc * bytes := Int.mul_le_mul_of_nonneg_left hb (by omega)
    omega
  have hr := run_make (P := P) w tid eid i z ok.u hi hzz kl kc l cc h0 h1 (by rw [hby, Int.mul_comm]; omega) (by omega)
  refine ⟨_, _, upd ρ S.nx (.slice (some ⟨w.heap.size, 0, none⟩) l.toNat cc.toNat), hr, ?_, ?_⟩
  · refine s.grow (Nat.le_refl _) (Nat.lt_succ_self _) _ _ (kept_alloc w _) ⟨fun _ => rfl, (madeCells z.cells (l.toNat * (tyOf P 8 eid).size)).toList, ?_, ?_, ?_⟩ (fun b hb => by simp [blk] at hb; omega) trivial
    · rw [upd_same, List.length_replicate]
      refine Owns.of (base := 0) ⟨by rw [Array.length_toList, size_madeCells], .inr ⟨w.heap.size, cc.toNat, _, rfl, Nat.zero_le _, heap_alloc_last w _, by omega, by unfold maxLen; omega, by rw [size_madeCells, hs], ?_⟩⟩
      have hle : l.toNat * (tyOf P 8 eid).size ≤ cc.toNat * (tyOf P 8 eid).size := Nat.mul_le_mul_right _ (by omega)
      rw [hs]
      apply List.ext_getElem?
      intro j
      simp only [madeCells, Array.toList_map, Array.toList_range, List.getElem?_take, List.getElem?_map]
      split
      · rename_i hj
        rw [List.getElem?_range (by omega), List.getElem?_range hj]
      · rename_i hj
        rw [List.getElem?_eq_none (by simpa using hj)]; rfl
    · rw [List.length_replicate]; exact made_rep ok.zs ok.s0 hz _
    · intro b hb o
      rw [upd_same] at hb
      simp [blk] at hb
      exact s.hin.none_new (by omega) o
  · have := Den.vec (P := P) (E := E) (ρ := upd ρ S.nx (.slice (some ⟨w.heap.size, 0, none⟩) l.toNat cc.toNat)) (H := H) (n := S.nx) (by rw [upd_same]; rfl)
    rwa [upd_same] at this
end
end Go.Fw

/- The frame-work, part N: slices that are written out, parts of slices, structs that are written out. -/
namespace Go.Fw
set_option linter.unusedVariables false
set_option linter.unusedSimpArgs false
open Go

section
variable {P : Program} {E : Nat → Value}

theorem evParts_den (hE : ∀ k, (E k).oneCell' = true) {ρ : Nat → Value} {H : FH} {e : Ty} : ∀ {xs : List SV} {vs : List Value} {ds : List D}, DenV P E ρ H xs vs → evParts e xs = some ds → RepL P E H (List.replicate ds.length e) ds (vs.flatMap fun v => v.cells.toList) ∧ (∀ v ∈ vs, v.cells.size = e.size) ∧ ds.length = vs.length := by
  intro xs
  induction xs with
  | nil => intro vs ds hd h; cases hd; simp only [evParts] at h; cases h; exact ⟨.nil, by simp, rfl⟩
  | cons x xs ih =>
    intro vs ds hd h
    cases hd with
    | cons hx hxs =>
      simp only [evParts] at h
      split at h
      · rename_i d ds' e1 e2
        split at h
        · rename_i hok
          cases h
          obtain ⟨h1, h2, h3⟩ := ih hxs e2
          obtain ⟨cs, hv, hc⟩ := svCells_den hE hx hok
          have hr := toD_all e1 hc
          have hl := rep_len hr
          refine ⟨?_, ?_, by simp [h3]⟩
          · rw [List.length_cons, List.replicate_succ, List.flatMap_cons, hv]
            exact .cons hr h1
          · intro v hv'
            rcases List.mem_cons.1 hv' with rfl | hv'
            · rw [hv]; simpa using hl
            · exact h2 v hv'
        · cases h
      · cases h

theorem bsl_sound (hE : ∀ k, (E k).oneCell' = true) {c : Ctx} {ρ : Nat → Value} {H : FH} {S : SSt} {a : Act} {w : World} (s : Sat P E c ρ H S a w) {tid eid : TypeId} {bytes : Nat} {z : Value} (ok : ElemOk P tid eid bytes z)
    {xs : List SV} {vs : List Value} {ds : List D} (hd : DenV P E ρ H xs vs) (h : evParts (tyOf P 8 eid) xs = some ds) (hn : vs.length * (tyOf P 8 eid).size ≤ 16777216) (h0 : 0 < vs.length) :
    ∃ u w' ρ', (Instr.buildSlice tid vs.length ((vs.zipIdx 0).map fun x => (x.2, x.1)).toArray).run P w = .ok u w' ∧ Sat P E c ρ' H { f := S.f, h := (S.nx, .arr eid (tyOf P 8 eid) ds) :: S.h, nx := S.nx + 1 } a w' ∧ Den P E ρ' H (.vec S.nx) u := by
  obtain ⟨i, hi, hs, hby, hz⟩ := ok.i
  obtain ⟨h1, h2, h3⟩ := evParts_den hE hd h
  have hfill := Great.fill_whole ok.s0 vs ((Array.range (vs.length * i.size)).map (z.cells[· % z.cells.size]!)) h2 (by simp [hs])
  have hpos : 0 < vs.length * (tyOf P 8 eid).size := Nat.mul_pos h0 ok.s0
  have hr := run_buildSlice (P := P) w tid eid vs.length ((vs.zipIdx 0).map fun x => (x.2, x.1)).toArray _ i z ok.u hi hz (by rw [hs]; omega) (by rw [hs]; omega) (by rw [hs]; simpa [hs] using hfill)
  have hlen := repL_len h1
  rw [sizeL_replicate] at hlen
  have hmax : vs.length ≤ maxLen := by
    have : vs.length * 1 ≤ vs.length * (tyOf P 8 eid).size := Nat.mul_le_mul_left _ ok.s0
    unfold maxLen; omega
  refine ⟨_, _, upd ρ S.nx (.slice (some ⟨w.heap.size, 0, none⟩) vs.length vs.length), hr, ?_, ?_⟩
  · refine s.grow (Nat.le_refl _) (Nat.lt_succ_self _) _ _ (kept_alloc w _) ⟨fun _ => rfl, _, ?_, h1, ?_⟩ (fun b hb => by simp [blk] at hb; omega) trivial
    · rw [upd_same, h3]
      have := Owns.of <| World.ownsRow_lit (base := 0) (e := eid) (size := (tyOf P 8 eid).size) w (vs.flatMap fun v => v.cells.toList).toArray vs.length (Nat.zero_le _) hmax (by rw [List.size_toArray, hlen, h3])
      simpa using this
    · intro b hb o
      rw [upd_same] at hb
      simp [blk] at hb
      exact s.hin.none_new (by omega) o
  · have := Den.vec (P := P) (E := E) (ρ := upd ρ S.nx (.slice (some ⟨w.heap.size, 0, none⟩) vs.length vs.length)) (H := H) (n := S.nx) (by rw [upd_same]; rfl)
    rwa [upd_same] at this

theorem run_bound (k : IntKind) (i : Int) (y : Nat) (code : BoundsCode) (w : World) (h0 : 0 ≤ i) (h1 : i ≤ y) : (Instr.sliceBound (.int k i) y code).run P w = .ok i.toNat w := by
  simp [Instr.sliceBound, asIntOf, Sem.run_bind, h0, h1, Sem.run, pure]

/-- A part of a slice. -/
theorem run_part (tid eid : TypeId) (hu : P.underlying tid = some (.slice eid)) {sz : Nat} (hs : (P.info? eid).map (·.size) = some sz) (ad : Option Addr) (n cap : Nat) (hc : n ≤ cap) (lo hi : Option Value) (l h : Nat)
    (hlo : (lo = none ∧ l = 0) ∨ ∃ k i, lo = some (.int k i) ∧ 0 ≤ i ∧ l = i.toNat) (hhi : (hi = none ∧ h = n) ∨ ∃ k i, hi = some (.int k i) ∧ 0 ≤ i ∧ h = i.toNat) (h1 : l ≤ h) (h2 : h ≤ n) (w : World) :
    (Instr.sliceAt tid (.slice ad n cap) lo hi none).run P w = .ok (.slice (if cap = l then ad else ad.map (·.add (l * sz))) (h - l) (cap - l)) w := by
  have hb : (Instr.sliceBounds true n cap lo hi none).run P w = .ok (l, h, cap) w := by
    rcases hlo with ⟨rfl, rfl⟩ | ⟨k, i, rfl, hi0, rfl⟩ <;> rcases hhi with ⟨rfl, rfl⟩ | ⟨k', i', rfl, hj0, rfl⟩
    · simp [Instr.sliceBounds, Sem.run_bind, Sem.run, pure]
    · simp [Instr.sliceBounds, Sem.run_bind, run_bound k' i' cap _ w hj0 (by omega), Sem.run, pure]
    · simp [Instr.sliceBounds, Sem.run_bind, run_bound k i h _ w hi0 (by omega), Sem.run, pure]
    · simp [Instr.sliceBounds, Sem.run_bind, run_bound k' i' cap _ w hj0 (by omega), run_bound k i i'.toNat _ w hi0 (by omega), Sem.run, pure]
  simp [Instr.sliceAt, Instr.slice, Sem.run_bind, run_underlying hu, hb, run_sizeOf eid hs, Sem.run, pure]

theorem rep_part {H : FH} {eid : TypeId} {l : List D} {ad : Option Addr} {cap : Nat} (css : Nat → List Value) (hc : l.length ≤ cap) (hcap : cap ≤ maxLen) (hn : l ≠ [] → ∃ a, ad = some a ∧ a.spot = none) (hz : ad = none → cap = 0)
    (hm : ∀ i, i < l.length → ∀ a, ad = some a → ∀ j v, (css i)[j]? = some v → H a.block (a.off + i * (tyOf P 8 eid).size + j) = some v) (hr : ∀ i (hi : i < l.length), Rep P E H (tyOf P 8 eid) l[i] (css i)) (a b : Nat) (h1 : a ≤ b) (h2 : b ≤ l.length) :
    Rep P E H (.slice eid) (.list ((l.take b).drop a)) [.slice (if cap = a then ad else ad.map (·.add (a * (tyOf P 8 eid).size))) (b - a) (cap - a)] := by
  have hlen : ((l.take b).drop a).length = b - a := by simp; omega
  rw [← hlen]
  have hsp : ∀ x, (ad.map (·.add (a * (tyOf P 8 eid).size))) = some x → l ≠ [] → ∃ y, ad = some y ∧ y.spot = none ∧ x = ⟨y.block, y.off + a * (tyOf P 8 eid).size, none⟩ := by
    intro x hx hl
    obtain ⟨y, e1, e2⟩ := hn hl
    subst e1
    obtain ⟨b', o, sp⟩ := y
    cases e2
    simp only [Option.map_some, add_lit, Option.some.injEq] at hx
    exact ⟨_, rfl, rfl, hx.symm⟩
  by_cases he : (l.take b).drop a = []
  · rw [he]
    exact .slice (l := []) (fun _ => []) (Nat.zero_le _) (by omega) (fun h => absurd rfl h) (by
      intro hx
      split at hx
      · rename_i e; omega
      · cases ad with
        | none => have := hz rfl; omega
        | some x => simp at hx) (fun i hi => by simp at hi) (fun i hi => by simp at hi)
  · have hab : a < b := by
      rcases Nat.lt_or_ge a b with h | h
      · exact h
      · exfalso; apply he; rw [List.drop_eq_nil_iff]; simp; omega
    have hl : l ≠ [] := by intro e; rw [e] at he; simp at he
    rw [if_neg (by omega)]
    obtain ⟨y, e1, e2⟩ := hn hl
    subst e1
    obtain ⟨b', o, sp⟩ := y
    cases e2
    refine .slice (fun i => css (a + i)) (by omega) (by omega) (fun _ => ⟨⟨b', o + a * (tyOf P 8 eid).size, none⟩, by simp only [Option.map_some, add_lit], rfl⟩) (fun h => by simp at h) ?_ ?_
    · intro i hi x hx j v hv
      simp only [Option.map_some, add_lit, Option.some.injEq] at hx
      subst hx
      have := hm (a + i) (by omega) _ rfl j v hv
      simp only at this ⊢
      rwa [show o + (a + i) * (tyOf P 8 eid).size + j = o + a * (tyOf P 8 eid).size + i * (tyOf P 8 eid).size + j from by rw [Nat.add_mul]; omega] at this
    · intro i hi
      rw [List.getElem_drop, List.getElem_take]
      exact hr (a + i) (by omega)

theorem slc_sound {c : Ctx} {ρ : Nat → Value} {H : FH} {S : SSt} {a : Act} {w : World} (s : Sat P E c ρ H S a w) {tid eid : TypeId} (hu : P.underlying tid = some (.slice eid)) (hs : (P.info? eid).map (·.size) = some (tyOf P 8 eid).size)
    {x : SV} {lo hi : Option SV} {p : Prop} {v : SV} (h : evSlc eid x lo hi = some (p, v)) (hp : p) {vx : Value} (hx : Den P E ρ H x vx) {vlo vhi : Option Value} (hlo : lo = none ∧ vlo = none ∨ ∃ y u, lo = some y ∧ vlo = some u ∧ Den P E ρ H y u)
    (hhi : hi = none ∧ vhi = none ∨ ∃ y u, hi = some y ∧ vhi = some u ∧ Den P E ρ H y u) :
    ∃ u, (Instr.sliceAt tid vx vlo vhi none).run P w = .ok u w ∧ Den P E ρ H v u ∧ v.lt S.nx := by
  have part : ∀ (d : D) (b1 b2 : Nat), x = .dat (.slice eid) d → b1 ≤ b2 → b2 ≤ d.l.length → ((vlo = none ∧ b1 = 0) ∨ ∃ k i, vlo = some (.int k i) ∧ 0 ≤ i ∧ b1 = i.toNat) → ((vhi = none ∧ b2 = d.l.length) ∨ ∃ k i, vhi = some (.int k i) ∧ 0 ≤ i ∧ b2 = i.toNat) →
      ∃ u, (Instr.sliceAt tid vx vlo vhi none).run P w = .ok u w ∧ Den P E ρ H (.dat (.slice eid) (.list ((d.l.take b2).drop b1))) u := by
    intro d b1 b2 hd h1 h2 h3 h4
    subst hd
    cases hx with | dat _ hr =>
    cases hr with
    | slice css hc hcap hn hz hm hr => exact ⟨_, run_part tid eid hu hs _ _ _ hc vlo vhi b1 b2 h3 h4 h1 h2 w, .dat rfl (rep_part css hc hcap hn hz hm hr b1 b2 h1 h2)⟩
  have int : ∀ {y : Option SV} {vy : Option Value} {k : IntKind} {i : Int}, (y = none ∧ vy = none ∨ ∃ z u, y = some z ∧ vy = some u ∧ Den P E ρ H z u) → y = some (.int k i) → vy = some (.int k i) := by
    intro y vy k i h1 h2
    rcases h1 with ⟨h3, _⟩ | ⟨z, u, h3, h4, h5⟩
    · rw [h3] at h2; cases h2
    · rw [h3] at h2; cases h2; cases h5 with | int _ => exact h4
  have nope : ∀ {y : Option SV} {vy : Option Value}, (y = none ∧ vy = none ∨ ∃ z u, y = some z ∧ vy = some u ∧ Den P E ρ H z u) → y = none → vy = none := by
    intro y vy h1 h2
    rcases h1 with ⟨_, h3⟩ | ⟨z, u, h3, _⟩
    · exact h3
    · rw [h3] at h2; cases h2
  unfold evSlc at h
  split at h
  · rename_i eid' d k b
    cases h
    obtain ⟨rfl, h0, h1⟩ := hp
    obtain ⟨u, h2, h3⟩ := part d 0 b.toNat rfl (Nat.zero_le _) (by omega) (.inl ⟨nope hlo rfl, rfl⟩) (.inr ⟨_, _, int hhi rfl, h0, rfl⟩)
    exact ⟨u, h2, by simpa using h3, trivial⟩
  · rename_i eid' d k b
    cases h
    obtain ⟨rfl, h0, h1⟩ := hp
    obtain ⟨u, h2, h3⟩ := part d b.toNat d.l.length rfl (by omega) (Nat.le_refl _) (.inr ⟨_, _, int hlo rfl, h0, rfl⟩) (.inl ⟨nope hhi rfl, rfl⟩)
    exact ⟨u, h2, by simpa using h3, trivial⟩
  · rename_i eid' d k b k' b'
    cases h
    obtain ⟨rfl, h0, h1, h2⟩ := hp
    obtain ⟨u, h3, h4⟩ := part d b.toNat b'.toNat rfl (by omega) (by omega) (.inr ⟨_, _, int hlo rfl, h0, rfl⟩) (.inr ⟨_, _, int hhi rfl, by omega, rfl⟩)
    exact ⟨u, h3, h4, trivial⟩
  · rename_i eid' d
    cases h
    cases hp
    have hd : ∃ l, d = .list l := by
      cases hx with | dat _ hr => cases hr with | slice => exact ⟨_, rfl⟩
    obtain ⟨l, rfl⟩ := hd
    obtain ⟨u, h3, h4⟩ := part (.list l) 0 l.length rfl (Nat.zero_le _) (Nat.le_refl _) (.inl ⟨nope hlo rfl, rfl⟩) (.inl ⟨nope hhi rfl, rfl⟩)
    exact ⟨u, h3, by simpa [D.l] using h4, trivial⟩
  · cases h
    cases hx with | nils =>
    have := run_part (P := P) tid eid hu hs none 0 0 (Nat.le_refl _) vlo vhi 0 0 (.inl ⟨nope hlo rfl, rfl⟩) (.inl ⟨nope hhi rfl, rfl⟩) (Nat.le_refl _) (Nat.le_refl _) w
    exact ⟨_, this, .nils, trivial⟩
  · cases h
end
end Go.Fw

/- The frame-work, part O: from the machine's operations to ours; each is what 'ev' says. -/
namespace Go.Fw
set_option linter.unusedVariables false
set_option linter.unusedSimpArgs false
open Go

/-! ### A type's zero value as a row of cells -/
def isZeroInt (k : IntKind) : Value → Bool
  | .int k' n => k' == k && n == 0
  | _ => false
mutual
def zpar : Ty → List Value → Option (List SV × List Value)
  | .strct ts, vs => zparL ts vs
  | .arr n (.int k), vs => if (vs.take n).length = n ∧ (vs.take n).all (isZeroInt k) = true then some ([.arrc (.int k) (List.replicate n (.int 0))], vs.drop n) else none
  | .int _, v :: r => match constSV v with | some x => some ([x], r) | none => none
  | .bool, v :: r => match constSV v with | some x => some ([x], r) | none => none
  | .str, v :: r => match constSV v with | some x => some ([x], r) | none => none
  | .slice _, v :: r => match constSV v with | some x => some ([x], r) | none => none
  | .ptr e, .pointer none :: r => some ([.dat (.ptr e) .nil], r)
  | .map _ _, .map none :: r => some ([.raw (.map none)], r)
  | .iface, v :: r => match constSV v with | some x => some ([x], r) | none => none
  | _, _ => none
def zparL : List Ty → List Value → Option (List SV × List Value)
  | [], vs => some ([], vs)
  | t :: ts, vs => match zpar t vs with
    | some (a, r) => match zparL ts r with
      | some (b, r') => some (a ++ b, r')
      | none => none
    | none => none
end

section
variable {P : Program} {E : Nat → Value}

theorem constSV_one {v : Value} {x : SV} (h : constSV v = some x) : v.oneCell' = true := by
  unfold constSV at h
  split at h <;> first | rfl | (cases h; done) | skip

theorem zone_den {ρ : Nat → Value} {H : FH} {v : Value} {r : List Value} {l : List SV} {vs : List Value} (h : (match constSV v with | some x => some ([x], r) | none => none) = some (l, vs)) :
    ∃ c1, v :: r = c1 ++ vs ∧ DenC P E ρ H l c1 ∧ ∀ n, SV.ltL n l := by
  split at h
  · rename_i x e; cases h
    have := constSV_den (P := P) (E := E) e ρ H
    exact ⟨[v], rfl, .one this.1 (constSV_one e) .nil, fun n => ⟨this.2 n, trivial⟩⟩
  · cases h

theorem zints {H : FH} {k : IntKind} : ∀ (n : Nat) {vs : List Value}, vs.length = n → vs.all (isZeroInt k) = true → RepL P E H (List.replicate n (.int k)) (List.replicate n (.int 0)) vs := by
  intro n
  induction n with
  | zero => intro vs h _; have := List.eq_nil_of_length_eq_zero h; subst this; exact .nil
  | succ n ih =>
    intro vs h ha
    cases vs with
    | nil => simp at h
    | cons v vs =>
      simp only [List.all_cons, Bool.and_eq_true] at ha
      have hv : v = .int k 0 := by
        obtain ⟨h1, _⟩ := ha
        unfold isZeroInt at h1
        split at h1
        · rename_i k' m
          simp only [Bool.and_eq_true, beq_iff_eq] at h1
          rw [h1.1, h1.2]
        · cases h1
      subst hv
      rw [List.replicate_succ, List.replicate_succ]
      refine .cons (.int ?_) (ih (by simpa using h) ha.2)
      exact ⟨min_le_zero k, by cases k <;> simp [IntKind.max, IntKind.signed, IntKind.bits]⟩

theorem ltL_append {n : Nat} {a b : List SV} (h : SV.ltL n a) (h' : SV.ltL n b) : SV.ltL n (a ++ b) := by
  induction a with
  | nil => exact h'
  | cons x a ih => exact ⟨h.1, ih h.2⟩

mutual
theorem zpar_den {ρ : Nat → Value} {H : FH} : ∀ {t : Ty} {vs : List Value} {l : List SV} {r : List Value}, zpar t vs = some (l, r) → ∃ c1, vs = c1 ++ r ∧ DenC P E ρ H l c1 ∧ ∀ n, SV.ltL n l
  | .strct ts, vs, l, r, h => by simp only [zpar] at h; exact zparL_den h
  | .arr n (.int k), vs, l, r, h => by
    simp only [zpar] at h
    split at h
    · rename_i hc; cases h
      refine ⟨vs.take n, (List.take_append_drop n vs).symm, ?_, fun _ => ⟨trivial, trivial⟩⟩
      have := DenC.arrc (P := P) (E := E) (ρ := ρ) (H := H) (e := .int k) (ds := List.replicate n (.int 0)) (by rw [List.length_replicate]; exact zints n hc.1 hc.2) .nil
      simpa using this
    · cases h
  | .int _, v :: _, l, r, h => by simp only [zpar] at h; exact zone_den h
  | .bool, v :: _, l, r, h => by simp only [zpar] at h; exact zone_den h
  | .str, v :: _, l, r, h => by simp only [zpar] at h; exact zone_den h
  | .slice _, v :: _, l, r, h => by simp only [zpar] at h; exact zone_den h
  | .iface, v :: _, l, r, h => by simp only [zpar] at h; exact zone_den h
  | .ptr e, .pointer none :: _, l, r, h => by simp only [zpar] at h; cases h; exact ⟨[.pointer none], rfl, .one (.dat rfl .pnil) rfl .nil, fun _ => ⟨trivial, trivial⟩⟩
  | .ptr _, [], _, _, h | .ptr _, .bool _ :: _, _, _, h | .ptr _, .int _ _ :: _, _, _, h | .ptr _, .float _ _ :: _, _, _, h | .ptr _, .complex _ _ _ :: _, _, _, h | .ptr _, .string _ :: _, _, _, h
  | .ptr _, .pointer (some _) :: _, _, _, h | .ptr _, .slice _ _ _ :: _, _, _, h | .ptr _, .map _ :: _, _, _, h | .ptr _, .chan _ :: _, _, _, h | .ptr _, .func _ _ _ :: _, _, _, h | .ptr _, .nilFunc :: _, _, _, h
  | .ptr _, .iface _ _ :: _, _, _, h | .ptr _, .nilIface :: _, _, _, h | .ptr _, .agg _ :: _, _, _, h | .ptr _, .tuple _ :: _, _, _, h => by simp [zpar] at h
  | .int _, [], _, _, h => by simp [zpar] at h
  | .bool, [], _, _, h => by simp [zpar] at h
  | .str, [], _, _, h => by simp [zpar] at h
  | .slice _, [], _, _, h => by simp [zpar] at h
  | .iface, [], _, _, h => by simp [zpar] at h
  | .fn, _, _, _, h => by simp [zpar] at h
  | .map _ _, .map none :: _, l, r, h => by simp only [zpar] at h; cases h; exact ⟨[.map none], rfl, .one (.raw rfl) rfl .nil, fun _ => ⟨trivial, trivial⟩⟩
  | .map _ _, [], _, _, h | .map _ _, .bool _ :: _, _, _, h | .map _ _, .int _ _ :: _, _, _, h | .map _ _, .float _ _ :: _, _, _, h | .map _ _, .complex _ _ _ :: _, _, _, h | .map _ _, .string _ :: _, _, _, h
  | .map _ _, .pointer _ :: _, _, _, h | .map _ _, .slice _ _ _ :: _, _, _, h | .map _ _, .map (some _) :: _, _, _, h | .map _ _, .chan _ :: _, _, _, h | .map _ _, .func _ _ _ :: _, _, _, h | .map _ _, .nilFunc :: _, _, _, h
  | .map _ _, .iface _ _ :: _, _, _, h | .map _ _, .nilIface :: _, _, _, h | .map _ _, .agg _ :: _, _, _, h | .map _ _, .tuple _ :: _, _, _, h => by simp [zpar] at h
  | .other, _, _, _, h => by simp [zpar] at h
  | .arr _ .bool, _, _, _, h | .arr _ .str, _, _, _, h | .arr _ (.slice _), _, _, _, h | .arr _ (.ptr _), _, _, _, h | .arr _ .iface, _, _, _, h | .arr _ (.strct _), _, _, _, h
  | .arr _ (.arr _ _), _, _, _, h | .arr _ .fn, _, _, _, h | .arr _ (.map _ _), _, _, _, h | .arr _ .other, _, _, _, h => by simp [zpar] at h
theorem zparL_den {ρ : Nat → Value} {H : FH} : ∀ {ts : List Ty} {vs : List Value} {l : List SV} {r : List Value}, zparL ts vs = some (l, r) → ∃ c1, vs = c1 ++ r ∧ DenC P E ρ H l c1 ∧ ∀ n, SV.ltL n l
  | [], vs, l, r, h => by simp only [zparL] at h; cases h; exact ⟨[], rfl, .nil, fun _ => trivial⟩
  | t :: ts, vs, l, r, h => by
    simp only [zparL] at h
    split at h
    · rename_i a r1 e1
      split at h
      · rename_i b r2 e2; cases h
        obtain ⟨c1, h1, h2, h3⟩ := zpar_den e1
        obtain ⟨c2, h4, h5, h6⟩ := zparL_den e2
        exact ⟨c1 ++ c2, by rw [h1, h4, List.append_assoc], denC_append h2 h5, fun n => ltL_append (h3 n) (h6 n)⟩
      · cases h
    · cases h
end
/-- The zero value of a type, as a row of cells. -/
def zsv (P : Program) (tid : TypeId) : Option (List SV) :=
  match P.info? tid with
  | some i => match i.zero with
    | some z => match zpar (tyOf P 8 tid) z.cells.toList with
      | some (l, []) => some l
      | _ => none
    | none => none
  | none => none
theorem zsv_den {tid : TypeId} {l : List SV} (h : zsv P tid = some l) (ρ : Nat → Value) (H : FH) : ∃ i z, P.info? tid = some i ∧ i.zero = some z ∧ DenC P E ρ H l z.cells.toList ∧ ∀ n, SV.ltL n l := by
  unfold zsv at h
  split at h
  · rename_i i hi
    split at h
    · rename_i z hz
      split at h
      · rename_i l' e; cases h
        obtain ⟨c1, h1, h2, h3⟩ := zpar_den (P := P) (E := E) (ρ := ρ) (H := H) e
        rw [List.append_nil] at h1
        exact ⟨i, z, hi, hz, by rw [h1]; exact h2, h3⟩
      · cases h
    · cases h
  · cases h
end
end Go.Fw

/- The frame-work, part Q: the machine's operations turned into ours; each does what 'ev' says. -/
namespace Go.Fw
set_option linter.unusedVariables false
set_option linter.unusedSimpArgs false
open Go

/-- What is known from outside: of a function's slots which may go round, which variables are known, which calls leave what is owned as it is. -/
structure Opts where
  N : Nat
  wr : Nat → Bool
  gl : Nat → Bool
  keep : Nat → Bool
  et : Option TypeId := none
  es : List Nat := []
  fb : List Nat := []
  fp : List (Nat × TypeId) := []
  pu : List Nat := []
  nk : List Nat := []
  fq : List Nat := []

def szOk (P : Program) (tid : TypeId) : Bool := (P.underlying tid).isSome && (match P.info? tid with | some i => i.size == (tyOf P 8 tid).size | none => false)
theorem szOk_spec {P : Program} {tid : TypeId} (h : szOk P tid = true) : (P.underlying tid).isSome = true ∧ (P.info? tid).map (·.size) = some (tyOf P 8 tid).size := by
  simp only [szOk, Bool.and_eq_true] at h
  refine ⟨h.1, ?_⟩
  have h2 := h.2
  split at h2
  · rename_i i hi; rw [hi]; simpa using h2
  · cases h2

def compBin (P : Program) (w : Opts) (op : BinOp) (t : TypeId) (y0 : Operand) (d : Nat) (x y : Opd) : Option IOp :=
  match P.underlying t with
  | some (.int k) => match op with
    | .shl | .shr => some (.shf d op k x y)
    | .eql | .neq | .lss | .leq | .gtr | .geq => some (.cmp d op x y)
    | .add | .sub | .mul => if w.wr d || !k.signed then some (.wrp d op k x y) else some (.bin d op k x y)
    | _ => some (.bin d op k x y)
  | some .bool => match op with
    | .eql => some (.beq d false x y)
    | .neq => some (.beq d true x y)
    | _ => none
  | some (.interface _) => match op, y0 with
    | .eql, .const .nilIface => some (.eqb d false 0 x)
    | .neq, .const .nilIface => some (.eqb d true 0 x)
    | _, _ => none
  | some (.pointer _) => match op, y0 with
    | .eql, .const (.pointer none) => some (.eqb d false 1 x)
    | .neq, .const (.pointer none) => some (.eqb d true 1 x)
    | _, _ => none
  | some (.slice _) => match op, y0 with
    | .eql, .const (.slice none 0 0) => some (.nlq d false x)
    | .neq, .const (.slice none 0 0) => some (.nlq d true x)
    | _, _ => none
  | _ => none

def cOpds : List Operand → Option (List Opd)
  | [] => some []
  | x :: l => match cOpd x, cOpds l with
    | some y, some m => some (y :: m)
    | _, _ => none

def cOpt : Option Operand → Option (Option Opd)
  | none => some none
  | some x => (cOpd x).map some

/-- Parts that are given one by one, from 0 on. -/
def inOrder : Nat → List (Nat × Operand) → Option (List Operand)
  | _, [] => some []
  | k, (i, x) :: l => if i = k then (inOrder (k + 1) l).map (x :: ·) else none

def elemI (P : Program) (tid : TypeId) : Option (TypeId × Nat × D) :=
  match P.underlying tid with
  | some (.slice eid) => match P.info? eid with
    | some i => match i.zero with
      | some z => match zpar (tyOf P 8 eid) z.cells.toList with
        | some (l, []) => match toD (tyOf P 8 eid) l with
          | some (d, []) => if i.size = (tyOf P 8 eid).size ∧ z.cells.size = (tyOf P 8 eid).size ∧ 0 < (tyOf P 8 eid).size ∧ 0 < i.bytes then some (eid, i.bytes, d) else none
          | _ => none
        | _ => none
      | none => none
    | none => none
  | _ => none

theorem elemI_spec {P : Program} {E : Nat → Value} {tid eid : TypeId} {bytes : Nat} {d : D} (h : elemI P tid = some (eid, bytes, d)) : ∃ z, ElemOk P tid eid bytes z ∧ ∀ H, Rep P E H (tyOf P 8 eid) d z.cells.toList := by
  unfold elemI at h
  split at h
  · rename_i eid' hu
    split at h
    · rename_i i hi
      split at h
      · rename_i z hz
        split at h
        · rename_i l e1
          split at h
          · rename_i d' e2
            split at h
            · rename_i hc; cases h
              refine ⟨z, ⟨hu, ⟨i, hi, hc.1, rfl, hz⟩, hc.2.1, hc.2.2.1, hc.2.2.2⟩, fun H => ?_⟩
              obtain ⟨c1, h1, h2, h3⟩ := zpar_den (P := P) (E := E) (ρ := fun _ => undef) (H := H) e1
              rw [List.append_nil] at h1
              rw [h1]
              exact toD_all e2 h2
            · cases h
          · cases h
        · cases h
      · cases h
    · cases h
  · cases h

def agV : Value → Bool
  | .agg _ => true
  | _ => false
/-- A map's key and element: the key's kind, what a key that is not there has. -/
def mapI (P : Program) (t : TypeId) : Option (TypeId × TypeId × IntKind × D) :=
  match P.underlying t with
  | some (.map kt vt) => match P.underlying kt with
    | some (.int k) => match P.info? vt with
      | some i => match i.zero with
        | some z => match zpar (tyOf P 8 vt) z.cells.toList with
          | some (l, []) => match toD (tyOf P 8 vt) l with
            | some (d, []) => if i.size = (tyOf P 8 vt).size ∧ z.cells.size = (tyOf P 8 vt).size ∧ szOk P vt = true ∧ agV z = (tyOf P 8 vt).ag then some (kt, vt, k, d) else none
            | _ => none
          | _ => none
        | none => none
      | none => none
    | _ => none
  | _ => none
theorem mapI_spec {P : Program} {E : Nat → Value} {t kt vt : TypeId} {k : IntKind} {d : D} (h : mapI P t = some (kt, vt, k, d)) :
    P.underlying t = some (.map kt vt) ∧ P.underlying kt = some (.int k) ∧ szOk P vt = true ∧ ∃ z, (∀ w, (zeroValue vt).run P w = .ok z w) ∧ agV z = (tyOf P 8 vt).ag ∧ ∀ H, Rep P E H (tyOf P 8 vt) d z.cells.toList := by
  unfold mapI at h
  split at h
  · rename_i kt' vt' hu
    split at h
    · rename_i k' hk
      split at h
      · rename_i i hi
        split at h
        · rename_i z hz
          split at h
          · rename_i l e1
            split at h
            · rename_i d' e2
              split at h
              · rename_i hc; cases h
                refine ⟨hu, hk, hc.2.2.1, z, fun w => by simp [zeroValue, typeInfo, hi, hz, Sem.run_bind, Sem.run, pure], hc.2.2.2, fun H => ?_⟩
                obtain ⟨c1, h1, h2, h3⟩ := zpar_den (P := P) (E := E) (ρ := fun _ => undef) (H := H) e1
                rw [List.append_nil] at h1
                rw [h1]
                exact toD_all e2 h2
              · cases h
            · cases h
          · cases h
        · cases h
      · cases h
    · cases h
  · cases h

def callOk (P : Program) (f : FuncId) : Bool := match P.funcs[f]? with
  | some fn => fn.body.isSome && !(fn.name == "runtime.NumGoroutine")
  | none => false
def sliceOf (P : Program) (t : TypeId) : Option TypeId := match P.underlying t with
  | some (.slice e) => some e
  | _ => none
def compCall (P : Program) (w : Opts) (c : Call) (d : Nat) : Option IOp :=
  match c.callee with
  | .builtin .len => match c.args.toList, c.argTypes.toList with
    | [x], [t] => match P.underlying t, cOpd x with
      | some (.slice _), some x' => some (.len d false x')
      | some .string, some x' => some (.len d true x')
      | _, _ => none
    | _, _ => none
  | .builtin .append => match c.args.toList, c.argTypes.toList with
    | [x, y], [t, t'] => if t = t' then match elemI P t, cOpd x, cOpd y with
      | some (eid, bytes, _), some x', some y' => some (.app d eid (tyOf P 8 eid) bytes x' y')
      | _, _, _ => none else none
    | _, _ => none
  | .builtin .min => (cOpds c.args.toList).map fun l => .mmx d false l
  | .builtin .max => (cOpds c.args.toList).map fun l => .mmx d true l
  | .value f => match cOpd f, cOpds c.args.toList with
    | some f', some l => some (.call d f' l (c.argTypes.toList.map fun t => if w.nk.contains d then none else sliceOf P t) (!w.keep d))
    | _, _ => none
  | .builtin .delete => match c.args.toList, c.argTypes.toList with
    | [m, i], [t, _] => match mapI P t, cOpd m, cOpd i with
      | some (kt, vt, k, _), some m', some i' => some (.mdl d kt vt k m' i')
      | _, _, _ => none
    | _, _ => none
  | _ => none

def isU8 (P : Program) (e : TypeId) : Bool := match P.underlying e with
  | some (.int .u8) => true
  | _ => false
theorem isU8_spec {P : Program} {e : TypeId} (h : isU8 P e = true) : P.underlying e = some (.int .u8) := by
  unfold isU8 at h
  split at h
  · assumption
  · cases h

def compCvt (P : Program) (src dst : TypeId) (d : Nat) (x : Opd) : Option IOp :=
  match P.underlying src with
  | some (.int _) => match P.underlying dst with
    | some (.int k) => some (.cnv d k x)
    | _ => none
  | some (.slice e) => if src = dst ∧ isU8 P e = true then some (.cvs d x) else none
  | _ => none

/-- Two interface values: known errors. -/
def compIfq (P : Program) (w : Opts) (op : BinOp) (t : TypeId) (d : Nat) (x y : Opd) : Option IOp :=
  match P.underlying t, w.et with
  | some (.interface _), some et => if w.es.all w.gl = true then match op with
    | .eql => some (.ifq d false et w.es x y)
    | .neq => some (.ifq d true et w.es x y)
    | _ => none else none
  | _, _ => none

/-- A struct's zero value, field by field. -/
def offsOk (P : Program) : Nat → List Field → Option (List Nat)
  | _, [] => some []
  | off, f :: fs => match P.info? f.type with
    | some i => if f.offset = off then (offsOk P (off + i.size) fs).map (i.size :: ·) else none
    | none => none
def segsZ : List Nat → List SV → Option (List (List SV))
  | [], [] => some []
  | [], _ => none
  | sz :: r, l => match takeC sz l with
    | some (a, b) => (segsZ r b).map (a :: ·)
    | none => none
def bldZ (P : Program) (t : TypeId) (fs : List Field) : Option (List (List SV)) := match offsOk P 0 fs, zsv P t with
  | some szs, some z => segsZ szs z
  | _, _ => none
def cParts : List (Nat × Operand) → Option (List (Nat × Opd))
  | [] => some []
  | (i, x) :: l => match cOpd x, cParts l with
    | some y, some m => some ((i, y) :: m)
    | _, _ => none
/-- A pointer type's zero value is nil. -/
def nilOk (P : Program) (t : TypeId) : Bool := match P.info? t with
  | some i => match i.zero with
    | some (.pointer none) => true
    | _ => false
  | none => false
theorem nilOk_spec {P : Program} {t : TypeId} (h : nilOk P t = true) (w : World) : (zeroValue t).run P w = .ok (.pointer none) w := by
  unfold nilOk at h
  split at h
  · rename_i i hi
    split at h
    · rename_i hz; simp [zeroValue, typeInfo, hi, hz, Sem.run_bind, Sem.run, pure]
    · cases h
  · cases h

/-- A struct of whole numbers alone. -/
def flatF (P : Program) (f : Field) (i : Nat) : Bool := f.name != "_" && f.offset == i && (match P.underlying f.type with | some (.int _) => true | _ => false)
def flatFs (P : Program) : List Field → Nat → Bool
  | [], _ => true
  | f :: l, i => flatF P f i && flatFs P l (i + 1)
/-- Two strings; two structs of whole numbers. -/
def compStr (P : Program) (op : BinOp) (t : TypeId) (d : Nat) (x y : Opd) : Option IOp :=
  match P.underlying t, op with
  | some .string, .eql => some (.seq d false x y)
  | some .string, .neq => some (.seq d true x y)
  | some .string, .add => some (.cat d x y)
  | some (.struct fs), .eql => if P.stoodInHeld t = false ∧ P.eqGuardType P.depth t = false ∧ flatFs P fs.toList 0 = true then some (.agq d false fs.size x y) else none
  | some (.struct fs), .neq => if P.stoodInHeld t = false ∧ P.eqGuardType P.depth t = false ∧ flatFs P fs.toList 0 = true then some (.agq d true fs.size x y) else none
  | _, _ => none
/-- The constant 0. -/
def isZ : Operand → Bool
  | .const (.int .i64 0) => true
  | _ => false
theorem isZ_spec {x : Operand} (h : isZ x = true) : x = .const (.int .i64 0) := by
  unfold isZ at h
  split at h
  · rfl
  · cases h

def comp (P : Program) (w : Opts) (o : Oper) : Option IOp :=
  match o.op, o.dst with
  | .move x, some d => if d < w.N then (cOpd x).map (.mov d) else none
  | .assign x, some d => if d < w.N then (cOpd x).map (.mov d) else none
  | .binOp op t x y _, some d => if d < w.N then match cOpd x, cOpd y with
    | some x', some y' => match compBin P w op t y d x' y' with
      | some i => some i
      | none => match compIfq P w op t d x' y' with
        | some i => some i
        | none => compStr P op t d x' y'
    | _, _ => none else none
  | .unOp op _ x, some d => if d < w.N then (cOpd x).map (.una d op) else none
  | .convert src dst x, some d => if d < w.N then match cOpd x with
    | some x' => compCvt P src dst d x'
    | none => none else none
  | .alloc t, some d => if d < w.N then (zsv P t).map (.alc d) else none
  | .box t x, some d => if d < w.N then (cOpd x).map (fun x => if w.fb.contains d then .bxf d (tyOf P 8 t) (if w.fq.contains d then some t else none) x else .box d 0 x) else none
  | .load t x, some d => if d < w.N ∧ szOk P t = true then match x with
    | .global g => if w.gl g = true ∧ isAgg (tyOf P 8 t) = false then some (.gld d g) else none
    | x => (cOpd x).map (.ld d (tyOf P 8 t)) else none
  | .store t a x, none => if szOk P t = true then match cOpd a, cOpd x with
    | some a', some x' => some (.st (tyOf P 8 t) a' x')
    | _, _ => none else none
  | .fieldAddr s x k, some d => if d < w.N then match P.underlying s, cOpd x with
    | some (.struct fs), some x' => match fs[k]? with
      | some f => if szOk P f.type = true ∧ 0 < (tyOf P 8 f.type).size ∧ Ty.sizeL ((fs.toList.take k).map fun f => tyOf P 7 f.type) = f.offset then some (.fad d k f.offset (tyOf P 7 f.type) s x') else none
      | none => none
    | _, _ => none else none
  | .indexAddr t x i, some d => if d < w.N then match P.underlying t, cOpd x, cOpd i with
    | some (.slice eid), some x', some i' => if szOk P eid = true then some (.iad d eid (tyOf P 8 eid) x' i') else none
    | some (.array n eid), some x', some i' => if (P.info? eid).map (·.size) = some (tyOf P 7 eid).size then some (.aad d n (tyOf P 7 eid) x' i') else none
    | _, _, _ => none else none
  | .call c, some d => if d < w.N then compCall P w c d else none
  | .makeSlice t l c, some d => if d < w.N then match elemI P t, cOpd l, cOpd c with
    | some (eid, bytes, z), some l', some c' => some (.mk d eid (tyOf P 8 eid) bytes z l' c')
    | _, _, _ => none else none
  | .buildSlice t n ps, some d => if d < w.N then match elemI P t, inOrder 0 ps.toList with
    | some (eid, _, _), some xs => match cOpds xs with
      | some xs' => if xs.length = n ∧ n * (tyOf P 8 eid).size ≤ 16777216 then (if w.fb.contains d then some (.bsf d eid (tyOf P 8 eid) xs') else some (.bsl d eid (tyOf P 8 eid) xs')) else none
      | none => none
    | _, _ => none else none
  | .slice t x lo hi none, some d => if d < w.N then match P.underlying t, cOpd x, cOpt lo, cOpt hi with
    | some (.slice eid), some x', some lo', some hi' => if szOk P eid = true then some (.slc d eid x' lo' hi') else none
    | _, _, _, _ => none else none
  | .nilCheck x, some d => if d < w.N then (cOpd x).map (.nlc d) else none
  | .extract x i, some d => if d < w.N then (cOpd x).map (.ext d i) else none
  | .makeInterface t x, some d => if d < w.N then match P.underlying t, cOpd x with
    | some (.pointer e), some x' => some (.mif d t (tyOf P 8 t) (tyOf P 8 e) x')
    | _, _ => none else none
  | .pick c x y, some d => if d < w.N then match cOpd c, cOpd x, cOpd y with
    | some c', some x', some y' => some (.pck d c' x' y')
    | _, _, _ => none else none
  | .field st x k, some d => if d < w.N then match P.underlying st, cOpd x with
    | some (.struct fs), some x' => match fs[k]? with
      | some f => if szOk P f.type = true then some (.fld d f.offset (tyOf P 8 f.type).size (isAgg (tyOf P 8 f.type)) x') else none
      | none => none
    | _, _ => none else none
  | .build t ps, some d => if d < w.N then match P.underlying t with
    | some (.struct fs) => match bldZ P t fs.toList, cParts ps.toList with
      | some zs, some ps' => some (.bld d zs ps')
      | _, _ => none
    | _ => none else none
  | .typeAssert x _ t true, some d => if d < w.N then match P.underlying t, cOpd x with
    | some (.pointer e), some x' => if nilOk P t = true then some (.tas d (w.et.getD t) t e x') else none
    | _, _ => none else none
  | .slice t x none (some hi) (some mx), some d => if d < w.N ∧ isZ hi = true ∧ isZ mx = true then match P.underlying t, cOpd x with
    | some (.slice eid), some x' => if szOk P eid = true then some (.sl0 d eid (tyOf P 8 eid) x') else none
    | _, _ => none else none
  | .makeFunc (.func f) first caps, some d => if d < w.N ∧ first.size = 0 then match cOpds caps.toList with
    | some l => some (.clo d f l)
    | none => none else none
  | .makeMap t none, some d => if d < w.N then match mapI P t with
    | some (kt, vt, _, _) => some (.mkm d kt vt)
    | none => none else none
  | .lookup t x i ok, some d => if d < w.N then match mapI P t, cOpd x, cOpd i with
    | some (kt, vt, k, z), some x', some i' => some (.lkp d kt vt k (tyOf P 8 vt) z ok x' i')
    | _, _, _ => none else none
  | .mapUpdate t m i v, none => match mapI P t, cOpd m, cOpd i, cOpd v with
    | some (kt, vt, k, _), some m', some i', some v' => some (.mup kt vt k (tyOf P 8 vt) m' i' v')
    | _, _, _, _ => none
  | .call c, none => match c.callee, c.args.toList, c.argTypes.toList with
    | .builtin .delete, [m, i], [t, _] => match mapI P t, cOpd m, cOpd i with
      | some (kt, vt, k, _), some m', some i' => some (.mdn kt vt k m' i')
      | _, _, _ => none
    | _, _, _ => none
  | _, _ => none

section
variable {P : Program} {E : Nat → Value}

theorem Sat.opds {c : Ctx} {ρ : Nat → Value} {H : FH} {S : SSt} {a : Act} {w : World} (s : Sat P E c ρ H S a w) : ∀ {xs : List Operand} {xs' : List Opd}, cOpds xs = some xs' → DenV P E ρ H (ogets xs' S.f) (xs.map a.eval) ∧ SV.ltL S.nx (ogets xs' S.f) := by
  intro xs
  induction xs with
  | nil => intro xs' h; simp only [cOpds] at h; cases h; exact ⟨.nil, trivial⟩
  | cons x xs ih =>
    intro xs' h
    simp only [cOpds] at h
    split at h
    · rename_i y m e1 e2; cases h
      have := s.opd e1
      have h2 := ih e2
      exact ⟨.cons this.1 h2.1, this.2, h2.2⟩
    · cases h

theorem Sat.opt {c : Ctx} {ρ : Nat → Value} {H : FH} {S : SSt} {a : Act} {w : World} (s : Sat P E c ρ H S a w) {x : Option Operand} {x' : Option Opd} (h : cOpt x = some x') :
    x'.map (oget · S.f) = none ∧ x.map a.eval = none ∨ ∃ y u, x'.map (oget · S.f) = some y ∧ x.map a.eval = some u ∧ Den P E ρ H y u := by
  cases x with
  | none => simp only [cOpt] at h; cases h; exact .inl ⟨rfl, rfl⟩
  | some x =>
    simp only [cOpt, Option.map_eq_some_iff] at h
    obtain ⟨y, h1, rfl⟩ := h
    exact .inr ⟨_, _, rfl, rfl, (s.opd h1).1⟩

theorem inOrder_zip {a : Act} : ∀ {ps : List (Nat × Operand)} {k : Nat} {xs : List Operand}, inOrder k ps = some xs → ps.map (fun p => (p.1, a.eval p.2)) = ((xs.map a.eval).zipIdx k).map fun x => (x.2, x.1) := by
  intro ps
  induction ps with
  | nil => intro k xs h; simp only [inOrder] at h; cases h; rfl
  | cons p ps ih =>
    intro k xs h
    obtain ⟨i, x⟩ := p
    simp only [inOrder] at h
    split at h
    · rename_i e; subst e
      obtain ⟨ys, h1, rfl⟩ := Option.map_eq_some_iff.1 h
      simp only [List.map_cons, List.zipIdx_cons]
      rw [ih h1]
    · cases h
end
end Go.Fw
