/- The frame-work, part M: the machine does what 'ev' says: append, make, slices that are written out, parts of slices. -/
import Derived.Test.YtnpjmmimlhgipaaDoorFwL
namespace Go.Fw
set_option linter.unusedVariables false
set_option linter.unusedSimpArgs false
open Go

section
variable {P : Program} {E : Nat → Value}

/-- What the translator says of an element type, and the slices of it. -/
structure ElemOk (P : Program) (tid eid : TypeId) (bytes : Nat) (z : Value) : Prop where
  u : P.underlying tid = some (.slice eid)
  i : ∃ i, P.info? eid = some i ∧ i.size = (tyOf P 8 eid).size ∧ i.bytes = bytes ∧ i.zero = some z
  zs : z.cells.size = (tyOf P 8 eid).size
  s0 : 0 < (tyOf P 8 eid).size
  b0 : 0 < bytes

/-- The elements of a slice, as a row of cells that can be read. -/
def Reads (w : World) (sz : Nat) (v : Value) (n : Nat) (xs : List Value) : Prop :=
  xs.length = n * sz ∧ ((v = .slice none 0 0 ∧ n = 0) ∨ ∃ ad cap, v = .slice (some ad) n cap ∧ ∀ j u, xs[j]? = some u → w.cell? (ad.add j) = some u)

theorem rep_row {H : FH} {e : Ty} {b o : Nat} : ∀ {l : List D} (css : Nat → List Value), (∀ i, i < l.length → ∀ j v, (css i)[j]? = some v → H b (o + i * e.size + j) = some v) → (∀ i (hi : i < l.length), Rep P E H e l[i] (css i)) →
    ∃ xs, RepL P E H (List.replicate l.length e) l xs ∧ ∀ j v, xs[j]? = some v → H b (o + j) = some v := by
  intro l
  induction l generalizing o with
  | nil => intro css _ _; exact ⟨[], .nil, by simp⟩
  | cons d l ih =>
    intro css hm hr
    obtain ⟨xs, h1, h2⟩ := ih (o := o + e.size) (fun i => css (i + 1)) (fun i hi j v hj => by
      have := hm (i + 1) (by simpa using hi) j v hj
      rwa [show o + (i + 1) * e.size + j = o + e.size + i * e.size + j from by rw [Nat.succ_mul]; omega] at this) (fun i hi => hr (i + 1) (by simpa using hi))
    have h0 := hr 0 (by simp)
    have hl := rep_len h0
    refine ⟨css 0 ++ xs, by rw [List.length_cons, List.replicate_succ]; exact .cons h0 h1, fun j v hj => ?_⟩
    rw [List.getElem?_append] at hj
    split at hj
    · have := hm 0 (by simp) j v hj; simpa using this
    · have := h2 _ v hj
      rwa [show o + e.size + (j - (css 0).length) = o + j from by omega] at this

theorem els_reads {c : Ctx} {ρ : Nat → Value} {H : FH} {S : SSt} {a : Act} {w : World} (s : Sat P E c ρ H S a w) {eid : TypeId} {y : SV} {ys : List D} (h : evEls eid y S.h = some ys) {vy : Value} (hy : Den P E ρ H y vy) :
    ∃ xs, Reads w (tyOf P 8 eid).size vy ys.length xs ∧ RepL P E H (List.replicate ys.length (tyOf P 8 eid)) ys xs := by
  unfold evEls at h
  split at h
  · split at h
    · rename_i e; subst e
      cases h
      cases hy with | dat _ hr =>
      cases hr with
      | slice css hc hcap hn hz hm hr =>
        rename_i l ad cap
        simp only [D.l]
        by_cases hl : l = []
        · subst hl
          refine ⟨[], ⟨by simp, ?_⟩, .nil⟩
          cases ad with
          | none => cases hz rfl; exact .inl ⟨rfl, rfl⟩
          | some ad => exact .inr ⟨ad, cap, rfl, by simp⟩
        · obtain ⟨ad', e1, e2⟩ := hn hl
          subst e1
          obtain ⟨b, o, sp⟩ := ad'
          cases e2
          obtain ⟨xs, h1, h2⟩ := rep_row css (fun i hi => hm i hi _ rfl) hr
          have := repL_len h1
          rw [sizeL_replicate] at this
          exact ⟨xs, ⟨this, .inr ⟨_, cap, rfl, fun j u hj => by rw [add_lit]; exact s.hin _ _ _ (h2 j u hj)⟩⟩, h1⟩
    · cases h
  · split at h
    · rename_i n eid' e' l hn
      split at h
      · rename_i e; subst e
        cases h
        obtain ⟨⟨he, xs, hown, hr, _⟩, _⟩ := s.tok hn
        cases hy with | vec _ =>
        by_cases hl : ys = []
        · subst hl
          cases hr
          refine ⟨[], ⟨by simp, ?_⟩, .nil⟩
          rcases hown.2 with ⟨⟨a0, h1⟩, h2⟩ | ⟨g, cap, cur, hv, h0, _⟩
          · cases a0 with
            | none => exact .inl ⟨h1, rfl⟩
            | some ad => exact .inr ⟨ad, 0, by rw [h1]; rfl, by simp⟩
          · exact .inr ⟨_, cap, hv, by simp⟩
        have he := he hl
        subst he
        refine ⟨xs, ⟨hown.1, ?_⟩, hr⟩
        rcases hown.2 with ⟨⟨a0, h1⟩, h2⟩ | ⟨g, cap, cur, hv, h0, _⟩
        · cases a0 with
          | none => exact .inl ⟨h1, h2⟩
          | some ad =>
            refine .inr ⟨ad, 0, by rw [h1, h2], fun j u hu => ?_⟩
            have h3 := hown.1
            rw [h2, Nat.zero_mul] at h3
            rw [List.eq_nil_of_length_eq_zero h3] at hu
            cases hu
        · refine .inr ⟨_, cap, hv, fun j u hu => ?_⟩
          rw [add_lit, Nat.zero_add]
          exact hown.cells (by rw [hv]; exact blk_slice h0) j u hu
      · cases h
    · cases h
  · cases h
    cases hy with | nils => exact ⟨[], ⟨by simp, .inl ⟨rfl, rfl⟩⟩, .nil⟩
  · cases h

theorem reads_ones (hE : ∀ k, (E k).oneCell' = true) {H : FH} {e : Ty} {n : Nat} {ys : List D} {xs : List Value} (h : RepL P E H (List.replicate n e) ys xs) : ∀ u ∈ xs, u.oneCell' = true := repL_one hE h

theorem own_one {w : World} {e : TypeId} {size : Nat} {v : Value} {n : Nat} {xs : List Value} (h : Owns w e size v n xs) : v.oneCell' = true := by
  rcases h.2 with ⟨⟨a, h1⟩, _⟩ | ⟨g, cap, cur, hv, _⟩
  · rw [h1]; rfl
  · rw [hv]; rfl

theorem run_append_zero {t ty e : TypeId} {i : TypeInfo} (ht : P.underlying t = some (.slice e)) (hi : P.info? e = some i) (a : Option Addr) (v : Value) (hv : v = .slice none 0 0 ∨ ∃ ad c, v = .slice (some ad) 0 c) (w : World) :
    (Builtin.append_ #[t, t] ty #[.slice a 0 0, v]).run P w = .ok (.slice a 0 0) w := by
  rcases hv with rfl | ⟨ad, c, rfl⟩ <;> cases a <;> simp [Builtin.append_, run_underlying ht, sizeOf, typeInfo, hi, Builtin.lenOf, Builtin.firstCells, storeCells, loadCells, loadCellsFrom]

/-- append, onto what is owned. -/
theorem run_app {tid eid : TypeId} {bytes : Nat} {z : Value} (ok : ElemOk P tid eid bytes z) (ty : TypeId) {w : World} {v : Value} {n : Nat} {xs : List Value} (hown : Owns w eid (tyOf P 8 eid).size v n xs)
    {vy : Value} {m : Nat} {news : List Value} (hr : Reads w (tyOf P 8 eid).size vy m news) (h1 : ∀ u ∈ news, u.oneCell' = true) (hb : (n + m) * bytes ≤ 140737488355328) :
    ∃ v' w', (Builtin.append_ #[tid, tid] ty #[v, vy]).run P w = .ok v' w' ∧ Owns w' eid (tyOf P 8 eid).size v' (n + m) (xs ++ news) ∧ w.grownBy w' (blk v) ∧ ∀ b, blk v' = some b → blk v = some b ∨ w.heap.size ≤ b := by
  obtain ⟨i, hi, hs, hby, hz⟩ := ok.i
  have h63 : n + m ≤ maxLen := by
    have : n + m ≤ (n + m) * bytes := Nat.le_mul_of_pos_right _ ok.b0
    unfold maxLen; omega
  rcases hown.2 with ⟨⟨a, rfl⟩, rfl⟩ | ⟨g, cap, cur, hv, hg, hh, hnc, hcm, hcs, htake⟩
  · have hxs : xs = [] := List.eq_nil_of_length_eq_zero (by have := hown.1; omega)
    subst hxs
    by_cases hm : m = 0
    · subst hm
      have hx : news = [] := List.eq_nil_of_length_eq_zero (by have := hr.1; omega)
      subst hx
      refine ⟨_, w, run_append_zero ok.u hi a vy ?_ w, by simpa using hown, ⟨rfl, rfl, rfl, Nat.le_refl _, fun _ _ _ => rfl⟩, fun b hb => .inl hb⟩
      rcases hr.2 with ⟨h, _⟩ | ⟨ad, c, h, _⟩
      · exact .inl h
      · exact .inr ⟨ad, c, h⟩
    · rcases hr.2 with ⟨_, h⟩ | ⟨ad, c, rfl, hnews⟩
      · exact absurd h hm
      · cases a with
        | none =>
          obtain ⟨v', w', h2, h3, h4, _⟩ := run_append_own (P := P) w w.heap.size tid ty eid i z _ bytes ok.u hi hz hs hby ok.zs ok.s0 (.slice none 0 0) 0 [] (World.ownsRow_nil w w.heap.size eid (tyOf P 8 eid).size) ad m c news hr.1 hnews h1 h63 hb (Nat.le_refl _)
          refine ⟨v', w', h2, Owns.of h3, h4, fun b hb' => ?_⟩
          right
          rcases h3.2 with ⟨h5, _⟩ | ⟨g, cap, cur, hv, hg, _⟩
          · rw [h5] at hb'; simp [blk] at hb'
          · rw [hv] at hb'
            simp only [blk] at hb'
            split at hb'
            · cases hb'
            · cases hb'; exact hg
        | some a =>
          have h5 := run_append_grow (P := P) w tid ty eid i z ok.u hi hz a 0 0 [] (by simp) (by simp) ad m c news (by rw [hs]; exact hr.1) hnews (by omega)
            (by simp only [maxLen] at h63; omega) (growslice_fits (by omega) (by rw [hby]; exact hb))
          have h6 := run_append_own (P := P) w w.heap.size tid ty eid i z _ bytes ok.u hi hz hs hby ok.zs ok.s0 (.slice none 0 0) 0 [] (World.ownsRow_nil w w.heap.size eid (tyOf P 8 eid).size) ad m c news hr.1 hnews h1 h63 hb (Nat.le_refl _)
          have h7 := run_append_nil (P := P) w tid ty eid i z ok.u hi hz ad m c news (by rw [hs]; exact hr.1) hnews (by omega) (by simp only [maxLen] at h63; omega) (by rw [hby]; have hb' := hb; rw [Nat.zero_add] at hb'; omega)
          obtain ⟨v', w', h2, h3, h4, _⟩ := h6
          have h8 : (Builtin.append_ #[tid, tid] ty #[.slice (some a) 0 0, .slice (some ad) m c]).run P w = .ok v' w' := by
            rw [h7] at h2
            cases h2
            rw [h5]
            simp
          refine ⟨v', w', h8, Owns.of h3, ?_, fun b hb' => ?_⟩
          · exact h4
          right
          rcases h3.2 with ⟨h5, _⟩ | ⟨g, cap, cur, hv, hg, _⟩
          · rw [h5] at hb'; simp [blk] at hb'
          · rw [hv] at hb'
            simp only [blk] at hb'
            split at hb'
            · cases hb'
            · cases hb'; exact hg
  · have hown' : w.ownsRow 0 eid (tyOf P 8 eid).size v n xs := ⟨hown.1, .inr ⟨g, cap, cur, hv, Nat.zero_le _, hh, hnc, hcm, hcs, htake⟩⟩
    have hbv : v.ownBlock = blk v := by rw [hv, blk_slice hg]; rfl
    rcases hr.2 with ⟨rfl, rfl⟩ | ⟨ad, c, rfl, hnews⟩
    · have hx : news = [] := List.eq_nil_of_length_eq_zero (by have := hr.1; simpa using this)
      subst hx
      refine ⟨v, w, run_append_owned_none w 0 tid ty eid i _ ok.u hi v n xs hown', by simpa using hown, ⟨rfl, rfl, rfl, Nat.le_refl _, fun _ _ _ => rfl⟩, fun b hb => .inl hb⟩
    · obtain ⟨v', w', h2, h3, h4, _⟩ := run_append_own (P := P) w 0 tid ty eid i z _ bytes ok.u hi hz hs hby ok.zs ok.s0 v n xs hown' ad m c news hr.1 hnews h1 h63 hb (Nat.zero_le _)
      refine ⟨v', w', h2, Owns.of h3, by rw [← hbv]; exact h4, fun b hb' => ?_⟩
      subst hv
      by_cases hroom : n + m ≤ cap
      · obtain ⟨w'', h5, _⟩ := run_append_fits (P := P) (w := w) 0 tid ty eid i _ ok.u hi hs g n cap xs hown' ad m c news hr.1 hnews h1 hroom
        rw [h5] at h2
        cases h2
        left
        rw [blk_slice hg] at hb' ⊢
        exact hb'
      · have h5 := run_append_grow (P := P) w tid ty eid i z ok.u hi hz ⟨g, 0, none⟩ n cap xs (by rw [hs]; exact hown.1) (hown'.cells (g := g) rfl) ad m c news (by rw [hs]; exact hr.1) hnews (by omega)
          (by simp only [maxLen] at h63; omega) (growslice_fits (by omega) (by rw [hby]; exact hb))
        rw [h5] at h2
        cases h2
        simp only [blk] at hb'
        split at hb'
        · cases hb'
        · cases hb'; exact .inr (Nat.le_refl _)

theorem kept_grown {w w' : World} {r : Option Nat} (h : w.grownBy w' r) : Kept w (fun b => r = some b) w' :=
  ⟨h.os, h.tape, h.output, h.size, fun b hb hn => h.block b hb (fun e => hn e.symm)⟩

theorem app_sound (hE : ∀ k, (E k).oneCell' = true) {c : Ctx} {ρ : Nat → Value} {H : FH} {S : SSt} {a : Act} {w : World} (s : Sat P E c ρ H S a w) {tid eid : TypeId} {bytes : Nat} {z : Value} (ok : ElemOk P tid eid bytes z) (ty : TypeId)
    {x y v : SV} {p : Prop} {h' : Heap} (h : evApp eid (tyOf P 8 eid) bytes x y S.h S.nx = some (p, v, h')) (hp : p) {vx vy : Value} (hx : Den P E ρ H x vx) (hy : Den P E ρ H y vy) :
    ∃ u w' ρ', (Builtin.append_ #[tid, tid] ty #[vx, vy]).run P w = .ok u w' ∧ Sat P E c ρ' H { f := S.f, h := h', nx := S.nx + 1 } a w' ∧ Den P E ρ' H v u ∧ v.lt (S.nx + 1) := by
  unfold evApp at h
  split at h
  · cases h
  · rename_i ys e1
    obtain ⟨news, hr, hrep⟩ := els_reads s e1 hy
    have hones := repL_one hE hrep
    split at h
    · cases h
      cases hx with | nils =>
      obtain ⟨v', w', h1, h2, h3, h4⟩ := run_app ok ty (Owns.of (World.ownsRow_nil w 0 eid (tyOf P 8 eid).size)) hr hones (by simpa using hp)
      refine ⟨v', w', upd ρ S.nx v', h1, ?_, ?_, Nat.lt_succ_self _⟩
      · refine s.grow (Nat.le_refl _) (Nat.lt_succ_self _) v' _ ?_ ⟨fun _ => rfl, news, ?_, hrep, ?_⟩ ?_ trivial
        · have := kept_grown h3
          exact ⟨this.os, this.tape, this.output, this.size, fun b hb _ => this.block b hb (by simp [blk])⟩
        · rw [upd_same]; simpa using h2
        · rw [upd_same]
          intro b hb o
          rcases h4 b hb with h5 | h5
          · simp [blk] at h5
          · exact s.hin.none_new h5 o
        · intro b hb
          rcases h4 b hb with h5 | h5
          · simp [blk] at h5
          · exact h5
      · have := Den.vec (P := P) (E := E) (ρ := upd ρ S.nx v') (H := H) (n := S.nx) (by rw [upd_same]; exact own_one h2)
        rwa [upd_same] at this
    · split at h
      · rename_i n _ eid' e' xs hn
        split at h
        · rename_i he; subst he
          cases h
          obtain ⟨rfl, hp⟩ := hp
          obtain ⟨⟨_, cs, hown, hrx, hH⟩, hnl, _⟩ := s.tok hn
          cases hx with | vec _ =>
          obtain ⟨v', w', h1, h2, h3, h4⟩ := run_app ok ty hown hr hones hp
          refine ⟨v', w', upd ρ S.nx v', h1, ?_, ?_, Nat.lt_succ_self _⟩
          · refine s.renew hn (Nat.le_refl _) (Nat.lt_succ_self _) v' _ ?_ ⟨fun _ => rfl, cs ++ news, ?_, repL_replicate hrx hrep, ?_⟩ h4 trivial
            · have := kept_grown h3
              exact ⟨this.os, this.tape, this.output, this.size, fun b hb hb' => this.block b hb hb'⟩
            · rw [upd_same, List.length_append]; exact h2
            · rw [upd_same]
              intro b hb o
              rcases h4 b hb with h5 | h5
              · exact hH b h5 o
              · exact s.hin.none_new h5 o
          · have := Den.vec (P := P) (E := E) (ρ := upd ρ S.nx v') (H := H) (n := S.nx) (by rw [upd_same]; exact own_one h2)
            rwa [upd_same] at this
        · cases h
      · cases h
    · cases h

/-! ### make -/
theorem made_cons (z : Array Value) (s n : Nat) (hs : z.size = s) (h0 : 0 < s) : (madeCells z ((n + 1) * s)).toList = z.toList ++ (madeCells z (n * s)).toList := by
  subst hs
  apply List.ext_getElem?
  intro i
  simp only [madeCells, Array.toList_map, List.getElem?_append, List.getElem?_map, Array.toList_range]
  by_cases h : i < z.size
  · rw [if_pos (by simpa using h)]
    have h2 : i < (n + 1) * z.size := by rw [Nat.succ_mul]; omega
    rw [List.getElem?_range h2]
    simp [Nat.mod_eq_of_lt h, h]
  · rw [if_neg (by simpa using h)]
    by_cases h3 : i < (n + 1) * z.size
    · have h4 : i - z.size < n * z.size := by rw [Nat.succ_mul] at h3; omega
      rw [List.getElem?_range h3, Array.length_toList, List.getElem?_range h4]
      simp only [Option.map_some]
      rw [Nat.mod_eq_sub_mod (by omega)]
    · have h4 : ¬ i - z.size < n * z.size := by rw [Nat.succ_mul] at h3; omega
      rw [List.getElem?_eq_none (by simpa using h3), Array.length_toList, List.getElem?_eq_none (by simpa using h4)]

theorem made_rep {H : FH} {e : Ty} {z : Array Value} {d : D} (hs : z.size = e.size) (h0 : 0 < e.size) (hz : Rep P E H e d z.toList) (n : Nat) : RepL P E H (List.replicate n e) (List.replicate n d) (madeCells z (n * e.size)).toList := by
  induction n with
  | zero => simp [madeCells]; exact .nil
  | succ n ih =>
    rw [made_cons z e.size n hs h0, List.replicate_succ, List.replicate_succ]
    exact .cons hz ih

theorem mk_sound {c : Ctx} {ρ : Nat → Value} {H : FH} {S : SSt} {a : Act} {w : World} (s : Sat P E c ρ H S a w) {tid eid : TypeId} {bytes : Nat} {z : Value} (ok : ElemOk P tid eid bytes z) {d : D} (hz : Rep P E H (tyOf P 8 eid) d z.cells.toList)
    {kl kc : IntKind} {l cc : Int} (h0 : 0 ≤ l) (h1 : l ≤ cc) (h2 : cc * bytes ≤ 140737488355328) :
    ∃ u w' ρ', (Instr.makeSlice tid (.int kl l) (.int kc cc)).run P w = .ok u w' ∧ Sat P E c ρ' H { f := S.f, h := (S.nx, .arr eid (tyOf P 8 eid) (List.replicate l.toNat d)) :: S.h, nx := S.nx + 1 } a w' ∧ Den P E ρ' H (.vec S.nx) u := by
  obtain ⟨i, hi, hs, hby, hzz⟩ := ok.i
  have hcc : cc ≤ 140737488355328 := by
    have hb : (1 : Int) ≤ bytes := by have := ok.b0; omega
    have : cc * 1 ≤ cc * bytes := Int.mul_le_mul_of_nonneg_left hb (by omega)
    omega
  have hr := run_make (P := P) w tid eid i z ok.u hi hzz kl kc l cc h0 h1 (by rw [hby, Int.mul_comm]; omega) (by omega)
  refine ⟨_, _, upd ρ S.nx (.slice (some ⟨w.heap.size, 0, none⟩) l.toNat cc.toNat), hr, ?_, ?_⟩
  · refine s.grow (Nat.le_refl _) (Nat.lt_succ_self _) _ _ (kept_alloc w _) ⟨fun _ => rfl, (madeCells z.cells (l.toNat * (tyOf P 8 eid).size)).toList, ?_, ?_, ?_⟩ (fun b hb => by simp [blk] at hb; omega) trivial
    · rw [upd_same, List.length_replicate]
      refine Owns.of (base := 0) ⟨by rw [Array.length_toList, size_madeCells], .inr ⟨w.heap.size, cc.toNat, _, rfl, Nat.zero_le _, heap_alloc_last w _, by omega, by unfold maxLen; omega, by rw [size_madeCells, hs], ?_⟩⟩
      have hle : l.toNat * (tyOf P 8 eid).size ≤ cc.toNat * (tyOf P 8 eid).size := Nat.mul_le_mul_right _ (by omega)
      rw [hs]
      apply List.ext_getElem?
      intro j
      simp only [madeCells, Array.toList_map, Array.toList_range, List.getElem?_take, List.getElem?_map]
      split
      · rename_i hj
        rw [List.getElem?_range (by omega), List.getElem?_range hj]
      · rename_i hj
        rw [List.getElem?_eq_none (by simpa using hj)]; rfl
    · rw [List.length_replicate]; exact made_rep ok.zs ok.s0 hz _
    · intro b hb o
      rw [upd_same] at hb
      simp [blk] at hb
      exact s.hin.none_new (by omega) o
  · have := Den.vec (P := P) (E := E) (ρ := upd ρ S.nx (.slice (some ⟨w.heap.size, 0, none⟩) l.toNat cc.toNat)) (H := H) (n := S.nx) (by rw [upd_same]; rfl)
    rwa [upd_same] at this
end
end Go.Fw
