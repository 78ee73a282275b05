import Derived.Test.YtmjenjccinfbaaaDoorFwR
import Derived.LaidEql
import Derived.Laws.Tables
/- The frame-work, part Ra: struct values, type assertions, errors held against one another. -/
namespace Go.Fw
set_option linter.unusedVariables false
set_option linter.unusedSimpArgs false
open Go

section
variable {P : Program} {E : Nat → Value}

/-- The errors' type: a pointer to something of a size, that may be compared. -/
def ErrT (P : Program) (T : TypeId) : Prop := ∃ el i j, P.underlying T = some (.pointer el) ∧ P.info? T = some i ∧ i.comparable = true ∧ P.info? el = some j ∧ j.size ≠ 0
/-- The errors are of that type, each at a place of its own. -/
def ErrA (E : Nat → Value) (T : TypeId) : Prop := ∃ ad : Nat → Addr, (∀ k, E k = .iface T (.pointer (some (ad k)))) ∧ ∀ j k, ad j = ad k → j = k
def Errs2 (P : Program) (et : Option TypeId) (E : Nat → Value) : Prop := Errs E ∧ ∀ T, et = some T → ErrT P T ∧ ErrA E T
/-- What the known errors point to lies in memory that nobody owns. -/
def ErrC (E : Nat → Value) (c : Ctx) : Prop := ∀ g a T, c.G g = true → E g = .iface T (.pointer (some a)) → ¬ c.own a.block ∧ (∃ o v, c.H0 a.block o = some v) ∧ ∃ cs t, c.w0.heap[a.block]? = some (.cells cs t (0, 0))
/-- The same, as a caller tells it. -/
def ErrW (E : Nat → Value) (G : Nat → Bool) (H : FH) (w : World) : Prop := ∀ g a T, G g = true → E g = .iface T (.pointer (some a)) → (∃ o v, H a.block o = some v) ∧ ∃ cs t, w.heap[a.block]? = some (.cells cs t (0, 0))
theorem ErrC.now {c : Ctx} (h : ErrC E c) {ρ : Nat → Value} {H : FH} {S : SSt} {a : Act} {w : World} (s : Sat P E c ρ H S a w) : ErrW E c.G H w := by
  intro g ad T hg he
  obtain ⟨h1, ⟨o, v, h2⟩, cs, t, h3⟩ := h g ad T hg he
  refine ⟨⟨o, v, s.hle _ _ _ h2⟩, cs, t, ?_⟩
  rw [s.kept.block _ (Array.getElem?_eq_some_iff.1 h3).1 h1]; exact h3

theorem fld_part {tid : TypeId} (hu : (P.underlying tid).isSome = true) (hs : (P.info? tid).map (·.size) = some (tyOf P 8 tid).size) {ρ : Nat → Value} {H : FH} {l : List SV} {cs : List Value} (hd : DenC P E ρ H l cs) {off : Nat} {p : Prop} {v : SV}
    (h : evFld off (tyOf P 8 tid).size (isAgg (tyOf P 8 tid)) (.agg l) = some (p, v)) {nx : Nat} (hl : SV.ltL nx l) (w : World) : ∃ u, (part tid cs.toArray off).run P w = .ok u w ∧ Den P E ρ H v u ∧ v.lt nx := by
  unfold evFld at h
  simp only at h
  cases hg : isAgg (tyOf P 8 tid) with
  | true =>
    simp only [hg] at h
    split at h
    · rename_i q r e1
      split at h
      · rename_i a r' e2
        cases h
        obtain ⟨c1, c2, g1, g2, g3, g4⟩ := takeC_den _ hd e1
        obtain ⟨c3, c4, g5, g6, g7, g8⟩ := takeC_den _ g4 e2
        have hlt := takeC_lt _ (takeC_lt _ hl e1).2 e2
        refine ⟨.agg (cs.toArray.extract off (off + (tyOf P 8 tid).size)), ?_, ?_, hlt.1⟩
        · simp [part, Sem.run_bind, run_isAgg tid hu, hg, run_sizeOf tid hs, Sem.run, pure]
        · have : cs.toArray.extract off (off + (tyOf P 8 tid).size) = c3.toArray := by
            rw [List.extract_toArray, g1, g5]
            congr 1
            simp [List.extract, ← g2, ← g6]
          rw [this]; exact .agg g7
      · cases h
    · cases h
  | false =>
    simp only [hg] at h
    split at h
    · rename_i v' e1
      cases h
      obtain ⟨u, hu', hden, _⟩ := cellAt_den hd e1
      refine ⟨u, ?_, hden, cellAt_lt hl e1⟩
      simp [part, Sem.run_bind, run_isAgg tid hu, hg, hu', Sem.run, pure]
    · cases h

/-! ### Struct literals -/
/-- Rows of cells, one by one. -/
def DenS (P : Program) (E : Nat → Value) (ρ : Nat → Value) (H : FH) : List (List SV) → List (List Value) → Prop
  | [], [] => True
  | z :: zs, c :: cs => DenC P E ρ H z c ∧ DenS P E ρ H zs cs
  | _, _ => False
theorem denS_flat {ρ : Nat → Value} {H : FH} : ∀ {zs : List (List SV)} {cs : List (List Value)}, DenS P E ρ H zs cs → DenC P E ρ H zs.flatten cs.flatten
  | [], [], _ => .nil
  | z :: zs, c :: cs, h => by simp only [List.flatten_cons]; exact denC_append h.1 (denS_flat h.2)
  | [], _ :: _, h => h.elim
  | _ :: _, [], h => h.elim
theorem denS_set {ρ : Nat → Value} {H : FH} : ∀ {zs : List (List SV)} {cs : List (List Value)} {i : Nat} {z : List SV} {c : List Value}, DenS P E ρ H zs cs → DenC P E ρ H z c → DenS P E ρ H (zs.set i z) (cs.set i c)
  | [], [], _, _, _, _, _ => trivial
  | z :: zs, c :: cs, 0, _, _, h, h' => ⟨h', h.2⟩
  | z :: zs, c :: cs, i + 1, _, _, h, h' => ⟨h.1, denS_set h.2 h'⟩
  | [], _ :: _, _, _, _, h, _ => h.elim
  | _ :: _, [], _, _, _, h, _ => h.elim
theorem denS_len {ρ : Nat → Value} {H : FH} : ∀ {zs : List (List SV)} {cs : List (List Value)}, DenS P E ρ H zs cs → zs.length = cs.length ∧ ∀ i, (cs.getD i []).length = lenC (zs.getD i [])
  | [], [], _ => ⟨rfl, fun i => by simp [lenC]⟩
  | z :: zs, c :: cs, h => by
    have ih := denS_len h.2
    refine ⟨by simp [ih.1], fun i => ?_⟩
    cases i with
    | zero => simpa using denC_len h.1
    | succ i => simpa using ih.2 i
  | [], _ :: _, h => h.elim
  | _ :: _, [], h => h.elim
theorem segsZ_den {ρ : Nat → Value} {H : FH} : ∀ {szs : List Nat} {l : List SV} {cs : List Value} {zs : List (List SV)}, segsZ szs l = some zs → DenC P E ρ H l cs → ∃ css, DenS P E ρ H zs css ∧ css.flatten = cs ∧ css.map (·.length) = szs
  | [], [], cs, zs, h, hd => by simp only [segsZ] at h; cases h; cases hd; exact ⟨[], trivial, rfl, rfl⟩
  | [], _ :: _, cs, zs, h, hd => by simp [segsZ] at h
  | sz :: r, l, cs, zs, h, hd => by
    simp only [segsZ] at h
    split at h
    · rename_i a b e
      obtain ⟨zs', h1, rfl⟩ := Option.map_eq_some_iff.1 h
      obtain ⟨c1, c2, g1, g2, g3, g4⟩ := takeC_den _ hd e
      obtain ⟨css, h2, h3, h4⟩ := segsZ_den h1 g4
      exact ⟨c1 :: css, ⟨g3, h2⟩, by rw [List.flatten_cons, h3, g1], by rw [List.map_cons, h4, g2]⟩
    · cases h
theorem ltL_flat {nx : Nat} : ∀ {zs : List (List SV)}, (∀ z ∈ zs, SV.ltL nx z) → SV.ltL nx zs.flatten
  | [], _ => trivial
  | z :: zs, h => by simp only [List.flatten_cons]; exact ltL_append (h z (by simp)) (ltL_flat (fun y hy => h y (by simp [hy])))
theorem segsZ_lt {nx : Nat} : ∀ {szs : List Nat} {l : List SV} {zs : List (List SV)}, segsZ szs l = some zs → SV.ltL nx l → ∀ z ∈ zs, SV.ltL nx z
  | [], [], zs, h, hd => by simp only [segsZ] at h; cases h; simp
  | [], _ :: _, zs, h, hd => by simp [segsZ] at h
  | sz :: r, l, zs, h, hd => by
    simp only [segsZ] at h
    split at h
    · rename_i a b e
      obtain ⟨zs', h1, rfl⟩ := Option.map_eq_some_iff.1 h
      have hlt := takeC_lt _ hd e
      intro z hz
      rcases List.mem_cons.1 hz with rfl | hz
      · exact hlt.1
      · exact segsZ_lt h1 hlt.2 z hz
    · cases h

/-- Where the parts of a row of rows begin. -/
def offAt : List (List Value) → Nat → Nat
  | _, 0 => 0
  | [], _ + 1 => 0
  | c :: cs, i + 1 => c.length + offAt cs i
theorem offAt_eq : ∀ (cs : List (List Value)) (i : Nat), offAt cs i = ((cs.take i).map (·.length)).sum
  | _, 0 => by simp [offAt]
  | [], i + 1 => by simp [offAt]
  | c :: cs, i + 1 => by simp [offAt, offAt_eq cs i]
theorem flat_split : ∀ (cs : List (List Value)) (i : Nat), i < cs.length → cs.flatten = (cs.take i).flatten ++ (cs.getD i [] ++ (cs.drop (i + 1)).flatten) := by
  intro cs
  induction cs with
  | nil => intro i h; simp at h
  | cons c cs ih =>
    intro i h
    cases i with
    | zero => simp
    | succ i => simpa using ih i (by simpa using h)
theorem set_split : ∀ (cs : List (List Value)) (i : Nat) (c : List Value), i < cs.length → (cs.set i c).flatten = (cs.take i).flatten ++ (c ++ (cs.drop (i + 1)).flatten) := by
  intro cs
  induction cs with
  | nil => intro i _ h; simp at h
  | cons d cs ih =>
    intro i c h
    cases i with
    | zero => simp
    | succ i => simpa using ih i c (by simpa using h)
theorem offAt_len (cs : List (List Value)) (i : Nat) : offAt cs i = (cs.take i).flatten.length := by rw [offAt_eq, List.length_flatten]
theorem foldl_put (a b c d : List Value) (h : b.length = c.length) : (c.zipIdx 0).foldl (fun cs (x : Value × Nat) => cs.setIfInBounds (a.length + x.2) x.1) (a ++ (b ++ d)).toArray = (a ++ (c ++ d)).toArray := by
  obtain ⟨h1, h2⟩ := Great.foldl_set a.length c 0 (a ++ (b ++ d)).toArray
  apply Array.ext_getElem?
  intro k
  rw [h2 k]
  simp only [Nat.add_zero, List.size_toArray, List.length_append, List.getElem?_toArray]
  by_cases hk : a.length ≤ k ∧ k < a.length + c.length
  · rw [if_pos (by omega), List.getElem?_append_right (by omega), List.getElem?_append_left (by omega)]
  · rw [if_neg (by omega)]
    rcases Nat.lt_or_ge k a.length with h3 | h3
    · rw [List.getElem?_append_left h3, List.getElem?_append_left h3]
    · rw [List.getElem?_append_right h3, List.getElem?_append_right h3, List.getElem?_append_right (by omega), List.getElem?_append_right (by omega), h]

theorem fill_segs (place : Nat → Option (Nat × Nat)) : ∀ (ps : List (Nat × Value)) (css : List (List Value)), (∀ i, i < css.length → place i = some (offAt css i, (css.getD i []).length)) → (∀ p ∈ ps, p.1 < css.length ∧ p.2.cells.size = (css.getD p.1 []).length) →
    Instr.fill place css.flatten.toArray ps = some (ps.foldl (fun cs p => cs.set p.1 p.2.cells.toList) css).flatten.toArray
  | [], css, _, _ => by simp [Instr.fill]
  | (i, v) :: ps, css, hp, hv => by
    obtain ⟨h1, h2⟩ := hv (i, v) (by simp)
    simp only at h1 h2
    have hsz : css.flatten.length = ((css.take i).flatten ++ (css.getD i [] ++ (css.drop (i + 1)).flatten)).length := by rw [← flat_split css i h1]
    simp only [List.length_append] at hsz
    unfold Instr.fill
    rw [hp i h1]
    simp only [h2]
    have ho := offAt_len css i
    rw [if_neg (by simp only [List.size_toArray, ne_eq, not_true_eq_false, false_or, Bool.or_eq_true, decide_eq_true_eq]; omega)]
    have hput := foldl_put (css.take i).flatten (css.getD i []) v.cells.toList (css.drop (i + 1)).flatten (h2.symm.trans Array.length_toList.symm)
    rw [← flat_split css i h1, ← set_split css i _ h1, ← ho] at hput
    have e : (v.cells.zipIdx.foldl (fun cs (x : Value × Nat) => cs.setIfInBounds (offAt css i + x.2) x.1) css.flatten.toArray) = (css.set i v.cells.toList).flatten.toArray := by
      rw [← hput, ← Array.foldl_toList]
      simp
    have e2 : (v.cells.zipIdx.foldl (fun cs (x : Value × Nat) => match x with | (c, j) => cs.setIfInBounds (offAt css i + j) c) css.flatten.toArray) = (css.set i v.cells.toList).flatten.toArray := e
    rw [e2]
    have hlen : ∀ j, ((css.set i v.cells.toList).getD j []).length = (css.getD j []).length := by
      intro j
      rw [List.getD_eq_getElem?_getD, List.getD_eq_getElem?_getD, List.getElem?_set]
      by_cases hj : i = j
      · subst hj
        rw [if_pos rfl, if_pos h1, Option.getD_some]
        rw [List.getD_eq_getElem?_getD] at h2
        simp [← h2]
      · rw [if_neg hj]
    have hoff : ∀ j, offAt (css.set i v.cells.toList) j = offAt css j := by
      have hm : (css.set i v.cells.toList).map (·.length) = css.map (·.length) := by
        apply List.ext_getElem?
        intro j
        simp only [List.getElem?_map, List.getElem?_set]
        by_cases hj : i = j
        · subst hj
          rw [if_pos rfl, if_pos h1, List.getElem?_eq_getElem h1]
          rw [List.getD_eq_getElem?_getD, List.getElem?_eq_getElem h1, Option.getD_some] at h2
          simp [← h2]
        · rw [if_neg hj]
      intro j
      rw [offAt_eq, offAt_eq, List.map_take, List.map_take, hm]
    refine (fill_segs place ps (css.set i v.cells.toList) ?_ ?_).trans (by simp only [List.foldl_cons])
    · intro j hj
      rw [List.length_set] at hj
      rw [hp j hj, hoff, hlen]
    · intro p hp'
      rw [List.length_set, hlen]
      exact hv p (by simp [hp'])

theorem offsOk_places : ∀ {fs : List Field} {off : Nat} {szs : List Nat}, offsOk P off fs = some szs → ∃ pl, fs.mapM (fun f => (P.info? f.type).map fun i => (f.offset, i.size)) = some pl ∧ pl.length = szs.length ∧ ∀ i, i < szs.length → pl[i]? = some (off + (szs.take i).sum, szs.getD i 0)
  | [], off, szs, h => by simp only [offsOk] at h; cases h; exact ⟨[], by simp, rfl, by simp⟩
  | f :: fs, off, szs, h => by
    simp only [offsOk] at h
    split at h
    · rename_i i hi
      split at h
      · rename_i ho
        obtain ⟨r, h1, rfl⟩ := Option.map_eq_some_iff.1 h
        obtain ⟨pl, h2, h3, h4⟩ := offsOk_places h1
        refine ⟨(f.offset, i.size) :: pl, ?_, by simp [h3], fun k hk => ?_⟩
        · simp only [List.mapM_cons, hi, Option.map_some, h2, Option.bind_eq_bind, Option.bind_some, Option.pure_def]
        · cases k with
          | zero => simp [ho]
          | succ k =>
            have := h4 k (by simpa using hk)
            simp only [List.getElem?_cons_succ, this, List.take_succ_cons, List.sum_cons, List.getD_cons_succ, Nat.add_assoc]
      · cases h
    · cases h

theorem evBld_sound (hE : ∀ k, (E k).oneCell' = true) {ρ : Nat → Value} {H : FH} {f : Fr} {a : Act} {nx : Nat} (hf : ∀ {x : Operand} {x' : Opd}, cOpd x = some x' → Den P E ρ H (oget x' f) (a.eval x) ∧ (oget x' f).lt nx) :
    ∀ {ps : List (Nat × Operand)} {ps' : List (Nat × Opd)} {zs : List (List SV)} {css : List (List Value)} {p : Prop} {l : List SV}, cParts ps = some ps' → DenS P E ρ H zs css → (∀ z ∈ zs, SV.ltL nx z) → evBld f zs ps' = some (p, l) → p →
      (∀ q ∈ ps.map (fun q => (q.1, a.eval q.2)), q.1 < css.length ∧ q.2.cells.size = (css.getD q.1 []).length) ∧ DenC P E ρ H l ((ps.map (fun q => (q.1, a.eval q.2))).foldl (fun cs q => cs.set q.1 q.2.cells.toList) css).flatten ∧ SV.ltL nx l
  | [], ps', zs, css, p, l, hc, hd, hz, h, hp => by
    simp only [cParts] at hc; cases hc
    simp only [evBld] at h; cases h
    exact ⟨by simp, denS_flat hd, ltL_flat hz⟩
  | (i, x) :: ps, ps', zs, css, p, l, hc, hd, hz, h, hp => by
    simp only [cParts] at hc
    split at hc
    · rename_i y m e1 e2
      cases hc
      simp only [evBld] at h
      split at h
      · rename_i q l' e3
        cases h
        obtain ⟨⟨g1, g2, g3⟩, hq⟩ := hp
        obtain ⟨hx, hxl⟩ := hf e1
        obtain ⟨cs, hv, hcd⟩ := svCells_den hE hx g2
        have hcl : (a.eval x).cells.toList = cs := by rw [hv]
        have hlen := denC_len hcd
        obtain ⟨k1, k2⟩ := denS_len hd
        have hl2 : SV.ltL nx (svCells (oget y f)) := by
          generalize oget y f = u at hxl
          cases u <;> first | exact ⟨hxl, trivial⟩ | exact hxl
        have hz' : ∀ z ∈ zs.set i (svCells (oget y f)), SV.ltL nx z := by
          intro z hz1
          rcases List.mem_or_eq_of_mem_set hz1 with h5 | h5
          · exact hz z h5
          · rw [h5]; exact hl2
        obtain ⟨h1, h2, h3⟩ := evBld_sound hE hf e2 (denS_set hd hcd) hz' e3 hq
        have hsz : (a.eval x).cells.size = (css.getD i []).length := by rw [hv, List.size_toArray, hlen, g1, k2]
        refine ⟨?_, ?_, h3⟩
        · intro r hr
          simp only [List.map_cons, List.mem_cons] at hr
          rcases hr with rfl | hr
          · exact ⟨by omega, hsz⟩
          · obtain ⟨h6, h7⟩ := h1 r hr
            rw [List.length_set] at h6
            refine ⟨h6, ?_⟩
            rw [h7, List.getD_eq_getElem?_getD, List.getD_eq_getElem?_getD, List.getElem?_set]
            by_cases hj : i = r.1
            · rw [if_pos hj, if_pos (by omega), Option.getD_some, ← hj, ← List.getD_eq_getElem?_getD, ← hsz, hv, List.size_toArray]
            · rw [if_neg hj]
        · simp only [List.map_cons, List.foldl_cons, hcl]
          exact h2
      · cases h
    · cases hc

theorem bld_sound (hE : ∀ k, (E k).oneCell' = true) {ρ : Nat → Value} {H : FH} {f : Fr} {a : Act} {nx : Nat} (hf : ∀ {x : Operand} {x' : Opd}, cOpd x = some x' → Den P E ρ H (oget x' f) (a.eval x) ∧ (oget x' f).lt nx)
    {t : TypeId} {fs : Array Field} (hu : P.underlying t = some (.struct fs)) {zs : List (List SV)} (hz : bldZ P t fs.toList = some zs) {ps : Array (Nat × Operand)} {ps' : List (Nat × Opd)} (hc : cParts ps.toList = some ps') {p : Prop} {l : List SV} (h : evBld f zs ps' = some (p, l)) (hp : p) (w : World) :
    ∃ u, (Instr.build t (ps.map fun (i, x) => (i, a.eval x))).run P w = .ok u w ∧ Den P E ρ H (.agg l) u ∧ (SV.agg l).lt nx := by
  unfold bldZ at hz
  split at hz
  · rename_i szs z hs hzs
    obtain ⟨i, zv, hi, hzv, hd, hzl⟩ := zsv_den (P := P) (E := E) hzs ρ H
    obtain ⟨css, h1, h2, h3⟩ := segsZ_den hz hd
    obtain ⟨pl, h4, h5, h6⟩ := offsOk_places hs
    obtain ⟨g1, g2, g3⟩ := evBld_sound hE hf hc h1 (segsZ_lt hz (hzl nx)) h hp
    have hpl : ∀ k, k < css.length → pl.toArray[k]? = some (offAt css k, (css.getD k []).length) := by
      intro k hk
      have hk' : k < szs.length := by rw [← h3, List.length_map]; exact hk
      rw [List.getElem?_toArray, h6 k hk', offAt_eq, List.map_take, h3, Nat.zero_add]
      congr 2
      rw [← h3, List.getD_eq_getElem?_getD, List.getD_eq_getElem?_getD, List.getElem?_map, List.getElem?_eq_getElem hk]
      rfl
    have hfill := fill_segs (fun k => pl.toArray[k]?) (ps.toList.map fun q => (q.1, a.eval q.2)) css hpl g1
    refine ⟨_, run_build w t _ _ ?_, .agg g2, g3⟩
    unfold Program.built
    simp only [hi, hu, hzv, h4]
    rw [← hfill]
    congr 1
    · rw [h2]
    · simp
  · cases hz

theorem tas_sound {et : Option TypeId} (hE : Errs2 P et E) {W : Opts} (hW : W.et = et) {ρ : Nat → Value} {H : FH} {t e xt : TypeId} (hu : P.underlying t = some (.pointer e)) (hn : nilOk P t = true) {x : SV} {vx : Value} {nx : Nat} (hx : Den P E ρ H x vx) (hxl : x.lt nx)
    {p : Prop} {v : SV} (h : evTas (W.et.getD t) t e x = some (p, v)) (hp : p) (w : World) : ∃ u, (Instr.typeAssert vx xt t true).run P w = .ok u w ∧ Den P E ρ H v u ∧ v.lt nx := by
  have hz := nilOk_spec hn w
  have nope : Den P E ρ H (.tup [.dat (.ptr e) .nil, .bool false]) (.tuple #[.pointer none, .bool false]) := .tup (.cons (.dat rfl .pnil) (.cons .bool .nil))
  have ty : tyOf P 8 t = .ptr e := by simp [tyOf, hu]
  unfold evTas at h
  split at h
  · cases h
    cases hx with | dat _ hr =>
    cases hr with | inil =>
    exact ⟨_, by simp [Instr.typeAssert, Sem.run_bind, run_underlying hu, hz, Sem.run, pure], nope, trivial, trivial, trivial⟩
  · cases h
    cases hx with | dat _ hr =>
    cases hr with | err =>
    rename_i k
    cases he : et with
    | none => rw [hW, he] at hp; exact absurd rfl hp
    | some T =>
      obtain ⟨_, ad, hv, _⟩ := hE.2 T he
      rw [hW, he] at hp
      have hne : ¬ T = t := hp
      exact ⟨_, by rw [hv]; simp [Instr.typeAssert, Sem.run_bind, run_underlying hu, hz, hne, Sem.run, pure], nope, trivial, trivial, trivial⟩
  · cases hx with | dat _ hr =>
    cases hr with | ifc hr =>
    rename_i t' d v'
    split at h
    · rename_i e1; cases h
      subst e1
      rw [ty] at hr
      exact ⟨_, by simp [Instr.typeAssert, Sem.run_bind, run_underlying hu, Sem.run, pure], .tup (.cons (.dat rfl hr) (.cons .bool .nil)), trivial, trivial, trivial⟩
    · rename_i e1; cases h
      exact ⟨_, by simp [Instr.typeAssert, Sem.run_bind, run_underlying hu, hz, e1, Sem.run, pure], nope, trivial, trivial, trivial⟩
  · cases hx with | ifc hr =>
    rename_i t' y v'
    split at h
    · rename_i e1; cases h
      subst e1
      exact ⟨_, by simp [Instr.typeAssert, Sem.run_bind, run_underlying hu, Sem.run, pure], .tup (.cons hr (.cons .bool .nil)), hxl, trivial, trivial⟩
    · rename_i e1; cases h
      exact ⟨_, by simp [Instr.typeAssert, Sem.run_bind, run_underlying hu, hz, e1, Sem.run, pure], nope, trivial, trivial, trivial⟩
  · cases h

theorem run_eqop2 {a : Act} {o : Oper} {op : BinOp} {t t' : TypeId} {x y : Operand} (ho : o.op = .binOp op t x y t') {w : World} {b : Bool} (hop : op = .eql ∨ op = .neq) {vx vy : Value} (hvx : a.eval x = vx) (hvy : a.eval y = vy)
    (hx : vx = .nilIface ∨ ∃ t v, vx = .iface t v) (hnn : vx = .nilIface → ∃ t v, vy = .iface t v) (h : (Op.equal t vx vy).run P w = .ok b w) :
    (execOp a.eval o).run P w = .ok (.value (.bool (if op == .neq then !b else b))) w := by
  simp only [execOp, ho]
  refine run_v _ w w _ ?_
  simp only [Sem.run_bind, hvx, hvy]
  have hg : (eqGuard op t x y vx vy).run P w = .ok () w := by
    unfold eqGuard
    rcases hop with rfl | rfl
    all_goals
      simp only [Bool.not_true, Bool.false_eq_true, if_false]
      rcases hx with rfl | ⟨t1, v1, rfl⟩
      · obtain ⟨t2, v2, rfl⟩ := hnn rfl
        simp [Sem.run, pure]
      · simp [Sem.run, pure]
  rw [hg]
  simp only [Result.andThen_ok]
  rcases hop with rfl | rfl
  · rcases hx with rfl | ⟨t1, v1, rfl⟩ <;> cases vy <;> simp [binOp, Sem.run_bind, h, Sem.run, pure]
  · rcases hx with rfl | ⟨t1, v1, rfl⟩ <;> cases vy <;> simp [binOp, Sem.run_bind, h, Sem.run, pure]

theorem eqIn_nil_iface (d : Nat) (t : TypeId) {ms : Array (String × TypeId)} (hu : P.underlying t = some (.interface ms)) (t1 : TypeId) (v1 : Value) (w : World) : (Op.equalIn (d + 1) t .nilIface (.iface t1 v1)).run P w = .ok false w ∧ (Op.equalIn (d + 1) t (.iface t1 v1) .nilIface).run P w = .ok false w := by
  constructor <;> simp [Op.equalIn, Sem.run_bind, run_underlying hu, Sem.run, pure]
theorem eqIn_types (d : Nat) (t : TypeId) {ms : Array (String × TypeId)} (hu : P.underlying t = some (.interface ms)) (t1 t2 : TypeId) (v1 v2 : Value) (h : ¬ t1 = t2) (w : World) : (Op.equalIn (d + 1) t (.iface t1 v1) (.iface t2 v2)).run P w = .ok false w := by
  simp [Op.equalIn, Sem.run_bind, run_underlying hu, Sem.run, pure, h]

theorem ifq_sound {et : Option TypeId} (hE : Errs2 P et E) {c : Ctx} {W : Opts} (hG : W.gl = c.G) (hC : ErrC E c ∧ W.et = et) {ρ : Nat → Value} {H : FH} {S : SSt} {a : Act} {w : World} (s : Sat P E c ρ H S a w) {o : Oper} {d : Nat} (hd : o.dst = some d) (hdN : d < c.N)
    {op : BinOp} {t t' : TypeId} {x y : Operand} (ho : o.op = .binOp op t x y t') {x' y' : Opd} (hx : cOpd x = some x') (hy : cOpd y = some y') {i : IOp} (hc : compIfq P W op t d x' y' = some i) {p : Prop} {S' : SSt} (h : ev i S = some (p, S')) (hp : p)
    {K : Act → World → Prop} {Q : Exit → Act → World → Prop} (hK : ∀ ρ' H' a' w', Sat P E c ρ' H' S' a' w' → K a' w') : o.wp P a w K Q := by
  have sx := (s.opd hx).1
  have sy := (s.opd hy).1
  have key : ∀ (neg : Bool) (T : TypeId) (ms : Array (String × TypeId)), P.underlying t = some (.interface ms) → et = some T → W.es.all W.gl = true → (op = .eql ∨ op = .neq) → (neg = (op == .neq)) → i = .ifq d neg T W.es x' y' → o.wp P a w K Q := by
    intro neg T ms hu hT hes hop hneg hi
    subst hi
    obtain ⟨⟨el, i1, j1, hp1, hi1, hcmp, hj1, hsz⟩, ad, hv, hinj⟩ := hE.2 T hT
    have hnow := hC.1.now s
    simp only [ev] at h
    split at h
    · rename_i q b hq
      cases h
      have fin : ∀ (vx vy : Value), a.eval x = vx → a.eval y = vy → (vx = .nilIface ∨ ∃ t v, vx = .iface t v) → (vx = .nilIface → ∃ t v, vy = .iface t v) → (Op.equal t vx vy).run P w = .ok b w → o.wp P a w K Q := by
        intro vx vy hvx hvy h1 h2 h3
        have := run_eqop2 (P := P) ho hop hvx hvy h1 h2 h3
        rw [← hneg] at this
        exact put_sound s hd hdN hK ⟨_, this, .bool, trivial⟩
      unfold evIfq at hq
      generalize oget x' S.f = X at hq sx
      generalize oget y' S.f = Y at hq sy
      generalize hvx : a.eval x = vx at sx
      generalize hvy : a.eval y = vy at sy
      split at hq
      · cases hq
        cases sx with | dat e1 r1 =>
        cases sy with | dat e2 r2 =>
        rename_i k
        have e1' : vx = .nilIface := by cases r1; rfl
        have e2' : vy = E k := by cases r2; rfl
        rw [hv] at e2'
        subst e1' e2'
        refine fin _ _ hvx hvy (.inl rfl) (fun _ => ⟨_, _, rfl⟩) ?_
        rw [equal_in]; exact (eqIn_nil_iface _ t hu _ _ w).1
      · cases hq
        cases sx with | dat e1 r1 =>
        cases sy with | dat e2 r2 =>
        rename_i k
        have e1' : vx = E k := by cases r1; rfl
        have e2' : vy = .nilIface := by cases r2; rfl
        rw [hv] at e1'
        subst e1' e2'
        refine fin _ _ hvx hvy (.inr ⟨_, _, rfl⟩) (fun h => by cases h) ?_
        rw [equal_in]; exact (eqIn_nil_iface _ t hu _ _ w).2
      · rename_i j k
        cases hq
        cases sx with | dat e1 r1 =>
        cases sy with | dat e2 r2 =>
        have e1' : vx = E j := by cases r1; rfl
        have e2' : vy = E k := by cases r2; rfl
        have hgj : c.G j = true := by rw [← hG]; exact List.all_eq_true.1 hes j hp.1
        have hgk : c.G k = true := by rw [← hG]; exact List.all_eq_true.1 hes k hp.2
        obtain ⟨_, cj, tj, hj⟩ := hnow j (ad j) T hgj (hv j)
        obtain ⟨_, ck, tk, hk⟩ := hnow k (ad k) T hgk (hv k)
        rw [hv] at e1' e2'
        subst e1' e2'
        refine fin _ _ hvx hvy (.inr ⟨_, _, rfl⟩) (fun h => by cases h) ?_
        by_cases ejk : j = k
        · subst ejk
          simp only [beq_self_eq_true]
          rw [equal_in]
          exact run_equalIn_iface_ptr_same w 9998 (ad j) hu hp1 hi1 hcmp hj1
        · have : (j == k) = false := by simpa using ejk
          rw [this]
          rw [equal_in]
          exact run_equalIn_iface_ptr_other w 9998 hu hp1 hi1 hcmp hj1 hsz (fun e => ejk (hinj _ _ e)) hj hk
      · rename_i j t2 d2
        cases hq
        cases sx with | dat e1 r1 =>
        cases sy with | dat e2 r2 =>
        have e1' : vx = E j := by cases r1; rfl
        have e2' : ∃ v, vy = .iface t2 v := by cases r2 with | ifc h => exact ⟨_, rfl⟩
        obtain ⟨v2, e2'⟩ := e2'
        rw [hv] at e1'
        subst e1' e2'
        refine fin _ _ hvx hvy (.inr ⟨_, _, rfl⟩) (fun h => by cases h) ?_
        have hne : ¬ T = t2 := fun e => hp e.symm
        rw [equal_in]; exact eqIn_types _ t hu _ _ _ _ hne w
      · rename_i t2 d2 j
        cases hq
        cases sx with | dat e1 r1 =>
        cases sy with | dat e2 r2 =>
        have e1' : vy = E j := by cases r2; rfl
        have e2' : ∃ v, vx = .iface t2 v := by cases r1 with | ifc h => exact ⟨_, rfl⟩
        obtain ⟨v2, e2'⟩ := e2'
        rw [hv] at e1'
        subst e1' e2'
        refine fin _ _ hvx hvy (.inr ⟨_, _, rfl⟩) (fun h => by cases h) ?_
        have hne : ¬ t2 = T := fun e => hp e
        rw [equal_in]; exact eqIn_types _ t hu _ _ _ _ hne w
      · cases hq
    · cases h
  unfold compIfq at hc
  split at hc
  · rename_i ms T hu hT
    split at hc
    · rename_i hes
      have hT' : et = some T := by rw [← hC.2]; exact hT
      split at hc
      · cases hc; exact key false T ms hu hT' hes (.inl rfl) rfl rfl
      · cases hc; exact key true T ms hu hT' hes (.inr rfl) rfl rfl
      · cases hc
    · cases hc
  · cases hc

theorem run_part_int {t : TypeId} {k : IntKind} (hu : P.underlying t = some (.int k)) {X : Array Value} {i : Nat} {v : Value} (hv : X[i]? = some v) (w : World) : (part t X i).run P w = .ok v w := by
  have hi : (Go.isAgg t).run P w = .ok false w := by simp [Go.isAgg, Sem.run_bind, run_underlying hu, Sem.run, pure]
  simp [part, Sem.run_bind, hi, hv, Sem.run, pure]
theorem run_eq_int {t : TypeId} {k : IntKind} (hu : P.underlying t = some (.int k)) (d : Nat) (j : IntKind) (a b : Int) (w : World) : (Op.equalIn (d + 1) t (.int j a) (.int j b)).run P w = .ok (a == b) w := by
  unfold Op.equalIn
  simp [Sem.run_bind, run_underlying hu, Sem.run, pure]
theorem loop_flat {d : Nat} {X Y : Array Value} : ∀ (l : List Field) (i : Nat) (w : World), flatFs P l i = true → (∀ j, j < l.length → ∃ k a b, X[i + j]? = some (.int k a) ∧ Y[i + j]? = some (.int k b)) →
    ∃ r : Bool, (r = true ↔ ∀ j, j < l.length → X[i + j]? = Y[i + j]?) ∧ (Sem.run P (forIn l ((none : Option Bool), ()) fun f __s =>
                if f.name = "_" then pure (ForInStep.yield (none, ()))
                else do
                  let __do_lift ← part f.type X f.offset
                  let __do_lift_1 ← part f.type Y f.offset
                  let __do_lift ← Op.equalIn (d + 1) f.type __do_lift __do_lift_1
                  if __do_lift = false then pure (ForInStep.done (some false, ()))
                    else pure (ForInStep.yield (none, ()))) w) = .ok (if r then none else some false, ()) w
  | [], i, w, _, _ => ⟨true, by simp, by simp [Sem.run, pure]⟩
  | f :: l, i, w, hf, hv => by
    simp only [flatFs, flatF, Bool.and_eq_true, bne_iff_ne, beq_iff_eq] at hf
    obtain ⟨⟨⟨hn, ho⟩, hu⟩, hl⟩ := hf
    split at hu
    · rename_i k0 hk
      obtain ⟨k, a, b, hx, hy⟩ := hv 0 (by simp)
      obtain ⟨r, hr, hrun⟩ := loop_flat (d := d) (X := X) (Y := Y) l (i + 1) w hl (fun j hj => by
        have := hv (j + 1) (by simpa using hj)
        rwa [show i + (j + 1) = i + 1 + j by omega] at this)
      rw [Nat.add_zero] at hx hy
      have e1 := run_part_int hk (i := f.offset) (X := X) (v := .int k a) (by rw [ho]; exact hx) w
      have e2 := run_part_int hk (i := f.offset) (X := Y) (v := .int k b) (by rw [ho]; exact hy) w
      have e3 := run_eq_int hk d k a b w
      refine ⟨a == b && r, ?_, ?_⟩
      · rw [Bool.and_eq_true, beq_iff_eq, hr]
        constructor
        · rintro ⟨rfl, h⟩ j hj
          cases j with
          | zero => rw [Nat.add_zero, hx, hy]
          | succ j => have := h j (by simpa using hj); rwa [show i + 1 + j = i + (j + 1) by omega] at this
        · intro h
          refine ⟨?_, fun j hj => ?_⟩
          · have := h 0 (by simp)
            rw [Nat.add_zero, hx, hy] at this
            simpa using this
          · have := h (j + 1) (by simpa using hj)
            rwa [show i + (j + 1) = i + 1 + j by omega] at this
      · rw [List.forIn_cons]
        simp only [Sem.run_bind, hn, if_false, e1, e2, e3, Result.andThen]
        by_cases hab : a = b
        · subst hab
          simp only [beq_self_eq_true, Bool.true_eq_false, if_false, Bool.true_and]
          simp only [Sem.run, pure]
          exact hrun
        · have : (a == b) = false := by simpa using hab
          simp [this, Sem.run, pure]
    · cases hu
theorem run_eq_struct {t : TypeId} {d : Nat} {fields : Array Field} (hu : P.underlying t = some (.struct fields)) (hs : P.stoodInHeld t = false) (hf : flatFs P fields.toList 0 = true) (X Y : Array Value) (w : World)
    (hX : X.size = fields.size) (hY : Y.size = fields.size) (hv : ∀ j, j < fields.size → ∃ k a b, X[j]? = some (.int k a) ∧ Y[j]? = some (.int k b)) : ∃ r : Bool, (r = true ↔ X = Y) ∧ (Op.equalIn (d + 2) t (.agg X) (.agg Y)).run P w = .ok r w := by
  obtain ⟨r, hr, hrun⟩ := loop_flat (P := P) (d := d) (X := X) (Y := Y) fields.toList 0 w hf (fun j hj => by rw [Nat.zero_add]; exact hv j (by simpa using hj))
  refine ⟨r, hr.trans ⟨fun h => ?_, fun h j _ => by rw [h]⟩, ?_⟩
  · apply Array.ext (by rw [hX, hY])
    intro i h1 h2
    have := h i (by simpa [hX] using h1)
    rw [Nat.zero_add] at this
    simpa [Array.getElem?_eq_getElem h1, Array.getElem?_eq_getElem h2] using this
  · unfold Op.equalIn
    simp only [Sem.run_bind, run_underlying hu, Result.andThen]
    have hp : (Sem.run P program w) = .ok P w := by simp [program, Sem.run, pure]
    have : ∀ (c : Sem (Option Bool × Unit)), True := fun _ => trivial
    simp [Sem.run_bind, hp, hs, ← Array.forIn_toList]
    rw [hrun]
    cases r <;> simp [Sem.run, pure]
theorem evAgl_den {ρ : Nat → Value} {H : FH} : ∀ {l m : List SV} {b : Bool} {X Y : List Value}, evAgl l m = some b → DenC P E ρ H l X → DenC P E ρ H m Y → X.length = l.length ∧ Y.length = l.length ∧ (b = true ↔ X = Y) ∧ ∀ j, j < l.length → ∃ k a b, X[j]? = some (.int k a) ∧ Y[j]? = some (.int k b)
  | [], [], b, X, Y, h, hx, hy => by
    simp only [evAgl] at h; cases h
    cases hx; cases hy
    exact ⟨rfl, rfl, by simp, by simp⟩
  | .int k a :: l, .int k' a' :: m, b, X, Y, h, hx, hy => by
    simp only [evAgl] at h
    split at h
    · rename_i hk; subst hk
      split at h
      · rename_i r hr
        cases h
        cases hx with | one hx1 _ hx2 =>
        cases hy with | one hy1 _ hy2 =>
        cases hx1 with | int _ =>
        cases hy1 with | int _ =>
        obtain ⟨i1, i2, i3, i4⟩ := evAgl_den hr hx2 hy2
        refine ⟨by simp [i1], by simp [i2], ?_, fun j hj => ?_⟩
        · simp [i3]
        · cases j with
          | zero => exact ⟨_, _, _, rfl, rfl⟩
          | succ j => simpa using i4 j (by simpa using hj)
      · cases h
    · cases h
theorem seq_sound {c : Ctx} {ρ : Nat → Value} {H : FH} {S : SSt} {a : Act} {w : World} (s : Sat P E c ρ H S a w) {o : Oper} {d : Nat} (hd : o.dst = some d) (hdN : d < c.N)
    {op : BinOp} {t t' : TypeId} {x y : Operand} (ho : o.op = .binOp op t x y t') {x' y' : Opd} (hx : cOpd x = some x') (hy : cOpd y = some y') {i : IOp} (hc : compStr P op t d x' y' = some i) {p : Prop} {S' : SSt} (h : ev i S = some (p, S')) (hp : p)
    {K : Act → World → Prop} {Q : Exit → Act → World → Prop} (hK : ∀ ρ' H' a' w', Sat P E c ρ' H' S' a' w' → K a' w') : o.wp P a w K Q := by
  have sx := (s.opd hx).1
  have sy := (s.opd hy).1
  have key : ∀ (neg : Bool), P.underlying t = some .string → (op = .eql ∧ neg = false ∨ op = .neq ∧ neg = true) → i = .seq d neg x' y' → o.wp P a w K Q := by
    intro neg hu hop hi
    subst hi
    simp only [ev] at h
    split at h
    · rename_i q b hq
      cases h
      unfold evSeq at hq
      split at hq
      · rename_i sa sb e1 e2
        cases hq
        rw [e1] at sx
        rw [e2] at sy
        generalize hvx : a.eval x = vx at sx
        generalize hvy : a.eval y = vy at sy
        cases sx with | str _ =>
        cases sy with | str _ =>
        refine put_sound s hd hdN hK ⟨.bool (if neg then !(sa.toList == sb.toList) else sa.toList == sb.toList), ?_, .bool, trivial⟩
        simp only [execOp, ho]
        refine run_v _ w w _ ?_
        simp only [hvx, hvy]
        rcases hop with ⟨rfl, rfl⟩ | ⟨rfl, rfl⟩ <;> simp [eqGuard, binOp, Op.stringOp, Sem.run_bind, Sem.run, pure]
      · cases hq
    · cases h
  have key2 : ∀ (neg : Bool) (fs : Array Field), P.underlying t = some (.struct fs) → (P.stoodInHeld t = false ∧ P.eqGuardType P.depth t = false ∧ flatFs P fs.toList 0 = true) → (op = .eql ∧ neg = false ∨ op = .neq ∧ neg = true) → i = .agq d neg fs.size x' y' → o.wp P a w K Q := by
    intro neg fs hu hfl hop hi
    subst hi
    simp only [ev] at h
    split at h
    · rename_i q b hq
      cases h
      unfold evAgq at hq
      split at hq
      · rename_i l m e1 e2
        split at hq
        · rename_i r hr
          cases hq
          rw [e1] at sx
          rw [e2] at sy
          generalize hvx : a.eval x = vx at sx
          generalize hvy : a.eval y = vy at sy
          cases sx with | agg sx =>
          cases sy with | agg sy =>
          obtain ⟨i1, i2, i3, i4⟩ := evAgl_den hr sx sy
          obtain ⟨r', hr', hrun⟩ := run_eq_struct (d := 9998) hu hfl.1 hfl.2.2 _ _ w (by rw [List.size_toArray, i1]; exact hp) (by rw [List.size_toArray, i2]; exact hp) (fun j hj => by simpa using i4 j (by rw [hp]; exact hj))
          have hrr : r' = b := by
            rw [Bool.eq_iff_iff, hr', i3]
            simp
          subst hrr
          refine put_sound s hd hdN hK ⟨.bool (if neg then !r' else r'), ?_, .bool, trivial⟩
          simp only [execOp, ho]
          refine run_v _ w w _ ?_
          simp only [hvx, hvy]
          have hrun : (Op.equal t (.agg _) (.agg _)).run P w = .ok r' w := hrun
          rcases hop with ⟨rfl, rfl⟩ | ⟨rfl, rfl⟩ <;> simp [eqGuard, binOp, Op.stringOp, Sem.run_bind, hrun, hfl.2.1, Sem.run, pure]
        · cases hq
      · cases hq
    · cases h
  have key3 : P.underlying t = some .string → op = .add → i = .cat d x' y' → o.wp P a w K Q := by
    intro hu hop hi
    subst hi hop
    simp only [ev] at h
    obtain ⟨v, hq, rfl⟩ := sput_some h
    unfold evCat at hq
    split at hq
    · rename_i sa sb e1 e2
      cases hq
      rw [e1] at sx
      rw [e2] at sy
      generalize hvx : a.eval x = vx at sx
      generalize hvy : a.eval y = vy at sy
      cases sx with | str _ =>
      cases sy with | str _ =>
      have hm : maxLen ≤ 9223372036854775807 := by decide
      have h1 : ¬ (((sa.size + sb.size : Nat) : Int) > IntKind.i64.max) := by
        rw [show IntKind.i64.max = 9223372036854775807 from rfl]
        omega
      refine put_sound s hd hdN hK ⟨.string (sa ++ sb), ?_, .str (by rw [ByteArray.size_append]; exact hp), trivial⟩
      simp only [execOp, ho]
      refine run_v _ w w _ ?_
      simp only [hvx, hvy]
      simp only [binOp, Op.stringOp]
      rw [if_neg h1]
      rfl
    · cases hq
  unfold compStr at hc
  split at hc
  · rename_i hu; cases hc; exact key false hu (.inl ⟨rfl, rfl⟩) rfl
  · rename_i hu; cases hc; exact key true hu (.inr ⟨rfl, rfl⟩) rfl
  · rename_i hu; cases hc; exact key3 hu rfl rfl
  · rename_i fs hu; split at hc
    · rename_i hfl; cases hc; exact key2 false fs hu hfl (.inl ⟨rfl, rfl⟩) rfl
    · cases hc
  · rename_i fs hu; split at hc
    · rename_i hfl; cases hc; exact key2 true fs hu hfl (.inr ⟨rfl, rfl⟩) rfl
    · cases hc
  · cases hc

theorem bsl0_sound {c : Ctx} {ρ : Nat → Value} {H : FH} {S : SSt} {a : Act} {w : World} (s : Sat P E c ρ H S a w) {tid eid : TypeId} {bytes : Nat} {z : Value} (ok : ElemOk P tid eid bytes z) :
    ∃ u w' ρ', (Instr.buildSlice tid 0 (#[].map fun (x : Nat × Operand) => (x.1, a.eval x.2))).run P w = .ok u w' ∧ Sat P E c ρ' H { f := S.f, h := (S.nx, .arr eid (tyOf P 8 eid) []) :: S.h, nx := S.nx + 1 } a w' ∧ Den P E ρ' H (.vec S.nx) u := by
  obtain ⟨i, hi, hs, hby, hz⟩ := ok.i
  have hr : (Instr.buildSlice tid 0 (#[].map fun (x : Nat × Operand) => (x.1, a.eval x.2))).run P w = .ok (.slice (some ⟨w.heap.size, 0, none⟩) 0 0) (w.alloc (.cells #[] eid)) := by
    simp [Instr.buildSlice, Sem.run_bind, run_underlying ok.u, sizeOf, typeInfo, hi, Instr.fill, newRow, Sem.run, pure]
    congr 2
    apply Array.eq_empty_of_size_eq_zero
    simp
  refine ⟨_, _, upd ρ S.nx (.slice (some ⟨w.heap.size, 0, none⟩) 0 0), hr, ?_, ?_⟩
  · refine s.grow (Nat.le_refl _) (Nat.lt_succ_self _) _ _ (kept_alloc w _) ⟨fun h => absurd rfl h, [], ⟨by simp, .inl ⟨⟨some ⟨w.heap.size, 0, none⟩, ?_⟩, rfl⟩⟩, .nil, ?_⟩ (fun b hb => by rw [blk_none] at hb; cases hb) trivial
    · rw [upd_same]
    · rw [upd_same]; intro b hb; rw [blk_none] at hb; cases hb
  · have := Den.vec (P := P) (E := E) (ρ := upd ρ S.nx (.slice (some ⟨w.heap.size, 0, none⟩) 0 0)) (H := H) (n := S.nx) (by rw [upd_same]; rfl)
    rwa [upd_same] at this

theorem Sat.bornFrozen {c : Ctx} {ρ : Nat → Value} {H : FH} {S : SSt} {a : Act} {w : World} (s : Sat P E c ρ H S a w) {ty : Ty} {dd : D} {cs : List Value} (hrep : Rep P E H ty dd cs) (t : TypeId) :
    ∃ H', Sat P E c ρ H' S a (w.alloc (.cells cs.toArray t)) ∧ Den P E ρ H' (.elt ty dd) (.pointer (some ⟨w.heap.size, 0, none⟩)) := by
  let H' : FH := fun b o => if b = w.heap.size then cs[o]? else H b o
  have hle : H.le H' := by
    intro b o v hv
    show (if b = w.heap.size then cs[o]? else H b o) = some v
    split
    · rename_i e; subst e; rw [s.hin.none_new (Nat.le_refl _) o] at hv; cases hv
    · exact hv
  have hk := kept_alloc w (.cells cs.toArray t)
  have hlast := heap_alloc_last w (.cells cs.toArray t)
  refine ⟨H', ?_, .elt rfl (fun j v hj => ?_) (Rep.mono P E hle hrep)⟩
  · have := s.next (nx' := S.nx) (h' := S.h) (ρ' := ρ) (H' := H') (w' := w.alloc (.cells cs.toArray t)) (Nat.le_refl _) (fun _ _ => rfl) hle ?_ ⟨fun n u hn => ?_, s.hs.dis⟩ ?_ (fun n u b hn hb => .inl ⟨n, u, hn, hb⟩) s.hlt s.sep
    · exact this
    · intro b o v hv
      have hv' : (if b = w.heap.size then cs[o]? else H b o) = some v := hv
      split at hv'
      · rename_i e; subst e
        rw [cell_of_block' hlast]; simpa using hv'
      · have h2 := s.hin b o v hv'
        rw [← h2]
        exact World.cell?_of_block (hk.block b (s.hin.lt hv') (fun h => h))
    · refine tokSat_keep (s.hs.tok n u hn) (s.hlt n u hn).1 (s.hlt n u hn).2 (fun _ _ => rfl) hle (fun b hb => hk.block b (tokSat_new (s.hs.tok n u hn) b hb).1 (fun h => h)) (fun b hb o => ?_)
      have h3 := tokSat_new (s.hs.tok n u hn) b hb
      show (if b = w.heap.size then cs[o]? else H b o) = none
      rw [if_neg (by omega)]
      exact h3.2 o
    · exact ⟨hk.os, hk.tape, hk.output, hk.size, fun b hb _ => hk.block b hb (fun h => h)⟩
  · show (if w.heap.size = w.heap.size then cs[0 + j]? else H w.heap.size (0 + j)) = some v
    rw [if_pos rfl, Nat.zero_add]; exact hj

/-- A slice that is written out, and does not change. -/
theorem bsf_sound (hE : ∀ k, (E k).oneCell' = true) {c : Ctx} {ρ : Nat → Value} {H : FH} {S : SSt} {a : Act} {w : World} (s : Sat P E c ρ H S a w) {tid eid : TypeId} {bytes : Nat} {z : Value} (ok : ElemOk P tid eid bytes z)
    {xs : List SV} {vs : List Value} {ds : List D} (hd : DenV P E ρ H xs vs) (h : evParts (tyOf P 8 eid) xs = some ds) (hn : vs.length * (tyOf P 8 eid).size ≤ 16777216) (h0 : 0 < vs.length) :
    ∃ u w' H', (Instr.buildSlice tid vs.length ((vs.zipIdx 0).map fun x => (x.2, x.1)).toArray).run P w = .ok u w' ∧ Sat P E c ρ H' S a w' ∧ Den P E ρ H' (.dat (.slice eid) (.list ds)) u := by
  obtain ⟨i, hi, hs, hby, hz⟩ := ok.i
  obtain ⟨h1, h2, h3⟩ := evParts_den hE hd h
  have hfill := Great.fill_whole ok.s0 vs ((Array.range (vs.length * i.size)).map (z.cells[· % z.cells.size]!)) h2 (by simp [hs])
  have hpos : 0 < vs.length * (tyOf P 8 eid).size := Nat.mul_pos h0 ok.s0
  have hr := run_buildSlice (P := P) w tid eid vs.length ((vs.zipIdx 0).map fun x => (x.2, x.1)).toArray _ i z ok.u hi hz (by rw [hs]; omega) (by rw [hs]; omega) (by rw [hs]; simpa [hs] using hfill)
  have hmax : vs.length ≤ maxLen := by
    have : vs.length * 1 ≤ vs.length * (tyOf P 8 eid).size := Nat.mul_le_mul_left _ ok.s0
    unfold maxLen; omega
  generalize hcs : (vs.flatMap fun v => v.cells.toList) = cs at h1 hr
  let H' : FH := fun b o => if b = w.heap.size then cs[o]? else H b o
  have hle : H.le H' := by
    intro b o v hv
    show (if b = w.heap.size then cs[o]? else H b o) = some v
    split
    · rename_i e; subst e; rw [s.hin.none_new (Nat.le_refl _) o] at hv; cases hv
    · exact hv
  have hk := kept_alloc w (.cells cs.toArray eid)
  have hlast := heap_alloc_last w (.cells cs.toArray eid)
  refine ⟨_, _, H', hr, ?_, ?_⟩
  · have := s.next (nx' := S.nx) (h' := S.h) (ρ' := ρ) (H' := H') (w' := w.alloc (.cells cs.toArray eid)) (Nat.le_refl _) (fun _ _ => rfl) hle ?_ ⟨fun n u hn => ?_, s.hs.dis⟩ ?_ (fun n u b hn hb => .inl ⟨n, u, hn, hb⟩) s.hlt s.sep
    · exact this
    · intro b o v hv
      have hv' : (if b = w.heap.size then cs[o]? else H b o) = some v := hv
      split at hv'
      · rename_i e; subst e
        rw [cell_of_block' hlast]; simpa using hv'
      · have h2 := s.hin b o v hv'
        rw [← h2]
        exact World.cell?_of_block (hk.block b (s.hin.lt hv') (fun h => h))
    · refine tokSat_keep (s.hs.tok n u hn) (s.hlt n u hn).1 (s.hlt n u hn).2 (fun _ _ => rfl) hle (fun b hb => hk.block b (tokSat_new (s.hs.tok n u hn) b hb).1 (fun h => h)) (fun b hb o => ?_)
      have h3 := tokSat_new (s.hs.tok n u hn) b hb
      show (if b = w.heap.size then cs[o]? else H b o) = none
      rw [if_neg (by omega)]
      exact h3.2 o
    · exact ⟨hk.os, hk.tape, hk.output, hk.size, fun b hb _ => hk.block b hb (fun h => h)⟩
  · refine .dat rfl ?_
    rw [← h3]
    refine .slice (fun i => (cs.drop (i * (tyOf P 8 eid).size)).take (tyOf P 8 eid).size) (Nat.le_refl _) (by rw [h3]; exact hmax) (fun _ => ⟨_, rfl, rfl⟩) (fun h => by cases h) ?_ (fun i hi => Rep.mono P E hle (repL_get h1 i hi))
    intro i hi ad had j v hj
    cases had
    show (if w.heap.size = w.heap.size then cs[0 + i * (tyOf P 8 eid).size + j]? else _) = some v
    rw [if_pos rfl, Nat.zero_add]
    rw [List.getElem?_take] at hj
    split at hj
    · rwa [List.getElem?_drop] at hj
    · cases hj
theorem run_cut0 (tid eid : TypeId) (hu : P.underlying tid = some (.slice eid)) {sz : Nat} (hs : (P.info? eid).map (·.size) = some sz) (ad : Option Addr) (n cap : Nat) (w : World) :
    (Instr.sliceAt tid (.slice ad n cap) none (some (.int .i64 0)) (some (.int .i64 0))).run P w = .ok (.slice ad 0 0) w := by
  have hb : (Instr.sliceBounds true n cap none (some (.int .i64 0)) (some (.int .i64 0))).run P w = .ok (0, 0, 0) w := by
    simp [Instr.sliceBounds, Sem.run_bind, run_bound .i64 0 cap _ w (by omega) (by omega), run_bound .i64 0 0 _ w (by omega) (by omega), Sem.run, pure]
  simp [Instr.sliceAt, Instr.slice, Sem.run_bind, run_underlying hu, hb, run_sizeOf eid hs, Sem.run, pure]

theorem sl0_sound {c : Ctx} {ρ : Nat → Value} {H : FH} {S : SSt} {a : Act} {w : World} (s : Sat P E c ρ H S a w) {tid eid : TypeId} (hu : P.underlying tid = some (.slice eid)) (hs : (P.info? eid).map (·.size) = some (tyOf P 8 eid).size)
    {x : SV} {p : Prop} (h : evSl0 eid x S.h = some p) (hp : p) {vx : Value} (hx : Den P E ρ H x vx) :
    ∃ u ρ', (Instr.sliceAt tid vx none (some (.int .i64 0)) (some (.int .i64 0))).run P w = .ok u w ∧ Sat P E c ρ' H { f := S.f, h := (S.nx, .arr eid (tyOf P 8 eid) []) :: S.h, nx := S.nx + 1 } a w ∧ Den P E ρ' H (.vec S.nx) u := by
  have hv : ∃ ad n cap, vx = .slice ad n cap := by
    unfold evSl0 at h
    split at h
    · cases hx with | dat _ hr => cases hr with | slice => exact ⟨_, _, _, rfl⟩
    · split at h
      · rename_i n _ _ _ hn
        obtain ⟨⟨_, xs, ⟨_, hown⟩, _, _⟩, _⟩ := s.tok hn
        cases hx with | vec _ =>
        rcases hown with ⟨⟨a0, hv⟩, _⟩ | ⟨g, cap, cur, hv, _⟩
        · exact ⟨_, _, _, hv⟩
        · exact ⟨_, _, _, hv⟩
      · cases h
    · cases hx with | nils => exact ⟨_, _, _, rfl⟩
    · cases h
  obtain ⟨ad, n, cap, rfl⟩ := hv
  refine ⟨_, upd ρ S.nx (.slice ad 0 0), run_cut0 tid eid hu hs ad n cap w, ?_, ?_⟩
  · refine s.grow (Nat.le_refl _) (Nat.lt_succ_self _) _ _ (Kept.refl w _) ⟨fun _ => rfl, [], ⟨by simp, .inl ⟨⟨ad, ?_⟩, rfl⟩⟩, .nil, ?_⟩ (fun b hb => by rw [blk_none] at hb; cases hb) trivial
    · rw [upd_same]
    · rw [upd_same]; intro b hb; rw [blk_none] at hb; cases hb
  · have := Den.vec (P := P) (E := E) (ρ := upd ρ S.nx (.slice ad 0 0)) (H := H) (n := S.nx) (by rw [upd_same]; rfl)
    rwa [upd_same] at this
end
end Go.Fw

/- The frame-work, part Rm: maps by whole numbers. -/
namespace Go.Fw
set_option linter.unusedVariables false
set_option linter.unusedSimpArgs false
open Go Go.MapKept

section
variable {P : Program} {E : Nat → Value}

theorem isKey_of {k : IntKind} {es : Array MapEntry} (h : ∀ x ∈ es.toList, ∃ i, x.key = .int k i ∧ k.min ≤ i ∧ i ≤ k.max) : ∀ x ∈ es.toList, IsKey (.int k) x.key := by
  intro x hx
  obtain ⟨i, hi, _⟩ := h x hx
  rw [hi]; rfl
theorem key_uniq {es : Array MapEntry} {clock : Nat} (hs : Stamped es clock) {x y : MapEntry} (hx : x ∈ es.toList) (hy : y ∈ es.toList) (h : x.key = y.key) : x = y := by
  have key : ∀ {l : List MapEntry}, (l.map (·.key)).Nodup → ∀ {x y}, x ∈ l → y ∈ l → x.key = y.key → x = y := by
    intro l
    induction l with
    | nil => intro _ x y hx; simp at hx
    | cons z l ih =>
      intro hn x y hx hy e
      rw [List.map_cons, List.nodup_cons] at hn
      rcases List.mem_cons.1 hx with ex | hx2 <;> rcases List.mem_cons.1 hy with ey | hy2
      · rw [ex, ey]
      · exact absurd (by rw [← ex, e]; exact List.mem_map_of_mem (f := (·.key)) hy2) hn.1
      · exact absurd (by rw [← ey, ← e]; exact List.mem_map_of_mem (f := (·.key)) hx2) hn.1
      · exact ih hn.2 hx2 hy2 e
  exact key hs.2.2 hx hy h

/-- A new map. -/
theorem mkm_sound {c : Ctx} {ρ : Nat → Value} {H : FH} {S : SSt} {a : Act} {w : World} (s : Sat P E c ρ H S a w) {kt vt : TypeId} {k : IntKind} (hk : P.underlying kt = some (.int k)) {d : Nat} (hdN : d < c.N) :
    ∃ ρ', Sat P E c ρ' H { f := (d, .vec S.nx) :: S.f, h := (S.nx, .map kt vt mEmpty) :: S.h, nx := S.nx + 1 } (a.put (some d) (.map (some w.heap.size))) (w.alloc (.map #[] 0)) := by
  refine ⟨upd ρ S.nx (.map (some w.heap.size)), ?_⟩
  have hg := s.grow (N := S.nx) (nx' := S.nx + 1) (Nat.le_refl _) (Nat.lt_succ_self _) (.map (some w.heap.size)) (.map kt vt mEmpty) (kept_alloc w (.map #[] 0))
    ⟨w.heap.size, #[], 0, k, upd_same _ _ _, heap_alloc_last w _, hk, ⟨stamped_empty 0, by simp, fun i d h => by simp [mEmpty] at h, by simp⟩, fun o => s.hin.none_new (Nat.le_refl _) o⟩
    (fun b hb => by simp [blk] at hb; omega) trivial
  have hv : Den P E (upd ρ S.nx (.map (some w.heap.size))) H (.vec S.nx) (upd ρ S.nx (.map (some w.heap.size)) S.nx) := .vec (by rw [upd_same]; rfl)
  rw [upd_same] at hv
  exact hg.put hv (Nat.lt_succ_self _) hdN

theorem map_tok {c : Ctx} {ρ : Nat → Value} {H : FH} {S : SSt} {a : Act} {w : World} (s : Sat P E c ρ H S a w) {n : Nat} {kt vt : TypeId} {f : Int → Option D} (hn : hget S.h n = some (.map kt vt f)) {k : IntKind} (hk : P.underlying kt = some (.int k)) :
    ∃ b es clock, ρ n = .map (some b) ∧ w.heap[b]? = some (.map es clock) ∧ MapRep P E H k (tyOf P 8 vt) es clock f ∧ ∀ o, H b o = none := by
  obtain ⟨b, es, clock, k', h1, h2, h3, h4, h5⟩ := (s.tok hn).1
  rw [hk] at h3
  simp only [Option.some.injEq, TypeDesc.int.injEq] at h3
  subst h3
  exact ⟨b, es, clock, h1, h2, h4, h5⟩

theorem ag_isAgg (t : Ty) : t.ag = isAgg t := by cases t <;> rfl
/-- What a value is, out of what its cells are. -/
theorem val_den (hE : ∀ k, (E k).oneCell' = true) {ρ : Nat → Value} {H : FH} {t : Ty} {d : D} {v : Value} {cs : List Value} (h : Rep P E H t d cs) (h1 : t.ag = true → v = .agg cs.toArray) (h2 : t.ag = false → cs = [v]) : Den P E ρ H (ldSV t d) v ∧ (t.ag = false → v.oneCell' = true) := by
  have hl := ldSV_den (P := P) (E := E) hE (ρ := ρ) h
  cases ht : t.ag with
  | true =>
    rw [h1 ht]
    exact ⟨hl.1 (by rw [← ag_isAgg]; exact ht), fun h => by cases h⟩
  | false =>
    obtain ⟨u, e1, e2, e3⟩ := hl.2 (by rw [← ag_isAgg]; exact ht)
    have := h2 ht
    rw [e1] at this
    simp only [List.cons.injEq, and_true] at this
    subst this
    exact ⟨e2, fun _ => e3⟩

theorem val_cells (hE : ∀ k, (E k).oneCell' = true) {ρ : Nat → Value} {H : FH} {t : Ty} {d : D} {v : Value} (h : Rep P E H t d v.cells.toList) (hv : agV v = t.ag) : Den P E ρ H (ldSV t d) v ∧ (t.ag = false → v.oneCell' = true) := by
  refine val_den hE h (fun ht => ?_) (fun ht => ?_)
  · rw [ht] at hv
    cases v <;> first | (cases hv; done) | simp [Value.cells]
  · rw [ht] at hv
    cases v <;> first | (cases hv; done) | simp [Value.cells]

/-- A key is looked up. -/
theorem lkp_sound (hE : ∀ k, (E k).oneCell' = true) {c : Ctx} {ρ : Nat → Value} {H : FH} {S : SSt} {a : Act} {w : World} (s : Sat P E c ρ H S a w) {tid kt vt : TypeId} {k : IntKind} {z : D} (hm : mapI P tid = some (kt, vt, k, z))
    {ok : Bool} {x i : SV} {p : Prop} {v : SV} (h : evLkp kt vt k (tyOf P 8 vt) z ok x i S.h = some (p, v)) (hp : p) {vx vi : Value} (hx : Den P E ρ H x vx) (hi : Den P E ρ H i vi) :
    ∃ u, (Instr.lookup tid vx vi ok).run P w = .ok u w ∧ Den P E ρ H v u ∧ ∀ n, v.lt n := by
  obtain ⟨hu, hk, hsz, z0, hz, hza, hzr⟩ := mapI_spec (E := E) hm
  unfold evLkp at h
  split at h
  · rename_i n k' j
    split at h
    · rename_i kt' vt' f hn
      have hc : kt' = kt ∧ vt' = vt ∧ k' = k := by cases ok <;> (cases h; exact hp)
      obtain ⟨rfl, rfl, rfl⟩ := hc
      obtain ⟨b, es, clock, h1, h2, h3, h4⟩ := map_tok s hn hk
      cases hx with | vec _ =>
      cases hi with | int hr =>
      rw [h1]
      have hkey : IsKey (.int k') (.int k' j) := rfl
      have fin : ∀ u, Den P E ρ H (ldSV (tyOf P 8 vt') (mGet f z j)) u → ((Instr.lookup tid (.map (some b)) (.int k' j) ok).run P w = .ok (if ok then .tuple #[u, .bool (f j).isSome] else u) w) → ∃ u, (Instr.lookup tid (.map (some b)) (.int k' j) ok).run P w = .ok u w ∧ Den P E ρ H v u ∧ ∀ n, v.lt n := by
        intro u hd hrun
        refine ⟨_, hrun, ?_⟩
        cases ok with
        | true =>
          cases h
          exact ⟨.tup (.cons hd (.cons .bool .nil)), fun n => ⟨ldSV_lt n _ _, trivial, trivial⟩⟩
        | false =>
          cases h
          exact ⟨hd, fun n => ldSV_lt n _ _⟩
      rcases findNow_spec hkey es.toList 0 (isKey_of h3.key) with ⟨q1, q2⟩ | ⟨q, e, q1, q2, q3⟩
      · have hf : f j = none := by
          cases hf : f j with
          | none => rfl
          | some d =>
            obtain ⟨y, y1, y2, _⟩ := h3.yes j d hf
            exact absurd y2 (q2 y y1)
        have hzd : Den P E ρ H (ldSV (tyOf P 8 vt') z) z0 := (val_cells hE (hzr H) hza).1
        refine fin z0 (by unfold mGet; rw [hf]; exact hzd) ?_
        rw [hf]
        simp [Instr.lookup, run_underlying hu, MapKept.run_getObj_map h2, MapKept.run_checkKey hk hkey, MapKept.run_findKey hk q1, hz, Result.andThen]
      · have he : e ∈ es.toList := List.mem_of_getElem? q2
        cases hf : f j with
        | none => exact absurd q3 (h3.no j hf e he)
        | some d =>
          obtain ⟨y, y1, y2, cs, y3, y4, y5⟩ := h3.yes j d hf
          obtain rfl := key_uniq h3.st he y1 (q3.trans y2.symm)
          refine fin e.val (by unfold mGet; rw [hf]; exact (val_den hE y3 y4 y5).1) ?_
          rw [hf]
          simp [Instr.lookup, run_underlying hu, MapKept.run_getObj_map h2, MapKept.run_checkKey hk hkey, MapKept.run_findKey hk q1, Result.andThen]
    · cases h
  · cases h

theorem kept_setMap (w : World) (b : Nat) (o : Obj) : Kept w (fun c => some b = some c) { w with heap := w.heap.setIfInBounds b o } :=
  ⟨rfl, rfl, rfl, by simp, fun c _ hc => by simp only [Array.getElem?_setIfInBounds]; rw [if_neg (fun e => hc (by rw [e]))]⟩
theorem mem_modify {es : Array MapEntry} {i : Nat} {g : MapEntry → MapEntry} {y : MapEntry} (hy : y ∈ (es.modify i g).toList) : y ∈ es.toList ∨ ∃ e, es[i]? = some e ∧ y = g e := by
  obtain ⟨j, hj⟩ := List.mem_iff_getElem?.1 hy
  rw [Array.getElem?_toList, Array.getElem?_modify] at hj
  by_cases e : i = j
  · subst e
    rw [if_pos rfl] at hj
    obtain ⟨x, hx, rfl⟩ := Option.map_eq_some_iff.1 hj
    exact .inr ⟨x, hx, rfl⟩
  · rw [if_neg e] at hj
    exact .inl (Array.mem_toList_iff.2 (Array.mem_of_getElem? hj))
theorem mem_modify_ne {es : Array MapEntry} {i : Nat} {g : MapEntry → MapEntry} {y e : MapEntry} (he : es[i]? = some e) (hy : y ∈ es.toList) (hne : y ≠ e) : y ∈ (es.modify i g).toList := by
  obtain ⟨j, hj⟩ := List.mem_iff_getElem?.1 hy
  rw [Array.getElem?_toList] at hj
  refine List.mem_iff_getElem?.2 ⟨j, ?_⟩
  rw [Array.getElem?_toList, Array.getElem?_modify]
  by_cases h : i = j
  · subst h; rw [he] at hj; cases hj; exact absurd rfl hne
  · rw [if_neg h]; exact hj
theorem mem_modify_at {es : Array MapEntry} {i : Nat} {g : MapEntry → MapEntry} {e : MapEntry} (he : es[i]? = some e) : g e ∈ (es.modify i g).toList := by
  refine List.mem_iff_getElem?.2 ⟨i, ?_⟩
  rw [Array.getElem?_toList, Array.getElem?_modify, if_pos rfl, he]; rfl

/-- What is stored under a key. -/
theorem mupD_den (hE : ∀ k, (E k).oneCell' = true) {ρ : Nat → Value} {H : FH} {t : Ty} {y : SV} {p : Prop} {d : D} (h : evMupD t y = some (p, d)) (hp : p) {v : Value} (hy : Den P E ρ H y v) :
    ∃ cs, Rep P E H t d cs ∧ (t.ag = true → v = .agg cs.toArray) ∧ (t.ag = false → cs = [v]) := by
  unfold evMupD at h
  split at h
  · rename_i m
    split at h
    · rename_i d' e; cases h
      cases hy with | agg hc =>
      rename_i cs
      exact ⟨cs, toD_all e hc, fun _ => rfl, fun h => by rw [ag_isAgg, hp] at h; cases h⟩
    · cases h
  · split at h
    · rename_i d' e; cases h
      have h1 := den_one hE hy hp.1
      refine ⟨[v], toD_all e (.one hy h1 .nil), fun h => ?_, fun _ => rfl⟩
      rw [ag_isAgg, hp.2] at h; cases h
    · cases h

/-- A key has another value, or one. -/
theorem mup_sound (hE : ∀ k, (E k).oneCell' = true) {c : Ctx} {ρ : Nat → Value} {H : FH} {S : SSt} {a : Act} {w : World} (s : Sat P E c ρ H S a w) {tid kt vt : TypeId} {k : IntKind} {z : D} (hm : mapI P tid = some (kt, vt, k, z))
    {x i y : SV} {p : Prop} {h' : Heap} (h : evMup kt vt k (tyOf P 8 vt) x i y S.h = some (p, h')) (hp : p) {vx vi vy : Value} (hx : Den P E ρ H x vx) (hi : Den P E ρ H i vi) (hy : Den P E ρ H y vy) :
    ∃ w', (Instr.mapUpdate tid vx vi vy).run P w = .ok () w' ∧ Sat P E c ρ H { f := S.f, h := h', nx := S.nx } a w' := by
  obtain ⟨hu, hk, hsz, z0, hz, hza, hzr⟩ := mapI_spec (E := E) hm
  unfold evMup at h
  split at h
  · rename_i n k' j
    split at h
    · rename_i kt' vt' f hn
      split at h
      · rename_i q d hq
        cases h
        obtain ⟨hq', rfl, rfl, rfl⟩ := hp
        obtain ⟨b, es, clock, h1, h2, h3, h4⟩ := map_tok s hn hk
        cases hx with | vec _ =>
        cases hi with | int hr =>
        obtain ⟨cs, d1, d2, d3⟩ := mupD_den hE hq hq' hy
        rw [h1]
        have hkey : IsKey (.int k') (.int k' j) := rfl
        have hkept : ∀ o, Kept w (fun c => blk (ρ n) = some c) { w with heap := w.heap.setIfInBounds b o } := fun o => by rw [h1]; exact kept_setMap w b o
        rcases findNow_spec hkey es.toList 0 (isKey_of h3.key) with ⟨q1, q2⟩ | ⟨q, e, q1, q2, q3⟩
        · refine ⟨{ w with heap := w.heap.setIfInBounds b (.map (es.push { key := .int k' j, val := vy, born := clock }) (clock + 1)) }, ?_, ?_⟩
          · simp [Instr.mapUpdate, run_underlying hu, MapKept.run_getObj_map h2, MapKept.run_checkKey hk hkey, MapKept.run_findKey hk q1, MapKept.run_setObj_map _ h2, Result.andThen]
          · refine s.change hn _ (hkept _) ⟨b, _, _, k', h1, (heap_set h2).1, hk, ⟨stamped_push h3.st q2, ?_, ?_, ?_⟩, h4⟩ trivial
            · intro y hy
              simp only [Array.toList_push, List.mem_append, List.mem_singleton] at hy
              rcases hy with hy | rfl
              · exact h3.key y hy
              · exact ⟨j, rfl, hr⟩
            · intro i' d' hf
              unfold mSet at hf
              split at hf
              · rename_i e; subst e; cases hf
                exact ⟨{ key := .int k' i', val := vy, born := clock }, by simp, rfl, cs, d1, d2, d3⟩
              · obtain ⟨y, y1, y2, y3⟩ := h3.yes i' d' hf
                exact ⟨y, by simp [Array.mem_toList_iff.1 y1], y2, y3⟩
            · intro i' hf y hy
              unfold mSet at hf
              split at hf
              · cases hf
              · rename_i e
                simp only [Array.toList_push, List.mem_append, List.mem_singleton] at hy
                rcases hy with hy | rfl
                · exact h3.no i' hf y hy
                · intro h; simp at h; exact e h.symm
        · have hq2 : es[q]? = some e := by simpa using q2
          have he : e ∈ es.toList := List.mem_of_getElem? q2
          refine ⟨{ w with heap := w.heap.setIfInBounds b (.map (es.modify q fun e => { e with key := .int k' j, val := vy }) clock) }, ?_, ?_⟩
          · simp [Instr.mapUpdate, run_underlying hu, MapKept.run_getObj_map h2, MapKept.run_checkKey hk hkey, MapKept.run_findKey hk q1, hq2, q3, MapKept.run_keyThatStays hkey, MapKept.run_setObj_map _ h2, Result.andThen]
          · have hkk : ∀ e', es[q]? = some e' → ({ e' with key := .int k' j, val := vy } : MapEntry).key = e'.key := fun e' he' => by rw [hq2] at he'; cases he'; exact q3.symm
            refine s.change hn _ (hkept _) ⟨b, _, _, k', h1, (heap_set h2).1, hk, ⟨stamped_modify h3.st _ _ (fun _ _ => rfl) (fun e' _ he' => hkk e' he'), ?_, ?_, ?_⟩, h4⟩ trivial
            · intro y hy
              rcases mem_modify hy with hy | ⟨e', _, rfl⟩
              · exact h3.key y hy
              · exact ⟨j, rfl, hr⟩
            · intro i' d' hf
              unfold mSet at hf
              split at hf
              · rename_i ee; subst ee; cases hf
                exact ⟨_, mem_modify_at hq2, rfl, cs, d1, d2, d3⟩
              · rename_i ee
                obtain ⟨y, y1, y2, y3⟩ := h3.yes i' d' hf
                refine ⟨y, mem_modify_ne hq2 y1 (fun e2 => ?_), y2, y3⟩
                subst e2
                rw [q3] at y2
                simp at y2; exact ee y2.symm
            · intro i' hf y hy
              unfold mSet at hf
              split at hf
              · cases hf
              · rename_i ee
                rcases mem_modify hy with hy | ⟨e', _, rfl⟩
                · exact h3.no i' hf y hy
                · intro h; simp at h; exact ee h.symm
      · cases h
    · cases h
  · cases h

theorem mem_erase {es : Array MapEntry} {i : Nat} {y : MapEntry} (hy : y ∈ (es.eraseIdxIfInBounds i).toList) : y ∈ es.toList := by
  unfold Array.eraseIdxIfInBounds at hy
  split at hy
  · rw [Array.toList_eraseIdx] at hy; exact (List.eraseIdx_sublist _ _).subset hy
  · exact hy
theorem mem_erase_ne {es : Array MapEntry} {i : Nat} {y e : MapEntry} (he : es[i]? = some e) (hy : y ∈ es.toList) (hne : y ≠ e) : y ∈ (es.eraseIdxIfInBounds i).toList := by
  have hlt : i < es.size := (Array.getElem?_eq_some_iff.1 he).1
  unfold Array.eraseIdxIfInBounds
  rw [dif_pos hlt, Array.toList_eraseIdx]
  obtain ⟨j, hj⟩ := List.mem_iff_getElem?.1 hy
  rw [List.mem_eraseIdx_iff_getElem?]
  refine ⟨j, fun h => ?_, hj⟩
  subst h
  rw [Array.getElem?_toList, he] at hj
  cases hj; exact hne rfl

theorem nodup_get {α : Type} {a : α} : ∀ {l : List α}, l.Nodup → ∀ {i j : Nat}, l[i]? = some a → l[j]? = some a → i = j
  | [], _, i, j, h, _ => by simp at h
  | x :: l, hn, 0, 0, _, _ => rfl
  | x :: l, hn, 0, j + 1, h1, h2 => by
    rw [List.nodup_cons] at hn
    simp only [List.getElem?_cons_zero, Option.some.injEq] at h1
    simp only [List.getElem?_cons_succ] at h2
    subst h1
    exact absurd (List.mem_of_getElem? h2) hn.1
  | x :: l, hn, i + 1, 0, h1, h2 => by
    rw [List.nodup_cons] at hn
    simp only [List.getElem?_cons_zero, Option.some.injEq] at h2
    simp only [List.getElem?_cons_succ] at h1
    subst h2
    exact absurd (List.mem_of_getElem? h1) hn.1
  | x :: l, hn, i + 1, j + 1, h1, h2 => by
    rw [List.nodup_cons] at hn
    simp only [List.getElem?_cons_succ] at h1 h2
    rw [nodup_get hn.2 h1 h2]
/-- A key goes. -/
theorem mdl_sound {c : Ctx} {ρ : Nat → Value} {H : FH} {S : SSt} {a : Act} {w : World} (s : Sat P E c ρ H S a w) {tid kt vt t2 : TypeId} {k : IntKind} {z : D} (hm : mapI P tid = some (kt, vt, k, z))
    {x i : SV} {p : Prop} {h' : Heap} (h : evMdl kt vt k x i S.h = some (p, h')) (hp : p) {vx vi : Value} (hx : Den P E ρ H x vx) (hi : Den P E ρ H i vi) (ty : TypeId) :
    ∃ w', (Builtin.delete_ #[tid, t2] ty #[vx, vi]).run P w = .ok (.tuple #[]) w' ∧ Sat P E c ρ H { f := S.f, h := h', nx := S.nx } a w' := by
  obtain ⟨hu, hk, hsz, z0, hz, hza, hzr⟩ := mapI_spec (E := E) hm
  unfold evMdl at h
  split at h
  · rename_i n k' j
    split at h
    · rename_i kt' vt' f hn
      cases h
      obtain ⟨rfl, rfl, rfl⟩ := hp
      obtain ⟨b, es, clock, h1, h2, h3, h4⟩ := map_tok s hn hk
      cases hx with | vec _ =>
      cases hi with | int hr =>
      rw [h1]
      have hkey : IsKey (.int k') (.int k' j) := rfl
      have hkept : ∀ o, Kept w (fun c => blk (ρ n) = some c) { w with heap := w.heap.setIfInBounds b o } := fun o => by rw [h1]; exact kept_setMap w b o
      rcases findNow_spec hkey es.toList 0 (isKey_of h3.key) with ⟨q1, q2⟩ | ⟨q, e, q1, q2, q3⟩
      · refine ⟨{ w with heap := w.heap.setIfInBounds b (.map es clock) }, ?_, ?_⟩
        · simp [Builtin.delete_, run_underlying hu, MapKept.run_getObj_map h2, MapKept.run_checkKey hk hkey, MapKept.run_findKey hk q1, MapKept.run_setObj_map _ h2, Result.andThen]
        · refine s.change hn _ (hkept _) ⟨b, _, _, k', h1, (heap_set h2).1, hk, ⟨h3.st, h3.key, ?_, ?_⟩, h4⟩ trivial
          · intro i' d' hf
            unfold mDel at hf
            split at hf
            · cases hf
            · exact h3.yes i' d' hf
          · intro i' hf y hy
            unfold mDel at hf
            split at hf
            · rename_i ee; subst ee; exact q2 y hy
            · exact h3.no i' hf y hy
      · have hq2 : es[q]? = some e := by simpa using q2
        have he : e ∈ es.toList := List.mem_of_getElem? q2
        refine ⟨{ w with heap := w.heap.setIfInBounds b (.map (es.eraseIdxIfInBounds q) clock) }, ?_, ?_⟩
        · simp [Builtin.delete_, run_underlying hu, MapKept.run_getObj_map h2, MapKept.run_checkKey hk hkey, MapKept.run_findKey hk q1, MapKept.run_setObj_map _ h2, Result.andThen]
        · refine s.change hn _ (hkept _) ⟨b, _, _, k', h1, (heap_set h2).1, hk, ⟨stamped_erase h3.st _, fun y hy => h3.key y (mem_erase hy), ?_, ?_⟩, h4⟩ trivial
          · intro i' d' hf
            unfold mDel at hf
            split at hf
            · cases hf
            · rename_i ee
              obtain ⟨y, y1, y2, y3⟩ := h3.yes i' d' hf
              refine ⟨y, mem_erase_ne hq2 y1 (fun e2 => ?_), y2, y3⟩
              subst e2
              rw [q3] at y2
              simp at y2; exact ee y2.symm
          · intro i' hf y hy
            unfold mDel at hf
            split at hf
            · rename_i ee; subst ee
              intro hyk
              obtain rfl := key_uniq h3.st (mem_erase hy) he (hyk.trans q3.symm)
              -- it was taken out
              have hlt : q < es.size := (Array.getElem?_eq_some_iff.1 hq2).1
              unfold Array.eraseIdxIfInBounds at hy
              rw [dif_pos hlt, Array.toList_eraseIdx, List.mem_eraseIdx_iff_getElem?] at hy
              obtain ⟨q', hne, hq'⟩ := hy
              have hnd := h3.st.2.2
              have e1 : (es.toList.map (·.key))[q']? = some y.key := by rw [List.getElem?_map, hq']; rfl
              have e2 : (es.toList.map (·.key))[q]? = some y.key := by rw [List.getElem?_map, q2]; rfl
              exact hne (nodup_get hnd e1 e2)
            · exact h3.no i' hf y (mem_erase hy)
    · cases h
  · cases h
end
end Go.Fw
