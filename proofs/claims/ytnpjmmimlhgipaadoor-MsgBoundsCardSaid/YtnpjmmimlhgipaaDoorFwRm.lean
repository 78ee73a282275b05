/- The frame-work, part Rm: maps by whole numbers. -/
import Derived.Test.YtnpjmmimlhgipaaDoorFwRa
namespace Go.Fw
set_option linter.unusedVariables false
set_option linter.unusedSimpArgs false
open Go Go.MapKept

section
variable {P : Program} {E : Nat → Value}

theorem isKey_of {k : IntKind} {es : Array MapEntry} (h : ∀ x ∈ es.toList, ∃ i, x.key = .int k i ∧ k.min ≤ i ∧ i ≤ k.max) : ∀ x ∈ es.toList, IsKey (.int k) x.key := by
  intro x hx
  obtain ⟨i, hi, _⟩ := h x hx
  rw [hi]; rfl
theorem key_uniq {es : Array MapEntry} {clock : Nat} (hs : Stamped es clock) {x y : MapEntry} (hx : x ∈ es.toList) (hy : y ∈ es.toList) (h : x.key = y.key) : x = y := by
  have key : ∀ {l : List MapEntry}, (l.map (·.key)).Nodup → ∀ {x y}, x ∈ l → y ∈ l → x.key = y.key → x = y := by
    intro l
    induction l with
    | nil => intro _ x y hx; simp at hx
    | cons z l ih =>
      intro hn x y hx hy e
      rw [List.map_cons, List.nodup_cons] at hn
      rcases List.mem_cons.1 hx with ex | hx2 <;> rcases List.mem_cons.1 hy with ey | hy2
      · rw [ex, ey]
      · exact absurd (by rw [← ex, e]; exact List.mem_map_of_mem (f := (·.key)) hy2) hn.1
      · exact absurd (by rw [← ey, ← e]; exact List.mem_map_of_mem (f := (·.key)) hx2) hn.1
      · exact ih hn.2 hx2 hy2 e
  exact key hs.2.2 hx hy h

/-- A new map. -/
theorem mkm_sound {c : Ctx} {ρ : Nat → Value} {H : FH} {S : SSt} {a : Act} {w : World} (s : Sat P E c ρ H S a w) {kt vt : TypeId} {k : IntKind} (hk : P.underlying kt = some (.int k)) {d : Nat} (hdN : d < c.N) :
    ∃ ρ', Sat P E c ρ' H { f := (d, .vec S.nx) :: S.f, h := (S.nx, .map kt vt mEmpty) :: S.h, nx := S.nx + 1 } (a.put (some d) (.map (some w.heap.size))) (w.alloc (.map #[] 0)) := by
  refine ⟨upd ρ S.nx (.map (some w.heap.size)), ?_⟩
  have hg := s.grow (N := S.nx) (nx' := S.nx + 1) (Nat.le_refl _) (Nat.lt_succ_self _) (.map (some w.heap.size)) (.map kt vt mEmpty) (kept_alloc w (.map #[] 0))
    ⟨w.heap.size, #[], 0, k, upd_same _ _ _, heap_alloc_last w _, hk, ⟨stamped_empty 0, by simp, fun i d h => by simp [mEmpty] at h, by simp⟩, fun o => s.hin.none_new (Nat.le_refl _) o⟩
    (fun b hb => by simp [blk] at hb; omega) trivial
  have hv : Den P E (upd ρ S.nx (.map (some w.heap.size))) H (.vec S.nx) (upd ρ S.nx (.map (some w.heap.size)) S.nx) := .vec (by rw [upd_same]; rfl)
  rw [upd_same] at hv
  exact hg.put hv (Nat.lt_succ_self _) hdN

theorem map_tok {c : Ctx} {ρ : Nat → Value} {H : FH} {S : SSt} {a : Act} {w : World} (s : Sat P E c ρ H S a w) {n : Nat} {kt vt : TypeId} {f : Int → Option D} (hn : hget S.h n = some (.map kt vt f)) {k : IntKind} (hk : P.underlying kt = some (.int k)) :
    ∃ b es clock, ρ n = .map (some b) ∧ w.heap[b]? = some (.map es clock) ∧ MapRep P E H k (tyOf P 8 vt) es clock f ∧ ∀ o, H b o = none := by
  obtain ⟨b, es, clock, k', h1, h2, h3, h4, h5⟩ := (s.tok hn).1
  rw [hk] at h3
  simp only [Option.some.injEq, TypeDesc.int.injEq] at h3
  subst h3
  exact ⟨b, es, clock, h1, h2, h4, h5⟩

theorem ag_isAgg (t : Ty) : t.ag = isAgg t := by cases t <;> rfl
/-- What a value is, out of what its cells are. -/
theorem val_den (hE : ∀ k, (E k).oneCell' = true) {ρ : Nat → Value} {H : FH} {t : Ty} {d : D} {v : Value} {cs : List Value} (h : Rep P E H t d cs) (h1 : t.ag = true → v = .agg cs.toArray) (h2 : t.ag = false → cs = [v]) : Den P E ρ H (ldSV t d) v ∧ (t.ag = false → v.oneCell' = true) := by
  have hl := ldSV_den (P := P) (E := E) hE (ρ := ρ) h
  cases ht : t.ag with
  | true =>
    rw [h1 ht]
    exact ⟨hl.1 (by rw [← ag_isAgg]; exact ht), fun h => by cases h⟩
  | false =>
    obtain ⟨u, e1, e2, e3⟩ := hl.2 (by rw [← ag_isAgg]; exact ht)
    have := h2 ht
    rw [e1] at this
    simp only [List.cons.injEq, and_true] at this
    subst this
    exact ⟨e2, fun _ => e3⟩

theorem val_cells (hE : ∀ k, (E k).oneCell' = true) {ρ : Nat → Value} {H : FH} {t : Ty} {d : D} {v : Value} (h : Rep P E H t d v.cells.toList) (hv : agV v = t.ag) : Den P E ρ H (ldSV t d) v ∧ (t.ag = false → v.oneCell' = true) := by
  refine val_den hE h (fun ht => ?_) (fun ht => ?_)
  · rw [ht] at hv
    cases v <;> first | (cases hv; done) | simp [Value.cells]
  · rw [ht] at hv
    cases v <;> first | (cases hv; done) | simp [Value.cells]

/-- A key is looked up. -/
theorem lkp_sound (hE : ∀ k, (E k).oneCell' = true) {c : Ctx} {ρ : Nat → Value} {H : FH} {S : SSt} {a : Act} {w : World} (s : Sat P E c ρ H S a w) {tid kt vt : TypeId} {k : IntKind} {z : D} (hm : mapI P tid = some (kt, vt, k, z))
    {ok : Bool} {x i : SV} {p : Prop} {v : SV} (h : evLkp kt vt k (tyOf P 8 vt) z ok x i S.h = some (p, v)) (hp : p) {vx vi : Value} (hx : Den P E ρ H x vx) (hi : Den P E ρ H i vi) :
    ∃ u, (Instr.lookup tid vx vi ok).run P w = .ok u w ∧ Den P E ρ H v u ∧ ∀ n, v.lt n := by
  obtain ⟨hu, hk, hsz, z0, hz, hza, hzr⟩ := mapI_spec (E := E) hm
  unfold evLkp at h
  split at h
  · rename_i n k' j
    split at h
    · rename_i kt' vt' f hn
      have hc : kt' = kt ∧ vt' = vt ∧ k' = k := by cases ok <;> (cases h; exact hp)
      obtain ⟨rfl, rfl, rfl⟩ := hc
      obtain ⟨b, es, clock, h1, h2, h3, h4⟩ := map_tok s hn hk
      cases hx with | vec _ =>
      cases hi with | int hr =>
      rw [h1]
      have hkey : IsKey (.int k') (.int k' j) := rfl
      have fin : ∀ u, Den P E ρ H (ldSV (tyOf P 8 vt') (mGet f z j)) u → ((Instr.lookup tid (.map (some b)) (.int k' j) ok).run P w = .ok (if ok then .tuple #[u, .bool (f j).isSome] else u) w) → ∃ u, (Instr.lookup tid (.map (some b)) (.int k' j) ok).run P w = .ok u w ∧ Den P E ρ H v u ∧ ∀ n, v.lt n := by
        intro u hd hrun
        refine ⟨_, hrun, ?_⟩
        cases ok with
        | true =>
          cases h
          exact ⟨.tup (.cons hd (.cons .bool .nil)), fun n => ⟨ldSV_lt n _ _, trivial, trivial⟩⟩
        | false =>
          cases h
          exact ⟨hd, fun n => ldSV_lt n _ _⟩
      rcases findNow_spec hkey es.toList 0 (isKey_of h3.key) with ⟨q1, q2⟩ | ⟨q, e, q1, q2, q3⟩
      · have hf : f j = none := by
          cases hf : f j with
          | none => rfl
          | some d =>
            obtain ⟨y, y1, y2, _⟩ := h3.yes j d hf
            exact absurd y2 (q2 y y1)
        have hzd : Den P E ρ H (ldSV (tyOf P 8 vt') z) z0 := (val_cells hE (hzr H) hza).1
        refine fin z0 (by unfold mGet; rw [hf]; exact hzd) ?_
        rw [hf]
        simp [Instr.lookup, run_underlying hu, MapKept.run_getObj_map h2, MapKept.run_checkKey hk hkey, MapKept.run_findKey hk q1, hz, Result.andThen]
      · have he : e ∈ es.toList := List.mem_of_getElem? q2
        cases hf : f j with
        | none => exact absurd q3 (h3.no j hf e he)
        | some d =>
          obtain ⟨y, y1, y2, cs, y3, y4, y5⟩ := h3.yes j d hf
          obtain rfl := key_uniq h3.st he y1 (q3.trans y2.symm)
          refine fin e.val (by unfold mGet; rw [hf]; exact (val_den hE y3 y4 y5).1) ?_
          rw [hf]
          simp [Instr.lookup, run_underlying hu, MapKept.run_getObj_map h2, MapKept.run_checkKey hk hkey, MapKept.run_findKey hk q1, Result.andThen]
    · cases h
  · cases h

theorem kept_setMap (w : World) (b : Nat) (o : Obj) : Kept w (fun c => some b = some c) { w with heap := w.heap.setIfInBounds b o } :=
  ⟨rfl, rfl, rfl, by simp, fun c _ hc => by simp only [Array.getElem?_setIfInBounds]; rw [if_neg (fun e => hc (by rw [e]))]⟩
theorem mem_modify {es : Array MapEntry} {i : Nat} {g : MapEntry → MapEntry} {y : MapEntry} (hy : y ∈ (es.modify i g).toList) : y ∈ es.toList ∨ ∃ e, es[i]? = some e ∧ y = g e := by
  obtain ⟨j, hj⟩ := List.mem_iff_getElem?.1 hy
  rw [Array.getElem?_toList, Array.getElem?_modify] at hj
  by_cases e : i = j
  · subst e
    rw [if_pos rfl] at hj
    obtain ⟨x, hx, rfl⟩ := Option.map_eq_some_iff.1 hj
    exact .inr ⟨x, hx, rfl⟩
  · rw [if_neg e] at hj
    exact .inl (Array.mem_toList_iff.2 (Array.mem_of_getElem? hj))
theorem mem_modify_ne {es : Array MapEntry} {i : Nat} {g : MapEntry → MapEntry} {y e : MapEntry} (he : es[i]? = some e) (hy : y ∈ es.toList) (hne : y ≠ e) : y ∈ (es.modify i g).toList := by
  obtain ⟨j, hj⟩ := List.mem_iff_getElem?.1 hy
  rw [Array.getElem?_toList] at hj
  refine List.mem_iff_getElem?.2 ⟨j, ?_⟩
  rw [Array.getElem?_toList, Array.getElem?_modify]
  by_cases h : i = j
  · subst h; rw [he] at hj; cases hj; exact absurd rfl hne
  · rw [if_neg h]; exact hj
theorem mem_modify_at {es : Array MapEntry} {i : Nat} {g : MapEntry → MapEntry} {e : MapEntry} (he : es[i]? = some e) : g e ∈ (es.modify i g).toList := by
  refine List.mem_iff_getElem?.2 ⟨i, ?_⟩
  rw [Array.getElem?_toList, Array.getElem?_modify, if_pos rfl, he]; rfl

/-- What is stored under a key. -/
theorem mupD_den (hE : ∀ k, (E k).oneCell' = true) {ρ : Nat → Value} {H : FH} {t : Ty} {y : SV} {p : Prop} {d : D} (h : evMupD t y = some (p, d)) (hp : p) {v : Value} (hy : Den P E ρ H y v) :
    ∃ cs, Rep P E H t d cs ∧ (t.ag = true → v = .agg cs.toArray) ∧ (t.ag = false → cs = [v]) := by
  unfold evMupD at h
  split at h
  · rename_i m
    split at h
    · rename_i d' e; cases h
      cases hy with | agg hc =>
      rename_i cs
      exact ⟨cs, toD_all e hc, fun _ => rfl, fun h => by rw [ag_isAgg, hp] at h; cases h⟩
    · cases h
  · split at h
    · rename_i d' e; cases h
      have h1 := den_one hE hy hp.1
      refine ⟨[v], toD_all e (.one hy h1 .nil), fun h => ?_, fun _ => rfl⟩
      rw [ag_isAgg, hp.2] at h; cases h
    · cases h

/-- A key has another value, or one. -/
theorem mup_sound (hE : ∀ k, (E k).oneCell' = true) {c : Ctx} {ρ : Nat → Value} {H : FH} {S : SSt} {a : Act} {w : World} (s : Sat P E c ρ H S a w) {tid kt vt : TypeId} {k : IntKind} {z : D} (hm : mapI P tid = some (kt, vt, k, z))
    {x i y : SV} {p : Prop} {h' : Heap} (h : evMup kt vt k (tyOf P 8 vt) x i y S.h = some (p, h')) (hp : p) {vx vi vy : Value} (hx : Den P E ρ H x vx) (hi : Den P E ρ H i vi) (hy : Den P E ρ H y vy) :
    ∃ w', (Instr.mapUpdate tid vx vi vy).run P w = .ok () w' ∧ Sat P E c ρ H { f := S.f, h := h', nx := S.nx } a w' := by
  obtain ⟨hu, hk, hsz, z0, hz, hza, hzr⟩ := mapI_spec (E := E) hm
  unfold evMup at h
  split at h
  · rename_i n k' j
    split at h
    · rename_i kt' vt' f hn
      split at h
      · rename_i q d hq
        cases h
        obtain ⟨hq', rfl, rfl, rfl⟩ := hp
        obtain ⟨b, es, clock, h1, h2, h3, h4⟩ := map_tok s hn hk
        cases hx with | vec _ =>
        cases hi with | int hr =>
        obtain ⟨cs, d1, d2, d3⟩ := mupD_den hE hq hq' hy
        rw [h1]
        have hkey : IsKey (.int k') (.int k' j) := rfl
        have hkept : ∀ o, Kept w (fun c => blk (ρ n) = some c) { w with heap := w.heap.setIfInBounds b o } := fun o => by rw [h1]; exact kept_setMap w b o
        rcases findNow_spec hkey es.toList 0 (isKey_of h3.key) with ⟨q1, q2⟩ | ⟨q, e, q1, q2, q3⟩
        · refine ⟨{ w with heap := w.heap.setIfInBounds b (.map (es.push { key := .int k' j, val := vy, born := clock }) (clock + 1)) }, ?_, ?_⟩
          · simp [Instr.mapUpdate, run_underlying hu, MapKept.run_getObj_map h2, MapKept.run_checkKey hk hkey, MapKept.run_findKey hk q1, MapKept.run_setObj_map _ h2, Result.andThen]
          · refine s.change hn _ (hkept _) ⟨b, _, _, k', h1, (heap_set h2).1, hk, ⟨stamped_push h3.st q2, ?_, ?_, ?_⟩, h4⟩ trivial
            · intro y hy
              simp only [Array.toList_push, List.mem_append, List.mem_singleton] at hy
              rcases hy with hy | rfl
              · exact h3.key y hy
              · exact ⟨j, rfl, hr⟩
            · intro i' d' hf
              unfold mSet at hf
              split at hf
              · rename_i e; subst e; cases hf
                exact ⟨{ key := .int k' i', val := vy, born := clock }, by simp, rfl, cs, d1, d2, d3⟩
              · obtain ⟨y, y1, y2, y3⟩ := h3.yes i' d' hf
                exact ⟨y, by simp [Array.mem_toList_iff.1 y1], y2, y3⟩
            · intro i' hf y hy
              unfold mSet at hf
              split at hf
              · cases hf
              · rename_i e
                simp only [Array.toList_push, List.mem_append, List.mem_singleton] at hy
                rcases hy with hy | rfl
                · exact h3.no i' hf y hy
                · intro h; simp at h; exact e h.symm
        · have hq2 : es[q]? = some e := by simpa using q2
          have he : e ∈ es.toList := List.mem_of_getElem? q2
          refine ⟨{ w with heap := w.heap.setIfInBounds b (.map (es.modify q fun e => { e with key := .int k' j, val := vy }) clock) }, ?_, ?_⟩
          · simp [Instr.mapUpdate, run_underlying hu, MapKept.run_getObj_map h2, MapKept.run_checkKey hk hkey, MapKept.run_findKey hk q1, hq2, q3, MapKept.run_keyThatStays hkey, MapKept.run_setObj_map _ h2, Result.andThen]
          · have hkk : ∀ e', es[q]? = some e' → ({ e' with key := .int k' j, val := vy } : MapEntry).key = e'.key := fun e' he' => by rw [hq2] at he'; cases he'; exact q3.symm
            refine s.change hn _ (hkept _) ⟨b, _, _, k', h1, (heap_set h2).1, hk, ⟨stamped_modify h3.st _ _ (fun _ _ => rfl) (fun e' _ he' => hkk e' he'), ?_, ?_, ?_⟩, h4⟩ trivial
            · intro y hy
              rcases mem_modify hy with hy | ⟨e', _, rfl⟩
              · exact h3.key y hy
              · exact ⟨j, rfl, hr⟩
            · intro i' d' hf
              unfold mSet at hf
              split at hf
              · rename_i ee; subst ee; cases hf
                exact ⟨_, mem_modify_at hq2, rfl, cs, d1, d2, d3⟩
              · rename_i ee
                obtain ⟨y, y1, y2, y3⟩ := h3.yes i' d' hf
                refine ⟨y, mem_modify_ne hq2 y1 (fun e2 => ?_), y2, y3⟩
                subst e2
                rw [q3] at y2
                simp at y2; exact ee y2.symm
            · intro i' hf y hy
              unfold mSet at hf
              split at hf
              · cases hf
              · rename_i ee
                rcases mem_modify hy with hy | ⟨e', _, rfl⟩
                · exact h3.no i' hf y hy
                · intro h; simp at h; exact ee h.symm
      · cases h
    · cases h
  · cases h

theorem mem_erase {es : Array MapEntry} {i : Nat} {y : MapEntry} (hy : y ∈ (es.eraseIdxIfInBounds i).toList) : y ∈ es.toList := by
  unfold Array.eraseIdxIfInBounds at hy
  split at hy
  · rw [Array.toList_eraseIdx] at hy; exact (List.eraseIdx_sublist _ _).subset hy
  · exact hy
theorem mem_erase_ne {es : Array MapEntry} {i : Nat} {y e : MapEntry} (he : es[i]? = some e) (hy : y ∈ es.toList) (hne : y ≠ e) : y ∈ (es.eraseIdxIfInBounds i).toList := by
  have hlt : i < es.size := (Array.getElem?_eq_some_iff.1 he).1
  unfold Array.eraseIdxIfInBounds
  rw [dif_pos hlt, Array.toList_eraseIdx]
  obtain ⟨j, hj⟩ := List.mem_iff_getElem?.1 hy
  rw [List.mem_eraseIdx_iff_getElem?]
  refine ⟨j, fun h => ?_, hj⟩
  subst h
  rw [Array.getElem?_toList, he] at hj
  cases hj; exact hne rfl

theorem nodup_get {α : Type} {a : α} : ∀ {l : List α}, l.Nodup → ∀ {i j : Nat}, l[i]? = some a → l[j]? = some a → i = j
  | [], _, i, j, h, _ => by simp at h
  | x :: l, hn, 0, 0, _, _ => rfl
  | x :: l, hn, 0, j + 1, h1, h2 => by
    rw [List.nodup_cons] at hn
    simp only [List.getElem?_cons_zero, Option.some.injEq] at h1
    simp only [List.getElem?_cons_succ] at h2
    subst h1
    exact absurd (List.mem_of_getElem? h2) hn.1
  | x :: l, hn, i + 1, 0, h1, h2 => by
    rw [List.nodup_cons] at hn
    simp only [List.getElem?_cons_zero, Option.some.injEq] at h2
    simp only [List.getElem?_cons_succ] at h1
    subst h2
    exact absurd (List.mem_of_getElem? h1) hn.1
  | x :: l, hn, i + 1, j + 1, h1, h2 => by
    rw [List.nodup_cons] at hn
    simp only [List.getElem?_cons_succ] at h1 h2
    rw [nodup_get hn.2 h1 h2]
/-- A key goes. -/
theorem mdl_sound {c : Ctx} {ρ : Nat → Value} {H : FH} {S : SSt} {a : Act} {w : World} (s : Sat P E c ρ H S a w) {tid kt vt t2 : TypeId} {k : IntKind} {z : D} (hm : mapI P tid = some (kt, vt, k, z))
    {x i : SV} {p : Prop} {h' : Heap} (h : evMdl kt vt k x i S.h = some (p, h')) (hp : p) {vx vi : Value} (hx : Den P E ρ H x vx) (hi : Den P E ρ H i vi) (ty : TypeId) :
    ∃ w', (Builtin.delete_ #[tid, t2] ty #[vx, vi]).run P w = .ok (.tuple #[]) w' ∧ Sat P E c ρ H { f := S.f, h := h', nx := S.nx } a w' := by
  obtain ⟨hu, hk, hsz, z0, hz, hza, hzr⟩ := mapI_spec (E := E) hm
  unfold evMdl at h
  split at h
  · rename_i n k' j
    split at h
    · rename_i kt' vt' f hn
      cases h
      obtain ⟨rfl, rfl, rfl⟩ := hp
      obtain ⟨b, es, clock, h1, h2, h3, h4⟩ := map_tok s hn hk
      cases hx with | vec _ =>
      cases hi with | int hr =>
      rw [h1]
      have hkey : IsKey (.int k') (.int k' j) := rfl
      have hkept : ∀ o, Kept w (fun c => blk (ρ n) = some c) { w with heap := w.heap.setIfInBounds b o } := fun o => by rw [h1]; exact kept_setMap w b o
      rcases findNow_spec hkey es.toList 0 (isKey_of h3.key) with ⟨q1, q2⟩ | ⟨q, e, q1, q2, q3⟩
      · refine ⟨{ w with heap := w.heap.setIfInBounds b (.map es clock) }, ?_, ?_⟩
        · simp [Builtin.delete_, run_underlying hu, MapKept.run_getObj_map h2, MapKept.run_checkKey hk hkey, MapKept.run_findKey hk q1, MapKept.run_setObj_map _ h2, Result.andThen]
        · refine s.change hn _ (hkept _) ⟨b, _, _, k', h1, (heap_set h2).1, hk, ⟨h3.st, h3.key, ?_, ?_⟩, h4⟩ trivial
          · intro i' d' hf
            unfold mDel at hf
            split at hf
            · cases hf
            · exact h3.yes i' d' hf
          · intro i' hf y hy
            unfold mDel at hf
            split at hf
            · rename_i ee; subst ee; exact q2 y hy
            · exact h3.no i' hf y hy
      · have hq2 : es[q]? = some e := by simpa using q2
        have he : e ∈ es.toList := List.mem_of_getElem? q2
        refine ⟨{ w with heap := w.heap.setIfInBounds b (.map (es.eraseIdxIfInBounds q) clock) }, ?_, ?_⟩
        · simp [Builtin.delete_, run_underlying hu, MapKept.run_getObj_map h2, MapKept.run_checkKey hk hkey, MapKept.run_findKey hk q1, MapKept.run_setObj_map _ h2, Result.andThen]
        · refine s.change hn _ (hkept _) ⟨b, _, _, k', h1, (heap_set h2).1, hk, ⟨stamped_erase h3.st _, fun y hy => h3.key y (mem_erase hy), ?_, ?_⟩, h4⟩ trivial
          · intro i' d' hf
            unfold mDel at hf
            split at hf
            · cases hf
            · rename_i ee
              obtain ⟨y, y1, y2, y3⟩ := h3.yes i' d' hf
              refine ⟨y, mem_erase_ne hq2 y1 (fun e2 => ?_), y2, y3⟩
              subst e2
              rw [q3] at y2
              simp at y2; exact ee y2.symm
          · intro i' hf y hy
            unfold mDel at hf
            split at hf
            · rename_i ee; subst ee
              intro hyk
              obtain rfl := key_uniq h3.st (mem_erase hy) he (hyk.trans q3.symm)
              -- it was taken out
              have hlt : q < es.size := (Array.getElem?_eq_some_iff.1 hq2).1
              unfold Array.eraseIdxIfInBounds at hy
              rw [dif_pos hlt, Array.toList_eraseIdx, List.mem_eraseIdx_iff_getElem?] at hy
              obtain ⟨q', hne, hq'⟩ := hy
              have hnd := h3.st.2.2
              have e1 : (es.toList.map (·.key))[q']? = some y.key := by rw [List.getElem?_map, hq']; rfl
              have e2 : (es.toList.map (·.key))[q]? = some y.key := by rw [List.getElem?_map, q2]; rfl
              exact hne (nodup_get hnd e1 e2)
            · exact h3.no i' hf y (mem_erase hy)
    · cases h
  · cases h
end
end Go.Fw
