/- The frame-work, part J: the machine does what 'ev' says: places, lengths, parts. -/
import Derived.Test.YtnpjmmimlhgipaaDoorFwI
namespace Go.Fw
set_option linter.unusedVariables false
set_option linter.unusedSimpArgs false
open Go

section
variable {P : Program} {E : Nat → Value}

theorem repL_fld {H : FH} : ∀ {ts : List Ty} {ds : List D} {cs : List Value}, RepL P E H ts ds cs → ∀ k t, ts[k]? = some t → ∃ d cs', ds[k]? = some d ∧ Rep P E H t d cs' ∧ ∀ j v, cs'[j]? = some v → cs[Ty.sizeL (ts.take k) + j]? = some v
  | _, _, _, .nil, k, t, h => by simp at h
  | _, _, _, .cons h h', k, t, hk => by
    cases k with
    | zero =>
      simp at hk; subst hk
      refine ⟨_, _, rfl, h, fun j v hj => ?_⟩
      simp only [List.take_zero, Ty.sizeL, Nat.zero_add]
      rw [List.getElem?_append_left (List.getElem?_eq_some_iff.1 hj).1]; exact hj
    | succ k =>
      obtain ⟨d, cs', h1, h2, h3⟩ := repL_fld h' k t (by simpa using hk)
      refine ⟨d, cs', by simpa using h1, h2, fun j v hj => ?_⟩
      have hl := rep_len h
      simp only [List.take_succ_cons, Ty.sizeL]
      rw [List.getElem?_append_right (by omega), ← h3 j v hj]
      congr 1
      omega

/-- What the translator says of a field is what the type says. -/
def fadOk (P : Program) (tid : TypeId) (k off : Nat) (t : Ty) : Prop :=
  ∃ fs f, P.underlying tid = some (.struct fs) ∧ fs[k]? = some f ∧ f.offset = off ∧ ((P.info? f.type).map (·.size)).any (· != 0) = true ∧ t = tyOf P 7 f.type ∧ Ty.sizeL ((fs.toList.take k).map fun f => tyOf P 7 f.type) = off

theorem fad_sound {c : Ctx} {ρ : Nat → Value} {H : FH} {S : SSt} {a : Act} {w : World} (s : Sat P E c ρ H S a w) {tid : TypeId} {k off : Nat} {t : Ty} (hf : fadOk P tid k off t)
    {x : SV} {p : Prop} {v : SV} (h : evFad k off t tid x = some (p, v)) (hp : p) {vx : Value} (hx : Den P E ρ H x vx) (hl : x.lt S.nx) :
    ∃ u, (Instr.fieldAt tid vx k).run P w = .ok u w ∧ Den P E ρ H v u ∧ v.lt S.nx := by
  obtain ⟨fs, f, h1, h2, rfl, h4, h5, h6⟩ := hf
  have run : ∀ b o, (Instr.fieldAt tid (.pointer (some ⟨b, o, none⟩)) k).run P w = .ok (.pointer (some ⟨b, o + f.offset, none⟩)) w := by
    intro b o
    cases hi : P.info? f.type with
    | none => rw [hi] at h4; simp at h4
    | some i =>
      rw [hi] at h4
      simp only [Option.map_some, Option.any_some, bne_iff_ne, ne_eq] at h4
      simp [Instr.fieldAt, Sem.run_bind, run_underlying h1, h2, Instr.sureAddr, fieldPlace, sizeOf, typeInfo, hi, h4, add_lit, program, Sem.run, pure]
  unfold evFad at h
  split at h
  · rename_i ts d
    cases h
    obtain ⟨g1, g2⟩ := hp
    cases hx with
    | elt hs hm hr =>
      rename_i ad cs
      obtain ⟨b, o, sp⟩ := ad
      cases hs
      cases hr with
      | strct hr =>
        rename_i ds
        obtain ⟨d', cs', e1, e2, e3⟩ := repL_fld hr k t g1
        refine ⟨_, run b o, ?_, trivial⟩
        have hd : (D.node ds).fld k = d' := by simp [D.fld, D.fs, e1]
        rw [hd]
        exact .elt rfl (fun j v hj => by have := hm _ _ (e3 j v hj); rw [g2] at this; simpa [Nat.add_assoc] using this) e2
  · cases h
    cases hx with
    | ptr hx => exact ⟨_, run _ _, .ptr hx, hl⟩
  · cases h
    cases hx with
    | eltv hx => exact ⟨_, run _ _, by rw [Nat.add_assoc]; exact .eltv hx, hl⟩
  · rename_i ee dd
    cases h
    obtain ⟨hee, hn⟩ := hp
    subst hee
    cases hx with
    | dat _ hr =>
      cases hr with
      | pnil => simp [D.isNil] at hn
      | ptr hs hm hr =>
        rename_i d0 ad cs
        obtain ⟨b, o, sp⟩ := ad
        cases hs
        have hty : tyOf P 8 ee = .strct (fs.toList.map fun f => tyOf P 7 f.type) := by rw [tyOf]; rw [h1]
        rw [hty] at hr
        cases hr with
        | strct hr =>
          rename_i ds
          have g1 : (fs.toList.map fun f => tyOf P 7 f.type)[k]? = some t := by
            rw [List.getElem?_map, Array.getElem?_toList, h2, h5]; rfl
          obtain ⟨d', cs', e1, e2, e3⟩ := repL_fld hr k t g1
          refine ⟨_, run b o, ?_, trivial⟩
          have hd : (D.node ds).fld k = d' := by simp [D.fld, D.fs, e1]
          simp only [D.tgt]
          rw [hd]
          exact .elt rfl (fun j v hj => by have := hm _ _ (e3 j v hj); rw [← List.map_take, h6] at this; simpa [Nat.add_assoc] using this) e2
  · cases h

theorem run_indexAt_in (tid eid : TypeId) (hu : P.underlying tid = some (.slice eid)) {n : Nat} (hs : (P.info? eid).map (·.size) = some n) (b o len cap : Nat) (k : IntKind) (i : Int) (h0 : 0 ≤ i) (h1 : i < len) (w : World) :
    (Instr.indexAt tid (.slice (some ⟨b, o, none⟩) len cap) (.int k i)).run P w = .ok (.pointer (some ⟨b, o + i.toNat * n, none⟩)) w := by
  obtain ⟨inf, hi, rfl⟩ := Option.map_eq_some_iff.1 hs
  simp [Instr.indexAt, asIntOf, Sem.run_bind, run_underlying hu, sizeOf, typeInfo, hi, h0, h1, add_lit, program, Sem.run, pure]

theorem run_indexAt_arr (tid eid : TypeId) {m : Nat} (hu : P.underlying tid = some (.array m eid)) {n : Nat} (hs : (P.info? eid).map (·.size) = some n) (b o : Nat) (k : IntKind) (i : Int) (h0 : 0 ≤ i) (h1 : i < m) (w : World) :
    (Instr.indexAt tid (.pointer (some ⟨b, o, none⟩)) (.int k i)).run P w = .ok (.pointer (some ⟨b, o + i.toNat * n, none⟩)) w := by
  obtain ⟨inf, hi, rfl⟩ := Option.map_eq_some_iff.1 hs
  simp [Instr.indexAt, asIntOf, Sem.run_bind, run_underlying hu, Instr.sureAddr, sizeOf, typeInfo, hi, h0, h1, add_lit, program, Sem.run, pure]

theorem iad_sound {c : Ctx} {ρ : Nat → Value} {H : FH} {S : SSt} {a : Act} {w : World} (s : Sat P E c ρ H S a w) {tid eid : TypeId} (hu : P.underlying tid = some (.slice eid)) (hs : (P.info? eid).map (·.size) = some (tyOf P 8 eid).size)
    {x y : SV} {p : Prop} {v : SV} (h : evIad eid (tyOf P 8 eid) x y S.h = some (p, v)) (hp : p) {vx vy : Value} (hx : Den P E ρ H x vx) (hy : Den P E ρ H y vy) (hl : x.lt S.nx) :
    ∃ u, (Instr.indexAt tid vx vy).run P w = .ok u w ∧ Den P E ρ H v u ∧ v.lt S.nx := by
  unfold evIad at h
  split at h
  · rename_i eid' d k i
    cases h
    obtain ⟨rfl, h0, h1⟩ := hp
    cases hx with | dat _ hr =>
    cases hy with | int _ =>
    cases hr with
    | slice css hc hcap hn hz hm hr =>
      rename_i l ad cap
      simp only [D.l] at h1 ⊢
      obtain ⟨ad', e1, e2⟩ := hn (fun e => by rw [e] at h1; simp at h1; omega)
      subst e1
      obtain ⟨b, o, sp⟩ := ad'
      cases e2
      have hi : i.toNat < l.length := by omega
      refine ⟨_, run_indexAt_in tid _ hu hs b o _ _ _ _ h0 h1 w, ?_, trivial⟩
      rw [List.getD_eq_getElem?_getD, List.getElem?_eq_getElem hi, Option.getD_some]
      exact .elt rfl (fun j v hj => hm i.toNat hi _ rfl j v hj) (hr i.toNat hi)
  · rename_i n k i
    split at h
    · rename_i eid' e' l hn
      cases h
      obtain ⟨rfl, h0, h1⟩ := hp
      obtain ⟨⟨he, xs, ⟨_, hown⟩, _, _⟩, hnl, _⟩ := s.tok hn
      cases hx with | vec _ =>
      cases hy with | int _ =>
      rcases hown with ⟨_, h2⟩ | ⟨g, cap, cur, hv, _⟩
      · rw [h2] at h1; omega
      · rw [hv]
        refine ⟨_, run_indexAt_in tid _ hu hs g 0 _ _ _ _ h0 h1 w, ?_, hnl⟩
        have := Den.eltv (P := P) (E := E) (ρ := ρ) (H := H) (i := i) (sz := (tyOf P 8 eid').size) (off := 0) hv
        simpa using this
    · cases h
  · cases h

theorem aad_sound {c : Ctx} {ρ : Nat → Value} {H : FH} {S : SSt} {a : Act} {w : World} (s : Sat P E c ρ H S a w) {tid eid : TypeId} {n : Nat} (hu : P.underlying tid = some (.array n eid)) (hs : (P.info? eid).map (·.size) = some (tyOf P 7 eid).size)
    {x y : SV} {p : Prop} {v : SV} (h : evAad n (tyOf P 7 eid) x y = some (p, v)) (hp : p) {vx vy : Value} (hx : Den P E ρ H x vx) (hy : Den P E ρ H y vy) (hl : x.lt S.nx) :
    ∃ u, (Instr.indexAt tid vx vy).run P w = .ok u w ∧ Den P E ρ H v u ∧ v.lt S.nx := by
  unfold evAad at h
  split at h
  · cases h
    obtain ⟨h0, h1⟩ := hp
    cases hx with | ptr hx =>
    cases hy with | int _ =>
    exact ⟨_, run_indexAt_arr tid _ hu hs _ _ _ _ h0 h1 w, .eltc hx, hl⟩
  · cases h

theorem inI64 {n : Nat} (h : n ≤ maxLen) : IntKind.i64.min ≤ (n : Int) ∧ (n : Int) ≤ IntKind.i64.max := by
  unfold maxLen at h
  simp only [IntKind.min, IntKind.max, IntKind.signed, IntKind.bits]
  simp
  omega

theorem len_sound {c : Ctx} {ρ : Nat → Value} {H : FH} {S : SSt} {a : Act} {w : World} (s : Sat P E c ρ H S a w) {tid eid : TypeId} (hu : P.underlying tid = some (.slice eid))
    {x : SV} {p : Prop} {v : SV} (h : evLen x S.h = some (p, v)) {vx : Value} (hx : Den P E ρ H x vx) (t : TypeId) :
    ∃ u, (Builtin.len_ #[tid] t #[vx]).run P w = .ok u w ∧ Den P E ρ H v u ∧ v.lt S.nx := by
  have slice : ∀ ad n cap, (Builtin.len_ #[tid] t #[.slice ad n cap]).run P w = .ok (.int .i64 n) w := fun ad n cap => by
    simp [Builtin.len_, Sem.run_bind, run_underlying hu, goInt, Sem.run, pure]
  unfold evLen at h
  split at h
  · cases h
    cases hx with | dat _ hr =>
    cases hr with
    | slice css hc hcap _ _ _ _ => exact ⟨_, slice _ _ _, .int (inI64 (Nat.le_trans hc hcap)), trivial⟩
  · split at h
    · rename_i n _ _ e l hn
      cases h
      obtain ⟨⟨_, xs, ⟨_, hown⟩, _, _⟩, _⟩ := s.tok hn
      cases hx with | vec _ =>
      rcases hown with ⟨hv, h2⟩ | ⟨g, cap, cur, hv, _, _, h3, h4, _⟩
      · obtain ⟨a0, hv⟩ := hv
        rw [hv]; exact ⟨_, slice _ _ _, by rw [h2]; exact .int (inI64 (Nat.zero_le _)), trivial⟩
      · rw [hv]; exact ⟨_, slice _ _ _, .int (inI64 (Nat.le_trans h3 h4)), trivial⟩
    · cases h
  · cases h
    cases hx with | nils => exact ⟨_, slice _ _ _, .int (inI64 (n := 0) (Nat.zero_le _)), trivial⟩
  · cases h

theorem sln_sound {ρ : Nat → Value} {H : FH} {w : World} {tid : TypeId} (hu : P.underlying tid = some .string)
    {x : SV} {p : Prop} {v : SV} (h : evSln x = some (p, v)) {vx : Value} (hx : Den P E ρ H x vx) (t : TypeId) :
    ∃ u, (Builtin.len_ #[tid] t #[vx]).run P w = .ok u w ∧ Den P E ρ H v u ∧ ∀ nx, v.lt nx := by
  unfold evSln at h
  split at h
  · cases h
    cases hx with | str hs => exact ⟨_, by simp [Builtin.len_, Sem.run_bind, run_underlying hu, goInt, Sem.run, pure], .int (inI64 hs), fun _ => trivial⟩
  · cases h

theorem nlc_sound {c : Ctx} {ρ : Nat → Value} {H : FH} {S : SSt} {a : Act} {w : World} (s : Sat P E c ρ H S a w)
    {x : SV} {p : Prop} {v : SV} (h : evNlc x = some (p, v)) (hp : p) {o : Oper} {op : Operand} (ho : o.op = .nilCheck op) (hx : Den P E ρ H x (a.eval op)) (hl : x.lt S.nx) :
    ∃ u, (execOp a.eval o).run P w = .ok (.value u) w ∧ Den P E ρ H v u ∧ v.lt S.nx := by
  have run : ∀ ad, a.eval op = .pointer (some ad) → (execOp a.eval o).run P w = .ok (.value (.pointer (some ad))) w := fun ad h => by
    simp [execOp, ho, h, Sem.run, pure]
  unfold evNlc at h
  split at h
  · cases h
    have h1 := hp
    generalize hv : a.eval op = vx at hx
    cases hx with | dat _ hr =>
    cases hr with
    | pnil => simp [D.isNil] at h1
    | ptr hs hm hr => exact ⟨_, run _ hv, .dat rfl (.ptr hs hm hr), trivial⟩
  all_goals (try cases h)
  · generalize hv : a.eval op = vx at hx
    cases hx with | elt h1 h2 h3 => exact ⟨_, run _ hv, .elt h1 h2 h3, trivial⟩
  · generalize hv : a.eval op = vx at hx
    cases hx with | ptr h1 => exact ⟨_, run _ hv, .ptr h1, hl⟩
  · generalize hv : a.eval op = vx at hx
    cases hx with | eltv h1 => exact ⟨_, run _ hv, .eltv h1, hl⟩
  · generalize hv : a.eval op = vx at hx
    cases hx with | eltc h1 => exact ⟨_, run _ hv, .eltc h1, hl⟩
end
end Go.Fw
