/- The frame-work, part K: the machine does what 'ev' says: new memory, stores. -/
import Derived.Test.YtnpjmmimlhgipaaDoorFwJ
namespace Go.Fw
set_option linter.unusedVariables false
set_option linter.unusedSimpArgs false
open Go

section
variable {P : Program} {E : Nat → Value}

mutual
theorem rep_one (hE : ∀ k, (E k).oneCell' = true) {H : FH} : ∀ {t : Ty} {d cs}, Rep P E H t d cs → ∀ v ∈ cs, v.oneCell' = true
  | _, _, _, .int _ => by simp [Value.oneCell']
  | _, _, _, .bool => by simp [Value.oneCell']
  | _, _, _, .str _ => by simp [Value.oneCell']
  | _, _, _, .slice .. => by simp [Value.oneCell']
  | _, _, _, .strct h => repL_one hE h
  | _, _, _, .arr _ h => repL_one hE h
  | _, _, _, .pnil => by simp [Value.oneCell']
  | _, _, _, .ptr .. => by simp [Value.oneCell']
  | _, _, _, .inil => by simp [Value.oneCell']
  | _, _, _, .err => by intro v hv; simp at hv; subst hv; exact hE _
  | _, _, _, .ifc _ => by simp [Value.oneCell']
theorem repL_one (hE : ∀ k, (E k).oneCell' = true) {H : FH} : ∀ {ts : List Ty} {ds cs}, RepL P E H ts ds cs → ∀ v ∈ cs, v.oneCell' = true
  | _, _, _, .nil => by simp
  | _, _, _, .cons h h' => by
    intro v hv
    rcases List.mem_append.1 hv with h1 | h1
    · exact rep_one hE h v h1
    · exact repL_one hE h' v h1
end

theorem denC_ones (hE : ∀ k, (E k).oneCell' = true) {ρ : Nat → Value} {H : FH} {l : List SV} {cs : List Value} (h : DenC P E ρ H l cs) : ∀ v ∈ cs, v.oneCell' = true := by
  induction l generalizing cs with
  | nil => cases h; simp
  | cons x l ih =>
    cases h with
    | one h h1 h' =>
      intro v hv
      rcases List.mem_cons.1 hv with rfl | hv
      · exact h1
      · exact ih h' v hv
    | arrc h h' =>
      intro v hv
      rcases List.mem_append.1 hv with hv | hv
      · exact repL_one hE h v hv
      · exact ih h' v hv

theorem den_one (hE : ∀ k, (E k).oneCell' = true) {ρ : Nat → Value} {H : FH} {x : SV} {v : Value} (h : Den P E ρ H x v) (h1 : x.one = true) : v.oneCell' = true := by
  cases h <;> first | rfl | (simp [SV.one] at h1; done) | assumption | skip
  rename_i hr
  exact rep_one hE hr _ (by simp)

theorem kept_alloc (w : World) (o : Obj) : Kept w (fun _ => False) (w.alloc o) :=
  ⟨rfl, rfl, rfl, by simp, fun b hb _ => RowKit.Below.heap_alloc w o b hb⟩
theorem heap_alloc_last (w : World) (o : Obj) : (w.alloc o).heap[w.heap.size]? = some o := heap_alloc_new w o

/-- A new variable of the function's own. -/
theorem Sat.alloc {c : Ctx} {ρ : Nat → Value} {H : FH} {S : SSt} {a : Act} {w : World} (s : Sat P E c ρ H S a w) {l : List SV} {cs : List Value} (hd : DenC P E ρ H l cs) (hl : SV.ltL S.nx l) (t : TypeId) {d : Nat} (hdN : d < c.N) :
    ∃ ρ', Sat P E c ρ' H { f := (d, .ptr S.nx 0) :: S.f, h := (S.nx, .cells l) :: S.h, nx := S.nx + 1 } (a.put (some d) (.pointer (some ⟨w.heap.size, 0, none⟩))) (w.alloc (.cells cs.toArray t)) := by
  refine ⟨upd ρ S.nx (.pointer (some ⟨w.heap.size, 0, none⟩)), ?_⟩
  have hg := s.grow (N := S.nx) (nx' := S.nx + 1) (Nat.le_refl _) (Nat.lt_succ_self _) (.pointer (some ⟨w.heap.size, 0, none⟩)) (.cells l) (kept_alloc w (.cells cs.toArray t))
    ⟨w.heap.size, t, cs, upd_same _ _ _, heap_alloc_last w _, DenC.congr P E (upd_lt ρ _ (Nat.le_refl _)) (FH.le_refl H) hl hd, fun o => s.hin.none_new (Nat.le_refl _) o⟩
    (fun b hb => by simp [blk] at hb; omega) (SV.ltL_mono (Nat.le_succ _) hl)
  exact hg.put (.ptr (upd_same _ _ _)) (Nat.lt_succ_self _) hdN

theorem run_allocI (tid : TypeId) {z : Value} (hz : (P.info? tid).map (·.zero) = some (some z)) (w : World) :
    (Instr.alloc tid true (.tuple #[])).run P w = .ok (.pointer (some ⟨w.heap.size, 0, none⟩)) (w.alloc (.cells z.cells tid)) := by
  obtain ⟨i, hi, hz⟩ := Option.map_eq_some_iff.1 hz
  simp [Instr.alloc, zeroValue, typeInfo, hi, hz, Sem.run_bind, newVar, newRow, newObj, program, Sem.run, pure]
theorem run_boxI (tid : TypeId) (v : Value) (w : World) :
    (Instr.box tid v).run P w = .ok (.pointer (some ⟨w.heap.size, 0, none⟩)) (w.alloc (.cells v.cells tid)) := by
  simp [Instr.box, Sem.run_bind, newVar, newRow, newObj, Sem.run, pure]

/-! ### Stores -/
theorem setCellAt_den {ρ : Nat → Value} {H : FH} {y : SV} {u : Value} (hy : Den P E ρ H y u) (hu : u.oneCell' = true) : ∀ {l l' : List SV} {cs : List Value} {o : Nat}, DenC P E ρ H l cs → setCellAt l o y = some l' → o < cs.length ∧ DenC P E ρ H l' (cs.take o ++ [u] ++ cs.drop (o + 1)) := by
  intro l
  induction l with
  | nil => intro l' cs o _ h; simp [setCellAt] at h
  | cons x r ih =>
    intro l' cs o hd h
    cases hd with
    | arrc h1 h2 =>
      rename_i e ds cs1 cs2
      have hl := repL_len h1
      rw [sizeL_replicate] at hl
      simp only [setCellAt] at h
      split at h
      · rename_i hle
        obtain ⟨q, h3, rfl⟩ := Option.map_eq_some_iff.1 h
        obtain ⟨h4, h5⟩ := ih h2 h3
        refine ⟨by rw [List.length_append]; omega, ?_⟩
        have := DenC.arrc h1 h5
        rw [List.take_append, List.drop_append, List.take_of_length_le (by omega), show List.drop (o + 1) cs1 = [] from by rw [List.drop_eq_nil_iff]; omega]
        rw [show o - cs1.length = o - ds.length * e.size from by omega, show o + 1 - cs1.length = o - ds.length * e.size + 1 from by omega]
        simpa [List.append_assoc] using this
      · cases h
    | one h1 h1' h2 =>
      rename_i v cs'
      have key : setCellAt (x :: r) o y = match o with | 0 => some (y :: r) | o + 1 => (setCellAt r o y).map (x :: ·) := by
        cases x <;> first | (cases h1; done) | (cases o <;> rfl)
      rw [key] at h
      cases o with
      | zero => cases h; exact ⟨by simp, .one hy hu h2⟩
      | succ o =>
        obtain ⟨q, h3, rfl⟩ := Option.map_eq_some_iff.1 h
        obtain ⟨h4, h5⟩ := ih h2 h3
        exact ⟨by simp; exact h4, .one h1 h1' h5⟩

theorem setCellAt_lt {nx : Nat} {y : SV} (hy : y.lt nx) : ∀ {l l' : List SV} {o : Nat}, SV.ltL nx l → setCellAt l o y = some l' → SV.ltL nx l' := by
  intro l
  induction l with
  | nil => intro l' o _ h; simp [setCellAt] at h
  | cons x r ih =>
    intro l' o hl h
    have key : (∃ e ds, x = .arrc e ds) ∨ setCellAt (x :: r) o y = match o with | 0 => some (y :: r) | o + 1 => (setCellAt r o y).map (x :: ·) := by
      cases x <;> first | exact .inl ⟨_, _, rfl⟩ | (cases o <;> exact .inr rfl)
    rcases key with ⟨e, ds, rfl⟩ | key
    · simp only [setCellAt] at h
      split at h
      · obtain ⟨q, h3, rfl⟩ := Option.map_eq_some_iff.1 h
        exact ⟨trivial, ih hl.2 h3⟩
      · cases h
    · rw [key] at h
      cases o with
      | zero => cases h; exact ⟨hy, hl.2⟩
      | succ o =>
        obtain ⟨q, h3, rfl⟩ := Option.map_eq_some_iff.1 h
        exact ⟨hl.1, ih hl.2 h3⟩

theorem setArrAt_den {ρ : Nat → Value} {H : FH} {d : D} {c' : List Value} : ∀ {l l' : List SV} {cs : List Value} {o i : Nat} {e : Ty} {ds : List D}, DenC P E ρ H l cs → arrAt l o = some (e, ds) → Rep P E H e d c' → i < ds.length → setArrAt l o i d = some l' →
    o + i * e.size + e.size ≤ cs.length ∧ DenC P E ρ H l' (cs.take (o + i * e.size) ++ c' ++ cs.drop (o + i * e.size + e.size)) := by
  intro l
  induction l with
  | nil => intro l' cs o i e ds _ h; simp [arrAt] at h
  | cons x r ih =>
    intro l' cs o i e ds hd ha hr hi h
    cases hd with
    | arrc h1 h2 =>
      rename_i e' ds' cs1 cs2
      have hl := repL_len h1
      rw [sizeL_replicate] at hl
      simp only [setArrAt] at h
      simp only [arrAt] at ha
      split at h
      · rename_i h0; subst h0
        simp only [if_true] at ha
        cases ha
        cases h
        have hle : i * e.size + e.size ≤ cs1.length := by
          rw [hl, ← Nat.succ_mul]; exact Nat.mul_le_mul_right _ hi
        refine ⟨by rw [List.length_append]; omega, ?_⟩
        have := repL_set i hi h1 hr
        rw [List.take_append_of_le_length (by omega), List.drop_append_of_le_length (by omega)]
        have hh := DenC.arrc (ρ := ρ) (l := r) (ds := ds.set i d) (by rw [List.length_set]; exact this) h2
        simpa [List.append_assoc] using hh
      · rename_i h0
        rw [if_neg h0] at ha
        split at h
        · rename_i hle
          rw [if_pos hle] at ha
          obtain ⟨q, h3, rfl⟩ := Option.map_eq_some_iff.1 h
          obtain ⟨h4, h5⟩ := ih h2 ha hr hi h3
          refine ⟨by rw [List.length_append]; omega, ?_⟩
          have := DenC.arrc h1 h5
          rw [List.take_append, List.drop_append, List.take_of_length_le (by omega), show List.drop (o + i * e.size + e.size) cs1 = [] from by rw [List.drop_eq_nil_iff]; omega]
          rw [show o + i * e.size - cs1.length = o - ds'.length * e'.size + i * e.size from by omega, show o + i * e.size + e.size - cs1.length = o - ds'.length * e'.size + i * e.size + e.size from by omega]
          simpa [List.append_assoc] using this
        · cases h
    | one h1 h1' h2 =>
      rename_i v cs'
      have key : setArrAt (x :: r) o i d = match o with | 0 => none | o + 1 => (setArrAt r o i d).map (x :: ·) := by
        cases x <;> first | (cases h1; done) | (cases o <;> rfl)
      have key2 : arrAt (x :: r) o = match o with | 0 => none | o + 1 => arrAt r o := by
        cases x <;> first | (cases h1; done) | (cases o <;> rfl)
      rw [key] at h
      rw [key2] at ha
      cases o with
      | zero => cases h
      | succ o =>
        obtain ⟨q, h3, rfl⟩ := Option.map_eq_some_iff.1 h
        obtain ⟨h4, h5⟩ := ih h2 ha hr hi h3
        refine ⟨by simp; omega, ?_⟩
        have := DenC.one h1 h1' h5
        rw [show o + 1 + i * e.size = (o + i * e.size) + 1 from by omega, show o + i * e.size + 1 + e.size = (o + i * e.size + e.size) + 1 from by omega]
        exact this

theorem setArrAt_lt {nx : Nat} {d : D} : ∀ {l l' : List SV} {o i : Nat}, SV.ltL nx l → setArrAt l o i d = some l' → SV.ltL nx l' := by
  intro l
  induction l with
  | nil => intro l' o i _ h; simp [setArrAt] at h
  | cons x r ih =>
    intro l' o i hl h
    have key : (∃ e ds, x = .arrc e ds) ∨ setArrAt (x :: r) o i d = match o with | 0 => none | o + 1 => (setArrAt r o i d).map (x :: ·) := by
      cases x <;> first | exact .inl ⟨_, _, rfl⟩ | (cases o <;> exact .inr rfl)
    rcases key with ⟨e, ds, rfl⟩ | key
    · simp only [setArrAt] at h
      split at h
      · cases h; exact ⟨trivial, hl.2⟩
      · split at h
        · obtain ⟨q, h3, rfl⟩ := Option.map_eq_some_iff.1 h
          exact ⟨trivial, ih hl.2 h3⟩
        · cases h
    · rw [key] at h
      cases o with
      | zero => cases h
      | succ o =>
        obtain ⟨q, h3, rfl⟩ := Option.map_eq_some_iff.1 h
        exact ⟨hl.1, ih hl.2 h3⟩

theorem kept_setRow (w : World) (b : Nat) (cs : Array Value) : Kept w (fun k => some b = some k) (w.setRow b cs) :=
  ⟨rfl, rfl, rfl, by simp [World.setRow], fun k hk hn => by simp only [World.setRow, Array.getElem?_modify]; rw [if_neg (fun e => hn (by rw [e]))]⟩

theorem run_storeVar (tid : TypeId) {v : Value} (hs : (P.info? tid).map (·.size) = some v.cells.size) (h1 : ∀ u ∈ v.cells.toList, u.oneCell' = true) (b o : Nat) {cur : Array Value} {t : TypeId} {w : World} (hg : w.heap[b]? = some (.cells cur t (0, 0))) (ho : o + v.cells.size ≤ cur.size) :
    (Instr.storeAt tid (.pointer (some ⟨b, o, none⟩)) v).run P w = .ok () (w.setRow b (cur.toList.take o ++ v.cells.toList ++ cur.toList.drop (o + v.cells.size)).toArray) := by
  have := run_storeCells_at P b o t v.cells.toList 0 cur w hg (by simpa using ho) h1
  simp only [Nat.add_zero, Array.length_toList] at this
  simp [Instr.storeAt, Instr.sureAddr, storeVar, Sem.run_bind, run_sizeOf tid hs, this]
end
end Go.Fw
