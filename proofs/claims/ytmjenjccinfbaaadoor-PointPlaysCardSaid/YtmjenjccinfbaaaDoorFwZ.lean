import Derived.Test.YtmjenjccinfbaaaDoorFwY
import Derived.ChangeArms
import Derived.RowKit
import Derived.OpenShut
import Derived.ShutString
import Derived.ChangeOld
/- The frame-work, part Z: a row's arguments as data. -/
namespace Go.Fw
set_option linter.unusedVariables false
set_option linter.unusedSimpArgs false
open Go

/-- All that is there. -/
def Hof (w : World) : FH := fun b o => if b < w.heap.size then w.cell? ⟨b, o, none⟩ else none
theorem Hof.fhin (w : World) : FHin (Hof w) w := by
  intro b o v h
  unfold Hof at h
  split at h
  · exact h
  · cases h
theorem cell_lt {w : World} {a : Addr} {v : Value} (h : w.cell? a = some v) : a.block < w.heap.size := by
  unfold World.cell? at h
  cases e : w.heap[a.block]? with
  | none => rw [e] at h; cases h
  | some o => exact (Array.getElem?_eq_some_iff.1 e).1
theorem Hof.of {w : World} {b o : Nat} {v : Value} (h : w.cell? ⟨b, o, none⟩ = some v) : Hof w b o = some v := by
  unfold Hof
  rw [if_pos (cell_lt h)]; exact h

/-- A struct's fields lie one behind the other. -/
def contig (P : Program) : Nat → List Field → Bool
  | _, [] => true
  | o, f :: r => f.offset == o && contig P (o + P.cellsOf f.type) r
def cellsL (P : Program) : List Field → Nat
  | [] => 0
  | f :: r => P.cellsOf f.type + cellsL P r
/-- A type that we can read. -/
def goodT (P : Program) (S : List TypeId) : Nat → TypeId → Bool
  | 0, _ => false
  | n + 1, t => match P.underlying t with
    | some (.int _) | some .bool | some .string => true
    | some (.slice e) => S.contains e
    | some (.pointer e) => S.contains e
    | some (.struct fs) => contig P 0 fs.toList && cellsL P fs.toList == P.cellsOf t && fs.toList.all fun f => goodT P S n f.type
    | _ => false
def goodS (P : Program) (S : List TypeId) : Bool := S.all fun e => goodT P S 8 e && (tyOf P 8 e).size == P.cellsOf e && decide (0 < P.cellsOf e)

section
variable {P : Program} {E : Nat → Value} {H : Type} {enc : TypeId × Value → H} {w : World} {spare : Nat → Bool} {held : Bool}

theorem goodS.spec {S : List TypeId} (h : goodS P S = true) {e : TypeId} (he : S.contains e = true) : goodT P S 8 e = true ∧ (tyOf P 8 e).size = P.cellsOf e ∧ 0 < P.cellsOf e := by
  have := List.all_eq_true.1 h e (by simpa using he)
  simp only [Bool.and_eq_true, beq_iff_eq, decide_eq_true_eq] at this
  exact ⟨this.1.1, this.1.2, this.2⟩

theorem cells_hof {a : Addr} {n : Nat} {cs : List Value} (hn : 0 < n) (h : w.cells? 0 a n = some cs) : a.spot = none ∧ cs.length = n ∧ ∀ j v, cs[j]? = some v → Hof w a.block (a.off + j) = some v := by
  obtain ⟨_, hl, hc⟩ := World.cells?_some h
  obtain ⟨b, o, spot⟩ := a
  have h0 := hc 0 hn
  rw [List.getElem?_eq_getElem (by omega)] at h0
  have hspot : spot = none := by simpa [Addr.add] using World.cell?_spot h0
  subst hspot
  refine ⟨rfl, hl, fun j v hv => ?_⟩
  have hj : j < n := by
    have := (List.getElem?_eq_some_iff.1 hv).1; omega
  have := hc j hj
  rw [hv] at this
  refine Hof.of ?_
  by_cases e : j = 0
  · subst e; simpa [Addr.add] using this
  · simpa [Addr.add, e] using this

theorem fieldsL {n : Nat} {cs : List Value} : ∀ (fs : List Field) (o : Nat), contig P o fs = true → o + cellsL P fs = cs.length →
    (∀ f ∈ fs, ∃ d, Rep P E (Hof w) (tyOf P n f.type) d ((cs.drop f.offset).take (P.cellsOf f.type))) → ∃ ds, RepL P E (Hof w) (fs.map fun f => tyOf P n f.type) ds (cs.drop o)
  | [], o, _, hl, _ => ⟨[], by simp only [cellsL] at hl; rw [List.drop_eq_nil_of_le (by omega)]; exact .nil⟩
  | f :: r, o, hc, hl, hf => by
    simp only [contig, Bool.and_eq_true, beq_iff_eq] at hc
    simp only [cellsL] at hl
    obtain ⟨d, hd⟩ := hf f (by simp)
    obtain ⟨ds, hds⟩ := fieldsL r (o + P.cellsOf f.type) hc.2 (by omega) (fun g hg => hf g (by simp [hg]))
    rw [hc.1] at hd
    refine ⟨d :: ds, ?_⟩
    have := RepL.cons hd hds
    rw [← List.drop_drop, List.take_append_drop] at this
    exact this

theorem rep_of_trod {S : List TypeId} (hS : goodS P S = true) : ∀ (fuel n : Nat) (t : TypeId) (cs : List Value) (x : DataW H × List MemPlace), DataW.trod enc P w 0 spare held fuel t cs = some x → goodT P S n t = true → ∃ d, Rep P E (Hof w) (tyOf P n t) d cs := by
  intro fuel
  induction fuel with
  | zero => intro n t cs x h; simp [DataW.trod] at h
  | succ fuel ih =>
    intro n t cs x h hg
    cases n with
    | zero => simp [goodT] at hg
    | succ n =>
      simp only [goodT] at hg
      simp only [tyOf]
      split at hg
      · rename_i k hu
        simp only [hu]
        unfold DataW.trod at h
        rw [hu] at h
        split at h <;> simp_all
        rename_i k' m
        obtain ⟨⟨rfl, hw⟩, _⟩ := h
        simp only [Lit.wf, Bool.and_eq_true, decide_eq_true_eq] at hw
        exact ⟨.int _, .int hw⟩
      · rename_i hu
        simp only [hu]
        unfold DataW.trod at h
        rw [hu] at h
        split at h <;> simp_all
        exact ⟨.bool _, .bool⟩
      · rename_i hu
        simp only [hu]
        unfold DataW.trod at h
        rw [hu] at h
        split at h <;> simp_all
        exact ⟨.str _, .str h.1⟩
      · rename_i e hu
        simp only [hu]
        obtain ⟨g1, g2, g3⟩ := goodS.spec hS hg
        rcases DataW.trod_slice hu h with ⟨rfl, _⟩ | ⟨a, len, cap, elems, rest, m, hm, rfl, rfl, hb, hl, hmx, hlen, hel, _, _⟩
        · exact ⟨.list [], .slice (l := []) (fun _ => []) (Nat.le_refl _) (Nat.zero_le _) (fun h => absurd rfl h) (fun _ => rfl) (fun i hi => by simp at hi) (fun i hi => by simp at hi)⟩
        · cases hm
          have key : ∀ i, ∃ (d : D) (csi : List Value), i < len → w.cells? 0 (a.add (i * P.cellsOf e)) (P.cellsOf e) = some csi ∧ Rep P E (Hof w) (tyOf P 8 e) d csi := by
            intro i
            by_cases hi : i < len
            · have h1 := hel i hi
              rw [List.getElem?_eq_getElem (by omega)] at h1
              obtain ⟨csi, h2, h3⟩ := Option.bind_eq_some_iff.1 h1
              obtain ⟨d, hd⟩ := ih 8 e csi _ h3 g1
              exact ⟨d, csi, fun _ => ⟨h2, hd⟩⟩
            · exact ⟨.nil, [], fun h => absurd h hi⟩
          let dd := fun i => Classical.choose (key i)
          let cc := fun i => Classical.choose (Classical.choose_spec (key i))
          have hk : ∀ i, i < len → w.cells? 0 (a.add (i * P.cellsOf e)) (P.cellsOf e) = some (cc i) ∧ Rep P E (Hof w) (tyOf P 8 e) (dd i) (cc i) := fun i hi => Classical.choose_spec (Classical.choose_spec (key i)) hi
          have hsp : 0 < len → a.spot = none := fun h0 => by
            have := (cells_hof g3 (hk 0 h0).1).1
            simpa [Addr.add] using this
          have hll : ((List.range len).map dd).length = len := by simp
          refine ⟨.list ((List.range len).map dd), ?_⟩
          have := Rep.slice (P := P) (E := E) (H := Hof w) (e := e) (l := (List.range len).map dd) (a := some a) (cap := cap) cc (by rw [hll]; exact hl) hmx (fun hne => ⟨a, rfl, hsp (by
              cases len with
              | zero => simp at hne
              | succ n => omega)⟩) (fun h => by cases h) (fun i hi ad ha j v hv => ?_) (fun i hi => ?_)
          · rw [hll] at this; exact this
          · cases ha
            rw [hll] at hi
            have h1 := (cells_hof g3 (hk i hi).1).2.2 j v hv
            have hsp' := hsp (by omega)
            rw [g2]
            unfold Addr.add at h1
            split at h1
            · rename_i e0; rw [e0]; simpa using h1
            · exact h1
          · rw [hll] at hi
            have := (hk i hi).2
            simpa using this
      · rename_i e hu
        simp only [hu]
        obtain ⟨g1, g2, g3⟩ := goodS.spec hS hg
        rcases DataW.trod_pointer hu h with ⟨rfl, _⟩ | ⟨a, cs', y, m, hm, rfl, rfl, hcells, hy⟩
        · exact ⟨.nil, .pnil⟩
        · cases hm
          obtain ⟨d, hd⟩ := ih 8 e cs' _ hy g1
          obtain ⟨h1, h2, h3⟩ := cells_hof g3 hcells
          exact ⟨.ptr d, .ptr h1 h3 hd⟩
      · rename_i fs hu
        simp only [hu]
        simp only [Bool.and_eq_true, beq_iff_eq] at hg
        obtain ⟨⟨hc, hz⟩, hall⟩ := hg
        obtain ⟨xs, m, hm, rfl, hlen, hxl, hf⟩ := DataW.trod_struct hu h
        cases hm
        obtain ⟨ds, hds⟩ := fieldsL (P := P) (E := E) (w := w) (n := n) (cs := cs) fs.toList 0 hc (by omega) (fun f hfm => by
          obtain ⟨i, hi, rfl⟩ := List.getElem_of_mem hfm
          have hi' : fs[i]? = some fs.toList[i] := by simp [Array.getElem?_eq_getElem (show i < fs.size by simpa using hi)]
          have h1 := hf i _ hi'
          rw [List.getElem?_eq_getElem (by rw [hxl]; simpa using hi)] at h1
          exact ih n _ _ _ h1 (List.all_eq_true.1 hall _ hfm))
        exact ⟨.node ds, .strct (by simpa using hds)⟩
      · cases hg

/-- An argument of one cell, as we write it. -/
def argOf (t : Ty) (x : SV) : Prop := match t with
  | .int k => ∃ n, x = .int k n
  | .bool => ∃ b, x = .bool b
  | .str => ∃ s, x = .str s
  | .slice e => ∃ d, x = .dat (.slice e) d
  | .ptr e => ∃ d, x = .dat (.ptr e) d
  | _ => False
def argsOf : List Ty → List SV → Prop
  | [], [] => True
  | t :: ts, x :: xs => argOf t x ∧ argsOf ts xs
  | _, _ => False
/-- Parameters' types that we can read: of one cell each. -/
def goodP (P : Program) (S : List TypeId) (t : TypeId) : Bool := goodT P S 8 t && match P.underlying t with
  | some (.int _) | some .bool | some .string | some (.slice _) | some (.pointer _) => true
  | _ => false

theorem arg_of_trod {S : List TypeId} (hS : goodS P S = true) {t : TypeId} (ht : goodP P S t = true) {r : Reach} {base : Nat} {v : Value} (hv : Value.okWide P w r base t v) {d : DataW H} {ps : List MemPlace} (h : DataW.Trod enc P w 0 spare held t v d ps) (ρ : Nat → Value) :
    ∃ x, argOf (tyOf P 8 t) x ∧ Den P E ρ (Hof w) x v := by
  simp only [goodP, Bool.and_eq_true] at ht
  obtain ⟨fuel, hf⟩ := h
  obtain ⟨d', hd⟩ := rep_of_trod (E := E) hS fuel 8 t _ _ hf ht.1
  have h2 := ht.2
  split at h2
  · rename_i k hu
    have ety : tyOf P 8 t = .int k := by unfold tyOf; simp only [hu]
    obtain ⟨n, rfl⟩ := WideShapes.okWide_int hu hv
    rw [ety] at hd ⊢
    have e : (Value.int k n).cells.toList = [.int k n] := by simp [Value.cells]
    rw [e] at hd
    cases hd with | int hb => exact ⟨.int k n, ⟨n, rfl⟩, .int hb⟩
  · rename_i hu
    have ety : tyOf P 8 t = .bool := by unfold tyOf; simp only [hu]
    obtain ⟨b, rfl⟩ := WideShapes.okWide_bool hu hv
    rw [ety]
    exact ⟨.bool b, ⟨b, rfl⟩, .bool⟩
  · rename_i hu
    have ety : tyOf P 8 t = .str := by unfold tyOf; simp only [hu]
    obtain ⟨s, rfl⟩ := WideShapes.okWide_string hu hv
    rw [ety] at hd ⊢
    have e : (Value.string s).cells.toList = [.string s] := by simp [Value.cells]
    rw [e] at hd
    cases hd with | str hb => exact ⟨.str s, ⟨s, rfl⟩, .str hb⟩
  · rename_i e0 hu
    have ety : tyOf P 8 t = .slice e0 := by unfold tyOf; simp only [hu]
    obtain ⟨a, len, cap, rfl⟩ := WideShapes.okWide_slice hu hv
    rw [ety] at hd ⊢
    have e : (Value.slice a len cap).cells.toList = [.slice a len cap] := by simp [Value.cells]
    rw [e] at hd
    exact ⟨.dat (.slice e0) d', ⟨d', rfl⟩, .dat rfl hd⟩
  · rename_i e0 hu
    have ety : tyOf P 8 t = .ptr e0 := by unfold tyOf; simp only [hu]
    obtain ⟨a, rfl⟩ := WideShapes.okWide_pointer hu hv
    rw [ety] at hd ⊢
    have e : (Value.pointer a).cells.toList = [.pointer a] := by simp [Value.cells]
    rw [e] at hd
    exact ⟨.dat (.ptr e0) d', ⟨d', rfl⟩, .dat rfl hd⟩
  · cases h2

/-- From a specification to a call from outside: of a law that is told of nothing but its arguments. -/
theorem calls_of_valid {G : Nat → Bool} {f : FuncId} {sp : FSpec} (hv : Valid P E G f sp) (hG : ∀ g, G g = true → Hof w g 0 = some (E g)) (hW : ErrW E G (Hof w) w) {args : List SV} {vs : List Value} {ρ : Nat → Value} (hd : DenV P E ρ (Hof w) args vs) (hl : SV.ltL 0 args)
    (hsp : sp args [] 0 (fun r h' => r = .bool true ∧ h' = [])) : Calls P f vs.toArray w fun e w' => e = .returned (.bool true) ∧ RowKit.Below w.heap.size w w' := by
  have hn : ∀ (n : Nat) (t : Tok), hget ([] ++ [] : Heap) n = some t → False := fun n t h => by cases h
  refine (hv args [] [] 0 _ ρ (Hof w) w vs hsp ⟨fun n t h => (hn n t h).elim, fun n m t u b h => (hn n t h).elim⟩ hd hl (fun n t h => (hn n t h).elim) (fun n t h => (hn n t h).elim) (Hof.fhin w) hG hW).2.mono ?_
  rintro e w' ⟨v, r, h', ρ', H', rfl, ⟨rfl, rfl⟩, _, _, hden, _, _, hk, _⟩
  cases hden
  refine ⟨rfl, hk.os, hk.tape, hk.output, hk.size, fun b hb => hk.block b hb ?_⟩
  rintro ⟨n, t, h, _⟩
  exact hn n t h
end
end Go.Fw
