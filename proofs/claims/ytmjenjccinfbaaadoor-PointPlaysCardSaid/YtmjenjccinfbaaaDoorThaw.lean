/- A call that only looks: what the caller owns lies as it lay, though the function knows it as memory that no longer changes. -/
import Derived.Test.YtmjenjccinfbaaaDoorFwY
namespace Go.Fw
set_option linter.unusedVariables false
set_option linter.unusedSimpArgs false
open Go

/-- Values that speak of no memory. -/
def gnd1 : SV → Bool
  | .int _ _ | .bool _ | .str _ | .nils | .raw _ | .any => true
  | .dat .iface .nil => true
  | .dat .iface (.err _) => true
  | _ => false
def gnd : SV → Bool
  | .tup l => l.all gnd1
  | x => gnd1 x
section
variable {P : Program} {E : Nat → Value}
theorem gnd1_den {ρ ρ' : Nat → Value} {H H' : FH} {x : SV} {v : Value} (hg : gnd1 x = true) (h : Den P E ρ H x v) : Den P E ρ' H' x v := by
  unfold gnd1 at hg
  split at hg
  · cases h with | int h => exact .int h
  · cases h with | bool => exact .bool
  · cases h with | str h => exact .str h
  · cases h with | nils => exact .nils
  · cases h with | raw h => exact .raw h
  · exact .any
  · cases h with | dat h1 h2 => cases h2 with | inil => exact .dat rfl .inil
  · cases h with | dat h1 h2 => cases h2 with | err => exact .dat rfl .err
  · cases hg
theorem gnd1_lt {x : SV} (hg : gnd1 x = true) (n : Nat) : x.lt n := by
  unfold gnd1 at hg
  split at hg <;> first | exact trivial | cases hg
theorem gndL_den {ρ ρ' : Nat → Value} {H H' : FH} : ∀ {l : List SV} {vs : List Value}, l.all gnd1 = true → DenV P E ρ H l vs → DenV P E ρ' H' l vs
  | _, _, _, .nil => .nil
  | _ :: _, _ :: _, hg, .cons h1 h2 => by
    simp only [List.all_cons, Bool.and_eq_true] at hg
    exact .cons (gnd1_den hg.1 h1) (gndL_den hg.2 h2)
theorem gndL_lt {n : Nat} : ∀ {l : List SV}, l.all gnd1 = true → SV.ltL n l
  | [], _ => trivial
  | _ :: _, hg => by
    simp only [List.all_cons, Bool.and_eq_true] at hg
    exact ⟨gnd1_lt hg.1 n, gndL_lt hg.2⟩
theorem gnd_den {ρ ρ' : Nat → Value} {H H' : FH} {x : SV} {v : Value} (hg : gnd x = true) (h : Den P E ρ H x v) : Den P E ρ' H' x v := by
  unfold gnd at hg
  split at hg
  · cases h with | tup h => exact .tup (gndL_den hg h)
  · exact gnd1_den hg h
theorem gnd_lt {x : SV} (hg : gnd x = true) (n : Nat) : x.lt n := by
  unfold gnd at hg
  split at hg
  · exact gndL_lt hg
  · exact gnd1_lt hg n

/-- What a function owns is told as memory that no longer changes, one by one. -/
inductive FrzTo (P : Program) : SSt → SSt → Prop
  | refl (S : SSt) : FrzTo P S S
  | vec {S S' : SSt} (n : Nat) (h : FrzTo P (frz1 n S) S') : FrzTo P S S'
  | box {S S' : SSt} (eid : TypeId) (t : Ty) (ht : tyOf P 8 eid = t) (v : SV) (h : FrzTo P (preP (.ptr eid) t v S) S') : FrzTo P S S'
theorem FrzTo.sat {c : Ctx} {S S' : SSt} (h : FrzTo P S S') {a : Act} {w : World} : ∀ {ρ : Nat → Value} {H : FH}, Sat P E c ρ H S a w → ∃ H', Sat P E c ρ H' S' a w := by
  induction h with
  | refl S => exact fun s => ⟨_, s⟩
  | vec n h ih => exact fun s => by obtain ⟨H', _, s'⟩ := s.frz1 n; exact ih s'
  | box eid t ht v h ih => exact fun s => by subst ht; obtain ⟨H', s'⟩ := s.preP eid v; exact ih s'

/-- What is known of a call with memory that no longer changes serves a caller that goes on with it. -/
theorem valid_thaw {G : Nat → Bool} {f : FuncId} {sp sp' : FSpec} (hv : Valid P E G f sp)
    (hr : ∀ (args : List SV) (h : Heap) (nx : Nat) (K : SV → Heap → Prop), sp' args h nx K → ∃ S', FrzTo P { f := frOf 0 args, h := h, nx := nx } S' ∧ sp (ogets (slotsOf 0 args) S'.f) [] S'.nx (fun r _ => gnd r = true ∧ K r h)) : Valid P E G f sp' := by
  intro args h0 o nx K ρ H w vs hsp hhs hden hlt hnm hsep hin hgl herr
  obtain ⟨S', hz, hs'⟩ := hr args h0 nx K hsp
  let c : Ctx := { w0 := w, own := fun b => ∃ n t, hget (h0 ++ o) n = some t ∧ blk (ρ n) = some b, N := vs.length, o := o, nb := nx, G := G, ρ0 := ρ, H0 := H }
  have hvl := denV_len hden
  have s : Sat P E c ρ H { f := frOf 0 args, h := h0, nx := nx } { tmps := vs.toArray, defers := [] } w := by
    refine ⟨fun i => ?_, by simp [c], ⟨rfl, fun D hD => (by cases hD), fun x hx => (by cases hx), .nil⟩, hhs, hin, Kept.refl w _, fun n t b hn hb => .inl ⟨n, t, hn, hb⟩, fun i => frOf_lt hlt, hnm, ?_, Nat.le_refl _, hsep, hgl, fun _ _ => rfl, FH.le_refl H⟩
    · have := frOf_den (k := 0) (i := i) hden (Nat.zero_le _)
      simpa [Array.getD_eq_getD_getElem?, List.getD_eq_getElem?_getD] using this
    · intro n t hn
      refine hnm n t ?_
      rw [hget_append]
      cases h1 : hget h0 n with
      | none => exact hn
      | some u => have := hsep n u h1; rw [hn] at this; cases this
  have hC : ErrC E c := by
    intro g ad T hg he
    obtain ⟨⟨o', v, hv⟩, h2⟩ := herr g ad T hg he
    refine ⟨?_, ⟨o', v, hv⟩, h2⟩
    rintro ⟨n, t, hn, hb⟩
    have ht := hhs.tok n t hn
    have := (tokSat_new ht _ hb).2 o'
    rw [hv] at this; cases this
  obtain ⟨H', s'⟩ := hz.sat s
  have hd' := slotsOf_den (P := P) (E := E) (ρ := ρ) (H := H') (f := S'.f) (args := args) (vs := vs) (i := 0) hvl.symm (fun j => by
    have := s'.fr j
    simpa [Array.getD_eq_getD_getElem?, List.getD_eq_getElem?_getD] using this)
  have hl' := slotsOf_lt s'.flt (args := args) (i := 0)
  obtain ⟨hok, hc⟩ := hv _ [] [] S'.nx _ ρ H' w vs hs' ⟨fun n t h => (by cases h), fun n m t u b h => (by cases h)⟩ hd' hl' (fun n t h => (by cases h)) (fun n t h => (by cases h)) s'.hin s'.glob (hC.now s')
  refine ⟨hok, hc.mono ?_⟩
  rintro e w' ⟨v, r, h', ρ', H'', rfl, ⟨hg, hk⟩, hρ, hle', hden', hhs', hin', hkept, hown, hr', hlt', hsep'⟩
  have hb : ∀ b, b < w.heap.size → w'.heap[b]? = w.heap[b]? := fun b hb => hkept.block b hb (fun ⟨n, t, h, _⟩ => by cases h)
  have htok : ∀ n t, hget (h0 ++ o) n = some t → TokSat P E ρ H w' n t := fun n t hn =>
    tokSat_keep (hhs.tok n t hn) (hnm n t hn).1 (hnm n t hn).2 (fun _ _ => rfl) (FH.le_refl H) (fun b hb' => hb b (tokSat_new (hhs.tok n t hn) b hb').1) (fun b hb' => (tokSat_new (hhs.tok n t hn) b hb').2)
  exact ⟨v, r, h0, ρ, H, rfl, hk, fun _ _ => rfl, FH.le_refl H, gnd_den hg hden', ⟨htok, hhs.dis⟩, hin.keep (fun b h1 _ => hb b h1), ⟨hkept.os, hkept.tape, hkept.output, hkept.size, fun b h1 _ => hb b h1⟩,
    fun n t b h1 h2 => .inl ⟨n, t, h1, h2⟩, gnd_lt hg _, fun n t h => ⟨Nat.lt_of_lt_of_le (hnm n t h).1 (Nat.le_add_right _ 64), Tok.lt_mono (Nat.le_add_right _ 64) (hnm n t h).2⟩, hsep⟩
end
end Go.Fw
