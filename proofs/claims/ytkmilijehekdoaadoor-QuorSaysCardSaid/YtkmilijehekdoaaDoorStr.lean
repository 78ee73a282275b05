/- Strings: numbers as text; many as one. -/
import Derived.Test.YtkmilijehekdoaaDoorFin
import Derived.Test.YtkmilijehekdoaaDoorShelf
import Derived.Test.YtkmilijehekdoaaDoorAt
namespace Go.Proofs.YtkmilijehekdoaaDoor
set_option linter.unusedVariables false
set_option linter.unusedSimpArgs false
open Go Go.Fw Go.RowKit

def itoaS (n : Int) : ByteArray := ⟨(Lib.decDigits n.toNat).toArray⟩
theorem dec_len {u : Nat} (h : u < 100) : (Lib.decDigits u).length ≤ 2 := by
  rw [Lib.decDigits]
  split
  · simp
  · rw [List.length_append, Lib.decDigits]
    rw [dif_pos (by omega)]
    simp
theorem itoaS_size {n : Int} (h0 : 0 ≤ n) (h1 : n < 100) : (itoaS n).size ≤ 2 := by
  have := dec_len (u := n.toNat) (by omega)
  show (Lib.decDigits n.toNat).toArray.size ≤ 2
  simpa using this
def spItoa : FSpec := fun args h nx K => match args with
  | [.int .i64 n] => 0 ≤ n ∧ n < 100 ∧ K (.str (itoaS n)) h
  | _ => False
theorem vItoa {E : Nat → Value} (hE : Errs2 Tryd.prog (some 152) E) : Valid Tryd.prog E (gs []) 47 spItoa := by
  refine valid_raw (by kernel_rfl) (fun args h nx K c ρ H w vs hsp hnb s hden hlt => ?_)
  unfold spItoa at hsp
  split at hsp
  · rename_i n
    obtain ⟨h0, h1, hK⟩ := hsp
    cases hden with
    | cons a1 a2 =>
      cases a2
      cases a1
      have e : ((n.toNat : Nat) : Int) = n := by omega
      have := Tryd.strconv_Itoa_small n.toNat (by omega) w
      rw [e] at this
      refine this.mono ?_
      rintro e w' ⟨rfl, rfl⟩
      have hm : (2 : Nat) ≤ maxLen := by decide
      exact ⟨_, .str (itoaS n), _, ρ, H, nx, rfl, hK, .str (Nat.le_trans (itoaS_size h0 h1) hm), trivial, Nat.le_add_right _ _, s⟩
  · exact hsp.elim
def joinS (l : List D) (sep : ByteArray) : ByteArray := ⟨(Lib.join (l.map fun d => d.s.data.toList) sep.data.toList).toArray⟩
theorem strs_rep {P : Program} {E : Nat → Value} {H : FH} {d : D} {cs : List Value} (h : Rep P E H .str d cs) : cs = [.string d.s] := by
  cases h with | str h => rfl
def spJoin : FSpec := fun args h nx K => match args with
  | [.dat (.slice t) (.list l), .str sep] => t = 9 ∧ l.length ≤ 1000000 ∧ (joinS l sep).size ≤ 140737488355328 ∧ K (.str (joinS l sep)) h
  | _ => False
theorem tyStr : tyOf Tryd.prog 8 9 = .str := by kernel_rfl
theorem vJoin {E : Nat → Value} (hE : Errs2 Tryd.prog (some 152) E) : Valid Tryd.prog E (gs []) 57 spJoin := by
  refine valid_raw (by kernel_rfl) (fun args h nx K c ρ H w vs hsp hnb s hden hlt => ?_)
  unfold spJoin at hsp
  split at hsp
  · rename_i t l sep
    obtain ⟨rfl, hl, hj, hK⟩ := hsp
    have hm : (140737488355328 : Nat) ≤ maxLen := by decide
    have hsz : (Lib.join (l.map fun d => d.s.data.toList) sep.data.toList).length ≤ 140737488355328 := by
      have : (joinS l sep).size = (Lib.join (l.map fun d => d.s.data.toList) sep.data.toList).length := by
        show (Lib.join (l.map fun d => d.s.data.toList) sep.data.toList).toArray.size = _
        simp
      omega
    cases hden with
    | cons a1 a2 =>
      cases a2 with
      | cons a2 a3 =>
      cases a3
      cases a2
      cases a1 with
      | dat hs hr =>
      cases hr with
      | slice css hc hcap hn hz hmm hrr =>
        rename_i ad cap
        have out : ∀ w', Below w.heap.size w w' → ∃ v r h' ρ' H' nx', Ending.returned (.string (joinS l sep)) = .returned v ∧ K r h' ∧ Den Tryd.prog E ρ' H' r v ∧ r.lt (nx + 64) ∧ nx' ≤ nx + 64 ∧ Sat Tryd.prog E c ρ' H' { f := [], h := h', nx := nx' } { tmps := [Value.slice ad l.length cap, Value.string sep].toArray, defers := [] } w' := fun w' hb =>
          ⟨_, .str (joinS l sep), _, ρ, H, nx, rfl, hK, .str (Nat.le_trans hj hm), trivial, Nat.le_add_right _ _, s.grown ⟨hb.os, hb.tape, hb.output, hb.size, fun b hb2 _ => hb.block b hb2⟩⟩
        by_cases h0 : l = []
        · subst h0
          refine (Tryd.strings_Join_none ad cap sep w).mono ?_
          rintro e w' ⟨rfl, rfl⟩
          exact out w' (Below.refl _ _)
        · obtain ⟨aa, rfl, hsp⟩ := hn h0
          obtain ⟨bk, o, sp⟩ := aa
          simp only at hsp
          subst hsp
          have hcell : ∀ (j : Nat) x, (l.map D.s)[j]? = some x → w.cell? ⟨bk, o + j, none⟩ = some (.string x) := fun j x hx => by
            rw [List.getElem?_map] at hx
            cases hj2 : l[j]? with
            | none => rw [hj2] at hx; cases hx
            | some d =>
              rw [hj2] at hx
              cases hx
              obtain ⟨hjl, rfl⟩ := List.getElem?_eq_some_iff.1 hj2
              have hri := hrr j hjl
              rw [tyStr] at hri
              have e2 := strs_rep hri
              have := hmm j hjl _ rfl 0 (.string l[j].s) (by rw [e2]; rfl)
              rw [tyStr] at this
              exact s.hin _ _ _ (by simpa [Ty.size] using this)
          have hpos : 0 < l.length := List.length_pos_iff.2 h0
          have hbk : bk < w.heap.size := by
            have := hcell 0 l[0].s (by rw [List.getElem?_map, List.getElem?_eq_getElem hpos]; rfl)
            unfold World.cell? at this
            cases hg : w.heap[bk]? with
            | none => simp [hg] at this
            | some ob => exact (Array.getElem?_eq_some_iff.1 hg).1
          have := Tryd.strings_Join bk o cap (l.map D.s) sep w hcell hbk (by rw [List.length_map]; omega) (by rw [List.length_map]; exact hc) (by rw [List.map_map]; exact hsz)
          rw [List.length_map, List.map_map] at this
          refine this.mono ?_
          rintro e w' ⟨rfl, hb⟩
          exact out w' hb
  · exact hsp.elim
end Go.Proofs.YtkmilijehekdoaaDoor
