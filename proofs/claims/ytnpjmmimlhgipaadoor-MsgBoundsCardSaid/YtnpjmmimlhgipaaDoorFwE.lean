/- The frame-work, part E: data taken apart into cells, and put together out of them. -/
import Derived.Test.YtnpjmmimlhgipaaDoorFwD
namespace Go.Fw
set_option linter.unusedVariables false
set_option linter.unusedSimpArgs false
open Go

section
variable {P : Program} {E : Nat → Value} {ρ : Nat → Value} {H : FH}

mutual
theorem rep_len : ∀ {t : Ty} {d cs}, Rep P E H t d cs → cs.length = t.size
  | _, _, _, .int _ => rfl
  | _, _, _, .bool => rfl
  | _, _, _, .str _ => rfl
  | _, _, _, .slice .. => rfl
  | _, _, _, .strct h => by simp only [Ty.size]; exact repL_len h
  | .arr n e, _, _, .arr hn h => by
    have := repL_len h
    rw [this]
    simp only [Ty.size]
    clear this h hn
    induction n with
    | zero => simp [Ty.sizeL]
    | succ n ih => rw [List.replicate_succ]; simp only [Ty.sizeL]; rw [ih, Nat.succ_mul, Nat.add_comm]
  | _, _, _, .pnil => rfl
  | _, _, _, .ptr .. => rfl
  | _, _, _, .inil => rfl
  | _, _, _, .err => rfl
  | _, _, _, .ifc _ => rfl
theorem repL_len : ∀ {ts : List Ty} {ds cs}, RepL P E H ts ds cs → cs.length = Ty.sizeL ts
  | _, _, _, .nil => rfl
  | _, _, _, .cons h h' => by rw [List.length_append, rep_len h, repL_len h']; rfl
end

theorem sizeL_replicate (n : Nat) (e : Ty) : Ty.sizeL (List.replicate n e) = n * e.size := by
  induction n with
  | zero => simp [Ty.sizeL]
  | succ n ih => rw [List.replicate_succ]; simp only [Ty.sizeL]; rw [ih, Nat.succ_mul, Nat.add_comm]

theorem repL_get {e : Ty} : ∀ {l : List D} {xs : List Value}, RepL P E H (List.replicate l.length e) l xs → ∀ i (hi : i < l.length), Rep P E H e l[i] ((xs.drop (i * e.size)).take e.size)
  | d :: l, _, h, i, hi => by
    rw [List.length_cons, List.replicate_succ] at h
    cases h with
    | cons h h' =>
      have hl := rep_len h
      cases i with
      | zero => simp only [Nat.zero_mul, List.drop_zero, List.getElem_cons_zero]; rw [List.take_append_of_le_length (by omega), List.take_of_length_le (by omega)]; exact h
      | succ i =>
        rw [List.getElem_cons_succ]
        have := repL_get h' i (by simpa using hi)
        rw [Nat.succ_mul, Nat.add_comm, List.drop_append, ← hl]
        rw [← hl] at this
        rename_i cs1 cs2
        rw [show List.drop (cs1.length + i * cs1.length) cs1 = [] from by rw [List.drop_eq_nil_iff]; omega]
        simpa using this

theorem repL_append {ts us : List Ty} {l m : List D} {xs ys : List Value} (h : RepL P E H ts l xs) (h' : RepL P E H us m ys) : RepL P E H (ts ++ us) (l ++ m) (xs ++ ys) := by
  induction ts generalizing l xs with
  | nil => cases h; exact h'
  | cons t ts ih =>
    cases h with
    | cons h1 h2 => rw [List.cons_append, List.cons_append, List.append_assoc]; exact .cons h1 (ih h2)

theorem repL_replicate {e : Ty} {l m : List D} {xs ys : List Value} (h : RepL P E H (List.replicate l.length e) l xs) (h' : RepL P E H (List.replicate m.length e) m ys) : RepL P E H (List.replicate (l ++ m).length e) (l ++ m) (xs ++ ys) := by
  have := repL_append h h'
  rw [List.replicate_append_replicate] at this
  rwa [List.length_append]

theorem repL_take {e : Ty} {l : List D} {xs : List Value} (n : Nat) (hn : n ≤ l.length) (h : RepL P E H (List.replicate l.length e) l xs) : RepL P E H (List.replicate n e) (l.take n) (xs.take (n * e.size)) := by
  induction l generalizing n xs with
  | nil => simp at hn; subst hn; simp; exact .nil
  | cons d l ih =>
    rw [List.length_cons, List.replicate_succ] at h
    cases h with
    | cons h1 h2 =>
      have hl := rep_len h1
      cases n with
      | zero => simp; exact .nil
      | succ n =>
        rw [List.take_succ_cons, List.replicate_succ, Nat.succ_mul, Nat.add_comm, List.take_append, ← hl]
        simp only [Nat.add_sub_cancel_left, List.take_of_length_le (Nat.le_add_right _ _)]
        refine .cons h1 ?_
        have := ih n (by simpa using hn) h2
        rwa [← hl] at this

theorem repL_set {e : Ty} {l : List D} {xs : List Value} (i : Nat) (hi : i < l.length) {d : D} {cs : List Value} (h : RepL P E H (List.replicate l.length e) l xs) (hd : Rep P E H e d cs) :
    RepL P E H (List.replicate l.length e) (l.set i d) (xs.take (i * e.size) ++ cs ++ xs.drop (i * e.size + e.size)) := by
  induction l generalizing i xs with
  | nil => simp at hi
  | cons x l ih =>
    rw [List.length_cons, List.replicate_succ] at h ⊢
    cases h with
    | cons h1 h2 =>
      have hl := rep_len h1
      cases i with
      | zero =>
        simp only [Nat.zero_mul, List.take_zero, List.nil_append, Nat.zero_add, List.set_cons_zero]
        rw [← hl, List.drop_left]
        exact .cons hd h2
      | succ i =>
        have := ih i (by simpa using hi) h2
        rw [List.set_cons_succ, Nat.succ_mul, Nat.add_comm (i * e.size) e.size, List.take_append, List.drop_append, ← hl]
        simp only [Nat.add_sub_cancel_left, List.take_of_length_le (Nat.le_add_right _ _)]
        rw [← hl] at this
        have e2 : ∀ (a b : List Value) (k m : Nat), k = a.length → a.drop (k + m) = [] := fun a b k m h => by rw [List.drop_eq_nil_iff]; omega
        rename_i cs1 cs2
        rw [show List.drop (cs1.length + i * cs1.length + cs1.length) cs1 = [] from by rw [List.drop_eq_nil_iff]; omega]
        rw [show cs1.length + i * cs1.length + cs1.length - cs1.length = i * cs1.length + cs1.length from by omega]
        simp only [List.nil_append, List.append_assoc] at this ⊢
        exact .cons h1 this

/-! ### A datum's cells -/
mutual
def explode : Ty → D → List SV
  | .int k, d => [.int k d.i]
  | .bool, d => [.bool d.b]
  | .str, d => [.str d.s]
  | .strct ts, d => explodeL ts d 0
  | .arr _ e, d => [.arrc e d.l]
  | .slice e, d => [.dat (.slice e) d]
  | .ptr e, d => [.dat (.ptr e) d]
  | .iface, d => [.dat .iface d]
  | .fn, d => [.dat .fn d]
  | .map k v, d => [.dat (.map k v) d]
  | .other, d => [.dat .other d]
def explodeL : List Ty → D → Nat → List SV
  | [], _, _ => []
  | t :: ts, d, k => explode t (d.fld k) ++ explodeL ts d (k + 1)
end

theorem denC_append {l m : List SV} {cs cs' : List Value} (h : DenC P E ρ H l cs) (h' : DenC P E ρ H m cs') : DenC P E ρ H (l ++ m) (cs ++ cs') := by
  induction l generalizing cs with
  | nil => cases h; exact h'
  | cons x l ih =>
    cases h with
    | one h h1 h2 => exact .one h h1 (ih h2)
    | arrc h h2 => rw [List.cons_append, List.append_assoc]; exact .arrc h (ih h2)

mutual
theorem rep_explode (hE : ∀ k, (E k).oneCell' = true) : ∀ {t : Ty} {d cs}, Rep P E H t d cs → DenC P E ρ H (explode t d) cs
  | _, _, _, .int h => by simp only [explode]; exact .one (.int h) rfl .nil
  | _, _, _, .bool => by simp only [explode]; exact .one .bool rfl .nil
  | _, _, _, .str h => by simp only [explode]; exact .one (.str h) rfl .nil
  | _, _, _, .slice a b c d z e f => by simp only [explode]; exact .one (.dat rfl (.slice a b c d z e f)) rfl .nil
  | _, _, _, .strct h => by simp only [explode]; exact repL_explode hE h 0 _ (fun k => by simp [D.fld, D.fs])
  | _, _, _, .arr hn h => by subst hn; simp only [explode, D.l]; have := DenC.arrc (ρ := ρ) h .nil; rwa [List.append_nil] at this
  | _, _, _, .pnil => by simp only [explode]; exact .one (.dat rfl .pnil) rfl .nil
  | _, _, _, .ptr a b c => by simp only [explode]; exact .one (.dat rfl (.ptr a b c)) rfl .nil
  | _, _, _, .inil => by simp only [explode]; exact .one (.dat rfl .inil) rfl .nil
  | _, _, _, .err => by simp only [explode]; exact .one (.dat rfl .err) (hE _) .nil
  | _, _, _, .ifc h => by simp only [explode]; exact .one (.dat rfl (.ifc h)) rfl .nil
theorem repL_explode (hE : ∀ k, (E k).oneCell' = true) : ∀ {ts : List Ty} {ds cs}, RepL P E H ts ds cs → ∀ (k : Nat) (d : D), (∀ j, d.fld (k + j) = ds.getD j .nil) → DenC P E ρ H (explodeL ts d k) cs
  | _, _, _, .nil, _, _, _ => by simp only [explodeL]; exact .nil
  | _, _, _, .cons h h', k, d, hd => by
    simp only [explodeL]
    have h0 := hd 0
    simp only [Nat.add_zero, List.getD_cons_zero] at h0
    rw [h0]
    exact denC_append (rep_explode hE h) (repL_explode hE h' (k + 1) d (fun j => by have := hd (j + 1); simpa [Nat.add_assoc, Nat.add_comm 1 j] using this))
end

/-- What one cell of a type is as data. -/
def toD1 : Ty → SV → Option D
  | .int k, .int k' n => if k = k' then some (.int n) else none
  | .bool, .bool b => some (.bool b)
  | .str, .str s => some (.str s)
  | .slice e, .dat (.slice e') d => if e = e' then some d else none
  | .slice _, .nils => some (.list [])
  | .ptr e, .dat (.ptr e') d => if e = e' then some d else none
  | .iface, .dat .iface d => some d
  | .arr n e, .arrc (.int k) ds => match e with | .int k' => if k = k' ∧ ds.length = n then some (.list ds) else none | _ => none
  | _, _ => none
mutual
/-- Cells of a type put together, and what is left. -/
def toD : Ty → List SV → Option (D × List SV)
  | .strct ts, l => match toDL ts l with | some (ds, r) => some (.node ds, r) | none => none
  | .int k, x :: r => match toD1 (.int k) x with | some d => some (d, r) | none => none
  | .bool, x :: r => match toD1 .bool x with | some d => some (d, r) | none => none
  | .str, x :: r => match toD1 .str x with | some d => some (d, r) | none => none
  | .slice e, x :: r => match toD1 (.slice e) x with | some d => some (d, r) | none => none
  | .ptr e, x :: r => match toD1 (.ptr e) x with | some d => some (d, r) | none => none
  | .iface, x :: r => match toD1 .iface x with | some d => some (d, r) | none => none
  | .arr n e, x :: r => match toD1 (.arr n e) x with | some d => some (d, r) | none => none
  | _, _ => none
def toDL : List Ty → List SV → Option (List D × List SV)
  | [], l => some ([], l)
  | t :: ts, l => match toD t l with
    | some (d, r) => match toDL ts r with
      | some (ds, r') => some (d :: ds, r')
      | none => none
    | none => none
end

theorem toD1_rep {t : Ty} {x : SV} {d : D} (h : toD1 t x = some d) {r : List SV} {cs : List Value} (hd : DenC P E ρ H (x :: r) cs) : ∃ c1 c2, cs = c1 ++ c2 ∧ Rep P E H t d c1 ∧ DenC P E ρ H r c2 := by
  unfold toD1 at h
  split at h
  · split at h <;> cases h
    rename_i e; subst e
    cases hd with | one h1 _ h3 => cases h1 with | int hh => exact ⟨[_], _, rfl, .int hh, h3⟩
  · cases h
    cases hd with | one h1 _ h3 => cases h1 with | bool => exact ⟨[_], _, rfl, .bool, h3⟩
  · cases h
    cases hd with | one h1 _ h3 => cases h1 with | str hh => exact ⟨[_], _, rfl, .str hh, h3⟩
  · split at h <;> cases h
    rename_i e; subst e
    cases hd with | one h1 _ h3 => cases h1 with | dat _ hh => exact ⟨[_], _, rfl, hh, h3⟩
  · cases h
    cases hd with | one h1 _ h3 => cases h1 with | nils => exact ⟨[_], _, rfl, .slice (l := []) (fun _ => []) (Nat.le_refl _) (Nat.zero_le _) (fun h => absurd rfl h) (fun _ => rfl) (fun i hi => by simp at hi) (fun i hi => by simp at hi), h3⟩
  · split at h <;> cases h
    rename_i e; subst e
    cases hd with | one h1 _ h3 => cases h1 with | dat _ hh => exact ⟨[_], _, rfl, hh, h3⟩
  · cases h
    cases hd with | one h1 _ h3 => cases h1 with | dat _ hh => exact ⟨[_], _, rfl, hh, h3⟩
  · split at h
    · split at h <;> cases h
      rename_i e; obtain ⟨e1, e2⟩ := e; subst e1; subst e2
      cases hd with
      | one h1 _ _ => cases h1
      | arrc h1 h3 => exact ⟨_, _, rfl, .arr rfl h1, h3⟩
    · cases h
  · cases h

mutual
theorem toD_rep : ∀ {t : Ty} {l : List SV} {d : D} {r : List SV}, toD t l = some (d, r) → ∀ {cs : List Value}, DenC P E ρ H l cs → ∃ c1 c2, cs = c1 ++ c2 ∧ Rep P E H t d c1 ∧ DenC P E ρ H r c2
  | .strct ts, l, d, r, h, cs, hd => by
    simp only [toD] at h
    split at h
    · rename_i ds r' e; cases h
      obtain ⟨c1, c2, h1, h2, h3⟩ := toDL_rep e hd
      exact ⟨c1, c2, h1, .strct h2, h3⟩
    · cases h
  | .int k, x :: r', d, r, h, cs, hd => by simp only [toD] at h; split at h <;> cases h; rename_i e; exact toD1_rep e hd
  | .bool, x :: r', d, r, h, cs, hd => by simp only [toD] at h; split at h <;> cases h; rename_i e; exact toD1_rep e hd
  | .str, x :: r', d, r, h, cs, hd => by simp only [toD] at h; split at h <;> cases h; rename_i e; exact toD1_rep e hd
  | .slice _, x :: r', d, r, h, cs, hd => by simp only [toD] at h; split at h <;> cases h; rename_i e; exact toD1_rep e hd
  | .ptr _, x :: r', d, r, h, cs, hd => by simp only [toD] at h; split at h <;> cases h; rename_i e; exact toD1_rep e hd
  | .iface, x :: r', d, r, h, cs, hd => by simp only [toD] at h; split at h <;> cases h; rename_i e; exact toD1_rep e hd
  | .arr _ _, x :: r', d, r, h, cs, hd => by simp only [toD] at h; split at h <;> cases h; rename_i e; exact toD1_rep e hd
  | .int _, [], _, _, h, _, _ => by simp [toD] at h
  | .bool, [], _, _, h, _, _ => by simp [toD] at h
  | .str, [], _, _, h, _, _ => by simp [toD] at h
  | .slice _, [], _, _, h, _, _ => by simp [toD] at h
  | .ptr _, [], _, _, h, _, _ => by simp [toD] at h
  | .iface, [], _, _, h, _, _ => by simp [toD] at h
  | .arr _ _, [], _, _, h, _, _ => by simp [toD] at h
  | .fn, _, _, _, h, _, _ => by simp [toD] at h
  | .map _ _, _, _, _, h, _, _ => by simp [toD] at h
  | .other, _, _, _, h, _, _ => by simp [toD] at h
theorem toDL_rep : ∀ {ts : List Ty} {l : List SV} {ds : List D} {r : List SV}, toDL ts l = some (ds, r) → ∀ {cs : List Value}, DenC P E ρ H l cs → ∃ c1 c2, cs = c1 ++ c2 ∧ RepL P E H ts ds c1 ∧ DenC P E ρ H r c2
  | [], l, ds, r, h, cs, hd => by simp only [toDL] at h; cases h; exact ⟨[], cs, rfl, .nil, hd⟩
  | t :: ts, l, ds, r, h, cs, hd => by
    simp only [toDL] at h
    split at h
    · rename_i d r1 e
      split at h
      · rename_i ds' r2 e2; cases h
        obtain ⟨c1, c2, h1, h2, h3⟩ := toD_rep e hd
        obtain ⟨c3, c4, h4, h5, h6⟩ := toDL_rep e2 h3
        exact ⟨c1 ++ c3, c4, by rw [h1, h4, List.append_assoc], .cons h2 h5, h6⟩
      · cases h
    · cases h
end
end
end Go.Fw
