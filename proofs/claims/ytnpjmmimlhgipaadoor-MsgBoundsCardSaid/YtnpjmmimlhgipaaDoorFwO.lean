/- The frame-work, part O: from the machine's operations to ours; each is what 'ev' says. -/
import Derived.Test.YtnpjmmimlhgipaaDoorFwN
namespace Go.Fw
set_option linter.unusedVariables false
set_option linter.unusedSimpArgs false
open Go

/-! ### A type's zero value as a row of cells -/
def isZeroInt (k : IntKind) : Value → Bool
  | .int k' n => k' == k && n == 0
  | _ => false
mutual
def zpar : Ty → List Value → Option (List SV × List Value)
  | .strct ts, vs => zparL ts vs
  | .arr n (.int k), vs => if (vs.take n).length = n ∧ (vs.take n).all (isZeroInt k) = true then some ([.arrc (.int k) (List.replicate n (.int 0))], vs.drop n) else none
  | .int _, v :: r => match constSV v with | some x => some ([x], r) | none => none
  | .bool, v :: r => match constSV v with | some x => some ([x], r) | none => none
  | .str, v :: r => match constSV v with | some x => some ([x], r) | none => none
  | .slice _, v :: r => match constSV v with | some x => some ([x], r) | none => none
  | .ptr e, .pointer none :: r => some ([.dat (.ptr e) .nil], r)
  | .iface, v :: r => match constSV v with | some x => some ([x], r) | none => none
  | _, _ => none
def zparL : List Ty → List Value → Option (List SV × List Value)
  | [], vs => some ([], vs)
  | t :: ts, vs => match zpar t vs with
    | some (a, r) => match zparL ts r with
      | some (b, r') => some (a ++ b, r')
      | none => none
    | none => none
end

section
variable {P : Program} {E : Nat → Value}

theorem constSV_one {v : Value} {x : SV} (h : constSV v = some x) : v.oneCell' = true := by
  unfold constSV at h
  split at h <;> first | rfl | (cases h; done) | skip

theorem zone_den {ρ : Nat → Value} {H : FH} {v : Value} {r : List Value} {l : List SV} {vs : List Value} (h : (match constSV v with | some x => some ([x], r) | none => none) = some (l, vs)) :
    ∃ c1, v :: r = c1 ++ vs ∧ DenC P E ρ H l c1 ∧ ∀ n, SV.ltL n l := by
  split at h
  · rename_i x e; cases h
    have := constSV_den (P := P) (E := E) e ρ H
    exact ⟨[v], rfl, .one this.1 (constSV_one e) .nil, fun n => ⟨this.2 n, trivial⟩⟩
  · cases h

theorem zints {H : FH} {k : IntKind} : ∀ (n : Nat) {vs : List Value}, vs.length = n → vs.all (isZeroInt k) = true → RepL P E H (List.replicate n (.int k)) (List.replicate n (.int 0)) vs := by
  intro n
  induction n with
  | zero => intro vs h _; have := List.eq_nil_of_length_eq_zero h; subst this; exact .nil
  | succ n ih =>
    intro vs h ha
    cases vs with
    | nil => simp at h
    | cons v vs =>
      simp only [List.all_cons, Bool.and_eq_true] at ha
      have hv : v = .int k 0 := by
        obtain ⟨h1, _⟩ := ha
        unfold isZeroInt at h1
        split at h1
        · rename_i k' m
          simp only [Bool.and_eq_true, beq_iff_eq] at h1
          rw [h1.1, h1.2]
        · cases h1
      subst hv
      rw [List.replicate_succ, List.replicate_succ]
      refine .cons (.int ?_) (ih (by simpa using h) ha.2)
      exact ⟨min_le_zero k, by cases k <;> simp [IntKind.max, IntKind.signed, IntKind.bits]⟩

theorem ltL_append {n : Nat} {a b : List SV} (h : SV.ltL n a) (h' : SV.ltL n b) : SV.ltL n (a ++ b) := by
  induction a with
  | nil => exact h'
  | cons x a ih => exact ⟨h.1, ih h.2⟩

mutual
theorem zpar_den {ρ : Nat → Value} {H : FH} : ∀ {t : Ty} {vs : List Value} {l : List SV} {r : List Value}, zpar t vs = some (l, r) → ∃ c1, vs = c1 ++ r ∧ DenC P E ρ H l c1 ∧ ∀ n, SV.ltL n l
  | .strct ts, vs, l, r, h => by simp only [zpar] at h; exact zparL_den h
  | .arr n (.int k), vs, l, r, h => by
    simp only [zpar] at h
    split at h
    · rename_i hc; cases h
      refine ⟨vs.take n, (List.take_append_drop n vs).symm, ?_, fun _ => ⟨trivial, trivial⟩⟩
      have := DenC.arrc (P := P) (E := E) (ρ := ρ) (H := H) (e := .int k) (ds := List.replicate n (.int 0)) (by rw [List.length_replicate]; exact zints n hc.1 hc.2) .nil
      simpa using this
    · cases h
  | .int _, v :: _, l, r, h => by simp only [zpar] at h; exact zone_den h
  | .bool, v :: _, l, r, h => by simp only [zpar] at h; exact zone_den h
  | .str, v :: _, l, r, h => by simp only [zpar] at h; exact zone_den h
  | .slice _, v :: _, l, r, h => by simp only [zpar] at h; exact zone_den h
  | .iface, v :: _, l, r, h => by simp only [zpar] at h; exact zone_den h
  | .ptr e, .pointer none :: _, l, r, h => by simp only [zpar] at h; cases h; exact ⟨[.pointer none], rfl, .one (.dat rfl .pnil) rfl .nil, fun _ => ⟨trivial, trivial⟩⟩
  | .ptr _, [], _, _, h | .ptr _, .bool _ :: _, _, _, h | .ptr _, .int _ _ :: _, _, _, h | .ptr _, .float _ _ :: _, _, _, h | .ptr _, .complex _ _ _ :: _, _, _, h | .ptr _, .string _ :: _, _, _, h
  | .ptr _, .pointer (some _) :: _, _, _, h | .ptr _, .slice _ _ _ :: _, _, _, h | .ptr _, .map _ :: _, _, _, h | .ptr _, .chan _ :: _, _, _, h | .ptr _, .func _ _ _ :: _, _, _, h | .ptr _, .nilFunc :: _, _, _, h
  | .ptr _, .iface _ _ :: _, _, _, h | .ptr _, .nilIface :: _, _, _, h | .ptr _, .agg _ :: _, _, _, h | .ptr _, .tuple _ :: _, _, _, h => by simp [zpar] at h
  | .int _, [], _, _, h => by simp [zpar] at h
  | .bool, [], _, _, h => by simp [zpar] at h
  | .str, [], _, _, h => by simp [zpar] at h
  | .slice _, [], _, _, h => by simp [zpar] at h
  | .iface, [], _, _, h => by simp [zpar] at h
  | .fn, _, _, _, h => by simp [zpar] at h
  | .map _ _, _, _, _, h => by simp [zpar] at h
  | .other, _, _, _, h => by simp [zpar] at h
  | .arr _ .bool, _, _, _, h | .arr _ .str, _, _, _, h | .arr _ (.slice _), _, _, _, h | .arr _ (.ptr _), _, _, _, h | .arr _ .iface, _, _, _, h | .arr _ (.strct _), _, _, _, h
  | .arr _ (.arr _ _), _, _, _, h | .arr _ .fn, _, _, _, h | .arr _ (.map _ _), _, _, _, h | .arr _ .other, _, _, _, h => by simp [zpar] at h
theorem zparL_den {ρ : Nat → Value} {H : FH} : ∀ {ts : List Ty} {vs : List Value} {l : List SV} {r : List Value}, zparL ts vs = some (l, r) → ∃ c1, vs = c1 ++ r ∧ DenC P E ρ H l c1 ∧ ∀ n, SV.ltL n l
  | [], vs, l, r, h => by simp only [zparL] at h; cases h; exact ⟨[], rfl, .nil, fun _ => trivial⟩
  | t :: ts, vs, l, r, h => by
    simp only [zparL] at h
    split at h
    · rename_i a r1 e1
      split at h
      · rename_i b r2 e2; cases h
        obtain ⟨c1, h1, h2, h3⟩ := zpar_den e1
        obtain ⟨c2, h4, h5, h6⟩ := zparL_den e2
        exact ⟨c1 ++ c2, by rw [h1, h4, List.append_assoc], denC_append h2 h5, fun n => ltL_append (h3 n) (h6 n)⟩
      · cases h
    · cases h
end
/-- The zero value of a type, as a row of cells. -/
def zsv (P : Program) (tid : TypeId) : Option (List SV) :=
  match P.info? tid with
  | some i => match i.zero with
    | some z => match zpar (tyOf P 8 tid) z.cells.toList with
      | some (l, []) => some l
      | _ => none
    | none => none
  | none => none
theorem zsv_den {tid : TypeId} {l : List SV} (h : zsv P tid = some l) (ρ : Nat → Value) (H : FH) : ∃ i z, P.info? tid = some i ∧ i.zero = some z ∧ DenC P E ρ H l z.cells.toList ∧ ∀ n, SV.ltL n l := by
  unfold zsv at h
  split at h
  · rename_i i hi
    split at h
    · rename_i z hz
      split at h
      · rename_i l' e; cases h
        obtain ⟨c1, h1, h2, h3⟩ := zpar_den (P := P) (E := E) (ρ := ρ) (H := H) e
        rw [List.append_nil] at h1
        exact ⟨i, z, hi, hz, by rw [h1]; exact h2, h3⟩
      · cases h
    · cases h
  · cases h
end
end Go.Fw
