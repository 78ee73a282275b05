/- Chapter 15, in plain Lean: how far all is safe. -/
import Derived.Test.YtmjenjccinfbaaaDoorPntB
namespace Go.Proofs.YtmjenjccinfbaaaDoor
set_option linter.unusedVariables false
set_option linter.unusedSimpArgs false
open Go Go.Fw

def okS (l F : List D) (j : Nat) : Prop := ((l.getD j .nil).fld 0).i ≤ (F.getD ((l.getD j .nil).fld 1).i.toNat .nil).i
/-- What is complete, and what is durable, once so many are. -/
def vcA (s : Int) (l : List D) : Nat → Int
  | 0 => s
  | m + 1 => ((l.getD m .nil).fld 0).i
def vdA (s : Int) (l : List D) : Nat → Int
  | 0 => s
  | m + 1 => if ((l.getD m .nil).fld 2).b then ((l.getD m .nil).fld 0).i else vdA s l m
def isCnt (l F : List D) (m : Nat) : Prop := m ≤ l.length ∧ (∀ j, j < m → okS l F j) ∧ (m = l.length ∨ ¬ okS l F m)
theorem cnt_ex (l F : List D) : ∃ m, isCnt l F m := by
  have : ∀ n, n ≤ l.length → (∃ m, m < n ∧ (∀ j, j < m → okS l F j) ∧ ¬ okS l F m) ∨ ∀ j, j < n → okS l F j := by
    intro n
    induction n with
    | zero => intro _; exact .inr (fun j hj => by omega)
    | succ n ih =>
      intro hn
      rcases ih (by omega) with ⟨m, h1, h2, h3⟩ | h
      · exact .inl ⟨m, by omega, h2, h3⟩
      · by_cases hk : okS l F n
        · refine .inr (fun j hj => ?_)
          by_cases e : j = n
          · rw [e]; exact hk
          · exact h j (by omega)
        · exact .inl ⟨n, by omega, h, hk⟩
  rcases this l.length (Nat.le_refl _) with ⟨m, h1, h2, h3⟩ | h
  · exact ⟨m, by omega, h2, .inr h3⟩
  · exact ⟨l.length, Nat.le_refl _, h, .inl rfl⟩
theorem cnt_one {l F : List D} {m n : Nat} (h : isCnt l F m) (g : isCnt l F n) : m = n := by
  obtain ⟨a1, a2, a3⟩ := h
  obtain ⟨b1, b2, b3⟩ := g
  rcases Nat.lt_trichotomy m n with h | h | h
  · rcases a3 with e | e
    · omega
    · exact (e (b2 m h)).elim
  · exact h
  · rcases b3 with e | e
    · omega
    · exact (e (a2 n h)).elim
theorem look_at {l F : List D} {s : Int} {m : Nat} (hm : m ≤ l.length) (hst : m = l.length ∨ ¬ okS l F m) : ∀ (n k : Nat), m - k = n → k ≤ m → (∀ j, k ≤ j → j < m → okS l F j) → lookF l F (l.length - k) k (vcA s l k) (vdA s l k) = (m, vcA s l m, vdA s l m) := by
  intro n
  induction n with
  | zero =>
    intro k hk hkm hok
    obtain rfl : k = m := by omega
    refine lookF_stop (fun h => ?_)
    rcases hst with e | e
    · omega
    · exact e h.2
  | succ n ih =>
    intro k hk hkm hok
    rw [lookF_step (by omega) (hok k (Nat.le_refl _) (by omega))]
    exact ih (k + 1) (by omega) (by omega) (fun j h1 h2 => hok j (by omega) h2)
/-- From a state that is right, to what is right behind it. -/
theorem look_cnt {l F : List D} {s : Int} {k m : Nat} (h : isCnt l F m) (hk : k ≤ m) : lookF l F (l.length - k) k (vcA s l k) (vdA s l k) = (m, vcA s l m, vdA s l m) :=
  look_at h.1 h.2.2 _ k rfl hk (fun j _ hj => h.2.1 j hj)
theorem vcA_app (s : Int) (l : List D) (x : D) : ∀ {k : Nat}, k ≤ l.length → vcA s (l ++ [x]) k = vcA s l k
  | 0, _ => rfl
  | k + 1, h => by
    show (((l ++ [x]).getD k .nil).fld 0).i = _
    rw [List.getD_eq_getElem?_getD, List.getElem?_append_left (by omega), ← List.getD_eq_getElem?_getD]
    rfl
theorem vdA_app (s : Int) (l : List D) (x : D) : ∀ {k : Nat}, k ≤ l.length → vdA s (l ++ [x]) k = vdA s l k
  | 0, _ => rfl
  | k + 1, h => by
    show (if (((l ++ [x]).getD k .nil).fld 2).b then (((l ++ [x]).getD k .nil).fld 0).i else vdA s (l ++ [x]) k) = _
    rw [List.getD_eq_getElem?_getD, List.getElem?_append_left (by omega), ← List.getD_eq_getElem?_getD, vdA_app s l x (by omega)]
    rfl
/-! ### The numbers 1, 2, 3 .., each of a group -/
def sentL (G : Nat → Int) (B : Nat → Bool) (i : Nat) : List D := (List.range i).map fun (j : Nat) => D.node [.int ((j : Int) + 1), .int (G j), .bool (B j)]
theorem sentL_len (G : Nat → Int) (B : Nat → Bool) (i : Nat) : (sentL G B i).length = i := by unfold sentL; rw [List.length_map, List.length_range]
theorem sentL_step (G : Nat → Int) (B : Nat → Bool) (i : Nat) : sentL G B (i + 1) = sentL G B i ++ [D.node [.int ((i : Int) + 1), .int (G i), .bool (B i)]] := by unfold sentL; rw [List.range_succ, List.map_append]; rfl
theorem sentL_at (G : Nat → Int) (B : Nat → Bool) {i j : Nat} (h : j < i) : (sentL G B i).getD j .nil = D.node [.int ((j : Int) + 1), .int (G j), .bool (B j)] := by
  unfold sentL
  rw [List.getD_eq_getElem?_getD, List.getElem?_map, List.getElem?_range h]
  rfl
theorem sentL_vc (s : Int) (G : Nat → Int) (B : Nat → Bool) {i : Nat} : ∀ {m : Nat}, 0 < m → m ≤ i → vcA s (sentL G B i) m = m
  | m + 1, _, h => by
    show (((sentL G B i).getD m .nil).fld 0).i = _
    rw [sentL_at G B (by omega)]
    show (m : Int) + 1 = ((m + 1 : Nat) : Int)
    omega
theorem sentL_vc0 (G : Nat → Int) (B : Nat → Bool) {i m : Nat} (h : m ≤ i) : vcA 0 (sentL G B i) m = m := by
  by_cases h0 : m = 0
  · subst h0; rfl
  · exact sentL_vc 0 G B (by omega) h
def vdN (B : Nat → Bool) : Nat → Nat
  | 0 => 0
  | m + 1 => if B m then m + 1 else vdN B m
theorem sentL_vd (G : Nat → Int) (B : Nat → Bool) {i : Nat} : ∀ {m : Nat}, m ≤ i → vdA 0 (sentL G B i) m = vdN B m
  | 0, _ => rfl
  | m + 1, h => by
    show (if (((sentL G B i).getD m .nil).fld 2).b then (((sentL G B i).getD m .nil).fld 0).i else vdA 0 (sentL G B i) m) = _
    rw [sentL_at G B (by omega), sentL_vd G B (by omega : m ≤ i)]
    show (if B m then ((m : Int) + 1) else (vdN B m : Int)) = ((if B m then m + 1 else vdN B m : Nat) : Int)
    split <;> simp
theorem vdN_le (B : Nat → Bool) : ∀ m, vdN B m ≤ m
  | 0 => Nat.le_refl _
  | m + 1 => by
    have := vdN_le B m
    unfold vdN
    split <;> omega
theorem vdN_mono (B : Nat → Bool) {m : Nat} : ∀ {n : Nat}, m ≤ n → vdN B m ≤ vdN B n
  | 0, h => by
    have : m = 0 := by omega
    subst this
    exact Nat.le_refl _
  | n + 1, h => by
    by_cases e : m = n + 1
    · rw [e]; exact Nat.le_refl _
    · have h1 := vdN_mono B (m := m) (n := n) (by omega)
      have h2 := vdN_le B n
      show _ ≤ (if B n then n + 1 else vdN B n)
      split <;> omega
theorem vdN_last (B : Nat → Bool) : ∀ m, 0 < vdN B m → B (vdN B m - 1) = true
  | 0, h => (Nat.lt_irrefl 0 h).elim
  | m + 1, h => by
    by_cases e : B m = true
    · have : vdN B (m + 1) = m + 1 := by show (if B m then m + 1 else vdN B m) = _; rw [if_pos e]
      rw [this, Nat.add_sub_cancel]
      exact e
    · have e1 : vdN B (m + 1) = vdN B m := by show (if B m then m + 1 else vdN B m) = _; rw [if_neg e]
      rw [e1] at h ⊢
      exact vdN_last B m h
theorem sentL_ok (G : Nat → Int) (B : Nat → Bool) (F : List D) {i j : Nat} (h : j < i) : okS (sentL G B i) F j ↔ (j : Int) + 1 ≤ (F.getD (G j).toNat .nil).i := by
  unfold okS
  rw [sentL_at G B h]
  exact Iff.rfl
theorem sentL_gr (G : Nat → Int) (B : Nat → Bool) (F : List D) (i : Nat) (h : ∀ j, j < i → 0 ≤ G j ∧ G j < F.length) : grOk (sentL G B i) F := by
  intro j hj
  rw [sentL_len] at hj
  rw [sentL_at G B hj]
  exact h j hj
/-- With nothing safe nothing is complete. -/
theorem look_zero (G : Nat → Int) (B : Nat → Bool) (F : List D) (hF : ∀ k, (F.getD k .nil).i ≤ 0) (i n : Nat) : lookF (sentL G B i) F n 0 0 0 = (0, 0, 0) := by
  refine lookF_stop (fun h => ?_)
  rw [sentL_len] at h
  have h2 : okS (sentL G B i) F 0 := h.2
  rw [sentL_ok G B F h.1] at h2
  have := hF (G 0).toNat
  omega
end Go.Proofs.YtmjenjccinfbaaaDoor
