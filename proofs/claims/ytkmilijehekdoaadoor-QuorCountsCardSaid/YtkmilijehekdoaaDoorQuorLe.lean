/- Chapter 6: QuorCounts: plain. -/
import Derived.Test.YtkmilijehekdoaaDoorQuorLd
import Derived.Test.YtkmilijehekdoaaDoorQuorX
namespace Go.Proofs.YtkmilijehekdoaaDoor
set_option linter.unusedVariables false
set_option linter.unusedSimpArgs false
open Go Go.Fw

def cL (n : Nat) : List Int := (List.range n).map fun (i : Nat) => 3 * (i : Int)
theorem cL_len (n : Nat) : (cL n).length = n := by unfold cL; rw [List.length_map, List.length_range]
theorem cL_step (n : Nat) : cL (n + 1) = cL n ++ [3 * (n : Int)] := by unfold cL; rw [List.range_succ, List.map_append]; rfl
theorem cL_ok : ∀ n, n < 9 → (cL n).Pairwise (· < ·) ∧ ∀ x ∈ cL n, 0 ≤ x ∧ x < 64 := by decide
def binN (n : Nat) : Nat → Nat
  | 0 => 1
  | k + 1 => binN n k * (n - k) / (k + 1)
theorem binN_le : ∀ n, n < 9 → ∀ k, k < 9 → binN n k ≤ 100 := by decide
def cntB : Bool := (List.range 9).all fun n => (List.range (n + 1)).all fun k => k == 0 || (leastPL (QP.of k (cL n)) ((cL n).map D.int)).length == binN n k
theorem cntB_t : cntB = true := by decide +kernel
theorem count_least {n k : Nat} (hn : n ≤ 8) (hk : 1 ≤ k) (hkn : k ≤ n) : (leastPL (QP.of k (cL n)) ((cL n).map D.int)).length = binN n k := by
  have h := cntB_t
  unfold cntB at h
  rw [List.all_eq_true] at h
  have h := h n (List.mem_range.2 (by omega))
  rw [List.all_eq_true] at h
  have h := h k (List.mem_range.2 (by omega))
  rw [Bool.or_eq_true, beq_iff_eq, beq_iff_eq] at h
  exact h.resolve_left (by omega)
theorem nodes_cL {k n : Nat} (hk : 1 ≤ k) (hn : n ≤ 8) : Nodes (QP.of (k : Int) (cL n)) ((cL n).map D.int) := nodes_of (by omega) (by rw [cL_len]; omega) (cL_ok n (by omega)).2
theorem meets_cL {n k m : Nat} (hn : n ≤ 8) (hk : 1 ≤ k) (hkn : k ≤ n) (hm : 1 ≤ m) (hmn : m ≤ n) : meetsV (QP.of (k : Int) (cL n)).enc ((cL n).map D.int) (QP.of (m : Int) (cL n)).enc ((cL n).map D.int) = decide ((n : Int) < (k : Int) + (m : Int)) := by
  rw [meetsV_enc]
  have key := meets_sem (nodes_cL (k := k) hk hn) (nodes_cL (k := m) hm hn)
  have hcnt : ∀ S : Int → Bool, (cL n).countP S + (cL n).countP (fun x => !S x) = n := fun S => by
    have := List.length_eq_countP_add_countP S (l := cL n)
    have e : (cL n).countP (fun n => !S n) = (cL n).countP (fun a => decide ¬ (S a = true)) := List.countP_congr (fun x _ => by cases S x <;> simp)
    rw [cL_len] at this
    omega
  by_cases h : (n : Int) < (k : Int) + (m : Int)
  · rw [decide_eq_true h, key]
    intro S h1 h2
    simp only [QP.has, decide_eq_true_eq] at h1 h2
    have := hcnt S
    omega
  · rw [decide_eq_false h]
    cases hb : meetsB (QP.of (k : Int) (cL n)) ((cL n).map D.int) (QP.of (m : Int) (cL n)) ((cL n).map D.int) with
    | false => rfl
    | true =>
      exfalso
      rw [hb] at key
      have key := key.1 rfl (fun x => decide (x < 3 * (k : Int)))
      have hc : ∀ j, j ≤ n → (cL j).countP (fun x => decide (x < 3 * (k : Int))) = min j k := by
        intro j
        induction j with
        | zero => intro _; rw [Nat.zero_min]; rfl
        | succ j ih =>
          intro hj
          rw [cL_step, List.countP_append, ih (by omega)]
          by_cases hjk : j < k
          · rw [List.countP_cons_of_pos (by simp; omega)]; simp; omega
          · rw [List.countP_cons_of_neg (by simp; omega)]; simp; omega
      have h1 := hc n (Nat.le_refl _)
      have h2 := hcnt (fun x => decide (x < 3 * (k : Int)))
      refine key ?_ ?_
      · simp only [QP.has, decide_eq_true_eq]; omega
      · simp only [QP.has, decide_eq_true_eq]; omega
/-- The first ones. -/
theorem has_first {n k j : Nat} (hn : n ≤ 8) (hj : j ≤ n) (hk : 1 ≤ k) (hkn : k ≤ n) : hasD (QP.of (k : Int) (cL n)).enc (inL (((cL n).map D.int).take j)) = decide (k ≤ j) := by
  rw [hasD_enc]
  have hin : ∀ x ∈ cL n, inL (((cL n).map D.int).take j) x = decide (x < 3 * (j : Int)) := by
    intro x hx
    unfold inL
    have e : (((cL n).map D.int).take j).map D.i = cL j := by
      rw [← List.map_take, List.map_map]
      have : (D.i ∘ D.int : Int → Int) = id := rfl
      rw [this, List.map_id]
      unfold cL
      rw [← List.map_take, List.take_range, Nat.min_eq_left hj]
    rw [e]
    obtain ⟨i, hi, rfl⟩ := List.mem_map.1 hx
    rw [List.mem_range] at hi
    by_cases h : i < j
    · rw [decide_eq_true (by omega), List.contains_iff_mem]
      exact List.mem_map.2 ⟨i, List.mem_range.2 h, rfl⟩
    · rw [decide_eq_false (by omega)]
      cases hc : (cL j).contains (3 * (i : Int)) with
      | false => rfl
      | true =>
        rw [List.contains_iff_mem] at hc
        obtain ⟨i', hi', e⟩ := List.mem_map.1 hc
        rw [List.mem_range] at hi'
        omega
  have hc : ∀ i, i ≤ n → (cL i).countP (inL (((cL n).map D.int).take j)) = min i j := by
    intro i
    induction i with
    | zero => intro _; rw [Nat.zero_min]; rfl
    | succ i ih =>
      intro hi
      have hm := hin (3 * (i : Int)) (List.mem_map.2 ⟨i, List.mem_range.2 (by omega), rfl⟩)
      rw [cL_step, List.countP_append, ih (by omega)]
      by_cases hij : i < j
      · rw [List.countP_cons_of_pos (by rw [hm]; simp; omega)]; simp; omega
      · rw [List.countP_cons_of_neg (by rw [hm]; simp; omega)]; simp; omega
  simp only [QP.has]
  rw [hc n (Nat.le_refl _)]
  rw [decide_eq_decide]
  omega
def WQuorCounts : Opts := mkWE 112 [] [0, 1] [] 152 [0, 1] []
def icQuorCounts : IC := (.seq (.seq (.ops [(.u (.mov 6 (.c (.bool false))))]) (.tr [0, 1, 2, 6])) (.seq (.seq (.ops [(.u (.call 17 (.c (.clo 11 [])) [] [] true)), (.u (.mov 7 (.s 17)))]) (.tr [0, 1, 2, 7, 6])) (.seq (.seq (.seq (.ops [(.u (.mov 18 (.s 7))), (.u (.una 19 .not (.s 18)))]) (.tr [19, 0, 1, 2, 7, 6])) (.cond (.s 19) (.seq (.seq (.ops [(.u (.mov 6 (.c (.bool false))))]) (.tr [6])) .ret) .skip)) (.seq (.seq (.ops [(.u (.mov 20 (.s 0))), (.u (.call 21 (.c (.clo 12 [])) [(.s 20), (.c (.int .i64 8))] [none, none] true)), (.u (.bin 22 .add .i64 (.s 21) (.c (.int .i64 1)))), (.u (.mov 0 (.s 22)))]) (.tr [1, 2, 7, 0, 6])) (.seq (.seq (.ops [(.u (.mov 23 (.s 1))), (.u (.mov 24 (.s 0))), (.u (.call 25 (.c (.clo 12 [])) [(.s 23), (.s 24)] [none, none] true)), (.u (.bin 26 .add .i64 (.s 25) (.c (.int .i64 1)))), (.u (.mov 1 (.s 26)))]) (.tr [2, 7, 0, 1, 6])) (.seq (.seq (.ops [(.u (.mov 27 (.s 2))), (.u (.mov 28 (.s 0))), (.u (.call 29 (.c (.clo 12 [])) [(.s 27), (.s 28)] [none, none] true)), (.u (.bin 30 .add .i64 (.s 29) (.c (.int .i64 1)))), (.u (.mov 2 (.s 30)))]) (.tr [7, 2, 0, 1, 6])) (.seq (.seq (.ops [(.u (.mov 8 (.c .nils)))]) (.tr [7, 2, 0, 8, 1, 6])) (.seq (.seq (.seq (.ops [(.u (.mov 9 (.c (.int .i64 0))))]) (.tr [9, 7, 2, 0, 8, 1, 6])) (.block 0 (.loop (.seq (.seq (.seq (.ops [(.u (.mov 31 (.s 9))), (.u (.mov 32 (.s 0))), (.u (.cmp 33 .lss (.s 31) (.s 32)))]) (.tr [33, 9, 7, 2, 0, 8, 1, 6])) (.cond (.s 33) .skip (.exit 0))) (.seq (.block 1 (.seq (.ops [(.u (.mov 36 (.s 8))), (.u (.mov 37 (.s 9))), (.u (.bin 38 .mul .i64 (.c (.int .i64 3)) (.s 37))), (.u (.bsl 39 3 (.int .i64) [(.s 38)])), (.u (.app 40 3 (.int .i64) 8 (.s 36) (.s 39))), (.u (.mov 8 (.s 40)))]) (.tr [9, 7, 2, 0, 8, 1, 6]))) (.seq (.ops [(.u (.mov 34 (.s 9))), (.u (.bin 35 .add .i64 (.s 34) (.c (.int .i64 1)))), (.u (.mov 9 (.s 35)))]) (.tr [9, 7, 2, 0, 8, 1, 6]))))))) (.seq (.seq (.ops [(.u (.mov 42 (.s 1))), (.u (.mov 43 (.s 8))), (.u (.call 44 (.c (.clo 13 [])) [(.s 42), (.s 43)] [none, (some 3)] true)), (.u (.mov 41 (.s 44))), (.u (.ext 45 0 (.s 41))), (.u (.ext 46 1 (.s 41))), (.u (.alc 10 [(.dat (.ptr 65) .nil), .nils, (.int .i64 0)])), (.u (.st (.strct [(.ptr 65), (.slice 3), (.int .i64)]) (.s 10) (.s 45))), (.u (.mov 11 (.s 46)))]) (.tr [7, 11, 2, 0, 10, 8, 1, 6])) (.seq (.seq (.ops [(.u (.mov 48 (.s 2))), (.u (.mov 49 (.s 8))), (.u (.call 50 (.c (.clo 13 [])) [(.s 48), (.s 49)] [none, (some 3)] true)), (.u (.mov 47 (.s 50))), (.u (.ext 51 0 (.s 47))), (.u (.ext 52 1 (.s 47))), (.u (.alc 12 [(.dat (.ptr 65) .nil), .nils, (.int .i64 0)])), (.u (.st (.strct [(.ptr 65), (.slice 3), (.int .i64)]) (.s 12) (.s 51))), (.u (.mov 13 (.s 52)))]) (.tr [7, 11, 13, 12, 2, 0, 10, 8, 1, 6])) (.seq (.seq (.ops [(.u (.alc 14 [(.int .i64 0)])), (.u (.st (.int .i64) (.s 14) (.c (.int .i64 0))))]) (.tr [7, 11, 13, 12, 2, 0, 10, 8, 1, 6, 14])) (.seq (.seq (.seq (.ops [(.u (.ld 53 (.strct [(.ptr 65), (.slice 3), (.int .i64)]) (.s 10))), (.u (.call 54 (.c (.clo 14 [])) [(.s 53)] [none] true))]) (.tr [54, 7, 11, 13, 12, 2, 0, 10, 8, 1, 6, 14])) (.block 2 (.seq (.rng (.s 54) [55] .skip (.block 3 (.seq (.ops [(.u (.ld 56 (.int .i64) (.s 14))), (.u (.bin 57 .add .i64 (.s 56) (.c (.int .i64 1)))), (.u (.st (.int .i64) (.s 14) (.s 57)))]) (.tr [])))) (.tr [7, 11, 13, 12, 2, 0, 14, 10, 8, 1])))) (.seq (.seq (.ops [(.u (.mov 15 (.c (.int .i64 1))))]) (.tr [7, 11, 13, 12, 2, 0, 14, 15, 10, 8, 1])) (.seq (.seq (.seq (.ops [(.u (.mov 16 (.c (.int .i64 0))))]) (.tr [16, 7, 11, 13, 12, 2, 0, 14, 15, 10, 8, 1])) (.block 4 (.loop (.seq (.seq (.seq (.ops [(.u (.mov 58 (.s 16))), (.u (.mov 59 (.s 1))), (.u (.cmp 60 .lss (.s 58) (.s 59)))]) (.tr [60, 16, 7, 11, 13, 12, 2, 0, 14, 15, 10, 8, 1])) (.cond (.s 60) .skip (.exit 4))) (.seq (.block 5 (.seq (.ops [(.u (.mov 63 (.s 15))), (.u (.mov 64 (.s 0))), (.u (.mov 65 (.s 16))), (.u (.bin 66 .sub .i64 (.s 64) (.s 65))), (.u (.bin 67 .mul .i64 (.s 63) (.s 66))), (.u (.mov 68 (.s 16))), (.u (.bin 69 .add .i64 (.s 68) (.c (.int .i64 1)))), (.u (.bin 70 .quo .i64 (.s 67) (.s 69))), (.u (.mov 15 (.s 70)))]) (.tr [16, 7, 11, 13, 12, 2, 0, 14, 15, 10, 8, 1]))) (.seq (.ops [(.u (.mov 61 (.s 16))), (.u (.bin 62 .add .i64 (.s 61) (.c (.int .i64 1)))), (.u (.mov 16 (.s 62)))]) (.tr [16, 7, 11, 13, 12, 2, 0, 14, 15, 10, 8, 1]))))))) (.seq (.seq (.rgn [(.s 8), (.s 8)] [(false, (.u (.mov 71 (.s 7)))), (false, (.u (.mov 72 (.s 71)))), (false, (.g 72 true (some 73) (.mov 73 (.s 11)))), (false, (.g 72 true (some 74) (.eqb 74 false 0 (.s 73)))), (false, (.u (.pck 75 (.s 72) (.s 74) (.c (.bool false))))), (false, (.u (.mov 76 (.s 75)))), (false, (.g 76 true (some 77) (.mov 77 (.s 13)))), (false, (.g 76 true (some 78) (.eqb 78 false 0 (.s 77)))), (false, (.u (.pck 79 (.s 76) (.s 78) (.c (.bool false))))), (false, (.u (.mov 80 (.s 79)))), (false, (.g 80 true (some 81) (.ld 81 (.strct [(.ptr 65), (.slice 3), (.int .i64)]) (.s 10)))), (false, (.g 80 true (some 82) (.ld 82 (.strct [(.ptr 65), (.slice 3), (.int .i64)]) (.s 12)))), (false, (.g 80 true (some 84) (.mov 84 (.s 1)))), (false, (.g 80 true (some 85) (.mov 85 (.s 2)))), (false, (.g 80 true (some 86) (.bin 86 .add .i64 (.s 84) (.s 85)))), (false, (.g 80 true (some 87) (.mov 87 (.s 0)))), (false, (.g 80 true (some 88) (.cmp 88 .gtr (.s 86) (.s 87)))), (false, (.g 80 true (some 83) (.call 83 (.c (.clo 15 [])) [(.s 81), (.s 82)] [none, none] true))), (false, (.g 80 true (some 89) (.beq 89 false (.s 83) (.s 88)))), (false, (.u (.pck 90 (.s 80) (.s 89) (.c (.bool false))))), (false, (.u (.mov 91 (.s 90)))), (false, (.g 91 true (some 92) (.ld 92 (.int .i64) (.s 14)))), (false, (.g 91 true (some 93) (.mov 93 (.s 15)))), (false, (.g 91 true (some 94) (.cmp 94 .eql (.s 92) (.s 93)))), (false, (.u (.pck 95 (.s 91) (.s 94) (.c (.bool false))))), (false, (.u (.mov 96 (.s 95)))), (false, (.g 96 true (some 97) (.ld 97 (.strct [(.ptr 65), (.slice 3), (.int .i64)]) (.s 10)))), (false, (.g 96 true (some 98) (.mov 98 (.s 8)))), (false, (.g 96 true (some 99) (.mov 99 (.s 1)))), (false, (.g 96 true (some 100) (.slc 100 3 (.s 98) none (some (.s 99))))), (false, (.g 96 true (some 101) (.call 101 (.c (.clo 16 [])) [(.s 97), (.s 100)] [none, (some 3)] true))), (false, (.u (.pck 102 (.s 96) (.s 101) (.c (.bool false))))), (false, (.u (.mov 103 (.s 102)))), (false, (.g 103 true (some 104) (.ld 104 (.strct [(.ptr 65), (.slice 3), (.int .i64)]) (.s 10)))), (false, (.g 103 true (some 105) (.mov 105 (.s 8)))), (false, (.g 103 true (some 106) (.mov 106 (.s 1)))), (false, (.g 103 true (some 107) (.bin 107 .sub .i64 (.s 106) (.c (.int .i64 1))))), (false, (.g 103 true (some 108) (.slc 108 3 (.s 105) none (some (.s 107))))), (false, (.g 103 true (some 109) (.call 109 (.c (.clo 16 [])) [(.s 104), (.s 108)] [none, (some 3)] true))), (false, (.g 103 true (some 110) (.una 110 .not (.s 109)))), (false, (.u (.pck 111 (.s 103) (.s 110) (.c (.bool false))))), (false, (.u (.mov 6 (.s 111))))]) (.tr [6])) .ret)))))))))))))))
def rsQuorCounts : List RV := [(.t 6)]
theorem irQuorCounts : fnIR Tryd.prog WQuorCounts 3 = some (icQuorCounts, rsQuorCounts) := by kernel_rfl
def spQuorCounts : FSpec := fun args h nx K => match args with
  | [.int .i64 n, .int .i64 k, .int .i64 m] => K (.bool true) h
  | _ => False
end Go.Proofs.YtkmilijehekdoaaDoor
