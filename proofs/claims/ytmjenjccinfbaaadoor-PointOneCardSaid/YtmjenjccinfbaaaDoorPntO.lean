/- Chapter 15: PointOne. -/
import Derived.Test.YtmjenjccinfbaaaDoorPntN
namespace Go.Proofs.YtmjenjccinfbaaaDoor
set_option linter.unusedVariables false
set_option linter.unusedSimpArgs false
open Go Go.Fw
attribute [local go_sem] walkSet evMdl evMupD evMup evLkp frpL eltP eltV eltK preF preP prePt prePd frzP evNlq ev frOf oget ogets argSs argS evCat evMm frzL evBin evWrp evShf evCmp evUna evNil evBeq evLd evSt evFad evIad evAad evLen evSln evEls evApp evParts evSlc evNlc evMif evPck evFld evBld evTas evIfq evSeq evSl0 evBxf evAgl evAgq evBsf hget hset hdel cellAt arrAt setCellAt setArrAt takeC lenC svCells SV.okc SV.one ldSV Fw.isAgg explode explodeL toD toDL toD1 Ty.size Ty.sizeL frz1 Fr.sub Heap.sub Tok.sub SV.sub SV.subL

theorem vdN_all (m : Nat) : vdN (fun _ => true) m = m := by cases m <;> rfl
/-- The groups go round. -/
def gr4 (j : Nat) : Int := ((j % 4 : Nat) : Int)
theorem gr4_in (j : Nat) : 0 ≤ gr4 j ∧ gr4 j < 4 := by unfold gr4; omega
theorem tmod4 (j : Nat) : (j : Int).tmod 4 = gr4 j := by
  rw [Int.tmod_eq_emod_of_nonneg (by omega)]
  unfold gr4
  omega
theorem gr4_nat (j : Nat) : (gr4 j).toNat = j % 4 := by unfold gr4; omega
/-- What lacks in one group holds back what is behind. -/
theorem one_cnt {n k : Nat} (hk : k < n) {F : List Int} (hF : ∀ q : Nat, q < 4 → F.getD q 0 = if q ≠ k % 4 then (n : Int) else if 4 ≤ k then (k : Int) - 3 else 0) : isCnt (sentL gr4 (fun _ => true) n) (F.map D.int) k := by
  refine ⟨by rw [sentL_len]; omega, fun j hj => ?_, .inr (fun h => ?_)⟩
  · rw [sentL_ok _ _ _ (by omega), getD_ints, gr4_nat, hF _ (by omega)]
    split
    · omega
    · split <;> omega
  · rw [sentL_ok _ _ _ hk, getD_ints, gr4_nat, hF _ (by omega), if_neg (by omega)] at h
    split at h <;> omega
theorem all_cnt {n : Nat} {F : List Int} (hF : ∀ q : Nat, q < 4 → F.getD q 0 = (n : Int)) : isCnt (sentL gr4 (fun _ => true) n) (F.map D.int) n := by
  refine ⟨by rw [sentL_len]; omega, fun j hj => ?_, .inl (sentL_len _ _ _).symm⟩
  rw [sentL_ok _ _ _ hj, getD_ints, gr4_nat, hF _ (by omega)]
  omega
def WPointOne : Opts := mkWE 108 [] [0, 1, 2] [] 171 [0, 1, 2] []
def icPointOne : IC := (.seq (.seq (.ops [(.u (.mov 4 (.c (.bool false))))]) (.tr [0, 1])) (.seq (.seq (.ops [(.u (.call 11 (.c (.clo 15 [])) [] [] true)), (.u (.mov 5 (.s 11)))]) (.tr [0, 1, 5])) (.seq (.seq (.seq (.ops [(.u (.mov 12 (.s 5))), (.u (.una 13 .not (.s 12)))]) (.tr [13, 0, 1, 5])) (.cond (.s 13) (.seq (.seq (.ops [(.u (.mov 4 (.c (.bool false))))]) (.tr [4])) .ret) .skip)) (.seq (.seq (.ops [(.u (.mov 14 (.s 0))), (.u (.call 15 (.c (.clo 18 [])) [(.s 14), (.c (.int .i64 30))] [none, none] true)), (.u (.bin 16 .add .i64 (.s 15) (.c (.int .i64 1)))), (.u (.mov 0 (.s 16)))]) (.tr [1, 5, 0])) (.seq (.seq (.ops [(.u (.mov 17 (.s 1))), (.u (.mov 18 (.s 0))), (.u (.call 19 (.c (.clo 18 [])) [(.s 17), (.s 18)] [none, none] true)), (.u (.mov 1 (.s 19)))]) (.tr [5, 1, 0])) (.seq (.seq (.ops [(.u (.call 21 (.c (.clo 16 [])) [(.c (.int .i64 4)), (.c (.int .i64 0)), (.c .nils)] [none, none, (some 41)] true)), (.u (.mov 20 (.s 21))), (.u (.ext 22 0 (.s 20))), (.u (.ext 23 1 (.s 20))), (.u (.mov 6 (.s 22))), (.u (.mov 7 (.s 23)))]) (.tr [7, 5, 1, 0, 6])) (.seq (.seq (.seq (.ops [(.u (.mov 24 (.s 6))), (.u (.eqb 25 false 1 (.s 24))), (.u (.mov 26 (.s 25))), (.g 26 false (some 27) (.mov 27 (.s 7))), (.g 26 false (some 28) (.eqb 28 true 0 (.s 27))), (.u (.pck 29 (.s 26) (.c (.bool true)) (.s 28)))]) (.tr [29, 5, 1, 0, 6])) (.cond (.s 29) (.seq (.seq (.ops [(.u (.mov 4 (.c (.bool false))))]) (.tr [4])) .ret) .skip)) (.seq (.seq (.seq (.ops [(.u (.mov 8 (.c (.int .i64 0))))]) (.tr [8, 5, 1, 0, 6])) (.block 0 (.loop (.seq (.seq (.seq (.ops [(.u (.mov 30 (.s 8))), (.u (.mov 31 (.s 0))), (.u (.cmp 32 .lss (.s 30) (.s 31)))]) (.tr [32, 8, 5, 1, 0, 6])) (.cond (.s 32) .skip (.exit 0))) (.seq (.block 1 (.seq (.seq (.ops [(.u (.mov 35 (.s 6))), (.u (.mov 36 (.s 8))), (.u (.bin 37 .add .i64 (.s 36) (.c (.int .i64 1)))), (.u (.mov 38 (.s 8))), (.u (.bin 39 .rem .i64 (.s 38) (.c (.int .i64 4)))), (.u (.bld 40 [[(.int .i64 0)], [(.int .i64 0)], [(.int .i64 0)], [(.int .i64 0)], [(.int .i64 0)], [(.int .i64 0)], [(.int .i64 0)], [.nils], [.nils], [(.bool false)]] [(0, (.s 37)), (3, (.s 39)), (9, (.c (.bool true)))])), (.u (.call 41 (.c (.clo 17 [])) [(.s 35), (.s 40)] [none, none] true)), (.u (.eqb 42 true 0 (.s 41)))]) (.tr [42, 8, 5, 1, 0, 6])) (.cond (.s 42) (.seq (.seq (.ops [(.u (.mov 4 (.c (.bool false))))]) (.tr [4])) .ret) .skip))) (.seq (.ops [(.u (.mov 33 (.s 8))), (.u (.bin 34 .add .i64 (.s 33) (.c (.int .i64 1)))), (.u (.mov 8 (.s 34)))]) (.tr [8, 5, 1, 0, 6]))))))) (.seq (.seq (.ops [(.u (.mov 43 (.s 1))), (.u (.bin 44 .rem .i64 (.s 43) (.c (.int .i64 4)))), (.u (.mov 9 (.s 44)))]) (.tr [5, 1, 9, 0, 6])) (.seq (.seq (.seq (.ops [(.u (.mov 10 (.c (.int .i64 0))))]) (.tr [10, 5, 1, 9, 0, 6])) (.block 2 (.loop (.seq (.seq (.seq (.ops [(.u (.mov 45 (.s 10))), (.u (.cmp 46 .lss (.s 45) (.c (.int .i64 4))))]) (.tr [46, 10, 5, 1, 9, 0, 6])) (.cond (.s 46) .skip (.exit 2))) (.seq (.block 3 (.seq (.seq (.ops [(.u (.mov 49 (.s 10))), (.u (.mov 50 (.s 9))), (.u (.cmp 51 .neq (.s 49) (.s 50)))]) (.tr [51, 10, 5, 1, 9, 0, 6])) (.cond (.s 51) (.seq (.ops [(.u (.mov 52 (.s 6))), (.u (.mov 53 (.s 10))), (.u (.mov 54 (.s 0))), (.u (.call 55 (.c (.clo 19 [])) [(.s 52), (.s 53), (.s 54)] [none, none, none] true))]) (.tr [10, 5, 1, 9, 0, 6])) .skip))) (.seq (.ops [(.u (.mov 47 (.s 10))), (.u (.bin 48 .add .i64 (.s 47) (.c (.int .i64 1)))), (.u (.mov 10 (.s 48)))]) (.tr [10, 5, 1, 9, 0, 6]))))))) (.seq (.seq (.seq (.ops [(.u (.mov 56 (.s 1))), (.u (.cmp 57 .geq (.s 56) (.c (.int .i64 4))))]) (.tr [57, 5, 1, 9, 0, 6])) (.cond (.s 57) (.seq (.ops [(.u (.mov 58 (.s 6))), (.u (.mov 59 (.s 9))), (.u (.mov 60 (.s 1))), (.u (.bin 61 .sub .i64 (.s 60) (.c (.int .i64 3)))), (.u (.call 62 (.c (.clo 19 [])) [(.s 58), (.s 59), (.s 61)] [none, none, none] true))]) (.tr [5, 1, 9, 0, 6])) .skip)) (.seq (.seq (.seq (.ops [(.u (.mov 63 (.s 6))), (.u (.call 64 (.c (.clo 20 [])) [(.s 63)] [none] true)), (.u (.mov 65 (.s 1))), (.u (.cmp 66 .neq (.s 64) (.s 65))), (.u (.mov 67 (.s 66))), (.g 67 false (some 68) (.mov 68 (.s 6))), (.g 67 false (some 69) (.call 69 (.c (.clo 22 [])) [(.s 68)] [none] true)), (.g 67 false (some 70) (.mov 70 (.s 0))), (.g 67 false (some 71) (.mov 71 (.s 1))), (.g 67 false (some 72) (.bin 72 .sub .i64 (.s 70) (.s 71))), (.g 67 false (some 73) (.cmp 73 .neq (.s 69) (.s 72))), (.u (.pck 74 (.s 67) (.c (.bool true)) (.s 73)))]) (.tr [74, 5, 1, 9, 0, 6])) (.cond (.s 74) (.seq (.seq (.ops [(.u (.mov 4 (.c (.bool false))))]) (.tr [4])) .ret) .skip)) (.seq (.seq (.ops [(.u (.mov 75 (.s 6))), (.u (.mov 76 (.s 9))), (.u (.mov 77 (.s 0))), (.u (.call 78 (.c (.clo 19 [])) [(.s 75), (.s 76), (.s 77)] [none, none, none] true))]) (.tr [5, 1, 9, 0, 6])) (.seq (.seq (.ops [(.u (.mov 79 (.s 5))), (.u (.mov 80 (.s 79))), (.g 80 true (some 81) (.mov 81 (.s 6))), (.g 80 true (some 82) (.call 82 (.c (.clo 20 [])) [(.s 81)] [none] true)), (.g 80 true (some 83) (.mov 83 (.s 0))), (.g 80 true (some 84) (.cmp 84 .eql (.s 82) (.s 83))), (.u (.pck 85 (.s 80) (.s 84) (.c (.bool false)))), (.u (.mov 86 (.s 85))), (.g 86 true (some 87) (.mov 87 (.s 6))), (.g 86 true (some 88) (.mov 88 (.s 9))), (.g 86 true (some 89) (.mov 89 (.s 0))), (.g 86 true (some 90) (.call 90 (.c (.clo 36 [])) [(.s 87), (.s 88), (.s 89)] [none, none, none] true)), (.g 86 true (some 91) (.mov 91 (.s 1))), (.g 86 true (some 92) (.bin 92 .add .i64 (.s 91) (.c (.int .i64 1)))), (.g 86 true (some 93) (.cmp 93 .geq (.s 90) (.s 92))), (.u (.pck 94 (.s 86) (.s 93) (.c (.bool false)))), (.u (.mov 95 (.s 94))), (.g 95 true (some 96) (.mov 96 (.s 6))), (.g 95 true (some 97) (.mov 97 (.s 9))), (.g 95 true (some 98) (.mov 98 (.s 0))), (.g 95 true (some 99) (.bin 99 .sub .i64 (.s 98) (.c (.int .i64 1)))), (.g 95 true (some 100) (.call 100 (.c (.clo 19 [])) [(.s 96), (.s 97), (.s 99)] [none, none, none] true)), (.g 95 true (some 101) (.una 101 .not (.s 100))), (.u (.pck 102 (.s 95) (.s 101) (.c (.bool false)))), (.u (.mov 103 (.s 102))), (.g 103 true (some 104) (.mov 104 (.s 6))), (.g 103 true (some 105) (.call 105 (.c (.clo 19 [])) [(.s 104), (.c (.int .i64 4)), (.c (.int .i64 1))] [none, none, none] true)), (.g 103 true (some 106) (.una 106 .not (.s 105))), (.u (.pck 107 (.s 103) (.s 106) (.c (.bool false)))), (.u (.mov 4 (.s 107)))]) (.tr [4])) .ret))))))))))))))
def rsPointOne : List RV := [(.t 4)]
theorem irPointOne : fnIR Tryd.prog WPointOne 10 = some (icPointOne, rsPointOne) := by kernel_rfl
def spPointOne : FSpec := fun args h nx K => match args with
  | [.int .i64 n, .int .i64 k] => K (.bool true) h
  | _ => False
set_option maxHeartbeats 4000000 in
set_option maxRecDepth 8000 in
theorem vPointOne {E : Nat → Value} (hE : Errs2 Tryd.prog (some 171) E) : Valid Tryd.prog E (gs GPS) 10 spPointOne := by
  refine valid_go (W := WPointOne) hE ((((((((allValid_bot.add (up (vFirst15 hE))).add (up (vPNew hE))).add (up (vPSent hE))).add (up (vPVDL hE))).add (up (vPSafe hE))).add (up (vPLeft hE))).add (up (vPLastO hE))).add (up (vNumber hE))) irPointOne (by decide) (fun args h nx K hsp hok hnm => ?_)
  unfold spPointOne at hsp
  split at hsp
  · rename_i n0 k0
    have hK := hsp
    refine ⟨by simp [WPointOne, mkW, mkWE, mkWF], fun Q hQ => ?_⟩
    have g30 : (0 : Int) < 30 := by decide
    obtain ⟨n, hn, hn1, hn2⟩ : ∃ n : Nat, n0 % 30 + 1 = (n : Int) ∧ 1 ≤ n ∧ n ≤ 30 := ⟨(n0 % 30 + 1).toNat, by omega, by omega, by omega⟩
    have gn : (0 : Int) < (n : Int) := by omega
    obtain ⟨k, hk, hkn⟩ : ∃ k : Nat, k0 % (n : Int) = (k : Int) ∧ k < n := by
      have h1 := Int.emod_nonneg k0 (show (n : Int) ≠ 0 by omega)
      have h2 := Int.emod_lt_of_pos k0 gn
      exact ⟨(k0 % (n : Int)).toNat, by omega, by omega⟩
    simp (maxSteps := 4000000) only [icPointOne, go_sem, goD_calls, eq_self, implies_true, Int.reduceEq, Int.reduceBEq, Int.reduceBNe, Int.reduceLE, Int.reduceLT, Int.reduceAdd, Int.reduceSub, Int.reduceMul, Int.reduceNeg, Nat.reduceMul, Nat.reduceSub, Nat.reduceLeDiff, Nat.reduceLT, Nat.reduceEqDiff, Nat.reduceAdd, reduceCtorEq, ↓reduceIte, reduceIte, spFirst15, spPNew, spNumber, valid_none, ptC_def, g30, hn, gn, hk, min_i64, max_i64]
    refine ⟨⟨by omega, by omega⟩, ?_⟩
    have hgr : ∀ F : List Int, F.length = 4 → grOk (sentL gr4 (fun _ => true) n) (F.map D.int) := fun F hF => sentL_gr _ _ _ n (fun j _ => by rw [List.length_map, hF]; exact gr4_in j)
    have hvd : ∀ c, c ≤ n → vdA 0 (sentL gr4 (fun _ => true) n) c = c := fun c hc => by rw [sentL_vd _ _ hc, vdN_all]
    have hz := fun i => zero_cnt gr4 (fun _ => true) [0, 0, 0, 0] zeros4_le i
    refine go_loop (α := { i : Nat // i ≤ n }) (I := fun i => { f := [(8, .int .i64 i.1), (5, .bool true), (1, .int .i64 k), (0, .int .i64 n), (6, .ptr nx 0)], h := (nx, ptS [] (nx + 1) i.1 (nx + 2) 0 (sentL gr4 (fun _ => true) i.1) 0) :: (nx + 1, .arr 112 sentT (sentL gr4 (fun _ => true) i.1)) :: (nx + 2, .arr 2 (.int .i64) ([0, 0, 0, 0].map D.int)) :: h, nx := nx + 3 }) (μ := fun i => n - i.1) _ _ _ ⟨0, by omega⟩ ?_ (fun i S hS => ?_)
    · refine leq_news [(nx, nx + 64 + 64 + 64), (nx + 1, nx + 64 + 64 + 64 + 1), (nx + 2, nx + 64 + 64 + 64 + 2)] [(nx, ptS [] (nx + 1) 0 (nx + 2) 0 (sentL gr4 (fun _ => true) 0) 0), (nx + 1, .arr 112 sentT (sentL gr4 (fun _ => true) 0)), (nx + 2, .arr 2 (.int .i64) ([0, 0, 0, 0].map D.int))] (.refl _) (by simp) (by simp <;> omega) (by simp <;> omega) rfl ?_ ?_ ?_ ?_ hnm ?_ (by omega)
      · simp [frIn_cons, frIn_nil, fget_cons, fget_nil, SV.ren, SV.renL, rens]
      · (simp only [frLt_cons, frLt_nil, and_true, SV.lt, SV.ltL, true_and] <;> omega)
      · simp only [ptS, ptC_def]
        (simp only [List.mem_cons, List.not_mem_nil, or_false, forall_eq_or_imp, forall_eq]; simp [hget, rens, Tok.ren, SV.ren, SV.renL])
        try exact ⟨⟨rfl, rfl⟩, rfl, rfl⟩
      · simp only [ptS, ptC_def]
        (simp only [List.mem_cons, List.not_mem_nil, or_false, forall_eq_or_imp, forall_eq, Tok.lt, SV.lt, SV.ltL, and_true, true_and] <;> omega)
      · ((try simp only []); repeat first | exact HLe.refl _ | refine HLe.cons (by simp only [hget, Nat.reduceEqDiff, Nat.left_eq_add, Nat.add_eq_left, nm_ne2, nm_en2, nm_ne3, nm_en3, nm_ne4, nm_en4, nm_ne5, nm_en5, reduceIte, ↓reduceIte] <;> first | rfl | ((repeat rw [if_neg (by omega)]) <;> rfl)) ?_ | refine HLe.skip hnm (by omega) ?_ | refine HLe.frz hnm (by omega) ?_ | refine HLe.del hnm (by omega) ?_)
    obtain ⟨i, hi⟩ := i
    simp only at hS ⊢
    by_cases hil : i < n
    · have d1 : decide ((i : Int) < (n : Int)) = true := decide_eq_true (by omega)
      have hst := sentL_step gr4 (fun _ => true) i
      simp (maxSteps := 4000000) only [go_sem, goD_calls, eq_self, implies_true, Int.reduceEq, Int.reduceBEq, Int.reduceBNe, Int.reduceLE, Int.reduceLT, Int.reduceAdd, Int.reduceSub, Int.reduceMul, Int.reduceNeg, Nat.reduceMul, Nat.reduceSub, Nat.reduceLeDiff, Nat.reduceLT, Nat.reduceEqDiff, Nat.reduceAdd, reduceCtorEq, ↓reduceIte, reduceIte, d1, tmod4, min_i64, max_i64]
      refine ⟨⟨by omega, by omega⟩, by decide, ?_⟩
      refine sent_cnt (by omega) (by omega) (by omega) (hz i) (m := 0) (by have := hz (i + 1); rw [hst] at this; exact this) (by rw [sentL_len]; omega) (sentL_gr _ _ _ i (fun j _ => gr4_in j)) (none_low ▸ trivial) (by omega) ⟨rfl, rfl⟩ ⟨(gr4_in i).1, (gr4_in i).2, by omega, by omega⟩ (by rw [next_none]) ?_
      simp (maxSteps := 4000000) only [go_sem, goD_calls, eq_self, implies_true, Int.reduceEq, Int.reduceBEq, Int.reduceBNe, Int.reduceLE, Int.reduceLT, Int.reduceAdd, Int.reduceSub, Int.reduceMul, Int.reduceNeg, Nat.reduceMul, Nat.reduceSub, Nat.reduceLeDiff, Nat.reduceLT, Nat.reduceEqDiff, Nat.reduceAdd, reduceCtorEq, ↓reduceIte, reduceIte, min_i64, max_i64]
      refine ⟨⟨by omega, by omega⟩, ?_⟩
      refine hS _ ⟨i + 1, by omega⟩ (by simp only []; omega) ?_
      simp only []
      rw [hst]
      refine leq_news [(nx, nx), (nx + 1, nx + 3), (nx + 2, nx + 2)] [(nx, ptS [] (nx + 1) ((i + 1 : Nat) : Int) (nx + 2) 0 (sentL gr4 (fun _ => true) i ++ [sent3 ((i : Int) + 1) (gr4 i) true]) 0), (nx + 1, .arr 112 sentT (sentL gr4 (fun _ => true) i ++ [sent3 ((i : Int) + 1) (gr4 i) true])), (nx + 2, .arr 2 (.int .i64) ([0, 0, 0, 0].map D.int))] (.refl _) (by simp) (by simp <;> omega) (by simp <;> omega) rfl ?_ ?_ ?_ ?_ hnm ?_ (by omega)
      · simp [frIn_cons, frIn_nil, fget_cons, fget_nil, SV.ren, SV.renL, rens]
      · (simp only [frLt_cons, frLt_nil, and_true, SV.lt, SV.ltL, true_and] <;> omega)
      · simp only [ptS, ptC_def]
        (simp only [List.mem_cons, List.not_mem_nil, or_false, forall_eq_or_imp, forall_eq]; simp [hget, rens, Tok.ren, SV.ren, SV.renL])
        try rfl
        all_goals try omega
      · simp only [ptS, ptC_def]
        (simp only [List.mem_cons, List.not_mem_nil, or_false, forall_eq_or_imp, forall_eq, Tok.lt, SV.lt, SV.ltL, and_true, true_and] <;> omega)
      · ((try simp only []); repeat first | exact HLe.refl _ | refine HLe.cons (by simp only [hget, Nat.reduceEqDiff, Nat.left_eq_add, Nat.add_eq_left, nm_ne2, nm_en2, nm_ne3, nm_en3, nm_ne4, nm_en4, nm_ne5, nm_en5, reduceIte, ↓reduceIte] <;> first | rfl | ((repeat rw [if_neg (by omega)]) <;> rfl)) ?_ | refine HLe.skip hnm (by omega) ?_ | refine HLe.frz hnm (by omega) ?_ | refine HLe.del hnm (by omega) ?_)
    obtain rfl : n = i := by omega
    have d1 : decide ((n : Int) < (n : Int)) = false := decide_eq_false (by omega)
    simp (maxSteps := 4000000) only [go_sem, goD_calls, eq_self, implies_true, Int.reduceEq, Int.reduceBEq, Int.reduceBNe, Int.reduceLE, Int.reduceLT, Int.reduceAdd, Int.reduceSub, Int.reduceMul, Int.reduceNeg, Nat.reduceMul, Nat.reduceSub, Nat.reduceLeDiff, Nat.reduceLT, Nat.reduceEqDiff, Nat.reduceAdd, reduceCtorEq, ↓reduceIte, reduceIte, d1, tmod4]
    have ept : ∀ (L : List D) (c : Nat), c ≤ n → ((nx, ptS [] (nx + 1) n (nx + 2) 0 (sentL gr4 (fun _ => true) n) c) :: (nx + 1, .arr 112 sentT (sentL gr4 (fun _ => true) n)) :: (nx + 2, .arr 2 (.int .i64) L) :: h : Heap) = (nx, .cells [.dat (.slice 41) (.list []), .vec (nx + 1), .int .i64 n, .vec (nx + 2), .int .i64 c, .int .i64 (vcA 0 (sentL gr4 (fun _ => true) n) c), .int .i64 c]) :: (nx + 1, .arr 112 sentT (sentL gr4 (fun _ => true) n)) :: (nx + 2, .arr 2 (.int .i64) L) :: h := fun L c hc => by
      simp only [ptS, ptC_def, hvd c hc]
    refine ⟨by decide, ?_⟩
    refine go_loop (α := { x : Nat × List Int × Nat // x.1 ≤ 4 ∧ x.2.1.length = 4 ∧ (∀ q : Nat, q < 4 → x.2.1.getD q 0 = if q < x.1 ∧ q ≠ k % 4 then (n : Int) else 0) ∧ isCnt (sentL gr4 (fun _ => true) n) (x.2.1.map D.int) x.2.2 }) (I := fun x => { f := [(10, .int .i64 x.1.1), (5, .bool true), (1, .int .i64 k), (9, .int .i64 (gr4 k)), (0, .int .i64 n), (6, .ptr nx 0)], h := (nx, ptS [] (nx + 1) n (nx + 2) 0 (sentL gr4 (fun _ => true) n) x.1.2.2) :: (nx + 1, .arr 112 sentT (sentL gr4 (fun _ => true) n)) :: (nx + 2, .arr 2 (.int .i64) (x.1.2.1.map D.int)) :: h, nx := nx + 3 }) (μ := fun x => 4 - x.1.1) _ _ _ ⟨(0, [0, 0, 0, 0], 0), Nat.zero_le _, rfl, fun q hq => by rw [if_neg (fun h => Nat.not_lt_zero q h.1)]; rcases (by omega : q = 0 ∨ q = 1 ∨ q = 2 ∨ q = 3) with rfl | rfl | rfl | rfl <;> rfl, hz n⟩ ?_ (fun x S2 hS2 => ?_)
    · refine leq_id (by simp only [frEq_cons, frEq_nil, frIn_cons, frIn_nil, and_true, fget_cons, Nat.reduceEqDiff, reduceIte, ↓reduceIte, true_and, SV.ren, SV.renL, ren1] <;> (try rfl) <;> (try simp)) (by (simp only [frLt_cons, frLt_nil, and_true, SV.lt, SV.ltL, true_and] <;> omega)) (by ((try simp only []); repeat first | exact HLe.refl _ | refine HLe.cons (by simp only [hget, Nat.reduceEqDiff, Nat.left_eq_add, Nat.add_eq_left, nm_ne2, nm_en2, nm_ne3, nm_en3, nm_ne4, nm_en4, nm_ne5, nm_en5, reduceIte, ↓reduceIte] <;> first | rfl | ((repeat rw [if_neg (by omega)]) <;> rfl)) ?_ | refine HLe.skip hnm (by omega) ?_ | refine HLe.frz hnm (by omega) ?_ | refine HLe.del hnm (by omega) ?_)) ?_ (by simp only [] <;> omega)
      exact .cons (by simp only []; omega) (ptS_lt (by simp only []; omega) (by simp only []; omega)) (by (repeat first | exact HLt.mono hnm (by simp only [] <;> omega) | refine HLt.cons (by simp only [] <;> omega) (by simp only [Tok.lt, SV.ltL, SV.lt, and_true, true_and] <;> omega) ?_))
    obtain ⟨⟨e, F, c⟩, he, hFl, hF, hc⟩ := x
    simp only at he hFl hF hc hS2 ⊢
    by_cases he4 : e < 4
    · have d2 : decide ((e : Int) < 4) = true := decide_eq_true (by omega)
      by_cases heg : e = k % 4
      · have d3 : ((e : Int) != gr4 k) = false := by rw [bne_eq_false_iff_eq]; unfold gr4; omega
        simp (maxSteps := 4000000) only [go_sem, goD_calls, eq_self, implies_true, Int.reduceEq, Int.reduceBEq, Int.reduceBNe, Int.reduceLE, Int.reduceLT, Int.reduceAdd, Int.reduceSub, Int.reduceMul, Int.reduceNeg, Nat.reduceMul, Nat.reduceSub, Nat.reduceLeDiff, Nat.reduceLT, Nat.reduceEqDiff, Nat.reduceAdd, reduceCtorEq, ↓reduceIte, reduceIte, d2, d3, min_i64, max_i64]
        refine ⟨by omega, ?_⟩
        refine hS2 _ ⟨(e + 1, F, c), by omega, hFl, fun q hq => ?_, hc⟩ (by simp only []; omega) ?_
        · rw [hF q hq]
          by_cases h1 : q < e ∧ q ≠ k % 4
          · rw [if_pos h1, if_pos ⟨by omega, h1.2⟩]
          · rw [if_neg h1, if_neg (fun h => h1 ⟨by omega, h.2⟩)]
        refine leq_id (by simp only [frEq_cons, frEq_nil, frIn_cons, frIn_nil, and_true, fget_cons, Nat.reduceEqDiff, reduceIte, ↓reduceIte, true_and, SV.ren, SV.renL, ren1] <;> (try rfl) <;> (try simp)) (by (simp only [frLt_cons, frLt_nil, and_true, SV.lt, SV.ltL, true_and] <;> omega)) (by ((try simp only []); repeat first | exact HLe.refl _ | refine HLe.cons (by simp only [hget, Nat.reduceEqDiff, Nat.left_eq_add, Nat.add_eq_left, nm_ne2, nm_en2, nm_ne3, nm_en3, nm_ne4, nm_en4, nm_ne5, nm_en5, reduceIte, ↓reduceIte] <;> first | rfl | ((repeat rw [if_neg (by omega)]) <;> rfl)) ?_ | refine HLe.skip hnm (by omega) ?_ | refine HLe.frz hnm (by omega) ?_ | refine HLe.del hnm (by omega) ?_)) ?_ (by simp only [] <;> omega)
        exact .cons (by simp only []; omega) (ptS_lt (by simp only []; omega) (by simp only []; omega)) (by (repeat first | exact HLt.mono hnm (by simp only [] <;> omega) | refine HLt.cons (by simp only [] <;> omega) (by simp only [Tok.lt, SV.ltL, SV.lt, and_true, true_and] <;> omega) ?_))
      · have d3 : ((e : Int) != gr4 k) = true := by rw [bne_iff_ne]; unfold gr4; omega
        obtain ⟨m, hm⟩ := cnt_ex (sentL gr4 (fun _ => true) n) ((bump F (e : Int) n).map D.int)
        simp (maxSteps := 4000000) only [go_sem, goD_calls, eq_self, implies_true, Int.reduceEq, Int.reduceBEq, Int.reduceBNe, Int.reduceLE, Int.reduceLT, Int.reduceAdd, Int.reduceSub, Int.reduceMul, Int.reduceNeg, Nat.reduceMul, Nat.reduceSub, Nat.reduceLeDiff, Nat.reduceLT, Nat.reduceEqDiff, Nat.reduceAdd, reduceCtorEq, ↓reduceIte, reduceIte, d2, d3, min_i64, max_i64]
        refine safe_cnt (by omega) (by omega) (by omega) hc hm (by rw [sentL_len]; omega) (hgr F hFl) (by rw [hFl]; omega) (fun b3 => ?_)
        simp (maxSteps := 4000000) only [go_sem, goD_calls, eq_self, implies_true, Int.reduceEq, Int.reduceBEq, Int.reduceBNe, Int.reduceLE, Int.reduceLT, Int.reduceAdd, Int.reduceSub, Int.reduceMul, Int.reduceNeg, Nat.reduceMul, Nat.reduceSub, Nat.reduceLeDiff, Nat.reduceLT, Nat.reduceEqDiff, Nat.reduceAdd, reduceCtorEq, ↓reduceIte, reduceIte, min_i64, max_i64]
        refine ⟨by omega, ?_⟩
        refine hS2 _ ⟨(e + 1, bump F (e : Int) n, m), by omega, by rw [bump_len, hFl], fun q hq => ?_, hm⟩ (by simp only []; omega) ?_
        · unfold bump
          rw [getD_set, Int.toNat_natCast, hF q hq, hF e he4]
          by_cases h1 : e = q
          · subst h1
            rw [if_pos ⟨rfl, by omega⟩, if_neg (fun h => Nat.lt_irrefl _ h.1), if_pos ⟨by omega, heg⟩]
            omega
          · rw [if_neg (fun h => h1 h.1)]
            by_cases h2 : q < e ∧ q ≠ k % 4
            · rw [if_pos h2, if_pos ⟨by omega, h2.2⟩]
            · rw [if_neg h2, if_neg (fun h => h2 ⟨by omega, h.2⟩)]
        refine leq_id (by simp only [frEq_cons, frEq_nil, frIn_cons, frIn_nil, and_true, fget_cons, Nat.reduceEqDiff, reduceIte, ↓reduceIte, true_and, SV.ren, SV.renL, ren1] <;> (try rfl) <;> (try simp)) (by (simp only [frLt_cons, frLt_nil, and_true, SV.lt, SV.ltL, true_and] <;> omega)) (by ((try simp only []); repeat first | exact HLe.refl _ | refine HLe.cons (by simp only [hget, Nat.reduceEqDiff, Nat.left_eq_add, Nat.add_eq_left, nm_ne2, nm_en2, nm_ne3, nm_en3, nm_ne4, nm_en4, nm_ne5, nm_en5, reduceIte, ↓reduceIte] <;> first | rfl | ((repeat rw [if_neg (by omega)]) <;> rfl)) ?_ | refine HLe.skip hnm (by omega) ?_ | refine HLe.frz hnm (by omega) ?_ | refine HLe.del hnm (by omega) ?_)) ?_ (by simp only [] <;> omega)
        exact .cons (by simp only []; omega) (ptS_lt (by simp only []; omega) (by simp only []; omega)) (by (repeat first | exact HLt.mono hnm (by simp only [] <;> omega) | refine HLt.cons (by simp only [] <;> omega) (by simp only [Tok.lt, SV.ltL, SV.lt, and_true, true_and] <;> omega) ?_))
    obtain rfl : e = 4 := by omega
    have d2 : decide (((4 : Nat) : Int) < 4) = false := rfl
    by_cases hk4 : 4 ≤ k
    · have d3 : decide ((4 : Int) ≤ (k : Int)) = true := decide_eq_true (by omega)
      obtain ⟨F2, hF2e⟩ : ∃ F2, bump F (gr4 k) ((k : Int) - 3) = F2 := ⟨_, rfl⟩
      have hF2 : ∀ q : Nat, q < 4 → F2.getD q 0 = if q ≠ k % 4 then (n : Int) else if 4 ≤ k then (k : Int) - 3 else 0 := fun q hq => by
        rw [← hF2e]
        unfold bump
        rw [getD_set, gr4_nat, hF q hq, hF (k % 4) (by omega), if_neg (fun h : _ ∧ k % 4 ≠ k % 4 => h.2 rfl)]
        by_cases h1 : k % 4 = q
        · rw [if_pos ⟨h1, by omega⟩, if_neg (fun h => h h1.symm), if_pos hk4]; omega
        · rw [if_neg (fun h => h1 h.1), if_pos ⟨hq, fun h => h1 h.symm⟩, if_pos (fun h => h1 h.symm)]
      simp (maxSteps := 4000000) only [go_sem, goD_calls, eq_self, implies_true, Int.reduceEq, Int.reduceBEq, Int.reduceBNe, Int.reduceLE, Int.reduceLT, Int.reduceAdd, Int.reduceSub, Int.reduceMul, Int.reduceNeg, Nat.reduceMul, Nat.reduceSub, Nat.reduceLeDiff, Nat.reduceLT, Nat.reduceEqDiff, Nat.reduceAdd, reduceCtorEq, ↓reduceIte, reduceIte, d2, d3, min_i64, max_i64]
      refine ⟨⟨by omega, by omega⟩, ?_⟩
      refine safe_cnt (by omega) (by omega) (by omega) hc (m := k) (by rw [hF2e]; exact one_cnt hkn hF2) (by rw [sentL_len]; omega) (hgr F hFl) (by rw [hFl]; exact gr4_in k) (fun b3 => ?_)
      rw [hF2e]
      have hm : isCnt (sentL gr4 (fun _ => true) n) (F2.map D.int) k := one_cnt hkn hF2
      have hlen2 : F2.length = 4 := by rw [← hF2e, bump_len, hFl]
      have hb3 : ∀ q : Nat, q < 4 → (bump F2 (gr4 k) n).getD q 0 = (n : Int) := fun q hq => by
        unfold bump
        rw [getD_set, gr4_nat, hF2 q hq, hF2 (k % 4) (by omega), if_neg (fun h : k % 4 ≠ k % 4 => h rfl)]
        split
        · first | omega | (split <;> omega)
        · rw [if_pos (by omega)]
      have hlen3 : (bump F2 (gr4 k) n).length = 4 := by rw [bump_len, hlen2]
      have hall := all_cnt hb3
      have v1 : ((k : Int) != (k : Int)) = false := by rw [bne_eq_false_iff_eq]
      have v2 : ((n : Int) - (k : Int) != (n : Int) - (k : Int)) = false := by rw [bne_eq_false_iff_eq]
      have v3 : ((n : Int) == (n : Int)) = true := beq_self_eq_true _
      have hl := lastN_sent gr4 (fun _ => true) (gr4 k) n (i := n) n (Nat.le_refl _)
      have v4 : decide ((k : Int) + 1 ≤ lastA gr4 (gr4 k) n n) = true := decide_eq_true (lastA_ge rfl (by omega) n hkn)
      have v5 : n ≤ 1000000 := by omega
      simp (maxSteps := 4000000) only [go_sem, goD_calls, eq_self, implies_true, Int.reduceEq, Int.reduceBEq, Int.reduceBNe, Int.reduceLE, Int.reduceLT, Int.reduceAdd, Int.reduceSub, Int.reduceMul, Int.reduceNeg, Nat.reduceMul, Nat.reduceSub, Nat.reduceLeDiff, Nat.reduceLT, Nat.reduceEqDiff, Nat.reduceAdd, reduceCtorEq, ↓reduceIte, reduceIte, spPVDL, spPLeft, ptS, ptC_def, pOk_c, sOk_c, iOk_c, pS_c, pU_c, pA_c, pV_c, pK_c, aL_c, pC_c, pD_c, sentL_len, hvd k (by omega), v1, v2, v5, min_i64, max_i64]
      refine ⟨⟨by omega, by omega⟩, ⟨by omega, by omega⟩, ?_⟩
      rw [← ept (F2.map D.int) k (by omega)]
      refine safe_cnt (by omega) (by omega) (by omega) hm (m := n) hall (by rw [sentL_len]; omega) (hgr F2 hlen2) (by rw [hlen2]; exact gr4_in k) (fun b3 => ?_)
      simp (maxSteps := 4000000) only [go_sem, goD_calls, eq_self, implies_true, Int.reduceEq, Int.reduceBEq, Int.reduceBNe, Int.reduceLE, Int.reduceLT, Int.reduceAdd, Int.reduceSub, Int.reduceMul, Int.reduceNeg, Nat.reduceMul, Nat.reduceSub, Nat.reduceLeDiff, Nat.reduceLT, Nat.reduceEqDiff, Nat.reduceAdd, reduceCtorEq, ↓reduceIte, reduceIte, spPVDL, spPLastO, ptS, ptC_def, pOk_c, sOk_c, iOk_c, pS_c, pU_c, pA_c, pV_c, pK_c, aL_c, pC_c, pD_c, sentL_len, hvd n (by omega), hl, v3, v4, v5, min_i64, max_i64]
      refine ⟨⟨by omega, by omega⟩, ⟨by omega, by omega⟩, ?_⟩
      refine safe_no (sp := []) (u := nx + 1) (a := n) (v := nx + 2) (k := (n : Int)) (c := vcA 0 (sentL gr4 (fun _ => true) n) n) (d := (n : Int)) (l := sentL gr4 (fun _ => true) n) (sf := (bump F2 (gr4 k) n).map D.int) (by simp [hget, ptC_def]) (by simp [hget]) (by simp [hget]) ⟨by omega, by rw [sentL_len]; omega⟩ (by rw [sentL_len]; omega) (hgr _ hlen3) (fun hh => ?_) ?_
      · have h1 := hh.2.2
        rw [getD_ints, gr4_nat, hb3 _ (by omega)] at h1
        omega
      simp (maxSteps := 4000000) only [go_sem, goD_calls, eq_self, implies_true, Int.reduceEq, Int.reduceBEq, Int.reduceBNe, Int.reduceLE, Int.reduceLT, Int.reduceAdd, Int.reduceSub, Int.reduceMul, Int.reduceNeg, Nat.reduceMul, Nat.reduceSub, Nat.reduceLeDiff, Nat.reduceLT, Nat.reduceEqDiff, Nat.reduceAdd, reduceCtorEq, ↓reduceIte, reduceIte]
      refine safe_no (sp := []) (u := nx + 1) (a := n) (v := nx + 2) (k := (n : Int)) (c := vcA 0 (sentL gr4 (fun _ => true) n) n) (d := (n : Int)) (l := sentL gr4 (fun _ => true) n) (sf := (bump F2 (gr4 k) n).map D.int) (by simp [hget, ptC_def]) (by simp [hget]) (by simp [hget]) ⟨by omega, by rw [sentL_len]; omega⟩ (by rw [sentL_len]; omega) (hgr _ hlen3) (fun hh => ?_) ?_
      · have h1 := hh.2.1
        rw [List.length_map, hlen3] at h1
        omega
      simp (maxSteps := 4000000) only [go_sem, goD_calls, eq_self, implies_true, Int.reduceEq, Int.reduceBEq, Int.reduceBNe, Int.reduceLE, Int.reduceLT, Int.reduceAdd, Int.reduceSub, Int.reduceMul, Int.reduceNeg, Nat.reduceMul, Nat.reduceSub, Nat.reduceLeDiff, Nat.reduceLT, Nat.reduceEqDiff, Nat.reduceAdd, reduceCtorEq, ↓reduceIte, reduceIte]
      refine (hQ _ ?_).1
      exact fin_t (.bool true) rfl rfl hnm (by ((try simp only []); repeat first | exact HLe.refl _ | refine HLe.cons (by simp only [hget, Nat.reduceEqDiff, Nat.left_eq_add, Nat.add_eq_left, nm_ne2, nm_en2, nm_ne3, nm_en3, nm_ne4, nm_en4, nm_ne5, nm_en5, reduceIte, ↓reduceIte] <;> first | rfl | ((repeat rw [if_neg (by omega)]) <;> rfl)) ?_ | refine HLe.skip hnm (by omega) ?_ | refine HLe.frz hnm (by omega) ?_ | refine HLe.del hnm (by omega) ?_)) hK
    · have d3 : decide ((4 : Int) ≤ (k : Int)) = false := decide_eq_false (by omega)
      obtain ⟨F2, hF2e⟩ : ∃ F2, F = F2 := ⟨_, rfl⟩
      have hF2 : ∀ q : Nat, q < 4 → F2.getD q 0 = if q ≠ k % 4 then (n : Int) else if 4 ≤ k then (k : Int) - 3 else 0 := fun q hq => by
        rw [← hF2e, hF q hq]
        by_cases h1 : k % 4 = q
        · rw [if_neg (fun h => h.2 h1.symm), if_neg (fun h => h h1.symm), if_neg hk4]
        · rw [if_pos ⟨hq, fun h => h1 h.symm⟩, if_pos (fun h => h1 h.symm)]
      rw [hF2e] at hc ⊢
      obtain rfl : k = c := cnt_one (one_cnt hkn hF2) hc
      simp (maxSteps := 4000000) only [go_sem, goD_calls, eq_self, implies_true, Int.reduceEq, Int.reduceBEq, Int.reduceBNe, Int.reduceLE, Int.reduceLT, Int.reduceAdd, Int.reduceSub, Int.reduceMul, Int.reduceNeg, Nat.reduceMul, Nat.reduceSub, Nat.reduceLeDiff, Nat.reduceLT, Nat.reduceEqDiff, Nat.reduceAdd, reduceCtorEq, ↓reduceIte, reduceIte, d2, d3, min_i64, max_i64]
      have hm : isCnt (sentL gr4 (fun _ => true) n) (F2.map D.int) k := one_cnt hkn hF2
      have hlen2 : F2.length = 4 := by rw [← hF2e, hFl]
      have hb3 : ∀ q : Nat, q < 4 → (bump F2 (gr4 k) n).getD q 0 = (n : Int) := fun q hq => by
        unfold bump
        rw [getD_set, gr4_nat, hF2 q hq, hF2 (k % 4) (by omega), if_neg (fun h : k % 4 ≠ k % 4 => h rfl)]
        split
        · first | omega | (split <;> omega)
        · rw [if_pos (by omega)]
      have hlen3 : (bump F2 (gr4 k) n).length = 4 := by rw [bump_len, hlen2]
      have hall := all_cnt hb3
      have v1 : ((k : Int) != (k : Int)) = false := by rw [bne_eq_false_iff_eq]
      have v2 : ((n : Int) - (k : Int) != (n : Int) - (k : Int)) = false := by rw [bne_eq_false_iff_eq]
      have v3 : ((n : Int) == (n : Int)) = true := beq_self_eq_true _
      have hl := lastN_sent gr4 (fun _ => true) (gr4 k) n (i := n) n (Nat.le_refl _)
      have v4 : decide ((k : Int) + 1 ≤ lastA gr4 (gr4 k) n n) = true := decide_eq_true (lastA_ge rfl (by omega) n hkn)
      have v5 : n ≤ 1000000 := by omega
      simp (maxSteps := 4000000) only [go_sem, goD_calls, eq_self, implies_true, Int.reduceEq, Int.reduceBEq, Int.reduceBNe, Int.reduceLE, Int.reduceLT, Int.reduceAdd, Int.reduceSub, Int.reduceMul, Int.reduceNeg, Nat.reduceMul, Nat.reduceSub, Nat.reduceLeDiff, Nat.reduceLT, Nat.reduceEqDiff, Nat.reduceAdd, reduceCtorEq, ↓reduceIte, reduceIte, spPVDL, spPLeft, ptS, ptC_def, pOk_c, sOk_c, iOk_c, pS_c, pU_c, pA_c, pV_c, pK_c, aL_c, pC_c, pD_c, sentL_len, hvd k (by omega), v1, v2, v5, min_i64, max_i64]
      refine ⟨⟨by omega, by omega⟩, ⟨by omega, by omega⟩, ?_⟩
      rw [← ept (F2.map D.int) k (by omega)]
      refine safe_cnt (by omega) (by omega) (by omega) hm (m := n) hall (by rw [sentL_len]; omega) (hgr F2 hlen2) (by rw [hlen2]; exact gr4_in k) (fun b3 => ?_)
      simp (maxSteps := 4000000) only [go_sem, goD_calls, eq_self, implies_true, Int.reduceEq, Int.reduceBEq, Int.reduceBNe, Int.reduceLE, Int.reduceLT, Int.reduceAdd, Int.reduceSub, Int.reduceMul, Int.reduceNeg, Nat.reduceMul, Nat.reduceSub, Nat.reduceLeDiff, Nat.reduceLT, Nat.reduceEqDiff, Nat.reduceAdd, reduceCtorEq, ↓reduceIte, reduceIte, spPVDL, spPLastO, ptS, ptC_def, pOk_c, sOk_c, iOk_c, pS_c, pU_c, pA_c, pV_c, pK_c, aL_c, pC_c, pD_c, sentL_len, hvd n (by omega), hl, v3, v4, v5, min_i64, max_i64]
      refine ⟨⟨by omega, by omega⟩, ⟨by omega, by omega⟩, ?_⟩
      refine safe_no (sp := []) (u := nx + 1) (a := n) (v := nx + 2) (k := (n : Int)) (c := vcA 0 (sentL gr4 (fun _ => true) n) n) (d := (n : Int)) (l := sentL gr4 (fun _ => true) n) (sf := (bump F2 (gr4 k) n).map D.int) (by simp [hget, ptC_def]) (by simp [hget]) (by simp [hget]) ⟨by omega, by rw [sentL_len]; omega⟩ (by rw [sentL_len]; omega) (hgr _ hlen3) (fun hh => ?_) ?_
      · have h1 := hh.2.2
        rw [getD_ints, gr4_nat, hb3 _ (by omega)] at h1
        omega
      simp (maxSteps := 4000000) only [go_sem, goD_calls, eq_self, implies_true, Int.reduceEq, Int.reduceBEq, Int.reduceBNe, Int.reduceLE, Int.reduceLT, Int.reduceAdd, Int.reduceSub, Int.reduceMul, Int.reduceNeg, Nat.reduceMul, Nat.reduceSub, Nat.reduceLeDiff, Nat.reduceLT, Nat.reduceEqDiff, Nat.reduceAdd, reduceCtorEq, ↓reduceIte, reduceIte]
      refine safe_no (sp := []) (u := nx + 1) (a := n) (v := nx + 2) (k := (n : Int)) (c := vcA 0 (sentL gr4 (fun _ => true) n) n) (d := (n : Int)) (l := sentL gr4 (fun _ => true) n) (sf := (bump F2 (gr4 k) n).map D.int) (by simp [hget, ptC_def]) (by simp [hget]) (by simp [hget]) ⟨by omega, by rw [sentL_len]; omega⟩ (by rw [sentL_len]; omega) (hgr _ hlen3) (fun hh => ?_) ?_
      · have h1 := hh.2.1
        rw [List.length_map, hlen3] at h1
        omega
      simp (maxSteps := 4000000) only [go_sem, goD_calls, eq_self, implies_true, Int.reduceEq, Int.reduceBEq, Int.reduceBNe, Int.reduceLE, Int.reduceLT, Int.reduceAdd, Int.reduceSub, Int.reduceMul, Int.reduceNeg, Nat.reduceMul, Nat.reduceSub, Nat.reduceLeDiff, Nat.reduceLT, Nat.reduceEqDiff, Nat.reduceAdd, reduceCtorEq, ↓reduceIte, reduceIte]
      refine (hQ _ ?_).1
      exact fin_t (.bool true) rfl rfl hnm (by ((try simp only []); repeat first | exact HLe.refl _ | refine HLe.cons (by simp only [hget, Nat.reduceEqDiff, Nat.left_eq_add, Nat.add_eq_left, nm_ne2, nm_en2, nm_ne3, nm_en3, nm_ne4, nm_en4, nm_ne5, nm_en5, reduceIte, ↓reduceIte] <;> first | rfl | ((repeat rw [if_neg (by omega)]) <;> rfl)) ?_ | refine HLe.skip hnm (by omega) ?_ | refine HLe.frz hnm (by omega) ?_ | refine HLe.del hnm (by omega) ?_)) hK
  · exact hsp.elim
end Go.Proofs.YtmjenjccinfbaaaDoor
