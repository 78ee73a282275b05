/- Chapter 14: TrackBorn. -/
import Derived.Test.YtkojpimkngmckaaDoorTrkM
import Derived.Test.YtkojpimkngmckaaDoorNum
namespace Go.Proofs.YtkojpimkngmckaaDoor
set_option linter.unusedVariables false
set_option linter.unusedSimpArgs false
open Go Go.Fw

theorem and1023 (x : Int) : bitI .and .i64 x 1023 = x % 1024 := by
  show IntKind.i64.wrap ((BitVec.ofInt 64 x &&& BitVec.ofInt 64 1023).toNat : Nat) = _
  have h : (BitVec.ofInt 64 x &&& BitVec.ofInt 64 1023).toNat = (BitVec.ofInt 64 x).toNat % 1024 := by
    rw [BitVec.toNat_and]
    have : (BitVec.ofInt 64 1023).toNat = 2 ^ 10 - 1 := by decide
    rw [this, Nat.and_two_pow_sub_one_eq_mod]
  rw [h, BitVec.toNat_ofInt]
  rw [wrap_i64' (by omega) (by omega)]
  omega
theorem has6_len (f : Int → Option D) (v : Int) : (hasL (sixL 0) f v).length = cnt f v := by
  unfold hasL
  rw [List.length_map, ← List.countP_eq_length_filter]
  unfold cnt six0
  have : sixL 0 = [0, 1, 2, 3, 4, 5].map D.int := rfl
  rw [this, List.countP_map]
  rfl
def WTrackBorn : Opts := mkWE 103 [] [3, 4, 5] [] 184 [3, 4, 5] []
def icTrackBorn : IC := (.seq (.seq (.ops [(.u (.mov 6 (.c (.bool false))))]) (.tr [0, 1, 2])) (.seq (.seq (.ops [(.u (.call 12 (.c (.clo 22 [])) [] [] true)), (.u (.mov 7 (.s 12)))]) (.tr [0, 1, 2, 7])) (.seq (.seq (.seq (.ops [(.u (.mov 13 (.s 7))), (.u (.una 14 .not (.s 13)))]) (.tr [14, 0, 1, 2, 7])) (.cond (.s 14) (.seq (.seq (.ops [(.u (.mov 6 (.c (.bool false))))]) (.tr [6])) .ret) .skip)) (.seq (.seq (.ops [(.u (.mov 15 (.s 0))), (.u (.call 16 (.c (.clo 25 [])) [(.s 15), (.c (.int .i64 4))] [none, none] true)), (.u (.mov 0 (.s 16)))]) (.tr [1, 2, 7, 0])) (.seq (.seq (.ops [(.u (.mov 17 (.s 1))), (.u (.call 18 (.c (.clo 25 [])) [(.s 17), (.c (.int .i64 9))] [none, none] true)), (.u (.bin 19 .add .i64 (.s 18) (.c (.int .i64 1)))), (.u (.mov 1 (.s 19)))]) (.tr [2, 7, 0, 1])) (.seq (.seq (.ops [(.u (.mov 20 (.s 2))), (.u (.bin 21 .and .i64 (.s 20) (.c (.int .i64 1023)))), (.u (.bin 22 .add .i64 (.s 21) (.c (.int .i64 1)))), (.u (.mov 2 (.s 22)))]) (.tr [7, 0, 1, 2])) (.seq (.seq (.ops [(.u (.call 24 (.c (.clo 24 [])) [] [] true)), (.u (.call 25 (.c (.clo 23 [])) [(.s 24)] [none] true)), (.u (.mov 23 (.s 25))), (.u (.ext 26 0 (.s 23))), (.u (.ext 27 1 (.s 23))), (.u (.mov 8 (.s 26))), (.u (.mov 9 (.s 27)))]) (.tr [9, 7, 0, 1, 8, 2])) (.seq (.seq (.seq (.ops [(.u (.mov 28 (.s 8))), (.u (.eqb 29 false 1 (.s 28))), (.u (.mov 30 (.s 29))), (.g 30 false (some 31) (.mov 31 (.s 9))), (.g 30 false (some 32) (.eqb 32 true 0 (.s 31))), (.u (.pck 33 (.s 30) (.c (.bool true)) (.s 32)))]) (.tr [33, 7, 0, 1, 8, 2])) (.cond (.s 33) (.seq (.seq (.ops [(.u (.mov 6 (.c (.bool false))))]) (.tr [6])) .ret) .skip)) (.seq (.seq (.seq (.ops [(.u (.mov 10 (.c (.int .i64 0))))]) (.tr [10, 7, 0, 1, 8, 2])) (.block 0 (.loop (.seq (.seq (.seq (.ops [(.u (.mov 34 (.s 10))), (.u (.cmp 35 .lss (.s 34) (.c (.int .i64 4))))]) (.tr [35, 10, 7, 0, 1, 8, 2])) (.cond (.s 35) .skip (.exit 0))) (.seq (.block 1 (.seq (.seq (.ops [(.u (.mov 38 (.s 8))), (.u (.mov 39 (.s 10))), (.u (.mov 40 (.s 2))), (.u (.call 41 (.c (.clo 26 [])) [(.s 38), (.s 39), (.c (.int .i64 0)), (.s 40)] [none, none, none, none] true)), (.u (.una 42 .not (.s 41)))]) (.tr [42, 10, 7, 0, 1, 8, 2])) (.cond (.s 42) (.seq (.seq (.ops [(.u (.mov 6 (.c (.bool false))))]) (.tr [6])) .ret) .skip))) (.seq (.ops [(.u (.mov 36 (.s 10))), (.u (.bin 37 .add .i64 (.s 36) (.c (.int .i64 1)))), (.u (.mov 10 (.s 37)))]) (.tr [10, 7, 0, 1, 8, 2]))))))) (.seq (.seq (.ops [(.u (.mov 43 (.s 8))), (.u (.call 44 (.c (.clo 27 [])) [(.s 43)] [none] true)), (.u (.mov 11 (.s 44)))]) (.tr [11, 7, 0, 1, 8, 2])) (.seq (.seq (.ops [(.u (.mov 45 (.s 8))), (.u (.mov 46 (.s 0))), (.u (.mov 47 (.s 1))), (.u (.call 48 (.c (.clo 32 [])) [(.s 45), (.s 46), (.s 47)] [none, none, none] true))]) (.tr [11, 7, 0, 1, 8, 2])) (.seq (.seq (.seq (.ops [(.u (.mov 49 (.s 11))), (.u (.mov 50 (.s 2))), (.u (.cmp 51 .neq (.s 49) (.s 50))), (.u (.mov 52 (.s 51))), (.g 52 false (some 53) (.mov 53 (.s 8))), (.g 52 false (some 54) (.call 54 (.c (.clo 27 [])) [(.s 53)] [none] true)), (.g 52 false (some 55) (.cmp 55 .neq (.s 54) (.c (.int .i64 0)))), (.u (.pck 56 (.s 52) (.c (.bool true)) (.s 55))), (.u (.mov 57 (.s 56))), (.g 57 false (some 58) (.mov 58 (.s 8))), (.g 57 false (some 59) (.mov 59 (.s 0))), (.g 57 false (some 60) (.call 60 (.c (.clo 28 [])) [(.s 58), (.s 59)] [none, none] true)), (.g 57 false (some 61) (.cmp 61 .neq (.s 60) (.c (.int .i64 0)))), (.u (.pck 62 (.s 57) (.c (.bool true)) (.s 61))), (.u (.mov 63 (.s 62))), (.g 63 false (some 64) (.mov 64 (.s 8))), (.g 63 false (some 65) (.mov 65 (.s 0))), (.g 63 false (some 66) (.mov 66 (.s 2))), (.g 63 false (some 67) (.call 67 (.c (.clo 26 [])) [(.s 64), (.s 65), (.c (.int .i64 0)), (.s 66)] [none, none, none, none] true)), (.u (.pck 68 (.s 63) (.c (.bool true)) (.s 67))), (.u (.mov 69 (.s 68))), (.g 69 false (some 70) (.mov 70 (.s 8))), (.g 69 false (some 71) (.call 71 (.c (.clo 27 [])) [(.s 70)] [none] true)), (.g 69 false (some 72) (.cmp 72 .neq (.s 71) (.c (.int .i64 0)))), (.u (.pck 73 (.s 69) (.c (.bool true)) (.s 72)))]) (.tr [73, 7, 0, 1, 8, 2])) (.cond (.s 73) (.seq (.seq (.ops [(.u (.mov 6 (.c (.bool false))))]) (.tr [6])) .ret) .skip)) (.seq (.seq (.ops [(.u (.mov 74 (.s 7))), (.u (.mov 75 (.s 74))), (.g 75 true (some 76) (.mov 76 (.s 8))), (.g 75 true (some 77) (.mov 77 (.s 0))), (.g 75 true (some 78) (.mov 78 (.s 1))), (.g 75 true (some 79) (.mov 79 (.s 2))), (.g 75 true (some 80) (.call 80 (.c (.clo 26 [])) [(.s 76), (.s 77), (.s 78), (.s 79)] [none, none, none, none] true)), (.u (.pck 81 (.s 75) (.s 80) (.c (.bool false)))), (.u (.mov 82 (.s 81))), (.g 82 true (some 83) (.mov 83 (.s 8))), (.g 82 true (some 84) (.call 84 (.c (.clo 27 [])) [(.s 83)] [none] true)), (.g 82 true (some 85) (.mov 85 (.s 2))), (.g 82 true (some 86) (.cmp 86 .eql (.s 84) (.s 85))), (.u (.pck 87 (.s 82) (.s 86) (.c (.bool false)))), (.u (.mov 88 (.s 87))), (.g 88 true (some 89) (.mov 89 (.s 8))), (.g 88 true (some 90) (.mov 90 (.s 2))), (.g 88 true (some 91) (.call 91 (.c (.clo 31 [])) [(.s 89), (.s 90)] [none, none] true)), (.g 88 true (some 92) (.len 92 false (.s 91))), (.g 88 true (some 93) (.cmp 93 .eql (.s 92) (.c (.int .i64 4)))), (.u (.pck 94 (.s 88) (.s 93) (.c (.bool false)))), (.u (.mov 95 (.s 94))), (.g 95 true (some 96) (.mov 96 (.s 8))), (.g 95 true (some 97) (.mov 97 (.s 2))), (.g 95 true (some 98) (.bin 98 .add .i64 (.s 97) (.c (.int .i64 1)))), (.g 95 true (some 99) (.call 99 (.c (.clo 31 [])) [(.s 96), (.s 98)] [none, none] true)), (.g 95 true (some 100) (.len 100 false (.s 99))), (.g 95 true (some 101) (.cmp 101 .eql (.s 100) (.c (.int .i64 0)))), (.u (.pck 102 (.s 95) (.s 101) (.c (.bool false)))), (.u (.mov 6 (.s 102)))]) (.tr [6])) .ret)))))))))))))
def rsTrackBorn : List RV := [(.t 6)]
theorem irTrackBorn : fnIR Tryd.prog WTrackBorn 6 = some (icTrackBorn, rsTrackBorn) := by kernel_rfl
def spTrackBorn : FSpec := fun args h nx K => match args with
  | [.int .i64 who, .int .i64 inc, .int .i64 n] => K (.bool true) h
  | _ => False
set_option maxHeartbeats 4000000 in
set_option maxRecDepth 8000 in
theorem vTrackBorn {E : Nat → Value} (hE : Errs2 Tryd.prog (some 184) E) : Valid Tryd.prog E (gs GCE) 6 spTrackBorn := by
  refine valid_go (W := WTrackBorn) hE (((((((((allValid_bot.add (up (vL14first hE))).add (up (vNumber hE))).add (up (vL14six hE))).add (up (vTNew hE))).add (up (vTAck hE))).add (up (vTPgcl hE))).add (up (vTBorn hE))).add (up (vTScl hE))).add (up (vTHas hE))) irTrackBorn (by decide) (fun args h nx K hsp hok hnm => ?_)
  unfold spTrackBorn at hsp
  split at hsp
  · rename_i who0 inc0 n0
    have hK := hsp
    refine ⟨by simp [WTrackBorn, mkW, mkWE, mkWF], fun Q hQ => ?_⟩
    have hs6 : (sixL 0).length ≤ 1000 := by decide
    have hp6 := p6_ok
    have g4 : (0 : Int) < 4 := by decide
    have g9 : (0 : Int) < 9 := by decide
    obtain ⟨who, hw⟩ : ∃ x, who0 % 4 = x := ⟨_, rfl⟩
    obtain ⟨inc', hi0⟩ : ∃ x, inc0 % 9 = x := ⟨_, rfl⟩
    obtain ⟨n', hn0⟩ : ∃ x, n0 % 1024 = x := ⟨_, rfl⟩
    have rw1 : 0 ≤ who ∧ who < 4 := by rw [← hw]; exact ⟨Int.emod_nonneg _ (by decide), Int.emod_lt_of_pos _ (by decide)⟩
    have rw2 : 0 ≤ inc' ∧ inc' < 9 := by rw [← hi0]; exact ⟨Int.emod_nonneg _ (by decide), Int.emod_lt_of_pos _ (by decide)⟩
    have rw3 : 0 ≤ n' ∧ n' < 1024 := by rw [← hn0]; exact ⟨Int.emod_nonneg _ (by decide), Int.emod_lt_of_pos _ (by decide)⟩
    obtain ⟨inc, hi1⟩ : ∃ x, inc' + 1 = x := ⟨_, rfl⟩
    obtain ⟨n, hn1⟩ : ∃ x, n' + 1 = x := ⟨_, rfl⟩
    simp (maxSteps := 4000000) only [icTrackBorn, walkSet, eq_self, implies_true, evMdl, evMupD, evMup, evLkp, Int.reduceEq, Int.reduceBEq, Int.reduceBNe, Int.reduceLE, Int.reduceLT, Int.reduceAdd, Int.reduceSub, Int.reduceMul, Int.reduceNeg, frpL, preF, preP, prePt, prePd, frzP, evNlq, ev, frOf, oget, ogets, argSs, argS, evMm, frzL, evBin, evWrp, evShf, evCmp, evUna, evNil, evBeq, evLd, evSt, evFad, evIad, evAad, evLen, evSln, evEls, evApp, evParts, evSlc, evNlc, evMif, evPck, evFld, evBld, evTas, evIfq, evSeq, evSl0, evBxf, evAgl, evAgq, evBsf, hget, hset, hdel, cellAt, arrAt, setCellAt, setArrAt, takeC, lenC, svCells, SV.okc, SV.one, ldSV, Fw.isAgg, Nat.reduceMul, Nat.reduceSub, Nat.reduceLeDiff, Nat.reduceLT, explode, explodeL, toD, toDL, toD1, Ty.size, Ty.sizeL, frz1, Fr.sub, Heap.sub, Tok.sub, SV.sub, SV.subL, Nat.reduceEqDiff, Nat.reduceAdd, reduceCtorEq, ↓reduceIte, reduceIte, spL14first, spL14six, spTNew, spNumber, g4, g9, hw, hi0, and1023, hn0, hi1, hn1, cfgA, six_nil, tNew_six]
    refine ⟨⟨by rw [min_i64]; omega, by rw [max_i64]; omega⟩, ⟨by rw [min_i64]; omega, by rw [max_i64]; omega⟩, ?_⟩
    refine go_loop (α := { x : Nat × (Int → Option D) // x.1 ≤ 4 ∧ ∀ m, atI x.2 m = if 0 ≤ m ∧ m < x.1 then n else 0 }) (I := fun x => { f := [(10, .int .i64 x.1.1), (7, .bool true), (0, .int .i64 who), (1, .int .i64 inc), (8, .ptr nx 0), (2, .int .i64 n)], h := [(nx, tCells (nx + 1) (nx + 2)), (nx + 1, .map 3 2 x.1.2), (nx + 2, .map 3 3 mEmpty)] ++ h, nx := nx + 3 }) (μ := fun x => 4 - x.1.1) _ _ _ ⟨(0, mEmpty), by omega, fun m => by rw [if_neg (by simp only []; omega)]; rfl⟩ ?_ (fun x B hB => ?_)
    · refine leq_news [(nx, nx + 64 + 64 + 64 + 64), (nx + 1, nx + 64 + 64 + 64 + 64 + 1), (nx + 2, nx + 64 + 64 + 64 + 64 + 2)] [(nx, tCells (nx + 1) (nx + 2)), (nx + 1, .map 3 2 mEmpty), (nx + 2, .map 3 3 mEmpty)] (.refl _) (by simp) (by simp <;> omega) (by simp <;> omega) rfl ?_ ?_ ?_ ?_ hnm ?_ (by omega)
      · simp [frIn_cons, frIn_nil, fget_cons, fget_nil, SV.ren, SV.renL, rens]
      · (simp only [frLt_cons, frLt_nil, and_true, SV.lt, SV.ltL, true_and] <;> omega)
      · simp only [tCells]
        (simp only [List.mem_cons, List.not_mem_nil, or_false, forall_eq_or_imp, forall_eq]; simp [hget, rens, Tok.ren, SV.ren, SV.renL])
      · simp only [tCells]
        (simp only [List.mem_cons, List.not_mem_nil, or_false, forall_eq_or_imp, forall_eq, Tok.lt, SV.lt, SV.ltL, and_true, true_and] <;> omega)
      · ((try simp only []); repeat first | exact HLe.refl _ | refine HLe.cons (by simp only [hget, Nat.reduceEqDiff, Nat.left_eq_add, Nat.add_eq_left, nm_ne2, nm_en2, nm_ne3, nm_en3, nm_ne4, nm_en4, nm_ne5, nm_en5, reduceIte, ↓reduceIte] <;> first | rfl | ((repeat rw [if_neg (by omega)]) <;> rfl)) ?_ | refine HLe.skip hnm (by omega) ?_ | refine HLe.frz hnm (by omega) ?_ | refine HLe.del hnm (by omega) ?_)
    · obtain ⟨⟨i, f⟩, hi, hf⟩ := x
      simp only at hi hf hB
      by_cases hil : i < 4
      · have c1 : decide ((i : Int) < 4) = true := decide_eq_true (by omega)
        have ha := ack6 (g := mEmpty) (n := i) (inc := 0) (scl := n) (by omega) (by omega) rfl (by omega) (by omega)
        have hm : max (atI f i) n = n := by rw [hf, if_neg (by omega)]; omega
        simp (maxSteps := 4000000) only [walkSet, eq_self, implies_true, evMdl, evMupD, evMup, evLkp, Int.reduceEq, Int.reduceBEq, Int.reduceBNe, Int.reduceLE, Int.reduceLT, Int.reduceAdd, Int.reduceSub, Int.reduceMul, Int.reduceNeg, frpL, preF, preP, prePt, prePd, frzP, evNlq, ev, frOf, oget, ogets, argSs, argS, evMm, frzL, evBin, evWrp, evShf, evCmp, evUna, evNil, evBeq, evLd, evSt, evFad, evIad, evAad, evLen, evSln, evEls, evApp, evParts, evSlc, evNlc, evMif, evPck, evFld, evBld, evTas, evIfq, evSeq, evSl0, evBxf, evAgl, evAgq, evBsf, hget, hset, hdel, cellAt, arrAt, setCellAt, setArrAt, takeC, lenC, svCells, SV.okc, SV.one, ldSV, Fw.isAgg, Nat.reduceMul, Nat.reduceSub, Nat.reduceLeDiff, Nat.reduceLT, explode, explodeL, toD, toDL, toD1, Ty.size, Ty.sizeL, frz1, Fr.sub, Heap.sub, Tok.sub, SV.sub, SV.subL, Nat.reduceEqDiff, Nat.reduceAdd, reduceCtorEq, ↓reduceIte, reduceIte, c1, tCells, spTAck, spTPgcl, spTScl, spTBorn, spTDrop, spTHas, tOk_c, tA_c, tB_c, tM_c, tP_c, sOk_c, iOk_c, mF_c, hs6, hp6, ha, hm]
        refine ⟨⟨by rw [min_i64]; omega, by rw [max_i64]; omega⟩, ?_⟩
        refine hB _ ⟨(i + 1, mSet f i (.int n)), by simp only []; omega, fun m => ?_⟩ (by simp only []; omega) ?_
        · rw [atI_set, hf]
          simp only []
          by_cases h1 : m = i
          · rw [if_pos h1, if_pos (by omega)]
          · rw [if_neg h1]
            by_cases h2 : 0 ≤ m ∧ m < i
            · rw [if_pos h2, if_pos (by omega)]
            · rw [if_neg h2, if_neg (by omega)]
        · refine leq_id ?_ (by (simp only [frLt_cons, frLt_nil, and_true, SV.lt, SV.ltL, true_and] <;> omega)) (by simp only [tCells]; ((try simp only []); repeat first | exact HLe.refl _ | refine HLe.cons (by simp only [hget, Nat.reduceEqDiff, Nat.left_eq_add, Nat.add_eq_left, nm_ne2, nm_en2, nm_ne3, nm_en3, nm_ne4, nm_en4, nm_ne5, nm_en5, reduceIte, ↓reduceIte] <;> first | rfl | ((repeat rw [if_neg (by omega)]) <;> rfl)) ?_ | refine HLe.skip hnm (by omega) ?_ | refine HLe.frz hnm (by omega) ?_ | refine HLe.del hnm (by omega) ?_)) (by unfold tCells; (repeat first | exact HLt.mono hnm (by simp only [] <;> omega) | refine HLt.cons (by simp only [] <;> omega) (by simp only [Tok.lt, SV.ltL, SV.lt, and_true, true_and] <;> omega) ?_)) (by simp only [] <;> omega)
          simp only [frEq_cons, frEq_nil, frIn_cons, frIn_nil, and_true, fget_cons, Nat.reduceEqDiff, reduceIte, ↓reduceIte, true_and, SV.ren, SV.renL, ren1]
          simp
      · obtain rfl : i = 4 := by omega
        have c1 : decide (((4 : Nat) : Int) < 4) = false := rfl
        have n1 : 1 ≤ n ∧ n ≤ 1024 := by omega
        have hp1 : pgcl (sixL 0) p6 f = n := pg6_eq (by omega) (.inr (by rw [cnt_eq]; simp [hf] <;> omega)) (fun y hy => by
          have : ∀ m, ¬ y ≤ atI f m := fun m => by rw [hf]; split <;> omega
          rw [cnt_eq]
          simp [this])
        have hf2 : ∀ m, atI (mDel f who) m = if m = who then 0 else if 0 ≤ m ∧ m < 4 then n else 0 := fun m => by rw [atI_del, hf]; rfl
        have hp2 : pgcl (sixL 0) p6 (mDel f who) = 0 := pg6_eq (by omega) (.inl rfl) (fun y hy => by
          rw [cnt_eq]
          simp only [hf2]
          have hc : who = 0 ∨ who = 1 ∨ who = 2 ∨ who = 3 := by omega
          have y0 : ¬ y ≤ 0 := by omega
          rcases hc with rfl | rfl | rfl | rfl <;> simp [y0] <;> split <;> omega)
        have hw0 : atI (mDel f who) who = 0 := by rw [atI_del, if_pos rfl]
        have hb0 : (atI mEmpty who = inc) = False := eq_false (by rw [atI_empty]; omega)
        have hg : atI (mSet mEmpty who (.int inc)) who = inc := by rw [atI_set, if_pos rfl]
        have ha1 : ackB (sixL 0) (mSet mEmpty who (.int inc)) who 0 n = false := ack6_no (.inr (.inl (by rw [hg]; omega)))
        have ha2 : ackB (sixL 0) (mSet mEmpty who (.int inc)) who inc n = true := ack6 (by omega) (by omega) hg (by omega) (by omega)
        have hmx : max 0 n = n := by omega
        have hf3 : ∀ m, atI (mSet (mDel f who) who (.int n)) m = if 0 ≤ m ∧ m < 4 then n else 0 := fun m => by
          rw [atI_set, hf2]
          by_cases h1 : m = who
          · rw [if_pos h1, if_pos (by omega)]
          · rw [if_neg h1, if_neg h1]
        have hp3 : pgcl (sixL 0) p6 (mSet (mDel f who) who (.int n)) = n := pg6_eq (by omega) (.inr (by rw [cnt_eq]; simp [hf3] <;> omega)) (fun y hy => by
          have : ∀ m, ¬ y ≤ atI (mSet (mDel f who) who (.int n)) m := fun m => by rw [hf3]; split <;> omega
          rw [cnt_eq]
          simp [this])
        have hl1 : (hasL (sixL 0) (mSet (mDel f who) who (.int n)) n).length = 4 := by
          rw [has6_len, cnt_eq]
          have : ¬ n ≤ 0 := by omega
          simp [hf3, this]
        have hl2 : (hasL (sixL 0) (mSet (mDel f who) who (.int n)) (n + 1)).length = 0 := by
          rw [has6_len, cnt_eq]
          have : ∀ m, ¬ n + 1 ≤ atI (mSet (mDel f who) who (.int n)) m := fun m => by rw [hf3]; split <;> omega
          simp [this]
        have q1 : (n != n) = false := by simp
        have q2 : (n == n) = true := by simp
        have q3 : ((0 : Int) != 0) = false := rfl
        have q4 : (((4 : Nat) : Int) == 4) = true := rfl
        have q5 : (((0 : Nat) : Int) == 0) = true := rfl
        simp (maxSteps := 4000000) only [walkSet, eq_self, implies_true, evMdl, evMupD, evMup, evLkp, Int.reduceEq, Int.reduceBEq, Int.reduceBNe, Int.reduceLE, Int.reduceLT, Int.reduceAdd, Int.reduceSub, Int.reduceMul, Int.reduceNeg, frpL, preF, preP, prePt, prePd, frzP, evNlq, ev, frOf, oget, ogets, argSs, argS, evMm, frzL, evBin, evWrp, evShf, evCmp, evUna, evNil, evBeq, evLd, evSt, evFad, evIad, evAad, evLen, evSln, evEls, evApp, evParts, evSlc, evNlc, evMif, evPck, evFld, evBld, evTas, evIfq, evSeq, evSl0, evBxf, evAgl, evAgq, evBsf, hget, hset, hdel, cellAt, arrAt, setCellAt, setArrAt, takeC, lenC, svCells, SV.okc, SV.one, ldSV, Fw.isAgg, Nat.reduceMul, Nat.reduceSub, Nat.reduceLeDiff, Nat.reduceLT, explode, explodeL, toD, toDL, toD1, Ty.size, Ty.sizeL, frz1, Fr.sub, Heap.sub, Tok.sub, SV.sub, SV.subL, Nat.reduceEqDiff, Nat.reduceAdd, reduceCtorEq, ↓reduceIte, reduceIte, c1, tCells, spTAck, spTPgcl, spTScl, spTBorn, spTDrop, spTHas, tOk_c, tA_c, tB_c, tM_c, tP_c, sOk_c, iOk_c, mF_c, hs6, hp6, hp1, hp2, hp3, hw0, hb0, ha1, ha2, hmx, hl1, hl2, q1, q2, q3, q4, q5, ne_eq, not_false_eq_true]
        refine ⟨⟨by rw [min_i64]; omega, by rw [max_i64]; omega⟩, ?_⟩
        refine (hQ _ ?_).1
        exact fin_t (.bool true) rfl rfl hnm (by ((try simp only []); repeat first | exact HLe.refl _ | refine HLe.cons (by simp only [hget, Nat.reduceEqDiff, Nat.left_eq_add, Nat.add_eq_left, nm_ne2, nm_en2, nm_ne3, nm_en3, nm_ne4, nm_en4, nm_ne5, nm_en5, reduceIte, ↓reduceIte] <;> first | rfl | ((repeat rw [if_neg (by omega)]) <;> rfl)) ?_ | refine HLe.skip hnm (by omega) ?_ | refine HLe.frz hnm (by omega) ?_ | refine HLe.del hnm (by omega) ?_)) hK
  · exact hsp.elim
end Go.Proofs.YtkojpimkngmckaaDoor
