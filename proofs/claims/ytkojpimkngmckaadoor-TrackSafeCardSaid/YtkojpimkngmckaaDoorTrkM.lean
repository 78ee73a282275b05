/- Chapter 14: the chapter's example. -/
import Derived.Test.YtkojpimkngmckaaDoorTrkL
namespace Go.Proofs.YtkojpimkngmckaaDoor
set_option linter.unusedVariables false
set_option linter.unusedSimpArgs false
open Go Go.Fw
attribute [local go_sem] walkSet evMdl evMupD evMup evLkp frpL preF preP prePt prePd frzP evNlq ev frOf oget ogets argSs argS evMm frzL evBin evWrp evShf evCmp evUna evNil evBeq evLd evSt evFad evIad evAad evLen evSln evEls evApp evParts evSlc evNlc evMif evPck evFld evBld evTas evIfq evSeq evSl0 evBxf evAgl evAgq evBsf hget hset hdel cellAt arrAt setCellAt setArrAt takeC lenC svCells SV.okc SV.one ldSV Fw.isAgg explode explodeL toD toDL toD1 Ty.size Ty.sizeL frz1 Fr.sub Heap.sub Tok.sub SV.sub SV.subL

def tCells (a b : Nat) : Tok := .cells [.dat (.slice 3) (.list (sixL 0)), .dat (.ptr 139) p6, .dat (.slice 3) (.list w6), .int .i64 1, .vec a, .vec b]
theorem six_nil : (validC 0 (sixL 0) []).isNil = true := by rw [six0_valid 0 (by decide)]; rfl
abbrev GTL : List Nat := [0, 1, 2, 3, 4, 5]
def WL14first : Opts := mkWE 25 [] [3, 4, 5] [] 184 [3, 4, 5] []
def icL14first : IC := (.seq (.seq (.ops [(.u (.mov 0 (.c (.bool false))))]) (.tr [])) (.seq (.seq (.ops [(.u (.call 5 (.c (.clo 24 [])) [] [] true)), (.u (.call 6 (.c (.clo 23 [])) [(.s 5)] [none] true)), (.u (.mov 4 (.s 6))), (.u (.ext 7 0 (.s 4))), (.u (.ext 8 1 (.s 4))), (.u (.mov 1 (.s 7))), (.u (.mov 2 (.s 8)))]) (.tr [2, 1])) (.seq (.seq (.seq (.ops [(.u (.mov 9 (.s 1))), (.u (.eqb 10 false 1 (.s 9))), (.u (.mov 11 (.s 10))), (.g 11 false (some 12) (.mov 12 (.s 2))), (.g 11 false (some 13) (.eqb 13 true 0 (.s 12))), (.u (.pck 14 (.s 11) (.c (.bool true)) (.s 13)))]) (.tr [14, 1])) (.cond (.s 14) (.seq (.seq (.ops [(.u (.mov 0 (.c (.bool false))))]) (.tr [0])) .ret) .skip)) (.seq (.seq (.seq (.ops [(.u (.mov 3 (.c (.int .i64 0))))]) (.tr [3, 1])) (.block 0 (.loop (.seq (.seq (.seq (.ops [(.u (.mov 15 (.s 3))), (.u (.cmp 16 .lss (.s 15) (.c (.int .i64 4))))]) (.tr [16, 3, 1])) (.cond (.s 16) .skip (.exit 0))) (.seq (.block 1 (.seq (.ops [(.u (.mov 19 (.s 1))), (.u (.mov 20 (.s 3))), (.u (.call 21 (.c (.clo 26 [])) [(.s 19), (.s 20), (.c (.int .i64 0)), (.c (.int .i64 5))] [none, none, none, none] true))]) (.tr [3, 1]))) (.seq (.ops [(.u (.mov 17 (.s 3))), (.u (.bin 18 .add .i64 (.s 17) (.c (.int .i64 1)))), (.u (.mov 3 (.s 18)))]) (.tr [3, 1]))))))) (.seq (.seq (.ops [(.u (.mov 22 (.s 1))), (.u (.call 23 (.c (.clo 27 [])) [(.s 22)] [none] true)), (.u (.cmp 24 .eql (.s 23) (.c (.int .i64 5)))), (.u (.mov 0 (.s 24)))]) (.tr [0])) .ret)))))
def rsL14first : List RV := [(.t 0)]
theorem irL14first : fnIR Tryd.prog WL14first 22 = some (icL14first, rsL14first) := by kernel_rfl
def spL14first : FSpec := fun args h nx K => match args with
  | [] => K (.bool true) h
  | _ => False
set_option maxHeartbeats 4000000 in
set_option maxRecDepth 8000 in
theorem vL14first {E : Nat → Value} (hE : Errs2 Tryd.prog (some 184) E) : Valid Tryd.prog E (gs GCE) 22 spL14first := by
  refine valid_go (W := WL14first) hE ((((allValid_bot.add (up (vL14six hE))).add (up (vTNew hE))).add (up (vTAck hE))).add (up (vTPgcl hE))) irL14first (by decide) (fun args h nx K hsp hok hnm => ?_)
  unfold spL14first at hsp
  split at hsp
  · refine ⟨by simp [WL14first, mkW, mkWE, mkWF], fun Q hQ => ?_⟩
    have hs6 : (sixL 0).length ≤ 1000 := by decide
    have hp6 := p6_ok
    simp (maxSteps := 4000000) only [icL14first, go_sem, goD_calls, eq_self, implies_true, Int.reduceEq, Int.reduceBEq, Int.reduceBNe, Int.reduceLE, Int.reduceLT, Int.reduceAdd, Int.reduceSub, Int.reduceMul, Int.reduceNeg, Nat.reduceMul, Nat.reduceSub, Nat.reduceLeDiff, Nat.reduceLT, Nat.reduceEqDiff, Nat.reduceAdd, reduceCtorEq, ↓reduceIte, reduceIte, spL14six, spTNew, cfgA, six_nil, tNew_six]
    refine go_loop (α := { x : Nat × (Int → Option D) // x.1 ≤ 4 ∧ ∀ n, atI x.2 n = if 0 ≤ n ∧ n < x.1 then 5 else 0 }) (I := fun x => { f := [(3, .int .i64 x.1.1), (1, .ptr nx 0)], h := [(nx, tCells (nx + 1) (nx + 2)), (nx + 1, .map 3 2 x.1.2), (nx + 2, .map 3 3 mEmpty)] ++ h, nx := nx + 3 }) (μ := fun x => 4 - x.1.1) _ _ _ ⟨(0, mEmpty), by omega, fun n => by rw [if_neg (by simp only []; omega)]; rfl⟩ ?_ (fun x B hB => ?_)
    · refine leq_news [(nx, nx + 64), (nx + 1, nx + 64 + 1), (nx + 2, nx + 64 + 2)] [(nx, tCells (nx + 1) (nx + 2)), (nx + 1, .map 3 2 mEmpty), (nx + 2, .map 3 3 mEmpty)] (.refl _) (by simp) (by simp <;> omega) (by simp <;> omega) rfl ?_ ?_ ?_ ?_ hnm ?_ (by omega)
      · simp [frIn_cons, frIn_nil, fget_cons, fget_nil, SV.ren, SV.renL, rens]
      · (simp only [frLt_cons, frLt_nil, and_true, SV.lt, SV.ltL, true_and] <;> omega)
      · simp only [tCells]
        (simp only [List.mem_cons, List.not_mem_nil, or_false, forall_eq_or_imp, forall_eq]; simp [hget, rens, Tok.ren, SV.ren, SV.renL])
      · simp only [tCells]
        (simp only [List.mem_cons, List.not_mem_nil, or_false, forall_eq_or_imp, forall_eq, Tok.lt, SV.lt, SV.ltL, and_true, true_and] <;> omega)
      · ((try simp only []); repeat first | exact HLe.refl _ | refine HLe.cons (by simp only [hget, Nat.reduceEqDiff, Nat.left_eq_add, Nat.add_eq_left, nm_ne2, nm_en2, nm_ne3, nm_en3, nm_ne4, nm_en4, nm_ne5, nm_en5, reduceIte, ↓reduceIte] <;> first | rfl | ((repeat rw [if_neg (by omega)]) <;> rfl)) ?_ | refine HLe.skip hnm (by omega) ?_ | refine HLe.frz hnm (by omega) ?_ | refine HLe.del hnm (by omega) ?_)
    · obtain ⟨⟨i, f⟩, hi, hf⟩ := x
      simp only at hi hf hB
      by_cases hil : i < 4
      · have c1 : decide ((i : Int) < 4) = true := decide_eq_true (by omega)
        have ha := ack6 (g := mEmpty) (n := i) (inc := 0) (scl := 5) (by omega) (by omega) rfl (by decide) (by decide)
        have hm : max (atI f i) 5 = 5 := by rw [hf, if_neg (by omega)]; rfl
        simp (maxSteps := 4000000) only [go_sem, goD_calls, eq_self, implies_true, Int.reduceEq, Int.reduceBEq, Int.reduceBNe, Int.reduceLE, Int.reduceLT, Int.reduceAdd, Int.reduceSub, Int.reduceMul, Int.reduceNeg, Nat.reduceMul, Nat.reduceSub, Nat.reduceLeDiff, Nat.reduceLT, Nat.reduceEqDiff, Nat.reduceAdd, reduceCtorEq, ↓reduceIte, reduceIte, c1, tCells, spTAck, tOk_c, tA_c, tB_c, tM_c, sOk_c, iOk_c, mF_c, ha, hm]
        refine ⟨⟨by rw [min_i64]; omega, by rw [max_i64]; omega⟩, ?_⟩
        refine hB _ ⟨(i + 1, mSet f i (.int 5)), by simp only []; omega, fun n => ?_⟩ (by simp only []; omega) ?_
        · rw [atI_set, hf]
          simp only []
          by_cases h1 : n = i
          · rw [if_pos h1, if_pos (by omega)]
          · rw [if_neg h1]
            by_cases h2 : 0 ≤ n ∧ n < i
            · rw [if_pos h2, if_pos (by omega)]
            · rw [if_neg h2, if_neg (by omega)]
        · refine leq_id ?_ (by (simp only [frLt_cons, frLt_nil, and_true, SV.lt, SV.ltL, true_and] <;> omega)) (by simp only [tCells]; ((try simp only []); repeat first | exact HLe.refl _ | refine HLe.cons (by simp only [hget, Nat.reduceEqDiff, Nat.left_eq_add, Nat.add_eq_left, nm_ne2, nm_en2, nm_ne3, nm_en3, nm_ne4, nm_en4, nm_ne5, nm_en5, reduceIte, ↓reduceIte] <;> first | rfl | ((repeat rw [if_neg (by omega)]) <;> rfl)) ?_ | refine HLe.skip hnm (by omega) ?_ | refine HLe.frz hnm (by omega) ?_ | refine HLe.del hnm (by omega) ?_)) (by unfold tCells; (repeat first | exact HLt.mono hnm (by simp only [] <;> omega) | refine HLt.cons (by simp only [] <;> omega) (by simp only [Tok.lt, SV.ltL, SV.lt, and_true, true_and] <;> omega) ?_)) (by simp only [] <;> omega)
          simp only [frEq_cons, frEq_nil, frIn_cons, frIn_nil, and_true, fget_cons, Nat.reduceEqDiff, reduceIte, ↓reduceIte, true_and, SV.ren, SV.renL, ren1]
          simp
      · obtain rfl : i = 4 := by omega
        have c1 : decide (((4 : Nat) : Int) < 4) = false := rfl
        have hp : pgcl (sixL 0) p6 f = 5 := pg6_eq (by decide) (.inr (by rw [cnt_eq]; simp [hf])) (fun y hy => by
          have : ∀ n, ¬ y ≤ atI f n := fun n => by rw [hf]; split <;> omega
          rw [cnt_eq]
          simp [this])
        have q5 : ((5 : Int) == 5) = true := rfl
        simp (maxSteps := 4000000) only [go_sem, goD_calls, eq_self, implies_true, Int.reduceEq, Int.reduceBEq, Int.reduceBNe, Int.reduceLE, Int.reduceLT, Int.reduceAdd, Int.reduceSub, Int.reduceMul, Int.reduceNeg, Nat.reduceMul, Nat.reduceSub, Nat.reduceLeDiff, Nat.reduceLT, Nat.reduceEqDiff, Nat.reduceAdd, reduceCtorEq, ↓reduceIte, reduceIte, c1, tCells, spTPgcl, tOk_c, tA_c, tM_c, tP_c, sOk_c, mF_c, hs6, hp6, hp, q5]
        refine (hQ _ ?_).1
        exact fin_t (.bool true) rfl rfl hnm (by ((try simp only []); repeat first | exact HLe.refl _ | refine HLe.cons (by simp only [hget, Nat.reduceEqDiff, Nat.left_eq_add, Nat.add_eq_left, nm_ne2, nm_en2, nm_ne3, nm_en3, nm_ne4, nm_en4, nm_ne5, nm_en5, reduceIte, ↓reduceIte] <;> first | rfl | ((repeat rw [if_neg (by omega)]) <;> rfl)) ?_ | refine HLe.skip hnm (by omega) ?_ | refine HLe.frz hnm (by omega) ?_ | refine HLe.del hnm (by omega) ?_)) hsp
  · exact hsp.elim
end Go.Proofs.YtkojpimkngmckaaDoor
