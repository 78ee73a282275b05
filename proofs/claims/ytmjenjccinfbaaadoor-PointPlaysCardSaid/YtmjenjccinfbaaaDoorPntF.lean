/- Chapter 15: the chapter's examples; what is sent in a row, and how far it is safe. -/
import Derived.Test.YtmjenjccinfbaaaDoorPntH
namespace Go.Proofs.YtmjenjccinfbaaaDoor
set_option linter.unusedVariables false
set_option linter.unusedSimpArgs false
open Go Go.Fw
attribute [local go_sem] walkSet evMdl evMupD evMup evLkp frpL eltP eltV eltK preF preP prePt prePd frzP evNlq ev frOf oget ogets argSs argS evCat evMm frzL evBin evWrp evShf evCmp evUna evNil evBeq evLd evSt evFad evIad evAad evLen evSln evEls evApp evParts evSlc evNlc evMif evPck evFld evBld evTas evIfq evSeq evSl0 evBxf evAgl evAgq evBsf hget hset hdel cellAt arrAt setCellAt setArrAt takeC lenC svCells SV.okc SV.one ldSV Fw.isAgg explode explodeL toD toDL toD1 Ty.size Ty.sizeL frz1 Fr.sub Heap.sub Tok.sub SV.sub SV.subL

theorem none_low : lowT [] = True := eq_true (by intro s hs; cases hs)
theorem next_none (n : Int) : nextF [] n = n + 1 := nextF_eq ⟨by omega, by simp, fun m h1 h2 => by omega⟩
theorem valid_none : validD [] = .nil := validD_nil (by simp) (by simp)
def WFirst15 : Opts := mkWE 31 [] [0, 1, 2] [] 171 [0, 1, 2] []
def icFirst15 : IC := (.seq (.seq (.ops [(.u (.mov 0 (.c (.bool false))))]) (.tr [])) (.seq (.seq (.ops [(.u (.call 4 (.c (.clo 16 [])) [(.c (.int .i64 1)), (.c (.int .i64 0)), (.c .nils)] [none, none, (some 41)] true)), (.u (.mov 3 (.s 4))), (.u (.ext 5 0 (.s 3))), (.u (.ext 6 1 (.s 3))), (.u (.mov 1 (.s 5))), (.u (.mov 2 (.s 6)))]) (.tr [2, 1])) (.seq (.seq (.seq (.ops [(.u (.mov 7 (.s 1))), (.u (.eqb 8 false 1 (.s 7))), (.u (.mov 9 (.s 8))), (.g 9 false (some 10) (.mov 10 (.s 2))), (.g 9 false (some 11) (.eqb 11 true 0 (.s 10))), (.u (.pck 12 (.s 9) (.c (.bool true)) (.s 11))), (.u (.mov 13 (.s 12))), (.g 13 false (some 14) (.mov 14 (.s 1))), (.g 13 false (some 15) (.bld 15 [[(.int .i64 0)], [(.int .i64 0)], [(.int .i64 0)], [(.int .i64 0)], [(.int .i64 0)], [(.int .i64 0)], [(.int .i64 0)], [.nils], [.nils], [(.bool false)]] [(0, (.c (.int .i64 1))), (9, (.c (.bool true)))])), (.g 13 false (some 16) (.call 16 (.c (.clo 17 [])) [(.s 14), (.s 15)] [none, none] true)), (.g 13 false (some 17) (.eqb 17 true 0 (.s 16))), (.u (.pck 18 (.s 13) (.c (.bool true)) (.s 17)))]) (.tr [18, 1])) (.cond (.s 18) (.seq (.seq (.ops [(.u (.mov 0 (.c (.bool false))))]) (.tr [0])) .ret) .skip)) (.seq (.seq (.ops [(.u (.mov 19 (.s 1))), (.u (.call 20 (.c (.clo 20 [])) [(.s 19)] [none] true)), (.u (.cmp 21 .eql (.s 20) (.c (.int .i64 0)))), (.u (.mov 22 (.s 21))), (.g 22 true (some 23) (.mov 23 (.s 1))), (.g 22 true (some 24) (.call 24 (.c (.clo 19 [])) [(.s 23), (.c (.int .i64 0)), (.c (.int .i64 1))] [none, none, none] true)), (.u (.pck 25 (.s 22) (.s 24) (.c (.bool false)))), (.u (.mov 26 (.s 25))), (.g 26 true (some 27) (.mov 27 (.s 1))), (.g 26 true (some 28) (.call 28 (.c (.clo 20 [])) [(.s 27)] [none] true)), (.g 26 true (some 29) (.cmp 29 .eql (.s 28) (.c (.int .i64 1)))), (.u (.pck 30 (.s 26) (.s 29) (.c (.bool false)))), (.u (.mov 0 (.s 30)))]) (.tr [0])) .ret))))
def rsFirst15 : List RV := [(.t 0)]
theorem irFirst15 : fnIR Tryd.prog WFirst15 15 = some (icFirst15, rsFirst15) := by kernel_rfl
def spFirst15 : FSpec := fun args h nx K => match args with
  | [] => K (.bool true) h
  | _ => False
set_option maxHeartbeats 4000000 in
set_option maxRecDepth 8000 in
theorem vFirst15 {E : Nat → Value} (hE : Errs2 Tryd.prog (some 171) E) : Valid Tryd.prog E (gs GPS) 15 spFirst15 := by
  refine valid_go (W := WFirst15) hE ((((allValid_bot.add (up (vPNew hE))).add (up (vPSent hE))).add (up (vPVDL hE))).add (up (vPSafe hE))) irFirst15 (by decide) (fun args h nx K hsp hok hnm => ?_)
  unfold spFirst15 at hsp
  split at hsp
  · refine ⟨by simp [WFirst15, mkW, mkWE, mkWF], fun Q hQ => ?_⟩
    have g1 : (¬((1:Int) ≤ 1 ∧ (1:Int) ≤ 4 ∧ (0:Int) ≤ 0 ∧ (0:Int) ≤ 1099511627776)) = False := by simp
    simp (maxSteps := 4000000) only [icFirst15, go_sem, goD_calls, eq_self, implies_true, Int.reduceEq, Int.reduceBEq, Int.reduceBNe, Int.reduceLE, Int.reduceLT, Int.reduceAdd, Int.reduceSub, Int.reduceMul, Int.reduceNeg, Nat.reduceMul, Nat.reduceSub, Nat.reduceLeDiff, Nat.reduceLT, Nat.reduceEqDiff, Nat.reduceAdd, reduceCtorEq, ↓reduceIte, reduceIte, spPNew, valid_none, ptC_def]
    refine sent_of (sp := []) (u := nx + 1) (a := 0) (v := nx + 2) (k := 0) (c := 0) (d := 0) (l := []) (sf := zeros (Int.toNat 1)) (x := (0, 0, 0)) (by simp [hget, ptC_def]) (by simp [hget]) (by simp [hget]) (by simp) (by simp) (by intro i hi; simp at hi) (none_low ▸ trivial) (by omega) ⟨rfl, rfl⟩ (by simp [zeros]) (by rw [next_none]; rfl) rfl ?_
    simp (maxSteps := 4000000) only [go_sem, goD_calls, eq_self, implies_true, Int.reduceEq, Int.reduceBEq, Int.reduceBNe, Int.reduceLE, Int.reduceLT, Int.reduceAdd, Int.reduceSub, Int.reduceMul, Int.reduceNeg, Nat.reduceMul, Nat.reduceSub, Nat.reduceLeDiff, Nat.reduceLT, Nat.reduceEqDiff, Nat.reduceAdd, reduceCtorEq, ↓reduceIte, reduceIte, ptC_def, spPVDL, pOk_c, pD_c]
    have hgr1 : grOk [sent3 1 0 true] (zeros (Int.toNat 1)) := fun i hi => by
      rw [List.length_singleton] at hi
      obtain rfl : i = 0 := by omega
      exact ⟨Int.le_refl 0, Int.lt_add_one_of_le (Int.le_refl 0)⟩
    refine safe_of (sp := []) (u := nx + 64) (a := 1) (v := nx + 2) (k := 0) (c := 0) (d := 0) (l := [sent3 1 0 true]) (sf := zeros (Int.toNat 1)) (x := (1, 1, 1)) (by simp [hget, ptC_def]) (by simp [hget]) (by simp [hget]) (by omega) (by omega) (by simp) (by simp) hgr1 (by simp [zeros, D.i]) rfl ?_
    simp (maxSteps := 4000000) only [go_sem, goD_calls, eq_self, implies_true, Int.reduceEq, Int.reduceBEq, Int.reduceBNe, Int.reduceLE, Int.reduceLT, Int.reduceAdd, Int.reduceSub, Int.reduceMul, Int.reduceNeg, Nat.reduceMul, Nat.reduceSub, Nat.reduceLeDiff, Nat.reduceLT, Nat.reduceEqDiff, Nat.reduceAdd, reduceCtorEq, ↓reduceIte, reduceIte, ptC_def, spPVDL, pOk_c, pD_c]
    refine (hQ _ ?_).1
    exact fin_t (.bool true) rfl rfl hnm (by ((try simp only []); repeat first | exact HLe.refl _ | refine HLe.cons (by simp only [hget, Nat.reduceEqDiff, Nat.left_eq_add, Nat.add_eq_left, nm_ne2, nm_en2, nm_ne3, nm_en3, nm_ne4, nm_en4, nm_ne5, nm_en5, reduceIte, ↓reduceIte] <;> first | rfl | ((repeat rw [if_neg (by omega)]) <;> rfl)) ?_ | refine HLe.skip hnm (by omega) ?_ | refine HLe.frz hnm (by omega) ?_ | refine HLe.del hnm (by omega) ?_)) hsp
  · exact hsp.elim
end Go.Proofs.YtmjenjccinfbaaaDoor
