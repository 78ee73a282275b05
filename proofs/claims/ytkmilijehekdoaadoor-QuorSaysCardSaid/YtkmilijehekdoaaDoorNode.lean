/- Is a number a node? -/
import Derived.Test.YtkmilijehekdoaaDoorErr
namespace Go.Proofs.YtkmilijehekdoaaDoor
set_option linter.unusedVariables false
set_option linter.unusedSimpArgs false
open Go Go.Fw
attribute [local go_sem] walkSet evMdl evMupD evMup evLkp frpL eltP eltV eltK preF preP prePt prePd frzP evNlq ev frOf oget ogets argSs argS evMm frzL evBin evWrp evShf evCmp evUna evNil evBeq evLd evSt evFad evIad evAad evLen evSln evEls evApp evParts evSlc evNlc evMif evPck evFld evBld evTas evIfq evSeq evSl0 evBxf evAgl evAgq evBsf hget hset hdel cellAt arrAt setCellAt setArrAt takeC lenC svCells SV.okc SV.one ldSV Fw.isAgg explode explodeL toD toDL toD1 Ty.size Ty.sizeL frz1 Fr.sub Heap.sub Tok.sub SV.sub SV.subL

def nodeI (n : Int) : Bool := decide (0 ≤ n) && decide (n < 64)
def WR1in : Opts := mkWE 12 [] [] [] 152 [] []
def icR1in : IC := (.seq (.seq (.ops [(.u (.mov 4 (.c (.bool false))))]) (.tr [0, 1])) (.seq (.seq (.ops [(.u (.mov 5 (.s 0))), (.u (.cmp 6 .geq (.s 5) (.c (.int .i64 0)))), (.u (.mov 7 (.s 6))), (.g 7 true (some 8) (.mov 8 (.s 0))), (.g 7 true (some 9) (.mov 9 (.s 1))), (.g 7 true (some 10) (.cmp 10 .lss (.s 8) (.s 9))), (.u (.pck 11 (.s 7) (.s 10) (.c (.bool false)))), (.u (.mov 4 (.s 11)))]) (.tr [4])) .ret))
def rsR1in : List RV := [(.t 4)]
theorem irR1in : fnIR Tryd.prog WR1in 62 = some (icR1in, rsR1in) := by kernel_rfl
def spR1in : FSpec := fun args h nx K => match args with
  | [.int .i64 n, .int .i64 b] => K (.bool (decide (0 ≤ n) && decide (n < b))) h
  | _ => False
set_option maxHeartbeats 4000000 in
set_option maxRecDepth 8000 in
theorem vR1in {E : Nat → Value} (hE : Errs2 Tryd.prog (some 152) E) : Valid Tryd.prog E (gs []) 62 spR1in := by
  refine valid_go (W := WR1in) hE allValid_bot irR1in (by decide) (fun args h nx K hsp hok hnm => ?_)
  unfold spR1in at hsp
  split at hsp
  · rename_i n b
    refine ⟨by simp [WR1in, mkW, mkWE, mkWF], fun Q hQ => ?_⟩
    have ret : ∀ v h' nx', HLe h h' → v = (decide (0 ≤ n) && decide (n < b)) → Q Ex.ret ⟨[(4, .bool v)], h', nx'⟩ := fun v h' nx' hh hb => by
      refine (hQ _ ?_).1
      subst hb
      exact fin_t (.bool _) rfl rfl hnm hh hsp
    by_cases h0 : 0 ≤ n
    · have c0 : decide (0 ≤ n) = true := decide_eq_true h0
      simp (maxSteps := 4000000) only [icR1in, go_sem, goD_calls, eq_self, implies_true, Int.reduceEq, Int.reduceBEq, Int.reduceBNe, Int.reduceLE, Int.reduceLT, Int.reduceAdd, Int.reduceSub, Int.reduceMul, Int.reduceNeg, Nat.reduceMul, Nat.reduceSub, Nat.reduceLeDiff, Nat.reduceLT, Nat.reduceEqDiff, Nat.reduceAdd, reduceCtorEq, ↓reduceIte, reduceIte, c0]
      exact ret _ _ _ (by ((try simp only []); repeat first | exact HLe.refl _ | refine HLe.cons (by simp only [hget, Nat.reduceEqDiff, Nat.left_eq_add, Nat.add_eq_left, nm_ne2, nm_en2, nm_ne3, nm_en3, nm_ne4, nm_en4, nm_ne5, nm_en5, reduceIte, ↓reduceIte] <;> first | rfl | ((repeat rw [if_neg (by omega)]) <;> rfl)) ?_ | refine HLe.skip hnm (by omega) ?_ | refine HLe.frz hnm (by omega) ?_ | refine HLe.del hnm (by omega) ?_)) (by rw [c0, Bool.true_and])
    · have c0 : decide (0 ≤ n) = false := decide_eq_false h0
      simp (maxSteps := 4000000) only [icR1in, go_sem, goD_calls, eq_self, implies_true, Int.reduceEq, Int.reduceBEq, Int.reduceBNe, Int.reduceLE, Int.reduceLT, Int.reduceAdd, Int.reduceSub, Int.reduceMul, Int.reduceNeg, Nat.reduceMul, Nat.reduceSub, Nat.reduceLeDiff, Nat.reduceLT, Nat.reduceEqDiff, Nat.reduceAdd, reduceCtorEq, ↓reduceIte, reduceIte, c0]
      exact ret _ _ _ (by ((try simp only []); repeat first | exact HLe.refl _ | refine HLe.cons (by simp only [hget, Nat.reduceEqDiff, Nat.left_eq_add, Nat.add_eq_left, nm_ne2, nm_en2, nm_ne3, nm_en3, nm_ne4, nm_en4, nm_ne5, nm_en5, reduceIte, ↓reduceIte] <;> first | rfl | ((repeat rw [if_neg (by omega)]) <;> rfl)) ?_ | refine HLe.skip hnm (by omega) ?_ | refine HLe.frz hnm (by omega) ?_ | refine HLe.del hnm (by omega) ?_)) (by rw [c0, Bool.false_and])
  · exact hsp.elim
def WR1Node : Opts := mkWE 5 [] [] [] 152 [] []
def icR1Node : IC := (.seq (.seq (.ops [(.u (.mov 2 (.c (.bool false))))]) (.tr [0])) (.seq (.seq (.ops [(.u (.mov 3 (.s 0))), (.u (.call 4 (.c (.clo 62 [])) [(.s 3), (.c (.int .i64 64))] [none, none] true)), (.u (.mov 2 (.s 4)))]) (.tr [2])) .ret))
def rsR1Node : List RV := [(.t 2)]
theorem irR1Node : fnIR Tryd.prog WR1Node 51 = some (icR1Node, rsR1Node) := by kernel_rfl
def spR1Node : FSpec := fun args h nx K => match args with
  | [.int .i64 n] => K (.bool (nodeI n)) h
  | _ => False
set_option maxHeartbeats 4000000 in
set_option maxRecDepth 8000 in
theorem vR1Node {E : Nat → Value} (hE : Errs2 Tryd.prog (some 152) E) : Valid Tryd.prog E (gs []) 51 spR1Node := by
  refine valid_go (W := WR1Node) hE (allValid_bot.add (up (vR1in hE))) irR1Node (by decide) (fun args h nx K hsp hok hnm => ?_)
  unfold spR1Node at hsp
  split at hsp
  · rename_i n
    refine ⟨by simp [WR1Node, mkW, mkWE, mkWF], fun Q hQ => ?_⟩
    have hn : (decide (0 ≤ n) && decide (n < 64)) = nodeI n := rfl
    simp (maxSteps := 4000000) only [icR1Node, go_sem, goD_calls, eq_self, implies_true, Int.reduceEq, Int.reduceBEq, Int.reduceBNe, Int.reduceLE, Int.reduceLT, Int.reduceAdd, Int.reduceSub, Int.reduceMul, Int.reduceNeg, Nat.reduceMul, Nat.reduceSub, Nat.reduceLeDiff, Nat.reduceLT, Nat.reduceEqDiff, Nat.reduceAdd, reduceCtorEq, ↓reduceIte, reduceIte, spR1in, hn]
    refine (hQ _ ?_).1
    exact fin_t (.bool _) rfl rfl hnm (by ((try simp only []); repeat first | exact HLe.refl _ | refine HLe.cons (by simp only [hget, Nat.reduceEqDiff, Nat.left_eq_add, Nat.add_eq_left, nm_ne2, nm_en2, nm_ne3, nm_en3, nm_ne4, nm_en4, nm_ne5, nm_en5, reduceIte, ↓reduceIte] <;> first | rfl | ((repeat rw [if_neg (by omega)]) <;> rfl)) ?_ | refine HLe.skip hnm (by omega) ?_ | refine HLe.frz hnm (by omega) ?_ | refine HLe.del hnm (by omega) ?_)) hsp
  · exact hsp.elim
end Go.Proofs.YtkmilijehekdoaaDoor
