/- Chapter 7: ConfSteps. -/
import Derived.Test.YtkojpimkngmckaaDoorConfQ
import Derived.Test.YtkojpimkngmckaaDoorNum
namespace Go.Proofs.YtkojpimkngmckaaDoor
set_option linter.unusedVariables false
set_option linter.unusedSimpArgs false
open Go Go.Fw

theorem iL_step {l : List D} {i : Nat} (hi : i < l.length) : iL (l.take i) ++ [D.int (l.getD i .nil).i] = iL (l.take (i + 1)) := by
  unfold iL
  rw [List.take_add_one, List.map_append, List.getElem?_eq_getElem hi, List.getD_eq_getElem?_getD, List.getElem?_eq_getElem hi]
  rfl
def WRInts : Opts := mkWE 22 [] [] [] 184 [] []
def icRInts : IC := (.seq (.seq (.ops [(.u (.mov 2 (.c .nils)))]) (.tr [0])) (.seq (.seq (.ops [(.u (.mov 5 (.s 0))), (.u (.len 6 false (.s 5))), (.u (.mk 7 3 (.int .i64) 8 (.int 0) (.c (.int .i64 0)) (.s 6))), (.u (.mov 3 (.s 7)))]) (.tr [0, 3])) (.seq (.seq (.seq (.ops [(.u (.mov 4 (.c (.int .i64 0))))]) (.tr [0, 4, 3])) (.block 0 (.loop (.seq (.seq (.seq (.ops [(.u (.mov 8 (.s 4))), (.u (.mov 9 (.s 0))), (.u (.len 10 false (.s 9))), (.u (.cmp 11 .lss (.s 8) (.s 10)))]) (.tr [11, 4, 0, 3])) (.cond (.s 11) .skip (.exit 0))) (.seq (.block 1 (.seq (.ops [(.u (.mov 14 (.s 3))), (.u (.mov 15 (.s 0))), (.u (.mov 16 (.s 4))), (.u (.iad 17 3 (.int .i64) (.s 15) (.s 16))), (.u (.ld 18 (.int .i64) (.s 17))), (.u (.bsl 19 3 (.int .i64) [(.s 18)])), (.u (.app 20 3 (.int .i64) 8 (.s 14) (.s 19))), (.u (.mov 3 (.s 20)))]) (.tr [4, 0, 3]))) (.seq (.ops [(.u (.mov 12 (.s 4))), (.u (.bin 13 .add .i64 (.s 12) (.c (.int .i64 1)))), (.u (.mov 4 (.s 13)))]) (.tr [0, 4, 3]))))))) (.seq (.seq (.ops [(.u (.mov 21 (.s 3))), (.u (.mov 2 (.s 21)))]) (.tr [2])) .ret))))
def rsRInts : List RV := [(.t 2)]
theorem irRInts : fnIR Tryd.prog WRInts 80 = some (icRInts, rsRInts) := by kernel_rfl
def spRInts : FSpec := fun args h nx K => match args with
  | [.dat (.slice t) d] => t = 3 ∧ d.l.length ≤ 1000000000 ∧ K (.dat (.slice 3) (.list (iL d.l))) h
  | _ => False
set_option maxHeartbeats 4000000 in
set_option maxRecDepth 8000 in
theorem vRInts {E : Nat → Value} (hE : Errs2 Tryd.prog (some 184) E) : Valid Tryd.prog E (gs []) 80 spRInts := by
  refine valid_go (W := WRInts) hE allValid_bot irRInts (by decide) (fun args h nx K hsp hok hnm => ?_)
  unfold spRInts at hsp
  split at hsp
  · rename_i t d
    obtain ⟨rfl, hlen, hK⟩ := hsp
    refine ⟨by simp [WRInts, mkW, mkWE, mkWF], fun Q hQ => ?_⟩
    obtain ⟨hd, _⟩ := hok
    simp only [SV.ok] at hd
    obtain ⟨hd1, hd2, hd3⟩ := Wt.slice hd; generalize d.l = l at *; subst hd1
    simp (maxSteps := 4000000) only [icRInts, walkSet, eq_self, implies_true, evMdl, evMupD, evMup, evLkp, Int.reduceEq, Int.reduceBEq, Int.reduceBNe, Int.reduceLE, Int.reduceLT, Int.reduceAdd, Int.reduceSub, Int.reduceMul, Int.reduceNeg, frpL, preF, preP, prePt, prePd, frzP, evNlq, ev, frOf, oget, ogets, argSs, argS, evMm, frzL, evBin, evWrp, evShf, evCmp, evUna, evNil, evBeq, evLd, evSt, evFad, evIad, evAad, evLen, evSln, evEls, evApp, evParts, evSlc, evNlc, evMif, evPck, evFld, evBld, evTas, evIfq, evSeq, evSl0, evBxf, evAgl, evAgq, evBsf, hget, hset, hdel, cellAt, arrAt, setCellAt, setArrAt, takeC, lenC, svCells, SV.okc, SV.one, ldSV, Fw.isAgg, Nat.reduceMul, Nat.reduceSub, Nat.reduceLeDiff, Nat.reduceLT, explode, explodeL, toD, toDL, toD1, Ty.size, Ty.sizeL, frz1, Fr.sub, Heap.sub, Tok.sub, SV.sub, SV.subL, Nat.reduceEqDiff, Nat.reduceAdd, reduceCtorEq, ↓reduceIte, reduceIte]
    repeat refine ⟨by omega, ?_⟩
    refine go_loop (α := { i : Nat // i ≤ l.length }) (I := fun i => { f := [(0, .dat (.slice 3) (.list l)), (4, .int .i64 i.1), (3, .vec nx)], h := (nx, .arr 3 (.int .i64) (iL (l.take i.1))) :: h, nx := nx + 1 }) (μ := fun i => l.length - i.1) _ _ _ ⟨0, by omega⟩ ?_ (fun i B hB => ?_)
    · refine leq_id ?_ (by (simp only [frLt_cons, frLt_nil, and_true, SV.lt, SV.ltL, true_and] <;> omega)) ?_ (by (repeat first | exact HLt.mono hnm (by simp only [] <;> omega) | refine HLt.cons (by simp only [] <;> omega) (by simp only [Tok.lt, SV.ltL, SV.lt, and_true, true_and] <;> omega) ?_)) (by simp only [] <;> omega)
      · simp only [frEq_cons, frEq_nil, frIn_cons, frIn_nil, and_true, fget_cons, Nat.reduceEqDiff, reduceIte, ↓reduceIte, true_and, SV.ren, SV.renL, ren1]
        simp
      · ((try simp only []); repeat first | exact HLe.refl _ | refine HLe.cons (by simp only [hget, Nat.reduceEqDiff, Nat.left_eq_add, Nat.add_eq_left, nm_ne2, nm_en2, nm_ne3, nm_en3, nm_ne4, nm_en4, nm_ne5, nm_en5, reduceIte, ↓reduceIte] <;> first | rfl | ((repeat rw [if_neg (by omega)]) <;> rfl)) ?_ | refine HLe.skip hnm (by omega) ?_ | refine HLe.frz hnm (by omega) ?_ | refine HLe.del hnm (by omega) ?_)
    · obtain ⟨i, hi⟩ := i
      simp only at hB
      by_cases hil : i < l.length
      · have c1 : decide ((i : Int) < (l.length : Int)) = true := decide_eq_true (by omega)
        have hs := iL_step hil
        have hl2 : (iL (l.take i)).length ≤ i := by rw [iL_len, List.length_take]; omega
        simp (maxSteps := 4000000) only [walkSet, eq_self, implies_true, evMdl, evMupD, evMup, evLkp, Int.reduceEq, Int.reduceBEq, Int.reduceBNe, Int.reduceLE, Int.reduceLT, Int.reduceAdd, Int.reduceSub, Int.reduceMul, Int.reduceNeg, frpL, preF, preP, prePt, prePd, frzP, evNlq, ev, frOf, oget, ogets, argSs, argS, evMm, frzL, evBin, evWrp, evShf, evCmp, evUna, evNil, evBeq, evLd, evSt, evFad, evIad, evAad, evLen, evSln, evEls, evApp, evParts, evSlc, evNlc, evMif, evPck, evFld, evBld, evTas, evIfq, evSeq, evSl0, evBxf, evAgl, evAgq, evBsf, hget, hset, hdel, cellAt, arrAt, setCellAt, setArrAt, takeC, lenC, svCells, SV.okc, SV.one, ldSV, Fw.isAgg, Nat.reduceMul, Nat.reduceSub, Nat.reduceLeDiff, Nat.reduceLT, explode, explodeL, toD, toDL, toD1, Ty.size, Ty.sizeL, frz1, Fr.sub, Heap.sub, Tok.sub, SV.sub, SV.subL, Nat.reduceEqDiff, Nat.reduceAdd, reduceCtorEq, ↓reduceIte, reduceIte, c1, Int.toNat_natCast, min_i64, max_i64, hs]
        repeat refine ⟨by omega, ?_⟩
        refine hB _ ⟨i + 1, by omega⟩ (by simp only []; omega) ?_
        refine leq_ren1 nx (nx + 1 + 1) (by omega) (by simp only [] <;> omega) ?_ (by (simp only [frLt_cons, frLt_nil, and_true, SV.lt, SV.ltL, true_and] <;> omega)) ?_ (by (repeat first | exact HLt.mono hnm (by simp only [] <;> omega) | refine HLt.cons (by simp only [] <;> omega) (by simp only [Tok.lt, SV.ltL, SV.lt, and_true, true_and] <;> omega) ?_)) (by simp only [] <;> omega)
        · simp only [frEq_cons, frEq_nil, frIn_cons, frIn_nil, and_true, fget_cons, Nat.reduceEqDiff, reduceIte, ↓reduceIte, true_and, SV.ren, SV.renL, ren1]
          simp
        · exact HRen.cons (by rw [ren1_eq]; simp [hget, Tok.ren]) (HRen.base hnm (Nat.le_refl _) (by ((try simp only []); repeat first | exact HLe.refl _ | refine HLe.cons (by simp only [hget, Nat.reduceEqDiff, Nat.left_eq_add, Nat.add_eq_left, nm_ne2, nm_en2, nm_ne3, nm_en3, nm_ne4, nm_en4, nm_ne5, nm_en5, reduceIte, ↓reduceIte] <;> first | rfl | ((repeat rw [if_neg (by omega)]) <;> rfl)) ?_ | refine HLe.skip hnm (by omega) ?_ | refine HLe.frz hnm (by omega) ?_ | refine HLe.del hnm (by omega) ?_)))
      · obtain rfl : i = l.length := by omega
        have c1 : decide ((l.length : Int) < (l.length : Int)) = false := decide_eq_false (by omega)
        rw [List.take_of_length_le (Nat.le_refl _)]
        simp (maxSteps := 4000000) only [walkSet, eq_self, implies_true, evMdl, evMupD, evMup, evLkp, Int.reduceEq, Int.reduceBEq, Int.reduceBNe, Int.reduceLE, Int.reduceLT, Int.reduceAdd, Int.reduceSub, Int.reduceMul, Int.reduceNeg, frpL, preF, preP, prePt, prePd, frzP, evNlq, ev, frOf, oget, ogets, argSs, argS, evMm, frzL, evBin, evWrp, evShf, evCmp, evUna, evNil, evBeq, evLd, evSt, evFad, evIad, evAad, evLen, evSln, evEls, evApp, evParts, evSlc, evNlc, evMif, evPck, evFld, evBld, evTas, evIfq, evSeq, evSl0, evBxf, evAgl, evAgq, evBsf, hget, hset, hdel, cellAt, arrAt, setCellAt, setArrAt, takeC, lenC, svCells, SV.okc, SV.one, ldSV, Fw.isAgg, Nat.reduceMul, Nat.reduceSub, Nat.reduceLeDiff, Nat.reduceLT, explode, explodeL, toD, toDL, toD1, Ty.size, Ty.sizeL, frz1, Fr.sub, Heap.sub, Tok.sub, SV.sub, SV.subL, Nat.reduceEqDiff, Nat.reduceAdd, reduceCtorEq, ↓reduceIte, reduceIte, c1]
        refine (hQ _ ?_).1
        refine fin_new (p := True ∧ True) (xs := [.vec nx]) rfl ⟨trivial, trivial⟩ (.frz nx (.refl _)) [] (.dat (.slice 3) (.list (iL l))) [] (by simp) (by simp) (by simp) ?_ trivial rfl (by simp) (by simp) hnm ?_ hK
        · simp only [mkR, walkSet, eq_self, implies_true, evMdl, evMupD, evMup, evLkp, Int.reduceEq, Int.reduceBEq, Int.reduceBNe, Int.reduceLE, Int.reduceLT, Int.reduceAdd, Int.reduceSub, Int.reduceMul, Int.reduceNeg, frpL, preF, preP, prePt, prePd, frzP, evNlq, ev, frOf, oget, ogets, argSs, argS, evMm, frzL, evBin, evWrp, evShf, evCmp, evUna, evNil, evBeq, evLd, evSt, evFad, evIad, evAad, evLen, evSln, evEls, evApp, evParts, evSlc, evNlc, evMif, evPck, evFld, evBld, evTas, evIfq, evSeq, evSl0, evBxf, evAgl, evAgq, evBsf, hget, hset, hdel, cellAt, arrAt, setCellAt, setArrAt, takeC, lenC, svCells, SV.okc, SV.one, ldSV, Fw.isAgg, Nat.reduceMul, Nat.reduceSub, Nat.reduceLeDiff, Nat.reduceLT, explode, explodeL, toD, toDL, toD1, Ty.size, Ty.sizeL, frz1, Fr.sub, Heap.sub, Tok.sub, SV.sub, SV.subL, Nat.reduceEqDiff, Nat.reduceAdd, reduceCtorEq, ↓reduceIte, reduceIte, SV.ren, SV.renL, rens]
        · simp only [mkR, walkSet, eq_self, implies_true, evMdl, evMupD, evMup, evLkp, Int.reduceEq, Int.reduceBEq, Int.reduceBNe, Int.reduceLE, Int.reduceLT, Int.reduceAdd, Int.reduceSub, Int.reduceMul, Int.reduceNeg, frpL, preF, preP, prePt, prePd, frzP, evNlq, ev, frOf, oget, ogets, argSs, argS, evMm, frzL, evBin, evWrp, evShf, evCmp, evUna, evNil, evBeq, evLd, evSt, evFad, evIad, evAad, evLen, evSln, evEls, evApp, evParts, evSlc, evNlc, evMif, evPck, evFld, evBld, evTas, evIfq, evSeq, evSl0, evBxf, evAgl, evAgq, evBsf, hget, hset, hdel, cellAt, arrAt, setCellAt, setArrAt, takeC, lenC, svCells, SV.okc, SV.one, ldSV, Fw.isAgg, Nat.reduceMul, Nat.reduceSub, Nat.reduceLeDiff, Nat.reduceLT, explode, explodeL, toD, toDL, toD1, Ty.size, Ty.sizeL, frz1, Fr.sub, Heap.sub, Tok.sub, SV.sub, SV.subL, Nat.reduceEqDiff, Nat.reduceAdd, reduceCtorEq, ↓reduceIte, reduceIte] <;> ((try simp only []); repeat first | exact HLe.refl _ | refine HLe.cons (by simp only [hget, Nat.reduceEqDiff, Nat.left_eq_add, Nat.add_eq_left, nm_ne2, nm_en2, nm_ne3, nm_en3, nm_ne4, nm_en4, nm_ne5, nm_en5, reduceIte, ↓reduceIte] <;> first | rfl | ((repeat rw [if_neg (by omega)]) <;> rfl)) ?_ | refine HLe.skip hnm (by omega) ?_ | refine HLe.frz hnm (by omega) ?_ | refine HLe.del hnm (by omega) ?_)
  · exact hsp.elim
def WRConfig : Opts := mkWF 12 [] [] [] 184 [] [1] [] [] [] [1]
def icRConfig : IC := (.seq (.seq (.ops [(.u (.bxf 1 (.strct [(.int .i64), (.slice 3), (.slice 3)]) (some 25) (.s 0))), (.u (.alc 2 [(.int .i64 0), .nils, .nils]))]) (.tr [1, 2])) (.seq (.seq (.rgn [] [(false, (.u (.fad 3 0 0 (.int .i64) 25 (.s 1)))), (true, (.u (.ld 4 (.int .i64) (.s 3)))), (false, (.u (.fad 5 1 1 (.slice 3) 25 (.s 1)))), (false, (.u (.ld 6 (.slice 3) (.s 5)))), (false, (.u (.fad 8 2 2 (.slice 3) 25 (.s 1)))), (true, (.u (.ld 9 (.slice 3) (.s 8)))), (false, (.u (.call 7 (.c (.clo 80 [])) [(.s 6)] [(some 3)] true))), (false, (.u (.call 10 (.c (.clo 80 [])) [(.s 9)] [(some 3)] true))), (false, (.u (.bld 11 [[(.int .i64 0)], [.nils], [.nils]] [(0, (.s 4)), (1, (.s 7)), (2, (.s 10))]))), (false, (.u (.st (.strct [(.int .i64), (.slice 3), (.slice 3)]) (.s 2) (.s 11))))]) (.tr [2])) .ret))
def rsRConfig : List RV := [(.c 2 (.strct [(.int .i64), (.slice 3), (.slice 3)]))]
theorem irRConfig : fnIR Tryd.prog WRConfig 37 = some (icRConfig, rsRConfig) := by kernel_rfl
def spRConfig : FSpec := fun args h nx K => match args with
  | [.agg [.int .i64 e, .dat (.slice t) o, .dat (.slice t') n]] => t = 3 ∧ t' = 3 ∧ o.l.length ≤ 1000000000 ∧ n.l.length ≤ 1000000000 ∧ K (cfgA e (iL o.l) (iL n.l)) h
  | _ => False
set_option maxHeartbeats 4000000 in
set_option maxRecDepth 8000 in
theorem vRConfig {E : Nat → Value} (hE : Errs2 Tryd.prog (some 184) E) : Valid Tryd.prog E (gs []) 37 spRConfig := by
  refine valid_go (W := WRConfig) hE (allValid_bot.add (up (vRInts hE))) irRConfig (by decide) (fun args h nx K hsp hok hnm => ?_)
  unfold spRConfig at hsp
  split at hsp
  · rename_i e t o t' n
    obtain ⟨rfl, rfl, ho9, hn9, hK⟩ := hsp
    refine ⟨by simp [WRConfig, mkW, mkWE, mkWF], fun Q hQ => ?_⟩
    obtain ⟨⟨_, ho, hn, _⟩, _⟩ := hok
    simp only [SV.ok] at ho hn
    obtain ⟨ho1, ho2, ho3⟩ := Wt.slice ho; generalize o.l = xs at *; subst ho1
    obtain ⟨hn1, hn2, hn3⟩ := Wt.slice hn; generalize n.l = ys at *; subst hn1
    simp (maxSteps := 4000000) only [icRConfig, walkSet, eq_self, implies_true, evMdl, evMupD, evMup, evLkp, Int.reduceEq, Int.reduceBEq, Int.reduceBNe, Int.reduceLE, Int.reduceLT, Int.reduceAdd, Int.reduceSub, Int.reduceMul, Int.reduceNeg, frpL, preF, preP, prePt, prePd, frzP, evNlq, ev, frOf, oget, ogets, argSs, argS, evMm, frzL, evBin, evWrp, evShf, evCmp, evUna, evNil, evBeq, evLd, evSt, evFad, evIad, evAad, evLen, evSln, evEls, evApp, evParts, evSlc, evNlc, evMif, evPck, evFld, evBld, evTas, evIfq, evSeq, evSl0, evBxf, evAgl, evAgq, evBsf, hget, hset, hdel, cellAt, arrAt, setCellAt, setArrAt, takeC, lenC, svCells, SV.okc, SV.one, ldSV, Fw.isAgg, Nat.reduceMul, Nat.reduceSub, Nat.reduceLeDiff, Nat.reduceLT, explode, explodeL, toD, toDL, toD1, Ty.size, Ty.sizeL, frz1, Fr.sub, Heap.sub, Tok.sub, SV.sub, SV.subL, Nat.reduceEqDiff, Nat.reduceAdd, reduceCtorEq, ↓reduceIte, reduceIte, spRInts, ho9, hn9]
    refine (hQ _ ?_).1
    refine fin_same (p := True) (xs := [cfgA e (iL xs) (iL ys)]) ?_ trivial (fun π => rfl) ?_ hnm (by ((try simp only []); repeat first | exact HLe.refl _ | refine HLe.cons (by simp only [hget, Nat.reduceEqDiff, Nat.left_eq_add, Nat.add_eq_left, nm_ne2, nm_en2, nm_ne3, nm_en3, nm_ne4, nm_en4, nm_ne5, nm_en5, reduceIte, ↓reduceIte] <;> first | rfl | ((repeat rw [if_neg (by omega)]) <;> rfl)) ?_ | refine HLe.skip hnm (by omega) ?_ | refine HLe.frz hnm (by omega) ?_ | refine HLe.del hnm (by omega) ?_)) hK
    · simp only [rsRConfig, evRs, evR, walkSet, eq_self, implies_true, evMdl, evMupD, evMup, evLkp, Int.reduceEq, Int.reduceBEq, Int.reduceBNe, Int.reduceLE, Int.reduceLT, Int.reduceAdd, Int.reduceSub, Int.reduceMul, Int.reduceNeg, frpL, preF, preP, prePt, prePd, frzP, evNlq, ev, frOf, oget, ogets, argSs, argS, evMm, frzL, evBin, evWrp, evShf, evCmp, evUna, evNil, evBeq, evLd, evSt, evFad, evIad, evAad, evLen, evSln, evEls, evApp, evParts, evSlc, evNlc, evMif, evPck, evFld, evBld, evTas, evIfq, evSeq, evSl0, evBxf, evAgl, evAgq, evBsf, hget, hset, hdel, cellAt, arrAt, setCellAt, setArrAt, takeC, lenC, svCells, SV.okc, SV.one, ldSV, Fw.isAgg, Nat.reduceMul, Nat.reduceSub, Nat.reduceLeDiff, Nat.reduceLT, explode, explodeL, toD, toDL, toD1, Ty.size, Ty.sizeL, frz1, Fr.sub, Heap.sub, Tok.sub, SV.sub, SV.subL, Nat.reduceEqDiff, Nat.reduceAdd, reduceCtorEq, ↓reduceIte, reduceIte, cfgA]
    · exact ⟨trivial, trivial, trivial, trivial⟩
  · exact hsp.elim

theorem tdiv_range {z b : Int} (h : -9223372036854775808 ≤ z ∧ z ≤ 9223372036854775807) (hb : 0 < b) : -9223372036854775808 ≤ z.tdiv b ∧ z.tdiv b ≤ 9223372036854775807 := by
  have h1 : (z.tdiv b).natAbs ≤ z.natAbs := by
    rw [Int.natAbs_tdiv]
    exact Nat.div_le_self _ _
  by_cases h0 : 0 ≤ z
  · have := Int.tdiv_nonneg h0 (Int.le_of_lt hb)
    omega
  · have h2 : z.tdiv b = -((-z).tdiv b) := by rw [Int.neg_tdiv, Int.neg_neg]
    have := Int.tdiv_nonneg (a := -z) (by omega) (Int.le_of_lt hb)
    omega
/-- A configuration that the law meets. -/
def stepOk (o n : List D) : Prop := badI o = false ∧ sixB o = true ∧ (n = [] ∨ badI n = false ∧ sixB n = true ∧ commonN o n = 5)
theorem step_valid {e : Int} {o n : List D} (h : stepOk o n) (he : 0 ≤ e ∧ e ≤ 1073741824) : validC e o n = .nil := by
  obtain ⟨h1, h2, h3⟩ := h
  refine valid_of he h1 ?_ h2 (fun hn => ?_)
  · rcases h3 with rfl | h3
    · rfl
    · exact h3.1
  · rcases h3 with rfl | h3
    · simp at hn
    · exact h3.2
def WConfSteps : Opts := mkWF 132 [] [0, 1, 2, 3, 4, 5] [55, 63] 184 [0, 1, 2, 3, 4, 5] [] [] [55, 63]
def icConfSteps : IC := (.seq (.seq (.ops [(.u (.mov 2 (.c (.bool false))))]) (.tr [0])) (.seq (.seq (.ops [(.u (.call 13 (.c (.clo 15 [])) [] [] true)), (.u (.mov 3 (.s 13)))]) (.tr [3, 0])) (.seq (.seq (.seq (.ops [(.u (.mov 14 (.s 3))), (.u (.una 15 .not (.s 14)))]) (.tr [15, 3, 0])) (.cond (.s 15) (.seq (.seq (.ops [(.u (.mov 2 (.c (.bool false))))]) (.tr [2])) .ret) .skip)) (.seq (.seq (.seq (.ops [(.u (.mov 16 (.s 0))), (.u (.len 17 false (.s 16))), (.u (.cmp 18 .gtr (.s 17) (.c (.int .i64 20)))), (.u (.mov 19 (.s 18))), (.g 19 false (some 20) (.mov 20 (.s 3))), (.g 19 false (some 21) (.una 21 .not (.s 20))), (.u (.pck 22 (.s 19) (.c (.bool true)) (.s 21)))]) (.tr [22, 3, 0])) (.cond (.s 22) (.seq (.seq (.ops [(.u (.mov 23 (.s 3))), (.u (.mov 2 (.s 23)))]) (.tr [2])) .ret) .skip)) (.seq (.seq (.ops [(.u (.call 24 (.c (.clo 16 [])) [(.c (.int .i64 0))] [none] true)), (.u (.alc 4 [(.int .i64 0), .nils, .nils])), (.u (.st (.strct [(.int .i64), (.slice 3), (.slice 3)]) (.s 4) (.s 24)))]) (.tr [0, 4])) (.seq (.seq (.seq (.ops [(.u (.mov 5 (.c (.int .i64 0))))]) (.tr [0, 4, 5])) (.block 0 (.loop (.seq (.seq (.seq (.ops [(.u (.mov 25 (.s 5))), (.u (.mov 26 (.s 0))), (.u (.len 27 false (.s 26))), (.u (.cmp 28 .lss (.s 25) (.s 27)))]) (.tr [28, 5, 0, 4])) (.cond (.s 28) .skip (.exit 0))) (.seq (.block 1 (.seq (.seq (.ops [(.u (.mov 31 (.s 0))), (.u (.mov 32 (.s 5))), (.u (.iad 33 3 (.int .i64) (.s 31) (.s 32))), (.u (.ld 34 (.int .i64) (.s 33))), (.u (.call 35 (.c (.clo 25 [])) [(.s 34), (.c (.int .i64 3))] [none, none] true)), (.u (.mov 6 (.s 35)))]) (.tr [6, 5, 0, 4])) (.seq (.seq (.ops [(.u (.ld 36 (.strct [(.int .i64), (.slice 3), (.slice 3)]) (.s 4))), (.u (.call 37 (.c (.clo 37 [])) [(.s 36)] [none] true)), (.u (.alc 7 [(.int .i64 0), .nils, .nils])), (.u (.st (.strct [(.int .i64), (.slice 3), (.slice 3)]) (.s 7) (.s 37)))]) (.tr [6, 7, 5, 0, 4])) (.seq (.seq (.seq (.ops [(.u (.fad 38 2 2 (.slice 3) 25 (.s 4))), (.u (.ld 39 (.slice 3) (.s 38))), (.u (.len 40 false (.s 39))), (.u (.cmp 41 .eql (.s 40) (.c (.int .i64 0))))]) (.tr [41, 6, 7, 5, 0, 4])) (.cond (.s 41) (.seq (.seq (.seq (.ops [(.u (.fad 42 1 1 (.slice 3) 25 (.s 4))), (.u (.ld 43 (.slice 3) (.s 42))), (.u (.len 44 false (.s 43))), (.u (.cmp 45 .neq (.s 44) (.c (.int .i64 6))))]) (.tr [45, 7, 5, 0, 4])) (.cond (.s 45) (.seq (.seq (.ops [(.u (.mov 2 (.c (.bool false))))]) (.tr [2])) .ret) .skip)) (.seq (.seq (.rgb [] [(false, (.u (.ld 47 (.strct [(.int .i64), (.slice 3), (.slice 3)]) (.s 4)))), (false, (.u (.fad 48 1 1 (.slice 3) 25 (.s 4)))), (false, (.u (.ld 49 (.slice 3) (.s 48)))), (false, (.u (.mov 50 (.s 0)))), (false, (.u (.mov 51 (.s 5)))), (false, (.u (.iad 52 3 (.int .i64) (.s 50) (.s 51)))), (false, (.u (.ld 53 (.int .i64) (.s 52)))), (false, (.u (.bin 54 .quo .i64 (.s 53) (.c (.int .i64 3))))), (false, (.u (.mov 58 (.s 0)))), (false, (.u (.mov 59 (.s 5)))), (false, (.u (.iad 60 3 (.int .i64) (.s 58) (.s 59)))), (false, (.u (.ld 61 (.int .i64) (.s 60)))), (false, (.u (.bin 62 .quo .i64 (.s 61) (.c (.int .i64 18))))), (true, (.u (.call 55 (.c (.clo 25 [])) [(.s 54), (.c (.int .i64 6))] [none, none] false))), (false, (.u (.iad 56 3 (.int .i64) (.s 49) (.s 55)))), (false, (.u (.ld 57 (.int .i64) (.s 56)))), (true, (.u (.call 63 (.c (.clo 25 [])) [(.s 62), (.c (.int .i64 30))] [none, none] false))), (false, (.u (.bin 64 .add .i64 (.c (.int .i64 6)) (.s 63))))] [(false, (.u (.call 65 (.c (.clo 17 [])) [(.s 47), (.s 57), (.s 64)] [none, none, none] true))), (false, (.u (.mov 46 (.s 65)))), (false, (.u (.ext 66 0 (.s 46)))), (false, (.u (.ext 67 1 (.s 46)))), (false, (.u (.alc 8 [(.int .i64 0), .nils, .nils]))), (false, (.u (.st (.strct [(.int .i64), (.slice 3), (.slice 3)]) (.s 8) (.s 66)))), (false, (.u (.mov 9 (.s 67))))] [(false, (.u (.alc 8 [(.int .i64 0), .nils, .nils]))), (false, (.u (.call 65 (.c (.clo 17 [])) [(.s 47), (.s 57), (.s 64)] [none, none, none] true))), (false, (.u (.mov 46 (.s 65)))), (false, (.u (.ext 66 0 (.s 46)))), (false, (.u (.ext 67 1 (.s 46)))), (false, (.u (.st (.strct [(.int .i64), (.slice 3), (.slice 3)]) (.s 8) (.s 66)))), (false, (.u (.mov 9 (.s 67))))]) (.tr [9, 8, 7, 5, 0, 4])) (.seq (.seq (.seq (.ops [(.u (.mov 68 (.s 9))), (.u (.eqb 69 true 0 (.s 68)))]) (.tr [69, 8, 7, 5, 0, 4])) (.cond (.s 69) (.exit 1) .skip)) (.seq (.seq (.seq (.ops [(.u (.ld 70 (.strct [(.int .i64), (.slice 3), (.slice 3)]) (.s 8))), (.u (.call 71 (.c (.clo 46 [])) [(.s 70)] [none] true)), (.u (.len 72 false (.s 71))), (.u (.cmp 73 .neq (.s 72) (.c (.int .i64 7)))), (.u (.mov 74 (.s 73))), (.g 74 false (some 75) (.fad 75 1 1 (.slice 3) 25 (.s 8))), (.g 74 false (some 76) (.ld 76 (.slice 3) (.s 75))), (.g 74 false (some 77) (.fad 77 1 1 (.slice 3) 25 (.s 7))), (.g 74 false (some 78) (.ld 78 (.slice 3) (.s 77))), (.g 74 false (some 79) (.call 79 (.c (.clo 44 [])) [(.s 76), (.s 78)] [(some 3), (some 3)] true)), (.g 74 false (some 80) (.una 80 .not (.s 79))), (.u (.pck 81 (.s 74) (.c (.bool true)) (.s 80)))]) (.tr [81, 8, 7, 5, 0, 4])) (.cond (.s 81) (.seq (.seq (.ops [(.u (.mov 2 (.c (.bool false))))]) (.tr [2])) .ret) .skip)) (.seq (.ops [(.u (.ld 82 (.strct [(.int .i64), (.slice 3), (.slice 3)]) (.s 8))), (.u (.st (.strct [(.int .i64), (.slice 3), (.slice 3)]) (.s 4) (.s 82)))]) (.tr [7, 5, 0, 4])))))) (.seq (.seq (.ops [(.u (.ld 84 (.strct [(.int .i64), (.slice 3), (.slice 3)]) (.s 4))), (.u (.call 85 (.c (.clo 47 [])) [(.s 84)] [none] true)), (.u (.mov 83 (.s 85))), (.u (.ext 86 0 (.s 83))), (.u (.ext 87 1 (.s 83))), (.u (.alc 10 [(.int .i64 0), .nils, .nils])), (.u (.st (.strct [(.int .i64), (.slice 3), (.slice 3)]) (.s 10) (.s 86))), (.u (.mov 11 (.s 87)))]) (.tr [6, 11, 10, 7, 5, 0, 4])) (.seq (.seq (.ops [(.u (.fad 88 2 2 (.slice 3) 25 (.s 4))), (.u (.ld 89 (.slice 3) (.s 88))), (.u (.mov 12 (.s 89)))]) (.tr [6, 11, 12, 10, 7, 5, 0, 4])) (.seq (.seq (.seq (.ops [(.u (.mov 90 (.s 6))), (.u (.cmp 91 .eql (.s 90) (.c (.int .i64 0))))]) (.tr [91, 11, 12, 10, 7, 5, 0, 4])) (.cond (.s 91) (.seq (.seq (.ops [(.u (.ld 93 (.strct [(.int .i64), (.slice 3), (.slice 3)]) (.s 4))), (.u (.call 94 (.c (.clo 48 [])) [(.s 93)] [none] true)), (.u (.mov 92 (.s 94))), (.u (.ext 95 0 (.s 92))), (.u (.ext 96 1 (.s 92))), (.u (.st (.strct [(.int .i64), (.slice 3), (.slice 3)]) (.s 10) (.s 95))), (.u (.mov 11 (.s 96)))]) (.tr [11, 10, 7, 5, 0, 4])) (.seq (.ops [(.u (.fad 97 1 1 (.slice 3) 25 (.s 4))), (.u (.ld 98 (.slice 3) (.s 97))), (.u (.mov 12 (.s 98)))]) (.tr [11, 12, 10, 7, 5, 0, 4]))) .skip)) (.seq (.seq (.seq (.ops [(.u (.mov 99 (.s 11))), (.u (.eqb 100 true 0 (.s 99))), (.u (.mov 101 (.s 100))), (.g 101 false (some 102) (.fad 102 1 1 (.slice 3) 25 (.s 10))), (.g 101 false (some 103) (.ld 103 (.slice 3) (.s 102))), (.g 101 false (some 104) (.mov 104 (.s 12))), (.g 101 false (some 105) (.call 105 (.c (.clo 44 [])) [(.s 103), (.s 104)] [(some 3), (some 3)] true)), (.g 101 false (some 106) (.una 106 .not (.s 105))), (.u (.pck 107 (.s 101) (.c (.bool true)) (.s 106))), (.u (.mov 108 (.s 107))), (.g 108 false (some 109) (.fad 109 2 2 (.slice 3) 25 (.s 10))), (.g 108 false (some 110) (.ld 110 (.slice 3) (.s 109))), (.g 108 false (some 111) (.len 111 false (.s 110))), (.g 108 false (some 112) (.cmp 112 .neq (.s 111) (.c (.int .i64 0)))), (.u (.pck 113 (.s 108) (.c (.bool true)) (.s 112)))]) (.tr [113, 10, 7, 5, 0, 4])) (.cond (.s 113) (.seq (.seq (.ops [(.u (.mov 2 (.c (.bool false))))]) (.tr [2])) .ret) .skip)) (.seq (.ops [(.u (.ld 114 (.strct [(.int .i64), (.slice 3), (.slice 3)]) (.s 10))), (.u (.st (.strct [(.int .i64), (.slice 3), (.slice 3)]) (.s 4) (.s 114)))]) (.tr [7, 5, 0, 4])))))))) (.seq (.seq (.ops [(.u (.fad 115 0 0 (.int .i64) 25 (.s 4))), (.u (.ld 116 (.int .i64) (.s 115))), (.u (.fad 117 0 0 (.int .i64) 25 (.s 7))), (.u (.ld 118 (.int .i64) (.s 117))), (.u (.bin 119 .add .i64 (.s 118) (.c (.int .i64 1)))), (.u (.cmp 120 .neq (.s 116) (.s 119))), (.u (.mov 121 (.s 120))), (.g 121 false (some 122) (.ld 122 (.strct [(.int .i64), (.slice 3), (.slice 3)]) (.s 4))), (.g 121 false (some 123) (.call 123 (.c (.clo 49 [])) [(.s 122)] [none] true)), (.g 121 false (some 124) (.eqb 124 true 0 (.s 123))), (.u (.pck 125 (.s 121) (.c (.bool true)) (.s 124))), (.u (.mov 126 (.s 125))), (.g 126 false (some 127) (.fad 127 1 1 (.slice 3) 25 (.s 4))), (.g 126 false (some 128) (.ld 128 (.slice 3) (.s 127))), (.g 126 false (some 129) (.len 129 false (.s 128))), (.g 126 false (some 130) (.cmp 130 .neq (.s 129) (.c (.int .i64 6)))), (.u (.pck 131 (.s 126) (.c (.bool true)) (.s 130)))]) (.tr [131, 5, 0, 4])) (.cond (.s 131) (.seq (.seq (.ops [(.u (.mov 2 (.c (.bool false))))]) (.tr [2])) .ret) .skip)))))) (.seq (.ops [(.u (.mov 29 (.s 5))), (.u (.bin 30 .add .i64 (.s 29) (.c (.int .i64 1)))), (.u (.mov 5 (.s 30)))]) (.tr [0, 4, 5]))))))) (.seq (.seq (.ops [(.u (.mov 2 (.c (.bool true))))]) (.tr [2])) .ret)))))))
def rsConfSteps : List RV := [(.t 2)]
theorem irConfSteps : fnIR Tryd.prog WConfSteps 8 = some (icConfSteps, rsConfSteps) := by kernel_rfl
def spConfSteps : FSpec := fun args h nx K => match args with
  | [.dat (.slice 3) d] => K (.bool true) h
  | _ => False
set_option maxHeartbeats 4000000 in
set_option maxRecDepth 8000 in
theorem vConfSteps {E : Nat → Value} (hE : Errs2 Tryd.prog (some 184) E) : Valid Tryd.prog E (gs GC7) 8 spConfSteps := by
  refine valid_go (W := WConfSteps) hE ((((((((((allValid_bot.add (up (vL7first hE))).add (up (vL7six hE))).add (up (vNumber hE))).add (up (vRConfig hE))).add (up (vCBegin hE))).add (up (vCMembers hE))).add (up (vSameInts hE))).add (up (vCCommit hE))).add (up (vCRollback hE))).add (up (vCValid hE))) irConfSteps (by decide) (fun args h nx K hsp hok hnm => ?_)
  unfold spConfSteps at hsp
  split at hsp
  · rename_i d
    have hK := hsp
    refine ⟨by simp [WConfSteps, mkW, mkWE, mkWF], fun Q hQ => ?_⟩
    obtain ⟨hd, _⟩ := hok
    simp only [SV.ok] at hd
    obtain ⟨hd1, hd2, hd3⟩ := Wt.slice hd; generalize d.l = l at *; subst hd1
    have g0 : (0 : Int) ≤ 0 := by decide
    have g1 : (0 : Int) ≤ 1000000 := by decide
    have ret : ∀ h' nx', HLe h h' → Q Ex.ret ⟨[(2, .bool true)], h', nx'⟩ := fun h' nx' hh => by
      refine (hQ _ ?_).1
      exact fin_t (.bool true) rfl rfl hnm hh hK
    by_cases h20 : 20 < l.length
    · have c1 : decide (20 < (l.length : Int)) = true := decide_eq_true (by omega)
      simp (maxSteps := 4000000) only [icConfSteps, walkSet, eq_self, implies_true, evMdl, evMupD, evMup, evLkp, Int.reduceEq, Int.reduceBEq, Int.reduceBNe, Int.reduceLE, Int.reduceLT, Int.reduceAdd, Int.reduceSub, Int.reduceMul, Int.reduceNeg, frpL, preF, preP, prePt, prePd, frzP, evNlq, ev, frOf, oget, ogets, argSs, argS, evMm, frzL, evBin, evWrp, evShf, evCmp, evUna, evNil, evBeq, evLd, evSt, evFad, evIad, evAad, evLen, evSln, evEls, evApp, evParts, evSlc, evNlc, evMif, evPck, evFld, evBld, evTas, evIfq, evSeq, evSl0, evBxf, evAgl, evAgq, evBsf, hget, hset, hdel, cellAt, arrAt, setCellAt, setArrAt, takeC, lenC, svCells, SV.okc, SV.one, ldSV, Fw.isAgg, Nat.reduceMul, Nat.reduceSub, Nat.reduceLeDiff, Nat.reduceLT, explode, explodeL, toD, toDL, toD1, Ty.size, Ty.sizeL, frz1, Fr.sub, Heap.sub, Tok.sub, SV.sub, SV.subL, Nat.reduceEqDiff, Nat.reduceAdd, reduceCtorEq, ↓reduceIte, reduceIte, spL7first, spL7six, g0, g1, c1, cfgA]
      exact ret _ _ (by ((try simp only []); repeat first | exact HLe.refl _ | refine HLe.cons (by simp only [hget, Nat.reduceEqDiff, Nat.left_eq_add, Nat.add_eq_left, nm_ne2, nm_en2, nm_ne3, nm_en3, nm_ne4, nm_en4, nm_ne5, nm_en5, reduceIte, ↓reduceIte] <;> first | rfl | ((repeat rw [if_neg (by omega)]) <;> rfl)) ?_ | refine HLe.skip hnm (by omega) ?_ | refine HLe.frz hnm (by omega) ?_ | refine HLe.del hnm (by omega) ?_))
    have c1 : decide (20 < (l.length : Int)) = false := decide_eq_false (by omega)
    simp (maxSteps := 4000000) only [icConfSteps, walkSet, eq_self, implies_true, evMdl, evMupD, evMup, evLkp, Int.reduceEq, Int.reduceBEq, Int.reduceBNe, Int.reduceLE, Int.reduceLT, Int.reduceAdd, Int.reduceSub, Int.reduceMul, Int.reduceNeg, frpL, preF, preP, prePt, prePd, frzP, evNlq, ev, frOf, oget, ogets, argSs, argS, evMm, frzL, evBin, evWrp, evShf, evCmp, evUna, evNil, evBeq, evLd, evSt, evFad, evIad, evAad, evLen, evSln, evEls, evApp, evParts, evSlc, evNlc, evMif, evPck, evFld, evBld, evTas, evIfq, evSeq, evSl0, evBxf, evAgl, evAgq, evBsf, hget, hset, hdel, cellAt, arrAt, setCellAt, setArrAt, takeC, lenC, svCells, SV.okc, SV.one, ldSV, Fw.isAgg, Nat.reduceMul, Nat.reduceSub, Nat.reduceLeDiff, Nat.reduceLT, explode, explodeL, toD, toDL, toD1, Ty.size, Ty.sizeL, frz1, Fr.sub, Heap.sub, Tok.sub, SV.sub, SV.subL, Nat.reduceEqDiff, Nat.reduceAdd, reduceCtorEq, ↓reduceIte, reduceIte, spL7first, spL7six, g0, g1, c1, cfgA]
    refine go_loop (α := { x : Nat × Int × List D × List D // x.1 ≤ l.length ∧ 0 ≤ x.2.1 ∧ x.2.1 ≤ x.1 ∧ stepOk x.2.2.1 x.2.2.2 }) (I := fun x => { f := [(0, .dat (.slice 3) (.list l)), (4, .ptr nx 0), (5, .int .i64 x.1.1)], h := (nx, .cells [.int .i64 x.1.2.1, .dat (.slice 3) (.list x.1.2.2.1), .dat (.slice 3) (.list x.1.2.2.2)]) :: h, nx := nx + 1 }) (μ := fun x => l.length - x.1.1) _ _ _ ⟨(0, 0, sixL 0, []), by simp, by simp, by simp, sixL_bad (by decide) (by decide), sixL_six 0, .inl rfl⟩ ?_ (fun x B hB => ?_)
    · refine leq_news [(nx, nx + 64 + 64)] [(nx, .cells [.int .i64 0, .dat (.slice 3) (.list (sixL 0)), .dat (.slice 3) (.list [])])] (.refl _) (by simp) (by simp <;> omega) (by simp) rfl ?_ ?_ ?_ ?_ hnm ?_ (by omega)
      · simp [frIn_cons, frIn_nil, fget_cons, fget_nil, SV.ren, SV.renL, rens]
      · (simp only [frLt_cons, frLt_nil, and_true, SV.lt, SV.ltL, true_and] <;> omega)
      · (simp only [List.mem_cons, List.not_mem_nil, or_false, forall_eq_or_imp, forall_eq]; simp [hget, rens, Tok.ren, SV.ren, SV.renL])
      · (simp only [List.mem_cons, List.not_mem_nil, or_false, forall_eq_or_imp, forall_eq, Tok.lt, SV.lt, SV.ltL, and_true, true_and] <;> omega)
      · ((try simp only []); repeat first | exact HLe.refl _ | refine HLe.cons (by simp only [hget, Nat.reduceEqDiff, Nat.left_eq_add, Nat.add_eq_left, nm_ne2, nm_en2, nm_ne3, nm_en3, nm_ne4, nm_en4, nm_ne5, nm_en5, reduceIte, ↓reduceIte] <;> first | rfl | ((repeat rw [if_neg (by omega)]) <;> rfl)) ?_ | refine HLe.skip hnm (by omega) ?_ | refine HLe.frz hnm (by omega) ?_ | refine HLe.del hnm (by omega) ?_)
    · obtain ⟨⟨i, e, o, n⟩, hi, he0, hei, hst⟩ := x
      simp only at hi he0 hei hst hB
      by_cases hil : i < l.length
      · have c2 : decide ((i : Int) < (l.length : Int)) = true := decide_eq_true (by omega)
        have g3 : (0 : Int) < 3 := by decide
        have g6 : (0 : Int) < 6 := by decide
        have g30 : (0 : Int) < 30 := by decide
        have q0 : (((0 : Nat) : Int) == 0) = true := rfl
        have q6 : (((6 : Nat) : Int) != 6) = false := rfl
        have q6e : (((6 : Nat) : Int) == 0) = false := rfl
        have q7 : (((7 : Nat) : Int) != 7) = false := rfl
        have q0n : (((0 : Nat) : Int) != 0) = false := rfl
        have qe : ((e + 1) != (e + 1)) = false := by simp
        have hv := step_valid hst (e := e) ⟨he0, by omega⟩
        obtain ⟨hb, h6, h3⟩ := hst
        obtain ⟨hl6, hnd⟩ := six_of h6
        have ho9 : o.length ≤ 1000000000 := by omega
        have ho3 : o.length ≤ 1000 := by omega
        have hso : sameD o (iL o) = true := by unfold sameD ints; rw [iL_map]; simp
        obtain ⟨z, hz⟩ : ∃ z, (l.getD i .nil).i = z := ⟨_, rfl⟩
        have hzr : -9223372036854775808 ≤ z ∧ z ≤ 9223372036854775807 := by
          have hm : l.getD i .nil ∈ l := by rw [List.getD_eq_getElem?_getD, List.getElem?_eq_getElem hil]; exact List.getElem_mem hil
          have h8 : Wt Tryd.prog E (.int .i64) (l.getD i .nil) := hd3 _ hm
          have h9 := (Wt.int h8).2
          rw [hz, min_i64, max_i64] at h9
          exact h9
        have z3 := tdiv_range hzr (b := 3) (by decide)
        have z18 := tdiv_range hzr (b := 18) (by decide)
        obtain ⟨j, hj⟩ : ∃ j, z.tdiv 3 % 6 = j := ⟨_, rfl⟩
        obtain ⟨w, hw⟩ : ∃ w, z.tdiv 18 % 30 = w := ⟨_, rfl⟩
        have hjr : 0 ≤ j ∧ j < 6 := by rw [← hj]; exact ⟨Int.emod_nonneg _ (by decide), Int.emod_lt_of_pos _ (by decide)⟩
        have hwr : 0 ≤ w ∧ w < 30 := by rw [← hw]; exact ⟨Int.emod_nonneg _ (by decide), Int.emod_lt_of_pos _ (by decide)⟩
        have next : ∀ (e' : Int) o' n' S', 0 ≤ e' → e' ≤ i + 1 → stepOk o' n' → Leq nx S' { f := [(0, .dat (.slice 3) (.list l)), (4, .ptr nx 0), (5, .int .i64 ((i + 1 : Nat) : Int))], h := (nx, .cells [.int .i64 e', .dat (.slice 3) (.list o'), .dat (.slice 3) (.list n')]) :: h, nx := nx + 1 } → B S' := fun e' o' n' S' k1 k2 k3 hl =>
          hB _ ⟨(i + 1, e', o', n'), by simp only []; omega, k1, by simp only []; omega, k3⟩ (by simp only []; omega) hl
        have he1 : e ≠ 1073741824 := by omega
        rcases h3 with rfl | ⟨hbn, h6n, h5⟩
        · simp (maxSteps := 4000000) only [walkSet, eq_self, implies_true, evMdl, evMupD, evMup, evLkp, Int.reduceEq, Int.reduceBEq, Int.reduceBNe, Int.reduceLE, Int.reduceLT, Int.reduceAdd, Int.reduceSub, Int.reduceMul, Int.reduceNeg, frpL, preF, preP, prePt, prePd, frzP, evNlq, ev, frOf, oget, ogets, argSs, argS, evMm, frzL, evBin, evWrp, evShf, evCmp, evUna, evNil, evBeq, evLd, evSt, evFad, evIad, evAad, evLen, evSln, evEls, evApp, evParts, evSlc, evNlc, evMif, evPck, evFld, evBld, evTas, evIfq, evSeq, evSl0, evBxf, evAgl, evAgq, evBsf, hget, hset, hdel, cellAt, arrAt, setCellAt, setArrAt, takeC, lenC, svCells, SV.okc, SV.one, ldSV, Fw.isAgg, Nat.reduceMul, Nat.reduceSub, Nat.reduceLeDiff, Nat.reduceLT, explode, explodeL, toD, toDL, toD1, Ty.size, Ty.sizeL, frz1, Fr.sub, Heap.sub, Tok.sub, SV.sub, SV.subL, Nat.reduceEqDiff, Nat.reduceAdd, reduceCtorEq, ↓reduceIte, reduceIte, c2, spNumber, g3, spRConfig, cfgA, hl6, ho9, Int.toNat_natCast, hz, q0, q6, min_i64, max_i64]
          repeat refine ⟨by omega, ?_⟩
          refine ⟨.int .i64 j, fun nx' => ⟨by rw [hj], rfl⟩, trivial, ?_⟩
          simp (maxSteps := 4000000) only [walkSet, eq_self, implies_true, evMdl, evMupD, evMup, evLkp, Int.reduceEq, Int.reduceBEq, Int.reduceBNe, Int.reduceLE, Int.reduceLT, Int.reduceAdd, Int.reduceSub, Int.reduceMul, Int.reduceNeg, frpL, preF, preP, prePt, prePd, frzP, evNlq, ev, frOf, oget, ogets, argSs, argS, evMm, frzL, evBin, evWrp, evShf, evCmp, evUna, evNil, evBeq, evLd, evSt, evFad, evIad, evAad, evLen, evSln, evEls, evApp, evParts, evSlc, evNlc, evMif, evPck, evFld, evBld, evTas, evIfq, evSeq, evSl0, evBxf, evAgl, evAgq, evBsf, hget, hset, hdel, cellAt, arrAt, setCellAt, setArrAt, takeC, lenC, svCells, SV.okc, SV.one, ldSV, Fw.isAgg, Nat.reduceMul, Nat.reduceSub, Nat.reduceLeDiff, Nat.reduceLT, explode, explodeL, toD, toDL, toD1, Ty.size, Ty.sizeL, frz1, Fr.sub, Heap.sub, Tok.sub, SV.sub, SV.subL, Nat.reduceEqDiff, Nat.reduceAdd, reduceCtorEq, ↓reduceIte, reduceIte, spNumber, g30]
          refine ⟨by omega, ?_⟩
          refine ⟨.int .i64 w, fun nx' => ⟨by rw [hw], rfl⟩, trivial, ?_⟩
          have hjm : (o.getD j.toNat .nil).i ∈ o.map D.i := by
            have h9 : j.toNat < o.length := by omega
            rw [List.getD_eq_getElem?_getD, List.getElem?_eq_getElem h9]
            exact List.mem_map.2 ⟨_, List.getElem_mem h9, rfl⟩
          have hidx : 0 ≤ idxI (fun v => (o.getD j.toNat .nil).i == v) o := by
            have h9 := idx_any (fun v => (o.getD j.toNat .nil).i == v) o
            have h10 : hasI o (o.getD j.toNat .nil).i = true := hasI_iff.2 hjm
            unfold hasI at h10
            rw [h10] at h9
            exact of_decide_eq_true h9
          have hidr := idx_range (fun v => (o.getD j.toNat .nil).i == v) o
          generalize (o.getD j.toNat .nil).i = x at hidx hidr
          have hny : nodeB (6 + w) = true := by unfold nodeB; simp; omega
          rcases bool_ft (hasI o (6 + w)) with hh | hh
          · have hb1 := begin_ok hv hidx hh hny he1
            have hb2 := beginR_ok hb1
            obtain ⟨r1, r2, r3⟩ := replace_ok (k := (idxI (fun v => x == v) o).toNat) (by omega) hl6 hnd hh
            have hbs := bad_set (k := (idxI (fun v => x == v) o).toNat) hb hny
            have hst' : stepOk o (o.set (idxI (fun v => x == v) o).toNat (.int (6 + w))) := ⟨hb, h6, .inr ⟨hbs, r1, r2⟩⟩
            have hv2 := step_valid hst' (e := e + 1) ⟨by omega, by omega⟩
            have hl6' : (o.set (idxI (fun v => x == v) o).toNat (.int (6 + w))).length = 6 := by rw [List.length_set]; exact hl6
            have hm7 := r3
            simp (maxSteps := 4000000) only [walkSet, eq_self, implies_true, evMdl, evMupD, evMup, evLkp, Int.reduceEq, Int.reduceBEq, Int.reduceBNe, Int.reduceLE, Int.reduceLT, Int.reduceAdd, Int.reduceSub, Int.reduceMul, Int.reduceNeg, frpL, preF, preP, prePt, prePd, frzP, evNlq, ev, frOf, oget, ogets, argSs, argS, evMm, frzL, evBin, evWrp, evShf, evCmp, evUna, evNil, evBeq, evLd, evSt, evFad, evIad, evAad, evLen, evSln, evEls, evApp, evParts, evSlc, evNlc, evMif, evPck, evFld, evBld, evTas, evIfq, evSeq, evSl0, evBxf, evAgl, evAgq, evBsf, hget, hset, hdel, cellAt, arrAt, setCellAt, setArrAt, takeC, lenC, svCells, SV.okc, SV.one, ldSV, Fw.isAgg, Nat.reduceMul, Nat.reduceSub, Nat.reduceLeDiff, Nat.reduceLT, explode, explodeL, toD, toDL, toD1, Ty.size, Ty.sizeL, frz1, Fr.sub, Heap.sub, Tok.sub, SV.sub, SV.subL, Nat.reduceEqDiff, Nat.reduceAdd, reduceCtorEq, ↓reduceIte, reduceIte, spCBegin, hb1, hb2, cfgA, spCMembers, spSameInts, spCValid, ho3, hl6', hl6, hso, r3, hv2, q7, q6, qe, min_i64, max_i64]
            refine ⟨⟨by omega, by omega⟩, ⟨⟨by omega, by omega⟩, ⟨by omega, by omega⟩, ?_⟩, ⟨by omega, by omega⟩, ⟨by omega, by omega⟩, ?_⟩
            all_goals
              refine next (e + 1) _ _ _ (by omega) (by omega) hst' ?_
              refine leq_id ?_ (by (simp only [frLt_cons, frLt_nil, and_true, SV.lt, SV.ltL, true_and] <;> omega)) (by ((try simp only []); repeat first | exact HLe.refl _ | refine HLe.cons (by simp only [hget, Nat.reduceEqDiff, Nat.left_eq_add, Nat.add_eq_left, nm_ne2, nm_en2, nm_ne3, nm_en3, nm_ne4, nm_en4, nm_ne5, nm_en5, reduceIte, ↓reduceIte] <;> first | rfl | ((repeat rw [if_neg (by omega)]) <;> rfl)) ?_ | refine HLe.skip hnm (by omega) ?_ | refine HLe.frz hnm (by omega) ?_ | refine HLe.del hnm (by omega) ?_)) (by (repeat first | exact HLt.mono hnm (by simp only [] <;> omega) | refine HLt.cons (by simp only [] <;> omega) (by simp only [Tok.lt, SV.ltL, SV.lt, and_true, true_and] <;> omega) ?_)) (by simp only [] <;> omega)
              simp only [frEq_cons, frEq_nil, frIn_cons, frIn_nil, and_true, fget_cons, Nat.reduceEqDiff, reduceIte, ↓reduceIte, true_and, SV.ren, SV.renL, ren1]
              simp
          · have hb1 : beginE e o [] x (6 + w) = .err 2 := by
              unfold beginE
              rw [if_neg (by rw [hv]; decide), if_neg (by simp), if_neg (by omega), if_pos hh]
            have hb2 : beginR e o [] x (6 + w) = cfgA 0 [] [] := by unfold beginR; rw [hb1, if_neg (by decide)]
            simp (maxSteps := 4000000) only [walkSet, eq_self, implies_true, evMdl, evMupD, evMup, evLkp, Int.reduceEq, Int.reduceBEq, Int.reduceBNe, Int.reduceLE, Int.reduceLT, Int.reduceAdd, Int.reduceSub, Int.reduceMul, Int.reduceNeg, frpL, preF, preP, prePt, prePd, frzP, evNlq, ev, frOf, oget, ogets, argSs, argS, evMm, frzL, evBin, evWrp, evShf, evCmp, evUna, evNil, evBeq, evLd, evSt, evFad, evIad, evAad, evLen, evSln, evEls, evApp, evParts, evSlc, evNlc, evMif, evPck, evFld, evBld, evTas, evIfq, evSeq, evSl0, evBxf, evAgl, evAgq, evBsf, hget, hset, hdel, cellAt, arrAt, setCellAt, setArrAt, takeC, lenC, svCells, SV.okc, SV.one, ldSV, Fw.isAgg, Nat.reduceMul, Nat.reduceSub, Nat.reduceLeDiff, Nat.reduceLT, explode, explodeL, toD, toDL, toD1, Ty.size, Ty.sizeL, frz1, Fr.sub, Heap.sub, Tok.sub, SV.sub, SV.subL, Nat.reduceEqDiff, Nat.reduceAdd, reduceCtorEq, ↓reduceIte, reduceIte, spCBegin, hb1, hb2, cfgA, min_i64, max_i64]
            refine ⟨⟨by omega, by omega⟩, ⟨⟨by omega, by omega⟩, ?_⟩, ⟨by omega, by omega⟩, ?_⟩
            all_goals
              refine next e o [] _ he0 (by omega) ⟨hb, h6, .inl rfl⟩ ?_
              refine leq_id ?_ (by (simp only [frLt_cons, frLt_nil, and_true, SV.lt, SV.ltL, true_and] <;> omega)) (by ((try simp only []); repeat first | exact HLe.refl _ | refine HLe.cons (by simp only [hget, Nat.reduceEqDiff, Nat.left_eq_add, Nat.add_eq_left, nm_ne2, nm_en2, nm_ne3, nm_en3, nm_ne4, nm_en4, nm_ne5, nm_en5, reduceIte, ↓reduceIte] <;> first | rfl | ((repeat rw [if_neg (by omega)]) <;> rfl)) ?_ | refine HLe.skip hnm (by omega) ?_ | refine HLe.frz hnm (by omega) ?_ | refine HLe.del hnm (by omega) ?_)) (by (repeat first | exact HLt.mono hnm (by simp only [] <;> omega) | refine HLt.cons (by simp only [] <;> omega) (by simp only [Tok.lt, SV.ltL, SV.lt, and_true, true_and] <;> omega) ?_)) (by simp only [] <;> omega)
              simp only [frEq_cons, frEq_nil, frIn_cons, frIn_nil, and_true, fget_cons, Nat.reduceEqDiff, reduceIte, ↓reduceIte, true_and, SV.ren, SV.renL, ren1]
              simp
        · obtain ⟨hl6n, hndn⟩ := six_of h6n
          have hn9 : n.length ≤ 1000000000 := by omega
          have hsn : sameD n n = true := by unfold sameD; simp
          have hsoo : sameD o o = true := by unfold sameD; simp
          have hE : endE e o n = .nil := by
            unfold endE
            rw [if_neg (by rw [hv]; decide), if_neg (by omega), if_neg he1]
          have hRt : endR e o n true = cfgA (e + 1) n [] := by unfold endR; rw [hE, if_pos (show (D.nil).isNil = true from rfl), if_pos rfl]
          have hRf : endR e o n false = cfgA (e + 1) o [] := by unfold endR; rw [hE, if_pos (show (D.nil).isNil = true from rfl), if_neg (by decide)]
          have hst1 : stepOk n [] := ⟨hbn, h6n, .inl rfl⟩
          have hst2 : stepOk o [] := ⟨hb, h6, .inl rfl⟩
          have hv1 := step_valid hst1 (e := e + 1) ⟨by omega, by omega⟩
          have hv2 := step_valid hst2 (e := e + 1) ⟨by omega, by omega⟩
          obtain ⟨k, hk⟩ : ∃ k, z % 3 = k := ⟨_, rfl⟩
          by_cases k0 : k = 0
          · subst k0
            simp (maxSteps := 4000000) only [walkSet, eq_self, implies_true, evMdl, evMupD, evMup, evLkp, Int.reduceEq, Int.reduceBEq, Int.reduceBNe, Int.reduceLE, Int.reduceLT, Int.reduceAdd, Int.reduceSub, Int.reduceMul, Int.reduceNeg, frpL, preF, preP, prePt, prePd, frzP, evNlq, ev, frOf, oget, ogets, argSs, argS, evMm, frzL, evBin, evWrp, evShf, evCmp, evUna, evNil, evBeq, evLd, evSt, evFad, evIad, evAad, evLen, evSln, evEls, evApp, evParts, evSlc, evNlc, evMif, evPck, evFld, evBld, evTas, evIfq, evSeq, evSl0, evBxf, evAgl, evAgq, evBsf, hget, hset, hdel, cellAt, arrAt, setCellAt, setArrAt, takeC, lenC, svCells, SV.okc, SV.one, ldSV, Fw.isAgg, Nat.reduceMul, Nat.reduceSub, Nat.reduceLeDiff, Nat.reduceLT, explode, explodeL, toD, toDL, toD1, Ty.size, Ty.sizeL, frz1, Fr.sub, Heap.sub, Tok.sub, SV.sub, SV.subL, Nat.reduceEqDiff, Nat.reduceAdd, reduceCtorEq, ↓reduceIte, reduceIte, c2, spNumber, g3, spRConfig, spCCommit, spCRollback, spSameInts, spCValid, cfgA, hl6, hl6n, ho9, hn9, Int.toNat_natCast, hz, hk, q6e, q6, q0n, qe, hE, hRt, hRf, hsn, hsoo, hso, hv1, hv2, min_i64, max_i64]
            repeat refine ⟨by omega, ?_⟩
            refine next (e + 1) o [] _ (by omega) (by omega) hst2 ?_
            refine leq_id ?_ (by (simp only [frLt_cons, frLt_nil, and_true, SV.lt, SV.ltL, true_and] <;> omega)) (by ((try simp only []); repeat first | exact HLe.refl _ | refine HLe.cons (by simp only [hget, Nat.reduceEqDiff, Nat.left_eq_add, Nat.add_eq_left, nm_ne2, nm_en2, nm_ne3, nm_en3, nm_ne4, nm_en4, nm_ne5, nm_en5, reduceIte, ↓reduceIte] <;> first | rfl | ((repeat rw [if_neg (by omega)]) <;> rfl)) ?_ | refine HLe.skip hnm (by omega) ?_ | refine HLe.frz hnm (by omega) ?_ | refine HLe.del hnm (by omega) ?_)) (by (repeat first | exact HLt.mono hnm (by simp only [] <;> omega) | refine HLt.cons (by simp only [] <;> omega) (by simp only [Tok.lt, SV.ltL, SV.lt, and_true, true_and] <;> omega) ?_)) (by simp only [] <;> omega)
            simp only [frEq_cons, frEq_nil, frIn_cons, frIn_nil, and_true, fget_cons, Nat.reduceEqDiff, reduceIte, ↓reduceIte, true_and, SV.ren, SV.renL, ren1]
            simp
          · have ck : (k == 0) = false := beq_eq_false_iff_ne.2 k0
            simp (maxSteps := 4000000) only [walkSet, eq_self, implies_true, evMdl, evMupD, evMup, evLkp, Int.reduceEq, Int.reduceBEq, Int.reduceBNe, Int.reduceLE, Int.reduceLT, Int.reduceAdd, Int.reduceSub, Int.reduceMul, Int.reduceNeg, frpL, preF, preP, prePt, prePd, frzP, evNlq, ev, frOf, oget, ogets, argSs, argS, evMm, frzL, evBin, evWrp, evShf, evCmp, evUna, evNil, evBeq, evLd, evSt, evFad, evIad, evAad, evLen, evSln, evEls, evApp, evParts, evSlc, evNlc, evMif, evPck, evFld, evBld, evTas, evIfq, evSeq, evSl0, evBxf, evAgl, evAgq, evBsf, hget, hset, hdel, cellAt, arrAt, setCellAt, setArrAt, takeC, lenC, svCells, SV.okc, SV.one, ldSV, Fw.isAgg, Nat.reduceMul, Nat.reduceSub, Nat.reduceLeDiff, Nat.reduceLT, explode, explodeL, toD, toDL, toD1, Ty.size, Ty.sizeL, frz1, Fr.sub, Heap.sub, Tok.sub, SV.sub, SV.subL, Nat.reduceEqDiff, Nat.reduceAdd, reduceCtorEq, ↓reduceIte, reduceIte, c2, spNumber, g3, spRConfig, spCCommit, spCRollback, spSameInts, spCValid, cfgA, hl6, hl6n, ho9, hn9, Int.toNat_natCast, hz, hk, ck, q6e, q6, q0n, qe, hE, hRt, hRf, hsn, hsoo, hso, hv1, hv2, min_i64, max_i64]
            repeat refine ⟨by omega, ?_⟩
            refine next (e + 1) n [] _ (by omega) (by omega) hst1 ?_
            refine leq_id ?_ (by (simp only [frLt_cons, frLt_nil, and_true, SV.lt, SV.ltL, true_and] <;> omega)) (by ((try simp only []); repeat first | exact HLe.refl _ | refine HLe.cons (by simp only [hget, Nat.reduceEqDiff, Nat.left_eq_add, Nat.add_eq_left, nm_ne2, nm_en2, nm_ne3, nm_en3, nm_ne4, nm_en4, nm_ne5, nm_en5, reduceIte, ↓reduceIte] <;> first | rfl | ((repeat rw [if_neg (by omega)]) <;> rfl)) ?_ | refine HLe.skip hnm (by omega) ?_ | refine HLe.frz hnm (by omega) ?_ | refine HLe.del hnm (by omega) ?_)) (by (repeat first | exact HLt.mono hnm (by simp only [] <;> omega) | refine HLt.cons (by simp only [] <;> omega) (by simp only [Tok.lt, SV.ltL, SV.lt, and_true, true_and] <;> omega) ?_)) (by simp only [] <;> omega)
            simp only [frEq_cons, frEq_nil, frIn_cons, frIn_nil, and_true, fget_cons, Nat.reduceEqDiff, reduceIte, ↓reduceIte, true_and, SV.ren, SV.renL, ren1]
            simp
      · obtain rfl : i = l.length := by omega
        have c2 : decide ((l.length : Int) < (l.length : Int)) = false := decide_eq_false (by omega)
        simp (maxSteps := 4000000) only [walkSet, eq_self, implies_true, evMdl, evMupD, evMup, evLkp, Int.reduceEq, Int.reduceBEq, Int.reduceBNe, Int.reduceLE, Int.reduceLT, Int.reduceAdd, Int.reduceSub, Int.reduceMul, Int.reduceNeg, frpL, preF, preP, prePt, prePd, frzP, evNlq, ev, frOf, oget, ogets, argSs, argS, evMm, frzL, evBin, evWrp, evShf, evCmp, evUna, evNil, evBeq, evLd, evSt, evFad, evIad, evAad, evLen, evSln, evEls, evApp, evParts, evSlc, evNlc, evMif, evPck, evFld, evBld, evTas, evIfq, evSeq, evSl0, evBxf, evAgl, evAgq, evBsf, hget, hset, hdel, cellAt, arrAt, setCellAt, setArrAt, takeC, lenC, svCells, SV.okc, SV.one, ldSV, Fw.isAgg, Nat.reduceMul, Nat.reduceSub, Nat.reduceLeDiff, Nat.reduceLT, explode, explodeL, toD, toDL, toD1, Ty.size, Ty.sizeL, frz1, Fr.sub, Heap.sub, Tok.sub, SV.sub, SV.subL, Nat.reduceEqDiff, Nat.reduceAdd, reduceCtorEq, ↓reduceIte, reduceIte, c2]
        exact ret _ _ (by ((try simp only []); repeat first | exact HLe.refl _ | refine HLe.cons (by simp only [hget, Nat.reduceEqDiff, Nat.left_eq_add, Nat.add_eq_left, nm_ne2, nm_en2, nm_ne3, nm_en3, nm_ne4, nm_en4, nm_ne5, nm_en5, reduceIte, ↓reduceIte] <;> first | rfl | ((repeat rw [if_neg (by omega)]) <;> rfl)) ?_ | refine HLe.skip hnm (by omega) ?_ | refine HLe.frz hnm (by omega) ?_ | refine HLe.del hnm (by omega) ?_))
  · exact hsp.elim
end Go.Proofs.YtkojpimkngmckaaDoor
