/- Chapter 7: what a registry is told, and what it tells. -/
import Derived.Test.YtkojpimkngmckaaDoorConfR
import Derived.Test.YtkojpimkngmckaaDoorInts
namespace Go.Proofs.YtkojpimkngmckaaDoor
set_option linter.unusedVariables false
set_option linter.unusedSimpArgs false
open Go Go.Fw

def WREpoch : Opts := mkWE 7 [] [] [] 184 [] []
def icREpoch : IC := (.seq (.seq (.ops [(.u (.mov 2 (.c (.int .i64 0))))]) (.tr [0])) (.seq (.seq (.ops [(.u (.mov 3 (.s 0))), (.u (.nlc 4 (.s 3))), (.u (.fad 5 1 1 (.int .i64) 123 (.s 4))), (.u (.ld 6 (.int .i64) (.s 5))), (.u (.mov 2 (.s 6)))]) (.tr [2])) .ret))
def rsREpoch : List RV := [(.t 2)]
theorem irREpoch : fnIR Tryd.prog WREpoch 59 = some (icREpoch, rsREpoch) := by kernel_rfl
def spREpoch : FSpec := fun args h nx K => match args with
  | [.ptr r 0] => gOk (hget h r) ∧ K (.int .i64 (gE (hget h r))) h
  | _ => False
set_option maxHeartbeats 4000000 in
set_option maxRecDepth 8000 in
theorem vREpoch {E : Nat → Value} (hE : Errs2 Tryd.prog (some 184) E) : Valid Tryd.prog E (gs []) 59 spREpoch := by
  refine valid_go (W := WREpoch) hE allValid_bot irREpoch (by decide) (fun args h nx K hsp hok hnm => ?_)
  unfold spREpoch at hsp
  split at hsp
  · rename_i r
    obtain ⟨⟨m, e, l, hr⟩, hK⟩ := hsp
    rw [hr, gE_c] at hK
    refine ⟨by simp [WREpoch, mkW, mkWE, mkWF], fun Q hQ => ?_⟩
    simp (maxSteps := 4000000) only [icREpoch, walkSet, eq_self, implies_true, evMdl, evMupD, evMup, evLkp, Int.reduceEq, Int.reduceBEq, Int.reduceBNe, Int.reduceLE, Int.reduceLT, Int.reduceAdd, Int.reduceSub, Int.reduceMul, Int.reduceNeg, frpL, preF, preP, prePt, prePd, frzP, evNlq, ev, frOf, oget, ogets, argSs, argS, evMm, frzL, evBin, evWrp, evShf, evCmp, evUna, evNil, evBeq, evLd, evSt, evFad, evIad, evAad, evLen, evSln, evEls, evApp, evParts, evSlc, evNlc, evMif, evPck, evFld, evBld, evTas, evIfq, evSeq, evSl0, evBxf, evAgl, evAgq, evBsf, hget, hset, hdel, cellAt, arrAt, setCellAt, setArrAt, takeC, lenC, svCells, SV.okc, SV.one, ldSV, Fw.isAgg, Nat.reduceMul, Nat.reduceSub, Nat.reduceLeDiff, Nat.reduceLT, explode, explodeL, toD, toDL, toD1, Ty.size, Ty.sizeL, frz1, Fr.sub, Heap.sub, Tok.sub, SV.sub, SV.subL, Nat.reduceEqDiff, Nat.reduceAdd, reduceCtorEq, ↓reduceIte, reduceIte, hr]
    refine (hQ _ ?_).1
    exact fin_t (.int .i64 _) rfl rfl hnm (by ((try simp only []); repeat first | exact HLe.refl _ | refine HLe.cons (by simp only [hget, Nat.reduceEqDiff, Nat.left_eq_add, Nat.add_eq_left, nm_ne2, nm_en2, nm_ne3, nm_en3, nm_ne4, nm_en4, nm_ne5, nm_en5, reduceIte, ↓reduceIte] <;> first | rfl | ((repeat rw [if_neg (by omega)]) <;> rfl)) ?_ | refine HLe.skip hnm (by omega) ?_ | refine HLe.frz hnm (by omega) ?_ | refine HLe.del hnm (by omega) ?_)) hK
  · exact hsp.elim

def WRTake : Opts := mkWE 25 [] [3, 6] [] 184 [3, 6] []
def icRTake : IC := (.seq (.seq (.ops [(.u (.mov 4 (.c (.dat .iface .nil))))]) (.tr [0, 1])) (.seq (.block 0 (.seq (.seq (.ops [(.u (.mov 6 (.s 1))), (.u (.cmp 7 .lss (.s 6) (.c (.int .i64 0)))), (.u (.mov 8 (.s 7))), (.g 8 false (some 9) (.mov 9 (.s 1))), (.g 8 false (some 10) (.cmp 10 .gtr (.s 9) (.c (.int .i64 1073741824)))), (.u (.pck 11 (.s 8) (.c (.bool true)) (.s 10))), (.u (.mov 5 (.s 11)))]) (.tr [5, 0, 1])) (.cond (.s 5) (.seq (.seq (.ops [(.u (.gld 12 3)), (.u (.mov 4 (.s 12)))]) (.tr [4])) .ret) (.seq (.seq (.ops [(.u (.mov 14 (.s 1))), (.u (.mov 15 (.s 0))), (.u (.nlc 16 (.s 15))), (.u (.fad 17 1 1 (.int .i64) 123 (.s 16))), (.u (.ld 18 (.int .i64) (.s 17))), (.u (.cmp 19 .leq (.s 14) (.s 18))), (.u (.mov 13 (.s 19)))]) (.tr [13, 0, 1])) (.cond (.s 13) (.seq (.seq (.ops [(.u (.gld 20 6)), (.u (.mov 4 (.s 20)))]) (.tr [4])) .ret) .skip))))) (.seq (.seq (.ops [(.u (.mov 21 (.s 0))), (.u (.mov 22 (.s 1))), (.u (.nlc 23 (.s 21))), (.u (.fad 24 1 1 (.int .i64) 123 (.s 23))), (.u (.st (.int .i64) (.s 24) (.s 22)))]) (.tr [])) (.seq (.seq (.ops [(.u (.mov 4 (.c (.dat .iface .nil))))]) (.tr [4])) .ret))))
def rsRTake : List RV := [(.t 4)]
theorem irRTake : fnIR Tryd.prog WRTake 55 = some (icRTake, rsRTake) := by kernel_rfl
abbrev GRT : List Nat := [3, 6]
def takeE (cur e : Int) : D := if e < 0 ∨ 1073741824 < e then .err 3 else if e ≤ cur then .err 6 else .nil
def spRTake : FSpec := fun args h nx K => match args with
  | [.ptr r 0, .int .i64 e] => gOk (hget h r) ∧
      ((takeE (gE (hget h r)) e).isNil = false → K (.dat .iface (takeE (gE (hget h r)) e)) h) ∧
      ((takeE (gE (hget h r)) e).isNil = true → K (.dat .iface .nil) (hset h r (.cells [.vec (gM (hget h r)), .int .i64 e, .arrc (.int .i64) (gI (hget h r))])))
  | _ => False
set_option maxHeartbeats 4000000 in
set_option maxRecDepth 8000 in
theorem vRTake {E : Nat → Value} (hE : Errs2 Tryd.prog (some 184) E) : Valid Tryd.prog E (gs GRT) 55 spRTake := by
  refine valid_go (W := WRTake) hE allValid_bot irRTake (by decide) (fun args h nx K hsp hok hnm => ?_)
  unfold spRTake at hsp
  split at hsp
  · rename_i r e
    obtain ⟨⟨m, c, l, hr⟩, hbad, hgood⟩ := hsp
    rw [hr, gE_c] at hbad hgood
    rw [gM_c, gI_c] at hgood
    refine ⟨by simp [WRTake, mkW, mkWE, mkWF], fun Q hQ => ?_⟩
    have retN : ∀ d h' nx', HLe h h' → d.isNil = false → d = takeE c e → Q Ex.ret ⟨[(4, .dat .iface d)], h', nx'⟩ := fun d h' nx' hh hd hde => by
      refine (hQ _ ?_).1
      subst hde
      exact fin_t (.dat .iface _) rfl rfl hnm hh (hbad hd)
    by_cases h1 : e < 0
    · have c1 : decide (e < 0) = true := decide_eq_true h1
      simp (maxSteps := 4000000) only [icRTake, walkSet, eq_self, implies_true, evMdl, evMupD, evMup, evLkp, Int.reduceEq, Int.reduceBEq, Int.reduceBNe, Int.reduceLE, Int.reduceLT, Int.reduceAdd, Int.reduceSub, Int.reduceMul, Int.reduceNeg, frpL, preF, preP, prePt, prePd, frzP, evNlq, ev, frOf, oget, ogets, argSs, argS, evMm, frzL, evBin, evWrp, evShf, evCmp, evUna, evNil, evBeq, evLd, evSt, evFad, evIad, evAad, evLen, evSln, evEls, evApp, evParts, evSlc, evNlc, evMif, evPck, evFld, evBld, evTas, evIfq, evSeq, evSl0, evBxf, evAgl, evAgq, evBsf, hget, hset, hdel, cellAt, arrAt, setCellAt, setArrAt, takeC, lenC, svCells, SV.okc, SV.one, ldSV, Fw.isAgg, Nat.reduceMul, Nat.reduceSub, Nat.reduceLeDiff, Nat.reduceLT, explode, explodeL, toD, toDL, toD1, Ty.size, Ty.sizeL, frz1, Fr.sub, Heap.sub, Tok.sub, SV.sub, SV.subL, Nat.reduceEqDiff, Nat.reduceAdd, reduceCtorEq, ↓reduceIte, reduceIte, hr, c1]
      exact retN _ _ _ (by ((try simp only []); repeat first | exact HLe.refl _ | refine HLe.cons (by simp only [hget, Nat.reduceEqDiff, Nat.left_eq_add, Nat.add_eq_left, nm_ne2, nm_en2, nm_ne3, nm_en3, nm_ne4, nm_en4, nm_ne5, nm_en5, reduceIte, ↓reduceIte] <;> first | rfl | ((repeat rw [if_neg (by omega)]) <;> rfl)) ?_ | refine HLe.skip hnm (by omega) ?_ | refine HLe.frz hnm (by omega) ?_ | refine HLe.del hnm (by omega) ?_)) rfl (by unfold takeE; rw [if_pos (.inl h1)])
    have c1 : decide (e < 0) = false := decide_eq_false h1
    by_cases h2 : 1073741824 < e
    · have c2 : decide (1073741824 < e) = true := decide_eq_true h2
      simp (maxSteps := 4000000) only [icRTake, walkSet, eq_self, implies_true, evMdl, evMupD, evMup, evLkp, Int.reduceEq, Int.reduceBEq, Int.reduceBNe, Int.reduceLE, Int.reduceLT, Int.reduceAdd, Int.reduceSub, Int.reduceMul, Int.reduceNeg, frpL, preF, preP, prePt, prePd, frzP, evNlq, ev, frOf, oget, ogets, argSs, argS, evMm, frzL, evBin, evWrp, evShf, evCmp, evUna, evNil, evBeq, evLd, evSt, evFad, evIad, evAad, evLen, evSln, evEls, evApp, evParts, evSlc, evNlc, evMif, evPck, evFld, evBld, evTas, evIfq, evSeq, evSl0, evBxf, evAgl, evAgq, evBsf, hget, hset, hdel, cellAt, arrAt, setCellAt, setArrAt, takeC, lenC, svCells, SV.okc, SV.one, ldSV, Fw.isAgg, Nat.reduceMul, Nat.reduceSub, Nat.reduceLeDiff, Nat.reduceLT, explode, explodeL, toD, toDL, toD1, Ty.size, Ty.sizeL, frz1, Fr.sub, Heap.sub, Tok.sub, SV.sub, SV.subL, Nat.reduceEqDiff, Nat.reduceAdd, reduceCtorEq, ↓reduceIte, reduceIte, hr, c1, c2]
      exact retN _ _ _ (by ((try simp only []); repeat first | exact HLe.refl _ | refine HLe.cons (by simp only [hget, Nat.reduceEqDiff, Nat.left_eq_add, Nat.add_eq_left, nm_ne2, nm_en2, nm_ne3, nm_en3, nm_ne4, nm_en4, nm_ne5, nm_en5, reduceIte, ↓reduceIte] <;> first | rfl | ((repeat rw [if_neg (by omega)]) <;> rfl)) ?_ | refine HLe.skip hnm (by omega) ?_ | refine HLe.frz hnm (by omega) ?_ | refine HLe.del hnm (by omega) ?_)) rfl (by unfold takeE; rw [if_pos (.inr h2)])
    have c2 : decide (1073741824 < e) = false := decide_eq_false h2
    have hE : takeE c e = if e ≤ c then .err 6 else .nil := by unfold takeE; rw [if_neg (by omega)]
    by_cases h3 : e ≤ c
    · rw [if_pos h3] at hE
      have c3 : decide (e ≤ c) = true := decide_eq_true h3
      simp (maxSteps := 4000000) only [icRTake, walkSet, eq_self, implies_true, evMdl, evMupD, evMup, evLkp, Int.reduceEq, Int.reduceBEq, Int.reduceBNe, Int.reduceLE, Int.reduceLT, Int.reduceAdd, Int.reduceSub, Int.reduceMul, Int.reduceNeg, frpL, preF, preP, prePt, prePd, frzP, evNlq, ev, frOf, oget, ogets, argSs, argS, evMm, frzL, evBin, evWrp, evShf, evCmp, evUna, evNil, evBeq, evLd, evSt, evFad, evIad, evAad, evLen, evSln, evEls, evApp, evParts, evSlc, evNlc, evMif, evPck, evFld, evBld, evTas, evIfq, evSeq, evSl0, evBxf, evAgl, evAgq, evBsf, hget, hset, hdel, cellAt, arrAt, setCellAt, setArrAt, takeC, lenC, svCells, SV.okc, SV.one, ldSV, Fw.isAgg, Nat.reduceMul, Nat.reduceSub, Nat.reduceLeDiff, Nat.reduceLT, explode, explodeL, toD, toDL, toD1, Ty.size, Ty.sizeL, frz1, Fr.sub, Heap.sub, Tok.sub, SV.sub, SV.subL, Nat.reduceEqDiff, Nat.reduceAdd, reduceCtorEq, ↓reduceIte, reduceIte, hr, c1, c2, c3]
      exact retN _ _ _ (by ((try simp only []); repeat first | exact HLe.refl _ | refine HLe.cons (by simp only [hget, Nat.reduceEqDiff, Nat.left_eq_add, Nat.add_eq_left, nm_ne2, nm_en2, nm_ne3, nm_en3, nm_ne4, nm_en4, nm_ne5, nm_en5, reduceIte, ↓reduceIte] <;> first | rfl | ((repeat rw [if_neg (by omega)]) <;> rfl)) ?_ | refine HLe.skip hnm (by omega) ?_ | refine HLe.frz hnm (by omega) ?_ | refine HLe.del hnm (by omega) ?_)) rfl hE.symm
    · rw [if_neg h3] at hE
      have c3 : decide (e ≤ c) = false := decide_eq_false h3
      simp (maxSteps := 4000000) only [icRTake, walkSet, eq_self, implies_true, evMdl, evMupD, evMup, evLkp, Int.reduceEq, Int.reduceBEq, Int.reduceBNe, Int.reduceLE, Int.reduceLT, Int.reduceAdd, Int.reduceSub, Int.reduceMul, Int.reduceNeg, frpL, preF, preP, prePt, prePd, frzP, evNlq, ev, frOf, oget, ogets, argSs, argS, evMm, frzL, evBin, evWrp, evShf, evCmp, evUna, evNil, evBeq, evLd, evSt, evFad, evIad, evAad, evLen, evSln, evEls, evApp, evParts, evSlc, evNlc, evMif, evPck, evFld, evBld, evTas, evIfq, evSeq, evSl0, evBxf, evAgl, evAgq, evBsf, hget, hset, hdel, cellAt, arrAt, setCellAt, setArrAt, takeC, lenC, svCells, SV.okc, SV.one, ldSV, Fw.isAgg, Nat.reduceMul, Nat.reduceSub, Nat.reduceLeDiff, Nat.reduceLT, explode, explodeL, toD, toDL, toD1, Ty.size, Ty.sizeL, frz1, Fr.sub, Heap.sub, Tok.sub, SV.sub, SV.subL, Nat.reduceEqDiff, Nat.reduceAdd, reduceCtorEq, ↓reduceIte, reduceIte, hr, c1, c2, c3]
      refine (hQ _ ?_).1
      exact fin_t (.dat .iface .nil) rfl rfl (HLt.hset hnm (t := .cells [.vec m, .int .i64 e, .arrc (.int .i64) l]) ⟨(hnm r _ hr).2.1, trivial, trivial, trivial⟩) (HLe.refl _) (hgood (by rw [hE]; rfl))
  · exact hsp.elim

theorem fin_cfgB {nb : Nat} {h : Heap} {K : SV → Heap → Prop} {rs : List RV} {S : SSt} {e : Int} {b : Bool} (he : evRs rs S = some (True, [.agg [.int .i64 e, .nils, .nils], .bool b])) (hl : HLt h nb) (hs : HLe h S.h) (hk : K (.tup [cfgA e [] [], .bool b]) h) : Fin nb K rs S := by
  refine fin_new (p := True) he trivial (.dtag 0 0 1 3 rfl rfl rfl rfl (.dtag 0 0 2 3 rfl rfl rfl rfl (.refl _))) [] (.tup [cfgA e [] [], .bool b]) [] (by simp) (by simp) (by simp) ?_ ?_ rfl (by simp) (by simp) hl hs hk
  · rfl
  · exact ⟨⟨trivial, trivial, trivial, trivial⟩, trivial, trivial⟩
theorem fin_cfgC {nb : Nat} {h : Heap} {K : SV → Heap → Prop} {rs : List RV} {S : SSt} {e : Int} {o n : List D} {b : Bool} (he : evRs rs S = some (True, [.agg [.int .i64 e, .dat (.slice 3) (.list o), .dat (.slice 3) (.list n)], .bool b])) (hl : HLt h nb) (hs : HLe h S.h) (hk : K (.tup [cfgA e o n, .bool b]) h) : Fin nb K rs S := by
  refine fin_new (p := True) he trivial (.refl _) [] (.tup [cfgA e o n, .bool b]) [] (by simp) (by simp) (by simp) ?_ ?_ rfl (by simp) (by simp) hl hs hk
  · rfl
  · exact ⟨⟨trivial, trivial, trivial, trivial⟩, trivial, trivial⟩
def WRGet : Opts := mkWE 26 [] [] [] 184 [] []
def icRGet : IC := (.seq (.seq (.ops [(.u (.alc 4 [(.int .i64 0), .nils, .nils])), (.u (.mov 5 (.c (.bool false))))]) (.tr [0, 1, 4])) (.seq (.seq (.seq (.ops [(.u (.mov 6 (.s 1))), (.u (.cmp 7 .lss (.s 6) (.c (.int .i64 0)))), (.u (.mov 8 (.s 7))), (.g 8 false (some 9) (.mov 9 (.s 1))), (.g 8 false (some 10) (.mov 10 (.s 0))), (.g 8 false (some 11) (.nlc 11 (.s 10))), (.g 8 false (some 12) (.fad 12 0 0 (.slice 25) 123 (.s 11))), (.g 8 false (some 13) (.ld 13 (.slice 25) (.s 12))), (.g 8 false (some 14) (.len 14 false (.s 13))), (.g 8 false (some 15) (.cmp 15 .geq (.s 9) (.s 14))), (.u (.pck 16 (.s 8) (.c (.bool true)) (.s 15)))]) (.tr [16, 0, 1, 4])) (.cond (.s 16) (.seq (.seq (.ops [(.u (.bld 17 [[(.int .i64 0)], [.nils], [.nils]] [])), (.u (.st (.strct [(.int .i64), (.slice 3), (.slice 3)]) (.s 4) (.s 17))), (.u (.mov 5 (.c (.bool false))))]) (.tr [4, 5])) .ret) .skip)) (.seq (.seq (.ops [(.u (.mov 18 (.s 0))), (.u (.nlc 19 (.s 18))), (.u (.fad 20 0 0 (.slice 25) 123 (.s 19))), (.u (.ld 21 (.slice 25) (.s 20))), (.u (.mov 22 (.s 1))), (.u (.iad 23 25 (.strct [(.int .i64), (.slice 3), (.slice 3)]) (.s 21) (.s 22))), (.u (.ld 24 (.strct [(.int .i64), (.slice 3), (.slice 3)]) (.s 23))), (.u (.call 25 (.c (.clo 71 [])) [(.s 24)] [none] true)), (.u (.st (.strct [(.int .i64), (.slice 3), (.slice 3)]) (.s 4) (.s 25))), (.u (.mov 5 (.c (.bool true))))]) (.tr [4, 5])) .ret)))
def rsRGet : List RV := [(.c 4 (.strct [(.int .i64), (.slice 3), (.slice 3)])), (.t 5)]
theorem irRGet : fnIR Tryd.prog WRGet 56 = some (icRGet, rsRGet) := by kernel_rfl
def getR (L : List D) (g : Int) : SV := if 0 ≤ g ∧ g < L.length then .tup [cfgA ((L.getD g.toNat .nil).fld 0).i ((L.getD g.toNat .nil).fld 1).l ((L.getD g.toNat .nil).fld 2).l, .bool true] else .tup [cfgA 0 [] [], .bool false]
def spRGet : FSpec := fun args h nx K => match args with
  | [.ptr r 0, .int .i64 g] => gOk (hget h r) ∧ cOk (hget h (gM (hget h r))) ∧ regsOk (cL (hget h (gM (hget h r)))) ∧ K (getR (cL (hget h (gM (hget h r)))) g) h
  | _ => False
set_option maxHeartbeats 4000000 in
set_option maxRecDepth 8000 in
theorem vRGet {E : Nat → Value} (hE : Errs2 Tryd.prog (some 184) E) : Valid Tryd.prog E (gs []) 56 spRGet := by
  refine valid_go (W := WRGet) hE (allValid_bot.add (up (vCClone hE))) irRGet (by decide) (fun args h nx K hsp hok hnm => ?_)
  unfold spRGet at hsp
  split at hsp
  · rename_i r g
    obtain ⟨⟨m, c, l, hr⟩, hc, hreg, hK⟩ := hsp
    rw [hr, gM_c] at hc hreg hK
    obtain ⟨L, hm⟩ := hc
    rw [hm, cL_c] at hreg hK
    have hrx := (hnm r _ hr).1
    have hmx := (hnm m _ hm).1
    refine ⟨by simp [WRGet, mkW, mkWE, mkWF], fun Q hQ => ?_⟩
    have pn0r : (nx = r) = False := eq_false (by omega)
    have pn1r : ∀ a0 : Nat, (nx + a0 = r) = False := fun a0 => eq_false (by omega)
    have pn2r : ∀ a0 a1 : Nat, (nx + a0 + a1 = r) = False := fun a0 a1 => eq_false (by omega)
    have pn3r : ∀ a0 a1 a2 : Nat, (nx + a0 + a1 + a2 = r) = False := fun a0 a1 a2 => eq_false (by omega)
    have pn4r : ∀ a0 a1 a2 a3 : Nat, (nx + a0 + a1 + a2 + a3 = r) = False := fun a0 a1 a2 a3 => eq_false (by omega)
    have pn5r : ∀ a0 a1 a2 a3 a4 : Nat, (nx + a0 + a1 + a2 + a3 + a4 = r) = False := fun a0 a1 a2 a3 a4 => eq_false (by omega)
    have pn6r : ∀ a0 a1 a2 a3 a4 a5 : Nat, (nx + a0 + a1 + a2 + a3 + a4 + a5 = r) = False := fun a0 a1 a2 a3 a4 a5 => eq_false (by omega)
    have pn7r : ∀ a0 a1 a2 a3 a4 a5 a6 : Nat, (nx + a0 + a1 + a2 + a3 + a4 + a5 + a6 = r) = False := fun a0 a1 a2 a3 a4 a5 a6 => eq_false (by omega)
    have pn0m : (nx = m) = False := eq_false (by omega)
    have pn1m : ∀ a0 : Nat, (nx + a0 = m) = False := fun a0 => eq_false (by omega)
    have pn2m : ∀ a0 a1 : Nat, (nx + a0 + a1 = m) = False := fun a0 a1 => eq_false (by omega)
    have pn3m : ∀ a0 a1 a2 : Nat, (nx + a0 + a1 + a2 = m) = False := fun a0 a1 a2 => eq_false (by omega)
    have pn4m : ∀ a0 a1 a2 a3 : Nat, (nx + a0 + a1 + a2 + a3 = m) = False := fun a0 a1 a2 a3 => eq_false (by omega)
    have pn5m : ∀ a0 a1 a2 a3 a4 : Nat, (nx + a0 + a1 + a2 + a3 + a4 = m) = False := fun a0 a1 a2 a3 a4 => eq_false (by omega)
    have pn6m : ∀ a0 a1 a2 a3 a4 a5 : Nat, (nx + a0 + a1 + a2 + a3 + a4 + a5 = m) = False := fun a0 a1 a2 a3 a4 a5 => eq_false (by omega)
    have pn7m : ∀ a0 a1 a2 a3 a4 a5 a6 : Nat, (nx + a0 + a1 + a2 + a3 + a4 + a5 + a6 = m) = False := fun a0 a1 a2 a3 a4 a5 a6 => eq_false (by omega)
    have retN : ∀ h' nx', ¬ (0 ≤ g ∧ g < L.length) → HLe h h' → hget h' nx = some (.cells [.int .i64 0, .nils, .nils]) → Q Ex.ret ⟨[(4, .ptr nx 0), (5, .bool false)], h', nx'⟩ := fun h' nx' hc hh hg => by
      refine (hQ _ ?_).1
      unfold getR at hK
      rw [if_neg hc] at hK
      refine fin_cfgB ?_ hnm hh hK
      simp only [rsRGet, evRs, evR, walkSet, eq_self, implies_true, evMdl, evMupD, evMup, evLkp, Int.reduceEq, Int.reduceBEq, Int.reduceBNe, Int.reduceLE, Int.reduceLT, Int.reduceAdd, Int.reduceSub, Int.reduceMul, Int.reduceNeg, frpL, preF, preP, prePt, prePd, frzP, evNlq, ev, frOf, oget, ogets, argSs, argS, evMm, frzL, evBin, evWrp, evShf, evCmp, evUna, evNil, evBeq, evLd, evSt, evFad, evIad, evAad, evLen, evSln, evEls, evApp, evParts, evSlc, evNlc, evMif, evPck, evFld, evBld, evTas, evIfq, evSeq, evSl0, evBxf, evAgl, evAgq, evBsf, hget, hset, hdel, cellAt, arrAt, setCellAt, setArrAt, takeC, lenC, svCells, SV.okc, SV.one, ldSV, Fw.isAgg, Nat.reduceMul, Nat.reduceSub, Nat.reduceLeDiff, Nat.reduceLT, explode, explodeL, toD, toDL, toD1, Ty.size, Ty.sizeL, frz1, Fr.sub, Heap.sub, Tok.sub, SV.sub, SV.subL, Nat.reduceEqDiff, Nat.reduceAdd, reduceCtorEq, ↓reduceIte, reduceIte, hg]
    by_cases h1 : g < 0
    · have c1 : decide (g < 0) = true := decide_eq_true h1
      simp (maxSteps := 4000000) only [icRGet, walkSet, eq_self, implies_true, evMdl, evMupD, evMup, evLkp, Int.reduceEq, Int.reduceBEq, Int.reduceBNe, Int.reduceLE, Int.reduceLT, Int.reduceAdd, Int.reduceSub, Int.reduceMul, Int.reduceNeg, frpL, preF, preP, prePt, prePd, frzP, evNlq, ev, frOf, oget, ogets, argSs, argS, evMm, frzL, evBin, evWrp, evShf, evCmp, evUna, evNil, evBeq, evLd, evSt, evFad, evIad, evAad, evLen, evSln, evEls, evApp, evParts, evSlc, evNlc, evMif, evPck, evFld, evBld, evTas, evIfq, evSeq, evSl0, evBxf, evAgl, evAgq, evBsf, hget, hset, hdel, cellAt, arrAt, setCellAt, setArrAt, takeC, lenC, svCells, SV.okc, SV.one, ldSV, Fw.isAgg, Nat.reduceMul, Nat.reduceSub, Nat.reduceLeDiff, Nat.reduceLT, explode, explodeL, toD, toDL, toD1, Ty.size, Ty.sizeL, frz1, Fr.sub, Heap.sub, Tok.sub, SV.sub, SV.subL, Nat.reduceEqDiff, Nat.reduceAdd, reduceCtorEq, ↓reduceIte, reduceIte, pn0r, pn1r, pn2r, pn3r, pn4r, pn5r, pn6r, pn7r, pn0m, pn1m, pn2m, pn3m, pn4m, pn5m, pn6m, pn7m, hr, hm, c1]
      exact retN _ _ (by omega) (by ((try simp only []); repeat first | exact HLe.refl _ | refine HLe.cons (by simp only [hget, Nat.reduceEqDiff, Nat.left_eq_add, Nat.add_eq_left, nm_ne2, nm_en2, nm_ne3, nm_en3, nm_ne4, nm_en4, nm_ne5, nm_en5, reduceIte, ↓reduceIte] <;> first | rfl | ((repeat rw [if_neg (by omega)]) <;> rfl)) ?_ | refine HLe.skip hnm (by omega) ?_ | refine HLe.frz hnm (by omega) ?_ | refine HLe.del hnm (by omega) ?_)) (by simp only [hget, walkSet, eq_self, implies_true, evMdl, evMupD, evMup, evLkp, Int.reduceEq, Int.reduceBEq, Int.reduceBNe, Int.reduceLE, Int.reduceLT, Int.reduceAdd, Int.reduceSub, Int.reduceMul, Int.reduceNeg, frpL, preF, preP, prePt, prePd, frzP, evNlq, ev, frOf, oget, ogets, argSs, argS, evMm, frzL, evBin, evWrp, evShf, evCmp, evUna, evNil, evBeq, evLd, evSt, evFad, evIad, evAad, evLen, evSln, evEls, evApp, evParts, evSlc, evNlc, evMif, evPck, evFld, evBld, evTas, evIfq, evSeq, evSl0, evBxf, evAgl, evAgq, evBsf, hget, hset, hdel, cellAt, arrAt, setCellAt, setArrAt, takeC, lenC, svCells, SV.okc, SV.one, ldSV, Fw.isAgg, Nat.reduceMul, Nat.reduceSub, Nat.reduceLeDiff, Nat.reduceLT, explode, explodeL, toD, toDL, toD1, Ty.size, Ty.sizeL, frz1, Fr.sub, Heap.sub, Tok.sub, SV.sub, SV.subL, Nat.reduceEqDiff, Nat.reduceAdd, reduceCtorEq, ↓reduceIte, reduceIte])
    have c1 : decide (g < 0) = false := decide_eq_false h1
    by_cases h2 : (L.length : Int) ≤ g
    · have c2 : decide ((L.length : Int) ≤ g) = true := decide_eq_true h2
      simp (maxSteps := 4000000) only [icRGet, walkSet, eq_self, implies_true, evMdl, evMupD, evMup, evLkp, Int.reduceEq, Int.reduceBEq, Int.reduceBNe, Int.reduceLE, Int.reduceLT, Int.reduceAdd, Int.reduceSub, Int.reduceMul, Int.reduceNeg, frpL, preF, preP, prePt, prePd, frzP, evNlq, ev, frOf, oget, ogets, argSs, argS, evMm, frzL, evBin, evWrp, evShf, evCmp, evUna, evNil, evBeq, evLd, evSt, evFad, evIad, evAad, evLen, evSln, evEls, evApp, evParts, evSlc, evNlc, evMif, evPck, evFld, evBld, evTas, evIfq, evSeq, evSl0, evBxf, evAgl, evAgq, evBsf, hget, hset, hdel, cellAt, arrAt, setCellAt, setArrAt, takeC, lenC, svCells, SV.okc, SV.one, ldSV, Fw.isAgg, Nat.reduceMul, Nat.reduceSub, Nat.reduceLeDiff, Nat.reduceLT, explode, explodeL, toD, toDL, toD1, Ty.size, Ty.sizeL, frz1, Fr.sub, Heap.sub, Tok.sub, SV.sub, SV.subL, Nat.reduceEqDiff, Nat.reduceAdd, reduceCtorEq, ↓reduceIte, reduceIte, pn0r, pn1r, pn2r, pn3r, pn4r, pn5r, pn6r, pn7r, pn0m, pn1m, pn2m, pn3m, pn4m, pn5m, pn6m, pn7m, hr, hm, c1, c2]
      exact retN _ _ (by omega) (by ((try simp only []); repeat first | exact HLe.refl _ | refine HLe.cons (by simp only [hget, Nat.reduceEqDiff, Nat.left_eq_add, Nat.add_eq_left, nm_ne2, nm_en2, nm_ne3, nm_en3, nm_ne4, nm_en4, nm_ne5, nm_en5, reduceIte, ↓reduceIte] <;> first | rfl | ((repeat rw [if_neg (by omega)]) <;> rfl)) ?_ | refine HLe.skip hnm (by omega) ?_ | refine HLe.frz hnm (by omega) ?_ | refine HLe.del hnm (by omega) ?_)) (by simp only [hget, walkSet, eq_self, implies_true, evMdl, evMupD, evMup, evLkp, Int.reduceEq, Int.reduceBEq, Int.reduceBNe, Int.reduceLE, Int.reduceLT, Int.reduceAdd, Int.reduceSub, Int.reduceMul, Int.reduceNeg, frpL, preF, preP, prePt, prePd, frzP, evNlq, ev, frOf, oget, ogets, argSs, argS, evMm, frzL, evBin, evWrp, evShf, evCmp, evUna, evNil, evBeq, evLd, evSt, evFad, evIad, evAad, evLen, evSln, evEls, evApp, evParts, evSlc, evNlc, evMif, evPck, evFld, evBld, evTas, evIfq, evSeq, evSl0, evBxf, evAgl, evAgq, evBsf, hget, hset, hdel, cellAt, arrAt, setCellAt, setArrAt, takeC, lenC, svCells, SV.okc, SV.one, ldSV, Fw.isAgg, Nat.reduceMul, Nat.reduceSub, Nat.reduceLeDiff, Nat.reduceLT, explode, explodeL, toD, toDL, toD1, Ty.size, Ty.sizeL, frz1, Fr.sub, Heap.sub, Tok.sub, SV.sub, SV.subL, Nat.reduceEqDiff, Nat.reduceAdd, reduceCtorEq, ↓reduceIte, reduceIte])
    have c2 : decide ((L.length : Int) ≤ g) = false := decide_eq_false h2
    have hxL : L.getD g.toNat .nil ∈ L := by rw [List.getD_eq_getElem?_getD, List.getElem?_eq_getElem (by omega)]; exact List.getElem_mem _
    obtain ⟨hx1, hx2, _⟩ := hreg.2 _ hxL
    have o9 : ((L.getD g.toNat .nil).fld 1).l.length ≤ 1000000000 := by omega
    have n9 : ((L.getD g.toNat .nil).fld 2).l.length ≤ 1000000000 := by omega
    simp (maxSteps := 4000000) only [icRGet, walkSet, eq_self, implies_true, evMdl, evMupD, evMup, evLkp, Int.reduceEq, Int.reduceBEq, Int.reduceBNe, Int.reduceLE, Int.reduceLT, Int.reduceAdd, Int.reduceSub, Int.reduceMul, Int.reduceNeg, frpL, preF, preP, prePt, prePd, frzP, evNlq, ev, frOf, oget, ogets, argSs, argS, evMm, frzL, evBin, evWrp, evShf, evCmp, evUna, evNil, evBeq, evLd, evSt, evFad, evIad, evAad, evLen, evSln, evEls, evApp, evParts, evSlc, evNlc, evMif, evPck, evFld, evBld, evTas, evIfq, evSeq, evSl0, evBxf, evAgl, evAgq, evBsf, hget, hset, hdel, cellAt, arrAt, setCellAt, setArrAt, takeC, lenC, svCells, SV.okc, SV.one, ldSV, Fw.isAgg, Nat.reduceMul, Nat.reduceSub, Nat.reduceLeDiff, Nat.reduceLT, explode, explodeL, toD, toDL, toD1, Ty.size, Ty.sizeL, frz1, Fr.sub, Heap.sub, Tok.sub, SV.sub, SV.subL, Nat.reduceEqDiff, Nat.reduceAdd, reduceCtorEq, ↓reduceIte, reduceIte, pn0r, pn1r, pn2r, pn3r, pn4r, pn5r, pn6r, pn7r, pn0m, pn1m, pn2m, pn3m, pn4m, pn5m, pn6m, pn7m, hr, hm, c1, c2, spCClone, o9, n9, cfgA]
    repeat refine ⟨by omega, ?_⟩
    unfold getR at hK
    rw [if_pos (by omega)] at hK
    refine (hQ _ ?_).1
    refine fin_cfgC ?_ hnm ?_ hK
    · simp only [rsRGet, evRs, evR, walkSet, eq_self, implies_true, evMdl, evMupD, evMup, evLkp, Int.reduceEq, Int.reduceBEq, Int.reduceBNe, Int.reduceLE, Int.reduceLT, Int.reduceAdd, Int.reduceSub, Int.reduceMul, Int.reduceNeg, frpL, preF, preP, prePt, prePd, frzP, evNlq, ev, frOf, oget, ogets, argSs, argS, evMm, frzL, evBin, evWrp, evShf, evCmp, evUna, evNil, evBeq, evLd, evSt, evFad, evIad, evAad, evLen, evSln, evEls, evApp, evParts, evSlc, evNlc, evMif, evPck, evFld, evBld, evTas, evIfq, evSeq, evSl0, evBxf, evAgl, evAgq, evBsf, hget, hset, hdel, cellAt, arrAt, setCellAt, setArrAt, takeC, lenC, svCells, SV.okc, SV.one, ldSV, Fw.isAgg, Nat.reduceMul, Nat.reduceSub, Nat.reduceLeDiff, Nat.reduceLT, explode, explodeL, toD, toDL, toD1, Ty.size, Ty.sizeL, frz1, Fr.sub, Heap.sub, Tok.sub, SV.sub, SV.subL, Nat.reduceEqDiff, Nat.reduceAdd, reduceCtorEq, ↓reduceIte, reduceIte]
    · ((try simp only []); repeat first | exact HLe.refl _ | refine HLe.cons (by simp only [hget, Nat.reduceEqDiff, Nat.left_eq_add, Nat.add_eq_left, nm_ne2, nm_en2, nm_ne3, nm_en3, nm_ne4, nm_en4, nm_ne5, nm_en5, reduceIte, ↓reduceIte] <;> first | rfl | ((repeat rw [if_neg (by omega)]) <;> rfl)) ?_ | refine HLe.skip hnm (by omega) ?_ | refine HLe.frz hnm (by omega) ?_ | refine HLe.del hnm (by omega) ?_)
  · exact hsp.elim

def WSameConfig : Opts := mkWE 28 [] [] [] 184 [] []
def icSameConfig : IC := (.seq (.seq (.ops [(.u (.box 2 0 (.s 0))), (.u (.box 3 0 (.s 1))), (.u (.mov 4 (.c (.bool false))))]) (.tr [2, 3])) (.seq (.seq (.ops [(.u (.fad 7 1 1 (.slice 3) 25 (.s 2))), (.u (.ld 8 (.slice 3) (.s 7))), (.u (.fad 9 1 1 (.slice 3) 25 (.s 3))), (.u (.ld 10 (.slice 3) (.s 9))), (.u (.call 11 (.c (.clo 44 [])) [(.s 8), (.s 10)] [(some 3), (some 3)] true)), (.u (.mov 5 (.s 11)))]) (.tr [5, 2, 3])) (.seq (.seq (.ops [(.u (.fad 12 2 2 (.slice 3) 25 (.s 2))), (.u (.ld 13 (.slice 3) (.s 12))), (.u (.fad 14 2 2 (.slice 3) 25 (.s 3))), (.u (.ld 15 (.slice 3) (.s 14))), (.u (.call 16 (.c (.clo 44 [])) [(.s 13), (.s 15)] [(some 3), (some 3)] true)), (.u (.mov 6 (.s 16)))]) (.tr [5, 6, 2, 3])) (.seq (.seq (.ops [(.u (.mov 17 (.s 5))), (.u (.mov 18 (.s 17))), (.g 18 true (some 19) (.mov 19 (.s 6))), (.u (.pck 20 (.s 18) (.s 19) (.c (.bool false)))), (.u (.mov 21 (.s 20))), (.g 21 true (some 22) (.fad 22 0 0 (.int .i64) 25 (.s 2))), (.g 21 true (some 23) (.ld 23 (.int .i64) (.s 22))), (.g 21 true (some 24) (.fad 24 0 0 (.int .i64) 25 (.s 3))), (.g 21 true (some 25) (.ld 25 (.int .i64) (.s 24))), (.g 21 true (some 26) (.cmp 26 .eql (.s 23) (.s 25))), (.u (.pck 27 (.s 21) (.s 26) (.c (.bool false)))), (.u (.mov 4 (.s 27)))]) (.tr [4])) .ret))))
def rsSameConfig : List RV := [(.t 4)]
theorem irSameConfig : fnIR Tryd.prog WSameConfig 58 = some (icSameConfig, rsSameConfig) := by kernel_rfl
def sameC (e : Int) (o n : List D) (e' : Int) (o' n' : List D) : Bool := sameD o o' && sameD n n' && e == e'
def spSameConfig : FSpec := fun args h nx K => match args with
  | [.agg [.int .i64 e, .dat (.slice t) o, .dat (.slice t') n], .agg [.int .i64 e', .dat (.slice u) o', .dat (.slice u') n']] => t = 3 ∧ t' = 3 ∧ u = 3 ∧ u' = 3 ∧ K (.bool (sameC e o.l n.l e' o'.l n'.l)) h
  | _ => False
set_option maxHeartbeats 4000000 in
set_option maxRecDepth 8000 in
theorem vSameConfig {E : Nat → Value} (hE : Errs2 Tryd.prog (some 184) E) : Valid Tryd.prog E (gs []) 58 spSameConfig := by
  refine valid_go (W := WSameConfig) hE (allValid_bot.add (up (vSameInts hE))) irSameConfig (by decide) (fun args h nx K hsp hok hnm => ?_)
  unfold spSameConfig at hsp
  split at hsp
  · rename_i e t o t' n e' u o' u' n'
    obtain ⟨rfl, rfl, rfl, rfl, hK⟩ := hsp
    refine ⟨by simp [WSameConfig, mkW, mkWE, mkWF], fun Q hQ => ?_⟩
    have ret : ∀ b h' nx', HLe h h' → b = sameC e o.l n.l e' o'.l n'.l → Q Ex.ret ⟨[(4, .bool b)], h', nx'⟩ := fun b h' nx' hh hb => by
      refine (hQ _ ?_).1
      subst hb
      exact fin_t (.bool _) rfl rfl hnm hh hK
    simp (maxSteps := 4000000) only [icSameConfig, walkSet, eq_self, implies_true, evMdl, evMupD, evMup, evLkp, Int.reduceEq, Int.reduceBEq, Int.reduceBNe, Int.reduceLE, Int.reduceLT, Int.reduceAdd, Int.reduceSub, Int.reduceMul, Int.reduceNeg, frpL, preF, preP, prePt, prePd, frzP, evNlq, ev, frOf, oget, ogets, argSs, argS, evMm, frzL, evBin, evWrp, evShf, evCmp, evUna, evNil, evBeq, evLd, evSt, evFad, evIad, evAad, evLen, evSln, evEls, evApp, evParts, evSlc, evNlc, evMif, evPck, evFld, evBld, evTas, evIfq, evSeq, evSl0, evBxf, evAgl, evAgq, evBsf, hget, hset, hdel, cellAt, arrAt, setCellAt, setArrAt, takeC, lenC, svCells, SV.okc, SV.one, ldSV, Fw.isAgg, Nat.reduceMul, Nat.reduceSub, Nat.reduceLeDiff, Nat.reduceLT, explode, explodeL, toD, toDL, toD1, Ty.size, Ty.sizeL, frz1, Fr.sub, Heap.sub, Tok.sub, SV.sub, SV.subL, Nat.reduceEqDiff, Nat.reduceAdd, reduceCtorEq, ↓reduceIte, reduceIte, spSameInts]
    refine ⟨fun h1 => ⟨fun h2 => ret _ _ _ (by ((try simp only []); repeat first | exact HLe.refl _ | refine HLe.cons (by simp only [hget, Nat.reduceEqDiff, Nat.left_eq_add, Nat.add_eq_left, nm_ne2, nm_en2, nm_ne3, nm_en3, nm_ne4, nm_en4, nm_ne5, nm_en5, reduceIte, ↓reduceIte] <;> first | rfl | ((repeat rw [if_neg (by omega)]) <;> rfl)) ?_ | refine HLe.skip hnm (by omega) ?_ | refine HLe.frz hnm (by omega) ?_ | refine HLe.del hnm (by omega) ?_)) (by unfold sameC; rw [h1, h2]; rfl), fun h2 => ret _ _ _ (by ((try simp only []); repeat first | exact HLe.refl _ | refine HLe.cons (by simp only [hget, Nat.reduceEqDiff, Nat.left_eq_add, Nat.add_eq_left, nm_ne2, nm_en2, nm_ne3, nm_en3, nm_ne4, nm_en4, nm_ne5, nm_en5, reduceIte, ↓reduceIte] <;> first | rfl | ((repeat rw [if_neg (by omega)]) <;> rfl)) ?_ | refine HLe.skip hnm (by omega) ?_ | refine HLe.frz hnm (by omega) ?_ | refine HLe.del hnm (by omega) ?_)) (by unfold sameC; rw [h1, h2]; rfl)⟩, fun h1 => ret _ _ _ (by ((try simp only []); repeat first | exact HLe.refl _ | refine HLe.cons (by simp only [hget, Nat.reduceEqDiff, Nat.left_eq_add, Nat.add_eq_left, nm_ne2, nm_en2, nm_ne3, nm_en3, nm_ne4, nm_en4, nm_ne5, nm_en5, reduceIte, ↓reduceIte] <;> first | rfl | ((repeat rw [if_neg (by omega)]) <;> rfl)) ?_ | refine HLe.skip hnm (by omega) ?_ | refine HLe.frz hnm (by omega) ?_ | refine HLe.del hnm (by omega) ?_)) (by unfold sameC; rw [h1]; rfl)⟩
  · exact hsp.elim

abbrev GRS : List Nat := [0, 1, 2, 3, 4, 6]
def setE (cur : Int) (L : List D) (ep g e : Int) (o n : List D) : D :=
  if ¬ (0 ≤ g ∧ g < L.length) then .err 1
  else if (validC e o n).isNil = false then validC e o n
  else if ep < cur then .err 6
  else if e ≠ ((L.getD g.toNat .nil).fld 0).i + 1 then .err 0
  else if otherB L g (joinL o n) = true then .err 2
  else .nil
def WRSet : Opts := mkWF 63 [] [0, 1, 2, 3, 4, 6] [61] 184 [0, 1, 2, 3, 4, 6] [] [] [61]
def icRSet : IC := (.seq (.seq (.ops [(.u (.box 7 0 (.s 3))), (.u (.mov 8 (.c (.dat .iface .nil))))]) (.tr [1, 0, 2, 7])) (.seq (.seq (.seq (.ops [(.u (.mov 10 (.s 2))), (.u (.cmp 11 .lss (.s 10) (.c (.int .i64 0)))), (.u (.mov 12 (.s 11))), (.g 12 false (some 13) (.mov 13 (.s 2))), (.g 12 false (some 14) (.mov 14 (.s 0))), (.g 12 false (some 15) (.nlc 15 (.s 14))), (.g 12 false (some 16) (.fad 16 0 0 (.slice 25) 123 (.s 15))), (.g 12 false (some 17) (.ld 17 (.slice 25) (.s 16))), (.g 12 false (some 18) (.len 18 false (.s 17))), (.g 12 false (some 19) (.cmp 19 .geq (.s 13) (.s 18))), (.u (.pck 20 (.s 12) (.c (.bool true)) (.s 19)))]) (.tr [20, 1, 0, 2, 7])) (.cond (.s 20) (.seq (.seq (.ops [(.u (.gld 21 1)), (.u (.mov 8 (.s 21)))]) (.tr [8])) .ret) .skip)) (.seq (.seq (.seq (.ops [(.u (.ld 22 (.strct [(.int .i64), (.slice 3), (.slice 3)]) (.s 7))), (.u (.call 23 (.c (.clo 49 [])) [(.s 22)] [none] true)), (.u (.mov 9 (.s 23)))]) (.tr [9, 1, 0, 2, 7])) (.seq (.seq (.ops [(.u (.mov 24 (.s 9))), (.u (.eqb 25 true 0 (.s 24)))]) (.tr [25, 9, 1, 0, 2, 7])) (.cond (.s 25) (.seq (.seq (.ops [(.u (.mov 26 (.s 9))), (.u (.mov 8 (.s 26)))]) (.tr [8])) .ret) .skip))) (.seq (.block 0 (.seq (.seq (.ops [(.u (.mov 28 (.s 1))), (.u (.mov 29 (.s 0))), (.u (.nlc 30 (.s 29))), (.u (.fad 31 1 1 (.int .i64) 123 (.s 30))), (.u (.ld 32 (.int .i64) (.s 31))), (.u (.cmp 33 .lss (.s 28) (.s 32))), (.u (.mov 27 (.s 33)))]) (.tr [27, 0, 2, 7])) (.cond (.s 27) (.seq (.seq (.ops [(.u (.gld 34 6)), (.u (.mov 8 (.s 34)))]) (.tr [8])) .ret) (.seq (.seq (.rgn [] [(false, (.u (.fad 36 0 0 (.int .i64) 25 (.s 7)))), (false, (.u (.ld 37 (.int .i64) (.s 36)))), (false, (.u (.mov 38 (.s 0)))), (false, (.u (.nlc 39 (.s 38)))), (false, (.u (.fad 40 0 0 (.slice 25) 123 (.s 39)))), (false, (.u (.ld 41 (.slice 25) (.s 40)))), (false, (.u (.mov 42 (.s 2)))), (false, (.u (.iad 43 25 (.strct [(.int .i64), (.slice 3), (.slice 3)]) (.s 41) (.s 42)))), (false, (.u (.fad 44 0 0 (.int .i64) 25 (.s 43)))), (false, (.u (.ld 45 (.int .i64) (.s 44)))), (false, (.u (.bin 46 .add .i64 (.s 45) (.c (.int .i64 1))))), (false, (.u (.cmp 47 .neq (.s 37) (.s 46)))), (false, (.u (.mov 35 (.s 47))))]) (.tr [35, 0, 2, 7])) (.cond (.s 35) (.seq (.seq (.ops [(.u (.gld 48 0)), (.u (.mov 8 (.s 48)))]) (.tr [8])) .ret) (.seq (.seq (.ops [(.u (.mov 50 (.s 0))), (.u (.mov 51 (.s 2))), (.u (.ld 52 (.strct [(.int .i64), (.slice 3), (.slice 3)]) (.s 7))), (.u (.call 53 (.c (.clo 92 [])) [(.s 50), (.s 51), (.s 52)] [none, none, none] true)), (.u (.mov 49 (.s 53)))]) (.tr [49, 0, 2, 7])) (.cond (.s 49) (.seq (.seq (.ops [(.u (.gld 54 2)), (.u (.mov 8 (.s 54)))]) (.tr [8])) .ret) .skip))))))) (.seq (.seq (.rgn [] [(false, (.u (.mov 55 (.s 0)))), (false, (.u (.nlc 56 (.s 55)))), (false, (.u (.fad 57 0 0 (.slice 25) 123 (.s 56)))), (false, (.u (.ld 58 (.slice 25) (.s 57)))), (false, (.u (.mov 59 (.s 2)))), (false, (.u (.ld 60 (.strct [(.int .i64), (.slice 3), (.slice 3)]) (.s 7)))), (true, (.u (.call 61 (.c (.clo 71 [])) [(.s 60)] [none] false))), (false, (.u (.iad 62 25 (.strct [(.int .i64), (.slice 3), (.slice 3)]) (.s 58) (.s 59)))), (false, (.u (.st (.strct [(.int .i64), (.slice 3), (.slice 3)]) (.s 62) (.s 61))))]) (.tr [])) (.seq (.seq (.ops [(.u (.mov 8 (.c (.dat .iface .nil))))]) (.tr [8])) .ret))))))
def rsRSet : List RV := [(.t 8)]
theorem irRSet : fnIR Tryd.prog WRSet 57 = some (icRSet, rsRSet) := by kernel_rfl
def spRSet : FSpec := fun args h nx K => match args with
  | [.ptr r 0, .int .i64 ep, .int .i64 g, .agg [.int .i64 e, .dat (.slice t) o, .dat (.slice t') n]] => t = 3 ∧ t' = 3 ∧ gOk (hget h r) ∧ cOk (hget h (gM (hget h r))) ∧ regsOk (cL (hget h (gM (hget h r)))) ∧
      ((setE (gE (hget h r)) (cL (hget h (gM (hget h r)))) ep g e o.l n.l).isNil = false → K (.dat .iface (setE (gE (hget h r)) (cL (hget h (gM (hget h r)))) ep g e o.l n.l)) h) ∧
      ((setE (gE (hget h r)) (cL (hget h (gM (hget h r)))) ep g e o.l n.l).isNil = true → K (.dat .iface .nil) (hset h (gM (hget h r)) (.arr 25 cfgT ((cL (hget h (gM (hget h r)))).set g.toNat (cfgN e o.l n.l)))))
  | _ => False
set_option maxHeartbeats 4000000 in
set_option maxRecDepth 8000 in
theorem vRSet {E : Nat → Value} (hE : Errs2 Tryd.prog (some 184) E) : Valid Tryd.prog E (gs GRS) 57 spRSet := by
  refine valid_go (W := WRSet) hE (((allValid_bot.add (up (vCValid hE))).add (up (vROther hE))).add (up (vCClone hE))) irRSet (by decide) (fun args h nx K hsp hok hnm => ?_)
  unfold spRSet at hsp
  split at hsp
  · rename_i r ep g e t o t' n
    obtain ⟨rfl, rfl, ⟨m, c, il, hr⟩, hc, hreg, hbad, hgood⟩ := hsp
    rw [hr, gM_c] at hc hreg
    rw [hr, gM_c, gE_c] at hbad hgood
    obtain ⟨L, hm⟩ := hc
    rw [hm, cL_c] at hreg hbad hgood
    have hrx := (hnm r _ hr).1
    have hmx := (hnm m _ hm).1
    refine ⟨by simp [WRSet, mkW, mkWE, mkWF], fun Q hQ => ?_⟩
    have pn0r : (nx = r) = False := eq_false (by omega)
    have pn1r : ∀ a0 : Nat, (nx + a0 = r) = False := fun a0 => eq_false (by omega)
    have pn2r : ∀ a0 a1 : Nat, (nx + a0 + a1 = r) = False := fun a0 a1 => eq_false (by omega)
    have pn3r : ∀ a0 a1 a2 : Nat, (nx + a0 + a1 + a2 = r) = False := fun a0 a1 a2 => eq_false (by omega)
    have pn4r : ∀ a0 a1 a2 a3 : Nat, (nx + a0 + a1 + a2 + a3 = r) = False := fun a0 a1 a2 a3 => eq_false (by omega)
    have pn5r : ∀ a0 a1 a2 a3 a4 : Nat, (nx + a0 + a1 + a2 + a3 + a4 = r) = False := fun a0 a1 a2 a3 a4 => eq_false (by omega)
    have pn6r : ∀ a0 a1 a2 a3 a4 a5 : Nat, (nx + a0 + a1 + a2 + a3 + a4 + a5 = r) = False := fun a0 a1 a2 a3 a4 a5 => eq_false (by omega)
    have pn7r : ∀ a0 a1 a2 a3 a4 a5 a6 : Nat, (nx + a0 + a1 + a2 + a3 + a4 + a5 + a6 = r) = False := fun a0 a1 a2 a3 a4 a5 a6 => eq_false (by omega)
    have pn0m : (nx = m) = False := eq_false (by omega)
    have pn1m : ∀ a0 : Nat, (nx + a0 = m) = False := fun a0 => eq_false (by omega)
    have pn2m : ∀ a0 a1 : Nat, (nx + a0 + a1 = m) = False := fun a0 a1 => eq_false (by omega)
    have pn3m : ∀ a0 a1 a2 : Nat, (nx + a0 + a1 + a2 = m) = False := fun a0 a1 a2 => eq_false (by omega)
    have pn4m : ∀ a0 a1 a2 a3 : Nat, (nx + a0 + a1 + a2 + a3 = m) = False := fun a0 a1 a2 a3 => eq_false (by omega)
    have pn5m : ∀ a0 a1 a2 a3 a4 : Nat, (nx + a0 + a1 + a2 + a3 + a4 = m) = False := fun a0 a1 a2 a3 a4 => eq_false (by omega)
    have pn6m : ∀ a0 a1 a2 a3 a4 a5 : Nat, (nx + a0 + a1 + a2 + a3 + a4 + a5 = m) = False := fun a0 a1 a2 a3 a4 a5 => eq_false (by omega)
    have pn7m : ∀ a0 a1 a2 a3 a4 a5 a6 : Nat, (nx + a0 + a1 + a2 + a3 + a4 + a5 + a6 = m) = False := fun a0 a1 a2 a3 a4 a5 a6 => eq_false (by omega)
    have retN : ∀ d h' nx', HLe h h' → d.isNil = false → d = setE c L ep g e o.l n.l → Q Ex.ret ⟨[(8, .dat .iface d)], h', nx'⟩ := fun d h' nx' hh hd hde => by
      refine (hQ _ ?_).1
      subst hde
      exact fin_t (.dat .iface _) rfl rfl hnm hh (hbad hd)
    by_cases h1 : g < 0
    · have c1 : decide (g < 0) = true := decide_eq_true h1
      simp (maxSteps := 4000000) only [icRSet, walkSet, eq_self, implies_true, evMdl, evMupD, evMup, evLkp, Int.reduceEq, Int.reduceBEq, Int.reduceBNe, Int.reduceLE, Int.reduceLT, Int.reduceAdd, Int.reduceSub, Int.reduceMul, Int.reduceNeg, frpL, preF, preP, prePt, prePd, frzP, evNlq, ev, frOf, oget, ogets, argSs, argS, evMm, frzL, evBin, evWrp, evShf, evCmp, evUna, evNil, evBeq, evLd, evSt, evFad, evIad, evAad, evLen, evSln, evEls, evApp, evParts, evSlc, evNlc, evMif, evPck, evFld, evBld, evTas, evIfq, evSeq, evSl0, evBxf, evAgl, evAgq, evBsf, hget, hset, hdel, cellAt, arrAt, setCellAt, setArrAt, takeC, lenC, svCells, SV.okc, SV.one, ldSV, Fw.isAgg, Nat.reduceMul, Nat.reduceSub, Nat.reduceLeDiff, Nat.reduceLT, explode, explodeL, toD, toDL, toD1, Ty.size, Ty.sizeL, frz1, Fr.sub, Heap.sub, Tok.sub, SV.sub, SV.subL, Nat.reduceEqDiff, Nat.reduceAdd, reduceCtorEq, ↓reduceIte, reduceIte, pn0r, pn1r, pn2r, pn3r, pn4r, pn5r, pn6r, pn7r, pn0m, pn1m, pn2m, pn3m, pn4m, pn5m, pn6m, pn7m, hr, hm, c1]
      exact retN _ _ _ (by ((try simp only []); repeat first | exact HLe.refl _ | refine HLe.cons (by simp only [hget, Nat.reduceEqDiff, Nat.left_eq_add, Nat.add_eq_left, nm_ne2, nm_en2, nm_ne3, nm_en3, nm_ne4, nm_en4, nm_ne5, nm_en5, reduceIte, ↓reduceIte] <;> first | rfl | ((repeat rw [if_neg (by omega)]) <;> rfl)) ?_ | refine HLe.skip hnm (by omega) ?_ | refine HLe.frz hnm (by omega) ?_ | refine HLe.del hnm (by omega) ?_)) rfl (by unfold setE; rw [if_pos (by omega)])
    have c1 : decide (g < 0) = false := decide_eq_false h1
    by_cases h2 : (L.length : Int) ≤ g
    · have c2 : decide ((L.length : Int) ≤ g) = true := decide_eq_true h2
      simp (maxSteps := 4000000) only [icRSet, walkSet, eq_self, implies_true, evMdl, evMupD, evMup, evLkp, Int.reduceEq, Int.reduceBEq, Int.reduceBNe, Int.reduceLE, Int.reduceLT, Int.reduceAdd, Int.reduceSub, Int.reduceMul, Int.reduceNeg, frpL, preF, preP, prePt, prePd, frzP, evNlq, ev, frOf, oget, ogets, argSs, argS, evMm, frzL, evBin, evWrp, evShf, evCmp, evUna, evNil, evBeq, evLd, evSt, evFad, evIad, evAad, evLen, evSln, evEls, evApp, evParts, evSlc, evNlc, evMif, evPck, evFld, evBld, evTas, evIfq, evSeq, evSl0, evBxf, evAgl, evAgq, evBsf, hget, hset, hdel, cellAt, arrAt, setCellAt, setArrAt, takeC, lenC, svCells, SV.okc, SV.one, ldSV, Fw.isAgg, Nat.reduceMul, Nat.reduceSub, Nat.reduceLeDiff, Nat.reduceLT, explode, explodeL, toD, toDL, toD1, Ty.size, Ty.sizeL, frz1, Fr.sub, Heap.sub, Tok.sub, SV.sub, SV.subL, Nat.reduceEqDiff, Nat.reduceAdd, reduceCtorEq, ↓reduceIte, reduceIte, pn0r, pn1r, pn2r, pn3r, pn4r, pn5r, pn6r, pn7r, pn0m, pn1m, pn2m, pn3m, pn4m, pn5m, pn6m, pn7m, hr, hm, c1, c2]
      exact retN _ _ _ (by ((try simp only []); repeat first | exact HLe.refl _ | refine HLe.cons (by simp only [hget, Nat.reduceEqDiff, Nat.left_eq_add, Nat.add_eq_left, nm_ne2, nm_en2, nm_ne3, nm_en3, nm_ne4, nm_en4, nm_ne5, nm_en5, reduceIte, ↓reduceIte] <;> first | rfl | ((repeat rw [if_neg (by omega)]) <;> rfl)) ?_ | refine HLe.skip hnm (by omega) ?_ | refine HLe.frz hnm (by omega) ?_ | refine HLe.del hnm (by omega) ?_)) rfl (by unfold setE; rw [if_pos (by omega)])
    have c2 : decide ((L.length : Int) ≤ g) = false := decide_eq_false h2
    have hin : ¬ ¬ (0 ≤ g ∧ g < L.length) := by omega
    have hE : setE c L ep g e o.l n.l = if (validC e o.l n.l).isNil = false then validC e o.l n.l
        else if ep < c then .err 6
        else if e ≠ ((L.getD g.toNat .nil).fld 0).i + 1 then .err 0
        else if otherB L g (joinL o.l n.l) = true then .err 2 else .nil := by unfold setE; rw [if_neg hin]
    rcases bool_ft (validC e o.l n.l).isNil with hv | hv
    · rw [if_pos hv] at hE
      simp (maxSteps := 4000000) only [icRSet, walkSet, eq_self, implies_true, evMdl, evMupD, evMup, evLkp, Int.reduceEq, Int.reduceBEq, Int.reduceBNe, Int.reduceLE, Int.reduceLT, Int.reduceAdd, Int.reduceSub, Int.reduceMul, Int.reduceNeg, frpL, preF, preP, prePt, prePd, frzP, evNlq, ev, frOf, oget, ogets, argSs, argS, evMm, frzL, evBin, evWrp, evShf, evCmp, evUna, evNil, evBeq, evLd, evSt, evFad, evIad, evAad, evLen, evSln, evEls, evApp, evParts, evSlc, evNlc, evMif, evPck, evFld, evBld, evTas, evIfq, evSeq, evSl0, evBxf, evAgl, evAgq, evBsf, hget, hset, hdel, cellAt, arrAt, setCellAt, setArrAt, takeC, lenC, svCells, SV.okc, SV.one, ldSV, Fw.isAgg, Nat.reduceMul, Nat.reduceSub, Nat.reduceLeDiff, Nat.reduceLT, explode, explodeL, toD, toDL, toD1, Ty.size, Ty.sizeL, frz1, Fr.sub, Heap.sub, Tok.sub, SV.sub, SV.subL, Nat.reduceEqDiff, Nat.reduceAdd, reduceCtorEq, ↓reduceIte, reduceIte, pn0r, pn1r, pn2r, pn3r, pn4r, pn5r, pn6r, pn7r, pn0m, pn1m, pn2m, pn3m, pn4m, pn5m, pn6m, pn7m, hr, hm, c1, c2, spCValid, hv]
      exact retN _ _ _ (by ((try simp only []); repeat first | exact HLe.refl _ | refine HLe.cons (by simp only [hget, Nat.reduceEqDiff, Nat.left_eq_add, Nat.add_eq_left, nm_ne2, nm_en2, nm_ne3, nm_en3, nm_ne4, nm_en4, nm_ne5, nm_en5, reduceIte, ↓reduceIte] <;> first | rfl | ((repeat rw [if_neg (by omega)]) <;> rfl)) ?_ | refine HLe.skip hnm (by omega) ?_ | refine HLe.frz hnm (by omega) ?_ | refine HLe.del hnm (by omega) ?_)) hv hE.symm
    rw [if_neg (by rw [hv]; decide)] at hE
    obtain ⟨b0, b1, s0, s1, e0, e1⟩ := valid_good hv
    obtain ⟨l6, g6⟩ := six_good b0 s0
    have n6 : n.l.length ≤ 6 := by
      by_cases hz : 0 < n.l.length
      · have := (six_good b1 (s1 hz)).1; omega
      · omega
    by_cases h3 : ep < c
    · have c3 : decide (ep < c) = true := decide_eq_true h3
      rw [if_pos h3] at hE
      simp (maxSteps := 4000000) only [icRSet, walkSet, eq_self, implies_true, evMdl, evMupD, evMup, evLkp, Int.reduceEq, Int.reduceBEq, Int.reduceBNe, Int.reduceLE, Int.reduceLT, Int.reduceAdd, Int.reduceSub, Int.reduceMul, Int.reduceNeg, frpL, preF, preP, prePt, prePd, frzP, evNlq, ev, frOf, oget, ogets, argSs, argS, evMm, frzL, evBin, evWrp, evShf, evCmp, evUna, evNil, evBeq, evLd, evSt, evFad, evIad, evAad, evLen, evSln, evEls, evApp, evParts, evSlc, evNlc, evMif, evPck, evFld, evBld, evTas, evIfq, evSeq, evSl0, evBxf, evAgl, evAgq, evBsf, hget, hset, hdel, cellAt, arrAt, setCellAt, setArrAt, takeC, lenC, svCells, SV.okc, SV.one, ldSV, Fw.isAgg, Nat.reduceMul, Nat.reduceSub, Nat.reduceLeDiff, Nat.reduceLT, explode, explodeL, toD, toDL, toD1, Ty.size, Ty.sizeL, frz1, Fr.sub, Heap.sub, Tok.sub, SV.sub, SV.subL, Nat.reduceEqDiff, Nat.reduceAdd, reduceCtorEq, ↓reduceIte, reduceIte, pn0r, pn1r, pn2r, pn3r, pn4r, pn5r, pn6r, pn7r, pn0m, pn1m, pn2m, pn3m, pn4m, pn5m, pn6m, pn7m, hr, hm, c1, c2, spCValid, hv, c3]
      exact retN _ _ _ (by ((try simp only []); repeat first | exact HLe.refl _ | refine HLe.cons (by simp only [hget, Nat.reduceEqDiff, Nat.left_eq_add, Nat.add_eq_left, nm_ne2, nm_en2, nm_ne3, nm_en3, nm_ne4, nm_en4, nm_ne5, nm_en5, reduceIte, ↓reduceIte] <;> first | rfl | ((repeat rw [if_neg (by omega)]) <;> rfl)) ?_ | refine HLe.skip hnm (by omega) ?_ | refine HLe.frz hnm (by omega) ?_ | refine HLe.del hnm (by omega) ?_)) rfl hE.symm
    have c3 : decide (ep < c) = false := decide_eq_false h3
    rw [if_neg h3] at hE
    have o3 : o.l.length ≤ 1000 := by omega
    have n3 : n.l.length ≤ 1000 := by omega
    have o9 : o.l.length ≤ 1000000000 := by omega
    have n9 : n.l.length ≤ 1000000000 := by omega
    have hxL : L.getD g.toNat .nil ∈ L := by rw [List.getD_eq_getElem?_getD, List.getElem?_eq_getElem (by omega)]; exact List.getElem_mem _
    obtain ⟨_, _, x0, x1⟩ := hreg.2 _ hxL
    have hrange : IntKind.i64.min ≤ ((L.getD g.toNat .nil).fld 0).i + 1 ∧ ((L.getD g.toNat .nil).fld 0).i + 1 ≤ IntKind.i64.max := by rw [min_i64, max_i64]; omega
    by_cases h4 : e ≠ ((L.getD g.toNat .nil).fld 0).i + 1
    · have c4 : (e != ((L.getD g.toNat .nil).fld 0).i + 1) = true := by rw [bne_iff_ne]; exact h4
      rw [if_pos h4] at hE
      simp (maxSteps := 4000000) only [icRSet, walkSet, eq_self, implies_true, evMdl, evMupD, evMup, evLkp, Int.reduceEq, Int.reduceBEq, Int.reduceBNe, Int.reduceLE, Int.reduceLT, Int.reduceAdd, Int.reduceSub, Int.reduceMul, Int.reduceNeg, frpL, preF, preP, prePt, prePd, frzP, evNlq, ev, frOf, oget, ogets, argSs, argS, evMm, frzL, evBin, evWrp, evShf, evCmp, evUna, evNil, evBeq, evLd, evSt, evFad, evIad, evAad, evLen, evSln, evEls, evApp, evParts, evSlc, evNlc, evMif, evPck, evFld, evBld, evTas, evIfq, evSeq, evSl0, evBxf, evAgl, evAgq, evBsf, hget, hset, hdel, cellAt, arrAt, setCellAt, setArrAt, takeC, lenC, svCells, SV.okc, SV.one, ldSV, Fw.isAgg, Nat.reduceMul, Nat.reduceSub, Nat.reduceLeDiff, Nat.reduceLT, explode, explodeL, toD, toDL, toD1, Ty.size, Ty.sizeL, frz1, Fr.sub, Heap.sub, Tok.sub, SV.sub, SV.subL, Nat.reduceEqDiff, Nat.reduceAdd, reduceCtorEq, ↓reduceIte, reduceIte, pn0r, pn1r, pn2r, pn3r, pn4r, pn5r, pn6r, pn7r, pn0m, pn1m, pn2m, pn3m, pn4m, pn5m, pn6m, pn7m, hr, hm, c1, c2, spCValid, hv, c3, c4]
      refine ⟨by omega, by omega, hrange, ?_⟩
      exact retN _ _ _ (by ((try simp only []); repeat first | exact HLe.refl _ | refine HLe.cons (by simp only [hget, Nat.reduceEqDiff, Nat.left_eq_add, Nat.add_eq_left, nm_ne2, nm_en2, nm_ne3, nm_en3, nm_ne4, nm_en4, nm_ne5, nm_en5, reduceIte, ↓reduceIte] <;> first | rfl | ((repeat rw [if_neg (by omega)]) <;> rfl)) ?_ | refine HLe.skip hnm (by omega) ?_ | refine HLe.frz hnm (by omega) ?_ | refine HLe.del hnm (by omega) ?_)) rfl hE.symm
    have c4 : (e != ((L.getD g.toNat .nil).fld 0).i + 1) = false := by simpa using h4
    rw [if_neg h4] at hE
    rcases bool_ft (otherB L g (joinL o.l n.l)) with ho | ho
    rotate_left
    · rw [if_pos ho] at hE
      simp (maxSteps := 4000000) only [icRSet, walkSet, eq_self, implies_true, evMdl, evMupD, evMup, evLkp, Int.reduceEq, Int.reduceBEq, Int.reduceBNe, Int.reduceLE, Int.reduceLT, Int.reduceAdd, Int.reduceSub, Int.reduceMul, Int.reduceNeg, frpL, preF, preP, prePt, prePd, frzP, evNlq, ev, frOf, oget, ogets, argSs, argS, evMm, frzL, evBin, evWrp, evShf, evCmp, evUna, evNil, evBeq, evLd, evSt, evFad, evIad, evAad, evLen, evSln, evEls, evApp, evParts, evSlc, evNlc, evMif, evPck, evFld, evBld, evTas, evIfq, evSeq, evSl0, evBxf, evAgl, evAgq, evBsf, hget, hset, hdel, cellAt, arrAt, setCellAt, setArrAt, takeC, lenC, svCells, SV.okc, SV.one, ldSV, Fw.isAgg, Nat.reduceMul, Nat.reduceSub, Nat.reduceLeDiff, Nat.reduceLT, explode, explodeL, toD, toDL, toD1, Ty.size, Ty.sizeL, frz1, Fr.sub, Heap.sub, Tok.sub, SV.sub, SV.subL, Nat.reduceEqDiff, Nat.reduceAdd, reduceCtorEq, ↓reduceIte, reduceIte, pn0r, pn1r, pn2r, pn3r, pn4r, pn5r, pn6r, pn7r, pn0m, pn1m, pn2m, pn3m, pn4m, pn5m, pn6m, pn7m, hr, hm, c1, c2, spCValid, hv, c3, c4, spROther, gOk_c, gM_c, cOk_c, cL_c, hreg, o3, n3, ho]
      refine ⟨by omega, by omega, hrange, ?_⟩
      exact retN _ _ _ (by ((try simp only []); repeat first | exact HLe.refl _ | refine HLe.cons (by simp only [hget, Nat.reduceEqDiff, Nat.left_eq_add, Nat.add_eq_left, nm_ne2, nm_en2, nm_ne3, nm_en3, nm_ne4, nm_en4, nm_ne5, nm_en5, reduceIte, ↓reduceIte] <;> first | rfl | ((repeat rw [if_neg (by omega)]) <;> rfl)) ?_ | refine HLe.skip hnm (by omega) ?_ | refine HLe.frz hnm (by omega) ?_ | refine HLe.del hnm (by omega) ?_)) rfl hE.symm
    rw [if_neg (by rw [ho]; decide)] at hE
    simp (maxSteps := 4000000) only [icRSet, go_rgb, den_bth, not_false_eq_true, not_true_eq_false, goD_callp, callDp_clo, kDp_app, evMdl, evMupD, evMup, evLkp, fzSp_app, fzGo_app, slotsOf_nil, slotsOf_cons, Int.reduceEq, bq_tt, bq_tf, bq_ft, bq_ff, Bool.true_and, Bool.false_and, Bool.and_true, Bool.and_false, Bool.true_or, Bool.false_or, Bool.or_true, Bool.or_false, beq_self_eq_true, bne_self_eq_false, Int.reduceBEq, Int.reduceBNe, Int.reduceLE, Int.reduceLT, Int.reduceAdd, Int.reduceSub, Int.reduceMul, Int.reduceNeg, decide_true, decide_false, nm_ne2, nm_en2, nm_ne3, nm_en3, nm_ne4, nm_en4, nm_ne5, nm_en5, nm_ne6, nm_en6, nm_ne7, nm_en7, nm_ne8, nm_en8, nm_ne9, nm_en9, nm_ne10, nm_en10, D_i, D_b, D_s, D_l, D_tgt, nil_nil, nil_err, nil_ifc, nil_ptr, nil_node, D_fld0, D_fld1, D_fld2, D_fld3, D_fld4, D_fld5, D_fld6, D_fld7, D_fld8, D_fld9, D_fld10, D_fld11, D_fld12, D_fld13, D_fld14, D_fld15, frpL, go_frp, go_rgn, rgnK_def, goD_nil, goD_u, contD_some, goD_call, callD_clo, kD_app, goD_g, gD_T, gD_F, gD_U, gK_U, evI_true, evI_false, bareK_some, go_seq, go_ops, go_cond, go_block, go_skip, go_tr, trim_def, trim_nil, trim_cons, fget_nil, go_ret, go_exit, den_nil, den_seq, den_seq_ret, den_seq_ext, den_blk, den_blk_ret, den_blk_ext, den_lp, den_lp_ret, den_lp_ext, goO_nil, goO_u, noCall, contK_some, goO_slc, goO_mif, preF, preP, prePt, prePd, frzP, noSp, goO_nlq, nlqK_some, evNlq, goO_g, gK_T, gK_F, skipD_some, skipD_none, goO_call, goO_callf, frzK_def, callK_clo, kO_app, condK_ite, iteT, iteF, put_def, sput_def, ev, frOf, fget_cons, oget, ogets, argSs, argS, evMm, frzL, evBin, evWrp, evShf, evCmp, evUna, evNil, evBeq, evLd, evSt, evFad, evIad, evAad, evLen, evSln, evEls, evApp, evParts, evSlc, evNlc, evMif, evPck, evFld, evBld, evTas, evIfq, evSeq, evSl0, evBxf, evAgl, evAgq, evBsf, List.set_cons_zero, List.set_cons_succ, List.set_nil, List.flatten_cons, List.flatten_nil, List.getD_cons_zero, List.getD_cons_succ, List.contains_cons,  hget, hset, hdel, cellAt, arrAt, setCellAt, setArrAt, takeC, lenC, svCells, SV.okc, SV.one, ldSV, Fw.isAgg, Nat.reduceMul, Nat.reduceSub, Nat.reduceLeDiff, Nat.lt_irrefl, Nat.not_lt_zero, Nat.reduceLT, Nat.add_eq_left, Nat.left_eq_add, List.nil_append, List.length_cons, List.length_nil, List.append_nil, List.cons_append, Nat.zero_lt_one, Bool.false_eq_true, Bool.not_true, Bool.not_false, eq_self, Option.map_some, Option.map_none, true_imp_iff, false_imp_iff, implies_true, Bool.true_eq_false, explode, explodeL, toD, toDL, toD1, Ty.size, Ty.sizeL, frz1, Fr.sub, Heap.sub, Tok.sub, SV.sub, SV.subL, add_def, Nat.reduceEqDiff, Nat.reduceAdd, Nat.zero_add, reduceCtorEq, ↓reduceIte, and_self, and_true, true_and, reduceIte, List.getElem?_cons_zero, List.getElem?_cons_succ, pn0r, pn1r, pn2r, pn3r, pn4r, pn5r, pn6r, pn7r, pn0m, pn1m, pn2m, pn3m, pn4m, pn5m, pn6m, pn7m, hr, hm, c1, c2, spCValid, hv, c3, c4, spROther, gOk_c, gM_c, cOk_c, cL_c, hreg, o3, n3, ho]
    refine ⟨by omega, by omega, hrange, ?_⟩
    rw [goD_calls]
    refine ⟨cfgA e o.l n.l, fun nx' => ⟨rfl, rfl, o9, n9, rfl, rfl⟩, ⟨trivial, trivial, trivial, trivial⟩, ?_⟩
    simp (maxSteps := 4000000) only [walkSet, eq_self, implies_true, evMdl, evMupD, evMup, evLkp, Int.reduceEq, Int.reduceBEq, Int.reduceBNe, Int.reduceLE, Int.reduceLT, Int.reduceAdd, Int.reduceSub, Int.reduceMul, Int.reduceNeg, frpL, preF, preP, prePt, prePd, frzP, evNlq, ev, frOf, oget, ogets, argSs, argS, evMm, frzL, evBin, evWrp, evShf, evCmp, evUna, evNil, evBeq, evLd, evSt, evFad, evIad, evAad, evLen, evSln, evEls, evApp, evParts, evSlc, evNlc, evMif, evPck, evFld, evBld, evTas, evIfq, evSeq, evSl0, evBxf, evAgl, evAgq, evBsf, hget, hset, hdel, cellAt, arrAt, setCellAt, setArrAt, takeC, lenC, svCells, SV.okc, SV.one, ldSV, Fw.isAgg, Nat.reduceMul, Nat.reduceSub, Nat.reduceLeDiff, Nat.reduceLT, explode, explodeL, toD, toDL, toD1, Ty.size, Ty.sizeL, frz1, Fr.sub, Heap.sub, Tok.sub, SV.sub, SV.subL, Nat.reduceEqDiff, Nat.reduceAdd, reduceCtorEq, ↓reduceIte, reduceIte, pn0r, pn1r, pn2r, pn3r, pn4r, pn5r, pn6r, pn7r, pn0m, pn1m, pn2m, pn3m, pn4m, pn5m, pn6m, pn7m, hr, hm, cfgA]
    refine ⟨by omega, by omega, ?_⟩
    refine (hQ _ ?_).1
    have hl1 : HLt (hset h m (.arr 25 cfgT (L.set g.toNat (cfgN e o.l n.l)))) nx := HLt.hset hnm trivial
    exact fin_t (.dat .iface .nil) rfl rfl hl1 (HLe.skip hl1 (Nat.le_refl _) (HLe.refl _)) (hgood (by rw [hE]; rfl))
  · exact hsp.elim
end Go.Proofs.YtkojpimkngmckaaDoor
