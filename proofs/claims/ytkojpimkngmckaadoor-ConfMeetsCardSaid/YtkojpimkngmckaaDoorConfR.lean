/- Chapter 7: the registry. -/
import Derived.Test.YtkojpimkngmckaaDoorConfL
import Derived.Test.YtkojpimkngmckaaDoorAt
namespace Go.Proofs.YtkojpimkngmckaaDoor
set_option linter.unusedVariables false
set_option linter.unusedSimpArgs false
open Go Go.Fw

abbrev cfgT : Ty := .strct [.int .i64, .slice 3, .slice 3]
def cfgN (e : Int) (o n : List D) : D := .node [.int e, .list o, .list n]
def gOk (r : Option Tok) : Prop := ∃ m e l, r = some (.cells [.vec m, .int .i64 e, .arrc (.int .i64) l])
def gM (r : Option Tok) : Nat := match r with | some (.cells [.vec m, _, _]) => m | _ => 0
def gE (r : Option Tok) : Int := match r with | some (.cells [_, .int _ e, _]) => e | _ => 0
def gI (r : Option Tok) : List D := match r with | some (.cells [_, _, .arrc _ l]) => l | _ => []
def cOk (r : Option Tok) : Prop := ∃ l, r = some (.arr 25 cfgT l)
def cL (r : Option Tok) : List D := match r with | some (.arr _ _ l) => l | _ => []
section
variable (m : Nat) (e : Int) (l : List D) (x y : SV)
theorem gOk_c : gOk (some (.cells [.vec m, .int .i64 e, .arrc (.int .i64) l])) = True := eq_true ⟨m, e, l, rfl⟩
theorem gM_c : gM (some (.cells [.vec m, x, y])) = m := rfl
theorem gE_c : gE (some (.cells [x, .int .i64 e, y])) = e := rfl
theorem gI_c (t : Ty) : gI (some (.cells [x, y, .arrc t l])) = l := rfl
theorem cOk_c : cOk (some (.arr 25 cfgT l)) = True := eq_true ⟨l, rfl⟩
theorem cL_c (t : TypeId) (u : Ty) : cL (some (.arr t u l)) = l := rfl
end

def WRInc : Opts := mkWE 14 [] [] [] 184 [] []
def icRInc : IC := (.seq (.seq (.ops [(.u (.mov 4 (.c (.int .i64 0))))]) (.tr [0, 1])) (.seq (.seq (.seq (.ops [(.u (.mov 5 (.s 1))), (.u (.call 6 (.c (.clo 70 [])) [(.s 5)] [none] true)), (.u (.una 7 .not (.s 6)))]) (.tr [7, 0, 1])) (.cond (.s 7) (.seq (.seq (.ops [(.u (.mov 4 (.c (.int .i64 0))))]) (.tr [4])) .ret) .skip)) (.seq (.seq (.ops [(.u (.mov 8 (.s 0))), (.u (.mov 9 (.s 1))), (.u (.nlc 10 (.s 8))), (.u (.fad 11 2 2 (.arr 64 (.int .i64)) 123 (.s 10))), (.u (.aad 12 64 (.int .i64) (.s 11) (.s 9))), (.u (.ld 13 (.int .i64) (.s 12))), (.u (.mov 4 (.s 13)))]) (.tr [4])) .ret)))
def rsRInc : List RV := [(.t 4)]
theorem irRInc : fnIR Tryd.prog WRInc 52 = some (icRInc, rsRInc) := by kernel_rfl
def incAt (l : List D) (n : Int) : Int := if nodeB n then (l.getD n.toNat .nil).i else 0
def spRInc : FSpec := fun args h nx K => match args with
  | [.ptr r 0, .int .i64 n] => gOk (hget h r) ∧ (gI (hget h r)).length = 64 ∧ K (.int .i64 (incAt (gI (hget h r)) n)) h
  | _ => False
set_option maxHeartbeats 4000000 in
set_option maxRecDepth 8000 in
theorem vRInc {E : Nat → Value} (hE : Errs2 Tryd.prog (some 184) E) : Valid Tryd.prog E (gs []) 52 spRInc := by
  refine valid_go (W := WRInc) hE (allValid_bot.add (up (vCNode hE))) irRInc (by decide) (fun args h nx K hsp hok hnm => ?_)
  unfold spRInc at hsp
  split at hsp
  · rename_i r n
    obtain ⟨⟨m, e, l, hr⟩, hlen, hK⟩ := hsp
    rw [hr, gI_c] at hlen hK
    have hrx := (hnm r _ hr).1
    refine ⟨by simp [WRInc, mkW, mkWE, mkWF], fun Q hQ => ?_⟩
    have pn0r : (nx = r) = False := eq_false (by omega)
    have pn1r : ∀ a0 : Nat, (nx + a0 = r) = False := fun a0 => eq_false (by omega)
    have pn2r : ∀ a0 a1 : Nat, (nx + a0 + a1 = r) = False := fun a0 a1 => eq_false (by omega)
    have pn3r : ∀ a0 a1 a2 : Nat, (nx + a0 + a1 + a2 = r) = False := fun a0 a1 a2 => eq_false (by omega)
    have pn4r : ∀ a0 a1 a2 a3 : Nat, (nx + a0 + a1 + a2 + a3 = r) = False := fun a0 a1 a2 a3 => eq_false (by omega)
    have pn5r : ∀ a0 a1 a2 a3 a4 : Nat, (nx + a0 + a1 + a2 + a3 + a4 = r) = False := fun a0 a1 a2 a3 a4 => eq_false (by omega)
    have pn6r : ∀ a0 a1 a2 a3 a4 a5 : Nat, (nx + a0 + a1 + a2 + a3 + a4 + a5 = r) = False := fun a0 a1 a2 a3 a4 a5 => eq_false (by omega)
    have pn7r : ∀ a0 a1 a2 a3 a4 a5 a6 : Nat, (nx + a0 + a1 + a2 + a3 + a4 + a5 + a6 = r) = False := fun a0 a1 a2 a3 a4 a5 a6 => eq_false (by omega)
    rcases bool_ft (nodeB n) with hn | hn
    · simp (maxSteps := 4000000) only [icRInc, walkSet, eq_self, implies_true, evMdl, evMupD, evMup, evLkp, Int.reduceEq, Int.reduceBEq, Int.reduceBNe, Int.reduceLE, Int.reduceLT, Int.reduceAdd, Int.reduceSub, Int.reduceMul, Int.reduceNeg, frpL, preF, preP, prePt, prePd, frzP, evNlq, ev, frOf, oget, ogets, argSs, argS, evMm, frzL, evBin, evWrp, evShf, evCmp, evUna, evNil, evBeq, evLd, evSt, evFad, evIad, evAad, evLen, evSln, evEls, evApp, evParts, evSlc, evNlc, evMif, evPck, evFld, evBld, evTas, evIfq, evSeq, evSl0, evBxf, evAgl, evAgq, evBsf, hget, hset, hdel, cellAt, arrAt, setCellAt, setArrAt, takeC, lenC, svCells, SV.okc, SV.one, ldSV, Fw.isAgg, Nat.reduceMul, Nat.reduceSub, Nat.reduceLeDiff, Nat.reduceLT, explode, explodeL, toD, toDL, toD1, Ty.size, Ty.sizeL, frz1, Fr.sub, Heap.sub, Tok.sub, SV.sub, SV.subL, Nat.reduceEqDiff, Nat.reduceAdd, reduceCtorEq, ↓reduceIte, reduceIte, spCNode, hn, hr]
      refine (hQ _ ?_).1
      exact fin_t (.int .i64 _) rfl rfl hnm (by ((try simp only []); repeat first | exact HLe.refl _ | refine HLe.cons (by simp only [hget, Nat.reduceEqDiff, Nat.left_eq_add, Nat.add_eq_left, nm_ne2, nm_en2, nm_ne3, nm_en3, nm_ne4, nm_en4, nm_ne5, nm_en5, reduceIte, ↓reduceIte] <;> first | rfl | ((repeat rw [if_neg (by omega)]) <;> rfl)) ?_ | refine HLe.skip hnm (by omega) ?_ | refine HLe.frz hnm (by omega) ?_ | refine HLe.del hnm (by omega) ?_)) (by unfold incAt at hK; rw [hn] at hK; exact hK)
    · have hb : 0 ≤ n ∧ n < 64 := by
        unfold nodeB at hn
        simpa using hn
      simp (maxSteps := 4000000) only [icRInc, walkSet, eq_self, implies_true, evMdl, evMupD, evMup, evLkp, Int.reduceEq, Int.reduceBEq, Int.reduceBNe, Int.reduceLE, Int.reduceLT, Int.reduceAdd, Int.reduceSub, Int.reduceMul, Int.reduceNeg, frpL, preF, preP, prePt, prePd, frzP, evNlq, ev, frOf, oget, ogets, argSs, argS, evMm, frzL, evBin, evWrp, evShf, evCmp, evUna, evNil, evBeq, evLd, evSt, evFad, evIad, evAad, evLen, evSln, evEls, evApp, evParts, evSlc, evNlc, evMif, evPck, evFld, evBld, evTas, evIfq, evSeq, evSl0, evBxf, evAgl, evAgq, evBsf, hget, hset, hdel, cellAt, arrAt, setCellAt, setArrAt, takeC, lenC, svCells, SV.okc, SV.one, ldSV, Fw.isAgg, Nat.reduceMul, Nat.reduceSub, Nat.reduceLeDiff, Nat.reduceLT, explode, explodeL, toD, toDL, toD1, Ty.size, Ty.sizeL, frz1, Fr.sub, Heap.sub, Tok.sub, SV.sub, SV.subL, Nat.reduceEqDiff, Nat.reduceAdd, reduceCtorEq, ↓reduceIte, reduceIte, spCNode, hn, hr]
      repeat refine ⟨by omega, ?_⟩
      refine (hQ _ ?_).1
      exact fin_t (.int .i64 _) rfl rfl hnm (by ((try simp only []); repeat first | exact HLe.refl _ | refine HLe.cons (by simp only [hget, Nat.reduceEqDiff, Nat.left_eq_add, Nat.add_eq_left, nm_ne2, nm_en2, nm_ne3, nm_en3, nm_ne4, nm_en4, nm_ne5, nm_en5, reduceIte, ↓reduceIte] <;> first | rfl | ((repeat rw [if_neg (by omega)]) <;> rfl)) ?_ | refine HLe.skip hnm (by omega) ?_ | refine HLe.frz hnm (by omega) ?_ | refine HLe.del hnm (by omega) ?_)) (by unfold incAt at hK; rw [hn] at hK; exact hK)
  · exact hsp.elim

def WRBorn : Opts := mkWE 36 [] [0, 3] [] 184 [0, 3] []
def icRBorn : IC := (.seq (.seq (.ops [(.u (.mov 6 (.c (.dat .iface .nil))))]) (.tr [0, 1, 2])) (.seq (.block 0 (.seq (.seq (.ops [(.u (.mov 8 (.s 1))), (.u (.call 9 (.c (.clo 70 [])) [(.s 8)] [none] true)), (.u (.una 10 .not (.s 9))), (.u (.mov 11 (.s 10))), (.g 11 false (some 12) (.mov 12 (.s 2))), (.g 11 false (some 13) (.cmp 13 .lss (.s 12) (.c (.int .i64 1)))), (.u (.pck 14 (.s 11) (.c (.bool true)) (.s 13))), (.u (.mov 15 (.s 14))), (.g 15 false (some 16) (.mov 16 (.s 2))), (.g 15 false (some 17) (.cmp 17 .gtr (.s 16) (.c (.int .i64 1073741824)))), (.u (.pck 18 (.s 15) (.c (.bool true)) (.s 17))), (.u (.mov 7 (.s 18)))]) (.tr [7, 0, 1, 2])) (.cond (.s 7) (.seq (.seq (.ops [(.u (.gld 19 3)), (.u (.mov 6 (.s 19)))]) (.tr [6])) .ret) (.seq (.seq (.ops [(.u (.mov 21 (.s 2))), (.u (.mov 22 (.s 0))), (.u (.mov 23 (.s 1))), (.u (.nlc 24 (.s 22))), (.u (.fad 25 2 2 (.arr 64 (.int .i64)) 123 (.s 24))), (.u (.aad 26 64 (.int .i64) (.s 25) (.s 23))), (.u (.ld 27 (.int .i64) (.s 26))), (.u (.cmp 28 .leq (.s 21) (.s 27))), (.u (.mov 20 (.s 28)))]) (.tr [20, 0, 1, 2])) (.cond (.s 20) (.seq (.seq (.ops [(.u (.gld 29 0)), (.u (.mov 6 (.s 29)))]) (.tr [6])) .ret) .skip))))) (.seq (.seq (.ops [(.u (.mov 30 (.s 0))), (.u (.mov 31 (.s 1))), (.u (.mov 32 (.s 2))), (.u (.nlc 33 (.s 30))), (.u (.fad 34 2 2 (.arr 64 (.int .i64)) 123 (.s 33))), (.u (.aad 35 64 (.int .i64) (.s 34) (.s 31))), (.u (.st (.int .i64) (.s 35) (.s 32)))]) (.tr [])) (.seq (.seq (.ops [(.u (.mov 6 (.c (.dat .iface .nil))))]) (.tr [6])) .ret))))
def rsRBorn : List RV := [(.t 6)]
theorem irRBorn : fnIR Tryd.prog WRBorn 51 = some (icRBorn, rsRBorn) := by kernel_rfl
abbrev GRB : List Nat := [0, 3]
def bornE (l : List D) (n inc : Int) : D := if nodeB n = false ∨ inc < 1 ∨ 1073741824 < inc then .err 3 else if inc ≤ (l.getD n.toNat .nil).i then .err 0 else .nil
def spRBorn : FSpec := fun args h nx K => match args with
  | [.ptr r 0, .int .i64 n, .int .i64 inc] => gOk (hget h r) ∧ (gI (hget h r)).length = 64 ∧
      ((bornE (gI (hget h r)) n inc).isNil = false → K (.dat .iface (bornE (gI (hget h r)) n inc)) h) ∧
      ((bornE (gI (hget h r)) n inc).isNil = true → K (.dat .iface .nil) (hset h r (.cells [.vec (gM (hget h r)), .int .i64 (gE (hget h r)), .arrc (.int .i64) ((gI (hget h r)).set n.toNat (.int inc))])))
  | _ => False
set_option maxHeartbeats 4000000 in
set_option maxRecDepth 8000 in
theorem vRBorn {E : Nat → Value} (hE : Errs2 Tryd.prog (some 184) E) : Valid Tryd.prog E (gs GRB) 51 spRBorn := by
  refine valid_go (W := WRBorn) hE (allValid_bot.add (up (vCNode hE))) irRBorn (by decide) (fun args h nx K hsp hok hnm => ?_)
  unfold spRBorn at hsp
  split at hsp
  · rename_i r n inc
    obtain ⟨⟨m, e, l, hr⟩, hlen, hbad, hgood⟩ := hsp
    rw [hr, gI_c] at hlen hbad hgood
    rw [gM_c, gE_c] at hgood
    have hrx := (hnm r _ hr).1
    refine ⟨by simp [WRBorn, mkW, mkWE, mkWF], fun Q hQ => ?_⟩
    have pn0r : (nx = r) = False := eq_false (by omega)
    have pn1r : ∀ a0 : Nat, (nx + a0 = r) = False := fun a0 => eq_false (by omega)
    have pn2r : ∀ a0 a1 : Nat, (nx + a0 + a1 = r) = False := fun a0 a1 => eq_false (by omega)
    have pn3r : ∀ a0 a1 a2 : Nat, (nx + a0 + a1 + a2 = r) = False := fun a0 a1 a2 => eq_false (by omega)
    have pn4r : ∀ a0 a1 a2 a3 : Nat, (nx + a0 + a1 + a2 + a3 = r) = False := fun a0 a1 a2 a3 => eq_false (by omega)
    have pn5r : ∀ a0 a1 a2 a3 a4 : Nat, (nx + a0 + a1 + a2 + a3 + a4 = r) = False := fun a0 a1 a2 a3 a4 => eq_false (by omega)
    have pn6r : ∀ a0 a1 a2 a3 a4 a5 : Nat, (nx + a0 + a1 + a2 + a3 + a4 + a5 = r) = False := fun a0 a1 a2 a3 a4 a5 => eq_false (by omega)
    have pn7r : ∀ a0 a1 a2 a3 a4 a5 a6 : Nat, (nx + a0 + a1 + a2 + a3 + a4 + a5 + a6 = r) = False := fun a0 a1 a2 a3 a4 a5 a6 => eq_false (by omega)
    have retN : ∀ d h' nx', HLe h h' → d.isNil = false → d = bornE l n inc → Q Ex.ret ⟨[(6, .dat .iface d)], h', nx'⟩ := fun d h' nx' hh hd hde => by
      refine (hQ _ ?_).1
      subst hde
      exact fin_t (.dat .iface _) rfl rfl hnm hh (hbad hd)
    rcases bool_ft (nodeB n) with hn | hn
    · simp (maxSteps := 4000000) only [icRBorn, walkSet, eq_self, implies_true, evMdl, evMupD, evMup, evLkp, Int.reduceEq, Int.reduceBEq, Int.reduceBNe, Int.reduceLE, Int.reduceLT, Int.reduceAdd, Int.reduceSub, Int.reduceMul, Int.reduceNeg, frpL, preF, preP, prePt, prePd, frzP, evNlq, ev, frOf, oget, ogets, argSs, argS, evMm, frzL, evBin, evWrp, evShf, evCmp, evUna, evNil, evBeq, evLd, evSt, evFad, evIad, evAad, evLen, evSln, evEls, evApp, evParts, evSlc, evNlc, evMif, evPck, evFld, evBld, evTas, evIfq, evSeq, evSl0, evBxf, evAgl, evAgq, evBsf, hget, hset, hdel, cellAt, arrAt, setCellAt, setArrAt, takeC, lenC, svCells, SV.okc, SV.one, ldSV, Fw.isAgg, Nat.reduceMul, Nat.reduceSub, Nat.reduceLeDiff, Nat.reduceLT, explode, explodeL, toD, toDL, toD1, Ty.size, Ty.sizeL, frz1, Fr.sub, Heap.sub, Tok.sub, SV.sub, SV.subL, Nat.reduceEqDiff, Nat.reduceAdd, reduceCtorEq, ↓reduceIte, reduceIte, spCNode, hn, hr]
      exact retN _ _ _ (by ((try simp only []); repeat first | exact HLe.refl _ | refine HLe.cons (by simp only [hget, Nat.reduceEqDiff, Nat.left_eq_add, Nat.add_eq_left, nm_ne2, nm_en2, nm_ne3, nm_en3, nm_ne4, nm_en4, nm_ne5, nm_en5, reduceIte, ↓reduceIte] <;> first | rfl | ((repeat rw [if_neg (by omega)]) <;> rfl)) ?_ | refine HLe.skip hnm (by omega) ?_ | refine HLe.frz hnm (by omega) ?_ | refine HLe.del hnm (by omega) ?_)) rfl (by unfold bornE; rw [if_pos (.inl hn)])
    have hb : 0 ≤ n ∧ n < 64 := by
      unfold nodeB at hn
      simpa using hn
    by_cases h1 : inc < 1
    · have c1 : decide (inc < 1) = true := decide_eq_true h1
      simp (maxSteps := 4000000) only [icRBorn, walkSet, eq_self, implies_true, evMdl, evMupD, evMup, evLkp, Int.reduceEq, Int.reduceBEq, Int.reduceBNe, Int.reduceLE, Int.reduceLT, Int.reduceAdd, Int.reduceSub, Int.reduceMul, Int.reduceNeg, frpL, preF, preP, prePt, prePd, frzP, evNlq, ev, frOf, oget, ogets, argSs, argS, evMm, frzL, evBin, evWrp, evShf, evCmp, evUna, evNil, evBeq, evLd, evSt, evFad, evIad, evAad, evLen, evSln, evEls, evApp, evParts, evSlc, evNlc, evMif, evPck, evFld, evBld, evTas, evIfq, evSeq, evSl0, evBxf, evAgl, evAgq, evBsf, hget, hset, hdel, cellAt, arrAt, setCellAt, setArrAt, takeC, lenC, svCells, SV.okc, SV.one, ldSV, Fw.isAgg, Nat.reduceMul, Nat.reduceSub, Nat.reduceLeDiff, Nat.reduceLT, explode, explodeL, toD, toDL, toD1, Ty.size, Ty.sizeL, frz1, Fr.sub, Heap.sub, Tok.sub, SV.sub, SV.subL, Nat.reduceEqDiff, Nat.reduceAdd, reduceCtorEq, ↓reduceIte, reduceIte, spCNode, hn, hr, c1]
      exact retN _ _ _ (by ((try simp only []); repeat first | exact HLe.refl _ | refine HLe.cons (by simp only [hget, Nat.reduceEqDiff, Nat.left_eq_add, Nat.add_eq_left, nm_ne2, nm_en2, nm_ne3, nm_en3, nm_ne4, nm_en4, nm_ne5, nm_en5, reduceIte, ↓reduceIte] <;> first | rfl | ((repeat rw [if_neg (by omega)]) <;> rfl)) ?_ | refine HLe.skip hnm (by omega) ?_ | refine HLe.frz hnm (by omega) ?_ | refine HLe.del hnm (by omega) ?_)) rfl (by unfold bornE; rw [if_pos (.inr (.inl h1))])
    have c1 : decide (inc < 1) = false := decide_eq_false h1
    by_cases h2 : 1073741824 < inc
    · have c2 : decide (1073741824 < inc) = true := decide_eq_true h2
      simp (maxSteps := 4000000) only [icRBorn, walkSet, eq_self, implies_true, evMdl, evMupD, evMup, evLkp, Int.reduceEq, Int.reduceBEq, Int.reduceBNe, Int.reduceLE, Int.reduceLT, Int.reduceAdd, Int.reduceSub, Int.reduceMul, Int.reduceNeg, frpL, preF, preP, prePt, prePd, frzP, evNlq, ev, frOf, oget, ogets, argSs, argS, evMm, frzL, evBin, evWrp, evShf, evCmp, evUna, evNil, evBeq, evLd, evSt, evFad, evIad, evAad, evLen, evSln, evEls, evApp, evParts, evSlc, evNlc, evMif, evPck, evFld, evBld, evTas, evIfq, evSeq, evSl0, evBxf, evAgl, evAgq, evBsf, hget, hset, hdel, cellAt, arrAt, setCellAt, setArrAt, takeC, lenC, svCells, SV.okc, SV.one, ldSV, Fw.isAgg, Nat.reduceMul, Nat.reduceSub, Nat.reduceLeDiff, Nat.reduceLT, explode, explodeL, toD, toDL, toD1, Ty.size, Ty.sizeL, frz1, Fr.sub, Heap.sub, Tok.sub, SV.sub, SV.subL, Nat.reduceEqDiff, Nat.reduceAdd, reduceCtorEq, ↓reduceIte, reduceIte, spCNode, hn, hr, c1, c2]
      exact retN _ _ _ (by ((try simp only []); repeat first | exact HLe.refl _ | refine HLe.cons (by simp only [hget, Nat.reduceEqDiff, Nat.left_eq_add, Nat.add_eq_left, nm_ne2, nm_en2, nm_ne3, nm_en3, nm_ne4, nm_en4, nm_ne5, nm_en5, reduceIte, ↓reduceIte] <;> first | rfl | ((repeat rw [if_neg (by omega)]) <;> rfl)) ?_ | refine HLe.skip hnm (by omega) ?_ | refine HLe.frz hnm (by omega) ?_ | refine HLe.del hnm (by omega) ?_)) rfl (by unfold bornE; rw [if_pos (.inr (.inr h2))])
    have c2 : decide (1073741824 < inc) = false := decide_eq_false h2
    have hE : bornE l n inc = if inc ≤ (l.getD n.toNat .nil).i then .err 0 else .nil := by unfold bornE; rw [if_neg (by rw [hn]; simp; omega)]
    by_cases h3 : inc ≤ (l.getD n.toNat .nil).i
    · rw [if_pos h3] at hE
      have c3 : decide (inc ≤ (l.getD n.toNat .nil).i) = true := decide_eq_true h3
      simp (maxSteps := 4000000) only [icRBorn, walkSet, eq_self, implies_true, evMdl, evMupD, evMup, evLkp, Int.reduceEq, Int.reduceBEq, Int.reduceBNe, Int.reduceLE, Int.reduceLT, Int.reduceAdd, Int.reduceSub, Int.reduceMul, Int.reduceNeg, frpL, preF, preP, prePt, prePd, frzP, evNlq, ev, frOf, oget, ogets, argSs, argS, evMm, frzL, evBin, evWrp, evShf, evCmp, evUna, evNil, evBeq, evLd, evSt, evFad, evIad, evAad, evLen, evSln, evEls, evApp, evParts, evSlc, evNlc, evMif, evPck, evFld, evBld, evTas, evIfq, evSeq, evSl0, evBxf, evAgl, evAgq, evBsf, hget, hset, hdel, cellAt, arrAt, setCellAt, setArrAt, takeC, lenC, svCells, SV.okc, SV.one, ldSV, Fw.isAgg, Nat.reduceMul, Nat.reduceSub, Nat.reduceLeDiff, Nat.reduceLT, explode, explodeL, toD, toDL, toD1, Ty.size, Ty.sizeL, frz1, Fr.sub, Heap.sub, Tok.sub, SV.sub, SV.subL, Nat.reduceEqDiff, Nat.reduceAdd, reduceCtorEq, ↓reduceIte, reduceIte, spCNode, hn, hr, c1, c2, c3]
      repeat refine ⟨by omega, ?_⟩
      exact retN _ _ _ (by ((try simp only []); repeat first | exact HLe.refl _ | refine HLe.cons (by simp only [hget, Nat.reduceEqDiff, Nat.left_eq_add, Nat.add_eq_left, nm_ne2, nm_en2, nm_ne3, nm_en3, nm_ne4, nm_en4, nm_ne5, nm_en5, reduceIte, ↓reduceIte] <;> first | rfl | ((repeat rw [if_neg (by omega)]) <;> rfl)) ?_ | refine HLe.skip hnm (by omega) ?_ | refine HLe.frz hnm (by omega) ?_ | refine HLe.del hnm (by omega) ?_)) rfl hE.symm
    · rw [if_neg h3] at hE
      have c3 : decide (inc ≤ (l.getD n.toNat .nil).i) = false := decide_eq_false h3
      simp (maxSteps := 4000000) only [icRBorn, walkSet, eq_self, implies_true, evMdl, evMupD, evMup, evLkp, Int.reduceEq, Int.reduceBEq, Int.reduceBNe, Int.reduceLE, Int.reduceLT, Int.reduceAdd, Int.reduceSub, Int.reduceMul, Int.reduceNeg, frpL, preF, preP, prePt, prePd, frzP, evNlq, ev, frOf, oget, ogets, argSs, argS, evMm, frzL, evBin, evWrp, evShf, evCmp, evUna, evNil, evBeq, evLd, evSt, evFad, evIad, evAad, evLen, evSln, evEls, evApp, evParts, evSlc, evNlc, evMif, evPck, evFld, evBld, evTas, evIfq, evSeq, evSl0, evBxf, evAgl, evAgq, evBsf, hget, hset, hdel, cellAt, arrAt, setCellAt, setArrAt, takeC, lenC, svCells, SV.okc, SV.one, ldSV, Fw.isAgg, Nat.reduceMul, Nat.reduceSub, Nat.reduceLeDiff, Nat.reduceLT, explode, explodeL, toD, toDL, toD1, Ty.size, Ty.sizeL, frz1, Fr.sub, Heap.sub, Tok.sub, SV.sub, SV.subL, Nat.reduceEqDiff, Nat.reduceAdd, reduceCtorEq, ↓reduceIte, reduceIte, spCNode, hn, hr, c1, c2, c3]
      repeat refine ⟨by omega, ?_⟩
      refine (hQ _ ?_).1
      exact fin_t (.dat .iface .nil) rfl rfl (HLt.hset hnm (t := .cells [.vec m, .int .i64 e, .arrc (.int .i64) (l.set n.toNat (.int inc))]) ⟨(hnm r _ hr).2.1, trivial, trivial, trivial⟩) (HLe.refl _) (hgood (by rw [hE]; rfl))
  · exact hsp.elim

/-! ### Another group's nodes -/
def memL (x : D) : List D := joinL (x.fld 1).l (x.fld 2).l
def othB (g : Int) (c : List D) (i : Nat) (x : D) : Bool := !(i == g) && decide (0 < commonN (memL x) c)
def otherB (L : List D) (g : Int) (c : List D) : Bool := (List.range L.length).any fun i => ((i : Int) != g) && decide (0 < (commonN (memL (L.getD i .nil)) c : Int))
def regsOk (L : List D) : Prop := L.length ≤ 1000 ∧ ∀ x ∈ L, (x.fld 1).l.length ≤ 1000 ∧ (x.fld 2).l.length ≤ 1000 ∧ 0 ≤ (x.fld 0).i ∧ (x.fld 0).i ≤ 1073741824
def WROther : Opts := mkWF 31 [] [] [24, 26, 27] 184 [] [] [] [24, 26, 27]
def icROther : IC := (.seq (.seq (.ops [(.u (.box 5 0 (.s 2))), (.u (.mov 6 (.c (.bool false))))]) (.tr [0, 1, 5])) (.seq (.seq (.seq (.ops [(.u (.mov 9 (.s 0))), (.u (.nlc 10 (.s 9))), (.u (.fad 11 0 0 (.slice 25) 123 (.s 10))), (.u (.ld 12 (.slice 25) (.s 11))), (.u (.len 13 false (.s 12))), (.u (.mov 14 (.c (.int .i64 0))))]) (.tr [13, 12, 1, 5, 14])) (.block 0 (.loop (.seq (.seq (.ops [(.u (.cmp 15 .lss (.s 14) (.s 13)))]) (.tr [15, 14, 13, 12, 1, 5])) (.seq (.cond (.s 15) .skip (.exit 0)) (.seq (.block 1 (.seq (.seq (.ops [(.u (.mov 16 (.s 14))), (.u (.iad 17 25 (.strct [(.int .i64), (.slice 3), (.slice 3)]) (.s 12) (.s 14))), (.u (.ld 18 (.strct [(.int .i64), (.slice 3), (.slice 3)]) (.s 17))), (.u (.alc 8 [(.int .i64 0), .nils, .nils])), (.u (.mov 7 (.s 16))), (.u (.st (.strct [(.int .i64), (.slice 3), (.slice 3)]) (.s 8) (.s 18)))]) (.tr [7, 8, 14, 13, 12, 1, 5])) (.seq (.seq (.rgn [] [(false, (.u (.mov 19 (.s 7)))), (false, (.u (.mov 20 (.s 1)))), (false, (.u (.cmp 21 .neq (.s 19) (.s 20)))), (false, (.u (.mov 22 (.s 21)))), (false, (.g 22 true (some 23) (.ld 23 (.strct [(.int .i64), (.slice 3), (.slice 3)]) (.s 8)))), (false, (.g 22 true (some 25) (.ld 25 (.strct [(.int .i64), (.slice 3), (.slice 3)]) (.s 5)))), (true, (.g 22 true (some 24) (.call 24 (.c (.clo 46 [])) [(.s 23)] [none] false))), (true, (.g 22 true (some 26) (.call 26 (.c (.clo 46 [])) [(.s 25)] [none] false))), (true, (.g 22 true (some 27) (.call 27 (.c (.clo 91 [])) [(.s 24), (.s 26)] [(some 3), (some 3)] false))), (false, (.g 22 true (some 28) (.cmp 28 .gtr (.s 27) (.c (.int .i64 0))))), (false, (.u (.pck 29 (.s 22) (.s 28) (.c (.bool false)))))]) (.tr [29, 14, 13, 12, 1, 5])) (.cond (.s 29) (.seq (.seq (.ops [(.u (.mov 6 (.c (.bool true))))]) (.tr [6])) .ret) .skip)))) (.seq (.ops [(.u (.bin 30 .add .i64 (.s 14) (.c (.int .i64 1)))), (.u (.mov 14 (.s 30)))]) (.tr [13, 12, 1, 5, 14])))))))) (.seq (.seq (.ops [(.u (.mov 6 (.c (.bool false))))]) (.tr [6])) .ret)))
def rsROther : List RV := [(.t 6)]
theorem irROther : fnIR Tryd.prog WROther 92 = some (icROther, rsROther) := by kernel_rfl
def spROther : FSpec := fun args h nx K => match args with
  | [.ptr r 0, .int .i64 g, .agg [.int .i64 e, .dat (.slice t) o, .dat (.slice t') n]] => t = 3 ∧ t' = 3 ∧ gOk (hget h r) ∧ cOk (hget h (gM (hget h r))) ∧ regsOk (cL (hget h (gM (hget h r)))) ∧ o.l.length ≤ 1000 ∧ n.l.length ≤ 1000 ∧ K (.bool (otherB (cL (hget h (gM (hget h r)))) g (joinL o.l n.l))) h
  | _ => False
set_option maxHeartbeats 4000000 in
set_option maxRecDepth 8000 in
theorem vROther {E : Nat → Value} (hE : Errs2 Tryd.prog (some 184) E) : Valid Tryd.prog E (gs []) 92 spROther := by
  refine valid_go (W := WROther) hE ((allValid_bot.add (up (vCMembers hE))).add (up (vCCommon hE))) irROther (by decide) (fun args h nx K hsp hok hnm => ?_)
  unfold spROther at hsp
  split at hsp
  · rename_i r g e t o t' n
    obtain ⟨rfl, rfl, ⟨m, ep, il, hr⟩, hc, hL, ho3, hn3, hK⟩ := hsp
    rw [hr, gM_c] at hc hL hK
    obtain ⟨L, hm⟩ := hc
    rw [hm, cL_c] at hL hK
    have hrx := (hnm r _ hr).1
    have hmx := (hnm m _ hm).1
    have hmr : m ≠ r := fun e => by rw [e, hr] at hm; cases hm
    refine ⟨by simp [WROther, mkW, mkWE, mkWF], fun Q hQ => ?_⟩
    have pn0r : (nx = r) = False := eq_false (by omega)
    have pn1r : ∀ a0 : Nat, (nx + a0 = r) = False := fun a0 => eq_false (by omega)
    have pn2r : ∀ a0 a1 : Nat, (nx + a0 + a1 = r) = False := fun a0 a1 => eq_false (by omega)
    have pn3r : ∀ a0 a1 a2 : Nat, (nx + a0 + a1 + a2 = r) = False := fun a0 a1 a2 => eq_false (by omega)
    have pn4r : ∀ a0 a1 a2 a3 : Nat, (nx + a0 + a1 + a2 + a3 = r) = False := fun a0 a1 a2 a3 => eq_false (by omega)
    have pn5r : ∀ a0 a1 a2 a3 a4 : Nat, (nx + a0 + a1 + a2 + a3 + a4 = r) = False := fun a0 a1 a2 a3 a4 => eq_false (by omega)
    have pn6r : ∀ a0 a1 a2 a3 a4 a5 : Nat, (nx + a0 + a1 + a2 + a3 + a4 + a5 = r) = False := fun a0 a1 a2 a3 a4 a5 => eq_false (by omega)
    have pn7r : ∀ a0 a1 a2 a3 a4 a5 a6 : Nat, (nx + a0 + a1 + a2 + a3 + a4 + a5 + a6 = r) = False := fun a0 a1 a2 a3 a4 a5 a6 => eq_false (by omega)
    have pn0m : (nx = m) = False := eq_false (by omega)
    have pn1m : ∀ a0 : Nat, (nx + a0 = m) = False := fun a0 => eq_false (by omega)
    have pn2m : ∀ a0 a1 : Nat, (nx + a0 + a1 = m) = False := fun a0 a1 => eq_false (by omega)
    have pn3m : ∀ a0 a1 a2 : Nat, (nx + a0 + a1 + a2 = m) = False := fun a0 a1 a2 => eq_false (by omega)
    have pn4m : ∀ a0 a1 a2 a3 : Nat, (nx + a0 + a1 + a2 + a3 = m) = False := fun a0 a1 a2 a3 => eq_false (by omega)
    have pn5m : ∀ a0 a1 a2 a3 a4 : Nat, (nx + a0 + a1 + a2 + a3 + a4 = m) = False := fun a0 a1 a2 a3 a4 => eq_false (by omega)
    have pn6m : ∀ a0 a1 a2 a3 a4 a5 : Nat, (nx + a0 + a1 + a2 + a3 + a4 + a5 = m) = False := fun a0 a1 a2 a3 a4 a5 => eq_false (by omega)
    have pn7m : ∀ a0 a1 a2 a3 a4 a5 a6 : Nat, (nx + a0 + a1 + a2 + a3 + a4 + a5 + a6 = m) = False := fun a0 a1 a2 a3 a4 a5 a6 => eq_false (by omega)
    simp (maxSteps := 4000000) only [icROther, walkSet, eq_self, implies_true, evMdl, evMupD, evMup, evLkp, Int.reduceEq, Int.reduceBEq, Int.reduceBNe, Int.reduceLE, Int.reduceLT, Int.reduceAdd, Int.reduceSub, Int.reduceMul, Int.reduceNeg, frpL, preF, preP, prePt, prePd, frzP, evNlq, ev, frOf, oget, ogets, argSs, argS, evMm, frzL, evBin, evWrp, evShf, evCmp, evUna, evNil, evBeq, evLd, evSt, evFad, evIad, evAad, evLen, evSln, evEls, evApp, evParts, evSlc, evNlc, evMif, evPck, evFld, evBld, evTas, evIfq, evSeq, evSl0, evBxf, evAgl, evAgq, evBsf, hget, hset, hdel, cellAt, arrAt, setCellAt, setArrAt, takeC, lenC, svCells, SV.okc, SV.one, ldSV, Fw.isAgg, Nat.reduceMul, Nat.reduceSub, Nat.reduceLeDiff, Nat.reduceLT, explode, explodeL, toD, toDL, toD1, Ty.size, Ty.sizeL, frz1, Fr.sub, Heap.sub, Tok.sub, SV.sub, SV.subL, Nat.reduceEqDiff, Nat.reduceAdd, reduceCtorEq, ↓reduceIte, reduceIte, hr, hm, pn0r, pn1r, pn2r, pn3r, pn4r, pn5r, pn6r, pn7r, pn0m, pn1m, pn2m, pn3m, pn4m, pn5m, pn6m, pn7m]
    have ret : ∀ b h' nx', HLe h h' → b = otherB L g (joinL o.l n.l) → Q Ex.ret ⟨[(6, .bool b)], h', nx'⟩ := fun b h' nx' hh hb => by
      refine (hQ _ ?_).1
      subst hb
      exact fin_t (.bool _) rfl rfl hnm hh hK
    have hml : maxLen ≤ 9223372036854775807 := by decide
    refine go_loop (α := { i : Nat // i ≤ L.length ∧ ∀ j, j < i → (((j : Int) != g) && decide (0 < (commonN (memL (L.getD j .nil)) (joinL o.l n.l) : Int))) = false }) (I := fun i => { f := [(13, .int .i64 L.length), (12, .vec m), (1, .int .i64 g), (5, .ptr nx 0), (14, .int .i64 i.1)], h := (nx, .cells [.int .i64 e, .dat (.slice 3) o, .dat (.slice 3) n]) :: h, nx := nx + 1 }) (μ := fun i => L.length - i.1) _ _ _ ⟨0, by omega, fun j hj => absurd hj (by omega)⟩ ?_ (fun i B hB => ?_)
    · refine leq_id ?_ ?_ (by ((try simp only []); repeat first | exact HLe.refl _ | refine HLe.cons (by simp only [hget, Nat.reduceEqDiff, Nat.left_eq_add, Nat.add_eq_left, nm_ne2, nm_en2, nm_ne3, nm_en3, nm_ne4, nm_en4, nm_ne5, nm_en5, reduceIte, ↓reduceIte] <;> first | rfl | ((repeat rw [if_neg (by omega)]) <;> rfl)) ?_ | refine HLe.skip hnm (by omega) ?_ | refine HLe.frz hnm (by omega) ?_ | refine HLe.del hnm (by omega) ?_)) (by (repeat first | exact HLt.mono hnm (by simp only [] <;> omega) | refine HLt.cons (by simp only [] <;> omega) (by simp only [Tok.lt, SV.ltL, SV.lt, and_true, true_and] <;> omega) ?_)) (by simp only [] <;> omega)
      · simp only [frEq_cons, frEq_nil, frIn_cons, frIn_nil, and_true, fget_cons, Nat.reduceEqDiff, reduceIte, ↓reduceIte, true_and, SV.ren, SV.renL, ren1]
        simp
      · (simp only [frLt_cons, frLt_nil, and_true, SV.lt, SV.ltL, true_and] <;> omega)
    · obtain ⟨i, hi, hgi⟩ := i
      simp only at hB
      by_cases hil : i < L.length
      · have c1 : decide ((i : Int) < (L.length : Int)) = true := decide_eq_true (by omega)
        have hxL : L.getD i .nil ∈ L := by rw [List.getD_eq_getElem?_getD, List.getElem?_eq_getElem hil]; exact List.getElem_mem hil
        have hL1 := hL.1
        obtain ⟨hx1, hx2, _⟩ := hL.2 _ hxL
        have next : (((i : Int) != g) && decide (0 < (commonN (memL (L.getD i .nil)) (joinL o.l n.l) : Int))) = false → ∀ S', Leq nx S' { f := [(13, .int .i64 L.length), (12, .vec m), (1, .int .i64 g), (5, .ptr nx 0), (14, .int .i64 ((i + 1 : Nat) : Int))], h := (nx, .cells [.int .i64 e, .dat (.slice 3) o, .dat (.slice 3) n]) :: h, nx := nx + 1 } → B S' := fun hc S' hl => hB _ ⟨i + 1, by omega, fun j hj => by
          by_cases e2 : j = i
          · subst e2; exact hc
          · exact hgi j (by omega)⟩ (by simp only []; omega) hl
        rcases bool_ft ((i : Int) != g) with hg | hg
        · simp (maxSteps := 4000000) only [walkSet, eq_self, implies_true, evMdl, evMupD, evMup, evLkp, Int.reduceEq, Int.reduceBEq, Int.reduceBNe, Int.reduceLE, Int.reduceLT, Int.reduceAdd, Int.reduceSub, Int.reduceMul, Int.reduceNeg, frpL, preF, preP, prePt, prePd, frzP, evNlq, ev, frOf, oget, ogets, argSs, argS, evMm, frzL, evBin, evWrp, evShf, evCmp, evUna, evNil, evBeq, evLd, evSt, evFad, evIad, evAad, evLen, evSln, evEls, evApp, evParts, evSlc, evNlc, evMif, evPck, evFld, evBld, evTas, evIfq, evSeq, evSl0, evBxf, evAgl, evAgq, evBsf, hget, hset, hdel, cellAt, arrAt, setCellAt, setArrAt, takeC, lenC, svCells, SV.okc, SV.one, ldSV, Fw.isAgg, Nat.reduceMul, Nat.reduceSub, Nat.reduceLeDiff, Nat.reduceLT, explode, explodeL, toD, toDL, toD1, Ty.size, Ty.sizeL, frz1, Fr.sub, Heap.sub, Tok.sub, SV.sub, SV.subL, Nat.reduceEqDiff, Nat.reduceAdd, reduceCtorEq, ↓reduceIte, reduceIte, c1, hm, hg, pn0m, pn1m, pn2m, pn3m, pn4m, pn5m, pn6m, pn7m, Int.toNat_natCast, min_i64, max_i64]
          repeat refine ⟨by omega, ?_⟩
          refine next (by rw [hg, Bool.false_and]) _ ?_
          refine leq_id ?_ (by (simp only [frLt_cons, frLt_nil, and_true, SV.lt, SV.ltL, true_and] <;> omega)) (by ((try simp only []); repeat first | exact HLe.refl _ | refine HLe.cons (by simp only [hget, Nat.reduceEqDiff, Nat.left_eq_add, Nat.add_eq_left, nm_ne2, nm_en2, nm_ne3, nm_en3, nm_ne4, nm_en4, nm_ne5, nm_en5, reduceIte, ↓reduceIte] <;> first | rfl | ((repeat rw [if_neg (by omega)]) <;> rfl)) ?_ | refine HLe.skip hnm (by omega) ?_ | refine HLe.frz hnm (by omega) ?_ | refine HLe.del hnm (by omega) ?_)) (by (repeat first | exact HLt.mono hnm (by simp only [] <;> omega) | refine HLt.cons (by simp only [] <;> omega) (by simp only [Tok.lt, SV.ltL, SV.lt, and_true, true_and] <;> omega) ?_)) (by simp only [] <;> omega)
          simp only [frEq_cons, frEq_nil, frIn_cons, frIn_nil, and_true, fget_cons, Nat.reduceEqDiff, reduceIte, ↓reduceIte, true_and, SV.ren, SV.renL, ren1]
          simp
        · simp (maxSteps := 4000000) only [walkSet, eq_self, implies_true, evMdl, evMupD, evMup, evLkp, Int.reduceEq, Int.reduceBEq, Int.reduceBNe, Int.reduceLE, Int.reduceLT, Int.reduceAdd, Int.reduceSub, Int.reduceMul, Int.reduceNeg, frpL, preF, preP, prePt, prePd, frzP, evNlq, ev, frOf, oget, ogets, argSs, argS, evMm, frzL, evBin, evWrp, evShf, evCmp, evUna, evNil, evBeq, evLd, evSt, evFad, evIad, evAad, evLen, evSln, evEls, evApp, evParts, evSlc, evNlc, evMif, evPck, evFld, evBld, evTas, evIfq, evSeq, evSl0, evBxf, evAgl, evAgq, evBsf, hget, hset, hdel, cellAt, arrAt, setCellAt, setArrAt, takeC, lenC, svCells, SV.okc, SV.one, ldSV, Fw.isAgg, Nat.reduceMul, Nat.reduceSub, Nat.reduceLeDiff, Nat.reduceLT, explode, explodeL, toD, toDL, toD1, Ty.size, Ty.sizeL, frz1, Fr.sub, Heap.sub, Tok.sub, SV.sub, SV.subL, Nat.reduceEqDiff, Nat.reduceAdd, reduceCtorEq, ↓reduceIte, reduceIte, c1, hm, hg, pn0m, pn1m, pn2m, pn3m, pn4m, pn5m, pn6m, pn7m, Int.toNat_natCast, min_i64, max_i64, spCMembers, spCCommon, hx1, hx2, ho3, hn3]
          repeat refine ⟨by omega, ?_⟩
          refine ⟨_, fun nx' => ⟨rfl, rfl⟩, trivial, _, fun nx' => ⟨rfl, rfl⟩, trivial, .int .i64 (commonN (memL (L.getD i .nil)) (joinL o.l n.l)), fun nx' => ⟨rfl, rfl, rfl, rfl⟩, trivial, ?_⟩
          simp (maxSteps := 4000000) only [walkSet, eq_self, implies_true, evMdl, evMupD, evMup, evLkp, Int.reduceEq, Int.reduceBEq, Int.reduceBNe, Int.reduceLE, Int.reduceLT, Int.reduceAdd, Int.reduceSub, Int.reduceMul, Int.reduceNeg, frpL, preF, preP, prePt, prePd, frzP, evNlq, ev, frOf, oget, ogets, argSs, argS, evMm, frzL, evBin, evWrp, evShf, evCmp, evUna, evNil, evBeq, evLd, evSt, evFad, evIad, evAad, evLen, evSln, evEls, evApp, evParts, evSlc, evNlc, evMif, evPck, evFld, evBld, evTas, evIfq, evSeq, evSl0, evBxf, evAgl, evAgq, evBsf, hget, hset, hdel, cellAt, arrAt, setCellAt, setArrAt, takeC, lenC, svCells, SV.okc, SV.one, ldSV, Fw.isAgg, Nat.reduceMul, Nat.reduceSub, Nat.reduceLeDiff, Nat.reduceLT, explode, explodeL, toD, toDL, toD1, Ty.size, Ty.sizeL, frz1, Fr.sub, Heap.sub, Tok.sub, SV.sub, SV.subL, Nat.reduceEqDiff, Nat.reduceAdd, reduceCtorEq, ↓reduceIte, reduceIte, min_i64, max_i64]
          refine ⟨fun h9 => ?_, fun h9 => ?_⟩
          · refine ret _ _ _ (by ((try simp only []); repeat first | exact HLe.refl _ | refine HLe.cons (by simp only [hget, Nat.reduceEqDiff, Nat.left_eq_add, Nat.add_eq_left, nm_ne2, nm_en2, nm_ne3, nm_en3, nm_ne4, nm_en4, nm_ne5, nm_en5, reduceIte, ↓reduceIte] <;> first | rfl | ((repeat rw [if_neg (by omega)]) <;> rfl)) ?_ | refine HLe.skip hnm (by omega) ?_ | refine HLe.frz hnm (by omega) ?_ | refine HLe.del hnm (by omega) ?_)) ?_
            unfold otherB
            symm
            rw [List.any_eq_true]
            exact ⟨i, List.mem_range.2 hil, by rw [hg, h9]; rfl⟩
          · refine ⟨⟨by omega, by omega⟩, ?_⟩
            refine next (by rw [hg, h9]; rfl) _ ?_
            refine leq_id ?_ (by (simp only [frLt_cons, frLt_nil, and_true, SV.lt, SV.ltL, true_and] <;> omega)) (by ((try simp only []); repeat first | exact HLe.refl _ | refine HLe.cons (by simp only [hget, Nat.reduceEqDiff, Nat.left_eq_add, Nat.add_eq_left, nm_ne2, nm_en2, nm_ne3, nm_en3, nm_ne4, nm_en4, nm_ne5, nm_en5, reduceIte, ↓reduceIte] <;> first | rfl | ((repeat rw [if_neg (by omega)]) <;> rfl)) ?_ | refine HLe.skip hnm (by omega) ?_ | refine HLe.frz hnm (by omega) ?_ | refine HLe.del hnm (by omega) ?_)) (by (repeat first | exact HLt.mono hnm (by simp only [] <;> omega) | refine HLt.cons (by simp only [] <;> omega) (by simp only [Tok.lt, SV.ltL, SV.lt, and_true, true_and] <;> omega) ?_)) (by simp only [] <;> omega)
            simp only [frEq_cons, frEq_nil, frIn_cons, frIn_nil, and_true, fget_cons, Nat.reduceEqDiff, reduceIte, ↓reduceIte, true_and, SV.ren, SV.renL, ren1]
            simp
      · obtain rfl : i = L.length := by omega
        have c1 : decide ((L.length : Int) < (L.length : Int)) = false := decide_eq_false (by omega)
        simp (maxSteps := 4000000) only [walkSet, eq_self, implies_true, evMdl, evMupD, evMup, evLkp, Int.reduceEq, Int.reduceBEq, Int.reduceBNe, Int.reduceLE, Int.reduceLT, Int.reduceAdd, Int.reduceSub, Int.reduceMul, Int.reduceNeg, frpL, preF, preP, prePt, prePd, frzP, evNlq, ev, frOf, oget, ogets, argSs, argS, evMm, frzL, evBin, evWrp, evShf, evCmp, evUna, evNil, evBeq, evLd, evSt, evFad, evIad, evAad, evLen, evSln, evEls, evApp, evParts, evSlc, evNlc, evMif, evPck, evFld, evBld, evTas, evIfq, evSeq, evSl0, evBxf, evAgl, evAgq, evBsf, hget, hset, hdel, cellAt, arrAt, setCellAt, setArrAt, takeC, lenC, svCells, SV.okc, SV.one, ldSV, Fw.isAgg, Nat.reduceMul, Nat.reduceSub, Nat.reduceLeDiff, Nat.reduceLT, explode, explodeL, toD, toDL, toD1, Ty.size, Ty.sizeL, frz1, Fr.sub, Heap.sub, Tok.sub, SV.sub, SV.subL, Nat.reduceEqDiff, Nat.reduceAdd, reduceCtorEq, ↓reduceIte, reduceIte, c1]
        refine ret _ _ _ (by ((try simp only []); repeat first | exact HLe.refl _ | refine HLe.cons (by simp only [hget, Nat.reduceEqDiff, Nat.left_eq_add, Nat.add_eq_left, nm_ne2, nm_en2, nm_ne3, nm_en3, nm_ne4, nm_en4, nm_ne5, nm_en5, reduceIte, ↓reduceIte] <;> first | rfl | ((repeat rw [if_neg (by omega)]) <;> rfl)) ?_ | refine HLe.skip hnm (by omega) ?_ | refine HLe.frz hnm (by omega) ?_ | refine HLe.del hnm (by omega) ?_)) ?_
        unfold otherB
        symm
        rw [List.any_eq_false]
        intro j hj
        rw [List.mem_range] at hj
        rw [hgi j hj]
        decide
  · exact hsp.elim

/-! ### A registry of some groups -/
def zero64 : List D := List.replicate 64 (.int 0)
def normC (x : D) : D := cfgN (x.fld 0).i (x.fld 1).l (x.fld 2).l
theorem normC_mem (x : D) : memL (normC x) = memL x := rfl
def newBad (L : List D) (i : Nat) : D :=
  if (validC ((L.getD i .nil).fld 0).i ((L.getD i .nil).fld 1).l ((L.getD i .nil).fld 2).l).isNil = false then validC ((L.getD i .nil).fld 0).i ((L.getD i .nil).fld 1).l ((L.getD i .nil).fld 2).l
  else if 0 < ((L.getD i .nil).fld 2).l.length then .err 0
  else if otherB ((L.take i).map normC) i (memL (L.getD i .nil)) = true then .err 2 else .nil
def atE (i : Nat) (e : D) : D := .ifc 125 (.ptr (.node [.int i, e]))
abbrev GRN : List Nat := [0, 2, 3, 4, 5]
def WCNew : Opts := mkWF 63 [] [0, 2, 3, 4, 5] [56] 184 [0, 2, 3, 4, 5] [] [] [56]
def icCNew : IC := (.seq (.seq (.ops [(.u (.mov 2 (.c (.raw (.pointer none))))), (.u (.mov 3 (.c (.dat .iface .nil))))]) (.tr [0])) (.seq (.seq (.seq (.ops [(.u (.mov 8 (.s 0))), (.u (.len 9 false (.s 8))), (.u (.cmp 10 .eql (.s 9) (.c (.int .i64 0)))), (.u (.mov 11 (.s 10))), (.g 11 false (some 12) (.mov 12 (.s 0))), (.g 11 false (some 13) (.len 13 false (.s 12))), (.g 11 false (some 14) (.cmp 14 .gtr (.s 13) (.c (.int .i64 4)))), (.u (.pck 15 (.s 11) (.c (.bool true)) (.s 14)))]) (.tr [15, 0])) (.cond (.s 15) (.seq (.seq (.rgn [] [(false, (.u (.gld 16 5))), (false, (.u (.mov 2 (.c (.raw (.pointer none)))))), (false, (.u (.mov 3 (.s 16))))]) (.tr [2, 3])) .ret) .skip)) (.seq (.seq (.ops [(.u (.bld 17 [[.nils], [(.int .i64 0)], [(.arrc (.int .i64) [(.int 0), (.int 0), (.int 0), (.int 0), (.int 0), (.int 0), (.int 0), (.int 0), (.int 0), (.int 0), (.int 0), (.int 0), (.int 0), (.int 0), (.int 0), (.int 0), (.int 0), (.int 0), (.int 0), (.int 0), (.int 0), (.int 0), (.int 0), (.int 0), (.int 0), (.int 0), (.int 0), (.int 0), (.int 0), (.int 0), (.int 0), (.int 0), (.int 0), (.int 0), (.int 0), (.int 0), (.int 0), (.int 0), (.int 0), (.int 0), (.int 0), (.int 0), (.int 0), (.int 0), (.int 0), (.int 0), (.int 0), (.int 0), (.int 0), (.int 0), (.int 0), (.int 0), (.int 0), (.int 0), (.int 0), (.int 0), (.int 0), (.int 0), (.int 0), (.int 0), (.int 0), (.int 0), (.int 0), (.int 0)])]] [])), (.u (.box 18 0 (.s 17))), (.u (.mov 4 (.s 18)))]) (.tr [0, 4])) (.seq (.seq (.seq (.ops [(.u (.mov 19 (.s 0))), (.u (.len 20 false (.s 19))), (.u (.mov 21 (.c (.int .i64 0))))]) (.tr [20, 19, 21, 4])) (.block 0 (.loop (.seq (.seq (.ops [(.u (.cmp 22 .lss (.s 21) (.s 20)))]) (.tr [22, 21, 20, 19, 4])) (.seq (.cond (.s 22) .skip (.exit 0)) (.seq (.block 1 (.seq (.seq (.ops [(.u (.mov 23 (.s 21))), (.u (.iad 24 25 (.strct [(.int .i64), (.slice 3), (.slice 3)]) (.s 19) (.s 21))), (.u (.ld 25 (.strct [(.int .i64), (.slice 3), (.slice 3)]) (.s 24))), (.u (.alc 6 [(.int .i64 0), .nils, .nils])), (.u (.mov 5 (.s 23))), (.u (.st (.strct [(.int .i64), (.slice 3), (.slice 3)]) (.s 6) (.s 25)))]) (.tr [5, 6, 21, 20, 19, 4])) (.seq (.seq (.ops [(.u (.ld 26 (.strct [(.int .i64), (.slice 3), (.slice 3)]) (.s 6))), (.u (.call 27 (.c (.clo 49 [])) [(.s 26)] [none] true)), (.u (.mov 7 (.s 27)))]) (.tr [5, 7, 6, 21, 20, 19, 4])) (.seq (.block 2 (.seq (.seq (.ops [(.u (.mov 29 (.s 7))), (.u (.eqb 30 true 0 (.s 29))), (.u (.mov 28 (.s 30)))]) (.tr [28, 5, 7, 6, 21, 20, 19, 4])) (.cond (.s 28) .skip (.seq (.seq (.ops [(.u (.fad 32 2 2 (.slice 3) 25 (.s 6))), (.u (.ld 33 (.slice 3) (.s 32))), (.u (.len 34 false (.s 33))), (.u (.cmp 35 .gtr (.s 34) (.c (.int .i64 0)))), (.u (.mov 31 (.s 35)))]) (.tr [31, 5, 7, 6, 21, 20, 19, 4])) (.cond (.s 31) (.seq (.ops [(.u (.gld 36 0)), (.u (.mov 7 (.s 36)))]) (.tr [5, 7, 6, 21, 20, 19, 4])) (.seq (.seq (.ops [(.u (.mov 38 (.s 4))), (.u (.mov 39 (.s 5))), (.u (.ld 40 (.strct [(.int .i64), (.slice 3), (.slice 3)]) (.s 6))), (.u (.call 41 (.c (.clo 92 [])) [(.s 38), (.s 39), (.s 40)] [none, none, none] true)), (.u (.mov 37 (.s 41)))]) (.tr [37, 5, 7, 6, 21, 20, 19, 4])) (.cond (.s 37) (.seq (.ops [(.u (.gld 42 2)), (.u (.mov 7 (.s 42)))]) (.tr [5, 7, 6, 21, 20, 19, 4])) .skip))))))) (.seq (.seq (.seq (.ops [(.u (.mov 43 (.s 7))), (.u (.eqb 44 true 0 (.s 43)))]) (.tr [44, 5, 7, 6, 21, 20, 19, 4])) (.cond (.s 44) (.seq (.seq (.ops [(.u (.mov 45 (.s 5))), (.u (.mov 46 (.s 7))), (.u (.bld 47 [[(.int .i64 0)], [(.dat .iface .nil)]] [(0, (.s 45)), (1, (.s 46))])), (.u (.box 48 0 (.s 47))), (.u (.mif 49 125 (.ptr 127) (.strct [(.int .i64), .iface]) (.s 48))), (.u (.mov 2 (.c (.raw (.pointer none))))), (.u (.mov 3 (.s 49)))]) (.tr [2, 3])) .ret) .skip)) (.seq (.rgn [] [(false, (.u (.mov 50 (.s 4)))), (false, (.u (.mov 51 (.s 4)))), (false, (.u (.nlc 52 (.s 51)))), (false, (.u (.fad 53 0 0 (.slice 25) 123 (.s 52)))), (false, (.u (.ld 54 (.slice 25) (.s 53)))), (false, (.u (.ld 55 (.strct [(.int .i64), (.slice 3), (.slice 3)]) (.s 6)))), (true, (.u (.call 56 (.c (.clo 71 [])) [(.s 55)] [none] false))), (false, (.u (.bsl 57 25 (.strct [(.int .i64), (.slice 3), (.slice 3)]) [(.s 56)]))), (false, (.u (.app 58 25 (.strct [(.int .i64), (.slice 3), (.slice 3)]) 56 (.s 54) (.s 57)))), (false, (.u (.nlc 59 (.s 50)))), (false, (.u (.fad 60 0 0 (.slice 25) 123 (.s 59)))), (false, (.u (.st (.slice 25) (.s 60) (.s 58))))]) (.tr [21, 20, 19, 4]))))))) (.seq (.ops [(.u (.bin 61 .add .i64 (.s 21) (.c (.int .i64 1)))), (.u (.mov 21 (.s 61)))]) (.tr [20, 19, 21, 4])))))))) (.seq (.seq (.ops [(.u (.mov 62 (.s 4))), (.u (.mov 2 (.s 62))), (.u (.mov 3 (.c (.dat .iface .nil))))]) (.tr [2, 3])) .ret)))))
def rsCNew : List RV := [(.t 2), (.t 3)]
theorem irCNew : fnIR Tryd.prog WCNew 50 = some (icCNew, rsCNew) := by kernel_rfl
def spCNew : FSpec := fun args h nx K => match args with
  | [.dat (.slice t) d] => t = 25 ∧ (d.l.length = 0 ∨ 4 < d.l.length → K (.tup [.raw (.pointer none), .dat .iface (.err 5)]) h) ∧
      (¬ (d.l.length = 0 ∨ 4 < d.l.length) → (∀ i, i < d.l.length → (∀ j, j < i → (newBad d.l j).isNil = true) → (newBad d.l i).isNil = false → K (.tup [.raw (.pointer none), .dat .iface (atE i (newBad d.l i))]) h) ∧
        ((∀ i, i < d.l.length → (newBad d.l i).isNil = true) → K (.tup [.ptr nx 0, .dat .iface .nil]) ((nx, .cells [.vec (nx + 1), .int .i64 0, .arrc (.int .i64) zero64]) :: (nx + 1, .arr 25 cfgT (d.l.map normC)) :: h)))
  | _ => False
set_option maxHeartbeats 4000000 in
set_option maxRecDepth 8000 in
theorem vCNew {E : Nat → Value} (hE : Errs2 Tryd.prog (some 184) E) : Valid Tryd.prog E (gs GRN) 50 spCNew := by
  refine valid_go (W := WCNew) hE (((allValid_bot.add (up (vCValid hE))).add (up (vROther hE))).add (up (vCClone hE))) irCNew (by decide) (fun args h nx K hsp hok hnm => ?_)
  unfold spCNew at hsp
  split at hsp
  · rename_i t d
    obtain ⟨rfl, hmany, hrest⟩ := hsp
    refine ⟨by simp [WCNew, mkW, mkWE, mkWF], fun Q hQ => ?_⟩
    obtain ⟨hd, _⟩ := hok
    simp only [SV.ok] at hd
    obtain ⟨hd1, hd2, hd3⟩ := Wt.slice hd; generalize d.l = l at *; subst hd1
    have retN : ∀ e h' nx', K (.tup [.raw (.pointer none), .dat .iface e]) h → HLe h h' → Q Ex.ret ⟨[(2, .raw (.pointer none)), (3, .dat .iface e)], h', nx'⟩ := fun e h' nx' hK hh => by
      refine (hQ _ ?_).1
      exact fin_t2 _ _ rfl rfl rfl rfl hnm hh hK
    by_cases h1 : l.length = 0
    · have c1 : ((l.length : Int) == 0) = true := beq_iff_eq.2 (by omega)
      simp (maxSteps := 4000000) only [icCNew, walkSet, eq_self, implies_true, evMdl, evMupD, evMup, evLkp, Int.reduceEq, Int.reduceBEq, Int.reduceBNe, Int.reduceLE, Int.reduceLT, Int.reduceAdd, Int.reduceSub, Int.reduceMul, Int.reduceNeg, frpL, preF, preP, prePt, prePd, frzP, evNlq, ev, frOf, oget, ogets, argSs, argS, evMm, frzL, evBin, evWrp, evShf, evCmp, evUna, evNil, evBeq, evLd, evSt, evFad, evIad, evAad, evLen, evSln, evEls, evApp, evParts, evSlc, evNlc, evMif, evPck, evFld, evBld, evTas, evIfq, evSeq, evSl0, evBxf, evAgl, evAgq, evBsf, hget, hset, hdel, cellAt, arrAt, setCellAt, setArrAt, takeC, lenC, svCells, SV.okc, SV.one, ldSV, Fw.isAgg, Nat.reduceMul, Nat.reduceSub, Nat.reduceLeDiff, Nat.reduceLT, explode, explodeL, toD, toDL, toD1, Ty.size, Ty.sizeL, frz1, Fr.sub, Heap.sub, Tok.sub, SV.sub, SV.subL, Nat.reduceEqDiff, Nat.reduceAdd, reduceCtorEq, ↓reduceIte, reduceIte, c1]
      exact retN _ _ _ (hmany (.inl h1)) (by ((try simp only []); repeat first | exact HLe.refl _ | refine HLe.cons (by simp only [hget, Nat.reduceEqDiff, Nat.left_eq_add, Nat.add_eq_left, nm_ne2, nm_en2, nm_ne3, nm_en3, nm_ne4, nm_en4, nm_ne5, nm_en5, reduceIte, ↓reduceIte] <;> first | rfl | ((repeat rw [if_neg (by omega)]) <;> rfl)) ?_ | refine HLe.skip hnm (by omega) ?_ | refine HLe.frz hnm (by omega) ?_ | refine HLe.del hnm (by omega) ?_))
    have c1 : ((l.length : Int) == 0) = false := beq_eq_false_iff_ne.2 (by omega)
    by_cases h2 : 4 < l.length
    · have c2 : decide (4 < (l.length : Int)) = true := decide_eq_true (by omega)
      simp (maxSteps := 4000000) only [icCNew, walkSet, eq_self, implies_true, evMdl, evMupD, evMup, evLkp, Int.reduceEq, Int.reduceBEq, Int.reduceBNe, Int.reduceLE, Int.reduceLT, Int.reduceAdd, Int.reduceSub, Int.reduceMul, Int.reduceNeg, frpL, preF, preP, prePt, prePd, frzP, evNlq, ev, frOf, oget, ogets, argSs, argS, evMm, frzL, evBin, evWrp, evShf, evCmp, evUna, evNil, evBeq, evLd, evSt, evFad, evIad, evAad, evLen, evSln, evEls, evApp, evParts, evSlc, evNlc, evMif, evPck, evFld, evBld, evTas, evIfq, evSeq, evSl0, evBxf, evAgl, evAgq, evBsf, hget, hset, hdel, cellAt, arrAt, setCellAt, setArrAt, takeC, lenC, svCells, SV.okc, SV.one, ldSV, Fw.isAgg, Nat.reduceMul, Nat.reduceSub, Nat.reduceLeDiff, Nat.reduceLT, explode, explodeL, toD, toDL, toD1, Ty.size, Ty.sizeL, frz1, Fr.sub, Heap.sub, Tok.sub, SV.sub, SV.subL, Nat.reduceEqDiff, Nat.reduceAdd, reduceCtorEq, ↓reduceIte, reduceIte, c1, c2]
      exact retN _ _ _ (hmany (.inr h2)) (by ((try simp only []); repeat first | exact HLe.refl _ | refine HLe.cons (by simp only [hget, Nat.reduceEqDiff, Nat.left_eq_add, Nat.add_eq_left, nm_ne2, nm_en2, nm_ne3, nm_en3, nm_ne4, nm_en4, nm_ne5, nm_en5, reduceIte, ↓reduceIte] <;> first | rfl | ((repeat rw [if_neg (by omega)]) <;> rfl)) ?_ | refine HLe.skip hnm (by omega) ?_ | refine HLe.frz hnm (by omega) ?_ | refine HLe.del hnm (by omega) ?_))
    have c2 : decide (4 < (l.length : Int)) = false := decide_eq_false (by omega)
    obtain ⟨hbad, hgood⟩ := hrest (by omega)
    have hz : ([.int 0, .int 0, .int 0, .int 0, .int 0, .int 0, .int 0, .int 0, .int 0, .int 0, .int 0, .int 0, .int 0, .int 0, .int 0, .int 0, .int 0, .int 0, .int 0, .int 0, .int 0, .int 0, .int 0, .int 0, .int 0, .int 0, .int 0, .int 0, .int 0, .int 0, .int 0, .int 0, .int 0, .int 0, .int 0, .int 0, .int 0, .int 0, .int 0, .int 0, .int 0, .int 0, .int 0, .int 0, .int 0, .int 0, .int 0, .int 0, .int 0, .int 0, .int 0, .int 0, .int 0, .int 0, .int 0, .int 0, .int 0, .int 0, .int 0, .int 0, .int 0, .int 0, .int 0, .int 0] : List D) = zero64 := rfl
    simp (maxSteps := 4000000) only [icCNew, walkSet, eq_self, implies_true, evMdl, evMupD, evMup, evLkp, Int.reduceEq, Int.reduceBEq, Int.reduceBNe, Int.reduceLE, Int.reduceLT, Int.reduceAdd, Int.reduceSub, Int.reduceMul, Int.reduceNeg, frpL, preF, preP, prePt, prePd, frzP, evNlq, ev, frOf, oget, ogets, argSs, argS, evMm, frzL, evBin, evWrp, evShf, evCmp, evUna, evNil, evBeq, evLd, evSt, evFad, evIad, evAad, evLen, evSln, evEls, evApp, evParts, evSlc, evNlc, evMif, evPck, evFld, evBld, evTas, evIfq, evSeq, evSl0, evBxf, evAgl, evAgq, evBsf, hget, hset, hdel, cellAt, arrAt, setCellAt, setArrAt, takeC, lenC, svCells, SV.okc, SV.one, ldSV, Fw.isAgg, Nat.reduceMul, Nat.reduceSub, Nat.reduceLeDiff, Nat.reduceLT, explode, explodeL, toD, toDL, toD1, Ty.size, Ty.sizeL, frz1, Fr.sub, Heap.sub, Tok.sub, SV.sub, SV.subL, Nat.reduceEqDiff, Nat.reduceAdd, reduceCtorEq, ↓reduceIte, reduceIte, c1, c2, hz]
    refine go_loop (α := { i : Nat // i ≤ l.length ∧ ∀ j, j < i → (newBad l j).isNil = true }) (I := fun i => { f := [(20, .int .i64 l.length), (19, .dat (.slice 25) (.list l)), (21, .int .i64 i.1), (4, .ptr nx 0)], h := [(nx, .cells [.vec (nx + 1), .int .i64 0, .arrc (.int .i64) zero64]), (nx + 1, .arr 25 cfgT ((l.take i.1).map normC))] ++ h, nx := nx + 2 }) (μ := fun i => l.length - i.1) _ _ _ ⟨0, by omega, fun j hj => absurd hj (by omega)⟩ ?_ (fun i B hB => ?_)
    · refine leq_news [(nx, nx), (nx + 1, nx + 1)] [(nx, .cells [.vec (nx + 1), .int .i64 0, .arrc (.int .i64) zero64]), (nx + 1, .arr 25 cfgT ((l.take 0).map normC))] (.cell nx 0 25 cfgT (by simp only [hget, ↓reduceIte]; rfl) rfl rfl (.refl _)) (by simp) (by simp <;> omega) (by simp <;> omega) rfl ?_ ?_ ?_ ?_ hnm ?_ (by omega)
      · simp [frIn_cons, frIn_nil, fget_cons, fget_nil, SV.ren, SV.renL, rens]
        all_goals simp
      · (simp only [frLt_cons, frLt_nil, and_true, SV.lt, SV.ltL, true_and] <;> omega)
      · (simp only [List.mem_cons, List.not_mem_nil, or_false, forall_eq_or_imp, forall_eq]; simp [hget, rens, Tok.ren, SV.ren, SV.renL])
        all_goals simp [hset, hget]
      · (simp only [List.mem_cons, List.not_mem_nil, or_false, forall_eq_or_imp, forall_eq, Tok.lt, SV.lt, SV.ltL, and_true, true_and] <;> omega)
      · simp only [hset, ↓reduceIte]
        ((try simp only []); repeat first | exact HLe.refl _ | refine HLe.cons (by simp only [hget, Nat.reduceEqDiff, Nat.left_eq_add, Nat.add_eq_left, nm_ne2, nm_en2, nm_ne3, nm_en3, nm_ne4, nm_en4, nm_ne5, nm_en5, reduceIte, ↓reduceIte] <;> first | rfl | ((repeat rw [if_neg (by omega)]) <;> rfl)) ?_ | refine HLe.skip hnm (by omega) ?_ | refine HLe.frz hnm (by omega) ?_ | refine HLe.del hnm (by omega) ?_)
    · obtain ⟨i, hi, hgi⟩ := i
      simp only at hB
      by_cases hil : i < l.length
      · have c3 : decide ((i : Int) < (l.length : Int)) = true := decide_eq_true (by omega)
        obtain ⟨x, hx⟩ : ∃ x, l.getD i .nil = x := ⟨_, rfl⟩
        rcases bool_ft (validC (x.fld 0).i (x.fld 1).l (x.fld 2).l).isNil with hv | hv
        · have hb : newBad l i = validC (x.fld 0).i (x.fld 1).l (x.fld 2).l := by unfold newBad; rw [hx, if_pos hv]
          simp (maxSteps := 4000000) only [walkSet, eq_self, implies_true, evMdl, evMupD, evMup, evLkp, Int.reduceEq, Int.reduceBEq, Int.reduceBNe, Int.reduceLE, Int.reduceLT, Int.reduceAdd, Int.reduceSub, Int.reduceMul, Int.reduceNeg, frpL, preF, preP, prePt, prePd, frzP, evNlq, ev, frOf, oget, ogets, argSs, argS, evMm, frzL, evBin, evWrp, evShf, evCmp, evUna, evNil, evBeq, evLd, evSt, evFad, evIad, evAad, evLen, evSln, evEls, evApp, evParts, evSlc, evNlc, evMif, evPck, evFld, evBld, evTas, evIfq, evSeq, evSl0, evBxf, evAgl, evAgq, evBsf, hget, hset, hdel, cellAt, arrAt, setCellAt, setArrAt, takeC, lenC, svCells, SV.okc, SV.one, ldSV, Fw.isAgg, Nat.reduceMul, Nat.reduceSub, Nat.reduceLeDiff, Nat.reduceLT, explode, explodeL, toD, toDL, toD1, Ty.size, Ty.sizeL, frz1, Fr.sub, Heap.sub, Tok.sub, SV.sub, SV.subL, Nat.reduceEqDiff, Nat.reduceAdd, reduceCtorEq, ↓reduceIte, reduceIte, c3, hx, spCValid, hv, Int.toNat_natCast, min_i64, max_i64]
          repeat refine ⟨by omega, ?_⟩
          exact retN _ _ _ (by have := hbad i hil hgi (by rw [hb]; exact hv); rw [hb] at this; exact this) (by ((try simp only []); repeat first | exact HLe.refl _ | refine HLe.cons (by simp only [hget, Nat.reduceEqDiff, Nat.left_eq_add, Nat.add_eq_left, nm_ne2, nm_en2, nm_ne3, nm_en3, nm_ne4, nm_en4, nm_ne5, nm_en5, reduceIte, ↓reduceIte] <;> first | rfl | ((repeat rw [if_neg (by omega)]) <;> rfl)) ?_ | refine HLe.skip hnm (by omega) ?_ | refine HLe.frz hnm (by omega) ?_ | refine HLe.del hnm (by omega) ?_))
        · have hb : newBad l i = if 0 < (x.fld 2).l.length then .err 0 else if otherB ((l.take i).map normC) i (memL x) = true then .err 2 else .nil := by unfold newBad; rw [hx, if_neg (by rw [hv]; decide)]
          by_cases hy : 0 < (x.fld 2).l.length
          · have c4 : decide (0 < ((x.fld 2).l.length : Int)) = true := decide_eq_true (by omega)
            rw [if_pos hy] at hb
            simp (maxSteps := 4000000) only [walkSet, eq_self, implies_true, evMdl, evMupD, evMup, evLkp, Int.reduceEq, Int.reduceBEq, Int.reduceBNe, Int.reduceLE, Int.reduceLT, Int.reduceAdd, Int.reduceSub, Int.reduceMul, Int.reduceNeg, frpL, preF, preP, prePt, prePd, frzP, evNlq, ev, frOf, oget, ogets, argSs, argS, evMm, frzL, evBin, evWrp, evShf, evCmp, evUna, evNil, evBeq, evLd, evSt, evFad, evIad, evAad, evLen, evSln, evEls, evApp, evParts, evSlc, evNlc, evMif, evPck, evFld, evBld, evTas, evIfq, evSeq, evSl0, evBxf, evAgl, evAgq, evBsf, hget, hset, hdel, cellAt, arrAt, setCellAt, setArrAt, takeC, lenC, svCells, SV.okc, SV.one, ldSV, Fw.isAgg, Nat.reduceMul, Nat.reduceSub, Nat.reduceLeDiff, Nat.reduceLT, explode, explodeL, toD, toDL, toD1, Ty.size, Ty.sizeL, frz1, Fr.sub, Heap.sub, Tok.sub, SV.sub, SV.subL, Nat.reduceEqDiff, Nat.reduceAdd, reduceCtorEq, ↓reduceIte, reduceIte, c3, hx, spCValid, hv, c4, Int.toNat_natCast, min_i64, max_i64]
            repeat refine ⟨by omega, ?_⟩
            exact retN _ _ _ (by have := hbad i hil hgi (by rw [hb]; rfl); rw [hb] at this; exact this) (by ((try simp only []); repeat first | exact HLe.refl _ | refine HLe.cons (by simp only [hget, Nat.reduceEqDiff, Nat.left_eq_add, Nat.add_eq_left, nm_ne2, nm_en2, nm_ne3, nm_en3, nm_ne4, nm_en4, nm_ne5, nm_en5, reduceIte, ↓reduceIte] <;> first | rfl | ((repeat rw [if_neg (by omega)]) <;> rfl)) ?_ | refine HLe.skip hnm (by omega) ?_ | refine HLe.frz hnm (by omega) ?_ | refine HLe.del hnm (by omega) ?_))
          have c4 : decide (0 < ((x.fld 2).l.length : Int)) = false := decide_eq_false (by omega)
          rw [if_neg hy] at hb
          obtain ⟨b0, b1, s0, s1, e0, e1⟩ := valid_good hv
          obtain ⟨l6, g6⟩ := six_good b0 s0
          have o3 : (x.fld 1).l.length ≤ 1000 := by omega
          have n3 : (x.fld 2).l.length ≤ 1000 := by omega
          have o9 : (x.fld 1).l.length ≤ 1000000000 := by omega
          have n9 : (x.fld 2).l.length ≤ 1000000000 := by omega
          have hreg : regsOk ((l.take i).map normC) := by
            refine ⟨by rw [List.length_map, List.length_take]; omega, fun y hy => ?_⟩
            obtain ⟨z, hz, rfl⟩ := List.mem_map.1 hy
            obtain ⟨j, hj, rfl⟩ := List.mem_iff_getElem.1 hz
            rw [List.length_take] at hj
            have h9 := hgi j (by omega)
            have e9 : l.getD j .nil = (l.take i)[j]'(by rw [List.length_take]; exact hj) := by
              rw [List.getElem_take, List.getD_eq_getElem?_getD, List.getElem?_eq_getElem (by omega)]; rfl
            unfold newBad at h9
            rw [e9] at h9
            generalize (l.take i)[j]'(by rw [List.length_take]; exact hj) = z at h9
            split at h9
            · rename_i h8; rw [h8] at h9; cases h9
            · rename_i h8
              have h8' : (validC (z.fld 0).i (z.fld 1).l (z.fld 2).l).isNil = true := by simpa using h8
              obtain ⟨b0, b1, s0, s1, e0, e1⟩ := valid_good h8'
              obtain ⟨l6, g6⟩ := six_good b0 s0
              split at h9
              · cases h9
              · exact ⟨show (z.fld 1).l.length ≤ 1000 by omega, show (z.fld 2).l.length ≤ 1000 by omega, e0, e1⟩
          have hmm : joinL (x.fld 1).l (x.fld 2).l = memL x := rfl
          rcases bool_ft (otherB ((l.take i).map normC) i (memL x)) with ho | ho
          · rw [if_neg (by rw [ho]; decide)] at hb
            simp (maxSteps := 4000000) only [go_rgb, den_bth, not_false_eq_true, not_true_eq_false, goD_callp, callDp_clo, kDp_app, evMdl, evMupD, evMup, evLkp, fzSp_app, fzGo_app, slotsOf_nil, slotsOf_cons, Int.reduceEq, bq_tt, bq_tf, bq_ft, bq_ff, Bool.true_and, Bool.false_and, Bool.and_true, Bool.and_false, Bool.true_or, Bool.false_or, Bool.or_true, Bool.or_false, beq_self_eq_true, bne_self_eq_false, Int.reduceBEq, Int.reduceBNe, Int.reduceLE, Int.reduceLT, Int.reduceAdd, Int.reduceSub, Int.reduceMul, Int.reduceNeg, decide_true, decide_false, nm_ne2, nm_en2, nm_ne3, nm_en3, nm_ne4, nm_en4, nm_ne5, nm_en5, nm_ne6, nm_en6, nm_ne7, nm_en7, nm_ne8, nm_en8, nm_ne9, nm_en9, nm_ne10, nm_en10, D_i, D_b, D_s, D_l, D_tgt, nil_nil, nil_err, nil_ifc, nil_ptr, nil_node, D_fld0, D_fld1, D_fld2, D_fld3, D_fld4, D_fld5, D_fld6, D_fld7, D_fld8, D_fld9, D_fld10, D_fld11, D_fld12, D_fld13, D_fld14, D_fld15, frpL, go_frp, go_rgn, rgnK_def, goD_nil, goD_u, contD_some, goD_call, callD_clo, kD_app, goD_g, gD_T, gD_F, gD_U, gK_U, evI_true, evI_false, bareK_some, go_seq, go_ops, go_cond, go_block, go_skip, go_tr, trim_def, trim_nil, trim_cons, fget_nil, go_ret, go_exit, den_nil, den_seq, den_seq_ret, den_seq_ext, den_blk, den_blk_ret, den_blk_ext, den_lp, den_lp_ret, den_lp_ext, goO_nil, goO_u, noCall, contK_some, goO_slc, goO_mif, preF, preP, prePt, prePd, frzP, noSp, goO_nlq, nlqK_some, evNlq, goO_g, gK_T, gK_F, skipD_some, skipD_none, goO_call, goO_callf, frzK_def, callK_clo, kO_app, condK_ite, iteT, iteF, put_def, sput_def, ev, frOf, fget_cons, oget, ogets, argSs, argS, evMm, frzL, evBin, evWrp, evShf, evCmp, evUna, evNil, evBeq, evLd, evSt, evFad, evIad, evAad, evLen, evSln, evEls, evApp, evParts, evSlc, evNlc, evMif, evPck, evFld, evBld, evTas, evIfq, evSeq, evSl0, evBxf, evAgl, evAgq, evBsf, List.set_cons_zero, List.set_cons_succ, List.set_nil, List.flatten_cons, List.flatten_nil, List.getD_cons_zero, List.getD_cons_succ, List.contains_cons,  hget, hset, hdel, cellAt, arrAt, setCellAt, setArrAt, takeC, lenC, svCells, SV.okc, SV.one, ldSV, Fw.isAgg, Nat.reduceMul, Nat.reduceSub, Nat.reduceLeDiff, Nat.lt_irrefl, Nat.not_lt_zero, Nat.reduceLT, Nat.add_eq_left, Nat.left_eq_add, List.nil_append, List.length_cons, List.length_nil, List.append_nil, List.cons_append, Nat.zero_lt_one, Bool.false_eq_true, Bool.not_true, Bool.not_false, eq_self, Option.map_some, Option.map_none, true_imp_iff, false_imp_iff, implies_true, Bool.true_eq_false, explode, explodeL, toD, toDL, toD1, Ty.size, Ty.sizeL, frz1, Fr.sub, Heap.sub, Tok.sub, SV.sub, SV.subL, add_def, Nat.reduceEqDiff, Nat.reduceAdd, Nat.zero_add, reduceCtorEq, ↓reduceIte, and_self, and_true, true_and, reduceIte, List.getElem?_cons_zero, List.getElem?_cons_succ, c3, hx, spCValid, hv, c4, spROther, gOk_c, gM_c, cOk_c, cL_c, hreg, o3, n3, hmm, ho, Int.toNat_natCast, min_i64, max_i64]
            refine ⟨by omega, ?_⟩
            rw [goD_calls]
            refine ⟨cfgA (x.fld 0).i (x.fld 1).l (x.fld 2).l, fun nx' => ⟨rfl, rfl, o9, n9, rfl, rfl⟩, ⟨trivial, trivial, trivial, trivial⟩, ?_⟩
            simp (maxSteps := 4000000) only [walkSet, eq_self, implies_true, evMdl, evMupD, evMup, evLkp, Int.reduceEq, Int.reduceBEq, Int.reduceBNe, Int.reduceLE, Int.reduceLT, Int.reduceAdd, Int.reduceSub, Int.reduceMul, Int.reduceNeg, frpL, preF, preP, prePt, prePd, frzP, evNlq, ev, frOf, oget, ogets, argSs, argS, evMm, frzL, evBin, evWrp, evShf, evCmp, evUna, evNil, evBeq, evLd, evSt, evFad, evIad, evAad, evLen, evSln, evEls, evApp, evParts, evSlc, evNlc, evMif, evPck, evFld, evBld, evTas, evIfq, evSeq, evSl0, evBxf, evAgl, evAgq, evBsf, hget, hset, hdel, cellAt, arrAt, setCellAt, setArrAt, takeC, lenC, svCells, SV.okc, SV.one, ldSV, Fw.isAgg, Nat.reduceMul, Nat.reduceSub, Nat.reduceLeDiff, Nat.reduceLT, explode, explodeL, toD, toDL, toD1, Ty.size, Ty.sizeL, frz1, Fr.sub, Heap.sub, Tok.sub, SV.sub, SV.subL, Nat.reduceEqDiff, Nat.reduceAdd, reduceCtorEq, ↓reduceIte, reduceIte, cfgA, hx, Int.toNat_natCast, min_i64, max_i64]
            have hs : (l.take i).map normC ++ [D.node [D.int (x.fld 0).i, D.list (x.fld 1).l, D.list (x.fld 2).l]] = (l.take (i + 1)).map normC := by
              rw [List.take_add_one, List.map_append, List.getElem?_eq_getElem hil]
              rw [List.getD_eq_getElem?_getD, List.getElem?_eq_getElem hil] at hx
              simp only [Option.getD_some] at hx
              rw [hx]
              rfl
            have hll : ((l.take i).map normC).length ≤ 4 := by rw [List.length_map, List.length_take]; omega
            rw [hs]
            refine ⟨by omega, ⟨by omega, by omega⟩, ?_⟩
            refine hB _ ⟨i + 1, by omega, fun j hj => by
              by_cases e : j = i
              · rw [e, hb]; rfl
              · exact hgi j (by omega)⟩ (by simp only []; omega) ?_
            refine leq_news [(nx, nx), (nx + 1, nx + 2 + 1 + 64 + 64 + 1)] [(nx, .cells [.vec (nx + 1), .int .i64 0, .arrc (.int .i64) zero64]), (nx + 1, .arr 25 cfgT ((l.take (i + 1)).map normC))] (.refl _) (by simp) (by simp <;> omega) (by simp <;> omega) rfl ?_ ?_ ?_ ?_ hnm ?_ (by omega)
            · simp [frIn_cons, frIn_nil, fget_cons, fget_nil, SV.ren, SV.renL, rens]
              all_goals try simp
            · (simp only [frLt_cons, frLt_nil, and_true, SV.lt, SV.ltL, true_and] <;> omega)
            · (simp only [List.mem_cons, List.not_mem_nil, or_false, forall_eq_or_imp, forall_eq]; simp [hget, rens, Tok.ren, SV.ren, SV.renL])
              rw [if_neg (by omega), if_neg (by omega)]
            · (simp only [List.mem_cons, List.not_mem_nil, or_false, forall_eq_or_imp, forall_eq, Tok.lt, SV.lt, SV.ltL, and_true, true_and] <;> omega)
            · ((try simp only []); repeat first | exact HLe.refl _ | refine HLe.cons (by simp only [hget, Nat.reduceEqDiff, Nat.left_eq_add, Nat.add_eq_left, nm_ne2, nm_en2, nm_ne3, nm_en3, nm_ne4, nm_en4, nm_ne5, nm_en5, reduceIte, ↓reduceIte] <;> first | rfl | ((repeat rw [if_neg (by omega)]) <;> rfl)) ?_ | refine HLe.skip hnm (by omega) ?_ | refine HLe.frz hnm (by omega) ?_ | refine HLe.del hnm (by omega) ?_)
          · rw [if_pos ho] at hb
            simp (maxSteps := 4000000) only [walkSet, eq_self, implies_true, evMdl, evMupD, evMup, evLkp, Int.reduceEq, Int.reduceBEq, Int.reduceBNe, Int.reduceLE, Int.reduceLT, Int.reduceAdd, Int.reduceSub, Int.reduceMul, Int.reduceNeg, frpL, preF, preP, prePt, prePd, frzP, evNlq, ev, frOf, oget, ogets, argSs, argS, evMm, frzL, evBin, evWrp, evShf, evCmp, evUna, evNil, evBeq, evLd, evSt, evFad, evIad, evAad, evLen, evSln, evEls, evApp, evParts, evSlc, evNlc, evMif, evPck, evFld, evBld, evTas, evIfq, evSeq, evSl0, evBxf, evAgl, evAgq, evBsf, hget, hset, hdel, cellAt, arrAt, setCellAt, setArrAt, takeC, lenC, svCells, SV.okc, SV.one, ldSV, Fw.isAgg, Nat.reduceMul, Nat.reduceSub, Nat.reduceLeDiff, Nat.reduceLT, explode, explodeL, toD, toDL, toD1, Ty.size, Ty.sizeL, frz1, Fr.sub, Heap.sub, Tok.sub, SV.sub, SV.subL, Nat.reduceEqDiff, Nat.reduceAdd, reduceCtorEq, ↓reduceIte, reduceIte, c3, hx, spCValid, hv, c4, spROther, gOk_c, gM_c, cOk_c, cL_c, hreg, o3, n3, hmm, ho, Int.toNat_natCast, min_i64, max_i64]
            repeat refine ⟨by omega, ?_⟩
            exact retN _ _ _ (by have := hbad i hil hgi (by rw [hb]; rfl); rw [hb] at this; exact this) (by ((try simp only []); repeat first | exact HLe.refl _ | refine HLe.cons (by simp only [hget, Nat.reduceEqDiff, Nat.left_eq_add, Nat.add_eq_left, nm_ne2, nm_en2, nm_ne3, nm_en3, nm_ne4, nm_en4, nm_ne5, nm_en5, reduceIte, ↓reduceIte] <;> first | rfl | ((repeat rw [if_neg (by omega)]) <;> rfl)) ?_ | refine HLe.skip hnm (by omega) ?_ | refine HLe.frz hnm (by omega) ?_ | refine HLe.del hnm (by omega) ?_))
      · obtain rfl : i = l.length := by omega
        have c3 : decide ((l.length : Int) < (l.length : Int)) = false := decide_eq_false (by omega)
        rw [List.take_of_length_le (Nat.le_refl _)]
        simp (maxSteps := 4000000) only [walkSet, eq_self, implies_true, evMdl, evMupD, evMup, evLkp, Int.reduceEq, Int.reduceBEq, Int.reduceBNe, Int.reduceLE, Int.reduceLT, Int.reduceAdd, Int.reduceSub, Int.reduceMul, Int.reduceNeg, frpL, preF, preP, prePt, prePd, frzP, evNlq, ev, frOf, oget, ogets, argSs, argS, evMm, frzL, evBin, evWrp, evShf, evCmp, evUna, evNil, evBeq, evLd, evSt, evFad, evIad, evAad, evLen, evSln, evEls, evApp, evParts, evSlc, evNlc, evMif, evPck, evFld, evBld, evTas, evIfq, evSeq, evSl0, evBxf, evAgl, evAgq, evBsf, hget, hset, hdel, cellAt, arrAt, setCellAt, setArrAt, takeC, lenC, svCells, SV.okc, SV.one, ldSV, Fw.isAgg, Nat.reduceMul, Nat.reduceSub, Nat.reduceLeDiff, Nat.reduceLT, explode, explodeL, toD, toDL, toD1, Ty.size, Ty.sizeL, frz1, Fr.sub, Heap.sub, Tok.sub, SV.sub, SV.subL, Nat.reduceEqDiff, Nat.reduceAdd, reduceCtorEq, ↓reduceIte, reduceIte, c3]
        refine (hQ _ (fin_new (p := True ∧ True ∧ True) (xs := [.ptr nx 0, .dat .iface .nil]) rfl ⟨trivial, trivial, trivial⟩ (.refl _) [(nx, nx), (nx + 1, nx + 1)] (.tup [.ptr nx 0, .dat .iface .nil]) [(nx, .cells [.vec (nx + 1), .int .i64 0, .arrc (.int .i64) zero64]), (nx + 1, .arr 25 cfgT (l.map normC))] (by simp) (by simp <;> omega) (by simp <;> omega) ?_ ?_ rfl ?_ ?_ hnm ?_ (hgood hgi))).1
        · simp only [mkR, walkSet, eq_self, implies_true, evMdl, evMupD, evMup, evLkp, Int.reduceEq, Int.reduceBEq, Int.reduceBNe, Int.reduceLE, Int.reduceLT, Int.reduceAdd, Int.reduceSub, Int.reduceMul, Int.reduceNeg, frpL, preF, preP, prePt, prePd, frzP, evNlq, ev, frOf, oget, ogets, argSs, argS, evMm, frzL, evBin, evWrp, evShf, evCmp, evUna, evNil, evBeq, evLd, evSt, evFad, evIad, evAad, evLen, evSln, evEls, evApp, evParts, evSlc, evNlc, evMif, evPck, evFld, evBld, evTas, evIfq, evSeq, evSl0, evBxf, evAgl, evAgq, evBsf, hget, hset, hdel, cellAt, arrAt, setCellAt, setArrAt, takeC, lenC, svCells, SV.okc, SV.one, ldSV, Fw.isAgg, Nat.reduceMul, Nat.reduceSub, Nat.reduceLeDiff, Nat.reduceLT, explode, explodeL, toD, toDL, toD1, Ty.size, Ty.sizeL, frz1, Fr.sub, Heap.sub, Tok.sub, SV.sub, SV.subL, Nat.reduceEqDiff, Nat.reduceAdd, reduceCtorEq, ↓reduceIte, reduceIte, SV.ren, SV.renL, rens]
        · exact ⟨show nx < nx + 64 by omega, trivial, trivial⟩
        · simp only [List.mem_cons, List.mem_singleton, List.not_mem_nil, or_false, forall_eq_or_imp, forall_eq, Tok.lt, SV.ltL, SV.lt, and_true, true_and]; omega
        · simp only [mkR, walkSet, eq_self, implies_true, evMdl, evMupD, evMup, evLkp, Int.reduceEq, Int.reduceBEq, Int.reduceBNe, Int.reduceLE, Int.reduceLT, Int.reduceAdd, Int.reduceSub, Int.reduceMul, Int.reduceNeg, frpL, preF, preP, prePt, prePd, frzP, evNlq, ev, frOf, oget, ogets, argSs, argS, evMm, frzL, evBin, evWrp, evShf, evCmp, evUna, evNil, evBeq, evLd, evSt, evFad, evIad, evAad, evLen, evSln, evEls, evApp, evParts, evSlc, evNlc, evMif, evPck, evFld, evBld, evTas, evIfq, evSeq, evSl0, evBxf, evAgl, evAgq, evBsf, hget, hset, hdel, cellAt, arrAt, setCellAt, setArrAt, takeC, lenC, svCells, SV.okc, SV.one, ldSV, Fw.isAgg, Nat.reduceMul, Nat.reduceSub, Nat.reduceLeDiff, Nat.reduceLT, explode, explodeL, toD, toDL, toD1, Ty.size, Ty.sizeL, frz1, Fr.sub, Heap.sub, Tok.sub, SV.sub, SV.subL, Nat.reduceEqDiff, Nat.reduceAdd, reduceCtorEq, ↓reduceIte, reduceIte, rens, List.mem_cons, List.mem_singleton, List.not_mem_nil, or_false, forall_eq_or_imp, forall_eq, Tok.ren, SV.ren, SV.renL]
        · simp only [mkR, walkSet, eq_self, implies_true, evMdl, evMupD, evMup, evLkp, Int.reduceEq, Int.reduceBEq, Int.reduceBNe, Int.reduceLE, Int.reduceLT, Int.reduceAdd, Int.reduceSub, Int.reduceMul, Int.reduceNeg, frpL, preF, preP, prePt, prePd, frzP, evNlq, ev, frOf, oget, ogets, argSs, argS, evMm, frzL, evBin, evWrp, evShf, evCmp, evUna, evNil, evBeq, evLd, evSt, evFad, evIad, evAad, evLen, evSln, evEls, evApp, evParts, evSlc, evNlc, evMif, evPck, evFld, evBld, evTas, evIfq, evSeq, evSl0, evBxf, evAgl, evAgq, evBsf, hget, hset, hdel, cellAt, arrAt, setCellAt, setArrAt, takeC, lenC, svCells, SV.okc, SV.one, ldSV, Fw.isAgg, Nat.reduceMul, Nat.reduceSub, Nat.reduceLeDiff, Nat.reduceLT, explode, explodeL, toD, toDL, toD1, Ty.size, Ty.sizeL, frz1, Fr.sub, Heap.sub, Tok.sub, SV.sub, SV.subL, Nat.reduceEqDiff, Nat.reduceAdd, reduceCtorEq, ↓reduceIte, reduceIte] <;> ((try simp only []); repeat first | exact HLe.refl _ | refine HLe.cons (by simp only [hget, Nat.reduceEqDiff, Nat.left_eq_add, Nat.add_eq_left, nm_ne2, nm_en2, nm_ne3, nm_en3, nm_ne4, nm_en4, nm_ne5, nm_en5, reduceIte, ↓reduceIte] <;> first | rfl | ((repeat rw [if_neg (by omega)]) <;> rfl)) ?_ | refine HLe.skip hnm (by omega) ?_ | refine HLe.frz hnm (by omega) ?_ | refine HLe.del hnm (by omega) ?_)
  · exact hsp.elim
end Go.Proofs.YtkojpimkngmckaaDoor
