/- Chapter 6: both, And, Or. -/
import Derived.Test.YtkmilijehekdoaaDoorQuorB
namespace Go.Proofs.YtkmilijehekdoaaDoor
set_option linter.unusedVariables false
set_option linter.unusedSimpArgs false
open Go Go.Fw
attribute [local go_sem] walkSet evMdl evMupD evMup evLkp frpL eltP eltV eltK preF preP prePt prePd frzP evNlq ev frOf oget ogets argSs argS evMm frzL evBin evWrp evShf evCmp evUna evNil evBeq evLd evSt evFad evIad evAad evLen evSln evEls evApp evParts evSlc evNlc evMif evPck evFld evBld evTas evIfq evSeq evSl0 evBxf evAgl evAgq evBsf hget hset hdel cellAt arrAt setCellAt setArrAt takeC lenC svCells SV.okc SV.one ldSV Fw.isAgg explode explodeL toD toDL toD1 Ty.size Ty.sizeL frz1 Fr.sub Heap.sub Tok.sub SV.sub SV.subL

def joinL (a b : List D) : List D := compL (sortL (a ++ b))
theorem joinL_len (a b : List D) : (joinL a b).length ≤ a.length + b.length := by
  have h := compL_len (sortL (a ++ b))
  unfold joinL
  rw [sortL_len, List.length_append] at h
  exact h
def WQBoth : Opts := mkWF 44 [] [] [15, 17] 152 [] [36] [] [] [] [36]
def icQBoth : IC := (.seq (.seq (.ops [(.u (.box 4 0 (.s 1))), (.u (.box 5 0 (.s 2))), (.u (.alc 6 [(.dat (.ptr 65) .nil), .nils, (.int .i64 0)]))]) (.tr [0, 4, 5, 6])) (.seq (.seq (.ops [(.u (.fad 8 1 1 (.slice 3) 27 (.s 4))), (.u (.ld 9 (.slice 3) (.s 8))), (.u (.fad 10 1 1 (.slice 3) 27 (.s 5))), (.u (.ld 11 (.slice 3) (.s 10))), (.u (.bsl 12 24 (.slice 3) [(.s 9), (.s 11)])), (.u (.call 13 (.c (.clo 55 [])) [(.s 12)] [(some 24)] true)), (.u (.mov 7 (.s 13)))]) (.tr [7, 0, 4, 5, 6])) (.seq (.seq (.ops [(.u (.mov 14 (.s 7))), (.u (.call 15 (.c (.clo 49 [])) [(.s 14)] [(some 3)] false))]) (.tr [7, 0, 4, 5, 6])) (.seq (.seq (.ops [(.u (.mov 16 (.s 7))), (.u (.call 17 (.c (.clo 56 [])) [(.s 16)] [(some 3)] false)), (.u (.mov 7 (.s 17)))]) (.tr [0, 7, 4, 5, 6])) (.seq (.seq (.seq (.ops [(.u (.mov 18 (.s 7))), (.u (.len 19 false (.s 18))), (.u (.cmp 20 .gtr (.s 19) (.c (.int .i64 16)))), (.u (.mov 21 (.s 20))), (.g 21 false (some 22) (.fad 22 2 2 (.int .i64) 27 (.s 4))), (.g 21 false (some 23) (.ld 23 (.int .i64) (.s 22))), (.g 21 false (some 24) (.fad 24 2 2 (.int .i64) 27 (.s 5))), (.g 21 false (some 25) (.ld 25 (.int .i64) (.s 24))), (.g 21 false (some 26) (.bin 26 .add .i64 (.s 23) (.s 25))), (.g 21 false (some 27) (.cmp 27 .gtr (.s 26) (.c (.int .i64 16)))), (.u (.pck 28 (.s 21) (.c (.bool true)) (.s 27)))]) (.tr [28, 0, 7, 4, 5, 6])) (.cond (.s 28) (.seq (.seq (.ops [(.u (.bld 29 [[(.dat (.ptr 65) .nil)], [.nils], [(.int .i64 0)]] [])), (.u (.st (.strct [(.ptr 65), (.slice 3), (.int .i64)]) (.s 6) (.s 29)))]) (.tr [6])) .ret) .skip)) (.seq (.seq (.ops [(.u (.mov 30 (.s 0))), (.u (.fad 31 0 0 (.ptr 65) 27 (.s 4))), (.u (.ld 32 (.ptr 65) (.s 31))), (.u (.fad 33 0 0 (.ptr 65) 27 (.s 5))), (.u (.ld 34 (.ptr 65) (.s 33))), (.u (.bld 35 [[(.int .i64 0)], [(.int .i64 0)], [.nils], [(.dat (.ptr 65) .nil)], [(.dat (.ptr 65) .nil)]] [(0, (.s 30)), (3, (.s 32)), (4, (.s 34))])), (.u (.bxf 36 (.strct [(.int .i64), (.int .i64), (.slice 3), (.ptr 65), (.ptr 65)]) (some 65) (.s 35))), (.u (.mov 37 (.s 7))), (.u (.fad 38 2 2 (.int .i64) 27 (.s 4))), (.u (.ld 39 (.int .i64) (.s 38))), (.u (.fad 40 2 2 (.int .i64) 27 (.s 5))), (.u (.ld 41 (.int .i64) (.s 40))), (.u (.bin 42 .add .i64 (.s 39) (.s 41))), (.u (.bld 43 [[(.dat (.ptr 65) .nil)], [.nils], [(.int .i64 0)]] [(0, (.s 36)), (1, (.s 37)), (2, (.s 42))])), (.u (.st (.strct [(.ptr 65), (.slice 3), (.int .i64)]) (.s 6) (.s 43)))]) (.tr [6])) .ret))))))
def rsQBoth : List RV := [(.c 6 (.strct [(.ptr 65), (.slice 3), (.int .i64)]))]
theorem irQBoth : fnIR Tryd.prog WQBoth 43 = some (icQBoth, rsQBoth) := by kernel_rfl
def bothR (kind : Int) (pa pb : D) (la lb : List D) (na nb : Int) : SV := if 16 < (joinL la lb).length ∨ 16 < na + nb then qNone else setOf (.ptr (.node [.int kind, .int 0, .list [], pa, pb])) (joinL la lb) (na + nb)
def spQBoth : FSpec := fun args h nx K => match args with
  | [.int .i64 kind, .agg [.dat (.ptr t) pa, .dat (.slice t1) la, .int .i64 na], .agg [.dat (.ptr t') pb, .dat (.slice t2) lb, .int .i64 nb]] => t = 65 ∧ t' = 65 ∧ t1 = 3 ∧ t2 = 3 ∧ la.l.length ≤ 1000 ∧ lb.l.length ≤ 1000 ∧ 0 ≤ na ∧ na ≤ 1000 ∧ 0 ≤ nb ∧ nb ≤ 1000 ∧ K (bothR kind pa pb la.l lb.l na nb) h
  | _ => False
set_option maxHeartbeats 4000000 in
set_option maxRecDepth 8000 in
theorem vQBoth {E : Nat → Value} (hE : Errs2 Tryd.prog (some 152) E) : Valid Tryd.prog E (gs []) 43 spQBoth := by
  refine valid_go (W := WQBoth) hE (((allValid_bot.add (up (vConcat hE))).add (up (vSort hE))).add (up (vCompact hE))) irQBoth (by decide) (fun args h nx K hsp hok hnm => ?_)
  unfold spQBoth at hsp
  split at hsp
  · rename_i kind t pa t1 la na t' pb t2 lb nb
    obtain ⟨rfl, rfl, rfl, rfl, ha, hb, a1, a2, b1, b2, hK⟩ := hsp
    refine ⟨by simp [WQBoth, mkW, mkWE, mkWF], fun Q hQ => ?_⟩
    obtain ⟨_, ⟨_, hla, _, _⟩, ⟨_, hlb, _, _⟩, _⟩ := hok
    simp only [SV.ok] at hla hlb
    obtain ⟨hla1, hla2, hla3⟩ := Wt.slice hla; generalize la.l = xs at *; subst hla1
    obtain ⟨hlb1, hlb2, hlb3⟩ := Wt.slice hlb; generalize lb.l = ys at *; subst hlb1
    have hml : maxLen ≤ 9223372036854775807 := by decide
    have ec : catL [D.list xs, D.list ys] = xs ++ ys := by simp [catL, D.l]
    have hj := joinL_len xs ys
    have hsl : (sortL (xs ++ ys)).length = xs.length + ys.length := by rw [sortL_len, List.length_append]
    have hxy : (xs ++ ys).length = xs.length + ys.length := List.length_append
    simp (maxSteps := 4000000) only [icQBoth, go_sem, goD_calls, eq_self, implies_true, Int.reduceEq, Int.reduceBEq, Int.reduceBNe, Int.reduceLE, Int.reduceLT, Int.reduceAdd, Int.reduceSub, Int.reduceMul, Int.reduceNeg, Nat.reduceMul, Nat.reduceSub, Nat.reduceLeDiff, Nat.reduceLT, Nat.reduceEqDiff, Nat.reduceAdd, reduceCtorEq, ↓reduceIte, reduceIte, spConcat, spSort, spCompact, ec, nOk_c, nL_c, hsl, hxy]
    have ej : compL (sortL (xs ++ ys)) = joinL xs ys := rfl
    have rl : rens [(nx, nx + 1 + 1 + 1 + 1 + 64 + 64)] = ren1 nx (nx + 1 + 1 + 1 + 1 + 64 + 64) := rfl
    simp only [ej]
    generalize hJ : joinL xs ys = J at *
    have retN : ∀ h', 16 < J.length ∨ 16 < na + nb → HLe h h' → hget h' (nx + 1 + 1) = some (.cells [.dat (.ptr 65) .nil, .nils, .int .i64 0]) → Q Ex.ret ⟨[(6, .ptr (nx + 1 + 1) 0)], h', nx + 1 + 1 + 1 + 1 + 64 + 64 + 64⟩ := fun h' hK' hh hg => by
      refine (hQ _ ?_).1
      refine fin_same (p := True) (xs := [qNone]) ?_ trivial (fun π => rfl) ?_ hnm hh (by unfold bothR at hK; rw [hJ, if_pos hK'] at hK; exact hK)
      · simp only [rsQBoth, evRs, evR, go_sem, goD_calls, eq_self, implies_true, Int.reduceEq, Int.reduceBEq, Int.reduceBNe, Int.reduceLE, Int.reduceLT, Int.reduceAdd, Int.reduceSub, Int.reduceMul, Int.reduceNeg, Nat.reduceMul, Nat.reduceSub, Nat.reduceLeDiff, Nat.reduceLT, Nat.reduceEqDiff, Nat.reduceAdd, reduceCtorEq, ↓reduceIte, reduceIte, hg, qNone]
      · exact ⟨trivial, trivial, trivial, trivial⟩
    refine ⟨by omega, by omega, by omega, fun g1 => ⟨⟨by rw [min_i64]; omega, by rw [max_i64]; omega⟩, fun g2 => retN _ (.inr (of_decide_eq_true g2)) (by ((try simp only []); repeat first | exact HLe.refl _ | refine HLe.cons (by simp only [hget, Nat.reduceEqDiff, Nat.left_eq_add, Nat.add_eq_left, nm_ne2, nm_en2, nm_ne3, nm_en3, nm_ne4, nm_en4, nm_ne5, nm_en5, reduceIte, ↓reduceIte] <;> first | rfl | ((repeat rw [if_neg (by omega)]) <;> rfl)) ?_ | refine HLe.skip hnm (by omega) ?_ | refine HLe.frz hnm (by omega) ?_ | refine HLe.del hnm (by omega) ?_)) (by simp only [hget, go_sem, goD_calls, eq_self, implies_true, Int.reduceEq, Int.reduceBEq, Int.reduceBNe, Int.reduceLE, Int.reduceLT, Int.reduceAdd, Int.reduceSub, Int.reduceMul, Int.reduceNeg, Nat.reduceMul, Nat.reduceSub, Nat.reduceLeDiff, Nat.reduceLT, Nat.reduceEqDiff, Nat.reduceAdd, reduceCtorEq, ↓reduceIte, reduceIte]), fun g2 => ⟨⟨by rw [min_i64]; omega, by rw [max_i64]; omega⟩, ?_⟩⟩, fun g1 => retN _ (.inl (by have := of_decide_eq_true g1; omega)) (by ((try simp only []); repeat first | exact HLe.refl _ | refine HLe.cons (by simp only [hget, Nat.reduceEqDiff, Nat.left_eq_add, Nat.add_eq_left, nm_ne2, nm_en2, nm_ne3, nm_en3, nm_ne4, nm_en4, nm_ne5, nm_en5, reduceIte, ↓reduceIte] <;> first | rfl | ((repeat rw [if_neg (by omega)]) <;> rfl)) ?_ | refine HLe.skip hnm (by omega) ?_ | refine HLe.frz hnm (by omega) ?_ | refine HLe.del hnm (by omega) ?_)) (by simp only [hget, go_sem, goD_calls, eq_self, implies_true, Int.reduceEq, Int.reduceBEq, Int.reduceBNe, Int.reduceLE, Int.reduceLT, Int.reduceAdd, Int.reduceSub, Int.reduceMul, Int.reduceNeg, Nat.reduceMul, Nat.reduceSub, Nat.reduceLeDiff, Nat.reduceLT, Nat.reduceEqDiff, Nat.reduceAdd, reduceCtorEq, ↓reduceIte, reduceIte])⟩
    have g3 := of_decide_eq_false g1
    have g4 := of_decide_eq_false g2
    unfold bothR at hK
    rw [hJ, if_neg (by omega)] at hK
    refine (hQ _ ?_).1
    refine fin_new (p := True) (xs := [.agg [.dat (.ptr 65) (.ptr (.node [.int kind, .int 0, .list [], pa, pb])), .vec (nx + 1 + 1 + 1 + 1 + 64 + 64), .int .i64 (na + nb)]]) ?_ trivial (.frz (nx + 1 + 1 + 1 + 1 + 64 + 64) (.refl _)) [] (setOf (.ptr (.node [.int kind, .int 0, .list [], pa, pb])) J (na + nb)) [] (by simp) (by simp) (by simp) ?_ ?_ rfl (by simp) (by simp) hnm ?_ hK
    · simp only [rsQBoth, evRs, evR, go_sem, goD_calls, eq_self, implies_true, Int.reduceEq, Int.reduceBEq, Int.reduceBNe, Int.reduceLE, Int.reduceLT, Int.reduceAdd, Int.reduceSub, Int.reduceMul, Int.reduceNeg, Nat.reduceMul, Nat.reduceSub, Nat.reduceLeDiff, Nat.reduceLT, Nat.reduceEqDiff, Nat.reduceAdd, reduceCtorEq, ↓reduceIte, reduceIte]
    · simp only [mkR, go_sem, goD_calls, eq_self, implies_true, Int.reduceEq, Int.reduceBEq, Int.reduceBNe, Int.reduceLE, Int.reduceLT, Int.reduceAdd, Int.reduceSub, Int.reduceMul, Int.reduceNeg, Nat.reduceMul, Nat.reduceSub, Nat.reduceLeDiff, Nat.reduceLT, Nat.reduceEqDiff, Nat.reduceAdd, reduceCtorEq, ↓reduceIte, reduceIte, SV.ren, SV.renL, rens, setOf]
    · exact ⟨trivial, trivial, trivial, trivial⟩
    · simp only [mkR, go_sem, goD_calls, eq_self, implies_true, Int.reduceEq, Int.reduceBEq, Int.reduceBNe, Int.reduceLE, Int.reduceLT, Int.reduceAdd, Int.reduceSub, Int.reduceMul, Int.reduceNeg, Nat.reduceMul, Nat.reduceSub, Nat.reduceLeDiff, Nat.reduceLT, Nat.reduceEqDiff, Nat.reduceAdd, reduceCtorEq, ↓reduceIte, reduceIte] <;> ((try simp only []); repeat first | exact HLe.refl _ | refine HLe.cons (by simp only [hget, Nat.reduceEqDiff, Nat.left_eq_add, Nat.add_eq_left, nm_ne2, nm_en2, nm_ne3, nm_en3, nm_ne4, nm_en4, nm_ne5, nm_en5, reduceIte, ↓reduceIte] <;> first | rfl | ((repeat rw [if_neg (by omega)]) <;> rfl)) ?_ | refine HLe.skip hnm (by omega) ?_ | refine HLe.frz hnm (by omega) ?_ | refine HLe.del hnm (by omega) ?_)
  · exact hsp.elim

def WQAnd : Opts := mkWE 17 [] [] [] 152 [] []
def icQAnd : IC := (.seq (.seq (.ops [(.u (.box 2 0 (.s 0))), (.u (.box 3 0 (.s 1))), (.u (.alc 4 [(.dat (.ptr 65) .nil), .nils, (.int .i64 0)]))]) (.tr [2, 3, 4])) (.seq (.seq (.seq (.ops [(.u (.fad 5 0 0 (.ptr 65) 27 (.s 2))), (.u (.ld 6 (.ptr 65) (.s 5))), (.u (.eqb 7 false 1 (.s 6))), (.u (.mov 8 (.s 7))), (.g 8 false (some 9) (.fad 9 0 0 (.ptr 65) 27 (.s 3))), (.g 8 false (some 10) (.ld 10 (.ptr 65) (.s 9))), (.g 8 false (some 11) (.eqb 11 false 1 (.s 10))), (.u (.pck 12 (.s 8) (.c (.bool true)) (.s 11)))]) (.tr [12, 2, 3, 4])) (.cond (.s 12) (.seq (.seq (.ops [(.u (.bld 13 [[(.dat (.ptr 65) .nil)], [.nils], [(.int .i64 0)]] [])), (.u (.st (.strct [(.ptr 65), (.slice 3), (.int .i64)]) (.s 4) (.s 13)))]) (.tr [4])) .ret) .skip)) (.seq (.seq (.ops [(.u (.ld 14 (.strct [(.ptr 65), (.slice 3), (.int .i64)]) (.s 2))), (.u (.ld 15 (.strct [(.ptr 65), (.slice 3), (.int .i64)]) (.s 3))), (.u (.call 16 (.c (.clo 43 [])) [(.c (.int .i64 1)), (.s 14), (.s 15)] [none, none, none] true)), (.u (.st (.strct [(.ptr 65), (.slice 3), (.int .i64)]) (.s 4) (.s 16)))]) (.tr [4])) .ret)))
def rsQAnd : List RV := [(.c 4 (.strct [(.ptr 65), (.slice 3), (.int .i64)]))]
theorem irQAnd : fnIR Tryd.prog WQAnd 22 = some (icQAnd, rsQAnd) := by kernel_rfl
theorem bothR_shape (kind : Int) (pa pb : D) (la lb : List D) (na nb : Int) : ∃ p y n, bothR kind pa pb la lb na nb = .agg [.dat (.ptr 65) p, y, .int .i64 n] ∧ (y = .nils ∨ ∃ l, y = .dat (.slice 3) (.list l)) := by
  unfold bothR
  split
  · exact ⟨_, _, _, rfl, .inl rfl⟩
  · exact ⟨_, _, _, rfl, .inr ⟨_, rfl⟩⟩
/-- Of two sets; each is the zero value, or as in memory. -/
def spQAnd : FSpec := fun args h nx K => match args with
  | [.agg [.dat (.ptr t) pa, xa, .int .i64 na], .agg [.dat (.ptr t') pb, xb, .int .i64 nb]] => t = 65 ∧ t' = 65 ∧ ((pa.isNil = true ∧ K qNone h) ∨ (pb.isNil = true ∧ K qNone h) ∨ ∃ la lb, xa = .dat (.slice 3) la ∧ xb = .dat (.slice 3) lb ∧ pa.isNil = false ∧ pb.isNil = false ∧ la.l.length ≤ 1000 ∧ lb.l.length ≤ 1000 ∧ 0 ≤ na ∧ na ≤ 1000 ∧ 0 ≤ nb ∧ nb ≤ 1000 ∧ K (bothR 1 pa pb la.l lb.l na nb) h)
  | _ => False
set_option maxHeartbeats 4000000 in
set_option maxRecDepth 8000 in
theorem vQAnd {E : Nat → Value} (hE : Errs2 Tryd.prog (some 152) E) : Valid Tryd.prog E (gs []) 22 spQAnd := by
  refine valid_go (W := WQAnd) hE (allValid_bot.add (up (vQBoth hE))) irQAnd (by decide) (fun args h nx K hsp hok hnm => ?_)
  unfold spQAnd at hsp
  split at hsp
  · rename_i t pa xa na t' pb xb nb
    obtain ⟨rfl, rfl, hsp⟩ := hsp
    refine ⟨by simp [WQAnd, mkW, mkWE, mkWF], fun Q hQ => ?_⟩
    have retN : ∀ h' nx', K qNone h → HLe h h' → hget h' (nx + 1 + 1) = some (.cells [.dat (.ptr 65) .nil, .nils, .int .i64 0]) → Q Ex.ret ⟨[(4, .ptr (nx + 1 + 1) 0)], h', nx'⟩ := fun h' nx' hK' hh hg => by
      refine (hQ _ ?_).1
      refine fin_same (p := True) (xs := [qNone]) ?_ trivial (fun π => rfl) ?_ hnm hh hK'
      · simp only [rsQAnd, evRs, evR, go_sem, goD_calls, eq_self, implies_true, Int.reduceEq, Int.reduceBEq, Int.reduceBNe, Int.reduceLE, Int.reduceLT, Int.reduceAdd, Int.reduceSub, Int.reduceMul, Int.reduceNeg, Nat.reduceMul, Nat.reduceSub, Nat.reduceLeDiff, Nat.reduceLT, Nat.reduceEqDiff, Nat.reduceAdd, reduceCtorEq, ↓reduceIte, reduceIte, hg, qNone]
      · exact ⟨trivial, trivial, trivial, trivial⟩
    rcases hsp with ⟨hp, hK⟩ | ⟨hp, hK⟩ | ⟨la, lb, rfl, rfl, pa0, pb0, hla, hlb, a1, a2, b1, b2, hK⟩
    · simp (maxSteps := 4000000) only [icQAnd, go_sem, goD_calls, eq_self, implies_true, Int.reduceEq, Int.reduceBEq, Int.reduceBNe, Int.reduceLE, Int.reduceLT, Int.reduceAdd, Int.reduceSub, Int.reduceMul, Int.reduceNeg, Nat.reduceMul, Nat.reduceSub, Nat.reduceLeDiff, Nat.reduceLT, Nat.reduceEqDiff, Nat.reduceAdd, reduceCtorEq, ↓reduceIte, reduceIte, hp]
      exact retN _ _ hK (by ((try simp only []); repeat first | exact HLe.refl _ | refine HLe.cons (by simp only [hget, Nat.reduceEqDiff, Nat.left_eq_add, Nat.add_eq_left, nm_ne2, nm_en2, nm_ne3, nm_en3, nm_ne4, nm_en4, nm_ne5, nm_en5, reduceIte, ↓reduceIte] <;> first | rfl | ((repeat rw [if_neg (by omega)]) <;> rfl)) ?_ | refine HLe.skip hnm (by omega) ?_ | refine HLe.frz hnm (by omega) ?_ | refine HLe.del hnm (by omega) ?_)) (by simp only [hget, go_sem, goD_calls, eq_self, implies_true, Int.reduceEq, Int.reduceBEq, Int.reduceBNe, Int.reduceLE, Int.reduceLT, Int.reduceAdd, Int.reduceSub, Int.reduceMul, Int.reduceNeg, Nat.reduceMul, Nat.reduceSub, Nat.reduceLeDiff, Nat.reduceLT, Nat.reduceEqDiff, Nat.reduceAdd, reduceCtorEq, ↓reduceIte, reduceIte])
    · simp (maxSteps := 4000000) only [icQAnd, go_sem, goD_calls, eq_self, implies_true, Int.reduceEq, Int.reduceBEq, Int.reduceBNe, Int.reduceLE, Int.reduceLT, Int.reduceAdd, Int.reduceSub, Int.reduceMul, Int.reduceNeg, Nat.reduceMul, Nat.reduceSub, Nat.reduceLeDiff, Nat.reduceLT, Nat.reduceEqDiff, Nat.reduceAdd, reduceCtorEq, ↓reduceIte, reduceIte, hp]
      exact ⟨fun _ => retN _ _ hK (by ((try simp only []); repeat first | exact HLe.refl _ | refine HLe.cons (by simp only [hget, Nat.reduceEqDiff, Nat.left_eq_add, Nat.add_eq_left, nm_ne2, nm_en2, nm_ne3, nm_en3, nm_ne4, nm_en4, nm_ne5, nm_en5, reduceIte, ↓reduceIte] <;> first | rfl | ((repeat rw [if_neg (by omega)]) <;> rfl)) ?_ | refine HLe.skip hnm (by omega) ?_ | refine HLe.frz hnm (by omega) ?_ | refine HLe.del hnm (by omega) ?_)) (by simp only [hget, go_sem, goD_calls, eq_self, implies_true, Int.reduceEq, Int.reduceBEq, Int.reduceBNe, Int.reduceLE, Int.reduceLT, Int.reduceAdd, Int.reduceSub, Int.reduceMul, Int.reduceNeg, Nat.reduceMul, Nat.reduceSub, Nat.reduceLeDiff, Nat.reduceLT, Nat.reduceEqDiff, Nat.reduceAdd, reduceCtorEq, ↓reduceIte, reduceIte]), fun _ => retN _ _ hK (by ((try simp only []); repeat first | exact HLe.refl _ | refine HLe.cons (by simp only [hget, Nat.reduceEqDiff, Nat.left_eq_add, Nat.add_eq_left, nm_ne2, nm_en2, nm_ne3, nm_en3, nm_ne4, nm_en4, nm_ne5, nm_en5, reduceIte, ↓reduceIte] <;> first | rfl | ((repeat rw [if_neg (by omega)]) <;> rfl)) ?_ | refine HLe.skip hnm (by omega) ?_ | refine HLe.frz hnm (by omega) ?_ | refine HLe.del hnm (by omega) ?_)) (by simp only [hget, go_sem, goD_calls, eq_self, implies_true, Int.reduceEq, Int.reduceBEq, Int.reduceBNe, Int.reduceLE, Int.reduceLT, Int.reduceAdd, Int.reduceSub, Int.reduceMul, Int.reduceNeg, Nat.reduceMul, Nat.reduceSub, Nat.reduceLeDiff, Nat.reduceLT, Nat.reduceEqDiff, Nat.reduceAdd, reduceCtorEq, ↓reduceIte, reduceIte])⟩
    · obtain ⟨p, y, n, hr, hy⟩ := bothR_shape 1 pa pb la.l lb.l na nb
      simp (maxSteps := 4000000) only [icQAnd, go_sem, goD_calls, eq_self, implies_true, Int.reduceEq, Int.reduceBEq, Int.reduceBNe, Int.reduceLE, Int.reduceLT, Int.reduceAdd, Int.reduceSub, Int.reduceMul, Int.reduceNeg, Nat.reduceMul, Nat.reduceSub, Nat.reduceLeDiff, Nat.reduceLT, Nat.reduceEqDiff, Nat.reduceAdd, reduceCtorEq, ↓reduceIte, reduceIte, pa0, pb0, spQBoth, hr]
      rw [hr] at hK
      repeat refine ⟨by omega, ?_⟩
      rcases hy with rfl | ⟨l, rfl⟩
      all_goals
        simp (maxSteps := 4000000) only [go_sem, goD_calls, eq_self, implies_true, Int.reduceEq, Int.reduceBEq, Int.reduceBNe, Int.reduceLE, Int.reduceLT, Int.reduceAdd, Int.reduceSub, Int.reduceMul, Int.reduceNeg, Nat.reduceMul, Nat.reduceSub, Nat.reduceLeDiff, Nat.reduceLT, Nat.reduceEqDiff, Nat.reduceAdd, reduceCtorEq, ↓reduceIte, reduceIte]
        refine (hQ _ ?_).1
        refine fin_same (p := True) (xs := [.agg [.dat (.ptr 65) p, _, .int .i64 n]]) ?_ trivial (fun π => rfl) ?_ hnm (by ((try simp only []); repeat first | exact HLe.refl _ | refine HLe.cons (by simp only [hget, Nat.reduceEqDiff, Nat.left_eq_add, Nat.add_eq_left, nm_ne2, nm_en2, nm_ne3, nm_en3, nm_ne4, nm_en4, nm_ne5, nm_en5, reduceIte, ↓reduceIte] <;> first | rfl | ((repeat rw [if_neg (by omega)]) <;> rfl)) ?_ | refine HLe.skip hnm (by omega) ?_ | refine HLe.frz hnm (by omega) ?_ | refine HLe.del hnm (by omega) ?_)) hK
        · simp only [rsQAnd, evRs, evR, go_sem, goD_calls, eq_self, implies_true, Int.reduceEq, Int.reduceBEq, Int.reduceBNe, Int.reduceLE, Int.reduceLT, Int.reduceAdd, Int.reduceSub, Int.reduceMul, Int.reduceNeg, Nat.reduceMul, Nat.reduceSub, Nat.reduceLeDiff, Nat.reduceLT, Nat.reduceEqDiff, Nat.reduceAdd, reduceCtorEq, ↓reduceIte, reduceIte]
        · exact ⟨trivial, trivial, trivial, trivial⟩
  · exact hsp.elim
end Go.Proofs.YtkmilijehekdoaaDoor
