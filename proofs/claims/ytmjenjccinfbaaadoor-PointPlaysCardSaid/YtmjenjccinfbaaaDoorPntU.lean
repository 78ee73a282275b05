/- Chapter 15: the document's points: New. -/
import Derived.Test.YtmjenjccinfbaaaDoorPntT
import Derived.Test.YtmjenjccinfbaaaDoorPntC
namespace Go.Proofs.YtmjenjccinfbaaaDoor
set_option linter.unusedVariables false
set_option linter.unusedSimpArgs false
open Go Go.Fw
attribute [local go_sem] walkSet evMdl evMupD evMup evLkp frpL eltP eltV eltK preF preP prePt prePd frzP evNlq ev frOf oget ogets argSs argS evCat evMm frzL evBin evWrp evShf evCmp evUna evNil evBeq evLd evSt evFad evIad evAad evLen evSln evEls evApp evParts evSlc evNlc evMif evPck evFld evBld evTas evIfq evSeq evSl0 evBxf evAgl evAgq evBsf hget hset hdel cellAt arrAt setCellAt setArrAt takeC lenC svCells SV.okc SV.one ldSV Fw.isAgg explode explodeL toD toDL toD1 Ty.size Ty.sizeL frz1 Fr.sub Heap.sub Tok.sub SV.sub SV.subL

def WSSpansF : Opts := mkWE 26 [] [] [] 171 [] []
def icSSpansF : IC := (.seq (.seq (.ops [(.u (.mov 2 (.c .nils)))]) (.tr [0])) (.seq (.seq (.seq (.ops [(.u (.mov 5 (.s 0))), (.u (.len 6 false (.s 5))), (.u (.cmp 7 .eql (.s 6) (.c (.int .i64 0))))]) (.tr [7, 0])) (.cond (.s 7) (.seq (.seq (.ops [(.u (.mov 2 (.c .nils)))]) (.tr [2])) .ret) .skip)) (.seq (.seq (.ops [(.u (.mov 8 (.s 0))), (.u (.len 9 false (.s 8))), (.u (.mk 10 41 (.strct [(.int .i64), (.int .i64), (.int .i64)]) 24 (.node [(.int 0), (.int 0), (.int 0)]) (.c (.int .i64 0)) (.s 9))), (.u (.mov 3 (.s 10)))]) (.tr [0, 3])) (.seq (.seq (.seq (.ops [(.u (.mov 4 (.c (.int .i64 0))))]) (.tr [0, 4, 3])) (.block 0 (.loop (.seq (.seq (.seq (.ops [(.u (.mov 11 (.s 4))), (.u (.mov 12 (.s 0))), (.u (.len 13 false (.s 12))), (.u (.cmp 14 .lss (.s 11) (.s 13)))]) (.tr [14, 4, 0, 3])) (.cond (.s 14) .skip (.exit 0))) (.seq (.block 1 (.seq (.ops [(.u (.mov 17 (.s 3))), (.u (.mov 18 (.s 0))), (.u (.mov 19 (.s 4))), (.u (.iad 20 41 (.strct [(.int .i64), (.int .i64), (.int .i64)]) (.s 18) (.s 19))), (.u (.ld 21 (.strct [(.int .i64), (.int .i64), (.int .i64)]) (.s 20))), (.u (.call 22 (.c (.clo 70 [])) [(.s 21)] [none] true)), (.u (.bsl 23 41 (.strct [(.int .i64), (.int .i64), (.int .i64)]) [(.s 22)])), (.u (.app 24 41 (.strct [(.int .i64), (.int .i64), (.int .i64)]) 24 (.s 17) (.s 23))), (.u (.mov 3 (.s 24)))]) (.tr [4, 0, 3]))) (.seq (.ops [(.u (.mov 15 (.s 4))), (.u (.bin 16 .add .i64 (.s 15) (.c (.int .i64 1)))), (.u (.mov 4 (.s 16)))]) (.tr [0, 4, 3]))))))) (.seq (.seq (.ops [(.u (.mov 25 (.s 3))), (.u (.mov 2 (.s 25)))]) (.tr [2])) .ret)))))
def rsSSpansF : List RV := [(.t 2)]
theorem irSSpansF : fnIR Tryd.prog WSSpansF 29 = some (icSSpansF, rsSSpansF) := by kernel_rfl
set_option maxHeartbeats 1000000 in
theorem vSSpansF {E : Nat → Value} (hE : Errs2 Tryd.prog (some 171) E) : Valid Tryd.prog E (gs []) 29 spSCloneF := by
  refine valid_go (W := WSSpansF) hE (allValid_bot.add (vSSpan hE)) irSSpansF (by decide) (fun args h nx K hsp hok hnm => ?_)
  unfold spSCloneF at hsp
  split at hsp
  · rename_i d
    obtain ⟨hlen, hsp⟩ := hsp
    obtain ⟨hd, _⟩ := hok
    simp only [SV.ok] at hd
    obtain ⟨hd1, hd2, hd3⟩ := Wt.slice hd
    generalize d.l = l at hsp hd1 hd2 hd3 hlen
    subst hd1
    have hml : maxLen ≤ 9223372036854775807 := by decide
    refine ⟨by simp [WSSpansF, mkW, mkWE], fun Q hQ => ?_⟩
    by_cases h0 : l.length = 0
    · have c1 : ((l.length : Int) == 0) = true := by rw [h0]; rfl
      have : l = [] := List.eq_nil_of_length_eq_zero h0
      rw [this] at hsp
      simp only [icSSpansF, go_sem, goD_calls, eq_self, implies_true, Int.reduceEq, Int.reduceBEq, Int.reduceBNe, Int.reduceLE, Int.reduceLT, Int.reduceAdd, Int.reduceSub, Int.reduceMul, Int.reduceNeg, Nat.reduceMul, Nat.reduceSub, Nat.reduceLeDiff, Nat.reduceLT, Nat.reduceEqDiff, Nat.reduceAdd, reduceCtorEq, ↓reduceIte, reduceIte, c1]
      refine (hQ _ ?_).1
      refine fin_new (p := True ∧ True) (xs := [.nils]) rfl ⟨trivial, trivial⟩ (.slot 0 41 spanT rfl (.frz nx (.refl _))) [] (.dat (.slice 41) (.list [])) [] (by simp) (by simp) (by simp) ?_ trivial rfl (by simp) (by simp) hnm ?_ hsp
      · simp only [mkR, go_sem, goD_calls, eq_self, implies_true, Int.reduceEq, Int.reduceBEq, Int.reduceBNe, Int.reduceLE, Int.reduceLT, Int.reduceAdd, Int.reduceSub, Int.reduceMul, Int.reduceNeg, Nat.reduceMul, Nat.reduceSub, Nat.reduceLeDiff, Nat.reduceLT, Nat.reduceEqDiff, Nat.reduceAdd, reduceCtorEq, ↓reduceIte, reduceIte, SV.ren, SV.renL, rens]
      · simp only [mkR, go_sem, goD_calls, eq_self, implies_true, Int.reduceEq, Int.reduceBEq, Int.reduceBNe, Int.reduceLE, Int.reduceLT, Int.reduceAdd, Int.reduceSub, Int.reduceMul, Int.reduceNeg, Nat.reduceMul, Nat.reduceSub, Nat.reduceLeDiff, Nat.reduceLT, Nat.reduceEqDiff, Nat.reduceAdd, reduceCtorEq, ↓reduceIte, reduceIte] <;> ((try simp only []); repeat first | exact HLe.refl _ | refine HLe.cons (by simp only [hget, Nat.reduceEqDiff, Nat.left_eq_add, Nat.add_eq_left, nm_ne2, nm_en2, nm_ne3, nm_en3, nm_ne4, nm_en4, nm_ne5, nm_en5, reduceIte, ↓reduceIte] <;> first | rfl | ((repeat rw [if_neg (by omega)]) <;> rfl)) ?_ | refine HLe.skip hnm (by omega) ?_ | refine HLe.frz hnm (by omega) ?_ | refine HLe.del hnm (by omega) ?_)
    · have c1 : ((l.length : Int) == 0) = false := by rw [beq_eq_false_iff_ne]; omega
      simp only [icSSpansF, go_sem, goD_calls, eq_self, implies_true, Int.reduceEq, Int.reduceBEq, Int.reduceBNe, Int.reduceLE, Int.reduceLT, Int.reduceAdd, Int.reduceSub, Int.reduceMul, Int.reduceNeg, Nat.reduceMul, Nat.reduceSub, Nat.reduceLeDiff, Nat.reduceLT, Nat.reduceEqDiff, Nat.reduceAdd, reduceCtorEq, ↓reduceIte, reduceIte, c1, Int.toNat_natCast, List.replicate_zero]
      refine ⟨by omega, ?_⟩
      refine go_loop (α := { i : Nat // i ≤ l.length }) (I := fun i => { f := [(0, .dat (.slice 41) (.list l)), (4, .int .i64 i.1), (3, .vec nx)], h := (nx, .arr 41 spanT (l.take i.1)) :: h, nx := nx + 1 }) (μ := fun i => l.length - i.1) _ _ _ ⟨0, by omega⟩ ?_ (fun i B hB => ?_)
      · refine leq_id ?_ (by (simp only [frLt_cons, frLt_nil, and_true, SV.lt, SV.ltL, true_and] <;> omega)) (by ((try simp only []); repeat first | exact HLe.refl _ | refine HLe.cons (by simp only [hget, Nat.reduceEqDiff, Nat.left_eq_add, Nat.add_eq_left, nm_ne2, nm_en2, nm_ne3, nm_en3, nm_ne4, nm_en4, nm_ne5, nm_en5, reduceIte, ↓reduceIte] <;> first | rfl | ((repeat rw [if_neg (by omega)]) <;> rfl)) ?_ | refine HLe.skip hnm (by omega) ?_ | refine HLe.frz hnm (by omega) ?_ | refine HLe.del hnm (by omega) ?_)) (by (repeat first | exact HLt.mono hnm (by simp only [] <;> omega) | refine HLt.cons (by simp only [] <;> omega) (by simp only [Tok.lt, SV.ltL, SV.lt, and_true, true_and] <;> omega) ?_)) (by simp only [] <;> omega)
        simp only [frEq_cons, frEq_nil, frIn_cons, frIn_nil, and_true, fget_cons, Nat.reduceEqDiff, reduceIte, ↓reduceIte, true_and, SV.ren, SV.renL, ren1]
        rfl
      · obtain ⟨i, hi⟩ := i
        by_cases hil : i < l.length
        · have c2 : decide ((i : Int) < (l.length : Int)) = true := decide_eq_true (by omega)
          have hx : l.getD i .nil = l[i] := by rw [List.getD_eq_getElem?_getD, List.getElem?_eq_getElem hil]; rfl
          have hw := hd3 _ (List.getElem_mem hil)
          rw [ty_span, ← hx] at hw
          have het := span_eta hw
          unfold spE spF spT at het
          simp (maxSteps := 1000000) only [go_sem, goD_calls, eq_self, implies_true, Int.reduceEq, Int.reduceBEq, Int.reduceBNe, Int.reduceLE, Int.reduceLT, Int.reduceAdd, Int.reduceSub, Int.reduceMul, Int.reduceNeg, Nat.reduceMul, Nat.reduceSub, Nat.reduceLeDiff, Nat.reduceLT, Nat.reduceEqDiff, Nat.reduceAdd, reduceCtorEq, ↓reduceIte, reduceIte, c2, Int.toNat_natCast, spSSpan, min_i64, max_i64, het]
          refine ⟨by omega, by rw [List.length_take]; omega, by omega, hB _ ⟨i + 1, by omega⟩ (by simp only []; omega) ?_⟩
          have hte : l.take i ++ [l.getD i .nil] = l.take (i + 1) := by rw [hx, List.take_succ_eq_append_getElem hil]
          rw [hte]
          refine leq_ren1 nx (nx + 66) (by omega) (by simp only []; omega) ?_ (by (simp only [frLt_cons, frLt_nil, and_true, SV.lt, SV.ltL, true_and] <;> omega)) ?_ (by (repeat first | exact HLt.mono hnm (by simp only [] <;> omega) | refine HLt.cons (by simp only [] <;> omega) (by simp only [Tok.lt, SV.ltL, SV.lt, and_true, true_and] <;> omega) ?_)) (by simp only [] <;> omega)
          · simp only [frEq_cons, frEq_nil, frIn_cons, frIn_nil, and_true, fget_cons, Nat.reduceEqDiff, reduceIte, ↓reduceIte, true_and, SV.ren, SV.renL, ren1]
            simp
          · exact HRen.cons (by rw [ren1_eq]; simp [hget, Tok.ren]) (HRen.base hnm (Nat.le_refl _) (by ((try simp only []); repeat first | exact HLe.refl _ | refine HLe.cons (by simp only [hget, Nat.reduceEqDiff, Nat.left_eq_add, Nat.add_eq_left, nm_ne2, nm_en2, nm_ne3, nm_en3, nm_ne4, nm_en4, nm_ne5, nm_en5, reduceIte, ↓reduceIte] <;> first | rfl | ((repeat rw [if_neg (by omega)]) <;> rfl)) ?_ | refine HLe.skip hnm (by omega) ?_ | refine HLe.frz hnm (by omega) ?_ | refine HLe.del hnm (by omega) ?_)))
        · obtain rfl : i = l.length := by omega
          have c2 : decide ((l.length : Int) < (l.length : Int)) = false := decide_eq_false (by omega)
          simp only [go_sem, goD_calls, eq_self, implies_true, Int.reduceEq, Int.reduceBEq, Int.reduceBNe, Int.reduceLE, Int.reduceLT, Int.reduceAdd, Int.reduceSub, Int.reduceMul, Int.reduceNeg, Nat.reduceMul, Nat.reduceSub, Nat.reduceLeDiff, Nat.reduceLT, Nat.reduceEqDiff, Nat.reduceAdd, reduceCtorEq, ↓reduceIte, reduceIte, c2]
          rw [List.take_length]
          refine (hQ _ ?_).1
          refine fin_new (p := True ∧ True) (xs := [.vec nx]) rfl ⟨trivial, trivial⟩ (.frz nx (.refl _)) [] (.dat (.slice 41) (.list l)) [] (by simp) (by simp) (by simp) ?_ trivial rfl (by simp) (by simp) hnm ?_ hsp
          · simp only [mkR, go_sem, goD_calls, eq_self, implies_true, Int.reduceEq, Int.reduceBEq, Int.reduceBNe, Int.reduceLE, Int.reduceLT, Int.reduceAdd, Int.reduceSub, Int.reduceMul, Int.reduceNeg, Nat.reduceMul, Nat.reduceSub, Nat.reduceLeDiff, Nat.reduceLT, Nat.reduceEqDiff, Nat.reduceAdd, reduceCtorEq, ↓reduceIte, reduceIte, SV.ren, SV.renL, rens]
          · simp only [mkR, go_sem, goD_calls, eq_self, implies_true, Int.reduceEq, Int.reduceBEq, Int.reduceBNe, Int.reduceLE, Int.reduceLT, Int.reduceAdd, Int.reduceSub, Int.reduceMul, Int.reduceNeg, Nat.reduceMul, Nat.reduceSub, Nat.reduceLeDiff, Nat.reduceLT, Nat.reduceEqDiff, Nat.reduceAdd, reduceCtorEq, ↓reduceIte, reduceIte] <;> ((try simp only []); repeat first | exact HLe.refl _ | refine HLe.cons (by simp only [hget, Nat.reduceEqDiff, Nat.left_eq_add, Nat.add_eq_left, nm_ne2, nm_en2, nm_ne3, nm_en3, nm_ne4, nm_en4, nm_ne5, nm_en5, reduceIte, ↓reduceIte] <;> first | rfl | ((repeat rw [if_neg (by omega)]) <;> rfl)) ?_ | refine HLe.skip hnm (by omega) ?_ | refine HLe.frz hnm (by omega) ?_ | refine HLe.del hnm (by omega) ?_)
  · exact hsp.elim

def WRNewP : Opts := mkWF 39 [] [0, 1, 2, 3, 4, 5, 6, 7, 8, 9, 10, 11, 12, 13, 14, 15, 16] [33] 171 [0, 1, 2, 3, 4, 5, 6, 7, 8, 9, 10, 11, 12, 13, 14, 15, 16] [] [(200008, 51)] [33]
def icRNewP : IC := (.seq (.seq (.ops [(.u (.mov 6 (.c (.raw (.pointer none))))), (.u (.alc 7 [(.int .i64 0), (.bool false), (.int .i64 0)]))]) (.tr [100008, 1, 2, 0, 7])) (.seq (.seq (.seq (.ops [(.u (.mov 9 (.s 0))), (.u (.cmp 10 .lss (.s 9) (.c (.int .i64 1)))), (.u (.mov 11 (.s 10))), (.g 11 false (some 12) (.mov 12 (.s 0))), (.g 11 false (some 13) (.cmp 13 .gtr (.s 12) (.c (.int .i64 4)))), (.u (.pck 14 (.s 11) (.c (.bool true)) (.s 13))), (.u (.mov 15 (.s 14))), (.g 15 false (some 16) (.mov 16 (.s 1))), (.g 15 false (some 17) (.cmp 17 .lss (.s 16) (.c (.int .i64 0)))), (.u (.pck 18 (.s 15) (.c (.bool true)) (.s 17))), (.u (.mov 19 (.s 18))), (.g 19 false (some 20) (.mov 20 (.s 1))), (.g 19 false (some 21) (.cmp 21 .gtr (.s 20) (.c (.int .i64 1099511627776)))), (.u (.pck 22 (.s 19) (.c (.bool true)) (.s 21)))]) (.tr [22, 100008, 1, 2, 0, 7])) (.cond (.s 22) (.seq (.seq (.ops [(.u (.call 23 (.c (.clo 65 [])) [(.c (.int .i64 105))] [none] true)), (.u (.mov 6 (.c (.raw (.pointer none))))), (.u (.st (.strct [(.int .i64), .bool, (.int .i64)]) (.s 7) (.s 23)))]) (.tr [6, 7])) .ret) .skip)) (.seq (.seq (.ops [(.u (.mov 24 (.s 2))), (.u (.call 25 (.c (.clo 27 [])) [(.s 24)] [(some 41)] true)), (.u (.alc 8 [(.int .i64 0), (.bool false), (.int .i64 0)])), (.u (.st (.strct [(.int .i64), .bool, (.int .i64)]) (.s 8) (.s 25)))]) (.tr [100008, 1, 2, 0, 8, 7])) (.seq (.seq (.seq (.ops [(.u (.fad 26 0 0 (.int .i64) 51 (.s 8))), (.u (.ld 27 (.int .i64) (.s 26))), (.u (.cmp 28 .neq (.s 27) (.c (.int .i64 0))))]) (.tr [28, 100008, 1, 2, 0, 8, 7])) (.cond (.s 28) (.seq (.seq (.frp [(100008, (51, (.strct [(.int .i64), .bool, (.int .i64)])))]) (.seq (.rgn [] [(false, (.u (.ld 29 (.strct [(.int .i64), .bool, (.int .i64)]) (.s 8)))), (false, (.u (.mov 6 (.c (.raw (.pointer none)))))), (false, (.u (.st (.strct [(.int .i64), .bool, (.int .i64)]) (.s 7) (.s 29))))]) (.tr [6, 7]))) .ret) .skip)) (.seq (.seq (.frp [(100008, (51, (.strct [(.int .i64), .bool, (.int .i64)])))]) (.seq (.rgn [] [(false, (.u (.mov 30 (.s 0)))), (false, (.u (.mov 31 (.s 1)))), (false, (.u (.mov 32 (.s 2)))), (false, (.u (.mov 34 (.s 0)))), (true, (.u (.ld 38 (.strct [(.int .i64), .bool, (.int .i64)]) (.s 8)))), (true, (.u (.call 33 (.c (.clo 29 [])) [(.s 32)] [(some 41)] false))), (false, (.u (.mk 35 2 (.int .i64) 8 (.int 0) (.s 34) (.s 34)))), (false, (.u (.bld 36 [[(.int .i64 0)], [(.int .i64 0)], [.nils], [.nils], [.nils]] [(0, (.s 30)), (1, (.s 31)), (2, (.s 33)), (4, (.s 35))]))), (false, (.u (.box 37 0 (.s 36)))), (false, (.u (.mov 6 (.s 37)))), (false, (.u (.st (.strct [(.int .i64), .bool, (.int .i64)]) (.s 7) (.s 38))))]) (.tr [6, 7]))) .ret)))))
def rsRNewP : List RV := [(.t 6), (.c 7 (.strct [(.int .i64), .bool, (.int .i64)]))]
theorem irRNewP : fnIR Tryd.prog WRNewP 37 = some (icRNewP, rsRNewP) := by kernel_rfl
def spRNewP : FSpec := fun args h nx K => match args with
  | [.int .i64 g, .int .i64 a, .dat (.slice 41) d] =>
      (¬ ((1 ≤ g ∧ g ≤ 4) ∧ (0 ≤ a ∧ a ≤ 1099511627776)) → K (.tup [.raw (.pointer none), fA 105 false 0]) h) ∧
      ((1 ≤ g ∧ g ≤ 4) ∧ (0 ≤ a ∧ a ≤ 1099511627776) → (validD d.l).isNil = false → K (.tup [.raw (.pointer none), fA (fC (.dat .iface (validD d.l))) (fB (.dat .iface (validD d.l))) (fP (.dat .iface (validD d.l)))]) h) ∧
      ((1 ≤ g ∧ g ≤ 4) ∧ (0 ≤ a ∧ a ≤ 1099511627776) → (validD d.l).isNil = true → K (.tup [.ptr nx 0, fA 0 false 0]) ((nx, rpC g a d.l (nx + 1) (nx + 2)) :: (nx + 1, .arr 34 redT []) :: (nx + 2, .arr 2 (.int .i64) (zeros g.toNat)) :: h))
  | _ => False
set_option maxHeartbeats 4000000 in
set_option maxRecDepth 8000 in
theorem vRNewP {E : Nat → Value} (hE : Errs2 Tryd.prog (some 171) E) : Valid Tryd.prog E G0 37 spRNewP := by
  refine valid_go (W := WRNewP) hE (((allValid_bot.add (up (vBare hE))).add (up (vRValid hE))).add (up (vSSpansF hE))) irRNewP (by decide) (fun args h nx K hsp hok hnm => ?_)
  unfold spRNewP at hsp
  split at hsp
  · rename_i g a d
    obtain ⟨hrange, hbad, hok1⟩ := hsp
    refine ⟨by simp [WRNewP, mkW, mkWE, mkWF], fun Q hQ => ?_⟩
    obtain ⟨_, _, hd, _⟩ := hok
    simp only [SV.ok] at hd
    obtain ⟨hd1, hd2, hd3⟩ := Wt.slice hd; generalize d.l = l at *; subst hd1
    have hml : maxLen ≤ 9223372036854775807 := by decide
    by_cases hr : (1 ≤ g ∧ g ≤ 4) ∧ (0 ≤ a ∧ a ≤ 1099511627776)
    · have c1 : decide (g < 1) = false := decide_eq_false (by omega)
      have c2 : decide (4 < g) = false := decide_eq_false (by omega)
      have c3 : decide (a < 0) = false := decide_eq_false (by omega)
      have c4 : decide (1099511627776 < a) = false := decide_eq_false (by omega)
      cases hv : (validD l).isNil with
      | false =>
        have hb2 := hbad hr hv
        rcases (validD_cases l).resolve_left (fun e => by rw [e] at hv; cases hv) with hv2 | ⟨i, hi, hv2 | hv2⟩ <;> rw [hv2] at hb2
        · simp (maxSteps := 4000000) only [fA, fe_End, fa_End, fe_Sum, fa_Sum, fe_Shape, fa_Shape, fe_Many, fa_Many, fe_Range, fa_Range, fe_Kind, fa_Kind, fe_None, fa_None, fe_There, fa_There, fe_Full, fa_Full, fe_Crash, fa_Crash, fe_State, fa_State, fe_Conflict, fa_Conflict, fe_Waits, fa_Waits, fe_Limit, fa_Limit, fe_Fenced, fa_Fenced, fe_Word, fa_Word, fe_Number, fa_Number, fe_nil] at hb2
          simp (maxSteps := 4000000) only [icRNewP, go_sem, goD_calls, eq_self, implies_true, Int.reduceEq, Int.reduceBEq, Int.reduceBNe, Int.reduceLE, Int.reduceLT, Int.reduceAdd, Int.reduceSub, Int.reduceMul, Int.reduceNeg, Nat.reduceMul, Nat.reduceSub, Nat.reduceLeDiff, Nat.reduceLT, Nat.reduceEqDiff, Nat.reduceAdd, reduceCtorEq, ↓reduceIte, reduceIte, spRValid, fA, fe_End, fa_End, fe_Sum, fa_Sum, fe_Shape, fa_Shape, fe_Many, fa_Many, fe_Range, fa_Range, fe_Kind, fa_Kind, fe_None, fa_None, fe_There, fa_There, fe_Full, fa_Full, fe_Crash, fa_Crash, fe_State, fa_State, fe_Conflict, fa_Conflict, fe_Waits, fa_Waits, fe_Limit, fa_Limit, fe_Fenced, fa_Fenced, fe_Word, fa_Word, fe_Number, fa_Number, fe_nil, hv2, c1, c2, c3, c4]
          refine (hQ _ ?_).1
          refine fin_same (p := True) (xs := [.raw (.pointer none), .agg [.int .i64 104, .bool false, .int .i64 0]]) ?_ trivial (fun π => rfl) ?_ hnm (by ((try simp only []); repeat first | exact HLe.refl _ | refine HLe.cons (by simp only [hget, Nat.reduceEqDiff, Nat.left_eq_add, Nat.add_eq_left, nm_ne2, nm_en2, nm_ne3, nm_en3, nm_ne4, nm_en4, nm_ne5, nm_en5, reduceIte, ↓reduceIte] <;> first | rfl | ((repeat rw [if_neg (by omega)]) <;> rfl)) ?_ | refine HLe.skip hnm (by omega) ?_ | refine HLe.frz hnm (by omega) ?_ | refine HLe.del hnm (by omega) ?_)) hb2
          · simp only [rsRNewP, evRs, evR, go_sem, goD_calls, eq_self, implies_true, Int.reduceEq, Int.reduceBEq, Int.reduceBNe, Int.reduceLE, Int.reduceLT, Int.reduceAdd, Int.reduceSub, Int.reduceMul, Int.reduceNeg, Nat.reduceMul, Nat.reduceSub, Nat.reduceLeDiff, Nat.reduceLT, Nat.reduceEqDiff, Nat.reduceAdd, reduceCtorEq, ↓reduceIte, reduceIte]
          · exact ⟨trivial, ⟨trivial, trivial, trivial, trivial⟩, trivial⟩
        · simp (maxSteps := 4000000) only [fA, fe_End, fa_End, fe_Sum, fa_Sum, fe_Shape, fa_Shape, fe_Many, fa_Many, fe_Range, fa_Range, fe_Kind, fa_Kind, fe_None, fa_None, fe_There, fa_There, fe_Full, fa_Full, fe_Crash, fa_Crash, fe_State, fa_State, fe_Conflict, fa_Conflict, fe_Waits, fa_Waits, fe_Limit, fa_Limit, fe_Fenced, fa_Fenced, fe_Word, fa_Word, fe_Number, fa_Number, fe_nil] at hb2
          simp (maxSteps := 4000000) only [icRNewP, go_sem, goD_calls, eq_self, implies_true, Int.reduceEq, Int.reduceBEq, Int.reduceBNe, Int.reduceLE, Int.reduceLT, Int.reduceAdd, Int.reduceSub, Int.reduceMul, Int.reduceNeg, Nat.reduceMul, Nat.reduceSub, Nat.reduceLeDiff, Nat.reduceLT, Nat.reduceEqDiff, Nat.reduceAdd, reduceCtorEq, ↓reduceIte, reduceIte, spRValid, fA, fe_End, fa_End, fe_Sum, fa_Sum, fe_Shape, fa_Shape, fe_Many, fa_Many, fe_Range, fa_Range, fe_Kind, fa_Kind, fe_None, fa_None, fe_There, fa_There, fe_Full, fa_Full, fe_Crash, fa_Crash, fe_State, fa_State, fe_Conflict, fa_Conflict, fe_Waits, fa_Waits, fe_Limit, fa_Limit, fe_Fenced, fa_Fenced, fe_Word, fa_Word, fe_Number, fa_Number, fe_nil, hv2, c1, c2, c3, c4]
          refine (hQ _ ?_).1
          refine fin_same (p := True) (xs := [.raw (.pointer none), .agg [.int .i64 105, .bool true, .int .i64 (i : Nat)]]) ?_ trivial (fun π => rfl) ?_ hnm (by ((try simp only []); repeat first | exact HLe.refl _ | refine HLe.cons (by simp only [hget, Nat.reduceEqDiff, Nat.left_eq_add, Nat.add_eq_left, nm_ne2, nm_en2, nm_ne3, nm_en3, nm_ne4, nm_en4, nm_ne5, nm_en5, reduceIte, ↓reduceIte] <;> first | rfl | ((repeat rw [if_neg (by omega)]) <;> rfl)) ?_ | refine HLe.skip hnm (by omega) ?_ | refine HLe.frz hnm (by omega) ?_ | refine HLe.del hnm (by omega) ?_)) hb2
          · simp only [rsRNewP, evRs, evR, go_sem, goD_calls, eq_self, implies_true, Int.reduceEq, Int.reduceBEq, Int.reduceBNe, Int.reduceLE, Int.reduceLT, Int.reduceAdd, Int.reduceSub, Int.reduceMul, Int.reduceNeg, Nat.reduceMul, Nat.reduceSub, Nat.reduceLeDiff, Nat.reduceLT, Nat.reduceEqDiff, Nat.reduceAdd, reduceCtorEq, ↓reduceIte, reduceIte]
          · exact ⟨trivial, ⟨trivial, trivial, trivial, trivial⟩, trivial⟩
        · simp (maxSteps := 4000000) only [fA, fe_End, fa_End, fe_Sum, fa_Sum, fe_Shape, fa_Shape, fe_Many, fa_Many, fe_Range, fa_Range, fe_Kind, fa_Kind, fe_None, fa_None, fe_There, fa_There, fe_Full, fa_Full, fe_Crash, fa_Crash, fe_State, fa_State, fe_Conflict, fa_Conflict, fe_Waits, fa_Waits, fe_Limit, fa_Limit, fe_Fenced, fa_Fenced, fe_Word, fa_Word, fe_Number, fa_Number, fe_nil] at hb2
          simp (maxSteps := 4000000) only [icRNewP, go_sem, goD_calls, eq_self, implies_true, Int.reduceEq, Int.reduceBEq, Int.reduceBNe, Int.reduceLE, Int.reduceLT, Int.reduceAdd, Int.reduceSub, Int.reduceMul, Int.reduceNeg, Nat.reduceMul, Nat.reduceSub, Nat.reduceLeDiff, Nat.reduceLT, Nat.reduceEqDiff, Nat.reduceAdd, reduceCtorEq, ↓reduceIte, reduceIte, spRValid, fA, fe_End, fa_End, fe_Sum, fa_Sum, fe_Shape, fa_Shape, fe_Many, fa_Many, fe_Range, fa_Range, fe_Kind, fa_Kind, fe_None, fa_None, fe_There, fa_There, fe_Full, fa_Full, fe_Crash, fa_Crash, fe_State, fa_State, fe_Conflict, fa_Conflict, fe_Waits, fa_Waits, fe_Limit, fa_Limit, fe_Fenced, fa_Fenced, fe_Word, fa_Word, fe_Number, fa_Number, fe_nil, hv2, c1, c2, c3, c4]
          refine (hQ _ ?_).1
          refine fin_same (p := True) (xs := [.raw (.pointer none), .agg [.int .i64 103, .bool true, .int .i64 (i : Nat)]]) ?_ trivial (fun π => rfl) ?_ hnm (by ((try simp only []); repeat first | exact HLe.refl _ | refine HLe.cons (by simp only [hget, Nat.reduceEqDiff, Nat.left_eq_add, Nat.add_eq_left, nm_ne2, nm_en2, nm_ne3, nm_en3, nm_ne4, nm_en4, nm_ne5, nm_en5, reduceIte, ↓reduceIte] <;> first | rfl | ((repeat rw [if_neg (by omega)]) <;> rfl)) ?_ | refine HLe.skip hnm (by omega) ?_ | refine HLe.frz hnm (by omega) ?_ | refine HLe.del hnm (by omega) ?_)) hb2
          · simp only [rsRNewP, evRs, evR, go_sem, goD_calls, eq_self, implies_true, Int.reduceEq, Int.reduceBEq, Int.reduceBNe, Int.reduceLE, Int.reduceLT, Int.reduceAdd, Int.reduceSub, Int.reduceMul, Int.reduceNeg, Nat.reduceMul, Nat.reduceSub, Nat.reduceLeDiff, Nat.reduceLT, Nat.reduceEqDiff, Nat.reduceAdd, reduceCtorEq, ↓reduceIte, reduceIte]
          · exact ⟨trivial, ⟨trivial, trivial, trivial, trivial⟩, trivial⟩
      | true =>
        have g1 : l.length ≤ 1000000000 := by have := valid_len hv; omega
        have hv2 : validD l = .nil := nil_eq hv
        simp (maxSteps := 4000000) only [icRNewP, go_sem, goD_calls, eq_self, implies_true, Int.reduceEq, Int.reduceBEq, Int.reduceBNe, Int.reduceLE, Int.reduceLT, Int.reduceAdd, Int.reduceSub, Int.reduceMul, Int.reduceNeg, Nat.reduceMul, Nat.reduceSub, Nat.reduceLeDiff, Nat.reduceLT, Nat.reduceEqDiff, Nat.reduceAdd, reduceCtorEq, ↓reduceIte, reduceIte, spRValid, fA, fe_nil, hv2, c1, c2, c3, c4]
        refine ⟨.dat (.slice 41) (.list l), fun nx' => ⟨g1, rfl, rfl⟩, trivial, ?_⟩
        simp (maxSteps := 4000000) only [go_sem, goD_calls, eq_self, implies_true, Int.reduceEq, Int.reduceBEq, Int.reduceBNe, Int.reduceLE, Int.reduceLT, Int.reduceAdd, Int.reduceSub, Int.reduceMul, Int.reduceNeg, Nat.reduceMul, Nat.reduceSub, Nat.reduceLeDiff, Nat.reduceLT, Nat.reduceEqDiff, Nat.reduceAdd, reduceCtorEq, ↓reduceIte, reduceIte]
        refine ⟨by omega, ?_⟩
        refine (hQ _ (fin_new (p := True) (xs := [.ptr (nx + 1 + 64 + 1 + 1) 0, .agg [.int .i64 0, .bool false, .int .i64 0]]) ?_ trivial (.cell (nx + 1 + 64 + 1 + 1) 3 34 redT (by simp only [hget, ↓reduceIte]; rfl) rfl rfl (.refl _)) [(nx, nx + 1 + 64 + 1 + 1), (nx + 1, nx + 1 + 64 + 1 + 1 + 1), (nx + 2, nx + 1 + 64 + 1)] (.tup [.ptr nx 0, fA 0 false 0]) [(nx, rpC g a l (nx + 1) (nx + 2)), (nx + 1, .arr 34 redT []), (nx + 2, .arr 2 (.int .i64) (zeros g.toNat))] (by simp) (by simp; omega) (by simp <;> omega) ?_ ?_ rfl ?_ ?_ hnm ?_ (hok1 hr hv))).1
        · simp only [rsRNewP, evRs, evR, go_sem, goD_calls, eq_self, implies_true, Int.reduceEq, Int.reduceBEq, Int.reduceBNe, Int.reduceLE, Int.reduceLT, Int.reduceAdd, Int.reduceSub, Int.reduceMul, Int.reduceNeg, Nat.reduceMul, Nat.reduceSub, Nat.reduceLeDiff, Nat.reduceLT, Nat.reduceEqDiff, Nat.reduceAdd, reduceCtorEq, ↓reduceIte, reduceIte]
        · simp only [mkR, fA, go_sem, goD_calls, eq_self, implies_true, Int.reduceEq, Int.reduceBEq, Int.reduceBNe, Int.reduceLE, Int.reduceLT, Int.reduceAdd, Int.reduceSub, Int.reduceMul, Int.reduceNeg, Nat.reduceMul, Nat.reduceSub, Nat.reduceLeDiff, Nat.reduceLT, Nat.reduceEqDiff, Nat.reduceAdd, reduceCtorEq, ↓reduceIte, reduceIte, SV.ren, SV.renL, rens]
        · exact ⟨show nx < nx + 64 by omega, ⟨trivial, trivial, trivial, trivial⟩, trivial⟩
        · simp only [rpC, List.mem_cons, List.mem_singleton, List.not_mem_nil, or_false, forall_eq_or_imp, forall_eq, Tok.lt, SV.ltL, SV.lt, and_true, true_and]; omega
        · simp only [mkR, go_sem, goD_calls, eq_self, implies_true, Int.reduceEq, Int.reduceBEq, Int.reduceBNe, Int.reduceLE, Int.reduceLT, Int.reduceAdd, Int.reduceSub, Int.reduceMul, Int.reduceNeg, Nat.reduceMul, Nat.reduceSub, Nat.reduceLeDiff, Nat.reduceLT, Nat.reduceEqDiff, Nat.reduceAdd, reduceCtorEq, ↓reduceIte, reduceIte, rens, rpC, zeros, List.mem_cons, List.mem_singleton, List.not_mem_nil, or_false, forall_eq_or_imp, forall_eq, Tok.ren, SV.ren, SV.renL]
          try simp
        · simp only [mkR, go_sem, goD_calls, eq_self, implies_true, Int.reduceEq, Int.reduceBEq, Int.reduceBNe, Int.reduceLE, Int.reduceLT, Int.reduceAdd, Int.reduceSub, Int.reduceMul, Int.reduceNeg, Nat.reduceMul, Nat.reduceSub, Nat.reduceLeDiff, Nat.reduceLT, Nat.reduceEqDiff, Nat.reduceAdd, reduceCtorEq, ↓reduceIte, reduceIte] <;> ((try simp only []); repeat first | exact HLe.refl _ | refine HLe.cons (by simp only [hget, Nat.reduceEqDiff, Nat.left_eq_add, Nat.add_eq_left, nm_ne2, nm_en2, nm_ne3, nm_en3, nm_ne4, nm_en4, nm_ne5, nm_en5, reduceIte, ↓reduceIte] <;> first | rfl | ((repeat rw [if_neg (by omega)]) <;> rfl)) ?_ | refine HLe.skip hnm (by omega) ?_ | refine HLe.frz hnm (by omega) ?_ | refine HLe.del hnm (by omega) ?_)
    · have retE : ∀ h' nx', HLe h h' → hget h' nx = some (.cells [.int .i64 105, .bool false, .int .i64 0]) → Q Ex.ret ⟨[(6, .raw (.pointer none)), (7, .ptr nx 0)], h', nx'⟩ := fun h' nx' hh hg => by
        refine (hQ _ ?_).1
        refine fin_same (p := True) (xs := [.raw (.pointer none), fA 105 false 0]) ?_ trivial (fun π => rfl) ?_ hnm hh (hrange hr)
        · simp only [rsRNewP, evRs, evR, go_sem, goD_calls, eq_self, implies_true, Int.reduceEq, Int.reduceBEq, Int.reduceBNe, Int.reduceLE, Int.reduceLT, Int.reduceAdd, Int.reduceSub, Int.reduceMul, Int.reduceNeg, Nat.reduceMul, Nat.reduceSub, Nat.reduceLeDiff, Nat.reduceLT, Nat.reduceEqDiff, Nat.reduceAdd, reduceCtorEq, ↓reduceIte, reduceIte, hg, fA]
        · exact ⟨trivial, ⟨trivial, trivial, trivial, trivial⟩, trivial⟩
      by_cases h1 : g < 1
      · have c1 : decide (g < 1) = true := decide_eq_true h1
        simp (maxSteps := 4000000) only [icRNewP, go_sem, goD_calls, eq_self, implies_true, Int.reduceEq, Int.reduceBEq, Int.reduceBNe, Int.reduceLE, Int.reduceLT, Int.reduceAdd, Int.reduceSub, Int.reduceMul, Int.reduceNeg, Nat.reduceMul, Nat.reduceSub, Nat.reduceLeDiff, Nat.reduceLT, Nat.reduceEqDiff, Nat.reduceAdd, reduceCtorEq, ↓reduceIte, reduceIte, spBare, fA, c1]
        exact retE _ _ (by ((try simp only []); repeat first | exact HLe.refl _ | refine HLe.cons (by simp only [hget, Nat.reduceEqDiff, Nat.left_eq_add, Nat.add_eq_left, nm_ne2, nm_en2, nm_ne3, nm_en3, nm_ne4, nm_en4, nm_ne5, nm_en5, reduceIte, ↓reduceIte] <;> first | rfl | ((repeat rw [if_neg (by omega)]) <;> rfl)) ?_ | refine HLe.skip hnm (by omega) ?_ | refine HLe.frz hnm (by omega) ?_ | refine HLe.del hnm (by omega) ?_)) (by simp only [hget, ↓reduceIte])
      have c1 : decide (g < 1) = false := decide_eq_false h1
      by_cases h2 : 4 < g
      · have c2 : decide (4 < g) = true := decide_eq_true h2
        simp (maxSteps := 4000000) only [icRNewP, go_sem, goD_calls, eq_self, implies_true, Int.reduceEq, Int.reduceBEq, Int.reduceBNe, Int.reduceLE, Int.reduceLT, Int.reduceAdd, Int.reduceSub, Int.reduceMul, Int.reduceNeg, Nat.reduceMul, Nat.reduceSub, Nat.reduceLeDiff, Nat.reduceLT, Nat.reduceEqDiff, Nat.reduceAdd, reduceCtorEq, ↓reduceIte, reduceIte, spBare, fA, c1, c2]
        exact retE _ _ (by ((try simp only []); repeat first | exact HLe.refl _ | refine HLe.cons (by simp only [hget, Nat.reduceEqDiff, Nat.left_eq_add, Nat.add_eq_left, nm_ne2, nm_en2, nm_ne3, nm_en3, nm_ne4, nm_en4, nm_ne5, nm_en5, reduceIte, ↓reduceIte] <;> first | rfl | ((repeat rw [if_neg (by omega)]) <;> rfl)) ?_ | refine HLe.skip hnm (by omega) ?_ | refine HLe.frz hnm (by omega) ?_ | refine HLe.del hnm (by omega) ?_)) (by simp only [hget, ↓reduceIte])
      have c2 : decide (4 < g) = false := decide_eq_false h2
      by_cases h3 : a < 0
      · have c3 : decide (a < 0) = true := decide_eq_true h3
        simp (maxSteps := 4000000) only [icRNewP, go_sem, goD_calls, eq_self, implies_true, Int.reduceEq, Int.reduceBEq, Int.reduceBNe, Int.reduceLE, Int.reduceLT, Int.reduceAdd, Int.reduceSub, Int.reduceMul, Int.reduceNeg, Nat.reduceMul, Nat.reduceSub, Nat.reduceLeDiff, Nat.reduceLT, Nat.reduceEqDiff, Nat.reduceAdd, reduceCtorEq, ↓reduceIte, reduceIte, spBare, fA, c1, c2, c3]
        exact retE _ _ (by ((try simp only []); repeat first | exact HLe.refl _ | refine HLe.cons (by simp only [hget, Nat.reduceEqDiff, Nat.left_eq_add, Nat.add_eq_left, nm_ne2, nm_en2, nm_ne3, nm_en3, nm_ne4, nm_en4, nm_ne5, nm_en5, reduceIte, ↓reduceIte] <;> first | rfl | ((repeat rw [if_neg (by omega)]) <;> rfl)) ?_ | refine HLe.skip hnm (by omega) ?_ | refine HLe.frz hnm (by omega) ?_ | refine HLe.del hnm (by omega) ?_)) (by simp only [hget, ↓reduceIte])
      have c3 : decide (a < 0) = false := decide_eq_false h3
      have c4 : decide (1099511627776 < a) = true := decide_eq_true (by omega)
      simp (maxSteps := 4000000) only [icRNewP, go_sem, goD_calls, eq_self, implies_true, Int.reduceEq, Int.reduceBEq, Int.reduceBNe, Int.reduceLE, Int.reduceLT, Int.reduceAdd, Int.reduceSub, Int.reduceMul, Int.reduceNeg, Nat.reduceMul, Nat.reduceSub, Nat.reduceLeDiff, Nat.reduceLT, Nat.reduceEqDiff, Nat.reduceAdd, reduceCtorEq, ↓reduceIte, reduceIte, spBare, fA, c1, c2, c3, c4]
      exact retE _ _ (by ((try simp only []); repeat first | exact HLe.refl _ | refine HLe.cons (by simp only [hget, Nat.reduceEqDiff, Nat.left_eq_add, Nat.add_eq_left, nm_ne2, nm_en2, nm_ne3, nm_en3, nm_ne4, nm_en4, nm_ne5, nm_en5, reduceIte, ↓reduceIte] <;> first | rfl | ((repeat rw [if_neg (by omega)]) <;> rfl)) ?_ | refine HLe.skip hnm (by omega) ?_ | refine HLe.frz hnm (by omega) ?_ | refine HLe.del hnm (by omega) ?_)) (by simp only [hget, ↓reduceIte])
  · exact hsp.elim
end Go.Proofs.YtmjenjccinfbaaaDoor
