/- Chapter 7: which configurations may be. -/
import Derived.Test.YtkojpimkngmckaaDoorConfA
namespace Go.Proofs.YtkojpimkngmckaaDoor
set_option linter.unusedVariables false
set_option linter.unusedSimpArgs false
open Go Go.Fw
attribute [local go_sem] walkSet evMdl evMupD evMup evLkp frpL preF preP prePt prePd frzP evNlq ev frOf oget ogets argSs argS evMm frzL evBin evWrp evShf evCmp evUna evNil evBeq evLd evSt evFad evIad evAad evLen evSln evEls evApp evParts evSlc evNlc evMif evPck evFld evBld evTas evIfq evSeq evSl0 evBxf evAgl evAgq evBsf hget hset hdel cellAt arrAt setCellAt setArrAt takeC lenC svCells SV.okc SV.one ldSV Fw.isAgg explode explodeL toD toDL toD1 Ty.size Ty.sizeL frz1 Fr.sub Heap.sub Tok.sub SV.sub SV.subL

theorem bool_ft (b : Bool) : b = false ∨ b = true := by cases b <;> simp
def WCSix : Opts := mkWE 14 [] [] [10] 184 [] []
def icCSix : IC := (.seq (.seq (.ops [(.u (.mov 2 (.c (.bool false))))]) (.tr [0])) (.seq (.seq (.ops [(.u (.mov 3 (.s 0))), (.u (.len 4 false (.s 3))), (.u (.cmp 5 .eql (.s 4) (.c (.int .i64 6)))), (.u (.mov 6 (.s 5))), (.g 6 true (some 7) (.mov 7 (.s 0))), (.g 6 true (some 8) (.call 8 (.c (.clo 109 [])) [(.s 7)] [(some 3)] true)), (.g 6 true (some 9) (.call 9 (.c (.clo 108 [])) [(.s 8)] [none] true)), (.g 6 true (some 10) (.call 10 (.c (.clo 86 [])) [(.s 9)] [(some 3)] false)), (.g 6 true (some 11) (.len 11 false (.s 10))), (.g 6 true (some 12) (.cmp 12 .eql (.s 11) (.c (.int .i64 6)))), (.u (.pck 13 (.s 6) (.s 12) (.c (.bool false)))), (.u (.mov 2 (.s 13)))]) (.tr [2])) .ret))
def rsCSix : List RV := [(.t 2)]
theorem irCSix : fnIR Tryd.prog WCSix 90 = some (icCSix, rsCSix) := by kernel_rfl
def sixB (l : List D) : Bool := l.length == 6 && (compL (sortL (iL l))).length == 6
def spCSix : FSpec := fun args h nx K => match args with
  | [.dat (.slice t) d] => t = 3 ∧ K (.bool (sixB d.l)) h
  | _ => False
set_option maxHeartbeats 4000000 in
set_option maxRecDepth 8000 in
theorem vCSix {E : Nat → Value} (hE : Errs2 Tryd.prog (some 184) E) : Valid Tryd.prog E (gs []) 90 spCSix := by
  refine valid_go (W := WCSix) hE (((allValid_bot.add (up (vValues hE))).add (up (vSorted hE))).add (up (vCompact hE))) irCSix (by decide) (fun args h nx K hsp hok hnm => ?_)
  unfold spCSix at hsp
  split at hsp
  · rename_i t d
    obtain ⟨rfl, hK⟩ := hsp
    refine ⟨by simp [WCSix, mkW, mkWE, mkWF], fun Q hQ => ?_⟩
    obtain ⟨hd, _⟩ := hok
    simp only [SV.ok] at hd
    obtain ⟨hd1, hd2, hd3⟩ := Wt.slice hd; generalize d.l = l at *; subst hd1
    have ret : ∀ b h' nx', HLe h h' → b = sixB l → Q Ex.ret ⟨[(2, .bool b)], h', nx'⟩ := fun b h' nx' hh hb => by
      refine (hQ _ ?_).1
      subst hb
      exact fin_t (.bool _) rfl rfl hnm hh hK
    by_cases h6 : l.length = 6
    · have c1 : ((l.length : Int) == 6) = true := beq_iff_eq.2 (by omega)
      have c2 : (l.length == 6) = true := beq_iff_eq.2 h6
      have hl9 : l.length ≤ 1000000000 := by omega
      have hs9 : (sortL (iL l)).length ≤ 1000000000 := by rw [sortL_len, iL_len]; omega
      simp (maxSteps := 4000000) only [icCSix, go_sem, goD_calls, eq_self, implies_true, Int.reduceEq, Int.reduceBEq, Int.reduceBNe, Int.reduceLE, Int.reduceLT, Int.reduceAdd, Int.reduceSub, Int.reduceMul, Int.reduceNeg, Nat.reduceMul, Nat.reduceSub, Nat.reduceLeDiff, Nat.reduceLT, Nat.reduceEqDiff, Nat.reduceAdd, reduceCtorEq, ↓reduceIte, reduceIte, c1, spValues, spSorted, spCompact, hl9, hs9, nOk_c, nL_c]
      refine ret _ _ _ (by ((try simp only []); repeat first | exact HLe.refl _ | refine HLe.cons (by simp only [hget, Nat.reduceEqDiff, Nat.left_eq_add, Nat.add_eq_left, nm_ne2, nm_en2, nm_ne3, nm_en3, nm_ne4, nm_en4, nm_ne5, nm_en5, reduceIte, ↓reduceIte] <;> first | rfl | ((repeat rw [if_neg (by omega)]) <;> rfl)) ?_ | refine HLe.skip hnm (by omega) ?_ | refine HLe.frz hnm (by omega) ?_ | refine HLe.del hnm (by omega) ?_)) ?_
      unfold sixB
      rw [c2, Bool.true_and]
      by_cases e : (compL (sortL (iL l))).length = 6
      · rw [e]; rfl
      · rw [beq_eq_false_iff_ne.2 e, beq_eq_false_iff_ne]; omega
    · have c1 : ((l.length : Int) == 6) = false := beq_eq_false_iff_ne.2 (by omega)
      have c2 : (l.length == 6) = false := beq_eq_false_iff_ne.2 h6
      simp (maxSteps := 4000000) only [icCSix, go_sem, goD_calls, eq_self, implies_true, Int.reduceEq, Int.reduceBEq, Int.reduceBNe, Int.reduceLE, Int.reduceLT, Int.reduceAdd, Int.reduceSub, Int.reduceMul, Int.reduceNeg, Nat.reduceMul, Nat.reduceSub, Nat.reduceLeDiff, Nat.reduceLT, Nat.reduceEqDiff, Nat.reduceAdd, reduceCtorEq, ↓reduceIte, reduceIte, c1]
      refine ret _ _ _ (by ((try simp only []); repeat first | exact HLe.refl _ | refine HLe.cons (by simp only [hget, Nat.reduceEqDiff, Nat.left_eq_add, Nat.add_eq_left, nm_ne2, nm_en2, nm_ne3, nm_en3, nm_ne4, nm_en4, nm_ne5, nm_en5, reduceIte, ↓reduceIte] <;> first | rfl | ((repeat rw [if_neg (by omega)]) <;> rfl)) ?_ | refine HLe.skip hnm (by omega) ?_ | refine HLe.frz hnm (by omega) ?_ | refine HLe.del hnm (by omega) ?_)) ?_
      unfold sixB
      rw [c2, Bool.false_and]
  · exact hsp.elim

def WCCommon : Opts := mkWE 21 [] [] [] 184 [] []
def icCCommon : IC := (.seq (.seq (.ops [(.u (.mov 4 (.c (.int .i64 0))))]) (.tr [0, 1])) (.seq (.seq (.ops [(.u (.mov 5 (.c (.int .i64 0))))]) (.tr [0, 1, 5])) (.seq (.seq (.seq (.ops [(.u (.mov 8 (.s 0))), (.u (.len 9 false (.s 8))), (.u (.mov 10 (.c (.int .i64 0))))]) (.tr [9, 8, 1, 10, 5])) (.block 0 (.loop (.seq (.seq (.ops [(.u (.cmp 11 .lss (.s 10) (.s 9)))]) (.tr [11, 10, 9, 8, 1, 5])) (.seq (.cond (.s 11) .skip (.exit 0)) (.seq (.block 1 (.seq (.seq (.ops [(.u (.iad 12 3 (.int .i64) (.s 8) (.s 10))), (.u (.ld 13 (.int .i64) (.s 12))), (.u (.mov 7 (.s 13)))]) (.tr [7, 10, 9, 8, 1, 5])) (.seq (.seq (.ops [(.u (.mov 14 (.s 1))), (.u (.mov 15 (.s 7))), (.u (.call 16 (.c (.clo 69 [])) [(.s 14), (.s 15)] [(some 3), none] true))]) (.tr [16, 10, 9, 8, 1, 5])) (.cond (.s 16) (.seq (.ops [(.u (.mov 17 (.s 5))), (.u (.bin 18 .add .i64 (.s 17) (.c (.int .i64 1)))), (.u (.mov 5 (.s 18)))]) (.tr [10, 9, 8, 1, 5])) .skip)))) (.seq (.ops [(.u (.bin 19 .add .i64 (.s 10) (.c (.int .i64 1)))), (.u (.mov 10 (.s 19)))]) (.tr [9, 8, 1, 10, 5])))))))) (.seq (.seq (.ops [(.u (.mov 20 (.s 5))), (.u (.mov 4 (.s 20)))]) (.tr [4])) .ret))))
def rsCCommon : List RV := [(.t 4)]
theorem irCCommon : fnIR Tryd.prog WCCommon 91 = some (icCCommon, rsCCommon) := by kernel_rfl
def commonN (a b : List D) : Nat := a.countP (fun x => hasI b x.i)
def spCCommon : FSpec := fun args h nx K => match args with
  | [.dat (.slice t) a, .dat (.slice t') b] => t = 3 ∧ t' = 3 ∧ K (.int .i64 (commonN a.l b.l)) h
  | _ => False
theorem countD_step {p : D → Bool} {l : List D} {i : Nat} (hi : i < l.length) : ((l.take (i + 1)).countP p : Int) = ((l.take i).countP p : Int) + (if p (l.getD i .nil) then 1 else 0) := by
  rw [List.take_add_one, List.getElem?_eq_getElem hi, List.countP_append, List.getD_eq_getElem?_getD, List.getElem?_eq_getElem hi]
  simp only [Option.toList_some, List.countP_cons, List.countP_nil, Option.getD_some, Nat.zero_add]
  split <;> simp
set_option maxHeartbeats 4000000 in
set_option maxRecDepth 8000 in
theorem vCCommon {E : Nat → Value} (hE : Errs2 Tryd.prog (some 184) E) : Valid Tryd.prog E (gs []) 91 spCCommon := by
  refine valid_go (W := WCCommon) hE (allValid_bot.add (up (vSContains hE))) irCCommon (by decide) (fun args h nx K hsp hok hnm => ?_)
  unfold spCCommon at hsp
  split at hsp
  · rename_i t a t' d
    obtain ⟨rfl, rfl, hK⟩ := hsp
    refine ⟨by simp [WCCommon, mkW, mkWE, mkWF], fun Q hQ => ?_⟩
    obtain ⟨ha, _⟩ := hok
    simp only [SV.ok] at ha
    obtain ⟨ha1, ha2, ha3⟩ := Wt.slice ha; generalize a.l = l at *; subst ha1
    have hml : maxLen ≤ 9223372036854775807 := by decide
    simp (maxSteps := 4000000) only [icCCommon, go_sem, goD_calls, eq_self, implies_true, Int.reduceEq, Int.reduceBEq, Int.reduceBNe, Int.reduceLE, Int.reduceLT, Int.reduceAdd, Int.reduceSub, Int.reduceMul, Int.reduceNeg, Nat.reduceMul, Nat.reduceSub, Nat.reduceLeDiff, Nat.reduceLT, Nat.reduceEqDiff, Nat.reduceAdd, reduceCtorEq, ↓reduceIte, reduceIte]
    refine go_loop (α := { i : Nat // i ≤ l.length }) (I := fun i => { f := [(9, .int .i64 l.length), (8, .dat (.slice 3) (.list l)), (1, .dat (.slice 3) d), (10, .int .i64 i.1), (5, .int .i64 (commonN (l.take i.1) d.l))], h := h, nx := nx }) (μ := fun i => l.length - i.1) _ _ _ ⟨0, by omega⟩ ?_ (fun i B hB => ?_)
    · refine leq_id ?_ (by (simp only [frLt_cons, frLt_nil, and_true, SV.lt, SV.ltL, true_and] <;> omega)) (by ((try simp only []); repeat first | exact HLe.refl _ | refine HLe.cons (by simp only [hget, Nat.reduceEqDiff, Nat.left_eq_add, Nat.add_eq_left, nm_ne2, nm_en2, nm_ne3, nm_en3, nm_ne4, nm_en4, nm_ne5, nm_en5, reduceIte, ↓reduceIte] <;> first | rfl | ((repeat rw [if_neg (by omega)]) <;> rfl)) ?_ | refine HLe.skip hnm (by omega) ?_ | refine HLe.frz hnm (by omega) ?_ | refine HLe.del hnm (by omega) ?_)) (by (repeat first | exact HLt.mono hnm (by simp only [] <;> omega) | refine HLt.cons (by simp only [] <;> omega) (by simp only [Tok.lt, SV.ltL, SV.lt, and_true, true_and] <;> omega) ?_)) (by simp only [] <;> omega)
      simp only [frEq_cons, frEq_nil, frIn_cons, frIn_nil, and_true, fget_cons, Nat.reduceEqDiff, reduceIte, ↓reduceIte, true_and, SV.ren, SV.renL, ren1]
      simp [commonN]
    · obtain ⟨i, hi⟩ := i
      simp only at hB
      by_cases hil : i < l.length
      · have c1 : decide ((i : Int) < (l.length : Int)) = true := decide_eq_true (by omega)
        have hs := countD_step (p := fun x => hasI d.l x.i) hil
        have hc : commonN (l.take i) d.l ≤ i := Nat.le_trans List.countP_le_length (by rw [List.length_take]; omega)
        have next : ∀ S', Leq nx S' { f := [(9, .int .i64 l.length), (8, .dat (.slice 3) (.list l)), (1, .dat (.slice 3) d), (10, .int .i64 ((i + 1 : Nat) : Int)), (5, .int .i64 (commonN (l.take (i + 1)) d.l))], h := h, nx := nx } → B S' := fun S' hl =>
          hB _ ⟨i + 1, by omega⟩ (by simp only []; omega) hl
        cases e : hasI d.l (l.getD i .nil).i
        · simp (maxSteps := 4000000) only [go_sem, goD_calls, eq_self, implies_true, Int.reduceEq, Int.reduceBEq, Int.reduceBNe, Int.reduceLE, Int.reduceLT, Int.reduceAdd, Int.reduceSub, Int.reduceMul, Int.reduceNeg, Nat.reduceMul, Nat.reduceSub, Nat.reduceLeDiff, Nat.reduceLT, Nat.reduceEqDiff, Nat.reduceAdd, reduceCtorEq, ↓reduceIte, reduceIte, c1, e, spSContains, Int.toNat_natCast, min_i64, max_i64]
          repeat refine ⟨by omega, ?_⟩
          refine next _ ?_
          refine leq_id ?_ (by (simp only [frLt_cons, frLt_nil, and_true, SV.lt, SV.ltL, true_and] <;> omega)) (by ((try simp only []); repeat first | exact HLe.refl _ | refine HLe.cons (by simp only [hget, Nat.reduceEqDiff, Nat.left_eq_add, Nat.add_eq_left, nm_ne2, nm_en2, nm_ne3, nm_en3, nm_ne4, nm_en4, nm_ne5, nm_en5, reduceIte, ↓reduceIte] <;> first | rfl | ((repeat rw [if_neg (by omega)]) <;> rfl)) ?_ | refine HLe.skip hnm (by omega) ?_ | refine HLe.frz hnm (by omega) ?_ | refine HLe.del hnm (by omega) ?_)) (by (repeat first | exact HLt.mono hnm (by simp only [] <;> omega) | refine HLt.cons (by simp only [] <;> omega) (by simp only [Tok.lt, SV.ltL, SV.lt, and_true, true_and] <;> omega) ?_)) (by simp only [] <;> omega)
          simp only [frEq_cons, frEq_nil, frIn_cons, frIn_nil, and_true, fget_cons, Nat.reduceEqDiff, reduceIte, ↓reduceIte, true_and, SV.ren, SV.renL, ren1]
          simp only [commonN, hs, e, Bool.false_eq_true, if_false, if_true, reduceIte, Int.add_zero, Int.natCast_add, Int.cast_ofNat_Int, and_self, true_and]
        · simp (maxSteps := 4000000) only [go_sem, goD_calls, eq_self, implies_true, Int.reduceEq, Int.reduceBEq, Int.reduceBNe, Int.reduceLE, Int.reduceLT, Int.reduceAdd, Int.reduceSub, Int.reduceMul, Int.reduceNeg, Nat.reduceMul, Nat.reduceSub, Nat.reduceLeDiff, Nat.reduceLT, Nat.reduceEqDiff, Nat.reduceAdd, reduceCtorEq, ↓reduceIte, reduceIte, c1, e, spSContains, Int.toNat_natCast, min_i64, max_i64]
          repeat refine ⟨by omega, ?_⟩
          refine next _ ?_
          refine leq_id ?_ (by (simp only [frLt_cons, frLt_nil, and_true, SV.lt, SV.ltL, true_and] <;> omega)) (by ((try simp only []); repeat first | exact HLe.refl _ | refine HLe.cons (by simp only [hget, Nat.reduceEqDiff, Nat.left_eq_add, Nat.add_eq_left, nm_ne2, nm_en2, nm_ne3, nm_en3, nm_ne4, nm_en4, nm_ne5, nm_en5, reduceIte, ↓reduceIte] <;> first | rfl | ((repeat rw [if_neg (by omega)]) <;> rfl)) ?_ | refine HLe.skip hnm (by omega) ?_ | refine HLe.frz hnm (by omega) ?_ | refine HLe.del hnm (by omega) ?_)) (by (repeat first | exact HLt.mono hnm (by simp only [] <;> omega) | refine HLt.cons (by simp only [] <;> omega) (by simp only [Tok.lt, SV.ltL, SV.lt, and_true, true_and] <;> omega) ?_)) (by simp only [] <;> omega)
          simp only [frEq_cons, frEq_nil, frIn_cons, frIn_nil, and_true, fget_cons, Nat.reduceEqDiff, reduceIte, ↓reduceIte, true_and, SV.ren, SV.renL, ren1]
          simp only [commonN, hs, e, Bool.false_eq_true, if_false, if_true, reduceIte, Int.add_zero, Int.natCast_add, Int.cast_ofNat_Int, and_self, true_and]
      · obtain rfl : i = l.length := by omega
        have c1 : decide ((l.length : Int) < (l.length : Int)) = false := decide_eq_false (by omega)
        simp (maxSteps := 4000000) only [go_sem, goD_calls, eq_self, implies_true, Int.reduceEq, Int.reduceBEq, Int.reduceBNe, Int.reduceLE, Int.reduceLT, Int.reduceAdd, Int.reduceSub, Int.reduceMul, Int.reduceNeg, Nat.reduceMul, Nat.reduceSub, Nat.reduceLeDiff, Nat.reduceLT, Nat.reduceEqDiff, Nat.reduceAdd, reduceCtorEq, ↓reduceIte, reduceIte, c1]
        refine (hQ _ ?_).1
        rw [List.take_of_length_le (Nat.le_refl _)]
        exact fin_t (.int .i64 _) rfl rfl hnm (by ((try simp only []); repeat first | exact HLe.refl _ | refine HLe.cons (by simp only [hget, Nat.reduceEqDiff, Nat.left_eq_add, Nat.add_eq_left, nm_ne2, nm_en2, nm_ne3, nm_en3, nm_ne4, nm_en4, nm_ne5, nm_en5, reduceIte, ↓reduceIte] <;> first | rfl | ((repeat rw [if_neg (by omega)]) <;> rfl)) ?_ | refine HLe.skip hnm (by omega) ?_ | refine HLe.frz hnm (by omega) ?_ | refine HLe.del hnm (by omega) ?_)) hK
  · exact hsp.elim

/-- What is amiss with a configuration. -/
def validC (e : Int) (o n : List D) : D :=
  if e < 0 ∨ 1073741824 < e ∨ badI o = true ∨ badI n = true then .err 3
  else if sixB o = false ∨ 0 < n.length ∧ (sixB n = false ∨ commonN o n ≠ 5) then .err 4 else .nil
abbrev GCV : List Nat := [3, 4]
def cfgA (e : Int) (o n : List D) : SV := .agg [.int .i64 e, .dat (.slice 3) (.list o), .dat (.slice 3) (.list n)]
def WCValid : Opts := mkWE 53 [] [3, 4] [] 184 [3, 4] []
def icCValid : IC := (.seq (.seq (.ops [(.u (.box 1 0 (.s 0))), (.u (.mov 2 (.c (.dat .iface .nil))))]) (.tr [1])) (.seq (.seq (.seq (.ops [(.u (.fad 5 0 0 (.int .i64) 25 (.s 1))), (.u (.ld 6 (.int .i64) (.s 5))), (.u (.cmp 7 .lss (.s 6) (.c (.int .i64 0)))), (.u (.mov 8 (.s 7))), (.g 8 false (some 9) (.fad 9 0 0 (.int .i64) 25 (.s 1))), (.g 8 false (some 10) (.ld 10 (.int .i64) (.s 9))), (.g 8 false (some 11) (.cmp 11 .gtr (.s 10) (.c (.int .i64 1073741824)))), (.u (.pck 12 (.s 8) (.c (.bool true)) (.s 11)))]) (.tr [12, 1])) (.cond (.s 12) (.seq (.seq (.ops [(.u (.gld 13 3)), (.u (.mov 2 (.s 13)))]) (.tr [2])) .ret) .skip)) (.seq (.seq (.seq (.ops [(.u (.fad 14 1 1 (.slice 3) 25 (.s 1))), (.u (.ld 15 (.slice 3) (.s 14))), (.u (.fad 16 2 2 (.slice 3) 25 (.s 1))), (.u (.ld 17 (.slice 3) (.s 16))), (.u (.bsl 18 23 (.slice 3) [(.s 15), (.s 17)])), (.u (.len 19 false (.s 18))), (.u (.mov 20 (.c (.int .i64 0))))]) (.tr [19, 18, 20, 1])) (.block 0 (.loop (.seq (.seq (.ops [(.u (.cmp 21 .lss (.s 20) (.s 19)))]) (.tr [21, 20, 19, 18, 1])) (.seq (.cond (.s 21) .skip (.exit 0)) (.seq (.block 1 (.seq (.seq (.ops [(.u (.iad 22 23 (.slice 3) (.s 18) (.s 20))), (.u (.ld 23 (.slice 3) (.s 22))), (.u (.mov 4 (.s 23)))]) (.tr [4, 20, 19, 18, 1])) (.seq (.seq (.ops [(.u (.mov 24 (.s 4))), (.u (.call 25 (.c (.clo 88 [])) [(.s 24), (.c (.clo 89 []))] [(some 3), none] true))]) (.tr [25, 20, 19, 18, 1])) (.cond (.s 25) (.seq (.seq (.ops [(.u (.gld 26 3)), (.u (.mov 2 (.s 26)))]) (.tr [2])) .ret) .skip)))) (.seq (.ops [(.u (.bin 27 .add .i64 (.s 20) (.c (.int .i64 1)))), (.u (.mov 20 (.s 27)))]) (.tr [19, 18, 20, 1])))))))) (.seq (.seq (.seq (.ops [(.u (.fad 28 1 1 (.slice 3) 25 (.s 1))), (.u (.ld 29 (.slice 3) (.s 28))), (.u (.call 30 (.c (.clo 90 [])) [(.s 29)] [(some 3)] true)), (.u (.una 31 .not (.s 30))), (.u (.mov 32 (.s 31))), (.g 32 false (some 33) (.fad 33 2 2 (.slice 3) 25 (.s 1))), (.g 32 false (some 34) (.ld 34 (.slice 3) (.s 33))), (.g 32 false (some 35) (.len 35 false (.s 34))), (.g 32 false (some 36) (.cmp 36 .gtr (.s 35) (.c (.int .i64 0)))), (.g 32 false (some 37) (.mov 37 (.s 36))), (.g 37 true (some 38) (.fad 38 2 2 (.slice 3) 25 (.s 1))), (.g 37 true (some 39) (.ld 39 (.slice 3) (.s 38))), (.g 37 true (some 40) (.call 40 (.c (.clo 90 [])) [(.s 39)] [(some 3)] true)), (.g 37 true (some 41) (.una 41 .not (.s 40))), (.g 37 true (some 42) (.mov 42 (.s 41))), (.g 42 false (some 43) (.fad 43 1 1 (.slice 3) 25 (.s 1))), (.g 42 false (some 44) (.ld 44 (.slice 3) (.s 43))), (.g 42 false (some 45) (.fad 45 2 2 (.slice 3) 25 (.s 1))), (.g 42 false (some 46) (.ld 46 (.slice 3) (.s 45))), (.g 42 false (some 47) (.call 47 (.c (.clo 91 [])) [(.s 44), (.s 46)] [(some 3), (some 3)] true)), (.g 42 false (some 48) (.cmp 48 .neq (.s 47) (.c (.int .i64 5)))), (.g 37 true (some 49) (.pck 49 (.s 42) (.c (.bool true)) (.s 48))), (.g 32 false (some 50) (.pck 50 (.s 37) (.s 49) (.c (.bool false)))), (.u (.pck 51 (.s 32) (.c (.bool true)) (.s 50)))]) (.tr [51])) (.cond (.s 51) (.seq (.seq (.ops [(.u (.gld 52 4)), (.u (.mov 2 (.s 52)))]) (.tr [2])) .ret) .skip)) (.seq (.seq (.ops [(.u (.mov 2 (.c (.dat .iface .nil))))]) (.tr [2])) .ret)))))
def rsCValid : List RV := [(.t 2)]
theorem irCValid : fnIR Tryd.prog WCValid 49 = some (icCValid, rsCValid) := by kernel_rfl
def spCValid : FSpec := fun args h nx K => match args with
  | [.agg [.int .i64 e, .dat (.slice t) o, .dat (.slice t') n]] => t = 3 ∧ t' = 3 ∧ K (.dat .iface (validC e o.l n.l)) h
  | _ => False
set_option maxHeartbeats 4000000 in
set_option maxRecDepth 8000 in
theorem vCValid {E : Nat → Value} (hE : Errs2 Tryd.prog (some 184) E) : Valid Tryd.prog E (gs GCV) 49 spCValid := by
  refine valid_go (W := WCValid) hE (((allValid_bot.add (up (vSContainsF hE))).add (up (vCSix hE))).add (up (vCCommon hE))) irCValid (by decide) (fun args h nx K hsp hok hnm => ?_)
  unfold spCValid at hsp
  split at hsp
  · rename_i e t o t' n
    obtain ⟨rfl, rfl, hK⟩ := hsp
    refine ⟨by simp [WCValid, mkW, mkWE, mkWF], fun Q hQ => ?_⟩
    obtain ⟨⟨_, ho, hn, _⟩, _⟩ := hok
    simp only [SV.ok] at ho hn
    obtain ⟨ho1, ho2, ho3⟩ := Wt.slice ho; generalize o.l = xs at *; subst ho1
    obtain ⟨hn1, hn2, hn3⟩ := Wt.slice hn; generalize n.l = ys at *; subst hn1
    have hml : maxLen ≤ 9223372036854775807 := by decide
    have ret : ∀ d h' nx', HLe h h' → d = validC e xs ys → Q Ex.ret ⟨[(2, .dat .iface d)], h', nx'⟩ := fun d h' nx' hh hd => by
      refine (hQ _ ?_).1
      subst hd
      exact fin_t (.dat .iface _) rfl rfl hnm hh hK
    by_cases h1 : e < 0
    · have c1 : decide (e < 0) = true := decide_eq_true h1
      simp (maxSteps := 4000000) only [icCValid, go_sem, goD_calls, eq_self, implies_true, Int.reduceEq, Int.reduceBEq, Int.reduceBNe, Int.reduceLE, Int.reduceLT, Int.reduceAdd, Int.reduceSub, Int.reduceMul, Int.reduceNeg, Nat.reduceMul, Nat.reduceSub, Nat.reduceLeDiff, Nat.reduceLT, Nat.reduceEqDiff, Nat.reduceAdd, reduceCtorEq, ↓reduceIte, reduceIte, c1]
      exact ret _ _ _ (by ((try simp only []); repeat first | exact HLe.refl _ | refine HLe.cons (by simp only [hget, Nat.reduceEqDiff, Nat.left_eq_add, Nat.add_eq_left, nm_ne2, nm_en2, nm_ne3, nm_en3, nm_ne4, nm_en4, nm_ne5, nm_en5, reduceIte, ↓reduceIte] <;> first | rfl | ((repeat rw [if_neg (by omega)]) <;> rfl)) ?_ | refine HLe.skip hnm (by omega) ?_ | refine HLe.frz hnm (by omega) ?_ | refine HLe.del hnm (by omega) ?_)) (by unfold validC; rw [if_pos (by simp [h1])])
    have c1 : decide (e < 0) = false := decide_eq_false h1
    by_cases h2 : 1073741824 < e
    · have c2 : decide (1073741824 < e) = true := decide_eq_true h2
      simp (maxSteps := 4000000) only [icCValid, go_sem, goD_calls, eq_self, implies_true, Int.reduceEq, Int.reduceBEq, Int.reduceBNe, Int.reduceLE, Int.reduceLT, Int.reduceAdd, Int.reduceSub, Int.reduceMul, Int.reduceNeg, Nat.reduceMul, Nat.reduceSub, Nat.reduceLeDiff, Nat.reduceLT, Nat.reduceEqDiff, Nat.reduceAdd, reduceCtorEq, ↓reduceIte, reduceIte, c1, c2]
      exact ret _ _ _ (by ((try simp only []); repeat first | exact HLe.refl _ | refine HLe.cons (by simp only [hget, Nat.reduceEqDiff, Nat.left_eq_add, Nat.add_eq_left, nm_ne2, nm_en2, nm_ne3, nm_en3, nm_ne4, nm_en4, nm_ne5, nm_en5, reduceIte, ↓reduceIte] <;> first | rfl | ((repeat rw [if_neg (by omega)]) <;> rfl)) ?_ | refine HLe.skip hnm (by omega) ?_ | refine HLe.frz hnm (by omega) ?_ | refine HLe.del hnm (by omega) ?_)) (by unfold validC; rw [if_pos (by simp [h2])])
    have c2 : decide (1073741824 < e) = false := decide_eq_false h2
    simp (maxSteps := 4000000) only [icCValid, go_sem, goD_calls, eq_self, implies_true, Int.reduceEq, Int.reduceBEq, Int.reduceBNe, Int.reduceLE, Int.reduceLT, Int.reduceAdd, Int.reduceSub, Int.reduceMul, Int.reduceNeg, Nat.reduceMul, Nat.reduceSub, Nat.reduceLeDiff, Nat.reduceLT, Nat.reduceEqDiff, Nat.reduceAdd, reduceCtorEq, ↓reduceIte, reduceIte, c1, c2]
    refine go_loop (α := { i : Nat // i ≤ 2 ∧ (0 < i → badI xs = false) ∧ (1 < i → badI ys = false) }) (I := fun i => { f := [(19, .int .i64 2), (18, .dat (.slice 23) (.list [.list xs, .list ys])), (20, .int .i64 i.1), (1, .ptr nx 0)], h := (nx, .cells [.int .i64 e, .dat (.slice 3) (.list xs), .dat (.slice 3) (.list ys)]) :: h, nx := nx + 1 }) (μ := fun i => 2 - i.1) _ _ _ ⟨0, by omega, by omega, by omega⟩ ?_ (fun i B hB => ?_)
    · refine leq_nil (.frz (nx + 1) (.refl _)) ?_
      simp only [go_sem, goD_calls, eq_self, implies_true, Int.reduceEq, Int.reduceBEq, Int.reduceBNe, Int.reduceLE, Int.reduceLT, Int.reduceAdd, Int.reduceSub, Int.reduceMul, Int.reduceNeg, Nat.reduceMul, Nat.reduceSub, Nat.reduceLeDiff, Nat.reduceLT, Nat.reduceEqDiff, Nat.reduceAdd, reduceCtorEq, ↓reduceIte, reduceIte]
      refine leq_id ?_ (by (simp only [frLt_cons, frLt_nil, and_true, SV.lt, SV.ltL, true_and] <;> omega)) (by ((try simp only []); repeat first | exact HLe.refl _ | refine HLe.cons (by simp only [hget, Nat.reduceEqDiff, Nat.left_eq_add, Nat.add_eq_left, nm_ne2, nm_en2, nm_ne3, nm_en3, nm_ne4, nm_en4, nm_ne5, nm_en5, reduceIte, ↓reduceIte] <;> first | rfl | ((repeat rw [if_neg (by omega)]) <;> rfl)) ?_ | refine HLe.skip hnm (by omega) ?_ | refine HLe.frz hnm (by omega) ?_ | refine HLe.del hnm (by omega) ?_)) (by (repeat first | exact HLt.mono hnm (by simp only [] <;> omega) | refine HLt.cons (by simp only [] <;> omega) (by simp only [Tok.lt, SV.ltL, SV.lt, and_true, true_and] <;> omega) ?_)) (by simp only [] <;> omega)
      simp only [frEq_cons, frEq_nil, frIn_cons, frIn_nil, and_true, fget_cons, Nat.reduceEqDiff, reduceIte, ↓reduceIte, true_and, SV.ren, SV.renL, ren1]
      simp
    · obtain ⟨i, hi, hg0, hg1⟩ := i
      simp only at hB
      have cbad : badI xs = true ∨ badI ys = true → .err 3 = validC e xs ys := fun hb => by
        unfold validC
        rw [if_pos (by rcases hb with hb | hb <;> simp [hb])]
      rcases (by omega : i = 0 ∨ i = 1 ∨ i = 2) with rfl | rfl | rfl
      · have c3 : decide (((0 : Nat) : Int) < 2) = true := rfl
        have e0 : [D.list xs, D.list ys].getD 0 .nil = .list xs := rfl
        rcases bool_ft (badI xs) with hb | hb
        · simp (maxSteps := 4000000) only [go_sem, goD_calls, eq_self, implies_true, Int.reduceEq, Int.reduceBEq, Int.reduceBNe, Int.reduceLE, Int.reduceLT, Int.reduceAdd, Int.reduceSub, Int.reduceMul, Int.reduceNeg, Nat.reduceMul, Nat.reduceSub, Nat.reduceLeDiff, Nat.reduceLT, Nat.reduceEqDiff, Nat.reduceAdd, reduceCtorEq, ↓reduceIte, reduceIte, c3, e0, spSContainsF, hb, Int.toNat_natCast, min_i64, max_i64]
          repeat refine ⟨by omega, ?_⟩
          refine hB _ ⟨1, by omega, fun _ => hb, by omega⟩ (by simp only []; omega) ?_
          refine leq_id ?_ (by (simp only [frLt_cons, frLt_nil, and_true, SV.lt, SV.ltL, true_and] <;> omega)) (by ((try simp only []); repeat first | exact HLe.refl _ | refine HLe.cons (by simp only [hget, Nat.reduceEqDiff, Nat.left_eq_add, Nat.add_eq_left, nm_ne2, nm_en2, nm_ne3, nm_en3, nm_ne4, nm_en4, nm_ne5, nm_en5, reduceIte, ↓reduceIte] <;> first | rfl | ((repeat rw [if_neg (by omega)]) <;> rfl)) ?_ | refine HLe.skip hnm (by omega) ?_ | refine HLe.frz hnm (by omega) ?_ | refine HLe.del hnm (by omega) ?_)) (by (repeat first | exact HLt.mono hnm (by simp only [] <;> omega) | refine HLt.cons (by simp only [] <;> omega) (by simp only [Tok.lt, SV.ltL, SV.lt, and_true, true_and] <;> omega) ?_)) (by simp only [] <;> omega)
          simp only [frEq_cons, frEq_nil, frIn_cons, frIn_nil, and_true, fget_cons, Nat.reduceEqDiff, reduceIte, ↓reduceIte, true_and, SV.ren, SV.renL, ren1]
          simp
        · simp (maxSteps := 4000000) only [go_sem, goD_calls, eq_self, implies_true, Int.reduceEq, Int.reduceBEq, Int.reduceBNe, Int.reduceLE, Int.reduceLT, Int.reduceAdd, Int.reduceSub, Int.reduceMul, Int.reduceNeg, Nat.reduceMul, Nat.reduceSub, Nat.reduceLeDiff, Nat.reduceLT, Nat.reduceEqDiff, Nat.reduceAdd, reduceCtorEq, ↓reduceIte, reduceIte, c3, e0, spSContainsF, hb, Int.toNat_natCast, min_i64, max_i64]
          repeat refine ⟨by omega, ?_⟩
          exact ret _ _ _ (by ((try simp only []); repeat first | exact HLe.refl _ | refine HLe.cons (by simp only [hget, Nat.reduceEqDiff, Nat.left_eq_add, Nat.add_eq_left, nm_ne2, nm_en2, nm_ne3, nm_en3, nm_ne4, nm_en4, nm_ne5, nm_en5, reduceIte, ↓reduceIte] <;> first | rfl | ((repeat rw [if_neg (by omega)]) <;> rfl)) ?_ | refine HLe.skip hnm (by omega) ?_ | refine HLe.frz hnm (by omega) ?_ | refine HLe.del hnm (by omega) ?_)) (cbad (.inl hb))
      · have c3 : decide (((1 : Nat) : Int) < 2) = true := rfl
        have e0 : [D.list xs, D.list ys].getD 1 .nil = .list ys := rfl
        rcases bool_ft (badI ys) with hb | hb
        · simp (maxSteps := 4000000) only [go_sem, goD_calls, eq_self, implies_true, Int.reduceEq, Int.reduceBEq, Int.reduceBNe, Int.reduceLE, Int.reduceLT, Int.reduceAdd, Int.reduceSub, Int.reduceMul, Int.reduceNeg, Nat.reduceMul, Nat.reduceSub, Nat.reduceLeDiff, Nat.reduceLT, Nat.reduceEqDiff, Nat.reduceAdd, reduceCtorEq, ↓reduceIte, reduceIte, c3, e0, spSContainsF, hb, Int.toNat_natCast, min_i64, max_i64]
          repeat refine ⟨by omega, ?_⟩
          refine hB _ ⟨2, by omega, fun _ => hg0 (by omega), fun _ => hb⟩ (by simp only []; omega) ?_
          refine leq_id ?_ (by (simp only [frLt_cons, frLt_nil, and_true, SV.lt, SV.ltL, true_and] <;> omega)) (by ((try simp only []); repeat first | exact HLe.refl _ | refine HLe.cons (by simp only [hget, Nat.reduceEqDiff, Nat.left_eq_add, Nat.add_eq_left, nm_ne2, nm_en2, nm_ne3, nm_en3, nm_ne4, nm_en4, nm_ne5, nm_en5, reduceIte, ↓reduceIte] <;> first | rfl | ((repeat rw [if_neg (by omega)]) <;> rfl)) ?_ | refine HLe.skip hnm (by omega) ?_ | refine HLe.frz hnm (by omega) ?_ | refine HLe.del hnm (by omega) ?_)) (by (repeat first | exact HLt.mono hnm (by simp only [] <;> omega) | refine HLt.cons (by simp only [] <;> omega) (by simp only [Tok.lt, SV.ltL, SV.lt, and_true, true_and] <;> omega) ?_)) (by simp only [] <;> omega)
          simp only [frEq_cons, frEq_nil, frIn_cons, frIn_nil, and_true, fget_cons, Nat.reduceEqDiff, reduceIte, ↓reduceIte, true_and, SV.ren, SV.renL, ren1]
          simp
        · simp (maxSteps := 4000000) only [go_sem, goD_calls, eq_self, implies_true, Int.reduceEq, Int.reduceBEq, Int.reduceBNe, Int.reduceLE, Int.reduceLT, Int.reduceAdd, Int.reduceSub, Int.reduceMul, Int.reduceNeg, Nat.reduceMul, Nat.reduceSub, Nat.reduceLeDiff, Nat.reduceLT, Nat.reduceEqDiff, Nat.reduceAdd, reduceCtorEq, ↓reduceIte, reduceIte, c3, e0, spSContainsF, hb, Int.toNat_natCast, min_i64, max_i64]
          repeat refine ⟨by omega, ?_⟩
          exact ret _ _ _ (by ((try simp only []); repeat first | exact HLe.refl _ | refine HLe.cons (by simp only [hget, Nat.reduceEqDiff, Nat.left_eq_add, Nat.add_eq_left, nm_ne2, nm_en2, nm_ne3, nm_en3, nm_ne4, nm_en4, nm_ne5, nm_en5, reduceIte, ↓reduceIte] <;> first | rfl | ((repeat rw [if_neg (by omega)]) <;> rfl)) ?_ | refine HLe.skip hnm (by omega) ?_ | refine HLe.frz hnm (by omega) ?_ | refine HLe.del hnm (by omega) ?_)) (cbad (.inr hb))
      · have c3 : decide (((2 : Nat) : Int) < 2) = false := rfl
        have b0 := hg0 (by omega)
        have b1 := hg1 (by omega)
        have hv : validC e xs ys = if sixB xs = false ∨ 0 < ys.length ∧ (sixB ys = false ∨ commonN xs ys ≠ 5) then .err 4 else .nil := by
          unfold validC
          rw [if_neg (by simp [b0, b1, h1, h2])]
        rw [hv] at ret
        rcases bool_ft (sixB xs) with s1 | s1
        · simp (maxSteps := 4000000) only [go_sem, goD_calls, eq_self, implies_true, Int.reduceEq, Int.reduceBEq, Int.reduceBNe, Int.reduceLE, Int.reduceLT, Int.reduceAdd, Int.reduceSub, Int.reduceMul, Int.reduceNeg, Nat.reduceMul, Nat.reduceSub, Nat.reduceLeDiff, Nat.reduceLT, Nat.reduceEqDiff, Nat.reduceAdd, reduceCtorEq, ↓reduceIte, reduceIte, c3, spCSix, s1]
          exact ret _ _ _ (by ((try simp only []); repeat first | exact HLe.refl _ | refine HLe.cons (by simp only [hget, Nat.reduceEqDiff, Nat.left_eq_add, Nat.add_eq_left, nm_ne2, nm_en2, nm_ne3, nm_en3, nm_ne4, nm_en4, nm_ne5, nm_en5, reduceIte, ↓reduceIte] <;> first | rfl | ((repeat rw [if_neg (by omega)]) <;> rfl)) ?_ | refine HLe.skip hnm (by omega) ?_ | refine HLe.frz hnm (by omega) ?_ | refine HLe.del hnm (by omega) ?_)) (by rw [if_pos (.inl s1)])
        by_cases hy : 0 < ys.length
        · have c4 : decide (0 < (ys.length : Int)) = true := decide_eq_true (by omega)
          rcases bool_ft (sixB ys) with s2 | s2
          · simp (maxSteps := 4000000) only [go_sem, goD_calls, eq_self, implies_true, Int.reduceEq, Int.reduceBEq, Int.reduceBNe, Int.reduceLE, Int.reduceLT, Int.reduceAdd, Int.reduceSub, Int.reduceMul, Int.reduceNeg, Nat.reduceMul, Nat.reduceSub, Nat.reduceLeDiff, Nat.reduceLT, Nat.reduceEqDiff, Nat.reduceAdd, reduceCtorEq, ↓reduceIte, reduceIte, c3, c4, spCSix, s1, s2]
            exact ret _ _ _ (by ((try simp only []); repeat first | exact HLe.refl _ | refine HLe.cons (by simp only [hget, Nat.reduceEqDiff, Nat.left_eq_add, Nat.add_eq_left, nm_ne2, nm_en2, nm_ne3, nm_en3, nm_ne4, nm_en4, nm_ne5, nm_en5, reduceIte, ↓reduceIte] <;> first | rfl | ((repeat rw [if_neg (by omega)]) <;> rfl)) ?_ | refine HLe.skip hnm (by omega) ?_ | refine HLe.frz hnm (by omega) ?_ | refine HLe.del hnm (by omega) ?_)) (by rw [if_pos (.inr ⟨hy, .inl s2⟩)])
          by_cases h5 : commonN xs ys = 5
          · have c5 : ((commonN xs ys : Int) != 5) = false := by rw [h5]; rfl
            simp (maxSteps := 4000000) only [go_sem, goD_calls, eq_self, implies_true, Int.reduceEq, Int.reduceBEq, Int.reduceBNe, Int.reduceLE, Int.reduceLT, Int.reduceAdd, Int.reduceSub, Int.reduceMul, Int.reduceNeg, Nat.reduceMul, Nat.reduceSub, Nat.reduceLeDiff, Nat.reduceLT, Nat.reduceEqDiff, Nat.reduceAdd, reduceCtorEq, ↓reduceIte, reduceIte, c3, c4, spCSix, spCCommon, s1, s2, c5]
            exact ret _ _ _ (by ((try simp only []); repeat first | exact HLe.refl _ | refine HLe.cons (by simp only [hget, Nat.reduceEqDiff, Nat.left_eq_add, Nat.add_eq_left, nm_ne2, nm_en2, nm_ne3, nm_en3, nm_ne4, nm_en4, nm_ne5, nm_en5, reduceIte, ↓reduceIte] <;> first | rfl | ((repeat rw [if_neg (by omega)]) <;> rfl)) ?_ | refine HLe.skip hnm (by omega) ?_ | refine HLe.frz hnm (by omega) ?_ | refine HLe.del hnm (by omega) ?_)) (by rw [if_neg (by rw [s1, s2, h5]; simp)])
          · have c5 : ((commonN xs ys : Int) != 5) = true := by rw [bne_iff_ne]; omega
            simp (maxSteps := 4000000) only [go_sem, goD_calls, eq_self, implies_true, Int.reduceEq, Int.reduceBEq, Int.reduceBNe, Int.reduceLE, Int.reduceLT, Int.reduceAdd, Int.reduceSub, Int.reduceMul, Int.reduceNeg, Nat.reduceMul, Nat.reduceSub, Nat.reduceLeDiff, Nat.reduceLT, Nat.reduceEqDiff, Nat.reduceAdd, reduceCtorEq, ↓reduceIte, reduceIte, c3, c4, spCSix, spCCommon, s1, s2, c5]
            exact ret _ _ _ (by ((try simp only []); repeat first | exact HLe.refl _ | refine HLe.cons (by simp only [hget, Nat.reduceEqDiff, Nat.left_eq_add, Nat.add_eq_left, nm_ne2, nm_en2, nm_ne3, nm_en3, nm_ne4, nm_en4, nm_ne5, nm_en5, reduceIte, ↓reduceIte] <;> first | rfl | ((repeat rw [if_neg (by omega)]) <;> rfl)) ?_ | refine HLe.skip hnm (by omega) ?_ | refine HLe.frz hnm (by omega) ?_ | refine HLe.del hnm (by omega) ?_)) (by rw [if_pos (.inr ⟨hy, .inr h5⟩)])
        · have c4 : decide (0 < (ys.length : Int)) = false := decide_eq_false (by omega)
          simp (maxSteps := 4000000) only [go_sem, goD_calls, eq_self, implies_true, Int.reduceEq, Int.reduceBEq, Int.reduceBNe, Int.reduceLE, Int.reduceLT, Int.reduceAdd, Int.reduceSub, Int.reduceMul, Int.reduceNeg, Nat.reduceMul, Nat.reduceSub, Nat.reduceLeDiff, Nat.reduceLT, Nat.reduceEqDiff, Nat.reduceAdd, reduceCtorEq, ↓reduceIte, reduceIte, c3, c4, spCSix, s1]
          exact ret _ _ _ (by ((try simp only []); repeat first | exact HLe.refl _ | refine HLe.cons (by simp only [hget, Nat.reduceEqDiff, Nat.left_eq_add, Nat.add_eq_left, nm_ne2, nm_en2, nm_ne3, nm_en3, nm_ne4, nm_en4, nm_ne5, nm_en5, reduceIte, ↓reduceIte] <;> first | rfl | ((repeat rw [if_neg (by omega)]) <;> rfl)) ?_ | refine HLe.skip hnm (by omega) ?_ | refine HLe.frz hnm (by omega) ?_ | refine HLe.del hnm (by omega) ?_)) (by rw [if_neg (by rw [s1]; simp; omega)])
  · exact hsp.elim
end Go.Proofs.YtkojpimkngmckaaDoor
