/- Chapter 6: Of. -/
import Derived.Test.YtkmilijehekdoaaDoorQuorA
import Derived.Test.YtkmilijehekdoaaDoorAt
namespace Go.Proofs.YtkmilijehekdoaaDoor
set_option linter.unusedVariables false
set_option linter.unusedSimpArgs false
open Go Go.Fw
attribute [local go_sem] walkSet evMdl evMupD evMup evLkp frpL eltP eltV eltK preF preP prePt prePd frzP evNlq ev frOf oget ogets argSs argS evMm frzL evBin evWrp evShf evCmp evUna evNil evBeq evLd evSt evFad evIad evAad evLen evSln evEls evApp evParts evSlc evNlc evMif evPck evFld evBld evTas evIfq evSeq evSl0 evBxf evAgl evAgq evBsf hget hset hdel cellAt arrAt setCellAt setArrAt takeC lenC svCells SV.okc SV.one ldSV Fw.isAgg explode explodeL toD toDL toD1 Ty.size Ty.sizeL frz1 Fr.sub Heap.sub Tok.sub SV.sub SV.subL

def WSortedF : Opts := mkWE 9 [] [] [7] 152 [] []
def icSortedF : IC := (.seq (.seq (.ops [(.u (.mov 2 (.c .nils)))]) (.tr [0])) (.seq (.seq (.ops [(.u (.mov 4 (.s 0))), (.u (.call 5 (.c (.clo 48 [])) [(.s 4)] [none] true)), (.u (.mov 3 (.s 5)))]) (.tr [3])) (.seq (.seq (.ops [(.u (.mov 6 (.s 3))), (.u (.call 7 (.c (.clo 49 [])) [(.s 6)] [(some 3)] false))]) (.tr [3])) (.seq (.seq (.ops [(.u (.mov 8 (.s 3))), (.u (.mov 2 (.s 8)))]) (.tr [2])) .ret))))
def rsSortedF : List RV := [(.t 2)]
theorem irSortedF : fnIR Tryd.prog WSortedF 31 = some (icSortedF, rsSortedF) := by kernel_rfl
def spSortedF : FSpec := fun args h nx K => match args with
  | [.clo f [.elt (.slice t) (.list l)]] => f = 50 ∧ t = 3 ∧ l.length ≤ 1000000000 ∧ K (.dat (.slice 3) (.list (sortL (iL l)))) h
  | _ => False
set_option maxHeartbeats 4000000 in
set_option maxRecDepth 8000 in
theorem vSortedF {E : Nat → Value} (hE : Errs2 Tryd.prog (some 152) E) : Valid Tryd.prog E (gs []) 31 spSortedF := by
  refine valid_go (W := WSortedF) hE ((allValid_bot.add (up (vCollect hE))).add (up (vSort hE))) irSortedF (by decide) (fun args h nx K hsp hok hnm => ?_)
  unfold spSortedF at hsp
  split at hsp
  · rename_i f t l
    obtain ⟨rfl, rfl, hlen, hK⟩ := hsp
    refine ⟨by simp [WSortedF, mkW, mkWE, mkWF], fun Q hQ => ?_⟩
    have hl1 : (iL l).length ≤ 1000000000 := by rw [iL_len]; exact hlen
    simp (maxSteps := 4000000) only [icSortedF, go_sem, goD_calls, eq_self, implies_true, Int.reduceEq, Int.reduceBEq, Int.reduceBNe, Int.reduceLE, Int.reduceLT, Int.reduceAdd, Int.reduceSub, Int.reduceMul, Int.reduceNeg, Nat.reduceMul, Nat.reduceSub, Nat.reduceLeDiff, Nat.reduceLT, Nat.reduceEqDiff, Nat.reduceAdd, reduceCtorEq, ↓reduceIte, reduceIte, spCollect, spSort, nOk_c, nL_c, hlen, hl1]
    refine (hQ _ ?_).1
    refine fin_new (p := True ∧ True) (xs := [.vec nx]) rfl ⟨trivial, trivial⟩ (.frz nx (.refl _)) [] (.dat (.slice 3) (.list (sortL (iL l)))) [] (by simp) (by simp) (by simp) ?_ trivial rfl (by simp) (by simp) hnm ?_ hK
    · simp only [mkR, go_sem, goD_calls, eq_self, implies_true, Int.reduceEq, Int.reduceBEq, Int.reduceBNe, Int.reduceLE, Int.reduceLT, Int.reduceAdd, Int.reduceSub, Int.reduceMul, Int.reduceNeg, Nat.reduceMul, Nat.reduceSub, Nat.reduceLeDiff, Nat.reduceLT, Nat.reduceEqDiff, Nat.reduceAdd, reduceCtorEq, ↓reduceIte, reduceIte, SV.ren, SV.renL, rens]
    · simp only [mkR, go_sem, goD_calls, eq_self, implies_true, Int.reduceEq, Int.reduceBEq, Int.reduceBNe, Int.reduceLE, Int.reduceLT, Int.reduceAdd, Int.reduceSub, Int.reduceMul, Int.reduceNeg, Nat.reduceMul, Nat.reduceSub, Nat.reduceLeDiff, Nat.reduceLT, Nat.reduceEqDiff, Nat.reduceAdd, reduceCtorEq, ↓reduceIte, reduceIte] <;> ((try simp only []); repeat first | exact HLe.refl _ | refine HLe.cons (by simp only [hget, Nat.reduceEqDiff, Nat.left_eq_add, Nat.add_eq_left, nm_ne2, nm_en2, nm_ne3, nm_en3, nm_ne4, nm_en4, nm_ne5, nm_en5, reduceIte, ↓reduceIte] <;> first | rfl | ((repeat rw [if_neg (by omega)]) <;> rfl)) ?_ | refine HLe.skip hnm (by omega) ?_ | refine HLe.frz hnm (by omega) ?_ | refine HLe.del hnm (by omega) ?_)
  · exact hsp.elim

def sD (l : List D) : List Int := sortI (l.map D.i)
theorem sortL_iL (l : List D) : sortL (iL l) = (sD l).map D.int := by
  unfold sortL sD iL
  rw [List.map_map]
  rfl
theorem sD_len (l : List D) : (sD l).length = l.length := by unfold sD; rw [sortI_len, List.length_map]
def goodA (S : List Int) (i : Nat) : Prop := 0 ≤ S.getD i 0 ∧ S.getD i 0 < 64 ∧ (0 < i → S.getD i 0 ≠ S.getD (i - 1) 0)
def goodN (S : List Int) : Prop := ∀ i, i < S.length → goodA S i
def qNone : SV := .agg [.dat (.ptr 65) .nil, .nils, .int .i64 0]
abbrev GQO : List Nat := [0, 1]
def WQOf : Opts := mkWF 67 [] [0, 1] [] 152 [0, 1] [64] [] [] [] [64]
def icQOf : IC := (.seq (.seq (.ops [(.u (.alc 4 [(.dat (.ptr 65) .nil), .nils, (.int .i64 0)])), (.u (.mov 5 (.c (.dat .iface .nil))))]) (.tr [1, 0, 4])) (.seq (.seq (.seq (.ops [(.u (.mov 9 (.s 1))), (.u (.len 10 false (.s 9))), (.u (.cmp 11 .gtr (.s 10) (.c (.int .i64 16)))), (.u (.mov 12 (.s 11))), (.g 12 false (some 13) (.mov 13 (.s 1))), (.g 12 false (some 14) (.len 14 false (.s 13))), (.g 12 false (some 15) (.cmp 15 .eql (.s 14) (.c (.int .i64 0)))), (.u (.pck 16 (.s 12) (.c (.bool true)) (.s 15)))]) (.tr [16, 1, 0, 4])) (.cond (.s 16) (.seq (.seq (.rgn [] [(false, (.u (.bld 17 [[(.dat (.ptr 65) .nil)], [.nils], [(.int .i64 0)]] []))), (false, (.u (.gld 18 0))), (false, (.u (.st (.strct [(.ptr 65), (.slice 3), (.int .i64)]) (.s 4) (.s 17)))), (false, (.u (.mov 5 (.s 18))))]) (.tr [4, 5])) .ret) .skip)) (.seq (.seq (.ops [(.u (.mov 19 (.s 1))), (.u (.call 20 (.c (.clo 32 [])) [(.s 19)] [(some 3)] true)), (.u (.call 21 (.c (.clo 31 [])) [(.s 20)] [none] true)), (.u (.mov 6 (.s 21)))]) (.tr [0, 6, 4])) (.seq (.seq (.seq (.ops [(.u (.mov 22 (.s 6))), (.u (.len 23 false (.s 22))), (.u (.mov 24 (.c (.int .i64 0))))]) (.tr [23, 22, 24, 0, 6, 4])) (.block 0 (.loop (.seq (.seq (.ops [(.u (.cmp 25 .lss (.s 24) (.s 23)))]) (.tr [25, 24, 23, 22, 0, 6, 4])) (.seq (.cond (.s 25) .skip (.exit 0)) (.seq (.block 1 (.seq (.seq (.ops [(.u (.mov 26 (.s 24))), (.u (.iad 27 3 (.int .i64) (.s 22) (.s 24))), (.u (.ld 28 (.int .i64) (.s 27))), (.u (.mov 7 (.s 26))), (.u (.mov 8 (.s 28)))]) (.tr [8, 7, 24, 23, 22, 0, 6, 4])) (.seq (.seq (.ops [(.u (.mov 29 (.s 8))), (.u (.cmp 30 .lss (.s 29) (.c (.int .i64 0)))), (.u (.mov 31 (.s 30))), (.g 31 false (some 32) (.mov 32 (.s 8))), (.g 31 false (some 33) (.cmp 33 .geq (.s 32) (.c (.int .i64 64)))), (.u (.pck 34 (.s 31) (.c (.bool true)) (.s 33))), (.u (.mov 35 (.s 34))), (.g 35 false (some 36) (.mov 36 (.s 7))), (.g 35 false (some 37) (.cmp 37 .gtr (.s 36) (.c (.int .i64 0)))), (.g 35 false (some 38) (.mov 38 (.s 37))), (.g 38 true (some 39) (.mov 39 (.s 8))), (.g 38 true (some 40) (.mov 40 (.s 6))), (.g 38 true (some 41) (.mov 41 (.s 7))), (.g 38 true (some 42) (.bin 42 .sub .i64 (.s 41) (.c (.int .i64 1)))), (.g 38 true (some 43) (.iad 43 3 (.int .i64) (.s 40) (.s 42))), (.g 38 true (some 44) (.ld 44 (.int .i64) (.s 43))), (.g 38 true (some 45) (.cmp 45 .eql (.s 39) (.s 44))), (.g 35 false (some 46) (.pck 46 (.s 38) (.s 45) (.c (.bool false)))), (.u (.pck 47 (.s 35) (.c (.bool true)) (.s 46)))]) (.tr [47, 24, 23, 22, 0, 6, 4])) (.cond (.s 47) (.seq (.seq (.rgn [] [(false, (.u (.bld 48 [[(.dat (.ptr 65) .nil)], [.nils], [(.int .i64 0)]] []))), (false, (.u (.gld 49 1))), (false, (.u (.st (.strct [(.ptr 65), (.slice 3), (.int .i64)]) (.s 4) (.s 48)))), (false, (.u (.mov 5 (.s 49))))]) (.tr [4, 5])) .ret) .skip)))) (.seq (.ops [(.u (.bin 50 .add .i64 (.s 24) (.c (.int .i64 1)))), (.u (.mov 24 (.s 50)))]) (.tr [23, 22, 24, 0, 6, 4])))))))) (.seq (.seq (.seq (.ops [(.u (.mov 51 (.s 0))), (.u (.cmp 52 .lss (.s 51) (.c (.int .i64 1)))), (.u (.mov 53 (.s 52))), (.g 53 false (some 54) (.mov 54 (.s 0))), (.g 53 false (some 55) (.mov 55 (.s 6))), (.g 53 false (some 56) (.len 56 false (.s 55))), (.g 53 false (some 57) (.cmp 57 .gtr (.s 54) (.s 56))), (.u (.pck 58 (.s 53) (.c (.bool true)) (.s 57)))]) (.tr [58, 0, 6, 4])) (.cond (.s 58) (.seq (.seq (.rgn [] [(false, (.u (.bld 59 [[(.dat (.ptr 65) .nil)], [.nils], [(.int .i64 0)]] []))), (false, (.u (.gld 60 1))), (false, (.u (.st (.strct [(.ptr 65), (.slice 3), (.int .i64)]) (.s 4) (.s 59)))), (false, (.u (.mov 5 (.s 60))))]) (.tr [4, 5])) .ret) .skip)) (.seq (.seq (.ops [(.u (.mov 61 (.s 0))), (.u (.mov 62 (.s 6))), (.u (.bld 63 [[(.int .i64 0)], [(.int .i64 0)], [.nils], [(.dat (.ptr 65) .nil)], [(.dat (.ptr 65) .nil)]] [(0, (.c (.int .i64 0))), (1, (.s 61)), (2, (.s 62))])), (.u (.bxf 64 (.strct [(.int .i64), (.int .i64), (.slice 3), (.ptr 65), (.ptr 65)]) (some 65) (.s 63))), (.u (.mov 65 (.s 6))), (.u (.bld 66 [[(.dat (.ptr 65) .nil)], [.nils], [(.int .i64 0)]] [(0, (.s 64)), (1, (.s 65)), (2, (.c (.int .i64 1)))])), (.u (.st (.strct [(.ptr 65), (.slice 3), (.int .i64)]) (.s 4) (.s 66))), (.u (.mov 5 (.c (.dat .iface .nil))))]) (.tr [4, 5])) .ret))))))
def rsQOf : List RV := [(.c 4 (.strct [(.ptr 65), (.slice 3), (.int .i64)])), (.t 5)]
theorem irQOf : fnIR Tryd.prog WQOf 13 = some (icQOf, rsQOf) := by kernel_rfl
def spQOf : FSpec := fun args h nx K => match args with
  | [.int .i64 k, .dat (.slice t) d] => t = 3 ∧
      (16 < d.l.length ∨ d.l.length = 0 → K (.tup [qNone, .dat .iface (.err 0)]) h) ∧
      (¬ (16 < d.l.length ∨ d.l.length = 0) → ¬ (goodN (sD d.l) ∧ 1 ≤ k ∧ k ≤ d.l.length) → K (.tup [qNone, .dat .iface (.err 1)]) h) ∧
      (¬ (16 < d.l.length ∨ d.l.length = 0) → goodN (sD d.l) ∧ 1 ≤ k ∧ k ≤ d.l.length → K (.tup [setOf (QP.of k (sD d.l)).enc ((sD d.l).map D.int) 1, .dat .iface .nil]) h)
  | _ => False
set_option maxHeartbeats 4000000 in
set_option maxRecDepth 8000 in
theorem vQOf {E : Nat → Value} (hE : Errs2 Tryd.prog (some 152) E) : Valid Tryd.prog E (gs GQO) 13 spQOf := by
  refine valid_go (W := WQOf) hE ((allValid_bot.add (up (vValues hE))).add (up (vSortedF hE))) irQOf (by decide) (fun args h nx K hsp hok hnm => ?_)
  unfold spQOf at hsp
  split at hsp
  · rename_i k t d
    obtain ⟨rfl, hmany, hrange, hgood⟩ := hsp
    refine ⟨by simp [WQOf, mkW, mkWE, mkWF], fun Q hQ => ?_⟩
    obtain ⟨_, hd, _⟩ := hok
    simp only [SV.ok] at hd
    obtain ⟨hd1, hd2, hd3⟩ := Wt.slice hd; generalize d.l = l at *; subst hd1
    have hml : maxLen ≤ 9223372036854775807 := by decide
    have retN : ∀ e h' nx', K (.tup [qNone, .dat .iface e]) h → HLe h h' → hget h' nx = some (.cells [.dat (.ptr 65) .nil, .nils, .int .i64 0]) → Q Ex.ret ⟨[(4, .ptr nx 0), (5, .dat .iface e)], h', nx'⟩ := fun e h' nx' hK hh hg => by
      refine (hQ _ ?_).1
      refine fin_same (p := True) (xs := [qNone, .dat .iface e]) ?_ trivial (fun π => rfl) ?_ hnm hh hK
      · simp only [rsQOf, evRs, evR, go_sem, goD_calls, eq_self, implies_true, Int.reduceEq, Int.reduceBEq, Int.reduceBNe, Int.reduceLE, Int.reduceLT, Int.reduceAdd, Int.reduceSub, Int.reduceMul, Int.reduceNeg, Nat.reduceMul, Nat.reduceSub, Nat.reduceLeDiff, Nat.reduceLT, Nat.reduceEqDiff, Nat.reduceAdd, reduceCtorEq, ↓reduceIte, reduceIte, hg, qNone]
      · exact ⟨⟨trivial, trivial, trivial, trivial⟩, trivial, trivial⟩
    by_cases h1 : 16 < l.length
    · have c1 : decide (16 < (l.length : Int)) = true := decide_eq_true (by omega)
      simp (maxSteps := 4000000) only [icQOf, go_sem, goD_calls, eq_self, implies_true, Int.reduceEq, Int.reduceBEq, Int.reduceBNe, Int.reduceLE, Int.reduceLT, Int.reduceAdd, Int.reduceSub, Int.reduceMul, Int.reduceNeg, Nat.reduceMul, Nat.reduceSub, Nat.reduceLeDiff, Nat.reduceLT, Nat.reduceEqDiff, Nat.reduceAdd, reduceCtorEq, ↓reduceIte, reduceIte, c1]
      refine retN _ _ _ (hmany (.inl h1)) (by ((try simp only []); repeat first | exact HLe.refl _ | refine HLe.cons (by simp only [hget, Nat.reduceEqDiff, Nat.left_eq_add, Nat.add_eq_left, nm_ne2, nm_en2, nm_ne3, nm_en3, nm_ne4, nm_en4, nm_ne5, nm_en5, reduceIte, ↓reduceIte] <;> first | rfl | ((repeat rw [if_neg (by omega)]) <;> rfl)) ?_ | refine HLe.skip hnm (by omega) ?_ | refine HLe.frz hnm (by omega) ?_ | refine HLe.del hnm (by omega) ?_)) (by simp only [hget, ↓reduceIte])
    have c1 : decide (16 < (l.length : Int)) = false := decide_eq_false (by omega)
    by_cases h2 : l.length = 0
    · have c2 : ((l.length : Int) == 0) = true := by rw [h2]; rfl
      simp (maxSteps := 4000000) only [icQOf, go_sem, goD_calls, eq_self, implies_true, Int.reduceEq, Int.reduceBEq, Int.reduceBNe, Int.reduceLE, Int.reduceLT, Int.reduceAdd, Int.reduceSub, Int.reduceMul, Int.reduceNeg, Nat.reduceMul, Nat.reduceSub, Nat.reduceLeDiff, Nat.reduceLT, Nat.reduceEqDiff, Nat.reduceAdd, reduceCtorEq, ↓reduceIte, reduceIte, c1, c2]
      refine retN _ _ _ (hmany (.inr h2)) (by ((try simp only []); repeat first | exact HLe.refl _ | refine HLe.cons (by simp only [hget, Nat.reduceEqDiff, Nat.left_eq_add, Nat.add_eq_left, nm_ne2, nm_en2, nm_ne3, nm_en3, nm_ne4, nm_en4, nm_ne5, nm_en5, reduceIte, ↓reduceIte] <;> first | rfl | ((repeat rw [if_neg (by omega)]) <;> rfl)) ?_ | refine HLe.skip hnm (by omega) ?_ | refine HLe.frz hnm (by omega) ?_ | refine HLe.del hnm (by omega) ?_)) (by simp only [hget, ↓reduceIte])
    have c2 : ((l.length : Int) == 0) = false := by rw [beq_eq_false_iff_ne]; omega
    have hl9 : l.length ≤ 1000000000 := by omega
    have hno : ¬ (16 < l.length ∨ l.length = 0) := by omega
    have hSl := sD_len l
    simp (maxSteps := 4000000) only [icQOf, go_sem, goD_calls, eq_self, implies_true, Int.reduceEq, Int.reduceBEq, Int.reduceBNe, Int.reduceLE, Int.reduceLT, Int.reduceAdd, Int.reduceSub, Int.reduceMul, Int.reduceNeg, Nat.reduceMul, Nat.reduceSub, Nat.reduceLeDiff, Nat.reduceLT, Nat.reduceEqDiff, Nat.reduceAdd, reduceCtorEq, ↓reduceIte, reduceIte, c1, c2, spValues, spSortedF, hl9, sortL_iL, List.length_map, hSl]
    generalize sD l = S at *
    have hS16 : S.length ≤ 16 := by omega
    have hgt : ∀ i, ((S.map D.int).getD i .nil).i = S.getD i 0 := fun i => by
      rw [List.getD_eq_getElem?_getD, List.getElem?_map, List.getD_eq_getElem?_getD]
      cases S[i]? <;> rfl
    refine go_loop (α := { i : Nat // i ≤ S.length ∧ ∀ j, j < i → goodA S j }) (I := fun i => { f := [(23, .int .i64 S.length), (22, .dat (.slice 3) (.list (S.map D.int))), (24, .int .i64 i.1), (0, .int .i64 k), (6, .dat (.slice 3) (.list (S.map D.int))), (4, .ptr nx 0)], h := (nx, .cells [.dat (.ptr 65) .nil, .nils, .int .i64 0]) :: h, nx := nx + 1 }) (μ := fun i => S.length - i.1) _ _ _ ⟨0, by omega, fun j hj => absurd hj (by omega)⟩ ?_ (fun i B hB => ?_)
    · refine leq_id ?_ (by (simp only [frLt_cons, frLt_nil, and_true, SV.lt, SV.ltL, true_and] <;> omega)) (by ((try simp only []); repeat first | exact HLe.refl _ | refine HLe.cons (by simp only [hget, Nat.reduceEqDiff, Nat.left_eq_add, Nat.add_eq_left, nm_ne2, nm_en2, nm_ne3, nm_en3, nm_ne4, nm_en4, nm_ne5, nm_en5, reduceIte, ↓reduceIte] <;> first | rfl | ((repeat rw [if_neg (by omega)]) <;> rfl)) ?_ | refine HLe.skip hnm (by omega) ?_ | refine HLe.frz hnm (by omega) ?_ | refine HLe.del hnm (by omega) ?_)) (by (repeat first | exact HLt.mono hnm (by simp only [] <;> omega) | refine HLt.cons (by simp only [] <;> omega) (by simp only [Tok.lt, SV.ltL, SV.lt, and_true, true_and] <;> omega) ?_)) (by simp only [] <;> omega)
      simp only [frEq_cons, frEq_nil, frIn_cons, frIn_nil, and_true, fget_cons, Nat.reduceEqDiff, reduceIte, ↓reduceIte, true_and, SV.ren, SV.renL, ren1]
      simp [hSl]
    · obtain ⟨i, hi, hgi⟩ := i
      simp only at hB
      by_cases hil : i < S.length
      · have c1 : decide ((i : Int) < (S.length : Int)) = true := decide_eq_true (by omega)
        have bad : ¬ goodA S i → K (.tup [qNone, .dat .iface (.err 1)]) h := fun hb => hrange hno (fun hg => hb (hg.1 i hil))
        by_cases n0 : S.getD i 0 < 0
        · have c2 : decide (S.getD i 0 < 0) = true := decide_eq_true n0
          simp (maxSteps := 4000000) only [go_sem, goD_calls, eq_self, implies_true, Int.reduceEq, Int.reduceBEq, Int.reduceBNe, Int.reduceLE, Int.reduceLT, Int.reduceAdd, Int.reduceSub, Int.reduceMul, Int.reduceNeg, Nat.reduceMul, Nat.reduceSub, Nat.reduceLeDiff, Nat.reduceLT, Nat.reduceEqDiff, Nat.reduceAdd, reduceCtorEq, ↓reduceIte, reduceIte, c1, c2, hgt, List.length_map, Int.toNat_natCast]
          repeat refine ⟨by omega, ?_⟩
          exact retN _ _ _ (bad (fun hg => by have := hg.1; omega)) (by ((try simp only []); repeat first | exact HLe.refl _ | refine HLe.cons (by simp only [hget, Nat.reduceEqDiff, Nat.left_eq_add, Nat.add_eq_left, nm_ne2, nm_en2, nm_ne3, nm_en3, nm_ne4, nm_en4, nm_ne5, nm_en5, reduceIte, ↓reduceIte] <;> first | rfl | ((repeat rw [if_neg (by omega)]) <;> rfl)) ?_ | refine HLe.skip hnm (by omega) ?_ | refine HLe.frz hnm (by omega) ?_ | refine HLe.del hnm (by omega) ?_)) (by simp only [hget, ↓reduceIte])
        have c2 : decide (S.getD i 0 < 0) = false := decide_eq_false n0
        by_cases n1 : 64 ≤ S.getD i 0
        · have c3 : decide (64 ≤ S.getD i 0) = true := decide_eq_true n1
          simp (maxSteps := 4000000) only [go_sem, goD_calls, eq_self, implies_true, Int.reduceEq, Int.reduceBEq, Int.reduceBNe, Int.reduceLE, Int.reduceLT, Int.reduceAdd, Int.reduceSub, Int.reduceMul, Int.reduceNeg, Nat.reduceMul, Nat.reduceSub, Nat.reduceLeDiff, Nat.reduceLT, Nat.reduceEqDiff, Nat.reduceAdd, reduceCtorEq, ↓reduceIte, reduceIte, c1, c2, c3, hgt, List.length_map, Int.toNat_natCast]
          repeat refine ⟨by omega, ?_⟩
          exact retN _ _ _ (bad (fun hg => by have := hg.2.1; omega)) (by ((try simp only []); repeat first | exact HLe.refl _ | refine HLe.cons (by simp only [hget, Nat.reduceEqDiff, Nat.left_eq_add, Nat.add_eq_left, nm_ne2, nm_en2, nm_ne3, nm_en3, nm_ne4, nm_en4, nm_ne5, nm_en5, reduceIte, ↓reduceIte] <;> first | rfl | ((repeat rw [if_neg (by omega)]) <;> rfl)) ?_ | refine HLe.skip hnm (by omega) ?_ | refine HLe.frz hnm (by omega) ?_ | refine HLe.del hnm (by omega) ?_)) (by simp only [hget, ↓reduceIte])
        have c3 : decide (64 ≤ S.getD i 0) = false := decide_eq_false n1
        have next : goodA S i → ∀ S', Leq nx S' { f := [(23, .int .i64 S.length), (22, .dat (.slice 3) (.list (S.map D.int))), (24, .int .i64 ((i + 1 : Nat) : Int)), (0, .int .i64 k), (6, .dat (.slice 3) (.list (S.map D.int))), (4, .ptr nx 0)], h := (nx, .cells [.dat (.ptr 65) .nil, .nils, .int .i64 0]) :: h, nx := nx + 1 } → B S' := fun hg S' hl =>
          hB _ ⟨i + 1, by omega, fun j hj => by
            by_cases e : j = i
            · exact e ▸ hg
            · exact hgi j (by omega)⟩ (by simp only []; omega) hl
        by_cases i0 : i = 0
        · subst i0
          have c4 : decide ((0 : Int) < ((0 : Nat) : Int)) = false := rfl
          simp (maxSteps := 4000000) only [go_sem, goD_calls, eq_self, implies_true, Int.reduceEq, Int.reduceBEq, Int.reduceBNe, Int.reduceLE, Int.reduceLT, Int.reduceAdd, Int.reduceSub, Int.reduceMul, Int.reduceNeg, Nat.reduceMul, Nat.reduceSub, Nat.reduceLeDiff, Nat.reduceLT, Nat.reduceEqDiff, Nat.reduceAdd, reduceCtorEq, ↓reduceIte, reduceIte, c1, c2, c3, c4, hgt, List.length_map, Int.toNat_natCast, min_i64, max_i64]
          repeat refine ⟨by omega, ?_⟩
          refine next ⟨by omega, by omega, by omega⟩ _ ?_
          refine leq_id ?_ (by (simp only [frLt_cons, frLt_nil, and_true, SV.lt, SV.ltL, true_and] <;> omega)) (by ((try simp only []); repeat first | exact HLe.refl _ | refine HLe.cons (by simp only [hget, Nat.reduceEqDiff, Nat.left_eq_add, Nat.add_eq_left, nm_ne2, nm_en2, nm_ne3, nm_en3, nm_ne4, nm_en4, nm_ne5, nm_en5, reduceIte, ↓reduceIte] <;> first | rfl | ((repeat rw [if_neg (by omega)]) <;> rfl)) ?_ | refine HLe.skip hnm (by omega) ?_ | refine HLe.frz hnm (by omega) ?_ | refine HLe.del hnm (by omega) ?_)) (by (repeat first | exact HLt.mono hnm (by simp only [] <;> omega) | refine HLt.cons (by simp only [] <;> omega) (by simp only [Tok.lt, SV.ltL, SV.lt, and_true, true_and] <;> omega) ?_)) (by simp only [] <;> omega)
          simp only [frEq_cons, frEq_nil, frIn_cons, frIn_nil, and_true, fget_cons, Nat.reduceEqDiff, reduceIte, ↓reduceIte, true_and, SV.ren, SV.renL, ren1]
          simp
        have c4 : decide ((0 : Int) < (i : Int)) = true := decide_eq_true (by omega)
        have ei : ((i : Int) - 1).toNat = i - 1 := by omega
        by_cases n2 : S.getD i 0 = S.getD (i - 1) 0
        · have c5 : (S.getD i 0 == S.getD (i - 1) 0) = true := beq_iff_eq.2 n2
          simp (maxSteps := 4000000) only [go_sem, goD_calls, eq_self, implies_true, Int.reduceEq, Int.reduceBEq, Int.reduceBNe, Int.reduceLE, Int.reduceLT, Int.reduceAdd, Int.reduceSub, Int.reduceMul, Int.reduceNeg, Nat.reduceMul, Nat.reduceSub, Nat.reduceLeDiff, Nat.reduceLT, Nat.reduceEqDiff, Nat.reduceAdd, reduceCtorEq, ↓reduceIte, reduceIte, c1, c2, c3, c4, c5, hgt, ei, List.length_map, Int.toNat_natCast, min_i64, max_i64]
          repeat refine ⟨by omega, ?_⟩
          exact retN _ _ _ (bad (fun hg => hg.2.2 (by omega) n2)) (by ((try simp only []); repeat first | exact HLe.refl _ | refine HLe.cons (by simp only [hget, Nat.reduceEqDiff, Nat.left_eq_add, Nat.add_eq_left, nm_ne2, nm_en2, nm_ne3, nm_en3, nm_ne4, nm_en4, nm_ne5, nm_en5, reduceIte, ↓reduceIte] <;> first | rfl | ((repeat rw [if_neg (by omega)]) <;> rfl)) ?_ | refine HLe.skip hnm (by omega) ?_ | refine HLe.frz hnm (by omega) ?_ | refine HLe.del hnm (by omega) ?_)) (by simp only [hget, ↓reduceIte])
        have c5 : (S.getD i 0 == S.getD (i - 1) 0) = false := beq_eq_false_iff_ne.2 n2
        simp (maxSteps := 4000000) only [go_sem, goD_calls, eq_self, implies_true, Int.reduceEq, Int.reduceBEq, Int.reduceBNe, Int.reduceLE, Int.reduceLT, Int.reduceAdd, Int.reduceSub, Int.reduceMul, Int.reduceNeg, Nat.reduceMul, Nat.reduceSub, Nat.reduceLeDiff, Nat.reduceLT, Nat.reduceEqDiff, Nat.reduceAdd, reduceCtorEq, ↓reduceIte, reduceIte, c1, c2, c3, c4, c5, hgt, ei, List.length_map, Int.toNat_natCast, min_i64, max_i64]
        repeat refine ⟨by omega, ?_⟩
        refine next ⟨by omega, by omega, fun _ => n2⟩ _ ?_
        refine leq_id ?_ (by (simp only [frLt_cons, frLt_nil, and_true, SV.lt, SV.ltL, true_and] <;> omega)) (by ((try simp only []); repeat first | exact HLe.refl _ | refine HLe.cons (by simp only [hget, Nat.reduceEqDiff, Nat.left_eq_add, Nat.add_eq_left, nm_ne2, nm_en2, nm_ne3, nm_en3, nm_ne4, nm_en4, nm_ne5, nm_en5, reduceIte, ↓reduceIte] <;> first | rfl | ((repeat rw [if_neg (by omega)]) <;> rfl)) ?_ | refine HLe.skip hnm (by omega) ?_ | refine HLe.frz hnm (by omega) ?_ | refine HLe.del hnm (by omega) ?_)) (by (repeat first | exact HLt.mono hnm (by simp only [] <;> omega) | refine HLt.cons (by simp only [] <;> omega) (by simp only [Tok.lt, SV.ltL, SV.lt, and_true, true_and] <;> omega) ?_)) (by simp only [] <;> omega)
        simp only [frEq_cons, frEq_nil, frIn_cons, frIn_nil, and_true, fget_cons, Nat.reduceEqDiff, reduceIte, ↓reduceIte, true_and, SV.ren, SV.renL, ren1]
        simp
      · obtain rfl : i = S.length := by omega
        have hg : goodN S := hgi
        have c1 : decide ((S.length : Int) < (S.length : Int)) = false := decide_eq_false (by omega)
        by_cases k1 : k < 1
        · have c2 : decide (k < 1) = true := decide_eq_true k1
          simp (maxSteps := 4000000) only [go_sem, goD_calls, eq_self, implies_true, Int.reduceEq, Int.reduceBEq, Int.reduceBNe, Int.reduceLE, Int.reduceLT, Int.reduceAdd, Int.reduceSub, Int.reduceMul, Int.reduceNeg, Nat.reduceMul, Nat.reduceSub, Nat.reduceLeDiff, Nat.reduceLT, Nat.reduceEqDiff, Nat.reduceAdd, reduceCtorEq, ↓reduceIte, reduceIte, c1, c2, List.length_map]
          exact retN _ _ _ (hrange hno (fun hc => by omega)) (by ((try simp only []); repeat first | exact HLe.refl _ | refine HLe.cons (by simp only [hget, Nat.reduceEqDiff, Nat.left_eq_add, Nat.add_eq_left, nm_ne2, nm_en2, nm_ne3, nm_en3, nm_ne4, nm_en4, nm_ne5, nm_en5, reduceIte, ↓reduceIte] <;> first | rfl | ((repeat rw [if_neg (by omega)]) <;> rfl)) ?_ | refine HLe.skip hnm (by omega) ?_ | refine HLe.frz hnm (by omega) ?_ | refine HLe.del hnm (by omega) ?_)) (by simp only [hget, ↓reduceIte])
        have c2 : decide (k < 1) = false := decide_eq_false k1
        by_cases k2 : (S.length : Int) < k
        · have c3 : decide ((S.length : Int) < k) = true := decide_eq_true k2
          simp (maxSteps := 4000000) only [go_sem, goD_calls, eq_self, implies_true, Int.reduceEq, Int.reduceBEq, Int.reduceBNe, Int.reduceLE, Int.reduceLT, Int.reduceAdd, Int.reduceSub, Int.reduceMul, Int.reduceNeg, Nat.reduceMul, Nat.reduceSub, Nat.reduceLeDiff, Nat.reduceLT, Nat.reduceEqDiff, Nat.reduceAdd, reduceCtorEq, ↓reduceIte, reduceIte, c1, c2, c3, List.length_map]
          exact retN _ _ _ (hrange hno (fun hc => by omega)) (by ((try simp only []); repeat first | exact HLe.refl _ | refine HLe.cons (by simp only [hget, Nat.reduceEqDiff, Nat.left_eq_add, Nat.add_eq_left, nm_ne2, nm_en2, nm_ne3, nm_en3, nm_ne4, nm_en4, nm_ne5, nm_en5, reduceIte, ↓reduceIte] <;> first | rfl | ((repeat rw [if_neg (by omega)]) <;> rfl)) ?_ | refine HLe.skip hnm (by omega) ?_ | refine HLe.frz hnm (by omega) ?_ | refine HLe.del hnm (by omega) ?_)) (by simp only [hget, ↓reduceIte])
        have c3 : decide ((S.length : Int) < k) = false := decide_eq_false k2
        simp (maxSteps := 4000000) only [go_sem, goD_calls, eq_self, implies_true, Int.reduceEq, Int.reduceBEq, Int.reduceBNe, Int.reduceLE, Int.reduceLT, Int.reduceAdd, Int.reduceSub, Int.reduceMul, Int.reduceNeg, Nat.reduceMul, Nat.reduceSub, Nat.reduceLeDiff, Nat.reduceLT, Nat.reduceEqDiff, Nat.reduceAdd, reduceCtorEq, ↓reduceIte, reduceIte, c1, c2, c3, List.length_map]
        refine (hQ _ ?_).1
        refine fin_same (p := True) (xs := [setOf (QP.of k S).enc (S.map D.int) 1, .dat .iface .nil]) ?_ trivial (fun π => rfl) ?_ hnm (by ((try simp only []); repeat first | exact HLe.refl _ | refine HLe.cons (by simp only [hget, Nat.reduceEqDiff, Nat.left_eq_add, Nat.add_eq_left, nm_ne2, nm_en2, nm_ne3, nm_en3, nm_ne4, nm_en4, nm_ne5, nm_en5, reduceIte, ↓reduceIte] <;> first | rfl | ((repeat rw [if_neg (by omega)]) <;> rfl)) ?_ | refine HLe.skip hnm (by omega) ?_ | refine HLe.frz hnm (by omega) ?_ | refine HLe.del hnm (by omega) ?_)) (hgood hno ⟨hg, by omega, by omega⟩)
        · simp only [rsQOf, evRs, evR, go_sem, goD_calls, eq_self, implies_true, Int.reduceEq, Int.reduceBEq, Int.reduceBNe, Int.reduceLE, Int.reduceLT, Int.reduceAdd, Int.reduceSub, Int.reduceMul, Int.reduceNeg, Nat.reduceMul, Nat.reduceSub, Nat.reduceLeDiff, Nat.reduceLT, Nat.reduceEqDiff, Nat.reduceAdd, reduceCtorEq, ↓reduceIte, reduceIte, setOf, QP.enc]
        · exact ⟨⟨trivial, trivial, trivial, trivial⟩, trivial, trivial⟩
  · exact hsp.elim
end Go.Proofs.YtkmilijehekdoaaDoor
