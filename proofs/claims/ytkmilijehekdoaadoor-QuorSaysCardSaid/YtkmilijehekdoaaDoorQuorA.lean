/- Chapter 6: nodes by their bits; which nodes are enough. -/
import Derived.Test.YtkmilijehekdoaaDoorQuorP
import Derived.Test.YtkmilijehekdoaaDoorSortB
namespace Go.Proofs.YtkmilijehekdoaaDoor
set_option linter.unusedVariables false
set_option linter.unusedSimpArgs false
open Go Go.Fw
attribute [local go_sem] walkSet evMdl evMupD evMup evLkp frpL eltP eltV eltK preF preP prePt prePd frzP evNlq ev frOf oget ogets argSs argS evMm frzL evBin evWrp evShf evCmp evUna evNil evBeq evLd evSt evFad evIad evAad evLen evSln evEls evApp evParts evSlc evNlc evMif evPck evFld evBld evTas evIfq evSeq evSl0 evBxf evAgl evAgq evBsf hget hset hdel cellAt arrAt setCellAt setArrAt takeC lenC svCells SV.okc SV.one ldSV Fw.isAgg explode explodeL toD toDL toD1 Ty.size Ty.sizeL frz1 Fr.sub Heap.sub Tok.sub SV.sub SV.subL

theorem mI_c0 : (0 : Int) = mI 0 := rfl
/-- The mask of a row. -/
def maskL (l : List D) : M64 := maskB (l.map D.i)
theorem maskL_nil : maskL [] = 0 := rfl
theorem maskL_step {l : List D} {i : Nat} (hi : i < l.length) : maskL (l.take (i + 1)) = mStep (maskL (l.take i)) (l.getD i .nil).i := by
  unfold maskL
  rw [List.take_add_one, List.getElem?_eq_getElem hi, List.getD_eq_getElem?_getD, List.getElem?_eq_getElem hi, List.map_append]
  exact maskB_snoc _ _

def WQMask : Opts := mkWE 24 [] [] [] 152 [] []
def icQMask : IC := (.seq (.seq (.ops [(.u (.mov 2 (.c (.int .u64 0))))]) (.tr [0])) (.seq (.seq (.ops [(.u (.mov 3 (.c (.int .u64 0))))]) (.tr [0, 3])) (.seq (.seq (.seq (.ops [(.u (.mov 6 (.s 0))), (.u (.len 7 false (.s 6))), (.u (.mov 8 (.c (.int .i64 0))))]) (.tr [7, 6, 8, 3])) (.block 0 (.loop (.seq (.seq (.ops [(.u (.cmp 9 .lss (.s 8) (.s 7)))]) (.tr [9, 8, 7, 6, 3])) (.seq (.cond (.s 9) .skip (.exit 0)) (.seq (.block 1 (.seq (.seq (.ops [(.u (.iad 10 3 (.int .i64) (.s 6) (.s 8))), (.u (.ld 11 (.int .i64) (.s 10))), (.u (.mov 5 (.s 11)))]) (.tr [5, 8, 7, 6, 3])) (.seq (.seq (.ops [(.u (.mov 12 (.s 5))), (.u (.cmp 13 .geq (.s 12) (.c (.int .i64 0)))), (.u (.mov 14 (.s 13))), (.g 14 true (some 15) (.mov 15 (.s 5))), (.g 14 true (some 16) (.cmp 16 .lss (.s 15) (.c (.int .i64 64)))), (.u (.pck 17 (.s 14) (.s 16) (.c (.bool false))))]) (.tr [17, 5, 8, 7, 6, 3])) (.cond (.s 17) (.seq (.ops [(.u (.mov 18 (.s 3))), (.u (.mov 19 (.s 5))), (.u (.shf 20 .shl .u64 (.c (.int .u64 1)) (.s 19))), (.u (.bin 21 .or .u64 (.s 18) (.s 20))), (.u (.mov 3 (.s 21)))]) (.tr [8, 7, 6, 3])) .skip)))) (.seq (.ops [(.u (.bin 22 .add .i64 (.s 8) (.c (.int .i64 1)))), (.u (.mov 8 (.s 22)))]) (.tr [7, 6, 8, 3])))))))) (.seq (.seq (.ops [(.u (.mov 23 (.s 3))), (.u (.mov 2 (.s 23)))]) (.tr [2])) .ret))))
def rsQMask : List RV := [(.t 2)]
theorem irQMask : fnIR Tryd.prog WQMask 35 = some (icQMask, rsQMask) := by kernel_rfl
def spQMask : FSpec := fun args h nx K => match args with
  | [.dat (.slice t) d] => t = 3 ∧ K (.int .u64 (mI (maskL d.l))) h
  | _ => False
set_option maxHeartbeats 4000000 in
set_option maxRecDepth 8000 in
theorem vQMask {E : Nat → Value} (hE : Errs2 Tryd.prog (some 152) E) : Valid Tryd.prog E (gs []) 35 spQMask := by
  refine valid_go (W := WQMask) hE allValid_bot irQMask (by decide) (fun args h nx K hsp hok hnm => ?_)
  unfold spQMask at hsp
  split at hsp
  · rename_i t d
    obtain ⟨rfl, hK⟩ := hsp
    refine ⟨by simp [WQMask, mkW, mkWE, mkWF], fun Q hQ => ?_⟩
    obtain ⟨hd, _⟩ := hok
    simp only [SV.ok] at hd
    obtain ⟨hd1, hd2, hd3⟩ := Wt.slice hd; generalize d.l = l at *; subst hd1
    have hml : maxLen ≤ 9223372036854775807 := by decide
    simp (maxSteps := 4000000) only [icQMask, go_sem, goD_calls, eq_self, implies_true, Int.reduceEq, Int.reduceBEq, Int.reduceBNe, Int.reduceLE, Int.reduceLT, Int.reduceAdd, Int.reduceSub, Int.reduceMul, Int.reduceNeg, Nat.reduceMul, Nat.reduceSub, Nat.reduceLeDiff, Nat.reduceLT, Nat.reduceEqDiff, Nat.reduceAdd, reduceCtorEq, ↓reduceIte, reduceIte]
    refine go_loop (α := { i : Nat // i ≤ l.length }) (I := fun i => { f := [(7, .int .i64 l.length), (6, .dat (.slice 3) (.list l)), (8, .int .i64 i.1), (3, .int .u64 (mI (maskL (l.take i.1))))], h := h, nx := nx }) (μ := fun i => l.length - i.1) _ _ _ ⟨0, by omega⟩ ?_ (fun i B hB => ?_)
    · refine leq_id ?_ (by (simp only [frLt_cons, frLt_nil, and_true, SV.lt, SV.ltL, true_and] <;> omega)) (by ((try simp only []); repeat first | exact HLe.refl _ | refine HLe.cons (by simp only [hget, Nat.reduceEqDiff, Nat.left_eq_add, Nat.add_eq_left, nm_ne2, nm_en2, nm_ne3, nm_en3, nm_ne4, nm_en4, nm_ne5, nm_en5, reduceIte, ↓reduceIte] <;> first | rfl | ((repeat rw [if_neg (by omega)]) <;> rfl)) ?_ | refine HLe.skip hnm (by omega) ?_ | refine HLe.frz hnm (by omega) ?_ | refine HLe.del hnm (by omega) ?_)) (by (repeat first | exact HLt.mono hnm (by simp only [] <;> omega) | refine HLt.cons (by simp only [] <;> omega) (by simp only [Tok.lt, SV.ltL, SV.lt, and_true, true_and] <;> omega) ?_)) (by simp only [] <;> omega)
      simp only [frEq_cons, frEq_nil, frIn_cons, frIn_nil, and_true, fget_cons, Nat.reduceEqDiff, reduceIte, ↓reduceIte, true_and, SV.ren, SV.renL, ren1]
      exact ⟨rfl, rfl⟩
    · obtain ⟨i, hi⟩ := i
      simp only at hB
      by_cases hil : i < l.length
      · have c1 : decide ((i : Int) < (l.length : Int)) = true := decide_eq_true (by omega)
        have hs := maskL_step hil
        have next : ∀ m, m = maskL (l.take (i + 1)) → B ⟨[(7, .int .i64 l.length), (6, .dat (.slice 3) (.list l)), (8, .int .i64 ((i : Int) + 1)), (3, .int .u64 (mI m))], h, nx⟩ := fun m e => by
          subst e
          refine hB _ ⟨i + 1, by omega⟩ (by simp only []; omega) ?_
          refine leq_id ?_ (by (simp only [frLt_cons, frLt_nil, and_true, SV.lt, SV.ltL, true_and] <;> omega)) (by ((try simp only []); repeat first | exact HLe.refl _ | refine HLe.cons (by simp only [hget, Nat.reduceEqDiff, Nat.left_eq_add, Nat.add_eq_left, nm_ne2, nm_en2, nm_ne3, nm_en3, nm_ne4, nm_en4, nm_ne5, nm_en5, reduceIte, ↓reduceIte] <;> first | rfl | ((repeat rw [if_neg (by omega)]) <;> rfl)) ?_ | refine HLe.skip hnm (by omega) ?_ | refine HLe.frz hnm (by omega) ?_ | refine HLe.del hnm (by omega) ?_)) (by (repeat first | exact HLt.mono hnm (by simp only [] <;> omega) | refine HLt.cons (by simp only [] <;> omega) (by simp only [Tok.lt, SV.ltL, SV.lt, and_true, true_and] <;> omega) ?_)) (by simp only [] <;> omega)
          simp only [frEq_cons, frEq_nil, frIn_cons, frIn_nil, and_true, fget_cons, Nat.reduceEqDiff, reduceIte, ↓reduceIte, true_and, SV.ren, SV.renL, ren1]
          rfl
        obtain ⟨n, hn⟩ : ∃ n, (l.getD i .nil).i = n := ⟨_, rfl⟩
        rw [hn] at hs
        by_cases h1 : 0 ≤ n
        · have c2 : decide ((0 : Int) ≤ n) = true := decide_eq_true h1
          by_cases h2 : n < 64
          · have c3 : decide (n < (64 : Int)) = true := decide_eq_true h2
            have e1 := shl_mI h1 h2
            simp only [show IntKind.u64.bits = 64 from rfl] at e1
            simp (maxSteps := 4000000) only [go_sem, goD_calls, eq_self, implies_true, Int.reduceEq, Int.reduceBEq, Int.reduceBNe, Int.reduceLE, Int.reduceLT, Int.reduceAdd, Int.reduceSub, Int.reduceMul, Int.reduceNeg, Nat.reduceMul, Nat.reduceSub, Nat.reduceLeDiff, Nat.reduceLT, Nat.reduceEqDiff, Nat.reduceAdd, reduceCtorEq, ↓reduceIte, reduceIte, c1, c2, c3, hn, e1, or_mI, Int.toNat_natCast, min_i64, max_i64]
            repeat refine ⟨by omega, ?_⟩
            refine next _ ?_
            rw [hs]; unfold mStep; rw [if_pos ⟨h1, h2⟩]
          · have c3 : decide (n < (64 : Int)) = false := decide_eq_false h2
            simp (maxSteps := 4000000) only [go_sem, goD_calls, eq_self, implies_true, Int.reduceEq, Int.reduceBEq, Int.reduceBNe, Int.reduceLE, Int.reduceLT, Int.reduceAdd, Int.reduceSub, Int.reduceMul, Int.reduceNeg, Nat.reduceMul, Nat.reduceSub, Nat.reduceLeDiff, Nat.reduceLT, Nat.reduceEqDiff, Nat.reduceAdd, reduceCtorEq, ↓reduceIte, reduceIte, c1, c2, c3, hn, Int.toNat_natCast, min_i64, max_i64]
            repeat refine ⟨by omega, ?_⟩
            refine next _ ?_
            rw [hs]; unfold mStep; rw [if_neg (by omega)]
        · have c2 : decide ((0 : Int) ≤ n) = false := decide_eq_false h1
          simp (maxSteps := 4000000) only [go_sem, goD_calls, eq_self, implies_true, Int.reduceEq, Int.reduceBEq, Int.reduceBNe, Int.reduceLE, Int.reduceLT, Int.reduceAdd, Int.reduceSub, Int.reduceMul, Int.reduceNeg, Nat.reduceMul, Nat.reduceSub, Nat.reduceLeDiff, Nat.reduceLT, Nat.reduceEqDiff, Nat.reduceAdd, reduceCtorEq, ↓reduceIte, reduceIte, c1, c2, hn, Int.toNat_natCast, min_i64, max_i64]
          repeat refine ⟨by omega, ?_⟩
          refine next _ ?_
          rw [hs]; unfold mStep; rw [if_neg (by omega)]
      · obtain rfl : i = l.length := by omega
        have c1 : decide ((l.length : Int) < (l.length : Int)) = false := decide_eq_false (by omega)
        simp (maxSteps := 4000000) only [go_sem, goD_calls, eq_self, implies_true, Int.reduceEq, Int.reduceBEq, Int.reduceBNe, Int.reduceLE, Int.reduceLT, Int.reduceAdd, Int.reduceSub, Int.reduceMul, Int.reduceNeg, Nat.reduceMul, Nat.reduceSub, Nat.reduceLeDiff, Nat.reduceLT, Nat.reduceEqDiff, Nat.reduceAdd, reduceCtorEq, ↓reduceIte, reduceIte, c1]
        refine (hQ _ ?_).1
        rw [List.take_of_length_le (Nat.le_refl _)]
        exact fin_t (.int .u64 _) rfl rfl hnm (by ((try simp only []); repeat first | exact HLe.refl _ | refine HLe.cons (by simp only [hget, Nat.reduceEqDiff, Nat.left_eq_add, Nat.add_eq_left, nm_ne2, nm_en2, nm_ne3, nm_en3, nm_ne4, nm_en4, nm_ne5, nm_en5, reduceIte, ↓reduceIte] <;> first | rfl | ((repeat rw [if_neg (by omega)]) <;> rfl)) ?_ | refine HLe.skip hnm (by omega) ?_ | refine HLe.frz hnm (by omega) ?_ | refine HLe.del hnm (by omega) ?_)) hK
  · exact hsp.elim

/-! ### Which nodes are enough -/
def QP.hasM (m : M64) (q : QP) : Bool := q.has (bitM m)
theorem countP_step {l : List Int} {S : Int → Bool} {i : Nat} (hi : i < l.length) : ((l.take (i + 1)).countP S : Int) = ((l.take i).countP S : Int) + (if S (l.getD i 0) then 1 else 0) := by
  rw [List.take_add_one, List.getElem?_eq_getElem hi, List.countP_append, List.getD_eq_getElem?_getD, List.getElem?_eq_getElem hi]
  simp only [Option.toList_some, List.countP_cons, List.countP_nil, Option.getD_some, Nat.zero_add]
  split <;> simp
def WQHasP : Opts := mkWE 74 [] [] [] 152 [] []
def icQHasP : IC := (.seq (.seq (.ops [(.u (.mov 4 (.c (.bool false))))]) (.tr [1, 0])) (.seq (.block 0 (.seq (.seq (.ops [(.u (.mov 9 (.s 0))), (.u (.eqb 10 false 1 (.s 9))), (.u (.mov 8 (.s 10)))]) (.tr [8, 1, 0])) (.cond (.s 8) (.seq (.seq (.ops [(.u (.mov 4 (.c (.bool false))))]) (.tr [4])) .ret) (.seq (.seq (.ops [(.u (.mov 12 (.s 0))), (.u (.nlc 13 (.s 12))), (.u (.fad 14 0 0 (.int .i64) 65 (.s 13))), (.u (.ld 15 (.int .i64) (.s 14))), (.u (.cmp 16 .eql (.s 15) (.c (.int .i64 1)))), (.u (.mov 11 (.s 16)))]) (.tr [11, 1, 0])) (.cond (.s 11) (.seq (.seq (.ops [(.u (.mov 17 (.s 0))), (.u (.nlc 18 (.s 17))), (.u (.fad 19 3 3 (.ptr 65) 65 (.s 18))), (.u (.ld 20 (.ptr 65) (.s 19))), (.u (.mov 21 (.s 1))), (.u (.call 22 (.c (.clo 36 [])) [(.s 20), (.s 21)] [none, none] true)), (.u (.mov 23 (.s 22))), (.g 23 true (some 24) (.mov 24 (.s 0))), (.g 23 true (some 25) (.nlc 25 (.s 24))), (.g 23 true (some 26) (.fad 26 4 4 (.ptr 65) 65 (.s 25))), (.g 23 true (some 27) (.ld 27 (.ptr 65) (.s 26))), (.g 23 true (some 28) (.mov 28 (.s 1))), (.g 23 true (some 29) (.call 29 (.c (.clo 36 [])) [(.s 27), (.s 28)] [none, none] true)), (.u (.pck 30 (.s 23) (.s 29) (.c (.bool false)))), (.u (.mov 4 (.s 30)))]) (.tr [4])) .ret) (.seq (.seq (.ops [(.u (.mov 32 (.s 0))), (.u (.nlc 33 (.s 32))), (.u (.fad 34 0 0 (.int .i64) 65 (.s 33))), (.u (.ld 35 (.int .i64) (.s 34))), (.u (.cmp 36 .eql (.s 35) (.c (.int .i64 2)))), (.u (.mov 31 (.s 36)))]) (.tr [31, 1, 0])) (.cond (.s 31) (.seq (.seq (.ops [(.u (.mov 37 (.s 0))), (.u (.nlc 38 (.s 37))), (.u (.fad 39 3 3 (.ptr 65) 65 (.s 38))), (.u (.ld 40 (.ptr 65) (.s 39))), (.u (.mov 41 (.s 1))), (.u (.call 42 (.c (.clo 36 [])) [(.s 40), (.s 41)] [none, none] true)), (.u (.mov 43 (.s 42))), (.g 43 false (some 44) (.mov 44 (.s 0))), (.g 43 false (some 45) (.nlc 45 (.s 44))), (.g 43 false (some 46) (.fad 46 4 4 (.ptr 65) 65 (.s 45))), (.g 43 false (some 47) (.ld 47 (.ptr 65) (.s 46))), (.g 43 false (some 48) (.mov 48 (.s 1))), (.g 43 false (some 49) (.call 49 (.c (.clo 36 [])) [(.s 47), (.s 48)] [none, none] true)), (.u (.pck 50 (.s 43) (.c (.bool true)) (.s 49))), (.u (.mov 4 (.s 50)))]) (.tr [4])) .ret) .skip))))))) (.seq (.seq (.ops [(.u (.mov 5 (.c (.int .i64 0))))]) (.tr [1, 5, 0])) (.seq (.seq (.seq (.ops [(.u (.mov 51 (.s 0))), (.u (.nlc 52 (.s 51))), (.u (.fad 53 2 2 (.slice 3) 65 (.s 52))), (.u (.ld 54 (.slice 3) (.s 53))), (.u (.len 55 false (.s 54))), (.u (.mov 56 (.c (.int .i64 0))))]) (.tr [55, 54, 1, 56, 5, 0])) (.block 1 (.loop (.seq (.seq (.ops [(.u (.cmp 57 .lss (.s 56) (.s 55)))]) (.tr [57, 56, 55, 54, 1, 5, 0])) (.seq (.cond (.s 57) .skip (.exit 1)) (.seq (.block 2 (.seq (.seq (.ops [(.u (.iad 58 3 (.int .i64) (.s 54) (.s 56))), (.u (.ld 59 (.int .i64) (.s 58))), (.u (.mov 7 (.s 59)))]) (.tr [5, 7, 56, 55, 54, 1, 0])) (.seq (.ops [(.u (.mov 60 (.s 5))), (.u (.mov 61 (.s 1))), (.u (.mov 62 (.s 7))), (.u (.shf 63 .shr .u64 (.s 61) (.s 62))), (.u (.bin 64 .and .u64 (.s 63) (.c (.int .u64 1)))), (.u (.cnv 65 .i64 (.s 64))), (.u (.bin 66 .add .i64 (.s 60) (.s 65))), (.u (.mov 5 (.s 66)))]) (.tr [56, 55, 54, 1, 5, 0])))) (.seq (.ops [(.u (.bin 67 .add .i64 (.s 56) (.c (.int .i64 1)))), (.u (.mov 56 (.s 67)))]) (.tr [55, 54, 1, 56, 5, 0])))))))) (.seq (.seq (.ops [(.u (.mov 68 (.s 5))), (.u (.mov 69 (.s 0))), (.u (.nlc 70 (.s 69))), (.u (.fad 71 1 1 (.int .i64) 65 (.s 70))), (.u (.ld 72 (.int .i64) (.s 71))), (.u (.cmp 73 .geq (.s 68) (.s 72))), (.u (.mov 4 (.s 73)))]) (.tr [4])) .ret)))))
def rsQHasP : List RV := [(.t 4)]
theorem irQHasP : fnIR Tryd.prog WQHasP 36 = some (icQHasP, rsQHasP) := by kernel_rfl
def spQHasN (N : Nat) : FSpec := fun args h nx K => match args with
  | [.dat (.ptr t) d, .int .u64 m] => t = 65 ∧ ((d = .nil ∧ K (.bool false) h) ∨ ∃ (q : QP) (b : M64), d = q.enc ∧ q.ok ∧ q.dep < N ∧ m = mI b ∧ K (.bool (q.hasM b)) h)
  | _ => False
set_option maxHeartbeats 4000000 in
set_option maxRecDepth 8000 in
theorem vQHasN {E : Nat → Value} (hE : Errs2 Tryd.prog (some 152) E) : ∀ N, Valid Tryd.prog E (gs []) 36 (spQHasN N) := by
  intro N
  induction N with
  | zero =>
    refine valid_go (W := WQHasP) hE allValid_bot irQHasP (by decide) (fun args h nx K hsp hok hnm => ?_)
    unfold spQHasN at hsp
    split at hsp
    · rename_i t d m
      obtain ⟨rfl, ⟨rfl, hK⟩ | ⟨q, b, _, _, hdep, _⟩⟩ := hsp
      · refine ⟨by simp [WQHasP, mkW, mkWE, mkWF], fun Q hQ => ?_⟩
        simp (maxSteps := 4000000) only [icQHasP, go_sem, goD_calls, eq_self, implies_true, Int.reduceEq, Int.reduceBEq, Int.reduceBNe, Int.reduceLE, Int.reduceLT, Int.reduceAdd, Int.reduceSub, Int.reduceMul, Int.reduceNeg, Nat.reduceMul, Nat.reduceSub, Nat.reduceLeDiff, Nat.reduceLT, Nat.reduceEqDiff, Nat.reduceAdd, reduceCtorEq, ↓reduceIte, reduceIte]
        refine (hQ _ ?_).1
        exact fin_t (.bool false) rfl rfl hnm (by ((try simp only []); repeat first | exact HLe.refl _ | refine HLe.cons (by simp only [hget, Nat.reduceEqDiff, Nat.left_eq_add, Nat.add_eq_left, nm_ne2, nm_en2, nm_ne3, nm_en3, nm_ne4, nm_en4, nm_ne5, nm_en5, reduceIte, ↓reduceIte] <;> first | rfl | ((repeat rw [if_neg (by omega)]) <;> rfl)) ?_ | refine HLe.skip hnm (by omega) ?_ | refine HLe.frz hnm (by omega) ?_ | refine HLe.del hnm (by omega) ?_)) hK
      · omega
    · exact hsp.elim
  | succ N ih =>
  refine valid_go (W := WQHasP) hE (allValid_bot.add ih) irQHasP (by decide) (fun args h nx K hsp hok hnm => ?_)
  unfold spQHasN at hsp
  split at hsp
  · rename_i t d m
    obtain ⟨rfl, hsp⟩ := hsp
    refine ⟨by simp [WQHasP, mkW, mkWE, mkWF], fun Q hQ => ?_⟩
    have ret : ∀ b h' nx', HLe h h' → K (.bool b) h → Q Ex.ret ⟨[(4, .bool b)], h', nx'⟩ := fun b h' nx' hh hb => by
      refine (hQ _ ?_).1
      exact fin_t (.bool b) rfl rfl hnm hh hb
    rcases hsp with ⟨rfl, hK⟩ | ⟨q, b, rfl, hq, hdep, rfl, hK⟩
    · simp (maxSteps := 4000000) only [icQHasP, go_sem, goD_calls, eq_self, implies_true, Int.reduceEq, Int.reduceBEq, Int.reduceBNe, Int.reduceLE, Int.reduceLT, Int.reduceAdd, Int.reduceSub, Int.reduceMul, Int.reduceNeg, Nat.reduceMul, Nat.reduceSub, Nat.reduceLeDiff, Nat.reduceLT, Nat.reduceEqDiff, Nat.reduceAdd, reduceCtorEq, ↓reduceIte, reduceIte]
      exact ret _ _ _ (by ((try simp only []); repeat first | exact HLe.refl _ | refine HLe.cons (by simp only [hget, Nat.reduceEqDiff, Nat.left_eq_add, Nat.add_eq_left, nm_ne2, nm_en2, nm_ne3, nm_en3, nm_ne4, nm_en4, nm_ne5, nm_en5, reduceIte, ↓reduceIte] <;> first | rfl | ((repeat rw [if_neg (by omega)]) <;> rfl)) ?_ | refine HLe.skip hnm (by omega) ?_ | refine HLe.frz hnm (by omega) ?_ | refine HLe.del hnm (by omega) ?_)) hK
    · cases q with
      | of k l =>
        simp (maxSteps := 4000000) only [icQHasP, go_sem, goD_calls, eq_self, implies_true, Int.reduceEq, Int.reduceBEq, Int.reduceBNe, Int.reduceLE, Int.reduceLT, Int.reduceAdd, Int.reduceSub, Int.reduceMul, Int.reduceNeg, Nat.reduceMul, Nat.reduceSub, Nat.reduceLeDiff, Nat.reduceLT, Nat.reduceEqDiff, Nat.reduceAdd, reduceCtorEq, ↓reduceIte, reduceIte, QP.enc]
        obtain ⟨hq1, hq2⟩ := hq
        have hget : ∀ i, ((l.map D.int).getD i .nil).i = l.getD i 0 := fun i => by
          rw [List.getD_eq_getElem?_getD, List.getElem?_map, List.getD_eq_getElem?_getD]
          cases l[i]? <;> rfl
        refine go_loop (α := { i : Nat // i ≤ l.length }) (I := fun i => { f := [(55, .int .i64 l.length), (54, .dat (.slice 3) (.list (l.map D.int))), (1, .int .u64 (mI b)), (56, .int .i64 i.1), (5, .int .i64 ((l.take i.1).countP (bitM b))), (0, .dat (.ptr 65) (.ptr (.node [.int 0, .int k, .list (l.map D.int), .nil, .nil])))], h := h, nx := nx }) (μ := fun i => l.length - i.1) _ _ _ ⟨0, by omega⟩ ?_ (fun i B hB => ?_)
        · refine leq_id ?_ (by (simp only [frLt_cons, frLt_nil, and_true, SV.lt, SV.ltL, true_and] <;> omega)) (by ((try simp only []); repeat first | exact HLe.refl _ | refine HLe.cons (by simp only [hget, Nat.reduceEqDiff, Nat.left_eq_add, Nat.add_eq_left, nm_ne2, nm_en2, nm_ne3, nm_en3, nm_ne4, nm_en4, nm_ne5, nm_en5, reduceIte, ↓reduceIte] <;> first | rfl | ((repeat rw [if_neg (by omega)]) <;> rfl)) ?_ | refine HLe.skip hnm (by omega) ?_ | refine HLe.frz hnm (by omega) ?_ | refine HLe.del hnm (by omega) ?_)) (by (repeat first | exact HLt.mono hnm (by simp only [] <;> omega) | refine HLt.cons (by simp only [] <;> omega) (by simp only [Tok.lt, SV.ltL, SV.lt, and_true, true_and] <;> omega) ?_)) (by simp only [] <;> omega)
          simp only [frEq_cons, frEq_nil, frIn_cons, frIn_nil, and_true, fget_cons, Nat.reduceEqDiff, reduceIte, ↓reduceIte, true_and, SV.ren, SV.renL, ren1]
          simp
        · obtain ⟨i, hi⟩ := i
          simp only at hB
          by_cases hil : i < l.length
          · have c1 : decide ((i : Int) < (((l.map D.int).length : Nat) : Int)) = true := decide_eq_true (by rw [List.length_map]; omega)
            have c1' : decide ((i : Int) < (l.length : Int)) = true := decide_eq_true (by omega)
            have hr : 0 ≤ l.getD i 0 ∧ l.getD i 0 < 64 := by
              rw [List.getD_eq_getElem?_getD, List.getElem?_eq_getElem hil]
              exact hq1 _ (List.getElem_mem hil)
            have hs := countP_step (S := bitM b) hil
            have hc : (l.take i).countP (bitM b) ≤ i := Nat.le_trans List.countP_le_length (by rw [List.length_take]; omega)
            have e1 := bit_mI (m := b) hr.1 hr.2
            simp only [show IntKind.u64.bits = 64 from rfl] at e1
            simp (maxSteps := 4000000) only [go_sem, goD_calls, eq_self, implies_true, Int.reduceEq, Int.reduceBEq, Int.reduceBNe, Int.reduceLE, Int.reduceLT, Int.reduceAdd, Int.reduceSub, Int.reduceMul, Int.reduceNeg, Nat.reduceMul, Nat.reduceSub, Nat.reduceLeDiff, Nat.reduceLT, Nat.reduceEqDiff, Nat.reduceAdd, reduceCtorEq, ↓reduceIte, reduceIte, c1, c1', hget, e1, List.length_map, Int.toNat_natCast, min_i64, max_i64]
            refine ⟨by omega, by omega, by split <;> omega, by omega, ?_⟩
            refine hB _ ⟨i + 1, by omega⟩ (by simp only []; omega) ?_
            refine leq_id ?_ (by (simp only [frLt_cons, frLt_nil, and_true, SV.lt, SV.ltL, true_and] <;> omega)) (by ((try simp only []); repeat first | exact HLe.refl _ | refine HLe.cons (by simp only [hget, Nat.reduceEqDiff, Nat.left_eq_add, Nat.add_eq_left, nm_ne2, nm_en2, nm_ne3, nm_en3, nm_ne4, nm_en4, nm_ne5, nm_en5, reduceIte, ↓reduceIte] <;> first | rfl | ((repeat rw [if_neg (by omega)]) <;> rfl)) ?_ | refine HLe.skip hnm (by omega) ?_ | refine HLe.frz hnm (by omega) ?_ | refine HLe.del hnm (by omega) ?_)) (by (repeat first | exact HLt.mono hnm (by simp only [] <;> omega) | refine HLt.cons (by simp only [] <;> omega) (by simp only [Tok.lt, SV.ltL, SV.lt, and_true, true_and] <;> omega) ?_)) (by simp only [] <;> omega)
            simp only [frEq_cons, frEq_nil, frIn_cons, frIn_nil, and_true, fget_cons, Nat.reduceEqDiff, reduceIte, ↓reduceIte, true_and, SV.ren, SV.renL, ren1]
            simp only [hs, Int.natCast_add, Int.cast_ofNat_Int, and_self, and_true, true_and]
          · obtain rfl : i = l.length := by omega
            have c1 : decide ((l.length : Int) < (l.length : Int)) = false := decide_eq_false (by omega)
            simp (maxSteps := 4000000) only [go_sem, goD_calls, eq_self, implies_true, Int.reduceEq, Int.reduceBEq, Int.reduceBNe, Int.reduceLE, Int.reduceLT, Int.reduceAdd, Int.reduceSub, Int.reduceMul, Int.reduceNeg, Nat.reduceMul, Nat.reduceSub, Nat.reduceLeDiff, Nat.reduceLT, Nat.reduceEqDiff, Nat.reduceAdd, reduceCtorEq, ↓reduceIte, reduceIte, c1]
            rw [List.take_of_length_le (Nat.le_refl _)]
            exact ret _ _ _ (by ((try simp only []); repeat first | exact HLe.refl _ | refine HLe.cons (by simp only [hget, Nat.reduceEqDiff, Nat.left_eq_add, Nat.add_eq_left, nm_ne2, nm_en2, nm_ne3, nm_en3, nm_ne4, nm_en4, nm_ne5, nm_en5, reduceIte, ↓reduceIte] <;> first | rfl | ((repeat rw [if_neg (by omega)]) <;> rfl)) ?_ | refine HLe.skip hnm (by omega) ?_ | refine HLe.frz hnm (by omega) ?_ | refine HLe.del hnm (by omega) ?_)) hK
      | an x y =>
        simp only [QP.dep] at hdep
        have e : ∀ v, x.hasM b = v → (QP.an x y).hasM b = (v && y.hasM b) := fun v hv => by subst hv; rfl
        simp (maxSteps := 4000000) only [icQHasP, go_sem, goD_calls, eq_self, implies_true, Int.reduceEq, Int.reduceBEq, Int.reduceBNe, Int.reduceLE, Int.reduceLT, Int.reduceAdd, Int.reduceSub, Int.reduceMul, Int.reduceNeg, Nat.reduceMul, Nat.reduceSub, Nat.reduceLeDiff, Nat.reduceLT, Nat.reduceEqDiff, Nat.reduceAdd, reduceCtorEq, ↓reduceIte, reduceIte, QP.enc, spQHasN]
        refine .inr ⟨x, b, rfl, hq.1, by omega, rfl, fun hx => .inr ⟨y, b, rfl, hq.2, by omega, rfl, ?_⟩, fun hx => ?_⟩
        · exact ret _ _ _ (by ((try simp only []); repeat first | exact HLe.refl _ | refine HLe.cons (by simp only [hget, Nat.reduceEqDiff, Nat.left_eq_add, Nat.add_eq_left, nm_ne2, nm_en2, nm_ne3, nm_en3, nm_ne4, nm_en4, nm_ne5, nm_en5, reduceIte, ↓reduceIte] <;> first | rfl | ((repeat rw [if_neg (by omega)]) <;> rfl)) ?_ | refine HLe.skip hnm (by omega) ?_ | refine HLe.frz hnm (by omega) ?_ | refine HLe.del hnm (by omega) ?_)) (by rw [e _ hx, Bool.true_and] at hK; exact hK)
        · exact ret _ _ _ (by ((try simp only []); repeat first | exact HLe.refl _ | refine HLe.cons (by simp only [hget, Nat.reduceEqDiff, Nat.left_eq_add, Nat.add_eq_left, nm_ne2, nm_en2, nm_ne3, nm_en3, nm_ne4, nm_en4, nm_ne5, nm_en5, reduceIte, ↓reduceIte] <;> first | rfl | ((repeat rw [if_neg (by omega)]) <;> rfl)) ?_ | refine HLe.skip hnm (by omega) ?_ | refine HLe.frz hnm (by omega) ?_ | refine HLe.del hnm (by omega) ?_)) (by rw [e _ hx, Bool.false_and] at hK; exact hK)
      | or x y =>
        simp only [QP.dep] at hdep
        have e : ∀ v, x.hasM b = v → (QP.or x y).hasM b = (v || y.hasM b) := fun v hv => by subst hv; rfl
        simp (maxSteps := 4000000) only [icQHasP, go_sem, goD_calls, eq_self, implies_true, Int.reduceEq, Int.reduceBEq, Int.reduceBNe, Int.reduceLE, Int.reduceLT, Int.reduceAdd, Int.reduceSub, Int.reduceMul, Int.reduceNeg, Nat.reduceMul, Nat.reduceSub, Nat.reduceLeDiff, Nat.reduceLT, Nat.reduceEqDiff, Nat.reduceAdd, reduceCtorEq, ↓reduceIte, reduceIte, QP.enc, spQHasN]
        refine .inr ⟨x, b, rfl, hq.1, by omega, rfl, fun hx => .inr ⟨y, b, rfl, hq.2, by omega, rfl, ?_⟩, fun hx => ?_⟩
        · exact ret _ _ _ (by ((try simp only []); repeat first | exact HLe.refl _ | refine HLe.cons (by simp only [hget, Nat.reduceEqDiff, Nat.left_eq_add, Nat.add_eq_left, nm_ne2, nm_en2, nm_ne3, nm_en3, nm_ne4, nm_en4, nm_ne5, nm_en5, reduceIte, ↓reduceIte] <;> first | rfl | ((repeat rw [if_neg (by omega)]) <;> rfl)) ?_ | refine HLe.skip hnm (by omega) ?_ | refine HLe.frz hnm (by omega) ?_ | refine HLe.del hnm (by omega) ?_)) (by rw [e _ hx, Bool.false_or] at hK; exact hK)
        · exact ret _ _ _ (by ((try simp only []); repeat first | exact HLe.refl _ | refine HLe.cons (by simp only [hget, Nat.reduceEqDiff, Nat.left_eq_add, Nat.add_eq_left, nm_ne2, nm_en2, nm_ne3, nm_en3, nm_ne4, nm_en4, nm_ne5, nm_en5, reduceIte, ↓reduceIte] <;> first | rfl | ((repeat rw [if_neg (by omega)]) <;> rfl)) ?_ | refine HLe.skip hnm (by omega) ?_ | refine HLe.frz hnm (by omega) ?_ | refine HLe.del hnm (by omega) ?_)) (by rw [e _ hx, Bool.true_or] at hK; exact hK)
  · exact hsp.elim

def spQHasP : FSpec := fun args h nx K => match args with
  | [.dat (.ptr t) d, .int .u64 m] => t = 65 ∧ ((d = .nil ∧ K (.bool false) h) ∨ ∃ (q : QP) (b : M64), d = q.enc ∧ q.ok ∧ m = mI b ∧ K (.bool (q.hasM b)) h)
  | _ => False
theorem vQHasP {E : Nat → Value} (hE : Errs2 Tryd.prog (some 152) E) : Valid Tryd.prog E (gs []) 36 spQHasP := by
  intro args h o nx K ρ H w vs hsp
  unfold spQHasP at hsp
  split at hsp
  · rename_i t d m
    obtain ⟨rfl, hsp⟩ := hsp
    rcases hsp with ⟨rfl, hK⟩ | ⟨q, b, rfl, hq, rfl, hK⟩
    · exact vQHasN hE 0 _ _ _ _ _ _ _ _ _ ⟨rfl, .inl ⟨rfl, hK⟩⟩
    · exact vQHasN hE (q.dep + 1) _ _ _ _ _ _ _ _ _ ⟨rfl, .inr ⟨q, b, rfl, hq, Nat.lt_succ_self _, rfl, hK⟩⟩
  · exact hsp.elim

def WQHas : Opts := mkWF 10 [] [] [8, 9] 152 [] [] [] [8, 9]
def icQHas : IC := (.seq (.seq (.ops [(.u (.box 2 0 (.s 0))), (.u (.mov 4 (.c (.bool false))))]) (.tr [2, 1])) (.seq (.seq (.rgn [] [(false, (.u (.fad 5 0 0 (.ptr 65) 27 (.s 2)))), (false, (.u (.ld 6 (.ptr 65) (.s 5)))), (false, (.u (.mov 7 (.s 1)))), (true, (.u (.call 8 (.c (.clo 35 [])) [(.s 7)] [(some 3)] false))), (true, (.u (.call 9 (.c (.clo 36 [])) [(.s 6), (.s 8)] [none, none] false))), (false, (.u (.mov 4 (.s 9))))]) (.tr [4])) .ret))
def rsQHas : List RV := [(.t 4)]
theorem irQHas : fnIR Tryd.prog WQHas 16 = some (icQHas, rsQHas) := by kernel_rfl
/-- Of a set as it is in memory: its part. -/
def setOf (p : D) (l : List D) (n : Int) : SV := .agg [.dat (.ptr 65) p, .dat (.slice 3) (.list l), .int .i64 n]
def spQHas : FSpec := fun args h nx K => match args with
  | [.agg [.dat (.ptr t) p, x, y], .dat (.slice t') d] => t = 65 ∧ t' = 3 ∧ x.one = true ∧ y.one = true ∧ ((p = .nil ∧ K (.bool false) h) ∨ ∃ q : QP, p = q.enc ∧ q.ok ∧ K (.bool (q.has fun n => (d.l.map D.i).contains n)) h)
  | _ => False
set_option maxHeartbeats 4000000 in
set_option maxRecDepth 8000 in
theorem vQHas {E : Nat → Value} (hE : Errs2 Tryd.prog (some 152) E) : Valid Tryd.prog E (gs []) 16 spQHas := by
  refine valid_go (W := WQHas) hE ((allValid_bot.add (up (vQMask hE))).add (up (vQHasP hE))) irQHas (by decide) (fun args h nx K hsp hok hnm => ?_)
  unfold spQHas at hsp
  split at hsp
  · rename_i t p x y t' d
    obtain ⟨rfl, rfl, hx, hy, hsp⟩ := hsp
    refine ⟨by simp [WQHas, mkW, mkWE, mkWF], fun Q hQ => ?_⟩
    have ret : ∀ b h' nx', HLe h h' → K (.bool b) h → Q Ex.ret ⟨[(4, .bool b)], h', nx'⟩ := fun b h' nx' hh hb => by
      refine (hQ _ ?_).1
      exact fin_t (.bool b) rfl rfl hnm hh hb
    simp (maxSteps := 4000000) only [icQHas, go_sem, goD_calls, eq_self, implies_true, Int.reduceEq, Int.reduceBEq, Int.reduceBNe, Int.reduceLE, Int.reduceLT, Int.reduceAdd, Int.reduceSub, Int.reduceMul, Int.reduceNeg, Nat.reduceMul, Nat.reduceSub, Nat.reduceLeDiff, Nat.reduceLT, Nat.reduceEqDiff, Nat.reduceAdd, reduceCtorEq, ↓reduceIte, reduceIte, spQMask, spQHasP]
    refine ⟨.int .u64 (mI (maskL d.l)), fun nx' => ⟨rfl, rfl⟩, trivial, ?_⟩
    rcases hsp with ⟨rfl, hK⟩ | ⟨q, rfl, hq, hK⟩
    · simp (maxSteps := 4000000) only [go_sem, goD_calls, eq_self, implies_true, Int.reduceEq, Int.reduceBEq, Int.reduceBNe, Int.reduceLE, Int.reduceLT, Int.reduceAdd, Int.reduceSub, Int.reduceMul, Int.reduceNeg, Nat.reduceMul, Nat.reduceSub, Nat.reduceLeDiff, Nat.reduceLT, Nat.reduceEqDiff, Nat.reduceAdd, reduceCtorEq, ↓reduceIte, reduceIte, spQHasP]
      refine ⟨.bool false, fun nx' => .inl ⟨rfl, rfl⟩, trivial, ?_⟩
      exact ret _ _ _ (by ((try simp only []); repeat first | exact HLe.refl _ | refine HLe.cons (by simp only [hget, Nat.reduceEqDiff, Nat.left_eq_add, Nat.add_eq_left, nm_ne2, nm_en2, nm_ne3, nm_en3, nm_ne4, nm_en4, nm_ne5, nm_en5, reduceIte, ↓reduceIte] <;> first | rfl | ((repeat rw [if_neg (by omega)]) <;> rfl)) ?_ | refine HLe.skip hnm (by omega) ?_ | refine HLe.frz hnm (by omega) ?_ | refine HLe.del hnm (by omega) ?_)) hK
    · simp (maxSteps := 4000000) only [go_sem, goD_calls, eq_self, implies_true, Int.reduceEq, Int.reduceBEq, Int.reduceBNe, Int.reduceLE, Int.reduceLT, Int.reduceAdd, Int.reduceSub, Int.reduceMul, Int.reduceNeg, Nat.reduceMul, Nat.reduceSub, Nat.reduceLeDiff, Nat.reduceLT, Nat.reduceEqDiff, Nat.reduceAdd, reduceCtorEq, ↓reduceIte, reduceIte, spQHasP]
      refine ⟨.bool (q.hasM (maskL d.l)), fun nx' => .inr ⟨q, _, rfl, hq, rfl, rfl, rfl⟩, trivial, ?_⟩
      refine ret _ _ _ (by ((try simp only []); repeat first | exact HLe.refl _ | refine HLe.cons (by simp only [hget, Nat.reduceEqDiff, Nat.left_eq_add, Nat.add_eq_left, nm_ne2, nm_en2, nm_ne3, nm_en3, nm_ne4, nm_en4, nm_ne5, nm_en5, reduceIte, ↓reduceIte] <;> first | rfl | ((repeat rw [if_neg (by omega)]) <;> rfl)) ?_ | refine HLe.skip hnm (by omega) ?_ | refine HLe.frz hnm (by omega) ?_ | refine HLe.del hnm (by omega) ?_)) ?_
      unfold QP.hasM maskL
      rw [QP.has_mask hq]
      exact hK
  · exact hsp.elim
end Go.Proofs.YtkmilijehekdoaaDoor
