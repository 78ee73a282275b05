/- Rows of whole numbers held against each other. -/
import Derived.Test.YtmjenjccinfbaaaDoorBytes
namespace Go.Proofs.YtmjenjccinfbaaaDoor
set_option linter.unusedVariables false
set_option linter.unusedSimpArgs false
open Go Go.Fw
attribute [local go_sem] walkSet evMdl evMupD evMup evLkp frpL eltP eltV eltK preF preP prePt prePd frzP evNlq ev frOf oget ogets argSs argS evCat evMm frzL evBin evWrp evShf evCmp evUna evNil evBeq evLd evSt evFad evIad evAad evLen evSln evEls evApp evParts evSlc evNlc evMif evPck evFld evBld evTas evIfq evSeq evSl0 evBxf evAgl evAgq evBsf hget hset hdel cellAt arrAt setCellAt setArrAt takeC lenC svCells SV.okc SV.one ldSV Fw.isAgg explode explodeL toD toDL toD1 Ty.size Ty.sizeL frz1 Fr.sub Heap.sub Tok.sub SV.sub SV.subL

def WSameLongs : Opts := mkWE 29 [] [] [] 171 [] []
def icSameLongs : IC := (.seq (.seq (.ops [(.u (.mov 4 (.c (.bool false))))]) (.tr [0, 1])) (.seq (.seq (.seq (.ops [(.u (.mov 7 (.s 0))), (.u (.len 8 false (.s 7))), (.u (.mov 9 (.s 1))), (.u (.len 10 false (.s 9))), (.u (.cmp 11 .neq (.s 8) (.s 10)))]) (.tr [11, 0, 1])) (.cond (.s 11) (.seq (.seq (.ops [(.u (.mov 4 (.c (.bool false))))]) (.tr [4])) .ret) .skip)) (.seq (.seq (.seq (.ops [(.u (.mov 5 (.c (.int .i64 0))))]) (.tr [0, 1, 5])) (.block 0 (.loop (.seq (.seq (.seq (.ops [(.u (.mov 12 (.s 5))), (.u (.mov 13 (.s 0))), (.u (.len 14 false (.s 13))), (.u (.cmp 15 .lss (.s 12) (.s 14)))]) (.tr [15, 5, 0, 1])) (.cond (.s 15) .skip (.exit 0))) (.seq (.block 1 (.seq (.seq (.rgn [] [(false, (.u (.mov 18 (.s 0)))), (false, (.u (.mov 19 (.s 5)))), (false, (.u (.iad 20 2 (.int .i64) (.s 18) (.s 19)))), (false, (.u (.ld 21 (.int .i64) (.s 20)))), (false, (.u (.mov 22 (.s 1)))), (false, (.u (.mov 23 (.s 5)))), (false, (.u (.iad 24 2 (.int .i64) (.s 22) (.s 23)))), (false, (.u (.ld 25 (.int .i64) (.s 24)))), (false, (.u (.cmp 26 .eql (.s 21) (.s 25)))), (false, (.u (.mov 6 (.s 26))))]) (.tr [6, 5, 0, 1])) (.seq (.seq (.ops [(.u (.mov 27 (.s 6))), (.u (.una 28 .not (.s 27)))]) (.tr [28, 5, 0, 1])) (.cond (.s 28) (.seq (.seq (.ops [(.u (.mov 4 (.c (.bool false))))]) (.tr [4])) .ret) .skip)))) (.seq (.ops [(.u (.mov 16 (.s 5))), (.u (.bin 17 .add .i64 (.s 16) (.c (.int .i64 1)))), (.u (.mov 5 (.s 17)))]) (.tr [0, 1, 5]))))))) (.seq (.seq (.ops [(.u (.mov 4 (.c (.bool true))))]) (.tr [4])) .ret))))
def rsSameLongs : List RV := [(.t 4)]
theorem irSameLongs : fnIR Tryd.prog WSameLongs 34 = some (icSameLongs, rsSameLongs) := by kernel_rfl
def spSameLongs : FSpec := fun args h nx K => match args with
  | [.dat (.slice 2) a, .dat (.slice 2) b] => K (.bool (sameD a.l b.l)) h
  | _ => False
set_option maxHeartbeats 4000000 in
set_option maxRecDepth 8000 in
theorem vSameLongs {E : Nat → Value} (hE : Errs2 Tryd.prog (some 171) E) : Valid Tryd.prog E (gs []) 34 spSameLongs := by
  refine valid_go (W := WSameLongs) hE allValid_bot irSameLongs (by decide) (fun args h nx K hsp hok hnm => ?_)
  unfold spSameLongs at hsp
  split at hsp
  · rename_i a b
    refine ⟨by simp [WSameLongs, mkW, mkWE, mkWF], fun Q hQ => ?_⟩
    obtain ⟨ha, hb, _⟩ := hok
    simp only [SV.ok] at ha hb
    obtain ⟨ha1, ha2, ha3⟩ := Wt.slice ha
    obtain ⟨hb1, hb2, hb3⟩ := Wt.slice hb
    generalize a.l = l at hsp ha1 ha2 ha3
    generalize b.l = m at hsp hb1 hb2 hb3
    subst ha1 hb1
    have hml : maxLen ≤ 9223372036854775807 := by decide
    have ret : ∀ b h' nx', HLe h h' → b = sameD l m → Q Ex.ret ⟨[(4, .bool b)], h', nx'⟩ := fun b h' nx' hh hb => by
      subst hb
      refine (hQ _ ?_).1
      exact fin_t (.bool _) rfl rfl hnm hh hsp
    by_cases hll : l.length = m.length
    · have c1 : ((l.length : Int) != (m.length : Int)) = false := by rw [bne_eq_false_iff_eq]; omega
      simp only [icSameLongs, go_sem, goD_calls, eq_self, implies_true, Int.reduceEq, Int.reduceBEq, Int.reduceBNe, Int.reduceLE, Int.reduceLT, Int.reduceAdd, Int.reduceSub, Int.reduceMul, Int.reduceNeg, Nat.reduceMul, Nat.reduceSub, Nat.reduceLeDiff, Nat.reduceLT, Nat.reduceEqDiff, Nat.reduceAdd, reduceCtorEq, ↓reduceIte, reduceIte, c1]
      refine go_loop (α := { i : Nat // i ≤ l.length ∧ (ints l).take i = (ints m).take i }) (I := fun i => { f := [(0, .dat (.slice 2) (.list l)), (1, .dat (.slice 2) (.list m)), (5, .int .i64 i.1)], h := h, nx := nx }) (μ := fun i => l.length - i.1) _ _ _ ⟨0, by omega, rfl⟩ ?_ (fun i B hB => ?_)
      · refine leq_id (by simp only [frEq_cons, frEq_nil, frIn_cons, frIn_nil, and_true, fget_cons, Nat.reduceEqDiff, reduceIte, ↓reduceIte, true_and, SV.ren, SV.renL, ren1] <;> (try rfl) <;> (try simp)) (by (simp only [frLt_cons, frLt_nil, and_true, SV.lt, SV.ltL, true_and] <;> omega)) (by ((try simp only []); repeat first | exact HLe.refl _ | refine HLe.cons (by simp only [hget, Nat.reduceEqDiff, Nat.left_eq_add, Nat.add_eq_left, nm_ne2, nm_en2, nm_ne3, nm_en3, nm_ne4, nm_en4, nm_ne5, nm_en5, reduceIte, ↓reduceIte] <;> first | rfl | ((repeat rw [if_neg (by omega)]) <;> rfl)) ?_ | refine HLe.skip hnm (by omega) ?_ | refine HLe.frz hnm (by omega) ?_ | refine HLe.del hnm (by omega) ?_)) (by (repeat first | exact HLt.mono hnm (by simp only [] <;> omega) | refine HLt.cons (by simp only [] <;> omega) (by simp only [Tok.lt, SV.ltL, SV.lt, and_true, true_and] <;> omega) ?_)) (by simp only [] <;> omega)
      · obtain ⟨i, hi, hs⟩ := i
        by_cases hil : i < l.length
        · have c2 : decide ((i : Int) < (l.length : Int)) = true := decide_eq_true (by omega)
          simp (maxSteps := 1000000) only [go_sem, goD_calls, eq_self, implies_true, Int.reduceEq, Int.reduceBEq, Int.reduceBNe, Int.reduceLE, Int.reduceLT, Int.reduceAdd, Int.reduceSub, Int.reduceMul, Int.reduceNeg, Nat.reduceMul, Nat.reduceSub, Nat.reduceLeDiff, Nat.reduceLT, Nat.reduceEqDiff, Nat.reduceAdd, reduceCtorEq, ↓reduceIte, reduceIte, c2, Int.toNat_natCast, min_i64, max_i64]
          refine ⟨by omega, by omega, fun c => ?_, fun c => ?_⟩
          · exact ret _ _ _ (by ((try simp only []); repeat first | exact HLe.refl _ | refine HLe.cons (by simp only [hget, Nat.reduceEqDiff, Nat.left_eq_add, Nat.add_eq_left, nm_ne2, nm_en2, nm_ne3, nm_en3, nm_ne4, nm_en4, nm_ne5, nm_en5, reduceIte, ↓reduceIte] <;> first | rfl | ((repeat rw [if_neg (by omega)]) <;> rfl)) ?_ | refine HLe.skip hnm (by omega) ?_ | refine HLe.frz hnm (by omega) ?_ | refine HLe.del hnm (by omega) ?_)) (ints_ne hil (by omega) (by simpa using c)).symm
          · refine ⟨by omega, hB _ ⟨i + 1, by omega, ints_step hil (by omega) hs (by simpa using c)⟩ (by simp only []; omega) ?_⟩
            refine leq_id (by simp only [frEq_cons, frEq_nil, frIn_cons, frIn_nil, and_true, fget_cons, Nat.reduceEqDiff, reduceIte, ↓reduceIte, true_and, SV.ren, SV.renL, ren1] <;> (try rfl) <;> (try simp)) (by (simp only [frLt_cons, frLt_nil, and_true, SV.lt, SV.ltL, true_and] <;> omega)) (by ((try simp only []); repeat first | exact HLe.refl _ | refine HLe.cons (by simp only [hget, Nat.reduceEqDiff, Nat.left_eq_add, Nat.add_eq_left, nm_ne2, nm_en2, nm_ne3, nm_en3, nm_ne4, nm_en4, nm_ne5, nm_en5, reduceIte, ↓reduceIte] <;> first | rfl | ((repeat rw [if_neg (by omega)]) <;> rfl)) ?_ | refine HLe.skip hnm (by omega) ?_ | refine HLe.frz hnm (by omega) ?_ | refine HLe.del hnm (by omega) ?_)) (by (repeat first | exact HLt.mono hnm (by simp only [] <;> omega) | refine HLt.cons (by simp only [] <;> omega) (by simp only [Tok.lt, SV.ltL, SV.lt, and_true, true_and] <;> omega) ?_)) (by simp only [] <;> omega)
        · have c2 : decide ((i : Int) < (l.length : Int)) = false := decide_eq_false (by omega)
          simp only [go_sem, goD_calls, eq_self, implies_true, Int.reduceEq, Int.reduceBEq, Int.reduceBNe, Int.reduceLE, Int.reduceLT, Int.reduceAdd, Int.reduceSub, Int.reduceMul, Int.reduceNeg, Nat.reduceMul, Nat.reduceSub, Nat.reduceLeDiff, Nat.reduceLT, Nat.reduceEqDiff, Nat.reduceAdd, reduceCtorEq, ↓reduceIte, reduceIte, c2]
          refine ret _ _ _ (by ((try simp only []); repeat first | exact HLe.refl _ | refine HLe.cons (by simp only [hget, Nat.reduceEqDiff, Nat.left_eq_add, Nat.add_eq_left, nm_ne2, nm_en2, nm_ne3, nm_en3, nm_ne4, nm_en4, nm_ne5, nm_en5, reduceIte, ↓reduceIte] <;> first | rfl | ((repeat rw [if_neg (by omega)]) <;> rfl)) ?_ | refine HLe.skip hnm (by omega) ?_ | refine HLe.frz hnm (by omega) ?_ | refine HLe.del hnm (by omega) ?_)) ?_
          unfold sameD
          rw [eq_comm, beq_iff_eq]
          rw [List.take_of_length_le (by rw [ints_len]; omega), List.take_of_length_le (by rw [ints_len]; omega)] at hs
          exact hs
    · have c1 : ((l.length : Int) != (m.length : Int)) = true := by rw [bne_iff_ne]; omega
      simp only [icSameLongs, go_sem, goD_calls, eq_self, implies_true, Int.reduceEq, Int.reduceBEq, Int.reduceBNe, Int.reduceLE, Int.reduceLT, Int.reduceAdd, Int.reduceSub, Int.reduceMul, Int.reduceNeg, Nat.reduceMul, Nat.reduceSub, Nat.reduceLeDiff, Nat.reduceLT, Nat.reduceEqDiff, Nat.reduceAdd, reduceCtorEq, ↓reduceIte, reduceIte, c1]
      refine ret _ _ _ (by ((try simp only []); repeat first | exact HLe.refl _ | refine HLe.cons (by simp only [hget, Nat.reduceEqDiff, Nat.left_eq_add, Nat.add_eq_left, nm_ne2, nm_en2, nm_ne3, nm_en3, nm_ne4, nm_en4, nm_ne5, nm_en5, reduceIte, ↓reduceIte] <;> first | rfl | ((repeat rw [if_neg (by omega)]) <;> rfl)) ?_ | refine HLe.skip hnm (by omega) ?_ | refine HLe.frz hnm (by omega) ?_ | refine HLe.del hnm (by omega) ?_)) ?_
      unfold sameD
      rw [eq_comm, beq_eq_false_iff_ne]
      intro e
      exact hll (by rw [← ints_len, e, ints_len])
  · exact hsp.elim

def WSameInts : Opts := mkWE 29 [] [] [] 171 [] []
def icSameInts : IC := (.seq (.seq (.ops [(.u (.mov 4 (.c (.bool false))))]) (.tr [0, 1])) (.seq (.seq (.seq (.ops [(.u (.mov 7 (.s 0))), (.u (.len 8 false (.s 7))), (.u (.mov 9 (.s 1))), (.u (.len 10 false (.s 9))), (.u (.cmp 11 .neq (.s 8) (.s 10)))]) (.tr [11, 0, 1])) (.cond (.s 11) (.seq (.seq (.ops [(.u (.mov 4 (.c (.bool false))))]) (.tr [4])) .ret) .skip)) (.seq (.seq (.seq (.ops [(.u (.mov 5 (.c (.int .i64 0))))]) (.tr [0, 1, 5])) (.block 0 (.loop (.seq (.seq (.seq (.ops [(.u (.mov 12 (.s 5))), (.u (.mov 13 (.s 0))), (.u (.len 14 false (.s 13))), (.u (.cmp 15 .lss (.s 12) (.s 14)))]) (.tr [15, 5, 0, 1])) (.cond (.s 15) .skip (.exit 0))) (.seq (.block 1 (.seq (.seq (.rgn [] [(false, (.u (.mov 18 (.s 0)))), (false, (.u (.mov 19 (.s 5)))), (false, (.u (.iad 20 3 (.int .i64) (.s 18) (.s 19)))), (false, (.u (.ld 21 (.int .i64) (.s 20)))), (false, (.u (.mov 22 (.s 1)))), (false, (.u (.mov 23 (.s 5)))), (false, (.u (.iad 24 3 (.int .i64) (.s 22) (.s 23)))), (false, (.u (.ld 25 (.int .i64) (.s 24)))), (false, (.u (.cmp 26 .eql (.s 21) (.s 25)))), (false, (.u (.mov 6 (.s 26))))]) (.tr [6, 5, 0, 1])) (.seq (.seq (.ops [(.u (.mov 27 (.s 6))), (.u (.una 28 .not (.s 27)))]) (.tr [28, 5, 0, 1])) (.cond (.s 28) (.seq (.seq (.ops [(.u (.mov 4 (.c (.bool false))))]) (.tr [4])) .ret) .skip)))) (.seq (.ops [(.u (.mov 16 (.s 5))), (.u (.bin 17 .add .i64 (.s 16) (.c (.int .i64 1)))), (.u (.mov 5 (.s 17)))]) (.tr [0, 1, 5]))))))) (.seq (.seq (.ops [(.u (.mov 4 (.c (.bool true))))]) (.tr [4])) .ret))))
def rsSameInts : List RV := [(.t 4)]
theorem irSameInts : fnIR Tryd.prog WSameInts 52 = some (icSameInts, rsSameInts) := by kernel_rfl
def spSameInts : FSpec := fun args h nx K => match args with
  | [.dat (.slice 3) a, .dat (.slice 3) b] => K (.bool (sameD a.l b.l)) h
  | _ => False
set_option maxHeartbeats 4000000 in
set_option maxRecDepth 8000 in
theorem vSameInts {E : Nat → Value} (hE : Errs2 Tryd.prog (some 171) E) : Valid Tryd.prog E (gs []) 52 spSameInts := by
  refine valid_go (W := WSameInts) hE allValid_bot irSameInts (by decide) (fun args h nx K hsp hok hnm => ?_)
  unfold spSameInts at hsp
  split at hsp
  · rename_i a b
    refine ⟨by simp [WSameInts, mkW, mkWE, mkWF], fun Q hQ => ?_⟩
    obtain ⟨ha, hb, _⟩ := hok
    simp only [SV.ok] at ha hb
    obtain ⟨ha1, ha2, ha3⟩ := Wt.slice ha
    obtain ⟨hb1, hb2, hb3⟩ := Wt.slice hb
    generalize a.l = l at hsp ha1 ha2 ha3
    generalize b.l = m at hsp hb1 hb2 hb3
    subst ha1 hb1
    have hml : maxLen ≤ 9223372036854775807 := by decide
    have ret : ∀ b h' nx', HLe h h' → b = sameD l m → Q Ex.ret ⟨[(4, .bool b)], h', nx'⟩ := fun b h' nx' hh hb => by
      subst hb
      refine (hQ _ ?_).1
      exact fin_t (.bool _) rfl rfl hnm hh hsp
    by_cases hll : l.length = m.length
    · have c1 : ((l.length : Int) != (m.length : Int)) = false := by rw [bne_eq_false_iff_eq]; omega
      simp only [icSameInts, go_sem, goD_calls, eq_self, implies_true, Int.reduceEq, Int.reduceBEq, Int.reduceBNe, Int.reduceLE, Int.reduceLT, Int.reduceAdd, Int.reduceSub, Int.reduceMul, Int.reduceNeg, Nat.reduceMul, Nat.reduceSub, Nat.reduceLeDiff, Nat.reduceLT, Nat.reduceEqDiff, Nat.reduceAdd, reduceCtorEq, ↓reduceIte, reduceIte, c1]
      refine go_loop (α := { i : Nat // i ≤ l.length ∧ (ints l).take i = (ints m).take i }) (I := fun i => { f := [(0, .dat (.slice 3) (.list l)), (1, .dat (.slice 3) (.list m)), (5, .int .i64 i.1)], h := h, nx := nx }) (μ := fun i => l.length - i.1) _ _ _ ⟨0, by omega, rfl⟩ ?_ (fun i B hB => ?_)
      · refine leq_id (by simp only [frEq_cons, frEq_nil, frIn_cons, frIn_nil, and_true, fget_cons, Nat.reduceEqDiff, reduceIte, ↓reduceIte, true_and, SV.ren, SV.renL, ren1] <;> (try rfl) <;> (try simp)) (by (simp only [frLt_cons, frLt_nil, and_true, SV.lt, SV.ltL, true_and] <;> omega)) (by ((try simp only []); repeat first | exact HLe.refl _ | refine HLe.cons (by simp only [hget, Nat.reduceEqDiff, Nat.left_eq_add, Nat.add_eq_left, nm_ne2, nm_en2, nm_ne3, nm_en3, nm_ne4, nm_en4, nm_ne5, nm_en5, reduceIte, ↓reduceIte] <;> first | rfl | ((repeat rw [if_neg (by omega)]) <;> rfl)) ?_ | refine HLe.skip hnm (by omega) ?_ | refine HLe.frz hnm (by omega) ?_ | refine HLe.del hnm (by omega) ?_)) (by (repeat first | exact HLt.mono hnm (by simp only [] <;> omega) | refine HLt.cons (by simp only [] <;> omega) (by simp only [Tok.lt, SV.ltL, SV.lt, and_true, true_and] <;> omega) ?_)) (by simp only [] <;> omega)
      · obtain ⟨i, hi, hs⟩ := i
        by_cases hil : i < l.length
        · have c2 : decide ((i : Int) < (l.length : Int)) = true := decide_eq_true (by omega)
          simp (maxSteps := 1000000) only [go_sem, goD_calls, eq_self, implies_true, Int.reduceEq, Int.reduceBEq, Int.reduceBNe, Int.reduceLE, Int.reduceLT, Int.reduceAdd, Int.reduceSub, Int.reduceMul, Int.reduceNeg, Nat.reduceMul, Nat.reduceSub, Nat.reduceLeDiff, Nat.reduceLT, Nat.reduceEqDiff, Nat.reduceAdd, reduceCtorEq, ↓reduceIte, reduceIte, c2, Int.toNat_natCast, min_i64, max_i64]
          refine ⟨by omega, by omega, fun c => ?_, fun c => ?_⟩
          · exact ret _ _ _ (by ((try simp only []); repeat first | exact HLe.refl _ | refine HLe.cons (by simp only [hget, Nat.reduceEqDiff, Nat.left_eq_add, Nat.add_eq_left, nm_ne2, nm_en2, nm_ne3, nm_en3, nm_ne4, nm_en4, nm_ne5, nm_en5, reduceIte, ↓reduceIte] <;> first | rfl | ((repeat rw [if_neg (by omega)]) <;> rfl)) ?_ | refine HLe.skip hnm (by omega) ?_ | refine HLe.frz hnm (by omega) ?_ | refine HLe.del hnm (by omega) ?_)) (ints_ne hil (by omega) (by simpa using c)).symm
          · refine ⟨by omega, hB _ ⟨i + 1, by omega, ints_step hil (by omega) hs (by simpa using c)⟩ (by simp only []; omega) ?_⟩
            refine leq_id (by simp only [frEq_cons, frEq_nil, frIn_cons, frIn_nil, and_true, fget_cons, Nat.reduceEqDiff, reduceIte, ↓reduceIte, true_and, SV.ren, SV.renL, ren1] <;> (try rfl) <;> (try simp)) (by (simp only [frLt_cons, frLt_nil, and_true, SV.lt, SV.ltL, true_and] <;> omega)) (by ((try simp only []); repeat first | exact HLe.refl _ | refine HLe.cons (by simp only [hget, Nat.reduceEqDiff, Nat.left_eq_add, Nat.add_eq_left, nm_ne2, nm_en2, nm_ne3, nm_en3, nm_ne4, nm_en4, nm_ne5, nm_en5, reduceIte, ↓reduceIte] <;> first | rfl | ((repeat rw [if_neg (by omega)]) <;> rfl)) ?_ | refine HLe.skip hnm (by omega) ?_ | refine HLe.frz hnm (by omega) ?_ | refine HLe.del hnm (by omega) ?_)) (by (repeat first | exact HLt.mono hnm (by simp only [] <;> omega) | refine HLt.cons (by simp only [] <;> omega) (by simp only [Tok.lt, SV.ltL, SV.lt, and_true, true_and] <;> omega) ?_)) (by simp only [] <;> omega)
        · have c2 : decide ((i : Int) < (l.length : Int)) = false := decide_eq_false (by omega)
          simp only [go_sem, goD_calls, eq_self, implies_true, Int.reduceEq, Int.reduceBEq, Int.reduceBNe, Int.reduceLE, Int.reduceLT, Int.reduceAdd, Int.reduceSub, Int.reduceMul, Int.reduceNeg, Nat.reduceMul, Nat.reduceSub, Nat.reduceLeDiff, Nat.reduceLT, Nat.reduceEqDiff, Nat.reduceAdd, reduceCtorEq, ↓reduceIte, reduceIte, c2]
          refine ret _ _ _ (by ((try simp only []); repeat first | exact HLe.refl _ | refine HLe.cons (by simp only [hget, Nat.reduceEqDiff, Nat.left_eq_add, Nat.add_eq_left, nm_ne2, nm_en2, nm_ne3, nm_en3, nm_ne4, nm_en4, nm_ne5, nm_en5, reduceIte, ↓reduceIte] <;> first | rfl | ((repeat rw [if_neg (by omega)]) <;> rfl)) ?_ | refine HLe.skip hnm (by omega) ?_ | refine HLe.frz hnm (by omega) ?_ | refine HLe.del hnm (by omega) ?_)) ?_
          unfold sameD
          rw [eq_comm, beq_iff_eq]
          rw [List.take_of_length_le (by rw [ints_len]; omega), List.take_of_length_le (by rw [ints_len]; omega)] at hs
          exact hs
    · have c1 : ((l.length : Int) != (m.length : Int)) = true := by rw [bne_iff_ne]; omega
      simp only [icSameInts, go_sem, goD_calls, eq_self, implies_true, Int.reduceEq, Int.reduceBEq, Int.reduceBNe, Int.reduceLE, Int.reduceLT, Int.reduceAdd, Int.reduceSub, Int.reduceMul, Int.reduceNeg, Nat.reduceMul, Nat.reduceSub, Nat.reduceLeDiff, Nat.reduceLT, Nat.reduceEqDiff, Nat.reduceAdd, reduceCtorEq, ↓reduceIte, reduceIte, c1]
      refine ret _ _ _ (by ((try simp only []); repeat first | exact HLe.refl _ | refine HLe.cons (by simp only [hget, Nat.reduceEqDiff, Nat.left_eq_add, Nat.add_eq_left, nm_ne2, nm_en2, nm_ne3, nm_en3, nm_ne4, nm_en4, nm_ne5, nm_en5, reduceIte, ↓reduceIte] <;> first | rfl | ((repeat rw [if_neg (by omega)]) <;> rfl)) ?_ | refine HLe.skip hnm (by omega) ?_ | refine HLe.frz hnm (by omega) ?_ | refine HLe.del hnm (by omega) ?_)) ?_
      unfold sameD
      rw [eq_comm, beq_eq_false_iff_ne]
      intro e
      exact hll (by rw [← ints_len, e, ints_len])
  · exact hsp.elim
theorem sameD_refl (l : List D) : sameD l l = true := by simp [sameD]
end Go.Proofs.YtmjenjccinfbaaaDoor
