/- Chapter 6: the program's iterator of the least sets. -/
import Derived.Test.YtkmilijehekdoaaDoorIterW
import Derived.Test.YtkmilijehekdoaaDoorQuorM
import Derived.Test.YtkmilijehekdoaaDoorQuorD
namespace Go.Proofs.YtkmilijehekdoaaDoor
set_option linter.unusedVariables false
set_option linter.unusedSimpArgs false
open Go Go.Fw
attribute [local go_sem] walkSet evMdl evMupD evMup evLkp frpL preF preP prePt prePd frzP evNlq ev frOf oget ogets argSs argS evMm frzL evBin evWrp evShf evCmp evUna evNil evBeq evLd evSt evFad evIad evAad evLen evSln evEls evApp evParts evSlc evNlc evMif evPck evFld evBld evTas evIfq evSeq evSl0 evBxf evAgl evAgq evBsf hget hset hdel cellAt arrAt setCellAt setArrAt takeC lenC svCells SV.okc SV.one ldSV Fw.isAgg explode explodeL toD toDL toD1 Ty.size Ty.sizeL frz1 Fr.sub Heap.sub Tok.sub SV.sub SV.subL

def WQThoseV : Opts := mkWE 27 [] [] [] 152 [] []
def icQThoseV : IC := (.seq (.seq (.ops [(.u (.box 2 0 (.s 0))), (.u (.mov 4 (.c .nils)))]) (.tr [2, 1])) (.seq (.seq (.ops [(.u (.mov 5 (.c .nils)))]) (.tr [2, 1, 5])) (.seq (.seq (.seq (.ops [(.u (.fad 8 1 1 (.slice 3) 27 (.s 2))), (.u (.ld 9 (.slice 3) (.s 8))), (.u (.len 10 false (.s 9))), (.u (.mov 11 (.c (.int .i64 0))))]) (.tr [10, 9, 1, 11, 5])) (.block 0 (.loop (.seq (.seq (.ops [(.u (.cmp 12 .lss (.s 11) (.s 10)))]) (.tr [12, 11, 10, 9, 1, 5])) (.seq (.cond (.s 12) .skip (.exit 0)) (.seq (.block 1 (.seq (.seq (.ops [(.u (.mov 13 (.s 11))), (.u (.iad 14 3 (.int .i64) (.s 9) (.s 11))), (.u (.ld 15 (.int .i64) (.s 14))), (.u (.mov 6 (.s 13))), (.u (.mov 7 (.s 15)))]) (.tr [6, 7, 11, 10, 9, 1, 5])) (.seq (.seq (.ops [(.u (.mov 16 (.s 1))), (.u (.mov 17 (.s 6))), (.u (.shf 18 .shr .i64 (.s 16) (.s 17))), (.u (.bin 19 .and .i64 (.s 18) (.c (.int .i64 1)))), (.u (.cmp 20 .eql (.s 19) (.c (.int .i64 1))))]) (.tr [20, 7, 11, 10, 9, 1, 5])) (.cond (.s 20) (.seq (.ops [(.u (.mov 21 (.s 5))), (.u (.mov 22 (.s 7))), (.u (.bsl 23 3 (.int .i64) [(.s 22)])), (.u (.app 24 3 (.int .i64) 8 (.s 21) (.s 23))), (.u (.mov 5 (.s 24)))]) (.tr [11, 10, 9, 1, 5])) .skip)))) (.seq (.ops [(.u (.bin 25 .add .i64 (.s 11) (.c (.int .i64 1)))), (.u (.mov 11 (.s 25)))]) (.tr [10, 9, 1, 11, 5])))))))) (.seq (.seq (.ops [(.u (.mov 26 (.s 5))), (.u (.mov 4 (.s 26)))]) (.tr [4])) .ret))))
def rsQThoseV : List RV := [(.t 4)]
theorem irQThoseV : fnIR Tryd.prog WQThoseV 34 = some (icQThoseV, rsQThoseV) := by kernel_rfl
def spQThoseV : FSpec := fun args h nx K => match args with
  | [.agg [.dat (.ptr t) p, .dat (.slice t') d, .int .i64 n], .int .i64 x] => t = 65 ∧ t' = 3 ∧ d.l.length ≤ 1000 ∧ K (.vec nx) ((nx, .arr 3 (.int .i64) (thoseL d.l x d.l.length)) :: h)
  | _ => False
set_option maxHeartbeats 4000000 in
set_option maxRecDepth 8000 in
theorem vQThoseV {E : Nat → Value} (hE : Errs2 Tryd.prog (some 152) E) : Valid Tryd.prog E (gs []) 34 spQThoseV := by
  refine valid_go (W := WQThoseV) hE allValid_bot irQThoseV (by decide) (fun args h nx K hsp hok hnm => ?_)
  unfold spQThoseV at hsp
  split at hsp
  · rename_i t p t' d n x
    obtain ⟨rfl, rfl, hlen, hK⟩ := hsp
    refine ⟨by simp [WQThoseV, mkW, mkWE, mkWF], fun Q hQ => ?_⟩
    obtain ⟨⟨_, hd, _⟩, _⟩ := hok
    simp only [SV.ok] at hd
    obtain ⟨hd1, hd2, hd3⟩ := Wt.slice hd; generalize d.l = l at *; subst hd1
    simp (maxSteps := 4000000) only [icQThoseV, go_sem, goD_calls, eq_self, implies_true, Int.reduceEq, Int.reduceBEq, Int.reduceBNe, Int.reduceLE, Int.reduceLT, Int.reduceAdd, Int.reduceSub, Int.reduceMul, Int.reduceNeg, Nat.reduceMul, Nat.reduceSub, Nat.reduceLeDiff, Nat.reduceLT, Nat.reduceEqDiff, Nat.reduceAdd, reduceCtorEq, ↓reduceIte, reduceIte]
    refine go_loop (α := { i : Nat // i ≤ l.length }) (I := fun i => { f := [(10, .int .i64 l.length), (9, .dat (.slice 3) (.list l)), (1, .int .i64 x), (11, .int .i64 i.1), (5, .vec nx)], h := (nx, .arr 3 (.int .i64) (thoseL l x i.1)) :: h, nx := nx + 1 }) (μ := fun i => l.length - i.1) _ _ _ ⟨0, by omega⟩ ?_ (fun i B hB => ?_)
    · refine leq_news [(nx, nx + 1)] [(nx, .arr 3 (.int .i64) (thoseL l x 0))] (.slot 5 3 (.int .i64) rfl (.refl _)) (by simp) (by simp <;> omega) (by simp) rfl ?_ ?_ ?_ ?_ hnm ?_ (by omega)
      · simp [frIn_cons, frIn_nil, fget_cons, fget_nil, SV.ren, SV.renL, rens]
      · (simp only [frLt_cons, frLt_nil, and_true, SV.lt, SV.ltL, true_and] <;> omega)
      · (simp only [List.mem_cons, List.not_mem_nil, or_false, forall_eq_or_imp, forall_eq]; simp [hget, rens, Tok.ren, SV.ren, SV.renL])
        try simp [thoseL]
      · (simp only [List.mem_cons, List.not_mem_nil, or_false, forall_eq_or_imp, forall_eq, Tok.lt, SV.lt, SV.ltL, and_true, true_and] <;> omega)
      · ((try simp only []); repeat first | exact HLe.refl _ | refine HLe.cons (by simp only [hget, Nat.reduceEqDiff, Nat.left_eq_add, Nat.add_eq_left, nm_ne2, nm_en2, nm_ne3, nm_en3, nm_ne4, nm_en4, nm_ne5, nm_en5, reduceIte, ↓reduceIte] <;> first | rfl | ((repeat rw [if_neg (by omega)]) <;> rfl)) ?_ | refine HLe.skip hnm (by omega) ?_ | refine HLe.frz hnm (by omega) ?_ | refine HLe.del hnm (by omega) ?_)
    · obtain ⟨i, hi⟩ := i
      simp only at hB
      by_cases hil : i < l.length
      · have c1 : decide ((i : Int) < (l.length : Int)) = true := decide_eq_true (by omega)
        have hs := those_step l x i
        have hl2 := those_len l x i
        have next : ∀ S', Leq nx S' { f := [(10, .int .i64 l.length), (9, .dat (.slice 3) (.list l)), (1, .int .i64 x), (11, .int .i64 ((i + 1 : Nat) : Int)), (5, .vec nx)], h := (nx, .arr 3 (.int .i64) (thoseL l x (i + 1))) :: h, nx := nx + 1 } → B S' := fun S' hl => hB _ ⟨i + 1, by omega⟩ (by simp only []; omega) hl
        rcases bool_ftQ (bitX x i) with hb | hb
        · have cb : (bitI .and .i64 (x.fdiv (2 ^ min i 64)) 1 == 1) = false := hb
          rw [hb] at hs
          simp only [Bool.false_eq_true, if_false, List.append_nil] at hs
          rw [hs] at next
          simp (maxSteps := 4000000) only [go_sem, goD_calls, eq_self, implies_true, Int.reduceEq, Int.reduceBEq, Int.reduceBNe, Int.reduceLE, Int.reduceLT, Int.reduceAdd, Int.reduceSub, Int.reduceMul, Int.reduceNeg, Nat.reduceMul, Nat.reduceSub, Nat.reduceLeDiff, Nat.reduceLT, Nat.reduceEqDiff, Nat.reduceAdd, reduceCtorEq, ↓reduceIte, reduceIte, c1, cb, Int.toNat_natCast, min_i64, max_i64]
          repeat refine ⟨by omega, ?_⟩
          refine next _ ?_
          refine leq_id ?_ (by (simp only [frLt_cons, frLt_nil, and_true, SV.lt, SV.ltL, true_and] <;> omega)) (by ((try simp only []); repeat first | exact HLe.refl _ | refine HLe.cons (by simp only [hget, Nat.reduceEqDiff, Nat.left_eq_add, Nat.add_eq_left, nm_ne2, nm_en2, nm_ne3, nm_en3, nm_ne4, nm_en4, nm_ne5, nm_en5, reduceIte, ↓reduceIte] <;> first | rfl | ((repeat rw [if_neg (by omega)]) <;> rfl)) ?_ | refine HLe.skip hnm (by omega) ?_ | refine HLe.frz hnm (by omega) ?_ | refine HLe.del hnm (by omega) ?_)) (by (repeat first | exact HLt.mono hnm (by simp only [] <;> omega) | refine HLt.cons (by simp only [] <;> omega) (by simp only [Tok.lt, SV.ltL, SV.lt, and_true, true_and] <;> omega) ?_)) (by simp only [] <;> omega)
          simp only [frEq_cons, frEq_nil, frIn_cons, frIn_nil, and_true, fget_cons, Nat.reduceEqDiff, reduceIte, ↓reduceIte, true_and, SV.ren, SV.renL, ren1]
          simp
        · have cb : (bitI .and .i64 (x.fdiv (2 ^ min i 64)) 1 == 1) = true := hb
          rw [hb] at hs
          simp only [if_true] at hs
          rw [hs] at next
          simp (maxSteps := 4000000) only [go_sem, goD_calls, eq_self, implies_true, Int.reduceEq, Int.reduceBEq, Int.reduceBNe, Int.reduceLE, Int.reduceLT, Int.reduceAdd, Int.reduceSub, Int.reduceMul, Int.reduceNeg, Nat.reduceMul, Nat.reduceSub, Nat.reduceLeDiff, Nat.reduceLT, Nat.reduceEqDiff, Nat.reduceAdd, reduceCtorEq, ↓reduceIte, reduceIte, c1, cb, Int.toNat_natCast, min_i64, max_i64]
          repeat refine ⟨by omega, ?_⟩
          refine next _ ?_
          refine leq_ren1 nx (nx + 1 + 1) (by omega) (by simp only [] <;> omega) ?_ (by (simp only [frLt_cons, frLt_nil, and_true, SV.lt, SV.ltL, true_and] <;> omega)) ?_ (by (repeat first | exact HLt.mono hnm (by simp only [] <;> omega) | refine HLt.cons (by simp only [] <;> omega) (by simp only [Tok.lt, SV.ltL, SV.lt, and_true, true_and] <;> omega) ?_)) (by simp only [] <;> omega)
          · simp only [frEq_cons, frEq_nil, frIn_cons, frIn_nil, and_true, fget_cons, Nat.reduceEqDiff, reduceIte, ↓reduceIte, true_and, SV.ren, SV.renL, ren1]
            simp
          · exact HRen.cons (by rw [ren1_eq]; simp [hget, Tok.ren]) (HRen.base hnm (Nat.le_refl _) (by ((try simp only []); repeat first | exact HLe.refl _ | refine HLe.cons (by simp only [hget, Nat.reduceEqDiff, Nat.left_eq_add, Nat.add_eq_left, nm_ne2, nm_en2, nm_ne3, nm_en3, nm_ne4, nm_en4, nm_ne5, nm_en5, reduceIte, ↓reduceIte] <;> first | rfl | ((repeat rw [if_neg (by omega)]) <;> rfl)) ?_ | refine HLe.skip hnm (by omega) ?_ | refine HLe.frz hnm (by omega) ?_ | refine HLe.del hnm (by omega) ?_)))
      · obtain rfl : i = l.length := by omega
        have c1 : decide ((l.length : Int) < (l.length : Int)) = false := decide_eq_false (by omega)
        simp (maxSteps := 4000000) only [go_sem, goD_calls, eq_self, implies_true, Int.reduceEq, Int.reduceBEq, Int.reduceBNe, Int.reduceLE, Int.reduceLT, Int.reduceAdd, Int.reduceSub, Int.reduceMul, Int.reduceNeg, Nat.reduceMul, Nat.reduceSub, Nat.reduceLeDiff, Nat.reduceLT, Nat.reduceEqDiff, Nat.reduceAdd, reduceCtorEq, ↓reduceIte, reduceIte, c1]
        refine (hQ _ ?_).1
        exact fin_vec (m := nx) rfl (by simp only [hget, ↓reduceIte]) (by omega) hnm (by ((try simp only []); repeat first | exact HLe.refl _ | refine HLe.cons (by simp only [hget, Nat.reduceEqDiff, Nat.left_eq_add, Nat.add_eq_left, nm_ne2, nm_en2, nm_ne3, nm_en3, nm_ne4, nm_en4, nm_ne5, nm_en5, reduceIte, ↓reduceIte] <;> first | rfl | ((repeat rw [if_neg (by omega)]) <;> rfl)) ?_ | refine HLe.skip hnm (by omega) ?_ | refine HLe.frz hnm (by omega) ?_ | refine HLe.del hnm (by omega) ?_)) hK
  · exact hsp.elim

def WQMaskV : Opts := mkWE 24 [] [] [] 152 [] []
def icQMaskV : IC := (.seq (.seq (.ops [(.u (.mov 2 (.c (.int .u64 0))))]) (.tr [0])) (.seq (.seq (.ops [(.u (.mov 3 (.c (.int .u64 0))))]) (.tr [0, 3])) (.seq (.seq (.seq (.ops [(.u (.mov 6 (.s 0))), (.u (.len 7 false (.s 6))), (.u (.mov 8 (.c (.int .i64 0))))]) (.tr [7, 6, 8, 3])) (.block 0 (.loop (.seq (.seq (.ops [(.u (.cmp 9 .lss (.s 8) (.s 7)))]) (.tr [9, 8, 7, 6, 3])) (.seq (.cond (.s 9) .skip (.exit 0)) (.seq (.block 1 (.seq (.seq (.ops [(.u (.iad 10 3 (.int .i64) (.s 6) (.s 8))), (.u (.ld 11 (.int .i64) (.s 10))), (.u (.mov 5 (.s 11)))]) (.tr [5, 8, 7, 6, 3])) (.seq (.seq (.ops [(.u (.mov 12 (.s 5))), (.u (.cmp 13 .geq (.s 12) (.c (.int .i64 0)))), (.u (.mov 14 (.s 13))), (.g 14 true (some 15) (.mov 15 (.s 5))), (.g 14 true (some 16) (.cmp 16 .lss (.s 15) (.c (.int .i64 64)))), (.u (.pck 17 (.s 14) (.s 16) (.c (.bool false))))]) (.tr [17, 5, 8, 7, 6, 3])) (.cond (.s 17) (.seq (.ops [(.u (.mov 18 (.s 3))), (.u (.mov 19 (.s 5))), (.u (.shf 20 .shl .u64 (.c (.int .u64 1)) (.s 19))), (.u (.bin 21 .or .u64 (.s 18) (.s 20))), (.u (.mov 3 (.s 21)))]) (.tr [8, 7, 6, 3])) .skip)))) (.seq (.ops [(.u (.bin 22 .add .i64 (.s 8) (.c (.int .i64 1)))), (.u (.mov 8 (.s 22)))]) (.tr [7, 6, 8, 3])))))))) (.seq (.seq (.ops [(.u (.mov 23 (.s 3))), (.u (.mov 2 (.s 23)))]) (.tr [2])) .ret))))
def rsQMaskV : List RV := [(.t 2)]
theorem irQMaskV : fnIR Tryd.prog WQMaskV 35 = some (icQMaskV, rsQMaskV) := by kernel_rfl
def spQMaskV : FSpec := fun args h nx K => match args with
  | [.vec q] => ∃ l, hget h q = some (.arr 3 (.int .i64) l) ∧ l.length ≤ 1000000 ∧ K (.int .u64 (mI (maskL l))) h
  | _ => False
set_option maxHeartbeats 4000000 in
set_option maxRecDepth 8000 in
theorem vQMaskV {E : Nat → Value} (hE : Errs2 Tryd.prog (some 152) E) : Valid Tryd.prog E (gs []) 35 spQMaskV := by
  refine valid_go (W := WQMaskV) hE allValid_bot irQMaskV (by decide) (fun args h nx K hsp hok hnm => ?_)
  unfold spQMaskV at hsp
  split at hsp
  · rename_i q
    obtain ⟨l, hq, hlen, hK⟩ := hsp
    refine ⟨by simp [WQMaskV, mkW, mkWE, mkWF], fun Q hQ => ?_⟩
    have hq1 := (hnm _ _ hq).1
    simp (maxSteps := 4000000) only [icQMaskV, go_sem, goD_calls, eq_self, implies_true, Int.reduceEq, Int.reduceBEq, Int.reduceBNe, Int.reduceLE, Int.reduceLT, Int.reduceAdd, Int.reduceSub, Int.reduceMul, Int.reduceNeg, Nat.reduceMul, Nat.reduceSub, Nat.reduceLeDiff, Nat.reduceLT, Nat.reduceEqDiff, Nat.reduceAdd, reduceCtorEq, ↓reduceIte, reduceIte, hq]
    refine go_loop (α := { i : Nat // i ≤ l.length }) (I := fun i => { f := [(7, .int .i64 l.length), (6, .vec q), (8, .int .i64 i.1), (3, .int .u64 (mI (maskL (l.take i.1))))], h := h, nx := nx }) (μ := fun i => l.length - i.1) _ _ _ ⟨0, by omega⟩ ?_ (fun i B hB => ?_)
    · refine leq_id ?_ (by (simp only [frLt_cons, frLt_nil, and_true, SV.lt, SV.ltL, true_and] <;> omega)) (by ((try simp only []); repeat first | exact HLe.refl _ | refine HLe.cons (by simp only [hget, Nat.reduceEqDiff, Nat.left_eq_add, Nat.add_eq_left, nm_ne2, nm_en2, nm_ne3, nm_en3, nm_ne4, nm_en4, nm_ne5, nm_en5, reduceIte, ↓reduceIte] <;> first | rfl | ((repeat rw [if_neg (by omega)]) <;> rfl)) ?_ | refine HLe.skip hnm (by omega) ?_ | refine HLe.frz hnm (by omega) ?_ | refine HLe.del hnm (by omega) ?_)) (by (repeat first | exact HLt.mono hnm (by simp only [] <;> omega) | refine HLt.cons (by simp only [] <;> omega) (by simp only [Tok.lt, SV.ltL, SV.lt, and_true, true_and] <;> omega) ?_)) (by simp only [] <;> omega)
      simp only [frEq_cons, frEq_nil, frIn_cons, frIn_nil, and_true, fget_cons, Nat.reduceEqDiff, reduceIte, ↓reduceIte, true_and, SV.ren, SV.renL, ren1]
      exact ⟨rfl, rfl⟩
    · obtain ⟨i, hi⟩ := i
      simp only at hB
      by_cases hil : i < l.length
      · have c1 : decide ((i : Int) < (l.length : Int)) = true := decide_eq_true (by omega)
        have hs := maskL_step hil
        have next : ∀ m, m = maskL (l.take (i + 1)) → B ⟨[(7, .int .i64 l.length), (6, .vec q), (8, .int .i64 ((i : Int) + 1)), (3, .int .u64 (mI m))], h, nx⟩ := fun m e => by
          subst e
          refine hB _ ⟨i + 1, by omega⟩ (by simp only []; omega) ?_
          refine leq_id ?_ (by (simp only [frLt_cons, frLt_nil, and_true, SV.lt, SV.ltL, true_and] <;> omega)) (by ((try simp only []); repeat first | exact HLe.refl _ | refine HLe.cons (by simp only [hget, Nat.reduceEqDiff, Nat.left_eq_add, Nat.add_eq_left, nm_ne2, nm_en2, nm_ne3, nm_en3, nm_ne4, nm_en4, nm_ne5, nm_en5, reduceIte, ↓reduceIte] <;> first | rfl | ((repeat rw [if_neg (by omega)]) <;> rfl)) ?_ | refine HLe.skip hnm (by omega) ?_ | refine HLe.frz hnm (by omega) ?_ | refine HLe.del hnm (by omega) ?_)) (by (repeat first | exact HLt.mono hnm (by simp only [] <;> omega) | refine HLt.cons (by simp only [] <;> omega) (by simp only [Tok.lt, SV.ltL, SV.lt, and_true, true_and] <;> omega) ?_)) (by simp only [] <;> omega)
          simp only [frEq_cons, frEq_nil, frIn_cons, frIn_nil, and_true, fget_cons, Nat.reduceEqDiff, reduceIte, ↓reduceIte, true_and, SV.ren, SV.renL, ren1]
          rfl
        obtain ⟨n, hn⟩ : ∃ n, (l.getD i .nil).i = n := ⟨_, rfl⟩
        rw [hn] at hs
        by_cases h1 : 0 ≤ n
        · have c2 : decide ((0 : Int) ≤ n) = true := decide_eq_true h1
          by_cases h2 : n < 64
          · have c3 : decide (n < (64 : Int)) = true := decide_eq_true h2
            have e1 := shl_mI h1 h2
            simp only [show IntKind.u64.bits = 64 from rfl] at e1
            simp (maxSteps := 4000000) only [go_sem, goD_calls, eq_self, implies_true, Int.reduceEq, Int.reduceBEq, Int.reduceBNe, Int.reduceLE, Int.reduceLT, Int.reduceAdd, Int.reduceSub, Int.reduceMul, Int.reduceNeg, Nat.reduceMul, Nat.reduceSub, Nat.reduceLeDiff, Nat.reduceLT, Nat.reduceEqDiff, Nat.reduceAdd, reduceCtorEq, ↓reduceIte, reduceIte, hq, c1, c2, c3, hn, e1, or_mI, Int.toNat_natCast, min_i64, max_i64]
            repeat refine ⟨by omega, ?_⟩
            refine next _ ?_
            rw [hs]; unfold mStep; rw [if_pos ⟨h1, h2⟩]
          · have c3 : decide (n < (64 : Int)) = false := decide_eq_false h2
            simp (maxSteps := 4000000) only [go_sem, goD_calls, eq_self, implies_true, Int.reduceEq, Int.reduceBEq, Int.reduceBNe, Int.reduceLE, Int.reduceLT, Int.reduceAdd, Int.reduceSub, Int.reduceMul, Int.reduceNeg, Nat.reduceMul, Nat.reduceSub, Nat.reduceLeDiff, Nat.reduceLT, Nat.reduceEqDiff, Nat.reduceAdd, reduceCtorEq, ↓reduceIte, reduceIte, hq, c1, c2, c3, hn, Int.toNat_natCast, min_i64, max_i64]
            repeat refine ⟨by omega, ?_⟩
            refine next _ ?_
            rw [hs]; unfold mStep; rw [if_neg (by omega)]
        · have c2 : decide ((0 : Int) ≤ n) = false := decide_eq_false h1
          simp (maxSteps := 4000000) only [go_sem, goD_calls, eq_self, implies_true, Int.reduceEq, Int.reduceBEq, Int.reduceBNe, Int.reduceLE, Int.reduceLT, Int.reduceAdd, Int.reduceSub, Int.reduceMul, Int.reduceNeg, Nat.reduceMul, Nat.reduceSub, Nat.reduceLeDiff, Nat.reduceLT, Nat.reduceEqDiff, Nat.reduceAdd, reduceCtorEq, ↓reduceIte, reduceIte, hq, c1, c2, hn, Int.toNat_natCast, min_i64, max_i64]
          repeat refine ⟨by omega, ?_⟩
          refine next _ ?_
          rw [hs]; unfold mStep; rw [if_neg (by omega)]
      · obtain rfl : i = l.length := by omega
        have c1 : decide ((l.length : Int) < (l.length : Int)) = false := decide_eq_false (by omega)
        simp (maxSteps := 4000000) only [go_sem, goD_calls, eq_self, implies_true, Int.reduceEq, Int.reduceBEq, Int.reduceBNe, Int.reduceLE, Int.reduceLT, Int.reduceAdd, Int.reduceSub, Int.reduceMul, Int.reduceNeg, Nat.reduceMul, Nat.reduceSub, Nat.reduceLeDiff, Nat.reduceLT, Nat.reduceEqDiff, Nat.reduceAdd, reduceCtorEq, ↓reduceIte, reduceIte, hq, c1]
        refine (hQ _ ?_).1
        rw [List.take_of_length_le (Nat.le_refl _)]
        exact fin_t (.int .u64 _) rfl rfl hnm (by ((try simp only []); repeat first | exact HLe.refl _ | refine HLe.cons (by simp only [hget, Nat.reduceEqDiff, Nat.left_eq_add, Nat.add_eq_left, nm_ne2, nm_en2, nm_ne3, nm_en3, nm_ne4, nm_en4, nm_ne5, nm_en5, reduceIte, ↓reduceIte] <;> first | rfl | ((repeat rw [if_neg (by omega)]) <;> rfl)) ?_ | refine HLe.skip hnm (by omega) ?_ | refine HLe.frz hnm (by omega) ?_ | refine HLe.del hnm (by omega) ?_)) hK
  · exact hsp.elim
def WQLeast1 : Opts := mkWE 47 [] [] [22] 152 [] []
def icQLeast1 : IC := (.seq (.seq (.seq (.ops [(.u (.fad 8 0 0 (.ptr 65) 27 (.s 1))), (.u (.ld 9 (.ptr 65) (.s 8))), (.u (.eqb 10 false 1 (.s 9)))]) (.tr [10, 1, 0])) (.cond (.s 10) .ret .skip)) (.seq .skip (.seq (.seq (.ops [(.u (.fad 11 1 1 (.slice 3) 27 (.s 1))), (.u (.ld 12 (.slice 3) (.s 11))), (.u (.len 13 false (.s 12))), (.u (.shf 14 .shl .i64 (.c (.int .i64 1)) (.s 13))), (.u (.mov 15 (.c (.int .i64 0))))]) (.tr [14, 1, 0, 15])) (.block 0 (.loop (.seq (.seq (.ops [(.u (.cmp 16 .lss (.s 15) (.s 14)))]) (.tr [16, 15, 14, 1, 0])) (.seq (.cond (.s 16) .skip (.exit 0)) (.seq (.block 1 (.seq (.seq (.ops [(.u (.mov 17 (.s 15))), (.u (.mov 3 (.s 17)))]) (.tr [3, 15, 14, 1, 0])) (.seq (.seq (.ops [(.u (.ld 18 (.strct [(.ptr 65), (.slice 3), (.int .i64)]) (.s 1))), (.u (.mov 19 (.s 3))), (.u (.call 20 (.c (.clo 34 [])) [(.s 18), (.s 19)] [none, none] true)), (.u (.mov 4 (.s 20)))]) (.tr [4, 15, 14, 1, 0])) (.seq (.seq (.ops [(.u (.mov 21 (.s 4))), (.u (.call 22 (.c (.clo 35 [])) [(.s 21)] [(some 3)] false)), (.u (.mov 5 (.s 22)))]) (.tr [5, 4, 15, 14, 1, 0])) (.seq (.seq (.seq (.ops [(.u (.fad 23 0 0 (.ptr 65) 27 (.s 1))), (.u (.ld 24 (.ptr 65) (.s 23))), (.u (.mov 25 (.s 5))), (.u (.call 26 (.c (.clo 36 [])) [(.s 24), (.s 25)] [none, none] true)), (.u (.una 27 .not (.s 26)))]) (.tr [27, 5, 4, 15, 14, 1, 0])) (.cond (.s 27) (.exit 1) .skip)) (.seq (.seq (.seq (.ops [(.u (.mov 28 (.s 4))), (.u (.len 29 false (.s 28))), (.u (.mov 30 (.c (.int .i64 0))))]) (.tr [29, 28, 5, 30, 4, 15, 14, 1, 0])) (.block 2 (.loop (.seq (.seq (.ops [(.u (.cmp 31 .lss (.s 30) (.s 29)))]) (.tr [31, 30, 29, 28, 5, 4, 15, 14, 1, 0])) (.seq (.cond (.s 31) .skip (.exit 2)) (.seq (.block 3 (.seq (.seq (.ops [(.u (.iad 32 3 (.int .i64) (.s 28) (.s 30))), (.u (.ld 33 (.int .i64) (.s 32))), (.u (.mov 7 (.s 33)))]) (.tr [7, 30, 29, 28, 5, 4, 15, 14, 1, 0])) (.seq (.seq (.rgn [] [(false, (.u (.fad 34 0 0 (.ptr 65) 27 (.s 1)))), (false, (.u (.ld 35 (.ptr 65) (.s 34)))), (false, (.u (.mov 36 (.s 5)))), (false, (.u (.mov 37 (.s 7)))), (false, (.u (.shf 38 .shl .u64 (.c (.int .u64 1)) (.s 37)))), (false, (.u (.bin 39 .andNot .u64 (.s 36) (.s 38)))), (false, (.u (.call 40 (.c (.clo 36 [])) [(.s 35), (.s 39)] [none, none] true)))]) (.tr [40, 30, 29, 28, 5, 4, 15, 14, 1, 0])) (.cond (.s 40) (.exit 1) .skip)))) (.seq (.ops [(.u (.bin 41 .add .i64 (.s 30) (.c (.int .i64 1)))), (.u (.mov 30 (.s 41)))]) (.tr [29, 28, 5, 30, 4, 15, 14, 1, 0])))))))) (.seq (.seq (.ops [(.u (.mov 42 (.s 0))), (.u (.mov 43 (.s 4))), (.u (.call 44 (.s 42) [(.s 43)] [(some 3)] true)), (.u (.una 45 .not (.s 44)))]) (.tr [45, 15, 14, 1, 0])) (.cond (.s 45) (.exit 0) .skip)))))))) (.seq (.ops [(.u (.bin 46 .add .i64 (.s 15) (.c (.int .i64 1)))), (.u (.mov 15 (.s 46)))]) (.tr [14, 1, 0, 15]))))))))))
def rsQLeast1 : List RV := []
theorem irQLeast1 : fnIR Tryd.prog WQLeast1 33 = some (icQLeast1, rsQLeast1) := by kernel_rfl
def WQLeast : Opts := mkWE 4 [] [] [] 152 [] [1]
def icQLeast : IC := (.seq (.seq (.ops [(.u (.bxf 1 (.strct [(.ptr 65), (.slice 3), (.int .i64)]) none (.s 0))), (.u (.mov 2 (.c (.raw .nilFunc))))]) (.tr [1])) (.seq (.seq (.ops [(.u (.clo 3 33 [(.s 1)])), (.u (.mov 2 (.s 3)))]) (.tr [2])) .ret))
def rsQLeast : List RV := [(.t 2)]
theorem irQLeast : fnIR Tryd.prog WQLeast 14 = some (icQLeast, rsQLeast) := by kernel_rfl
end Go.Proofs.YtkmilijehekdoaaDoor
