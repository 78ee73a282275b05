/- Chapter 6: the program's iterator of the least sets, and what it hands on. -/
import Derived.Test.YtkmilijehekdoaaDoorIter
import Derived.Test.YtkmilijehekdoaaDoorQuorM
import Derived.Test.YtkmilijehekdoaaDoorQuorD
namespace Go.Proofs.YtkmilijehekdoaaDoor
set_option linter.unusedVariables false
set_option linter.unusedSimpArgs false
open Go Go.Fw
attribute [local go_sem] walkSet evMdl evMupD evMup evLkp frpL eltP eltV eltK preF preP prePt prePd frzP evNlq ev frOf oget ogets argSs argS evMm frzL evBin evWrp evShf evCmp evUna evNil evBeq evLd evSt evFad evIad evAad evLen evSln evEls evApp evParts evSlc evNlc evMif evPck evFld evBld evTas evIfq evSeq evSl0 evBxf evAgl evAgq evBsf hget hset hdel cellAt arrAt setCellAt setArrAt takeC lenC svCells SV.okc SV.one ldSV Fw.isAgg explode explodeL toD toDL toD1 Ty.size Ty.sizeL frz1 Fr.sub Heap.sub Tok.sub SV.sub SV.subL

def WQThoseV : Opts := mkWE 27 [] [] [] 152 [] []
def icQThoseV : IC := (.seq (.seq (.ops [(.u (.box 2 0 (.s 0))), (.u (.mov 4 (.c .nils)))]) (.tr [2, 1])) (.seq (.seq (.ops [(.u (.mov 5 (.c .nils)))]) (.tr [2, 1, 5])) (.seq (.seq (.seq (.ops [(.u (.fad 8 1 1 (.slice 3) 27 (.s 2))), (.u (.ld 9 (.slice 3) (.s 8))), (.u (.len 10 false (.s 9))), (.u (.mov 11 (.c (.int .i64 0))))]) (.tr [10, 9, 1, 11, 5])) (.block 0 (.loop (.seq (.seq (.ops [(.u (.cmp 12 .lss (.s 11) (.s 10)))]) (.tr [12, 11, 10, 9, 1, 5])) (.seq (.cond (.s 12) .skip (.exit 0)) (.seq (.block 1 (.seq (.seq (.ops [(.u (.mov 13 (.s 11))), (.u (.iad 14 3 (.int .i64) (.s 9) (.s 11))), (.u (.ld 15 (.int .i64) (.s 14))), (.u (.mov 6 (.s 13))), (.u (.mov 7 (.s 15)))]) (.tr [6, 7, 11, 10, 9, 1, 5])) (.seq (.seq (.ops [(.u (.mov 16 (.s 1))), (.u (.mov 17 (.s 6))), (.u (.shf 18 .shr .i64 (.s 16) (.s 17))), (.u (.bin 19 .and .i64 (.s 18) (.c (.int .i64 1)))), (.u (.cmp 20 .eql (.s 19) (.c (.int .i64 1))))]) (.tr [20, 7, 11, 10, 9, 1, 5])) (.cond (.s 20) (.seq (.ops [(.u (.mov 21 (.s 5))), (.u (.mov 22 (.s 7))), (.u (.bsl 23 3 (.int .i64) [(.s 22)])), (.u (.app 24 3 (.int .i64) 8 (.s 21) (.s 23))), (.u (.mov 5 (.s 24)))]) (.tr [11, 10, 9, 1, 5])) .skip)))) (.seq (.ops [(.u (.bin 25 .add .i64 (.s 11) (.c (.int .i64 1)))), (.u (.mov 11 (.s 25)))]) (.tr [10, 9, 1, 11, 5])))))))) (.seq (.seq (.ops [(.u (.mov 26 (.s 5))), (.u (.mov 4 (.s 26)))]) (.tr [4])) .ret))))
def rsQThoseV : List RV := [(.t 4)]
theorem irQThoseV : fnIR Tryd.prog WQThoseV 34 = some (icQThoseV, rsQThoseV) := by kernel_rfl
def spQThoseV : FSpec := fun args h nx K => match args with
  | [.agg [.dat (.ptr t) p, .dat (.slice t') d, .int .i64 n], .int .i64 x] => t = 65 ∧ t' = 3 ∧ d.l.length ≤ 1000 ∧ K (.vec nx) ((nx, .arr 3 (.int .i64) (thoseL d.l x d.l.length)) :: h)
  | _ => False
set_option maxHeartbeats 4000000 in
set_option maxRecDepth 8000 in
theorem vQThoseV {E : Nat → Value} (hE : Errs2 Tryd.prog (some 152) E) : Valid Tryd.prog E (gs []) 34 spQThoseV := by
  refine valid_go (W := WQThoseV) hE allValid_bot irQThoseV (by decide) (fun args h nx K hsp hok hnm => ?_)
  unfold spQThoseV at hsp
  split at hsp
  · rename_i t p t' d n x
    obtain ⟨rfl, rfl, hlen, hK⟩ := hsp
    refine ⟨by simp [WQThoseV, mkW, mkWE, mkWF], fun Q hQ => ?_⟩
    obtain ⟨⟨_, hd, _⟩, _⟩ := hok
    simp only [SV.ok] at hd
    obtain ⟨hd1, hd2, hd3⟩ := Wt.slice hd; generalize d.l = l at *; subst hd1
    simp only [icQThoseV, go_sem, goD_calls, eq_self, implies_true, Int.reduceEq, Int.reduceBEq, Int.reduceBNe, Int.reduceLE, Int.reduceLT, Int.reduceAdd, Int.reduceSub, Int.reduceMul, Int.reduceNeg, Nat.reduceMul, Nat.reduceSub, Nat.reduceLeDiff, Nat.reduceLT, Nat.reduceEqDiff, Nat.reduceAdd, reduceCtorEq, ↓reduceIte, reduceIte]
    refine go_loop (α := { i : Nat // i ≤ l.length }) (I := fun i => { f := [(10, .int .i64 l.length), (9, .dat (.slice 3) (.list l)), (1, .int .i64 x), (11, .int .i64 i.1), (5, .vec nx)], h := (nx, .arr 3 (.int .i64) (thoseL l x i.1)) :: h, nx := nx + 1 }) (μ := fun i => l.length - i.1) _ _ _ ⟨0, by omega⟩ ?_ (fun i B hB => ?_)
    · refine leq_news [(nx, nx + 1)] [(nx, .arr 3 (.int .i64) (thoseL l x 0))] (.slot 5 3 (.int .i64) rfl (.refl _)) (by simp) (by simp <;> omega) (by simp) rfl ?_ ?_ ?_ ?_ hnm ?_ (by omega)
      · simp [frIn_cons, frIn_nil, fget_cons, fget_nil, SV.ren, SV.renL, rens]
      · (simp only [frLt_cons, frLt_nil, and_true, SV.lt, SV.ltL, true_and] <;> omega)
      · (simp only [List.mem_cons, List.not_mem_nil, or_false, forall_eq_or_imp, forall_eq]; simp [hget, rens, Tok.ren, SV.ren, SV.renL])
        try simp [thoseL]
      · (simp only [List.mem_cons, List.not_mem_nil, or_false, forall_eq_or_imp, forall_eq, Tok.lt, SV.lt, SV.ltL, and_true, true_and] <;> omega)
      · ((try simp only []); repeat first | exact HLe.refl _ | refine HLe.cons (by simp only [hget, Nat.reduceEqDiff, Nat.left_eq_add, Nat.add_eq_left, nm_ne2, nm_en2, nm_ne3, nm_en3, nm_ne4, nm_en4, nm_ne5, nm_en5, reduceIte, ↓reduceIte] <;> first | rfl | ((repeat rw [if_neg (by omega)]) <;> rfl)) ?_ | refine HLe.skip hnm (by omega) ?_ | refine HLe.frz hnm (by omega) ?_ | refine HLe.del hnm (by omega) ?_)
    · obtain ⟨i, hi⟩ := i
      simp only at hB
      by_cases hil : i < l.length
      · have c1 : decide ((i : Int) < (l.length : Int)) = true := decide_eq_true (by omega)
        have hs := those_step l x i
        have hl2 := those_len l x i
        have next : ∀ S', Leq nx S' { f := [(10, .int .i64 l.length), (9, .dat (.slice 3) (.list l)), (1, .int .i64 x), (11, .int .i64 ((i + 1 : Nat) : Int)), (5, .vec nx)], h := (nx, .arr 3 (.int .i64) (thoseL l x (i + 1))) :: h, nx := nx + 1 } → B S' := fun S' hl => hB _ ⟨i + 1, by omega⟩ (by simp only []; omega) hl
        rcases bool_ftQ (bitX x i) with hb | hb
        · have cb : (bitI .and .i64 (x.fdiv (2 ^ min i 64)) 1 == 1) = false := hb
          rw [hb] at hs
          simp only [Bool.false_eq_true, if_false, List.append_nil] at hs
          rw [hs] at next
          simp only [go_sem, goD_calls, eq_self, implies_true, Int.reduceEq, Int.reduceBEq, Int.reduceBNe, Int.reduceLE, Int.reduceLT, Int.reduceAdd, Int.reduceSub, Int.reduceMul, Int.reduceNeg, Nat.reduceMul, Nat.reduceSub, Nat.reduceLeDiff, Nat.reduceLT, Nat.reduceEqDiff, Nat.reduceAdd, reduceCtorEq, ↓reduceIte, reduceIte, c1, cb, Int.toNat_natCast, min_i64, max_i64]
          repeat refine ⟨by omega, ?_⟩
          refine next _ ?_
          refine leq_id ?_ (by (simp only [frLt_cons, frLt_nil, and_true, SV.lt, SV.ltL, true_and] <;> omega)) (by ((try simp only []); repeat first | exact HLe.refl _ | refine HLe.cons (by simp only [hget, Nat.reduceEqDiff, Nat.left_eq_add, Nat.add_eq_left, nm_ne2, nm_en2, nm_ne3, nm_en3, nm_ne4, nm_en4, nm_ne5, nm_en5, reduceIte, ↓reduceIte] <;> first | rfl | ((repeat rw [if_neg (by omega)]) <;> rfl)) ?_ | refine HLe.skip hnm (by omega) ?_ | refine HLe.frz hnm (by omega) ?_ | refine HLe.del hnm (by omega) ?_)) (by (repeat first | exact HLt.mono hnm (by simp only [] <;> omega) | refine HLt.cons (by simp only [] <;> omega) (by simp only [Tok.lt, SV.ltL, SV.lt, and_true, true_and] <;> omega) ?_)) (by simp only [] <;> omega)
          simp only [frEq_cons, frEq_nil, frIn_cons, frIn_nil, and_true, fget_cons, Nat.reduceEqDiff, reduceIte, ↓reduceIte, true_and, SV.ren, SV.renL, ren1]
          simp
        · have cb : (bitI .and .i64 (x.fdiv (2 ^ min i 64)) 1 == 1) = true := hb
          rw [hb] at hs
          simp only [if_true] at hs
          rw [hs] at next
          simp only [go_sem, goD_calls, eq_self, implies_true, Int.reduceEq, Int.reduceBEq, Int.reduceBNe, Int.reduceLE, Int.reduceLT, Int.reduceAdd, Int.reduceSub, Int.reduceMul, Int.reduceNeg, Nat.reduceMul, Nat.reduceSub, Nat.reduceLeDiff, Nat.reduceLT, Nat.reduceEqDiff, Nat.reduceAdd, reduceCtorEq, ↓reduceIte, reduceIte, c1, cb, Int.toNat_natCast, min_i64, max_i64]
          repeat refine ⟨by omega, ?_⟩
          refine next _ ?_
          refine leq_ren1 nx (nx + 1 + 1) (by omega) (by simp only [] <;> omega) ?_ (by (simp only [frLt_cons, frLt_nil, and_true, SV.lt, SV.ltL, true_and] <;> omega)) ?_ (by (repeat first | exact HLt.mono hnm (by simp only [] <;> omega) | refine HLt.cons (by simp only [] <;> omega) (by simp only [Tok.lt, SV.ltL, SV.lt, and_true, true_and] <;> omega) ?_)) (by simp only [] <;> omega)
          · simp only [frEq_cons, frEq_nil, frIn_cons, frIn_nil, and_true, fget_cons, Nat.reduceEqDiff, reduceIte, ↓reduceIte, true_and, SV.ren, SV.renL, ren1]
            simp
          · exact HRen.cons (by rw [ren1_eq]; simp [hget, Tok.ren]) (HRen.base hnm (Nat.le_refl _) (by ((try simp only []); repeat first | exact HLe.refl _ | refine HLe.cons (by simp only [hget, Nat.reduceEqDiff, Nat.left_eq_add, Nat.add_eq_left, nm_ne2, nm_en2, nm_ne3, nm_en3, nm_ne4, nm_en4, nm_ne5, nm_en5, reduceIte, ↓reduceIte] <;> first | rfl | ((repeat rw [if_neg (by omega)]) <;> rfl)) ?_ | refine HLe.skip hnm (by omega) ?_ | refine HLe.frz hnm (by omega) ?_ | refine HLe.del hnm (by omega) ?_)))
      · obtain rfl : i = l.length := by omega
        have c1 : decide ((l.length : Int) < (l.length : Int)) = false := decide_eq_false (by omega)
        simp only [go_sem, goD_calls, eq_self, implies_true, Int.reduceEq, Int.reduceBEq, Int.reduceBNe, Int.reduceLE, Int.reduceLT, Int.reduceAdd, Int.reduceSub, Int.reduceMul, Int.reduceNeg, Nat.reduceMul, Nat.reduceSub, Nat.reduceLeDiff, Nat.reduceLT, Nat.reduceEqDiff, Nat.reduceAdd, reduceCtorEq, ↓reduceIte, reduceIte, c1]
        refine (hQ _ ?_).1
        exact fin_vec (m := nx) rfl (by simp only [hget, ↓reduceIte]) (by omega) hnm (by ((try simp only []); repeat first | exact HLe.refl _ | refine HLe.cons (by simp only [hget, Nat.reduceEqDiff, Nat.left_eq_add, Nat.add_eq_left, nm_ne2, nm_en2, nm_ne3, nm_en3, nm_ne4, nm_en4, nm_ne5, nm_en5, reduceIte, ↓reduceIte] <;> first | rfl | ((repeat rw [if_neg (by omega)]) <;> rfl)) ?_ | refine HLe.skip hnm (by omega) ?_ | refine HLe.frz hnm (by omega) ?_ | refine HLe.del hnm (by omega) ?_)) hK
  · exact hsp.elim

def WQMaskV : Opts := mkWE 24 [] [] [] 152 [] []
def icQMaskV : IC := (.seq (.seq (.ops [(.u (.mov 2 (.c (.int .u64 0))))]) (.tr [0])) (.seq (.seq (.ops [(.u (.mov 3 (.c (.int .u64 0))))]) (.tr [0, 3])) (.seq (.seq (.seq (.ops [(.u (.mov 6 (.s 0))), (.u (.len 7 false (.s 6))), (.u (.mov 8 (.c (.int .i64 0))))]) (.tr [7, 6, 8, 3])) (.block 0 (.loop (.seq (.seq (.ops [(.u (.cmp 9 .lss (.s 8) (.s 7)))]) (.tr [9, 8, 7, 6, 3])) (.seq (.cond (.s 9) .skip (.exit 0)) (.seq (.block 1 (.seq (.seq (.ops [(.u (.iad 10 3 (.int .i64) (.s 6) (.s 8))), (.u (.ld 11 (.int .i64) (.s 10))), (.u (.mov 5 (.s 11)))]) (.tr [5, 8, 7, 6, 3])) (.seq (.seq (.ops [(.u (.mov 12 (.s 5))), (.u (.cmp 13 .geq (.s 12) (.c (.int .i64 0)))), (.u (.mov 14 (.s 13))), (.g 14 true (some 15) (.mov 15 (.s 5))), (.g 14 true (some 16) (.cmp 16 .lss (.s 15) (.c (.int .i64 64)))), (.u (.pck 17 (.s 14) (.s 16) (.c (.bool false))))]) (.tr [17, 5, 8, 7, 6, 3])) (.cond (.s 17) (.seq (.ops [(.u (.mov 18 (.s 3))), (.u (.mov 19 (.s 5))), (.u (.shf 20 .shl .u64 (.c (.int .u64 1)) (.s 19))), (.u (.bin 21 .or .u64 (.s 18) (.s 20))), (.u (.mov 3 (.s 21)))]) (.tr [8, 7, 6, 3])) .skip)))) (.seq (.ops [(.u (.bin 22 .add .i64 (.s 8) (.c (.int .i64 1)))), (.u (.mov 8 (.s 22)))]) (.tr [7, 6, 8, 3])))))))) (.seq (.seq (.ops [(.u (.mov 23 (.s 3))), (.u (.mov 2 (.s 23)))]) (.tr [2])) .ret))))
def rsQMaskV : List RV := [(.t 2)]
theorem irQMaskV : fnIR Tryd.prog WQMaskV 35 = some (icQMaskV, rsQMaskV) := by kernel_rfl
def spQMaskV : FSpec := fun args h nx K => match args with
  | [.vec q] => ∃ l, hget h q = some (.arr 3 (.int .i64) l) ∧ l.length ≤ 1000000 ∧ K (.int .u64 (mI (maskL l))) h
  | _ => False
set_option maxHeartbeats 4000000 in
set_option maxRecDepth 8000 in
theorem vQMaskV {E : Nat → Value} (hE : Errs2 Tryd.prog (some 152) E) : Valid Tryd.prog E (gs []) 35 spQMaskV := by
  refine valid_go (W := WQMaskV) hE allValid_bot irQMaskV (by decide) (fun args h nx K hsp hok hnm => ?_)
  unfold spQMaskV at hsp
  split at hsp
  · rename_i q
    obtain ⟨l, hq, hlen, hK⟩ := hsp
    refine ⟨by simp [WQMaskV, mkW, mkWE, mkWF], fun Q hQ => ?_⟩
    have hq1 := (hnm _ _ hq).1
    simp only [icQMaskV, go_sem, goD_calls, eq_self, implies_true, Int.reduceEq, Int.reduceBEq, Int.reduceBNe, Int.reduceLE, Int.reduceLT, Int.reduceAdd, Int.reduceSub, Int.reduceMul, Int.reduceNeg, Nat.reduceMul, Nat.reduceSub, Nat.reduceLeDiff, Nat.reduceLT, Nat.reduceEqDiff, Nat.reduceAdd, reduceCtorEq, ↓reduceIte, reduceIte, hq]
    refine go_loop (α := { i : Nat // i ≤ l.length }) (I := fun i => { f := [(7, .int .i64 l.length), (6, .vec q), (8, .int .i64 i.1), (3, .int .u64 (mI (maskL (l.take i.1))))], h := h, nx := nx }) (μ := fun i => l.length - i.1) _ _ _ ⟨0, by omega⟩ ?_ (fun i B hB => ?_)
    · refine leq_id ?_ (by (simp only [frLt_cons, frLt_nil, and_true, SV.lt, SV.ltL, true_and] <;> omega)) (by ((try simp only []); repeat first | exact HLe.refl _ | refine HLe.cons (by simp only [hget, Nat.reduceEqDiff, Nat.left_eq_add, Nat.add_eq_left, nm_ne2, nm_en2, nm_ne3, nm_en3, nm_ne4, nm_en4, nm_ne5, nm_en5, reduceIte, ↓reduceIte] <;> first | rfl | ((repeat rw [if_neg (by omega)]) <;> rfl)) ?_ | refine HLe.skip hnm (by omega) ?_ | refine HLe.frz hnm (by omega) ?_ | refine HLe.del hnm (by omega) ?_)) (by (repeat first | exact HLt.mono hnm (by simp only [] <;> omega) | refine HLt.cons (by simp only [] <;> omega) (by simp only [Tok.lt, SV.ltL, SV.lt, and_true, true_and] <;> omega) ?_)) (by simp only [] <;> omega)
      simp only [frEq_cons, frEq_nil, frIn_cons, frIn_nil, and_true, fget_cons, Nat.reduceEqDiff, reduceIte, ↓reduceIte, true_and, SV.ren, SV.renL, ren1]
      exact ⟨rfl, rfl⟩
    · obtain ⟨i, hi⟩ := i
      simp only at hB
      by_cases hil : i < l.length
      · have c1 : decide ((i : Int) < (l.length : Int)) = true := decide_eq_true (by omega)
        have hs := maskL_step hil
        have next : ∀ m, m = maskL (l.take (i + 1)) → B ⟨[(7, .int .i64 l.length), (6, .vec q), (8, .int .i64 ((i : Int) + 1)), (3, .int .u64 (mI m))], h, nx⟩ := fun m e => by
          subst e
          refine hB _ ⟨i + 1, by omega⟩ (by simp only []; omega) ?_
          refine leq_id ?_ (by (simp only [frLt_cons, frLt_nil, and_true, SV.lt, SV.ltL, true_and] <;> omega)) (by ((try simp only []); repeat first | exact HLe.refl _ | refine HLe.cons (by simp only [hget, Nat.reduceEqDiff, Nat.left_eq_add, Nat.add_eq_left, nm_ne2, nm_en2, nm_ne3, nm_en3, nm_ne4, nm_en4, nm_ne5, nm_en5, reduceIte, ↓reduceIte] <;> first | rfl | ((repeat rw [if_neg (by omega)]) <;> rfl)) ?_ | refine HLe.skip hnm (by omega) ?_ | refine HLe.frz hnm (by omega) ?_ | refine HLe.del hnm (by omega) ?_)) (by (repeat first | exact HLt.mono hnm (by simp only [] <;> omega) | refine HLt.cons (by simp only [] <;> omega) (by simp only [Tok.lt, SV.ltL, SV.lt, and_true, true_and] <;> omega) ?_)) (by simp only [] <;> omega)
          simp only [frEq_cons, frEq_nil, frIn_cons, frIn_nil, and_true, fget_cons, Nat.reduceEqDiff, reduceIte, ↓reduceIte, true_and, SV.ren, SV.renL, ren1]
          rfl
        obtain ⟨n, hn⟩ : ∃ n, (l.getD i .nil).i = n := ⟨_, rfl⟩
        rw [hn] at hs
        by_cases h1 : 0 ≤ n
        · have c2 : decide ((0 : Int) ≤ n) = true := decide_eq_true h1
          by_cases h2 : n < 64
          · have c3 : decide (n < (64 : Int)) = true := decide_eq_true h2
            have e1 := shl_mI h1 h2
            simp only [show IntKind.u64.bits = 64 from rfl] at e1
            simp only [go_sem, goD_calls, eq_self, implies_true, Int.reduceEq, Int.reduceBEq, Int.reduceBNe, Int.reduceLE, Int.reduceLT, Int.reduceAdd, Int.reduceSub, Int.reduceMul, Int.reduceNeg, Nat.reduceMul, Nat.reduceSub, Nat.reduceLeDiff, Nat.reduceLT, Nat.reduceEqDiff, Nat.reduceAdd, reduceCtorEq, ↓reduceIte, reduceIte, hq, c1, c2, c3, hn, e1, or_mI, Int.toNat_natCast, min_i64, max_i64]
            repeat refine ⟨by omega, ?_⟩
            refine next _ ?_
            rw [hs]; unfold mStep; rw [if_pos ⟨h1, h2⟩]
          · have c3 : decide (n < (64 : Int)) = false := decide_eq_false h2
            simp only [go_sem, goD_calls, eq_self, implies_true, Int.reduceEq, Int.reduceBEq, Int.reduceBNe, Int.reduceLE, Int.reduceLT, Int.reduceAdd, Int.reduceSub, Int.reduceMul, Int.reduceNeg, Nat.reduceMul, Nat.reduceSub, Nat.reduceLeDiff, Nat.reduceLT, Nat.reduceEqDiff, Nat.reduceAdd, reduceCtorEq, ↓reduceIte, reduceIte, hq, c1, c2, c3, hn, Int.toNat_natCast, min_i64, max_i64]
            repeat refine ⟨by omega, ?_⟩
            refine next _ ?_
            rw [hs]; unfold mStep; rw [if_neg (by omega)]
        · have c2 : decide ((0 : Int) ≤ n) = false := decide_eq_false h1
          simp only [go_sem, goD_calls, eq_self, implies_true, Int.reduceEq, Int.reduceBEq, Int.reduceBNe, Int.reduceLE, Int.reduceLT, Int.reduceAdd, Int.reduceSub, Int.reduceMul, Int.reduceNeg, Nat.reduceMul, Nat.reduceSub, Nat.reduceLeDiff, Nat.reduceLT, Nat.reduceEqDiff, Nat.reduceAdd, reduceCtorEq, ↓reduceIte, reduceIte, hq, c1, c2, hn, Int.toNat_natCast, min_i64, max_i64]
          repeat refine ⟨by omega, ?_⟩
          refine next _ ?_
          rw [hs]; unfold mStep; rw [if_neg (by omega)]
      · obtain rfl : i = l.length := by omega
        have c1 : decide ((l.length : Int) < (l.length : Int)) = false := decide_eq_false (by omega)
        simp only [go_sem, goD_calls, eq_self, implies_true, Int.reduceEq, Int.reduceBEq, Int.reduceBNe, Int.reduceLE, Int.reduceLT, Int.reduceAdd, Int.reduceSub, Int.reduceMul, Int.reduceNeg, Nat.reduceMul, Nat.reduceSub, Nat.reduceLeDiff, Nat.reduceLT, Nat.reduceEqDiff, Nat.reduceAdd, reduceCtorEq, ↓reduceIte, reduceIte, hq, c1]
        refine (hQ _ ?_).1
        rw [List.take_of_length_le (Nat.le_refl _)]
        exact fin_t (.int .u64 _) rfl rfl hnm (by ((try simp only []); repeat first | exact HLe.refl _ | refine HLe.cons (by simp only [hget, Nat.reduceEqDiff, Nat.left_eq_add, Nat.add_eq_left, nm_ne2, nm_en2, nm_ne3, nm_en3, nm_ne4, nm_en4, nm_ne5, nm_en5, reduceIte, ↓reduceIte] <;> first | rfl | ((repeat rw [if_neg (by omega)]) <;> rfl)) ?_ | refine HLe.skip hnm (by omega) ?_ | refine HLe.frz hnm (by omega) ?_ | refine HLe.del hnm (by omega) ?_)) hK
  · exact hsp.elim
def WQLeast1 : Opts := mkWE 47 [] [] [22] 152 [] []
def icQLeast1 : IC := (.seq (.seq (.seq (.ops [(.u (.fad 8 0 0 (.ptr 65) 27 (.s 1))), (.u (.ld 9 (.ptr 65) (.s 8))), (.u (.eqb 10 false 1 (.s 9)))]) (.tr [10, 1, 0])) (.cond (.s 10) .ret .skip)) (.seq .skip (.seq (.seq (.ops [(.u (.fad 11 1 1 (.slice 3) 27 (.s 1))), (.u (.ld 12 (.slice 3) (.s 11))), (.u (.len 13 false (.s 12))), (.u (.shf 14 .shl .i64 (.c (.int .i64 1)) (.s 13))), (.u (.mov 15 (.c (.int .i64 0))))]) (.tr [14, 1, 0, 15])) (.block 0 (.loop (.seq (.seq (.ops [(.u (.cmp 16 .lss (.s 15) (.s 14)))]) (.tr [16, 15, 14, 1, 0])) (.seq (.cond (.s 16) .skip (.exit 0)) (.seq (.block 1 (.seq (.seq (.ops [(.u (.mov 17 (.s 15))), (.u (.mov 3 (.s 17)))]) (.tr [3, 15, 14, 1, 0])) (.seq (.seq (.ops [(.u (.ld 18 (.strct [(.ptr 65), (.slice 3), (.int .i64)]) (.s 1))), (.u (.mov 19 (.s 3))), (.u (.call 20 (.c (.clo 34 [])) [(.s 18), (.s 19)] [none, none] true)), (.u (.mov 4 (.s 20)))]) (.tr [4, 15, 14, 1, 0])) (.seq (.seq (.ops [(.u (.mov 21 (.s 4))), (.u (.call 22 (.c (.clo 35 [])) [(.s 21)] [(some 3)] false)), (.u (.mov 5 (.s 22)))]) (.tr [5, 4, 15, 14, 1, 0])) (.seq (.seq (.seq (.ops [(.u (.fad 23 0 0 (.ptr 65) 27 (.s 1))), (.u (.ld 24 (.ptr 65) (.s 23))), (.u (.mov 25 (.s 5))), (.u (.call 26 (.c (.clo 36 [])) [(.s 24), (.s 25)] [none, none] true)), (.u (.una 27 .not (.s 26)))]) (.tr [27, 5, 4, 15, 14, 1, 0])) (.cond (.s 27) (.exit 1) .skip)) (.seq (.seq (.seq (.ops [(.u (.mov 28 (.s 4))), (.u (.len 29 false (.s 28))), (.u (.mov 30 (.c (.int .i64 0))))]) (.tr [29, 28, 5, 30, 4, 15, 14, 1, 0])) (.block 2 (.loop (.seq (.seq (.ops [(.u (.cmp 31 .lss (.s 30) (.s 29)))]) (.tr [31, 30, 29, 28, 5, 4, 15, 14, 1, 0])) (.seq (.cond (.s 31) .skip (.exit 2)) (.seq (.block 3 (.seq (.seq (.ops [(.u (.iad 32 3 (.int .i64) (.s 28) (.s 30))), (.u (.ld 33 (.int .i64) (.s 32))), (.u (.mov 7 (.s 33)))]) (.tr [7, 30, 29, 28, 5, 4, 15, 14, 1, 0])) (.seq (.seq (.rgn [] [(false, (.u (.fad 34 0 0 (.ptr 65) 27 (.s 1)))), (false, (.u (.ld 35 (.ptr 65) (.s 34)))), (false, (.u (.mov 36 (.s 5)))), (false, (.u (.mov 37 (.s 7)))), (false, (.u (.shf 38 .shl .u64 (.c (.int .u64 1)) (.s 37)))), (false, (.u (.bin 39 .andNot .u64 (.s 36) (.s 38)))), (false, (.u (.call 40 (.c (.clo 36 [])) [(.s 35), (.s 39)] [none, none] true)))]) (.tr [40, 30, 29, 28, 5, 4, 15, 14, 1, 0])) (.cond (.s 40) (.exit 1) .skip)))) (.seq (.ops [(.u (.bin 41 .add .i64 (.s 30) (.c (.int .i64 1)))), (.u (.mov 30 (.s 41)))]) (.tr [29, 28, 5, 30, 4, 15, 14, 1, 0])))))))) (.seq (.seq (.ops [(.u (.mov 42 (.s 0))), (.u (.mov 43 (.s 4))), (.u (.call 44 (.s 42) [(.s 43)] [(some 3)] true)), (.u (.una 45 .not (.s 44)))]) (.tr [45, 15, 14, 1, 0])) (.cond (.s 45) (.exit 0) .skip)))))))) (.seq (.ops [(.u (.bin 46 .add .i64 (.s 15) (.c (.int .i64 1)))), (.u (.mov 15 (.s 46)))]) (.tr [14, 1, 0, 15]))))))))))
def rsQLeast1 : List RV := []
theorem irQLeast1 : fnIR Tryd.prog WQLeast1 33 = some (icQLeast1, rsQLeast1) := by kernel_rfl
def WQLeast : Opts := mkWE 4 [] [] [] 152 [] [1]
def icQLeast : IC := (.seq (.seq (.ops [(.u (.bxf 1 (.strct [(.ptr 65), (.slice 3), (.int .i64)]) none (.s 0))), (.u (.mov 2 (.c (.raw .nilFunc))))]) (.tr [1])) (.seq (.seq (.ops [(.u (.clo 3 33 [(.s 1)])), (.u (.mov 2 (.s 3)))]) (.tr [2])) .ret))
def rsQLeast : List RV := [(.t 2)]
theorem irQLeast : fnIR Tryd.prog WQLeast 14 = some (icQLeast, rsQLeast) := by kernel_rfl
attribute [local go_sem] walkY

def lessQ (q : QP) (m : M64) (n : Int) : Bool := q.hasM (m &&& ~~~(1#64 <<< n.toNat))
def leastPB (q : QP) (l : List D) (x : Nat) : Bool := q.hasM (pickM l x) && (thoseL l x l.length).all (fun d => !lessQ q (pickM l x) d.i)
def leastPU (q : QP) (l : List D) (k : Nat) : List (List D) := ((List.range k).filter (leastPB q l)).map fun (x : Nat) => thoseL l (x : Int) l.length
theorem leastPU_step (q : QP) (l : List D) (k : Nat) : leastPU q l (k + 1) = leastPU q l k ++ if leastPB q l k = true then [thoseL l (k : Int) l.length] else [] := by
  unfold leastPU
  rw [List.range_succ, List.filter_append, List.map_append]
  cases h : leastPB q l k <;> simp [h]
theorem leastPU_pre (q : QP) (l : List D) {k m : Nat} (h : k ≤ m) : ∃ t, leastPU q l m = leastPU q l k ++ t := by
  induction m with
  | zero =>
    obtain rfl : k = 0 := by omega
    exact ⟨[], (List.append_nil _).symm⟩
  | succ m ih =>
    by_cases e : k = m + 1
    · subst e; exact ⟨[], (List.append_nil _).symm⟩
    · obtain ⟨t, ht⟩ := ih (by omega)
      rw [leastPU_step, ht, List.append_assoc]
      exact ⟨_, rfl⟩
def leastPL (q : QP) (l : List D) : List (List D) := leastPU q l (2 ^ l.length)
theorem leastPL_at {q : QP} {l : List D} {x : Nat} (hx : x < 2 ^ l.length) (h : leastPB q l x = true) : (leastPL q l)[(leastPU q l x).length]? = some (thoseL l (x : Int) l.length) := by
  obtain ⟨t, ht⟩ := leastPU_pre q l (k := x + 1) (m := 2 ^ l.length) hx
  unfold leastPL
  rw [ht, leastPU_step, if_pos h, List.append_assoc, List.getElem?_append_right (Nat.le_refl _), Nat.sub_self]
  rfl
theorem those_in {l : List D} {x : Int} {d : D} (h : d ∈ thoseL l x l.length) : d.i ∈ l.map D.i := by
  unfold thoseL at h
  obtain ⟨j, hj, rfl⟩ := List.mem_map.1 h
  rw [List.mem_filter, List.mem_range] at hj
  show (l.getD j .nil).i ∈ _
  rw [List.getD_eq_getElem?_getD, List.getElem?_eq_getElem hj.1]
  exact List.mem_map.2 ⟨_, List.getElem_mem hj.1, rfl⟩
def itemI (l : List D) : List SV × Heap := ([.vec 0], [(0, .arr 3 (.int .i64) l)])
abbrev setY : Ty := .strct [.ptr 65, .slice 3, .int .i64]
def leastIt : ItS := fun caps items => ∃ p l n, caps = [.elt setY (.node [p, .list l, .int n])] ∧ ((p = .nil ∧ items = []) ∨ ∃ q : QP, p = q.enc ∧ q.ok ∧ l.length ≤ 16 ∧ (∀ x ∈ l.map D.i, 0 ≤ x ∧ x < 64) ∧ items = (leastPL q l).map itemI)
set_option maxHeartbeats 4000000 in
set_option maxRecDepth 8000 in
theorem it_QLeast1g {E : Nat → Value} (hE : Errs2 Tryd.prog (some 152) E) : ItValid Tryd.prog E (gs []) 33 leastIt := by
  rintro caps items ⟨p, l, n, rfl, hsp⟩
  refine it_of (W := WQLeast1) (caps := [.elt setY (.node [p, .list l, .int n])]) hE (((allValid_bot.add (up (vQThoseV hE))).add (up (vQMaskV hE))).add (up (vQHasP hE))) irQLeast1 (by kernel_rfl) (show 2 ≤ WQLeast1.N by decide) (show _ ∧ _ from ⟨trivial, trivial⟩) (fun x hx ρ ρ' H v hd => ?_) (fun yv hok => ?_)
  · rw [List.mem_singleton] at hx
    subst hx
    cases hd with | elt h1 h2 h3 => exact .elt h1 h2 h3
  have hnm : HLt ([] : Heap) 0 := fun n t h => by cases h
  rcases hsp with ⟨rfl, rfl⟩ | ⟨q, rfl, hq, hl, hrng, rfl⟩
  · show goY _ _ _ _ _ _ [] _ _
    simp only [icQLeast1, frOf, go_sem, goD_calls, eq_self, implies_true, Int.reduceEq, Int.reduceBEq, Int.reduceBNe, Int.reduceLE, Int.reduceLT, Int.reduceAdd, Int.reduceSub, Int.reduceMul, Int.reduceNeg, Nat.reduceMul, Nat.reduceSub, Nat.reduceLeDiff, Nat.reduceLT, Nat.reduceEqDiff, Nat.reduceAdd, reduceCtorEq, ↓reduceIte, reduceIte]
    exact ⟨rfl, .inr trivial⟩
  have na0 := QP.enc_notNil q
  have e1 := shl_i64 hl
  have hpw : (2 : Nat) ^ l.length ≤ 2 ^ 16 := Nat.pow_le_pow_right (by omega) hl
  obtain ⟨X, hX⟩ : ∃ X, (2 : Nat) ^ l.length = X := ⟨_, rfl⟩
  rw [hX] at hpw e1
  show goY _ _ _ _ _ _ [] _ _
  simp only [icQLeast1, frOf, go_sem, goD_calls, eq_self, implies_true, Int.reduceEq, Int.reduceBEq, Int.reduceBNe, Int.reduceLE, Int.reduceLT, Int.reduceAdd, Int.reduceSub, Int.reduceMul, Int.reduceNeg, Nat.reduceMul, Nat.reduceSub, Nat.reduceLeDiff, Nat.reduceLT, Nat.reduceEqDiff, Nat.reduceAdd, reduceCtorEq, ↓reduceIte, reduceIte, na0, e1]
  refine ⟨rfl, rfl, by omega, ?_⟩
  refine goY_loop (α := { x : Nat // x ≤ X }) (I := fun x => { f := [(14, .int .i64 (X : Int)), (15, .int .i64 x.1), (1, .elt setY (.node [q.enc, .list l, .int n])), (0, .raw yv)], h := [], nx := 0 }) (ct := fun x => some (leastPU q l x.1).length) (μ := fun x => X - x.1) _ _ _ _ _ ⟨0, by omega⟩ ?_ rfl (fun x B hB => ?_)
  · refine leq_id (by simp only [frEq_cons, frEq_nil, frIn_cons, frIn_nil, and_true, fget_cons, Nat.reduceEqDiff, reduceIte, ↓reduceIte, true_and, SV.ren, SV.renL, ren1] <;> (try rfl) <;> (try simp)) (by (simp only [frLt_cons, frLt_nil, and_true, SV.lt, SV.ltL, true_and] <;> omega)) (HLe.refl _) hnm (Nat.le_refl _)
  obtain ⟨x, hx⟩ := x
  simp only at hB ⊢
  by_cases hxl : x < X
  · have c1 : decide ((x : Int) < (X : Int)) = true := decide_eq_true (by omega)
    obtain ⟨L, hL⟩ : ∃ L, thoseL l (x : Int) l.length = L := ⟨_, rfl⟩
    obtain ⟨m, hm⟩ : ∃ m, maskL L = m := ⟨_, rfl⟩
    have hpm : pickM l x = m := by unfold pickM; rw [hL, hm]
    obtain ⟨b0, hb0⟩ : ∃ b, q.hasM m = b := ⟨_, rfl⟩
    have hl2 : l.length ≤ 1000 := by omega
    have hLl : L.length ≤ 16 := by rw [← hL]; exact Nat.le_trans (those_len _ _ _) hl
    have next : ∀ k' S', some (leastPU q l (x + 1)).length = k' → Leq 0 S' { f := [(14, .int .i64 (X : Int)), (15, .int .i64 ((x : Int) + 1)), (1, .elt setY (.node [q.enc, .list l, .int n])), (0, .raw yv)], h := [], nx := 0 } → B k' S' := fun k' S' hk hl => hB k' S' ⟨x + 1, by omega⟩ (by simp only []; omega) hk hl
    simp only [go_sem, goD_calls, eq_self, implies_true, Int.reduceEq, Int.reduceBEq, Int.reduceBNe, Int.reduceLE, Int.reduceLT, Int.reduceAdd, Int.reduceSub, Int.reduceMul, Int.reduceNeg, Nat.reduceMul, Nat.reduceSub, Nat.reduceLeDiff, Nat.reduceLT, Nat.reduceEqDiff, Nat.reduceAdd, reduceCtorEq, ↓reduceIte, reduceIte, c1, spQThoseV, hl2, hL]
    simp only [go_sem, goD_calls, eq_self, implies_true, Int.reduceEq, Int.reduceBEq, Int.reduceBNe, Int.reduceLE, Int.reduceLT, Int.reduceAdd, Int.reduceSub, Int.reduceMul, Int.reduceNeg, Nat.reduceMul, Nat.reduceSub, Nat.reduceLeDiff, Nat.reduceLT, Nat.reduceEqDiff, Nat.reduceAdd, reduceCtorEq, ↓reduceIte, reduceIte, spQMaskV]
    refine ⟨L, rfl, by omega, rfl, ?_⟩
    simp only [spQHasP, hm]
    refine ⟨trivial, .inr ⟨q, m, rfl, hq, rfl, ?_⟩⟩
    rw [hb0]
    cases b0 with
    | false =>
      have hlp : leastPB q l x = false := by unfold leastPB; rw [hpm, hb0]; rfl
      have hst := leastPU_step q l x
      rw [hlp, if_neg (by decide), List.append_nil] at hst
      simp only [go_sem, goD_calls, eq_self, implies_true, Int.reduceEq, Int.reduceBEq, Int.reduceBNe, Int.reduceLE, Int.reduceLT, Int.reduceAdd, Int.reduceSub, Int.reduceMul, Int.reduceNeg, Nat.reduceMul, Nat.reduceSub, Nat.reduceLeDiff, Nat.reduceLT, Nat.reduceEqDiff, Nat.reduceAdd, reduceCtorEq, ↓reduceIte, reduceIte, min_i64, max_i64]
      refine ⟨by omega, ?_⟩
      refine next _ _ (by rw [hst]) ?_
      refine leq_id (by simp only [frEq_cons, frEq_nil, frIn_cons, frIn_nil, and_true, fget_cons, Nat.reduceEqDiff, reduceIte, ↓reduceIte, true_and, SV.ren, SV.renL, ren1] <;> (try rfl) <;> (try simp)) (by (simp only [frLt_cons, frLt_nil, and_true, SV.lt, SV.ltL, true_and] <;> omega)) (by ((try simp only []); repeat first | exact HLe.refl _ | refine HLe.cons (by simp only [hget, Nat.reduceEqDiff, Nat.left_eq_add, Nat.add_eq_left, nm_ne2, nm_en2, nm_ne3, nm_en3, nm_ne4, nm_en4, nm_ne5, nm_en5, reduceIte, ↓reduceIte] <;> first | rfl | ((repeat rw [if_neg (by omega)]) <;> rfl)) ?_ | refine HLe.skip hnm (by omega) ?_ | refine HLe.frz hnm (by omega) ?_ | refine HLe.del hnm (by omega) ?_)) hnm (Nat.le_refl _)
    | true =>
    simp only [go_sem, goD_calls, eq_self, implies_true, Int.reduceEq, Int.reduceBEq, Int.reduceBNe, Int.reduceLE, Int.reduceLT, Int.reduceAdd, Int.reduceSub, Int.reduceMul, Int.reduceNeg, Nat.reduceMul, Nat.reduceSub, Nat.reduceLeDiff, Nat.reduceLT, Nat.reduceEqDiff, Nat.reduceAdd, reduceCtorEq, ↓reduceIte, reduceIte]
    refine goY_loop (α := { j : Nat // j ≤ L.length ∧ ∀ i, i < j → lessQ q m (L.getD i .nil).i = false }) (I := fun j => { f := [(28, .vec 0), (29, .int .i64 (L.length : Int)), (30, .int .i64 j.1), (5, .int .u64 (mI m)), (4, .vec 0), (14, .int .i64 (X : Int)), (15, .int .i64 x), (1, .elt setY (.node [q.enc, .list l, .int n])), (0, .raw yv)], h := [(0, .arr 3 (.int .i64) L)], nx := 1 }) (ct := fun _ => some (leastPU q l x).length) (μ := fun j => L.length - j.1) _ _ _ _ _ ⟨0, by omega, fun i hi => absurd hi (by omega)⟩ ?_ rfl (fun j B2 hB2 => ?_)
    · refine leq_id (by simp only [frEq_cons, frEq_nil, frIn_cons, frIn_nil, and_true, fget_cons, Nat.reduceEqDiff, reduceIte, ↓reduceIte, true_and, SV.ren, SV.renL, ren1] <;> (try rfl) <;> (try simp)) (by (simp only [frLt_cons, frLt_nil, and_true, SV.lt, SV.ltL, true_and] <;> omega)) (by ((try simp only []); repeat first | exact HLe.refl _ | refine HLe.cons (by simp only [hget, Nat.reduceEqDiff, Nat.left_eq_add, Nat.add_eq_left, nm_ne2, nm_en2, nm_ne3, nm_en3, nm_ne4, nm_en4, nm_ne5, nm_en5, reduceIte, ↓reduceIte] <;> first | rfl | ((repeat rw [if_neg (by omega)]) <;> rfl)) ?_ | refine HLe.skip hnm (by omega) ?_ | refine HLe.frz hnm (by omega) ?_ | refine HLe.del hnm (by omega) ?_)) (by (repeat first | exact HLt.mono hnm (by simp only [] <;> omega) | refine HLt.cons (by simp only [] <;> omega) (by simp only [Tok.lt, SV.ltL, SV.lt, and_true, true_and] <;> omega) ?_)) (Nat.zero_le _)
    obtain ⟨j, hj, hno⟩ := j
    simp only at hB2 ⊢
    have toNext : leastPB q l x = false → ∀ S', Leq 0 S' { f := [(14, .int .i64 (X : Int)), (15, .int .i64 ((x : Int) + 1)), (1, .elt setY (.node [q.enc, .list l, .int n])), (0, .raw yv)], h := [], nx := 0 } → B (some (leastPU q l x).length) S' := fun hlp S' hl => by
      have hst := leastPU_step q l x
      rw [hlp, if_neg (by decide), List.append_nil] at hst
      exact next _ _ (by rw [hst]) hl
    by_cases hjl : j < L.length
    · have c2 : decide ((j : Int) < (L.length : Int)) = true := decide_eq_true (by omega)
      obtain ⟨v, hv⟩ : ∃ v, (L.getD j .nil).i = v := ⟨_, rfl⟩
      have hvr : 0 ≤ v ∧ v < 64 := by
        rw [← hv, ← hL]
        refine hrng _ (those_in (x := (x : Int)) ?_)
        rw [← hL] at hjl
        rw [List.getD_eq_getElem?_getD, List.getElem?_eq_getElem hjl]
        exact List.getElem_mem hjl
      have e2 := shl_mI hvr.1 hvr.2
      simp only [show IntKind.u64.bits = 64 from rfl] at e2
      obtain ⟨b1, hb1⟩ : ∃ b, q.hasM (m &&& ~~~(1#64 <<< v.toNat)) = b := ⟨_, rfl⟩
      have hless : lessQ q m v = b1 := hb1
      simp only [go_sem, goD_calls, eq_self, implies_true, Int.reduceEq, Int.reduceBEq, Int.reduceBNe, Int.reduceLE, Int.reduceLT, Int.reduceAdd, Int.reduceSub, Int.reduceMul, Int.reduceNeg, Nat.reduceMul, Nat.reduceSub, Nat.reduceLeDiff, Nat.reduceLT, Nat.reduceEqDiff, Nat.reduceAdd, reduceCtorEq, ↓reduceIte, reduceIte, c2, hv, e2, andNot_mI, Int.toNat_natCast]
      refine ⟨by omega, ⟨by omega, by omega⟩, rfl, hvr.1, ?_⟩
      simp only [spQHasP]
      refine ⟨trivial, .inr ⟨q, _, rfl, hq, rfl, ?_⟩⟩
      rw [hb1]
      cases b1 with
      | true =>
        have hlp : leastPB q l x = false := by
          unfold leastPB
          rw [hpm, hL]
          have : L.all (fun d => !lessQ q m d.i) = false := by
            rw [List.all_eq_false]
            refine ⟨L.getD j .nil, ?_, by rw [hv, hless]; simp⟩
            rw [List.getD_eq_getElem?_getD, List.getElem?_eq_getElem hjl]
            exact List.getElem_mem hjl
          rw [this, Bool.and_false]
        simp only [go_sem, goD_calls, eq_self, implies_true, Int.reduceEq, Int.reduceBEq, Int.reduceBNe, Int.reduceLE, Int.reduceLT, Int.reduceAdd, Int.reduceSub, Int.reduceMul, Int.reduceNeg, Nat.reduceMul, Nat.reduceSub, Nat.reduceLeDiff, Nat.reduceLT, Nat.reduceEqDiff, Nat.reduceAdd, reduceCtorEq, ↓reduceIte, reduceIte, min_i64, max_i64]
        refine ⟨by omega, ?_⟩
        refine toNext hlp _ ?_
        refine leq_id (by simp only [frEq_cons, frEq_nil, frIn_cons, frIn_nil, and_true, fget_cons, Nat.reduceEqDiff, reduceIte, ↓reduceIte, true_and, SV.ren, SV.renL, ren1] <;> (try rfl) <;> (try simp)) (by (simp only [frLt_cons, frLt_nil, and_true, SV.lt, SV.ltL, true_and] <;> omega)) (by ((try simp only []); repeat first | exact HLe.refl _ | refine HLe.cons (by simp only [hget, Nat.reduceEqDiff, Nat.left_eq_add, Nat.add_eq_left, nm_ne2, nm_en2, nm_ne3, nm_en3, nm_ne4, nm_en4, nm_ne5, nm_en5, reduceIte, ↓reduceIte] <;> first | rfl | ((repeat rw [if_neg (by omega)]) <;> rfl)) ?_ | refine HLe.skip hnm (by omega) ?_ | refine HLe.frz hnm (by omega) ?_ | refine HLe.del hnm (by omega) ?_)) hnm (Nat.le_refl _)
      | false =>
        simp only [go_sem, goD_calls, eq_self, implies_true, Int.reduceEq, Int.reduceBEq, Int.reduceBNe, Int.reduceLE, Int.reduceLT, Int.reduceAdd, Int.reduceSub, Int.reduceMul, Int.reduceNeg, Nat.reduceMul, Nat.reduceSub, Nat.reduceLeDiff, Nat.reduceLT, Nat.reduceEqDiff, Nat.reduceAdd, reduceCtorEq, ↓reduceIte, reduceIte, min_i64, max_i64]
        refine ⟨by omega, ?_⟩
        refine hB2 _ _ ⟨j + 1, by omega, fun i hi => ?_⟩ (by simp only []; omega) rfl ?_
        · by_cases e : i = j
          · rw [e, hv]; exact hless
          · exact hno i (by omega)
        refine leq_id (by simp only [frEq_cons, frEq_nil, frIn_cons, frIn_nil, and_true, fget_cons, Nat.reduceEqDiff, reduceIte, ↓reduceIte, true_and, SV.ren, SV.renL, ren1] <;> (try rfl) <;> (try simp)) (by (simp only [frLt_cons, frLt_nil, and_true, SV.lt, SV.ltL, true_and] <;> omega)) (by ((try simp only []); repeat first | exact HLe.refl _ | refine HLe.cons (by simp only [hget, Nat.reduceEqDiff, Nat.left_eq_add, Nat.add_eq_left, nm_ne2, nm_en2, nm_ne3, nm_en3, nm_ne4, nm_en4, nm_ne5, nm_en5, reduceIte, ↓reduceIte] <;> first | rfl | ((repeat rw [if_neg (by omega)]) <;> rfl)) ?_ | refine HLe.skip hnm (by omega) ?_ | refine HLe.frz hnm (by omega) ?_ | refine HLe.del hnm (by omega) ?_)) (by (repeat first | exact HLt.mono hnm (by simp only [] <;> omega) | refine HLt.cons (by simp only [] <;> omega) (by simp only [Tok.lt, SV.ltL, SV.lt, and_true, true_and] <;> omega) ?_)) (Nat.zero_le _)
    · obtain rfl : j = L.length := by omega
      have c2 : decide ((L.length : Int) < (L.length : Int)) = false := decide_eq_false (by omega)
      have hlp : leastPB q l x = true := by
        unfold leastPB
        rw [hpm, hb0, hL, Bool.true_and, List.all_eq_true]
        intro d hd
        obtain ⟨i, hi, rfl⟩ := List.mem_iff_getElem.1 hd
        have := hno i hi
        rw [List.getD_eq_getElem?_getD, List.getElem?_eq_getElem hi, Option.getD_some] at this
        rw [this]; rfl
      have hst := leastPU_step q l x
      rw [hlp, if_pos rfl] at hst
      have hat := leastPL_at (q := q) (l := l) (x := x) (by rw [hX]; exact hxl) hlp
      rw [hL] at hat
      simp only [go_sem, goD_calls, eq_self, implies_true, Int.reduceEq, Int.reduceBEq, Int.reduceBNe, Int.reduceLE, Int.reduceLT, Int.reduceAdd, Int.reduceSub, Int.reduceMul, Int.reduceNeg, Nat.reduceMul, Nat.reduceSub, Nat.reduceLeDiff, Nat.reduceLT, Nat.reduceEqDiff, Nat.reduceAdd, reduceCtorEq, ↓reduceIte, reduceIte, c2]
      refine ⟨(leastPU q l x).length, itemI L, rfl, by rw [List.getElem?_map, hat]; rfl, rfl, rfl, rfl, ?_, ?_, ?_⟩
      · simp only [frOf, itemI]
        refine leq_id (by simp only [frEq_cons, frEq_nil, frIn_cons, frIn_nil, and_true, fget_cons, Nat.reduceEqDiff, reduceIte, ↓reduceIte, true_and, SV.ren, SV.renL, ren1] <;> (try rfl) <;> (try simp)) (by (simp only [frLt_cons, frLt_nil, and_true, SV.lt, SV.ltL, true_and] <;> omega)) (by ((try simp only []); repeat first | exact HLe.refl _ | refine HLe.cons (by simp only [hget, Nat.reduceEqDiff, Nat.left_eq_add, Nat.add_eq_left, nm_ne2, nm_en2, nm_ne3, nm_en3, nm_ne4, nm_en4, nm_ne5, nm_en5, reduceIte, ↓reduceIte] <;> first | rfl | ((repeat rw [if_neg (by omega)]) <;> rfl)) ?_ | refine HLe.skip hnm (by omega) ?_ | refine HLe.frz hnm (by omega) ?_ | refine HLe.del hnm (by omega) ?_)) (by (repeat first | exact HLt.mono hnm (by simp only [] <;> omega) | refine HLt.cons (by simp only [] <;> omega) (by simp only [Tok.lt, SV.ltL, SV.lt, and_true, true_and] <;> omega) ?_)) (Nat.zero_le _)
      · simp only [go_sem, goD_calls, eq_self, implies_true, Int.reduceEq, Int.reduceBEq, Int.reduceBNe, Int.reduceLE, Int.reduceLT, Int.reduceAdd, Int.reduceSub, Int.reduceMul, Int.reduceNeg, Nat.reduceMul, Nat.reduceSub, Nat.reduceLeDiff, Nat.reduceLT, Nat.reduceEqDiff, Nat.reduceAdd, reduceCtorEq, ↓reduceIte, reduceIte, min_i64, max_i64]
        refine ⟨by omega, ?_⟩
        refine next _ _ (by rw [hst, List.length_append]; rfl) ?_
        refine leq_id (by simp only [frEq_cons, frEq_nil, frIn_cons, frIn_nil, and_true, fget_cons, Nat.reduceEqDiff, reduceIte, ↓reduceIte, true_and, SV.ren, SV.renL, ren1] <;> (try rfl) <;> (try simp)) (by (simp only [frLt_cons, frLt_nil, and_true, SV.lt, SV.ltL, true_and] <;> omega)) (by ((try simp only []); repeat first | exact HLe.refl _ | refine HLe.cons (by simp only [hget, Nat.reduceEqDiff, Nat.left_eq_add, Nat.add_eq_left, nm_ne2, nm_en2, nm_ne3, nm_en3, nm_ne4, nm_en4, nm_ne5, nm_en5, reduceIte, ↓reduceIte] <;> first | rfl | ((repeat rw [if_neg (by omega)]) <;> rfl)) ?_ | refine HLe.skip hnm (by omega) ?_ | refine HLe.frz hnm (by omega) ?_ | refine HLe.del hnm (by omega) ?_)) hnm (Nat.le_refl _)
      · simp only [go_sem, goD_calls, eq_self, implies_true, Int.reduceEq, Int.reduceBEq, Int.reduceBNe, Int.reduceLE, Int.reduceLT, Int.reduceAdd, Int.reduceSub, Int.reduceMul, Int.reduceNeg, Nat.reduceMul, Nat.reduceSub, Nat.reduceLeDiff, Nat.reduceLT, Nat.reduceEqDiff, Nat.reduceAdd, reduceCtorEq, ↓reduceIte, reduceIte]
        exact .inl trivial
  · obtain rfl : x = X := by omega
    have c1 : decide ((x : Int) < (x : Int)) = false := decide_eq_false (by omega)
    simp only [go_sem, goD_calls, eq_self, implies_true, Int.reduceEq, Int.reduceBEq, Int.reduceBNe, Int.reduceLE, Int.reduceLT, Int.reduceAdd, Int.reduceSub, Int.reduceMul, Int.reduceNeg, Nat.reduceMul, Nat.reduceSub, Nat.reduceLeDiff, Nat.reduceLT, Nat.reduceEqDiff, Nat.reduceAdd, reduceCtorEq, ↓reduceIte, reduceIte, c1]
    refine .inr ?_
    unfold leastPL
    rw [hX, List.length_map]
theorem itSem_up {P : Program} {E : Nat → Value} {G G' : Nat → Bool} (hG : ∀ g, G' g = true → G g = true) {g : FuncId} {caps : List SV} {items : List (List SV × Heap)} (h : ItSem P E G' g caps items) : ItSem P E G g caps items := by
  have hE' : ∀ {H : FH} {w : World}, ErrW E G H w → ErrW E G' H w := fun h g a T hg he => h g a T (hG g hg) he
  refine ⟨h.1, fun ρ H lb hd hgl l J Jx hJ hJx hY W h0 hin herr => ?_⟩
  refine h.2 ρ H lb hd (fun k hk => hgl k (hG k hk)) l J (fun W => Jx W) hJ hJx (fun i hi W1 W ρ1 H1 vs a1 a2 a3 a4 a5 a6 a7 a8 a9 a10 => ?_) W h0 hin (hE' herr)
  obtain ⟨fn, tmps, assign, body, h1, h2⟩ := hY i hi W1 W ρ1 H1 vs a1 a2 a3 a4 a5 a6 a7 a8 a9 a10
  refine ⟨fn, tmps, assign, body, h1, h2.mono ?_⟩
  rintro e W' (⟨rfl, b1, b2, b3⟩ | ⟨rfl, b1, b2, b3⟩)
  · exact .inl ⟨rfl, b1, b2, hE' b3⟩
  · exact .inr ⟨rfl, b1, b2, hE' b3⟩
theorem it_QLeast1 {E : Nat → Value} {G : Nat → Bool} (hE : Errs2 Tryd.prog (some 152) E) : ItValid Tryd.prog E G 33 leastIt :=
  fun caps items h => itSem_up (fun g hg => by cases hg) (it_QLeast1g hE caps items h)
def spQLeast : FSpec := fun args h nx K => match args with
  | [.agg [.dat (.ptr t) p, .dat (.slice t') l, .int .i64 n]] => t = 65 ∧ t' = 3 ∧ K (.clo 33 [.elt setY (.node [p, l, .int n])]) h
  | [.agg [.dat (.ptr t) p, .nils, .int .i64 n]] => t = 65 ∧ K (.clo 33 [.elt setY (.node [p, .list [], .int n])]) h
  | _ => False
set_option maxHeartbeats 4000000 in
set_option maxRecDepth 8000 in
theorem vQLeast {E : Nat → Value} (hE : Errs2 Tryd.prog (some 152) E) : Valid Tryd.prog E (gs []) 14 spQLeast := by
  refine valid_go (W := WQLeast) hE allValid_bot irQLeast (by decide) (fun args h nx K hsp hok hnm => ?_)
  unfold spQLeast at hsp
  split at hsp
  · rename_i t p t' l n
    obtain ⟨rfl, rfl, hK⟩ := hsp
    refine ⟨by simp [WQLeast, mkW, mkWE, mkWF], fun Q hQ => ?_⟩
    simp only [icQLeast, go_sem, goD_calls, eq_self, implies_true, Int.reduceEq, Int.reduceBEq, Int.reduceBNe, Int.reduceLE, Int.reduceLT, Int.reduceAdd, Int.reduceSub, Int.reduceMul, Int.reduceNeg, Nat.reduceMul, Nat.reduceSub, Nat.reduceLeDiff, Nat.reduceLT, Nat.reduceEqDiff, Nat.reduceAdd, reduceCtorEq, ↓reduceIte, reduceIte]
    refine (hQ _ ?_).1
    exact fin_t (.clo _ _) rfl rfl hnm (by ((try simp only []); repeat first | exact HLe.refl _ | refine HLe.cons (by simp only [hget, Nat.reduceEqDiff, Nat.left_eq_add, Nat.add_eq_left, nm_ne2, nm_en2, nm_ne3, nm_en3, nm_ne4, nm_en4, nm_ne5, nm_en5, reduceIte, ↓reduceIte] <;> first | rfl | ((repeat rw [if_neg (by omega)]) <;> rfl)) ?_ | refine HLe.skip hnm (by omega) ?_ | refine HLe.frz hnm (by omega) ?_ | refine HLe.del hnm (by omega) ?_)) hK
  · rename_i t p n
    obtain ⟨rfl, hK⟩ := hsp
    refine ⟨by simp [WQLeast, mkW, mkWE, mkWF], fun Q hQ => ?_⟩
    simp only [icQLeast, go_sem, goD_calls, eq_self, implies_true, Int.reduceEq, Int.reduceBEq, Int.reduceBNe, Int.reduceLE, Int.reduceLT, Int.reduceAdd, Int.reduceSub, Int.reduceMul, Int.reduceNeg, Nat.reduceMul, Nat.reduceSub, Nat.reduceLeDiff, Nat.reduceLT, Nat.reduceEqDiff, Nat.reduceAdd, reduceCtorEq, ↓reduceIte, reduceIte]
    refine (hQ _ ?_).1
    exact fin_t (.clo _ _) rfl rfl hnm (by ((try simp only []); repeat first | exact HLe.refl _ | refine HLe.cons (by simp only [hget, Nat.reduceEqDiff, Nat.left_eq_add, Nat.add_eq_left, nm_ne2, nm_en2, nm_ne3, nm_en3, nm_ne4, nm_en4, nm_ne5, nm_en5, reduceIte, ↓reduceIte] <;> first | rfl | ((repeat rw [if_neg (by omega)]) <;> rfl)) ?_ | refine HLe.skip hnm (by omega) ?_ | refine HLe.frz hnm (by omega) ?_ | refine HLe.del hnm (by omega) ?_)) hK
  · exact hsp.elim
end Go.Proofs.YtkmilijehekdoaaDoor
