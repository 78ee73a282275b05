/- Chapter 6: a set's nodes; copies of rows. -/
import Derived.Test.YtkmilijehekdoaaDoorQuorG
namespace Go.Proofs.YtkmilijehekdoaaDoor
set_option linter.unusedVariables false
set_option linter.unusedSimpArgs false
open Go Go.Fw
attribute [local go_sem] walkSet evMdl evMupD evMup evLkp frpL eltP eltV eltK preF preP prePt prePd frzP evNlq ev frOf oget ogets argSs argS evMm frzL evBin evWrp evShf evCmp evUna evNil evBeq evLd evSt evFad evIad evAad evLen evSln evEls evApp evParts evSlc evNlc evMif evPck evFld evBld evTas evIfq evSeq evSl0 evBxf evAgl evAgq evBsf hget hset hdel cellAt arrAt setCellAt setArrAt takeC lenC svCells SV.okc SV.one ldSV Fw.isAgg explode explodeL toD toDL toD1 Ty.size Ty.sizeL frz1 Fr.sub Heap.sub Tok.sub SV.sub SV.subL

def spSCloneI : FSpec := fun args h nx K => match args with
  | [.dat (.slice t) d] => t = 3 ∧ d.l.length ≤ 1000000000 ∧ K (.dat (.slice 3) (.list d.l)) h
  | _ => False
def WSCloneI : Opts := mkWE 8 [] [] [] 152 [] []
def icSCloneI : IC := (.seq (.seq (.ops [(.u (.mov 2 (.c .nils)))]) (.tr [0])) (.seq (.seq (.seq (.ops [(.u (.mov 3 (.s 0))), (.u (.nlq 4 false (.s 3)))]) (.tr [4, 0])) (.cond (.s 4) (.seq (.seq (.ops [(.u (.mov 2 (.c .nils)))]) (.tr [2])) .ret) .skip)) (.seq (.seq (.ops [(.u (.bsl 5 3 (.int .i64) [])), (.u (.mov 6 (.s 0))), (.u (.app 7 3 (.int .i64) 8 (.s 5) (.s 6))), (.u (.mov 2 (.s 7)))]) (.tr [2])) .ret)))
def rsSCloneI : List RV := [(.t 2)]
theorem irSCloneI : fnIR Tryd.prog WSCloneI 44 = some (icSCloneI, rsSCloneI) := by kernel_rfl
set_option maxHeartbeats 4000000 in
set_option maxRecDepth 8000 in
theorem vSCloneI {E : Nat → Value} (hE : Errs2 Tryd.prog (some 152) E) : Valid Tryd.prog E (gs []) 44 spSCloneI := by
  refine valid_go (W := WSCloneI) hE allValid_bot irSCloneI (by decide) (fun args h nx K hsp hok hnm => ?_)
  unfold spSCloneI at hsp
  split at hsp
  · rename_i t d
    obtain ⟨rfl, hlen, hsp⟩ := hsp
    refine ⟨by simp [WSCloneI, mkW, mkWE, mkWF], fun Q hQ => ?_⟩
    simp (maxSteps := 4000000) only [icSCloneI, go_sem, goD_calls, eq_self, implies_true, Int.reduceEq, Int.reduceBEq, Int.reduceBNe, Int.reduceLE, Int.reduceLT, Int.reduceAdd, Int.reduceSub, Int.reduceMul, Int.reduceNeg, Nat.reduceMul, Nat.reduceSub, Nat.reduceLeDiff, Nat.reduceLT, Nat.reduceEqDiff, Nat.reduceAdd, reduceCtorEq, ↓reduceIte, reduceIte]
    intro b hb
    refine ⟨fun hc => ?_, fun hc => ⟨by (try simp only [List.length_nil]) <;> omega, ?_⟩⟩
    · have hl : d.l = [] := hb hc
      rw [hl] at hsp
      refine (hQ _ ?_).1
      refine fin_new (p := True ∧ True) (xs := [.nils]) rfl ⟨trivial, trivial⟩ (.slot 0 3 (.int .i64) rfl (.frz nx (.refl _))) [] (.dat (.slice 3) (.list [])) [] (by simp) (by simp) (by simp) ?_ trivial rfl (by simp) (by simp) hnm ?_ hsp
      · simp only [mkR, go_sem, goD_calls, eq_self, implies_true, Int.reduceEq, Int.reduceBEq, Int.reduceBNe, Int.reduceLE, Int.reduceLT, Int.reduceAdd, Int.reduceSub, Int.reduceMul, Int.reduceNeg, Nat.reduceMul, Nat.reduceSub, Nat.reduceLeDiff, Nat.reduceLT, Nat.reduceEqDiff, Nat.reduceAdd, reduceCtorEq, ↓reduceIte, reduceIte, SV.ren, SV.renL, rens]
      · simp only [mkR, go_sem, goD_calls, eq_self, implies_true, Int.reduceEq, Int.reduceBEq, Int.reduceBNe, Int.reduceLE, Int.reduceLT, Int.reduceAdd, Int.reduceSub, Int.reduceMul, Int.reduceNeg, Nat.reduceMul, Nat.reduceSub, Nat.reduceLeDiff, Nat.reduceLT, Nat.reduceEqDiff, Nat.reduceAdd, reduceCtorEq, ↓reduceIte, reduceIte] <;> ((try simp only []); repeat first | exact HLe.refl _ | refine HLe.cons (by simp only [hget, Nat.reduceEqDiff, Nat.left_eq_add, Nat.add_eq_left, nm_ne2, nm_en2, nm_ne3, nm_en3, nm_ne4, nm_en4, nm_ne5, nm_en5, reduceIte, ↓reduceIte] <;> first | rfl | ((repeat rw [if_neg (by omega)]) <;> rfl)) ?_ | refine HLe.skip hnm (by omega) ?_ | refine HLe.frz hnm (by omega) ?_ | refine HLe.del hnm (by omega) ?_)
    · refine (hQ _ ?_).1
      refine fin_new (p := True ∧ True) (xs := [.vec (nx + 1)]) rfl ⟨trivial, trivial⟩ (.frz (nx + 1) (.refl _)) [] (.dat (.slice 3) (.list d.l)) [] (by simp) (by simp) (by simp) ?_ trivial rfl (by simp) (by simp) hnm ?_ hsp
      · simp only [mkR, go_sem, goD_calls, eq_self, implies_true, Int.reduceEq, Int.reduceBEq, Int.reduceBNe, Int.reduceLE, Int.reduceLT, Int.reduceAdd, Int.reduceSub, Int.reduceMul, Int.reduceNeg, Nat.reduceMul, Nat.reduceSub, Nat.reduceLeDiff, Nat.reduceLT, Nat.reduceEqDiff, Nat.reduceAdd, reduceCtorEq, ↓reduceIte, reduceIte, SV.ren, SV.renL, rens]
      · simp only [mkR, go_sem, goD_calls, eq_self, implies_true, Int.reduceEq, Int.reduceBEq, Int.reduceBNe, Int.reduceLE, Int.reduceLT, Int.reduceAdd, Int.reduceSub, Int.reduceMul, Int.reduceNeg, Nat.reduceMul, Nat.reduceSub, Nat.reduceLeDiff, Nat.reduceLT, Nat.reduceEqDiff, Nat.reduceAdd, reduceCtorEq, ↓reduceIte, reduceIte] <;> ((try simp only []); repeat first | exact HLe.refl _ | refine HLe.cons (by simp only [hget, Nat.reduceEqDiff, Nat.left_eq_add, Nat.add_eq_left, nm_ne2, nm_en2, nm_ne3, nm_en3, nm_ne4, nm_en4, nm_ne5, nm_en5, reduceIte, ↓reduceIte] <;> first | rfl | ((repeat rw [if_neg (by omega)]) <;> rfl)) ?_ | refine HLe.skip hnm (by omega) ?_ | refine HLe.frz hnm (by omega) ?_ | refine HLe.del hnm (by omega) ?_)
  · exact hsp.elim
def WQNodes : Opts := mkWE 6 [] [] [] 152 [] []
def icQNodes : IC := (.seq (.seq (.ops [(.u (.box 1 0 (.s 0))), (.u (.mov 2 (.c .nils)))]) (.tr [1])) (.seq (.seq (.ops [(.u (.fad 3 1 1 (.slice 3) 27 (.s 1))), (.u (.ld 4 (.slice 3) (.s 3))), (.u (.call 5 (.c (.clo 44 [])) [(.s 4)] [(some 3)] true)), (.u (.mov 2 (.s 5)))]) (.tr [2])) .ret))
def rsQNodes : List RV := [(.t 2)]
theorem irQNodes : fnIR Tryd.prog WQNodes 23 = some (icQNodes, rsQNodes) := by kernel_rfl
def spQNodes : FSpec := fun args h nx K => match args with
  | [.agg [.dat (.ptr tp) p, .dat (.slice t) d, .int .i64 n]] => tp = 65 ∧ t = 3 ∧ d.l.length ≤ 1000000000 ∧ K (.dat (.slice 3) (.list d.l)) h
  | [.agg [.dat (.ptr tp) p, .nils, .int .i64 n]] => tp = 65 ∧ K (.dat (.slice 3) (.list [])) h
  | _ => False
set_option maxHeartbeats 4000000 in
set_option maxRecDepth 8000 in
theorem vQNodes {E : Nat → Value} (hE : Errs2 Tryd.prog (some 152) E) : Valid Tryd.prog E (gs []) 23 spQNodes := by
  refine valid_go (W := WQNodes) hE (allValid_bot.add (up (vSCloneI hE))) irQNodes (by decide) (fun args h nx K hsp hok hnm => ?_)
  unfold spQNodes at hsp
  split at hsp
  · rename_i tp p t d n
    obtain ⟨rfl, rfl, hd, hK⟩ := hsp
    refine ⟨by simp [WQNodes, mkW, mkWE, mkWF], fun Q hQ => ?_⟩
    simp (maxSteps := 4000000) only [icQNodes, go_sem, goD_calls, eq_self, implies_true, Int.reduceEq, Int.reduceBEq, Int.reduceBNe, Int.reduceLE, Int.reduceLT, Int.reduceAdd, Int.reduceSub, Int.reduceMul, Int.reduceNeg, Nat.reduceMul, Nat.reduceSub, Nat.reduceLeDiff, Nat.reduceLT, Nat.reduceEqDiff, Nat.reduceAdd, reduceCtorEq, ↓reduceIte, reduceIte, spSCloneI, hd]
    refine (hQ _ ?_).1
    exact fin_t (.dat (.slice 3) (.list d.l)) rfl rfl hnm (by ((try simp only []); repeat first | exact HLe.refl _ | refine HLe.cons (by simp only [hget, Nat.reduceEqDiff, Nat.left_eq_add, Nat.add_eq_left, nm_ne2, nm_en2, nm_ne3, nm_en3, nm_ne4, nm_en4, nm_ne5, nm_en5, reduceIte, ↓reduceIte] <;> first | rfl | ((repeat rw [if_neg (by omega)]) <;> rfl)) ?_ | refine HLe.skip hnm (by omega) ?_ | refine HLe.frz hnm (by omega) ?_ | refine HLe.del hnm (by omega) ?_)) hK
  · rename_i tp p n
    obtain ⟨rfl, hK⟩ := hsp
    refine ⟨by simp [WQNodes, mkW, mkWE, mkWF], fun Q hQ => ?_⟩
    have g0 : (([] : List D).length ≤ 1000000000) = True := eq_true (by decide)
    simp (maxSteps := 4000000) only [icQNodes, go_sem, goD_calls, eq_self, implies_true, Int.reduceEq, Int.reduceBEq, Int.reduceBNe, Int.reduceLE, Int.reduceLT, Int.reduceAdd, Int.reduceSub, Int.reduceMul, Int.reduceNeg, Nat.reduceMul, Nat.reduceSub, Nat.reduceLeDiff, Nat.reduceLT, Nat.reduceEqDiff, Nat.reduceAdd, reduceCtorEq, ↓reduceIte, reduceIte, spSCloneI, g0, D.l]
    refine (hQ _ ?_).1
    exact fin_t (.dat (.slice 3) (.list [])) rfl rfl hnm (by ((try simp only []); repeat first | exact HLe.refl _ | refine HLe.cons (by simp only [hget, Nat.reduceEqDiff, Nat.left_eq_add, Nat.add_eq_left, nm_ne2, nm_en2, nm_ne3, nm_en3, nm_ne4, nm_en4, nm_ne5, nm_en5, reduceIte, ↓reduceIte] <;> first | rfl | ((repeat rw [if_neg (by omega)]) <;> rfl)) ?_ | refine HLe.skip hnm (by omega) ?_ | refine HLe.frz hnm (by omega) ?_ | refine HLe.del hnm (by omega) ?_)) hK
  · exact hsp.elim
theorem iL_step {l : List D} {i : Nat} (hi : i < l.length) : iL (l.take i) ++ [D.int (l.getD i .nil).i] = iL (l.take (i + 1)) := by
  unfold iL
  rw [List.take_add_one, List.map_append, List.getElem?_eq_getElem hi, List.getD_eq_getElem?_getD, List.getElem?_eq_getElem hi]
  rfl
def WRIntsV : Opts := mkWE 22 [] [] [] 152 [] []
def icRIntsV : IC := (.seq (.seq (.ops [(.u (.mov 2 (.c .nils)))]) (.tr [0])) (.seq (.seq (.ops [(.u (.mov 5 (.s 0))), (.u (.len 6 false (.s 5))), (.u (.mk 7 3 (.int .i64) 8 (.int 0) (.c (.int .i64 0)) (.s 6))), (.u (.mov 3 (.s 7)))]) (.tr [0, 3])) (.seq (.seq (.seq (.ops [(.u (.mov 4 (.c (.int .i64 0))))]) (.tr [0, 4, 3])) (.block 0 (.loop (.seq (.seq (.seq (.ops [(.u (.mov 8 (.s 4))), (.u (.mov 9 (.s 0))), (.u (.len 10 false (.s 9))), (.u (.cmp 11 .lss (.s 8) (.s 10)))]) (.tr [11, 4, 0, 3])) (.cond (.s 11) .skip (.exit 0))) (.seq (.block 1 (.seq (.ops [(.u (.mov 14 (.s 3))), (.u (.mov 15 (.s 0))), (.u (.mov 16 (.s 4))), (.u (.iad 17 3 (.int .i64) (.s 15) (.s 16))), (.u (.ld 18 (.int .i64) (.s 17))), (.u (.bsl 19 3 (.int .i64) [(.s 18)])), (.u (.app 20 3 (.int .i64) 8 (.s 14) (.s 19))), (.u (.mov 3 (.s 20)))]) (.tr [4, 0, 3]))) (.seq (.ops [(.u (.mov 12 (.s 4))), (.u (.bin 13 .add .i64 (.s 12) (.c (.int .i64 1)))), (.u (.mov 4 (.s 13)))]) (.tr [0, 4, 3]))))))) (.seq (.seq (.ops [(.u (.mov 21 (.s 3))), (.u (.mov 2 (.s 21)))]) (.tr [2])) .ret))))
def rsRIntsV : List RV := [(.t 2)]
theorem irRIntsV : fnIR Tryd.prog WRIntsV 24 = some (icRIntsV, rsRIntsV) := by kernel_rfl
def spRIntsV : FSpec := fun args h nx K => match args with
  | [.dat (.slice t) d] => t = 3 ∧ d.l.length ≤ 1000000000 ∧ K (.vec nx) ((nx, .arr 3 (.int .i64) (iL d.l)) :: h)
  | _ => False
set_option maxHeartbeats 4000000 in
set_option maxRecDepth 8000 in
theorem vRIntsV {E : Nat → Value} (hE : Errs2 Tryd.prog (some 152) E) : Valid Tryd.prog E (gs []) 24 spRIntsV := by
  refine valid_go (W := WRIntsV) hE allValid_bot irRIntsV (by decide) (fun args h nx K hsp hok hnm => ?_)
  unfold spRIntsV at hsp
  split at hsp
  · rename_i t d
    obtain ⟨rfl, hlen, hK⟩ := hsp
    refine ⟨by simp [WRIntsV, mkW, mkWE, mkWF], fun Q hQ => ?_⟩
    obtain ⟨hd, _⟩ := hok
    simp only [SV.ok] at hd
    obtain ⟨hd1, hd2, hd3⟩ := Wt.slice hd; generalize d.l = l at *; subst hd1
    simp (maxSteps := 4000000) only [icRIntsV, go_sem, goD_calls, eq_self, implies_true, Int.reduceEq, Int.reduceBEq, Int.reduceBNe, Int.reduceLE, Int.reduceLT, Int.reduceAdd, Int.reduceSub, Int.reduceMul, Int.reduceNeg, Nat.reduceMul, Nat.reduceSub, Nat.reduceLeDiff, Nat.reduceLT, Nat.reduceEqDiff, Nat.reduceAdd, reduceCtorEq, ↓reduceIte, reduceIte]
    repeat refine ⟨by omega, ?_⟩
    refine go_loop (α := { i : Nat // i ≤ l.length }) (I := fun i => { f := [(0, .dat (.slice 3) (.list l)), (4, .int .i64 i.1), (3, .vec nx)], h := (nx, .arr 3 (.int .i64) (iL (l.take i.1))) :: h, nx := nx + 1 }) (μ := fun i => l.length - i.1) _ _ _ ⟨0, by omega⟩ ?_ (fun i B hB => ?_)
    · refine leq_id ?_ (by (simp only [frLt_cons, frLt_nil, and_true, SV.lt, SV.ltL, true_and] <;> omega)) ?_ (by (repeat first | exact HLt.mono hnm (by simp only [] <;> omega) | refine HLt.cons (by simp only [] <;> omega) (by simp only [Tok.lt, SV.ltL, SV.lt, and_true, true_and] <;> omega) ?_)) (by simp only [] <;> omega)
      · simp only [frEq_cons, frEq_nil, frIn_cons, frIn_nil, and_true, fget_cons, Nat.reduceEqDiff, reduceIte, ↓reduceIte, true_and, SV.ren, SV.renL, ren1]
        simp
      · ((try simp only []); repeat first | exact HLe.refl _ | refine HLe.cons (by simp only [hget, Nat.reduceEqDiff, Nat.left_eq_add, Nat.add_eq_left, nm_ne2, nm_en2, nm_ne3, nm_en3, nm_ne4, nm_en4, nm_ne5, nm_en5, reduceIte, ↓reduceIte] <;> first | rfl | ((repeat rw [if_neg (by omega)]) <;> rfl)) ?_ | refine HLe.skip hnm (by omega) ?_ | refine HLe.frz hnm (by omega) ?_ | refine HLe.del hnm (by omega) ?_)
    · obtain ⟨i, hi⟩ := i
      simp only at hB
      by_cases hil : i < l.length
      · have c1 : decide ((i : Int) < (l.length : Int)) = true := decide_eq_true (by omega)
        have hs := iL_step hil
        have hl2 : (iL (l.take i)).length ≤ i := by rw [iL_len, List.length_take]; omega
        simp (maxSteps := 4000000) only [go_sem, goD_calls, eq_self, implies_true, Int.reduceEq, Int.reduceBEq, Int.reduceBNe, Int.reduceLE, Int.reduceLT, Int.reduceAdd, Int.reduceSub, Int.reduceMul, Int.reduceNeg, Nat.reduceMul, Nat.reduceSub, Nat.reduceLeDiff, Nat.reduceLT, Nat.reduceEqDiff, Nat.reduceAdd, reduceCtorEq, ↓reduceIte, reduceIte, c1, Int.toNat_natCast, min_i64, max_i64, hs]
        repeat refine ⟨by omega, ?_⟩
        refine hB _ ⟨i + 1, by omega⟩ (by simp only []; omega) ?_
        refine leq_ren1 nx (nx + 1 + 1) (by omega) (by simp only [] <;> omega) ?_ (by (simp only [frLt_cons, frLt_nil, and_true, SV.lt, SV.ltL, true_and] <;> omega)) ?_ (by (repeat first | exact HLt.mono hnm (by simp only [] <;> omega) | refine HLt.cons (by simp only [] <;> omega) (by simp only [Tok.lt, SV.ltL, SV.lt, and_true, true_and] <;> omega) ?_)) (by simp only [] <;> omega)
        · simp only [frEq_cons, frEq_nil, frIn_cons, frIn_nil, and_true, fget_cons, Nat.reduceEqDiff, reduceIte, ↓reduceIte, true_and, SV.ren, SV.renL, ren1]
          simp
        · exact HRen.cons (by rw [ren1_eq]; simp [hget, Tok.ren]) (HRen.base hnm (Nat.le_refl _) (by ((try simp only []); repeat first | exact HLe.refl _ | refine HLe.cons (by simp only [hget, Nat.reduceEqDiff, Nat.left_eq_add, Nat.add_eq_left, nm_ne2, nm_en2, nm_ne3, nm_en3, nm_ne4, nm_en4, nm_ne5, nm_en5, reduceIte, ↓reduceIte] <;> first | rfl | ((repeat rw [if_neg (by omega)]) <;> rfl)) ?_ | refine HLe.skip hnm (by omega) ?_ | refine HLe.frz hnm (by omega) ?_ | refine HLe.del hnm (by omega) ?_)))
      · obtain rfl : i = l.length := by omega
        have c1 : decide ((l.length : Int) < (l.length : Int)) = false := decide_eq_false (by omega)
        rw [List.take_of_length_le (Nat.le_refl _)]
        simp (maxSteps := 4000000) only [go_sem, goD_calls, eq_self, implies_true, Int.reduceEq, Int.reduceBEq, Int.reduceBNe, Int.reduceLE, Int.reduceLT, Int.reduceAdd, Int.reduceSub, Int.reduceMul, Int.reduceNeg, Nat.reduceMul, Nat.reduceSub, Nat.reduceLeDiff, Nat.reduceLT, Nat.reduceEqDiff, Nat.reduceAdd, reduceCtorEq, ↓reduceIte, reduceIte, c1]
        refine (hQ _ ?_).1
        exact fin_vec (m := nx) rfl (by simp only [hget, ↓reduceIte]) (by omega) hnm (by ((try simp only []); repeat first | exact HLe.refl _ | refine HLe.cons (by simp only [hget, Nat.reduceEqDiff, Nat.left_eq_add, Nat.add_eq_left, nm_ne2, nm_en2, nm_ne3, nm_en3, nm_ne4, nm_en4, nm_ne5, nm_en5, reduceIte, ↓reduceIte] <;> first | rfl | ((repeat rw [if_neg (by omega)]) <;> rfl)) ?_ | refine HLe.skip hnm (by omega) ?_ | refine HLe.frz hnm (by omega) ?_ | refine HLe.del hnm (by omega) ?_)) hK
  · exact hsp.elim
end Go.Proofs.YtkmilijehekdoaaDoor
