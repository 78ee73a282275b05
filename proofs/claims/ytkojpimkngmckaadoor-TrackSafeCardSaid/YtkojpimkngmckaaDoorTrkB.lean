/- Chapter 14: who has a number, how far it is safe; another configuration; a new one. -/
import Derived.Test.YtkojpimkngmckaaDoorTrkA
import Derived.Test.YtkojpimkngmckaaDoorConfX
namespace Go.Proofs.YtkojpimkngmckaaDoor
set_option linter.unusedVariables false
set_option linter.unusedSimpArgs false
open Go Go.Fw
attribute [local go_sem] walkSet evMdl evMupD evMup evLkp frpL preF preP prePt prePd frzP evNlq ev frOf oget ogets argSs argS evMm frzL evBin evWrp evShf evCmp evUna evNil evBeq evLd evSt evFad evIad evAad evLen evSln evEls evApp evParts evSlc evNlc evMif evPck evFld evBld evTas evIfq evSeq evSl0 evBxf evAgl evAgq evBsf hget hset hdel cellAt arrAt setCellAt setArrAt takeC lenC svCells SV.okc SV.one ldSV Fw.isAgg explode explodeL toD toDL toD1 Ty.size Ty.sizeL frz1 Fr.sub Heap.sub Tok.sub SV.sub SV.subL

def hasL (m : List D) (f : Int → Option D) (lsn : Int) : List D := (m.filter (fun x => decide (lsn ≤ atI f x.i))).map (fun x => D.int x.i)
theorem has_step {m : List D} {i : Nat} (hi : i < m.length) (f : Int → Option D) (lsn : Int) : hasL (m.take (i + 1)) f lsn = hasL (m.take i) f lsn ++ if decide (lsn ≤ atI f (m.getD i .nil).i) then [D.int (m.getD i .nil).i] else [] := by
  unfold hasL
  rw [List.take_add_one, List.getElem?_eq_getElem hi, List.getD_eq_getElem?_getD, List.getElem?_eq_getElem hi, List.filter_append, List.map_append]
  simp only [Option.toList_some, Option.getD_some, List.filter_cons, List.filter_nil]
  split <;> simp
theorem has_len (m : List D) (f : Int → Option D) (lsn : Int) : (hasL m f lsn).length ≤ m.length := by
  unfold hasL
  rw [List.length_map]
  exact List.length_filter_le _ _
def WTHas : Opts := mkWE 31 [] [] [] 184 [] []
def icTHas : IC := (.seq (.seq (.ops [(.u (.mov 4 (.c .nils)))]) (.tr [0, 1])) (.seq (.seq (.ops [(.u (.mov 5 (.c .nils)))]) (.tr [0, 1, 5])) (.seq (.seq (.seq (.ops [(.u (.mov 8 (.s 0))), (.u (.nlc 9 (.s 8))), (.u (.fad 10 0 0 (.slice 3) 109 (.s 9))), (.u (.ld 11 (.slice 3) (.s 10))), (.u (.len 12 false (.s 11))), (.u (.mov 13 (.c (.int .i64 0))))]) (.tr [12, 11, 0, 1, 13, 5])) (.block 0 (.loop (.seq (.seq (.ops [(.u (.cmp 14 .lss (.s 13) (.s 12)))]) (.tr [14, 13, 12, 11, 0, 1, 5])) (.seq (.cond (.s 14) .skip (.exit 0)) (.seq (.block 1 (.seq (.seq (.ops [(.u (.iad 15 3 (.int .i64) (.s 11) (.s 13))), (.u (.ld 16 (.int .i64) (.s 15))), (.u (.mov 7 (.s 16)))]) (.tr [7, 13, 12, 11, 0, 1, 5])) (.seq (.seq (.ops [(.u (.mov 17 (.s 0))), (.u (.nlc 18 (.s 17))), (.u (.fad 19 2 4 (.map 3 2) 109 (.s 18))), (.u (.ld 20 (.map 3 2) (.s 19))), (.u (.mov 21 (.s 7))), (.u (.lkp 22 3 2 .i64 (.int .i64) (.int 0) false (.s 20) (.s 21))), (.u (.mov 23 (.s 1))), (.u (.cmp 24 .geq (.s 22) (.s 23)))]) (.tr [24, 7, 13, 12, 11, 0, 1, 5])) (.cond (.s 24) (.seq (.ops [(.u (.mov 25 (.s 5))), (.u (.mov 26 (.s 7))), (.u (.bsl 27 3 (.int .i64) [(.s 26)])), (.u (.app 28 3 (.int .i64) 8 (.s 25) (.s 27))), (.u (.mov 5 (.s 28)))]) (.tr [13, 12, 11, 0, 1, 5])) .skip)))) (.seq (.ops [(.u (.bin 29 .add .i64 (.s 13) (.c (.int .i64 1)))), (.u (.mov 13 (.s 29)))]) (.tr [12, 11, 0, 1, 13, 5])))))))) (.seq (.seq (.ops [(.u (.mov 30 (.s 5))), (.u (.mov 4 (.s 30)))]) (.tr [4])) .ret))))
def rsTHas : List RV := [(.t 4)]
theorem irTHas : fnIR Tryd.prog WTHas 31 = some (icTHas, rsTHas) := by kernel_rfl
def spTHas : FSpec := fun args h nx K => match args with
  | [.ptr r 0, .int .i64 lsn] => tOk (hget h r) ∧ sOk (hget h (tA (hget h r))) ∧ (tM (hget h r)).length ≤ 1000 ∧ K (.dat (.slice 3) (.list (hasL (tM (hget h r)) (mF (hget h (tA (hget h r)))) lsn))) h
  | _ => False
set_option maxHeartbeats 4000000 in
set_option maxRecDepth 8000 in
theorem vTHas {E : Nat → Value} (hE : Errs2 Tryd.prog (some 184) E) : Valid Tryd.prog E (gs []) 31 spTHas := by
  refine valid_go (W := WTHas) hE allValid_bot irTHas (by decide) (fun args h nx K hsp hok hnm => ?_)
  unfold spTHas at hsp
  split at hsp
  · rename_i r lsn
    obtain ⟨⟨m, p, w, k, a, b, hr⟩, hs, hm3, hK⟩ := hsp
    rw [hr, tA_c] at hs hK
    rw [hr, tM_c] at hm3
    rw [tM_c] at hK
    obtain ⟨f, ha⟩ := hs
    rw [ha, mF_c] at hK
    have hrx := (hnm r _ hr).1
    have hax := (hnm a _ ha).1
    refine ⟨by simp [WTHas, mkW, mkWE, mkWF], fun Q hQ => ?_⟩
    have pn0r : (nx = r) = False := eq_false (by omega)
    have pn1r : ∀ a0 : Nat, (nx + a0 = r) = False := fun a0 => eq_false (by omega)
    have pn2r : ∀ a0 a1 : Nat, (nx + a0 + a1 = r) = False := fun a0 a1 => eq_false (by omega)
    have pn3r : ∀ a0 a1 a2 : Nat, (nx + a0 + a1 + a2 = r) = False := fun a0 a1 a2 => eq_false (by omega)
    have pn4r : ∀ a0 a1 a2 a3 : Nat, (nx + a0 + a1 + a2 + a3 = r) = False := fun a0 a1 a2 a3 => eq_false (by omega)
    have pn5r : ∀ a0 a1 a2 a3 a4 : Nat, (nx + a0 + a1 + a2 + a3 + a4 = r) = False := fun a0 a1 a2 a3 a4 => eq_false (by omega)
    have pn6r : ∀ a0 a1 a2 a3 a4 a5 : Nat, (nx + a0 + a1 + a2 + a3 + a4 + a5 = r) = False := fun a0 a1 a2 a3 a4 a5 => eq_false (by omega)
    have pn7r : ∀ a0 a1 a2 a3 a4 a5 a6 : Nat, (nx + a0 + a1 + a2 + a3 + a4 + a5 + a6 = r) = False := fun a0 a1 a2 a3 a4 a5 a6 => eq_false (by omega)
    have pn0a : (nx = a) = False := eq_false (by omega)
    have pn1a : ∀ a0 : Nat, (nx + a0 = a) = False := fun a0 => eq_false (by omega)
    have pn2a : ∀ a0 a1 : Nat, (nx + a0 + a1 = a) = False := fun a0 a1 => eq_false (by omega)
    have pn3a : ∀ a0 a1 a2 : Nat, (nx + a0 + a1 + a2 = a) = False := fun a0 a1 a2 => eq_false (by omega)
    have pn4a : ∀ a0 a1 a2 a3 : Nat, (nx + a0 + a1 + a2 + a3 = a) = False := fun a0 a1 a2 a3 => eq_false (by omega)
    have pn5a : ∀ a0 a1 a2 a3 a4 : Nat, (nx + a0 + a1 + a2 + a3 + a4 = a) = False := fun a0 a1 a2 a3 a4 => eq_false (by omega)
    have pn6a : ∀ a0 a1 a2 a3 a4 a5 : Nat, (nx + a0 + a1 + a2 + a3 + a4 + a5 = a) = False := fun a0 a1 a2 a3 a4 a5 => eq_false (by omega)
    have pn7a : ∀ a0 a1 a2 a3 a4 a5 a6 : Nat, (nx + a0 + a1 + a2 + a3 + a4 + a5 + a6 = a) = False := fun a0 a1 a2 a3 a4 a5 a6 => eq_false (by omega)
    simp (maxSteps := 4000000) only [icTHas, go_sem, goD_calls, eq_self, implies_true, Int.reduceEq, Int.reduceBEq, Int.reduceBNe, Int.reduceLE, Int.reduceLT, Int.reduceAdd, Int.reduceSub, Int.reduceMul, Int.reduceNeg, Nat.reduceMul, Nat.reduceSub, Nat.reduceLeDiff, Nat.reduceLT, Nat.reduceEqDiff, Nat.reduceAdd, reduceCtorEq, ↓reduceIte, reduceIte, hr, ha]
    refine go_loop (α := { i : Nat // i ≤ m.length }) (I := fun i => { f := [(12, .int .i64 m.length), (11, .dat (.slice 3) (.list m)), (0, .ptr r 0), (1, .int .i64 lsn), (13, .int .i64 i.1), (5, .vec nx)], h := (nx, .arr 3 (.int .i64) (hasL (m.take i.1) f lsn)) :: h, nx := nx + 1 }) (μ := fun i => m.length - i.1) _ _ _ ⟨0, by omega⟩ ?_ (fun i B hB => ?_)
    · refine leq_news [(nx, nx)] [(nx, .arr 3 (.int .i64) (hasL (m.take 0) f lsn))] (.slot 5 3 (.int .i64) rfl (.refl _)) (by simp) (by simp <;> omega) (by simp) rfl ?_ ?_ ?_ ?_ hnm ?_ (by omega)
      · simp [frIn_cons, frIn_nil, fget_cons, fget_nil, SV.ren, SV.renL, rens]
      · simp only [frLt_cons, frLt_nil, and_true, SV.lt, SV.ltL, true_and]
        omega
      · (simp only [List.mem_cons, List.not_mem_nil, or_false, forall_eq_or_imp, forall_eq]; simp [hget, rens, Tok.ren, SV.ren, SV.renL])
        try simp [hasL]
      · (simp only [List.mem_cons, List.not_mem_nil, or_false, forall_eq_or_imp, forall_eq, Tok.lt, SV.lt, SV.ltL, and_true, true_and] <;> omega)
      · ((try simp only []); repeat first | exact HLe.refl _ | refine HLe.cons (by simp only [hget, Nat.reduceEqDiff, Nat.left_eq_add, Nat.add_eq_left, nm_ne2, nm_en2, nm_ne3, nm_en3, nm_ne4, nm_en4, nm_ne5, nm_en5, reduceIte, ↓reduceIte] <;> first | rfl | ((repeat rw [if_neg (by omega)]) <;> rfl)) ?_ | refine HLe.skip hnm (by omega) ?_ | refine HLe.frz hnm (by omega) ?_ | refine HLe.del hnm (by omega) ?_)
    · obtain ⟨i, hi⟩ := i
      simp only at hB
      by_cases hil : i < m.length
      · have c1 : decide ((i : Int) < (m.length : Int)) = true := decide_eq_true (by omega)
        have hs := has_step hil f lsn
        have hl2 := has_len (m.take i) f lsn
        rw [List.length_take] at hl2
        have next : ∀ S', Leq nx S' { f := [(12, .int .i64 m.length), (11, .dat (.slice 3) (.list m)), (0, .ptr r 0), (1, .int .i64 lsn), (13, .int .i64 ((i + 1 : Nat) : Int)), (5, .vec nx)], h := (nx, .arr 3 (.int .i64) (hasL (m.take (i + 1)) f lsn)) :: h, nx := nx + 1 } → B S' := fun S' hl => hB _ ⟨i + 1, by omega⟩ (by simp only []; omega) hl
        by_cases hv : lsn ≤ atI f (m.getD i .nil).i
        · have c2 : decide (lsn ≤ atI f (m.getD i .nil).i) = true := decide_eq_true hv
          rw [c2] at hs
          simp only [if_true] at hs
          rw [hs] at next
          simp (maxSteps := 4000000) only [go_sem, goD_calls, eq_self, implies_true, Int.reduceEq, Int.reduceBEq, Int.reduceBNe, Int.reduceLE, Int.reduceLT, Int.reduceAdd, Int.reduceSub, Int.reduceMul, Int.reduceNeg, Nat.reduceMul, Nat.reduceSub, Nat.reduceLeDiff, Nat.reduceLT, Nat.reduceEqDiff, Nat.reduceAdd, reduceCtorEq, ↓reduceIte, reduceIte, pn0r, pn1r, pn2r, pn3r, pn4r, pn5r, pn6r, pn7r, pn0a, pn1a, pn2a, pn3a, pn4a, pn5a, pn6a, pn7a, c1, c2, hr, ha, atI_def, Int.toNat_natCast, min_i64, max_i64]
          repeat refine ⟨by omega, ?_⟩
          refine next _ ?_
          refine leq_ren1 nx (nx + 1 + 1) (by omega) (by simp only [] <;> omega) ?_ ?_ ?_ (by (repeat first | exact HLt.mono hnm (by simp only [] <;> omega) | refine HLt.cons (by simp only [] <;> omega) (by simp only [Tok.lt, SV.ltL, SV.lt, and_true, true_and] <;> omega) ?_)) (by simp only [] <;> omega)
          · simp only [frEq_cons, frEq_nil, frIn_cons, frIn_nil, and_true, fget_cons, Nat.reduceEqDiff, reduceIte, ↓reduceIte, true_and, SV.ren, SV.renL, ren1]
            simp <;> omega
          · simp only [frLt_cons, frLt_nil, and_true, SV.lt, SV.ltL, true_and]
            omega
          · exact HRen.cons (by rw [ren1_eq]; simp [hget, Tok.ren]) (HRen.base hnm (Nat.le_refl _) (by ((try simp only []); repeat first | exact HLe.refl _ | refine HLe.cons (by simp only [hget, Nat.reduceEqDiff, Nat.left_eq_add, Nat.add_eq_left, nm_ne2, nm_en2, nm_ne3, nm_en3, nm_ne4, nm_en4, nm_ne5, nm_en5, reduceIte, ↓reduceIte] <;> first | rfl | ((repeat rw [if_neg (by omega)]) <;> rfl)) ?_ | refine HLe.skip hnm (by omega) ?_ | refine HLe.frz hnm (by omega) ?_ | refine HLe.del hnm (by omega) ?_)))
        · have c2 : decide (lsn ≤ atI f (m.getD i .nil).i) = false := decide_eq_false hv
          rw [c2] at hs
          simp only [Bool.false_eq_true, if_false, List.append_nil] at hs
          rw [hs] at next
          simp (maxSteps := 4000000) only [go_sem, goD_calls, eq_self, implies_true, Int.reduceEq, Int.reduceBEq, Int.reduceBNe, Int.reduceLE, Int.reduceLT, Int.reduceAdd, Int.reduceSub, Int.reduceMul, Int.reduceNeg, Nat.reduceMul, Nat.reduceSub, Nat.reduceLeDiff, Nat.reduceLT, Nat.reduceEqDiff, Nat.reduceAdd, reduceCtorEq, ↓reduceIte, reduceIte, pn0r, pn1r, pn2r, pn3r, pn4r, pn5r, pn6r, pn7r, pn0a, pn1a, pn2a, pn3a, pn4a, pn5a, pn6a, pn7a, c1, c2, hr, ha, atI_def, Int.toNat_natCast, min_i64, max_i64]
          repeat refine ⟨by omega, ?_⟩
          refine next _ ?_
          refine leq_id ?_ ?_ (by ((try simp only []); repeat first | exact HLe.refl _ | refine HLe.cons (by simp only [hget, Nat.reduceEqDiff, Nat.left_eq_add, Nat.add_eq_left, nm_ne2, nm_en2, nm_ne3, nm_en3, nm_ne4, nm_en4, nm_ne5, nm_en5, reduceIte, ↓reduceIte] <;> first | rfl | ((repeat rw [if_neg (by omega)]) <;> rfl)) ?_ | refine HLe.skip hnm (by omega) ?_ | refine HLe.frz hnm (by omega) ?_ | refine HLe.del hnm (by omega) ?_)) (by (repeat first | exact HLt.mono hnm (by simp only [] <;> omega) | refine HLt.cons (by simp only [] <;> omega) (by simp only [Tok.lt, SV.ltL, SV.lt, and_true, true_and] <;> omega) ?_)) (by simp only [] <;> omega)
          · simp only [frEq_cons, frEq_nil, frIn_cons, frIn_nil, and_true, fget_cons, Nat.reduceEqDiff, reduceIte, ↓reduceIte, true_and, SV.ren, SV.renL, ren1]
            simp
          · simp only [frLt_cons, frLt_nil, and_true, SV.lt, SV.ltL, true_and]
            omega
      · obtain rfl : i = m.length := by omega
        have c1 : decide ((m.length : Int) < (m.length : Int)) = false := decide_eq_false (by omega)
        rw [List.take_of_length_le (Nat.le_refl _)]
        simp (maxSteps := 4000000) only [go_sem, goD_calls, eq_self, implies_true, Int.reduceEq, Int.reduceBEq, Int.reduceBNe, Int.reduceLE, Int.reduceLT, Int.reduceAdd, Int.reduceSub, Int.reduceMul, Int.reduceNeg, Nat.reduceMul, Nat.reduceSub, Nat.reduceLeDiff, Nat.reduceLT, Nat.reduceEqDiff, Nat.reduceAdd, reduceCtorEq, ↓reduceIte, reduceIte, c1]
        refine (hQ _ ?_).1
        refine fin_new (p := True ∧ True) (xs := [.vec nx]) rfl ⟨trivial, trivial⟩ (.frz nx (.refl _)) [] (.dat (.slice 3) (.list (hasL m f lsn))) [] (by simp) (by simp) (by simp) ?_ trivial rfl (by simp) (by simp) hnm ?_ hK
        · simp only [mkR, go_sem, goD_calls, eq_self, implies_true, Int.reduceEq, Int.reduceBEq, Int.reduceBNe, Int.reduceLE, Int.reduceLT, Int.reduceAdd, Int.reduceSub, Int.reduceMul, Int.reduceNeg, Nat.reduceMul, Nat.reduceSub, Nat.reduceLeDiff, Nat.reduceLT, Nat.reduceEqDiff, Nat.reduceAdd, reduceCtorEq, ↓reduceIte, reduceIte, SV.ren, SV.renL, rens]
        · simp only [mkR, go_sem, goD_calls, eq_self, implies_true, Int.reduceEq, Int.reduceBEq, Int.reduceBNe, Int.reduceLE, Int.reduceLT, Int.reduceAdd, Int.reduceSub, Int.reduceMul, Int.reduceNeg, Nat.reduceMul, Nat.reduceSub, Nat.reduceLeDiff, Nat.reduceLT, Nat.reduceEqDiff, Nat.reduceAdd, reduceCtorEq, ↓reduceIte, reduceIte] <;> ((try simp only []); repeat first | exact HLe.refl _ | refine HLe.cons (by simp only [hget, Nat.reduceEqDiff, Nat.left_eq_add, Nat.add_eq_left, nm_ne2, nm_en2, nm_ne3, nm_en3, nm_ne4, nm_en4, nm_ne5, nm_en5, reduceIte, ↓reduceIte] <;> first | rfl | ((repeat rw [if_neg (by omega)]) <;> rfl)) ?_ | refine HLe.skip hnm (by omega) ?_ | refine HLe.frz hnm (by omega) ?_ | refine HLe.del hnm (by omega) ?_)
  · exact hsp.elim

noncomputable def pgStep (m : List D) (p : D) (f : Int → Option D) (best : Int) (x : D) : Int := if decide (best < atI f x.i) && hasD p (inL (hasL m f (atI f x.i))) then atI f x.i else best
noncomputable def pgcl (m : List D) (p : D) (f : Int → Option D) : Int := m.foldl (pgStep m p f) 0
theorem pg_step {m : List D} {i : Nat} (hi : i < m.length) (m' : List D) (p : D) (f : Int → Option D) : (m.take (i + 1)).foldl (pgStep m' p f) 0 = pgStep m' p f ((m.take i).foldl (pgStep m' p f) 0) (m.getD i .nil) := by
  rw [List.take_add_one, List.getElem?_eq_getElem hi, List.getD_eq_getElem?_getD, List.getElem?_eq_getElem hi, List.foldl_append]
  rfl
def WTPgcl : Opts := mkWF 38 [] [] [] 184 [] [] [] [32]
def icTPgcl : IC := (.seq (.seq (.ops [(.u (.mov 2 (.c (.int .i64 0))))]) (.tr [0])) (.seq (.seq (.ops [(.u (.mov 3 (.c (.int .i64 0))))]) (.tr [0, 3])) (.seq (.seq (.seq (.ops [(.u (.mov 7 (.s 0))), (.u (.nlc 8 (.s 7))), (.u (.fad 9 0 0 (.slice 3) 109 (.s 8))), (.u (.ld 10 (.slice 3) (.s 9))), (.u (.len 11 false (.s 10))), (.u (.mov 12 (.c (.int .i64 0))))]) (.tr [11, 10, 0, 12, 3])) (.block 0 (.loop (.seq (.seq (.ops [(.u (.cmp 13 .lss (.s 12) (.s 11)))]) (.tr [13, 12, 11, 10, 0, 3])) (.seq (.cond (.s 13) .skip (.exit 0)) (.seq (.block 1 (.seq (.seq (.ops [(.u (.iad 14 3 (.int .i64) (.s 10) (.s 12))), (.u (.ld 15 (.int .i64) (.s 14))), (.u (.mov 5 (.s 15)))]) (.tr [5, 12, 11, 10, 0, 3])) (.seq (.seq (.ops [(.u (.mov 16 (.s 0))), (.u (.nlc 17 (.s 16))), (.u (.fad 18 2 4 (.map 3 2) 109 (.s 17))), (.u (.ld 19 (.map 3 2) (.s 18))), (.u (.mov 20 (.s 5))), (.u (.lkp 21 3 2 .i64 (.int .i64) (.int 0) false (.s 19) (.s 20))), (.u (.mov 6 (.s 21)))]) (.tr [6, 12, 11, 10, 0, 3])) (.seq (.seq (.rgn [(.s 0), (.s 6)] [(false, (.u (.mov 22 (.s 6)))), (false, (.u (.mov 23 (.s 3)))), (false, (.u (.cmp 24 .gtr (.s 22) (.s 23)))), (false, (.u (.mov 25 (.s 24)))), (false, (.g 25 true (some 26) (.mov 26 (.s 0)))), (false, (.g 25 true (some 27) (.nlc 27 (.s 26)))), (false, (.g 25 true (some 28) (.fad 28 1 1 (.strct [(.ptr 139), (.slice 3), (.int .i64)]) 109 (.s 27)))), (false, (.g 25 true (some 29) (.ld 29 (.strct [(.ptr 139), (.slice 3), (.int .i64)]) (.s 28)))), (false, (.g 25 true (some 30) (.mov 30 (.s 0)))), (false, (.g 25 true (some 31) (.mov 31 (.s 6)))), (true, (.g 25 true (some 32) (.call 32 (.c (.clo 31 [])) [(.s 30), (.s 31)] [none, none] true))), (false, (.g 25 true (some 33) (.call 33 (.c (.clo 19 [])) [(.s 29), (.s 32)] [none, (some 3)] true))), (false, (.u (.pck 34 (.s 25) (.s 33) (.c (.bool false)))))]) (.tr [34, 6, 12, 11, 10, 0, 3])) (.cond (.s 34) (.seq (.ops [(.u (.mov 35 (.s 6))), (.u (.mov 3 (.s 35)))]) (.tr [12, 11, 10, 0, 3])) .skip))))) (.seq (.ops [(.u (.bin 36 .add .i64 (.s 12) (.c (.int .i64 1)))), (.u (.mov 12 (.s 36)))]) (.tr [11, 10, 0, 12, 3])))))))) (.seq (.seq (.ops [(.u (.mov 37 (.s 3))), (.u (.mov 2 (.s 37)))]) (.tr [2])) .ret))))
def rsTPgcl : List RV := [(.t 2)]
theorem irTPgcl : fnIR Tryd.prog WTPgcl 27 = some (icTPgcl, rsTPgcl) := by kernel_rfl
def spTPgcl : FSpec := fun args h nx K => match args with
  | [.ptr r 0] => tOk (hget h r) ∧ sOk (hget h (tA (hget h r))) ∧ (tM (hget h r)).length ≤ 1000 ∧ okD (tP (hget h r)) ∧ K (.int .i64 (pgcl (tM (hget h r)) (tP (hget h r)) (mF (hget h (tA (hget h r)))))) h
  | _ => False
set_option maxHeartbeats 4000000 in
set_option maxRecDepth 8000 in
theorem vTPgcl {E : Nat → Value} (hE : Errs2 Tryd.prog (some 184) E) : Valid Tryd.prog E (gs []) 27 spTPgcl := by
  refine valid_go (W := WTPgcl) hE ((allValid_bot.add (up (vTHas hE))).add (up (vQHasD hE))) irTPgcl (by decide) (fun args h nx K hsp hok hnm => ?_)
  unfold spTPgcl at hsp
  split at hsp
  · rename_i r
    obtain ⟨⟨m, p, w, k, a, b, hr⟩, hs, hm3, hp, hK⟩ := hsp
    rw [hr, tA_c] at hs hK
    rw [hr, tM_c] at hm3
    rw [hr, tP_c] at hp
    rw [tM_c, tP_c] at hK
    obtain ⟨f, ha⟩ := hs
    rw [ha, mF_c] at hK
    have hrx := (hnm r _ hr).1
    have hax := (hnm a _ ha).1
    refine ⟨by simp [WTPgcl, mkW, mkWE, mkWF], fun Q hQ => ?_⟩
    simp (maxSteps := 4000000) only [icTPgcl, go_sem, goD_calls, eq_self, implies_true, Int.reduceEq, Int.reduceBEq, Int.reduceBNe, Int.reduceLE, Int.reduceLT, Int.reduceAdd, Int.reduceSub, Int.reduceMul, Int.reduceNeg, Nat.reduceMul, Nat.reduceSub, Nat.reduceLeDiff, Nat.reduceLT, Nat.reduceEqDiff, Nat.reduceAdd, reduceCtorEq, ↓reduceIte, reduceIte, hr, ha]
    refine go_loop (α := { i : Nat // i ≤ m.length }) (I := fun i => { f := [(11, .int .i64 m.length), (10, .dat (.slice 3) (.list m)), (0, .ptr r 0), (12, .int .i64 i.1), (3, .int .i64 ((m.take i.1).foldl (pgStep m p f) 0))], h := h, nx := nx }) (μ := fun i => m.length - i.1) _ _ _ ⟨0, by omega⟩ ?_ (fun i B hB => ?_)
    · refine leq_id ?_ ?_ (by ((try simp only []); repeat first | exact HLe.refl _ | refine HLe.cons (by simp only [hget, Nat.reduceEqDiff, Nat.left_eq_add, Nat.add_eq_left, nm_ne2, nm_en2, nm_ne3, nm_en3, nm_ne4, nm_en4, nm_ne5, nm_en5, reduceIte, ↓reduceIte] <;> first | rfl | ((repeat rw [if_neg (by omega)]) <;> rfl)) ?_ | refine HLe.skip hnm (by omega) ?_ | refine HLe.frz hnm (by omega) ?_ | refine HLe.del hnm (by omega) ?_)) (by (repeat first | exact HLt.mono hnm (by simp only [] <;> omega) | refine HLt.cons (by simp only [] <;> omega) (by simp only [Tok.lt, SV.ltL, SV.lt, and_true, true_and] <;> omega) ?_)) (by simp only [] <;> omega)
      · simp only [frEq_cons, frEq_nil, frIn_cons, frIn_nil, and_true, fget_cons, Nat.reduceEqDiff, reduceIte, ↓reduceIte, true_and, SV.ren, SV.renL, ren1]
        simp
      · simp only [frLt_cons, frLt_nil, and_true, SV.lt, SV.ltL, true_and]
        omega
    · obtain ⟨i, hi⟩ := i
      simp only at hB
      by_cases hil : i < m.length
      · have c1 : decide ((i : Int) < (m.length : Int)) = true := decide_eq_true (by omega)
        have hs := pg_step hil m p f
        obtain ⟨best, hbest⟩ : ∃ best, (m.take i).foldl (pgStep m p f) 0 = best := ⟨_, rfl⟩
        have next : ∀ nb, nb = pgStep m p f best (m.getD i .nil) → ∀ S', Leq nx S' { f := [(11, .int .i64 m.length), (10, .dat (.slice 3) (.list m)), (0, .ptr r 0), (12, .int .i64 ((i + 1 : Nat) : Int)), (3, .int .i64 nb)], h := h, nx := nx } → B S' := fun nb e S' hl => by
          refine hB _ ⟨i + 1, by omega⟩ (by simp only []; omega) ?_
          rw [hs, hbest, ← e]
          exact hl
        rw [hbest]
        obtain ⟨v, hv⟩ : ∃ v, atI f (m.getD i .nil).i = v := ⟨_, rfl⟩
        by_cases h2 : best < v
        · have c2 : decide (best < v) = true := decide_eq_true h2
          rcases bool_ft (hasD p (inL (hasL m f v))) with h3 | h3
          · simp (maxSteps := 4000000) only [go_sem, goD_calls, eq_self, implies_true, Int.reduceEq, Int.reduceBEq, Int.reduceBNe, Int.reduceLE, Int.reduceLT, Int.reduceAdd, Int.reduceSub, Int.reduceMul, Int.reduceNeg, Nat.reduceMul, Nat.reduceSub, Nat.reduceLeDiff, Nat.reduceLT, Nat.reduceEqDiff, Nat.reduceAdd, reduceCtorEq, ↓reduceIte, reduceIte, c1, hr, ha, atI_def, hv, c2, spTHas, spQHasD, tOk_c, tA_c, tM_c, sOk_c, mF_c, hm3, hp, h3, SV.one, Int.toNat_natCast, min_i64, max_i64]
            repeat refine ⟨by omega, ?_⟩
            refine next best (by unfold pgStep; rw [hv, h3, Bool.and_false]; rfl) _ ?_
            refine leq_id ?_ ?_ (by ((try simp only []); repeat first | exact HLe.refl _ | refine HLe.cons (by simp only [hget, Nat.reduceEqDiff, Nat.left_eq_add, Nat.add_eq_left, nm_ne2, nm_en2, nm_ne3, nm_en3, nm_ne4, nm_en4, nm_ne5, nm_en5, reduceIte, ↓reduceIte] <;> first | rfl | ((repeat rw [if_neg (by omega)]) <;> rfl)) ?_ | refine HLe.skip hnm (by omega) ?_ | refine HLe.frz hnm (by omega) ?_ | refine HLe.del hnm (by omega) ?_)) (by (repeat first | exact HLt.mono hnm (by simp only [] <;> omega) | refine HLt.cons (by simp only [] <;> omega) (by simp only [Tok.lt, SV.ltL, SV.lt, and_true, true_and] <;> omega) ?_)) (by simp only [] <;> omega)
            · simp only [frEq_cons, frEq_nil, frIn_cons, frIn_nil, and_true, fget_cons, Nat.reduceEqDiff, reduceIte, ↓reduceIte, true_and, SV.ren, SV.renL, ren1]
              simp
            · simp only [frLt_cons, frLt_nil, and_true, SV.lt, SV.ltL, true_and]
              omega
          · simp (maxSteps := 4000000) only [go_sem, goD_calls, eq_self, implies_true, Int.reduceEq, Int.reduceBEq, Int.reduceBNe, Int.reduceLE, Int.reduceLT, Int.reduceAdd, Int.reduceSub, Int.reduceMul, Int.reduceNeg, Nat.reduceMul, Nat.reduceSub, Nat.reduceLeDiff, Nat.reduceLT, Nat.reduceEqDiff, Nat.reduceAdd, reduceCtorEq, ↓reduceIte, reduceIte, c1, hr, ha, atI_def, hv, c2, spTHas, spQHasD, tOk_c, tA_c, tM_c, sOk_c, mF_c, hm3, hp, h3, SV.one, Int.toNat_natCast, min_i64, max_i64]
            repeat refine ⟨by omega, ?_⟩
            refine next v (by unfold pgStep; rw [hv, h3, c2]; rfl) _ ?_
            refine leq_id ?_ ?_ (by ((try simp only []); repeat first | exact HLe.refl _ | refine HLe.cons (by simp only [hget, Nat.reduceEqDiff, Nat.left_eq_add, Nat.add_eq_left, nm_ne2, nm_en2, nm_ne3, nm_en3, nm_ne4, nm_en4, nm_ne5, nm_en5, reduceIte, ↓reduceIte] <;> first | rfl | ((repeat rw [if_neg (by omega)]) <;> rfl)) ?_ | refine HLe.skip hnm (by omega) ?_ | refine HLe.frz hnm (by omega) ?_ | refine HLe.del hnm (by omega) ?_)) (by (repeat first | exact HLt.mono hnm (by simp only [] <;> omega) | refine HLt.cons (by simp only [] <;> omega) (by simp only [Tok.lt, SV.ltL, SV.lt, and_true, true_and] <;> omega) ?_)) (by simp only [] <;> omega)
            · simp only [frEq_cons, frEq_nil, frIn_cons, frIn_nil, and_true, fget_cons, Nat.reduceEqDiff, reduceIte, ↓reduceIte, true_and, SV.ren, SV.renL, ren1]
              simp
            · simp only [frLt_cons, frLt_nil, and_true, SV.lt, SV.ltL, true_and]
              omega
        · have c2 : decide (best < v) = false := decide_eq_false h2
          simp (maxSteps := 4000000) only [go_sem, goD_calls, eq_self, implies_true, Int.reduceEq, Int.reduceBEq, Int.reduceBNe, Int.reduceLE, Int.reduceLT, Int.reduceAdd, Int.reduceSub, Int.reduceMul, Int.reduceNeg, Nat.reduceMul, Nat.reduceSub, Nat.reduceLeDiff, Nat.reduceLT, Nat.reduceEqDiff, Nat.reduceAdd, reduceCtorEq, ↓reduceIte, reduceIte, c1, hr, ha, atI_def, hv, c2, Int.toNat_natCast, min_i64, max_i64]
          repeat refine ⟨by omega, ?_⟩
          refine next best (by unfold pgStep; rw [hv, c2, Bool.false_and]; rfl) _ ?_
          refine leq_id ?_ ?_ (by ((try simp only []); repeat first | exact HLe.refl _ | refine HLe.cons (by simp only [hget, Nat.reduceEqDiff, Nat.left_eq_add, Nat.add_eq_left, nm_ne2, nm_en2, nm_ne3, nm_en3, nm_ne4, nm_en4, nm_ne5, nm_en5, reduceIte, ↓reduceIte] <;> first | rfl | ((repeat rw [if_neg (by omega)]) <;> rfl)) ?_ | refine HLe.skip hnm (by omega) ?_ | refine HLe.frz hnm (by omega) ?_ | refine HLe.del hnm (by omega) ?_)) (by (repeat first | exact HLt.mono hnm (by simp only [] <;> omega) | refine HLt.cons (by simp only [] <;> omega) (by simp only [Tok.lt, SV.ltL, SV.lt, and_true, true_and] <;> omega) ?_)) (by simp only [] <;> omega)
          · simp only [frEq_cons, frEq_nil, frIn_cons, frIn_nil, and_true, fget_cons, Nat.reduceEqDiff, reduceIte, ↓reduceIte, true_and, SV.ren, SV.renL, ren1]
            simp
          · simp only [frLt_cons, frLt_nil, and_true, SV.lt, SV.ltL, true_and]
            omega
      · obtain rfl : i = m.length := by omega
        have c1 : decide ((m.length : Int) < (m.length : Int)) = false := decide_eq_false (by omega)
        rw [List.take_of_length_le (Nat.le_refl _)]
        simp (maxSteps := 4000000) only [go_sem, goD_calls, eq_self, implies_true, Int.reduceEq, Int.reduceBEq, Int.reduceBNe, Int.reduceLE, Int.reduceLT, Int.reduceAdd, Int.reduceSub, Int.reduceMul, Int.reduceNeg, Nat.reduceMul, Nat.reduceSub, Nat.reduceLeDiff, Nat.reduceLT, Nat.reduceEqDiff, Nat.reduceAdd, reduceCtorEq, ↓reduceIte, reduceIte, c1]
        refine (hQ _ ?_).1
        exact fin_t (.int .i64 _) rfl rfl hnm (by ((try simp only []); repeat first | exact HLe.refl _ | refine HLe.cons (by simp only [hget, Nat.reduceEqDiff, Nat.left_eq_add, Nat.add_eq_left, nm_ne2, nm_en2, nm_ne3, nm_en3, nm_ne4, nm_en4, nm_ne5, nm_en5, reduceIte, ↓reduceIte] <;> first | rfl | ((repeat rw [if_neg (by omega)]) <;> rfl)) ?_ | refine HLe.skip hnm (by omega) ?_ | refine HLe.frz hnm (by omega) ?_ | refine HLe.del hnm (by omega) ?_)) hK
  · exact hsp.elim
end Go.Proofs.YtkojpimkngmckaaDoor
