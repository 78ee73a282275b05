/- Chapter 7: how many are enough. -/
import Derived.Test.YtkojpimkngmckaaDoorConfC
namespace Go.Proofs.YtkojpimkngmckaaDoor
set_option linter.unusedVariables false
set_option linter.unusedSimpArgs false
open Go Go.Fw
attribute [local go_sem] walkSet evMdl evMupD evMup evLkp frpL preF preP prePt prePd frzP evNlq ev frOf oget ogets argSs argS evMm frzL evBin evWrp evShf evCmp evUna evNil evBeq evLd evSt evFad evIad evAad evLen evSln evEls evApp evParts evSlc evNlc evMif evPck evFld evBld evTas evIfq evSeq evSl0 evBxf evAgl evAgq evBsf hget hset hdel cellAt arrAt setCellAt setArrAt takeC lenC svCells SV.okc SV.one ldSV Fw.isAgg explode explodeL toD toDL toD1 Ty.size Ty.sizeL frz1 Fr.sub Heap.sub Tok.sub SV.sub SV.subL

def spQOfG : FSpec := fun args h nx K => match args with
  | [.int .i64 k, .dat (.slice t) d] => t = 3 ∧ (d.l.length = 6 ∧ goodN (sD d.l) ∧ 1 ≤ k ∧ k ≤ 6) ∧ K (.tup [setOf (QP.of k (sD d.l)).enc ((sD d.l).map D.int) 1, .dat .iface .nil]) h
  | _ => False
theorem vQOfG {E : Nat → Value} (hE : Errs2 Tryd.prog (some 184) E) : Valid Tryd.prog E (gs GQO) 100 spQOfG := by
  intro args h o nx K ρ H w vs hsp
  unfold spQOfG at hsp
  split at hsp
  · rename_i k t d
    obtain ⟨ht, ⟨h6, hg, k1, k6⟩, hK⟩ := hsp
    exact vQOf hE _ _ _ _ _ _ _ _ _ ⟨ht, fun hb => by omega, fun _ hb => absurd ⟨hg, k1, by omega⟩ hb, fun _ _ => hK⟩
  · exact hsp.elim
/-- Of two sets as they are in memory, of few nodes. -/
def spQAndG : FSpec := fun args h nx K => match args with
  | [.agg [.dat (.ptr t) pa, .dat (.slice t1) la, .int .i64 na], .agg [.dat (.ptr t') pb, .dat (.slice t2) lb, .int .i64 nb]] => t = 139 ∧ t' = 139 ∧ t1 = 3 ∧ t2 = 3 ∧ (pa.isNil = false ∧ pb.isNil = false ∧ la.l.length + lb.l.length ≤ 16 ∧ 0 ≤ na ∧ 0 ≤ nb ∧ na + nb ≤ 16) ∧ K (setOf (.ptr (.node [.int 1, .int 0, .list [], pa, pb])) (joinL la.l lb.l) (na + nb)) h
  | _ => False
theorem vQAndG {E : Nat → Value} (hE : Errs2 Tryd.prog (some 184) E) : Valid Tryd.prog E (gs []) 101 spQAndG := by
  intro args h o nx K ρ H w vs hsp
  unfold spQAndG at hsp
  split at hsp
  · rename_i t pa t1 la na t' pb t2 lb nb
    obtain ⟨rfl, rfl, rfl, rfl, ⟨p0, p1, hl, n0, n1, n2⟩, hK⟩ := hsp
    refine vQAnd hE _ _ _ _ _ _ _ _ _ ⟨rfl, rfl, .inr (.inr ⟨la, lb, rfl, rfl, p0, p1, by omega, by omega, n0, by omega, n1, by omega, ?_⟩)⟩
    have := joinL_len la.l lb.l
    unfold bothR
    rw [if_neg (by omega)]
    exact hK
  · exact hsp.elim

abbrev GCE : List Nat := [3, 4, 5]
def WCEnough : Opts := mkWE 47 [] [3, 4, 5] [] 184 [3, 4, 5] []
def icCEnough : IC := (.seq (.seq (.ops [(.u (.box 3 0 (.s 0))), (.u (.alc 6 [(.dat (.ptr 139) .nil), .nils, (.int .i64 0)]))]) (.tr [2, 1, 3, 6])) (.seq (.seq (.seq (.ops [(.u (.ld 10 (.strct [(.int .i64), (.slice 3), (.slice 3)]) (.s 3))), (.u (.call 11 (.c (.clo 49 [])) [(.s 10)] [none] true)), (.u (.eqb 12 true 0 (.s 11)))]) (.tr [12, 2, 1, 3, 6])) (.cond (.s 12) (.seq (.seq (.ops [(.u (.bld 13 [[(.dat (.ptr 139) .nil)], [.nils], [(.int .i64 0)]] [])), (.u (.st (.strct [(.ptr 139), (.slice 3), (.int .i64)]) (.s 6) (.s 13)))]) (.tr [6])) .ret) .skip)) (.seq (.seq (.ops [(.u (.mov 15 (.s 1))), (.u (.fad 16 1 1 (.slice 3) 25 (.s 3))), (.u (.ld 17 (.slice 3) (.s 16))), (.u (.call 18 (.c (.clo 100 [])) [(.s 15), (.s 17)] [none, (some 3)] true)), (.u (.mov 14 (.s 18))), (.u (.ext 19 0 (.s 14))), (.u (.ext 20 1 (.s 14))), (.u (.alc 7 [(.dat (.ptr 139) .nil), .nils, (.int .i64 0)])), (.u (.st (.strct [(.ptr 139), (.slice 3), (.int .i64)]) (.s 7) (.s 19))), (.u (.mov 8 (.s 20)))]) (.tr [8, 2, 1, 3, 7, 6])) (.seq (.seq (.seq (.ops [(.u (.mov 21 (.s 8))), (.u (.eqb 22 true 0 (.s 21))), (.u (.mov 23 (.s 22))), (.g 23 false (some 24) (.fad 24 2 2 (.slice 3) 25 (.s 3))), (.g 23 false (some 25) (.ld 25 (.slice 3) (.s 24))), (.g 23 false (some 26) (.len 26 false (.s 25))), (.g 23 false (some 27) (.cmp 27 .eql (.s 26) (.c (.int .i64 0)))), (.u (.pck 28 (.s 23) (.c (.bool true)) (.s 27))), (.u (.mov 29 (.s 28))), (.g 29 false (some 30) (.mov 30 (.s 2))), (.g 29 false (some 31) (.una 31 .not (.s 30))), (.u (.pck 32 (.s 29) (.c (.bool true)) (.s 31)))]) (.tr [32, 1, 3, 7, 6])) (.cond (.s 32) (.seq (.seq (.ops [(.u (.ld 33 (.strct [(.ptr 139), (.slice 3), (.int .i64)]) (.s 7))), (.u (.st (.strct [(.ptr 139), (.slice 3), (.int .i64)]) (.s 6) (.s 33)))]) (.tr [6])) .ret) .skip)) (.seq (.seq (.ops [(.u (.mov 35 (.s 1))), (.u (.fad 36 2 2 (.slice 3) 25 (.s 3))), (.u (.ld 37 (.slice 3) (.s 36))), (.u (.call 38 (.c (.clo 100 [])) [(.s 35), (.s 37)] [none, (some 3)] true)), (.u (.mov 34 (.s 38))), (.u (.ext 39 0 (.s 34))), (.u (.ext 40 1 (.s 34))), (.u (.alc 9 [(.dat (.ptr 139) .nil), .nils, (.int .i64 0)])), (.u (.st (.strct [(.ptr 139), (.slice 3), (.int .i64)]) (.s 9) (.s 39))), (.u (.mov 8 (.s 40)))]) (.tr [8, 7, 9, 6])) (.seq (.seq (.seq (.ops [(.u (.mov 41 (.s 8))), (.u (.eqb 42 true 0 (.s 41)))]) (.tr [42, 7, 9, 6])) (.cond (.s 42) (.seq (.seq (.ops [(.u (.bld 43 [[(.dat (.ptr 139) .nil)], [.nils], [(.int .i64 0)]] [])), (.u (.st (.strct [(.ptr 139), (.slice 3), (.int .i64)]) (.s 6) (.s 43)))]) (.tr [6])) .ret) .skip)) (.seq (.seq (.ops [(.u (.ld 44 (.strct [(.ptr 139), (.slice 3), (.int .i64)]) (.s 7))), (.u (.ld 45 (.strct [(.ptr 139), (.slice 3), (.int .i64)]) (.s 9))), (.u (.call 46 (.c (.clo 101 [])) [(.s 44), (.s 45)] [none, none] true)), (.u (.st (.strct [(.ptr 139), (.slice 3), (.int .i64)]) (.s 6) (.s 46)))]) (.tr [6])) .ret)))))))
def rsCEnough : List RV := [(.c 6 (.strct [(.ptr 139), (.slice 3), (.int .i64)]))]
theorem irCEnough : fnIR Tryd.prog WCEnough 73 = some (icCEnough, rsCEnough) := by kernel_rfl
def spCEnough : FSpec := fun args h nx K => match args with
  | [.agg [.int .i64 e, .dat (.slice t) o, .dat (.slice t') n], .int .i64 k, .bool both] => t = 3 ∧ t' = 3 ∧ 1 ≤ k ∧ k ≤ 6 ∧ K (setV (enoughQ e o.l n.l k both)) h
  | _ => False
set_option maxHeartbeats 4000000 in
set_option maxRecDepth 8000 in
theorem vCEnough {E : Nat → Value} (hE : Errs2 Tryd.prog (some 184) E) : Valid Tryd.prog E (gs GCE) 73 spCEnough := by
  refine valid_go (W := WCEnough) hE (((allValid_bot.add (up (vCValid hE))).add (up (vQOfG hE))).add (up (vQAndG hE))) irCEnough (by decide) (fun args h nx K hsp hok hnm => ?_)
  unfold spCEnough at hsp
  split at hsp
  · rename_i e t o t' n k both
    obtain ⟨rfl, rfl, hk1, hk6, hK⟩ := hsp
    refine ⟨by simp [WCEnough, mkW, mkWE, mkWF], fun Q hQ => ?_⟩
    obtain ⟨⟨_, ho, hn, _⟩, _⟩ := hok
    simp only [SV.ok] at ho hn
    obtain ⟨ho1, ho2, ho3⟩ := Wt.slice ho; generalize o.l = xs at *; subst ho1
    obtain ⟨hn1, hn2, hn3⟩ := Wt.slice hn; generalize n.l = ys at *; subst hn1
    unfold enoughQ at hK
    rcases bool_ft (validC e xs ys).isNil with hv | hv
    · rw [if_pos hv] at hK
      simp (maxSteps := 4000000) only [icCEnough, go_sem, goD_calls, eq_self, implies_true, Int.reduceEq, Int.reduceBEq, Int.reduceBNe, Int.reduceLE, Int.reduceLT, Int.reduceAdd, Int.reduceSub, Int.reduceMul, Int.reduceNeg, Nat.reduceMul, Nat.reduceSub, Nat.reduceLeDiff, Nat.reduceLT, Nat.reduceEqDiff, Nat.reduceAdd, reduceCtorEq, ↓reduceIte, reduceIte, spCValid, hv]
      refine (hQ _ ?_).1
      refine fin_same (p := True) (xs := [qNone]) ?_ trivial (fun π => rfl) ?_ hnm (by ((try simp only []); repeat first | exact HLe.refl _ | refine HLe.cons (by simp only [hget, Nat.reduceEqDiff, Nat.left_eq_add, Nat.add_eq_left, nm_ne2, nm_en2, nm_ne3, nm_en3, nm_ne4, nm_en4, nm_ne5, nm_en5, reduceIte, ↓reduceIte] <;> first | rfl | ((repeat rw [if_neg (by omega)]) <;> rfl)) ?_ | refine HLe.skip hnm (by omega) ?_ | refine HLe.frz hnm (by omega) ?_ | refine HLe.del hnm (by omega) ?_)) hK
      · simp only [rsCEnough, evRs, evR, go_sem, goD_calls, eq_self, implies_true, Int.reduceEq, Int.reduceBEq, Int.reduceBNe, Int.reduceLE, Int.reduceLT, Int.reduceAdd, Int.reduceSub, Int.reduceMul, Int.reduceNeg, Nat.reduceMul, Nat.reduceSub, Nat.reduceLeDiff, Nat.reduceLT, Nat.reduceEqDiff, Nat.reduceAdd, reduceCtorEq, ↓reduceIte, reduceIte, qNone]
      · exact ⟨trivial, trivial, trivial, trivial⟩
    · obtain ⟨b0, b1, s0, s1, e0, e1⟩ := valid_good hv
      obtain ⟨l6, g6⟩ := six_good b0 s0
      rw [if_neg (by rw [hv]; decide)] at hK
      have l6' : (sD xs).length = 6 := by rw [sD_len]; exact l6
      by_cases hy : ys.length = 0
      · rw [if_pos (.inl hy)] at hK
        have c1 : ((ys.length : Int) == 0) = true := beq_iff_eq.2 (by omega)
        simp (maxSteps := 4000000) only [icCEnough, go_sem, goD_calls, eq_self, implies_true, Int.reduceEq, Int.reduceBEq, Int.reduceBNe, Int.reduceLE, Int.reduceLT, Int.reduceAdd, Int.reduceSub, Int.reduceMul, Int.reduceNeg, Nat.reduceMul, Nat.reduceSub, Nat.reduceLeDiff, Nat.reduceLT, Nat.reduceEqDiff, Nat.reduceAdd, reduceCtorEq, ↓reduceIte, reduceIte, spCValid, hv, spQOfG, l6, g6, hk1, hk6, c1, setOf]
        refine (hQ _ ?_).1
        refine fin_same (p := True) (xs := [setOf (QP.of k (sD xs)).enc ((sD xs).map D.int) 1]) ?_ trivial (fun π => rfl) ?_ hnm (by ((try simp only []); repeat first | exact HLe.refl _ | refine HLe.cons (by simp only [hget, Nat.reduceEqDiff, Nat.left_eq_add, Nat.add_eq_left, nm_ne2, nm_en2, nm_ne3, nm_en3, nm_ne4, nm_en4, nm_ne5, nm_en5, reduceIte, ↓reduceIte] <;> first | rfl | ((repeat rw [if_neg (by omega)]) <;> rfl)) ?_ | refine HLe.skip hnm (by omega) ?_ | refine HLe.frz hnm (by omega) ?_ | refine HLe.del hnm (by omega) ?_)) hK
        · simp only [rsCEnough, evRs, evR, go_sem, goD_calls, eq_self, implies_true, Int.reduceEq, Int.reduceBEq, Int.reduceBNe, Int.reduceLE, Int.reduceLT, Int.reduceAdd, Int.reduceSub, Int.reduceMul, Int.reduceNeg, Nat.reduceMul, Nat.reduceSub, Nat.reduceLeDiff, Nat.reduceLT, Nat.reduceEqDiff, Nat.reduceAdd, reduceCtorEq, ↓reduceIte, reduceIte, setOf]
        · exact ⟨trivial, trivial, trivial, trivial⟩
      have c1 : ((ys.length : Int) == 0) = false := beq_eq_false_iff_ne.2 (by omega)
      cases both with
      | false =>
        rw [if_pos (.inr rfl)] at hK
        simp (maxSteps := 4000000) only [icCEnough, go_sem, goD_calls, eq_self, implies_true, Int.reduceEq, Int.reduceBEq, Int.reduceBNe, Int.reduceLE, Int.reduceLT, Int.reduceAdd, Int.reduceSub, Int.reduceMul, Int.reduceNeg, Nat.reduceMul, Nat.reduceSub, Nat.reduceLeDiff, Nat.reduceLT, Nat.reduceEqDiff, Nat.reduceAdd, reduceCtorEq, ↓reduceIte, reduceIte, spCValid, hv, spQOfG, l6, g6, hk1, hk6, c1, setOf]
        refine (hQ _ ?_).1
        refine fin_same (p := True) (xs := [setOf (QP.of k (sD xs)).enc ((sD xs).map D.int) 1]) ?_ trivial (fun π => rfl) ?_ hnm (by ((try simp only []); repeat first | exact HLe.refl _ | refine HLe.cons (by simp only [hget, Nat.reduceEqDiff, Nat.left_eq_add, Nat.add_eq_left, nm_ne2, nm_en2, nm_ne3, nm_en3, nm_ne4, nm_en4, nm_ne5, nm_en5, reduceIte, ↓reduceIte] <;> first | rfl | ((repeat rw [if_neg (by omega)]) <;> rfl)) ?_ | refine HLe.skip hnm (by omega) ?_ | refine HLe.frz hnm (by omega) ?_ | refine HLe.del hnm (by omega) ?_)) hK
        · simp only [rsCEnough, evRs, evR, go_sem, goD_calls, eq_self, implies_true, Int.reduceEq, Int.reduceBEq, Int.reduceBNe, Int.reduceLE, Int.reduceLT, Int.reduceAdd, Int.reduceSub, Int.reduceMul, Int.reduceNeg, Nat.reduceMul, Nat.reduceSub, Nat.reduceLeDiff, Nat.reduceLT, Nat.reduceEqDiff, Nat.reduceAdd, reduceCtorEq, ↓reduceIte, reduceIte, setOf]
        · exact ⟨trivial, trivial, trivial, trivial⟩
      | true =>
        have c1' : (((6 : Nat) : Int) == 0) = false := rfl
        obtain ⟨l6n, g6n⟩ := six_good b1 (s1 (by omega))
        have l6n' : (sD ys).length = 6 := by rw [sD_len]; exact l6n
        rw [if_neg (by simp [hy])] at hK
        simp (maxSteps := 4000000) only [icCEnough, go_sem, goD_calls, eq_self, implies_true, Int.reduceEq, Int.reduceBEq, Int.reduceBNe, Int.reduceLE, Int.reduceLT, Int.reduceAdd, Int.reduceSub, Int.reduceMul, Int.reduceNeg, Nat.reduceMul, Nat.reduceSub, Nat.reduceLeDiff, Nat.reduceLT, Nat.reduceEqDiff, Nat.reduceAdd, reduceCtorEq, ↓reduceIte, reduceIte, spCValid, hv, spQOfG, l6, g6, l6n, g6n, hk1, hk6, c1', setOf, spQAndG, QP.enc_notNil, List.length_map, l6', l6n']
        refine (hQ _ ?_).1
        refine fin_same (p := True) (xs := [setOf (QP.an (QP.of k (sD xs)) (QP.of k (sD ys))).enc (joinL ((sD xs).map D.int) ((sD ys).map D.int)) 2]) ?_ trivial (fun π => rfl) ?_ hnm (by ((try simp only []); repeat first | exact HLe.refl _ | refine HLe.cons (by simp only [hget, Nat.reduceEqDiff, Nat.left_eq_add, Nat.add_eq_left, nm_ne2, nm_en2, nm_ne3, nm_en3, nm_ne4, nm_en4, nm_ne5, nm_en5, reduceIte, ↓reduceIte] <;> first | rfl | ((repeat rw [if_neg (by omega)]) <;> rfl)) ?_ | refine HLe.skip hnm (by omega) ?_ | refine HLe.frz hnm (by omega) ?_ | refine HLe.del hnm (by omega) ?_)) hK
        · simp only [rsCEnough, evRs, evR, go_sem, goD_calls, eq_self, implies_true, Int.reduceEq, Int.reduceBEq, Int.reduceBNe, Int.reduceLE, Int.reduceLT, Int.reduceAdd, Int.reduceSub, Int.reduceMul, Int.reduceNeg, Nat.reduceMul, Nat.reduceSub, Nat.reduceLeDiff, Nat.reduceLT, Nat.reduceEqDiff, Nat.reduceAdd, reduceCtorEq, ↓reduceIte, reduceIte, setOf, QP.enc]
        · exact ⟨trivial, trivial, trivial, trivial⟩
  · exact hsp.elim
end Go.Proofs.YtkojpimkngmckaaDoor
