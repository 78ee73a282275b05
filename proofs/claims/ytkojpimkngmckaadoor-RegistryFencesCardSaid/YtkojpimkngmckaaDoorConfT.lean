/- Chapter 7: RegistryIncs. -/
import Derived.Test.YtkojpimkngmckaaDoorConfR
import Derived.Test.YtkojpimkngmckaaDoorConfS
namespace Go.Proofs.YtkojpimkngmckaaDoor
set_option linter.unusedVariables false
set_option linter.unusedSimpArgs false
open Go Go.Fw

theorem reg_bad : (newBad [cfgN 0 (sixL 0) []] 0).isNil = true := by
  have hv : validC 0 (sixL 0) [] = .nil := sixL_valid (by decide) (by decide) (by decide)
  unfold newBad
  show (if (validC 0 (sixL 0) []).isNil = false then validC 0 (sixL 0) [] else if 0 < ([] : List D).length then .err 0 else if otherB [] (0 : Nat) (memL (cfgN 0 (sixL 0) [])) = true then .err 2 else .nil).isNil = true
  rw [hv]
  rfl
def WRegistryIncs : Opts := mkWF 93 [] [0, 1, 2, 3, 4, 5, 6, 7, 8, 9, 10, 11, 12, 13, 14, 15, 16] [] 184 [0, 1, 2, 3, 4, 5, 6, 7, 8, 9, 10, 11, 12, 13, 14, 15, 16] [] [] [77, 85, 90]
def icRegistryIncs : IC := (.seq (.seq (.ops [(.u (.mov 2 (.c (.bool false))))]) (.tr [0])) (.seq (.seq (.ops [(.u (.call 12 (.c (.clo 15 [])) [] [] true)), (.u (.mov 3 (.s 12)))]) (.tr [3, 0])) (.seq (.seq (.seq (.ops [(.u (.mov 13 (.s 3))), (.u (.una 14 .not (.s 13)))]) (.tr [14, 3, 0])) (.cond (.s 14) (.seq (.seq (.ops [(.u (.mov 2 (.c (.bool false))))]) (.tr [2])) .ret) .skip)) (.seq (.seq (.seq (.ops [(.u (.mov 15 (.s 0))), (.u (.len 16 false (.s 15))), (.u (.cmp 17 .gtr (.s 16) (.c (.int .i64 30)))), (.u (.mov 18 (.s 17))), (.g 18 false (some 19) (.mov 19 (.s 3))), (.g 18 false (some 20) (.una 20 .not (.s 19))), (.u (.pck 21 (.s 18) (.c (.bool true)) (.s 20)))]) (.tr [21, 3, 0])) (.cond (.s 21) (.seq (.seq (.ops [(.u (.mov 22 (.s 3))), (.u (.mov 2 (.s 22)))]) (.tr [2])) .ret) .skip)) (.seq (.seq (.ops [(.u (.call 24 (.c (.clo 16 [])) [(.c (.int .i64 0))] [none] true)), (.u (.bsl 25 25 (.strct [(.int .i64), (.slice 3), (.slice 3)]) [(.s 24)])), (.u (.call 26 (.c (.clo 50 [])) [(.s 25)] [(some 25)] true)), (.u (.mov 23 (.s 26))), (.u (.ext 27 0 (.s 23))), (.u (.ext 28 1 (.s 23))), (.u (.mov 4 (.s 27))), (.u (.mov 5 (.s 28)))]) (.tr [5, 0, 4])) (.seq (.seq (.seq (.ops [(.u (.mov 29 (.s 4))), (.u (.eqb 30 false 1 (.s 29))), (.u (.mov 31 (.s 30))), (.g 31 false (some 32) (.mov 32 (.s 5))), (.g 31 false (some 33) (.eqb 33 true 0 (.s 32))), (.u (.pck 34 (.s 31) (.c (.bool true)) (.s 33)))]) (.tr [34, 0, 4])) (.cond (.s 34) (.seq (.seq (.ops [(.u (.mov 2 (.c (.bool false))))]) (.tr [2])) .ret) .skip)) (.seq (.seq (.ops [(.u (.mk 35 3 (.int .i64) 8 (.int 0) (.c (.int .i64 64)) (.c (.int .i64 64)))), (.u (.mov 6 (.s 35)))]) (.tr [0, 6, 4])) (.seq (.seq (.seq (.ops [(.u (.mov 7 (.c (.int .i64 0))))]) (.tr [0, 6, 4, 7])) (.block 0 (.loop (.seq (.seq (.seq (.ops [(.u (.mov 36 (.s 7))), (.u (.mov 37 (.s 0))), (.u (.len 38 false (.s 37))), (.u (.cmp 39 .lss (.s 36) (.s 38)))]) (.tr [39, 7, 0, 6, 4])) (.cond (.s 39) .skip (.exit 0))) (.seq (.block 1 (.seq (.seq (.ops [(.u (.mov 42 (.s 0))), (.u (.mov 43 (.s 7))), (.u (.iad 44 3 (.int .i64) (.s 42) (.s 43))), (.u (.ld 45 (.int .i64) (.s 44))), (.u (.call 46 (.c (.clo 25 [])) [(.s 45), (.c (.int .i64 64))] [none, none] true)), (.u (.mov 8 (.s 46)))]) (.tr [8, 7, 0, 6, 4])) (.seq (.seq (.ops [(.u (.mov 47 (.s 0))), (.u (.mov 48 (.s 7))), (.u (.iad 49 3 (.int .i64) (.s 47) (.s 48))), (.u (.ld 50 (.int .i64) (.s 49))), (.u (.bin 51 .quo .i64 (.s 50) (.c (.int .i64 64)))), (.u (.call 52 (.c (.clo 25 [])) [(.s 51), (.c (.int .i64 6))] [none, none] true)), (.u (.mov 9 (.s 52)))]) (.tr [9, 8, 7, 0, 6, 4])) (.seq (.seq (.ops [(.u (.mov 53 (.s 4))), (.u (.mov 54 (.s 8))), (.u (.mov 55 (.s 9))), (.u (.call 56 (.c (.clo 51 [])) [(.s 53), (.s 54), (.s 55)] [none, none, none] true)), (.u (.mov 10 (.s 56)))]) (.tr [10, 9, 8, 7, 0, 6, 4])) (.seq (.seq (.ops [(.u (.mov 11 (.c (.int .i64 0))))]) (.tr [11, 10, 9, 8, 7, 0, 6, 4])) (.seq (.seq (.seq (.ops [(.u (.mov 57 (.s 9))), (.u (.cmp 58 .lss (.s 57) (.c (.int .i64 1))))]) (.tr [58, 11, 10, 9, 8, 7, 0, 6, 4])) (.cond (.s 58) (.seq (.ops [(.u (.mov 11 (.c (.int .i64 105))))]) (.tr [11, 10, 9, 8, 7, 0, 6, 4])) (.seq (.seq (.ops [(.u (.mov 59 (.s 9))), (.u (.mov 60 (.s 6))), (.u (.mov 61 (.s 8))), (.u (.iad 62 3 (.int .i64) (.s 60) (.s 61))), (.u (.ld 63 (.int .i64) (.s 62))), (.u (.cmp 64 .leq (.s 59) (.s 63)))]) (.tr [64, 11, 10, 9, 8, 7, 0, 6, 4])) (.cond (.s 64) (.seq (.ops [(.u (.mov 11 (.c (.int .i64 111))))]) (.tr [11, 10, 9, 8, 7, 0, 6, 4])) .skip)))) (.seq (.seq (.seq (.ops [(.u (.mov 65 (.s 10))), (.u (.mov 66 (.s 11))), (.u (.call 67 (.c (.clo 35 [])) [(.s 65), (.s 66)] [none, none] true)), (.u (.una 68 .not (.s 67)))]) (.tr [68, 10, 9, 8, 7, 0, 6, 4])) (.cond (.s 68) (.seq (.seq (.ops [(.u (.mov 2 (.c (.bool false))))]) (.tr [2])) .ret) .skip)) (.seq (.seq (.seq (.ops [(.u (.mov 69 (.s 10))), (.u (.eqb 70 false 0 (.s 69)))]) (.tr [70, 9, 8, 7, 0, 6, 4])) (.cond (.s 70) (.seq (.ops [(.u (.mov 71 (.s 6))), (.u (.mov 72 (.s 8))), (.u (.mov 73 (.s 9))), (.u (.iad 74 3 (.int .i64) (.s 71) (.s 72))), (.u (.st (.int .i64) (.s 74) (.s 73)))]) (.tr [8, 7, 0, 6, 4])) .skip)) (.seq (.seq (.rgn [(.s 4), (.s 8), (.s 4), (.s 4)] [(false, (.u (.mov 75 (.s 4)))), (false, (.u (.mov 76 (.s 8)))), (false, (.u (.mov 78 (.s 6)))), (false, (.u (.mov 79 (.s 8)))), (false, (.u (.iad 80 3 (.int .i64) (.s 78) (.s 79)))), (false, (.u (.ld 81 (.int .i64) (.s 80)))), (true, (.u (.call 77 (.c (.clo 52 [])) [(.s 75), (.s 76)] [none, none] true))), (false, (.u (.cmp 82 .neq (.s 77) (.s 81)))), (false, (.u (.mov 83 (.s 82)))), (false, (.g 83 false (some 84) (.mov 84 (.s 4)))), (true, (.g 83 false (some 85) (.call 85 (.c (.clo 52 [])) [(.s 84), (.c (.int .i64 (-1)))] [none, none] true))), (false, (.g 83 false (some 86) (.cmp 86 .neq (.s 85) (.c (.int .i64 0))))), (false, (.u (.pck 87 (.s 83) (.c (.bool true)) (.s 86)))), (false, (.u (.mov 88 (.s 87)))), (false, (.g 88 false (some 89) (.mov 89 (.s 4)))), (true, (.g 88 false (some 90) (.call 90 (.c (.clo 52 [])) [(.s 89), (.c (.int .i64 64))] [none, none] true))), (false, (.g 88 false (some 91) (.cmp 91 .neq (.s 90) (.c (.int .i64 0))))), (false, (.u (.pck 92 (.s 88) (.c (.bool true)) (.s 91))))]) (.tr [92, 7, 0, 6, 4])) (.cond (.s 92) (.seq (.seq (.ops [(.u (.mov 2 (.c (.bool false))))]) (.tr [2])) .ret) .skip)))))))))) (.seq (.ops [(.u (.mov 40 (.s 7))), (.u (.bin 41 .add .i64 (.s 40) (.c (.int .i64 1)))), (.u (.mov 7 (.s 41)))]) (.tr [0, 6, 4, 7]))))))) (.seq (.seq (.ops [(.u (.mov 2 (.c (.bool true))))]) (.tr [2])) .ret)))))))))
def rsRegistryIncs : List RV := [(.t 2)]
theorem irRegistryIncs : fnIR Tryd.prog WRegistryIncs 10 = some (icRegistryIncs, rsRegistryIncs) := by kernel_rfl
def spRegistryIncs : FSpec := fun args h nx K => match args with
  | [.dat (.slice 3) d] => K (.bool true) h
  | _ => False
set_option maxHeartbeats 4000000 in
set_option maxRecDepth 8000 in
theorem vRegistryIncs {E : Nat → Value} (hE : Errs2 Tryd.prog (some 184) E) : Valid Tryd.prog E G0 10 spRegistryIncs := by
  refine valid_go (W := WRegistryIncs) hE (((((((allValid_bot.add (up (vL7first hE))).add (up (vL7six hE))).add (up (vNumber hE))).add (up (vCNew hE))).add (up (vRBorn hE))).add (up (vRInc hE))).add (up (vIs hE))) irRegistryIncs (by decide) (fun args h nx K hsp hok hnm => ?_)
  unfold spRegistryIncs at hsp
  split at hsp
  · rename_i d
    have hK := hsp
    refine ⟨by simp [WRegistryIncs, mkW, mkWE, mkWF], fun Q hQ => ?_⟩
    obtain ⟨hd, _⟩ := hok
    simp only [SV.ok] at hd
    obtain ⟨hd1, hd2, hd3⟩ := Wt.slice hd; generalize d.l = l at *; subst hd1
    have g0 : (0 : Int) ≤ 0 := by decide
    have g1 : (0 : Int) ≤ 1000000 := by decide
    have ret : ∀ h' nx', HLe h h' → Q Ex.ret ⟨[(2, .bool true)], h', nx'⟩ := fun h' nx' hh => by
      refine (hQ _ ?_).1
      exact fin_t (.bool true) rfl rfl hnm hh hK
    by_cases h30 : 30 < l.length
    · have c1 : decide (30 < (l.length : Int)) = true := decide_eq_true (by omega)
      simp (maxSteps := 4000000) only [icRegistryIncs, walkSet, eq_self, implies_true, evMdl, evMupD, evMup, evLkp, Int.reduceEq, Int.reduceBEq, Int.reduceBNe, Int.reduceLE, Int.reduceLT, Int.reduceAdd, Int.reduceSub, Int.reduceMul, Int.reduceNeg, frpL, preF, preP, prePt, prePd, frzP, evNlq, ev, frOf, oget, ogets, argSs, argS, evMm, frzL, evBin, evWrp, evShf, evCmp, evUna, evNil, evBeq, evLd, evSt, evFad, evIad, evAad, evLen, evSln, evEls, evApp, evParts, evSlc, evNlc, evMif, evPck, evFld, evBld, evTas, evIfq, evSeq, evSl0, evBxf, evAgl, evAgq, evBsf, hget, hset, hdel, cellAt, arrAt, setCellAt, setArrAt, takeC, lenC, svCells, SV.okc, SV.one, ldSV, Fw.isAgg, Nat.reduceMul, Nat.reduceSub, Nat.reduceLeDiff, Nat.reduceLT, explode, explodeL, toD, toDL, toD1, Ty.size, Ty.sizeL, frz1, Fr.sub, Heap.sub, Tok.sub, SV.sub, SV.subL, Nat.reduceEqDiff, Nat.reduceAdd, reduceCtorEq, ↓reduceIte, reduceIte, spL7first, spL7six, g0, g1, c1, cfgA]
      exact ret _ _ (by ((try simp only []); repeat first | exact HLe.refl _ | refine HLe.cons (by simp only [hget, Nat.reduceEqDiff, Nat.left_eq_add, Nat.add_eq_left, nm_ne2, nm_en2, nm_ne3, nm_en3, nm_ne4, nm_en4, nm_ne5, nm_en5, reduceIte, ↓reduceIte] <;> first | rfl | ((repeat rw [if_neg (by omega)]) <;> rfl)) ?_ | refine HLe.skip hnm (by omega) ?_ | refine HLe.frz hnm (by omega) ?_ | refine HLe.del hnm (by omega) ?_))
    have c1 : decide (30 < (l.length : Int)) = false := decide_eq_false (by omega)
    simp (maxSteps := 4000000) only [icRegistryIncs, walkSet, eq_self, implies_true, evMdl, evMupD, evMup, evLkp, Int.reduceEq, Int.reduceBEq, Int.reduceBNe, Int.reduceLE, Int.reduceLT, Int.reduceAdd, Int.reduceSub, Int.reduceMul, Int.reduceNeg, frpL, preF, preP, prePt, prePd, frzP, evNlq, ev, frOf, oget, ogets, argSs, argS, evMm, frzL, evBin, evWrp, evShf, evCmp, evUna, evNil, evBeq, evLd, evSt, evFad, evIad, evAad, evLen, evSln, evEls, evApp, evParts, evSlc, evNlc, evMif, evPck, evFld, evBld, evTas, evIfq, evSeq, evSl0, evBxf, evAgl, evAgq, evBsf, hget, hset, hdel, cellAt, arrAt, setCellAt, setArrAt, takeC, lenC, svCells, SV.okc, SV.one, ldSV, Fw.isAgg, Nat.reduceMul, Nat.reduceSub, Nat.reduceLeDiff, Nat.reduceLT, explode, explodeL, toD, toDL, toD1, Ty.size, Ty.sizeL, frz1, Fr.sub, Heap.sub, Tok.sub, SV.sub, SV.subL, Nat.reduceEqDiff, Nat.reduceAdd, reduceCtorEq, ↓reduceIte, reduceIte, spL7first, spL7six, g0, g1, c1, cfgA, spCNew]
    have hc0 : cfgN 0 (sixL 0) [] = .node [.int 0, .list (sixL 0), .list []] := rfl
    refine ⟨fun hb => by simp at hb, fun _ => ⟨fun i hi _ hb => ?_, fun _ => ⟨by decide, ?_⟩⟩⟩
    · obtain rfl : i = 0 := by omega
      have := reg_bad
      rw [hc0, hb] at this
      cases this
    refine go_loop (α := { x : Nat × List D // x.1 ≤ l.length ∧ x.2.length = 64 }) (I := fun x => { f := [(7, .int .i64 x.1.1), (0, .dat (.slice 3) (.list l)), (6, .vec (nx + 2)), (4, .ptr nx 0)], h := [(nx, .cells [.vec (nx + 1), .int .i64 0, .arrc (.int .i64) x.1.2]), (nx + 1, .arr 25 cfgT [cfgN 0 (sixL 0) []]), (nx + 2, .arr 3 (.int .i64) x.1.2)] ++ h, nx := nx + 3 }) (μ := fun x => l.length - x.1.1) _ _ _ ⟨(0, zero64), by simp, by simp [zero64]⟩ ?_ (fun x B hB => ?_)
    · refine leq_news [(nx, nx + 64 + 64 + 1), (nx + 1, nx + 64 + 64 + 1 + 1), (nx + 2, nx + 64 + 64 + 1 + 64)] [(nx, .cells [.vec (nx + 1), .int .i64 0, .arrc (.int .i64) zero64]), (nx + 1, .arr 25 cfgT [cfgN 0 (sixL 0) []]), (nx + 2, .arr 3 (.int .i64) zero64)] (.refl _) (by simp) (by simp <;> omega) (by simp <;> omega) rfl ?_ ?_ ?_ ?_ hnm ?_ (by omega)
      · simp [frIn_cons, frIn_nil, fget_cons, fget_nil, SV.ren, SV.renL, rens]
      · (simp only [frLt_cons, frLt_nil, and_true, SV.lt, SV.ltL, true_and] <;> omega)
      · (simp only [List.mem_cons, List.not_mem_nil, or_false, forall_eq_or_imp, forall_eq]; simp [hget, rens, Tok.ren, SV.ren, SV.renL])
        exact ⟨rfl, rfl⟩
      · (simp only [List.mem_cons, List.not_mem_nil, or_false, forall_eq_or_imp, forall_eq, Tok.lt, SV.lt, SV.ltL, and_true, true_and] <;> omega)
      · ((try simp only []); repeat first | exact HLe.refl _ | refine HLe.cons (by simp only [hget, Nat.reduceEqDiff, Nat.left_eq_add, Nat.add_eq_left, nm_ne2, nm_en2, nm_ne3, nm_en3, nm_ne4, nm_en4, nm_ne5, nm_en5, reduceIte, ↓reduceIte] <;> first | rfl | ((repeat rw [if_neg (by omega)]) <;> rfl)) ?_ | refine HLe.skip hnm (by omega) ?_ | refine HLe.frz hnm (by omega) ?_ | refine HLe.del hnm (by omega) ?_)
    · obtain ⟨⟨i, H⟩, hi, hH⟩ := x
      simp only at hi hH hB
      by_cases hil : i < l.length
      · have c2 : decide ((i : Int) < (l.length : Int)) = true := decide_eq_true (by omega)
        have g64 : (0 : Int) < 64 := by decide
        have g6 : (0 : Int) < 6 := by decide
        obtain ⟨z, hz⟩ : ∃ z, (l.getD i .nil).i = z := ⟨_, rfl⟩
        have hzr : -9223372036854775808 ≤ z ∧ z ≤ 9223372036854775807 := by
          have hm : l.getD i .nil ∈ l := by rw [List.getD_eq_getElem?_getD, List.getElem?_eq_getElem hil]; exact List.getElem_mem hil
          have h8 : Wt Tryd.prog E (.int .i64) (l.getD i .nil) := hd3 _ hm
          have h9 := (Wt.int h8).2
          rw [hz, min_i64, max_i64] at h9
          exact h9
        have z64 := tdiv_range hzr (b := 64) (by decide)
        obtain ⟨n, hn⟩ : ∃ n, z % 64 = n := ⟨_, rfl⟩
        obtain ⟨inc, hinc⟩ : ∃ inc, z.tdiv 64 % 6 = inc := ⟨_, rfl⟩
        have hnr : 0 ≤ n ∧ n < 64 := by rw [← hn]; exact ⟨Int.emod_nonneg _ (by decide), Int.emod_lt_of_pos _ (by decide)⟩
        have hir : 0 ≤ inc ∧ inc < 6 := by rw [← hinc]; exact ⟨Int.emod_nonneg _ (by decide), Int.emod_lt_of_pos _ (by decide)⟩
        have hnode : nodeB n = true := by unfold nodeB; simp; omega
        have next : ∀ H' S', H'.length = 64 → Leq nx S' { f := [(7, .int .i64 ((i + 1 : Nat) : Int)), (0, .dat (.slice 3) (.list l)), (6, .vec (nx + 2)), (4, .ptr nx 0)], h := [(nx, .cells [.vec (nx + 1), .int .i64 0, .arrc (.int .i64) H']), (nx + 1, .arr 25 cfgT [cfgN 0 (sixL 0) []]), (nx + 2, .arr 3 (.int .i64) H')] ++ h, nx := nx + 3 } → B S' := fun H' S' k1 hl =>
          hB _ ⟨(i + 1, H'), by simp only []; omega, k1⟩ (by simp only []; omega) hl
        have im1 : incAt H (-1) = 0 := rfl
        have im64 : incAt H 64 = 0 := rfl
        have iat : incAt H n = (H.getD n.toNat .nil).i := by unfold incAt; rw [hnode]; rfl
        by_cases h1 : inc < 1
        · have hb : bornE H n inc = .err 3 := by unfold bornE; rw [if_pos (.inr (.inl h1))]
          have d1 : decide (inc < 1) = true := decide_eq_true h1
          simp (maxSteps := 4000000) only [walkSet, eq_self, implies_true, evMdl, evMupD, evMup, evLkp, Int.reduceEq, Int.reduceBEq, Int.reduceBNe, Int.reduceLE, Int.reduceLT, Int.reduceAdd, Int.reduceSub, Int.reduceMul, Int.reduceNeg, frpL, preF, preP, prePt, prePd, frzP, evNlq, ev, frOf, oget, ogets, argSs, argS, evMm, frzL, evBin, evWrp, evShf, evCmp, evUna, evNil, evBeq, evLd, evSt, evFad, evIad, evAad, evLen, evSln, evEls, evApp, evParts, evSlc, evNlc, evMif, evPck, evFld, evBld, evTas, evIfq, evSeq, evSl0, evBxf, evAgl, evAgq, evBsf, hget, hset, hdel, cellAt, arrAt, setCellAt, setArrAt, takeC, lenC, svCells, SV.okc, SV.one, ldSV, Fw.isAgg, Nat.reduceMul, Nat.reduceSub, Nat.reduceLeDiff, Nat.reduceLT, explode, explodeL, toD, toDL, toD1, Ty.size, Ty.sizeL, frz1, Fr.sub, Heap.sub, Tok.sub, SV.sub, SV.subL, Nat.reduceEqDiff, Nat.reduceAdd, reduceCtorEq, ↓reduceIte, reduceIte, c2, spNumber, g64, g6, hz, hn, hinc, spRBorn, gOk_c, gI_c, gM_c, gE_c, hH, hb, spIs, fe_End, fa_End, fe_Sum, fa_Sum, fe_Shape, fa_Shape, fe_Many, fa_Many, fe_Range, fa_Range, fe_Kind, fa_Kind, fe_None, fa_None, fe_There, fa_There, fe_Full, fa_Full, fe_Crash, fa_Crash, fe_State, fa_State, fe_Conflict, fa_Conflict, fe_Waits, fa_Waits, fe_Limit, fa_Limit, fe_Fenced, fa_Fenced, fe_Word, fa_Word, fe_Number, fa_Number, fe_nil, d1, spRInc, im1, im64, iat, Int.toNat_natCast, min_i64, max_i64]
          repeat refine ⟨by omega, ?_⟩
          refine next H _ hH ?_
          refine leq_id ?_ (by (simp only [frLt_cons, frLt_nil, and_true, SV.lt, SV.ltL, true_and] <;> omega)) (by ((try simp only []); repeat first | exact HLe.refl _ | refine HLe.cons (by simp only [hget, Nat.reduceEqDiff, Nat.left_eq_add, Nat.add_eq_left, nm_ne2, nm_en2, nm_ne3, nm_en3, nm_ne4, nm_en4, nm_ne5, nm_en5, reduceIte, ↓reduceIte] <;> first | rfl | ((repeat rw [if_neg (by omega)]) <;> rfl)) ?_ | refine HLe.skip hnm (by omega) ?_ | refine HLe.frz hnm (by omega) ?_ | refine HLe.del hnm (by omega) ?_)) (by (repeat first | exact HLt.mono hnm (by simp only [] <;> omega) | refine HLt.cons (by simp only [] <;> omega) (by simp only [Tok.lt, SV.ltL, SV.lt, and_true, true_and] <;> omega) ?_)) (by simp only [] <;> omega)
          simp only [frEq_cons, frEq_nil, frIn_cons, frIn_nil, and_true, fget_cons, Nat.reduceEqDiff, reduceIte, ↓reduceIte, true_and, SV.ren, SV.renL, ren1]
          simp
        · have d1 : decide (inc < 1) = false := decide_eq_false h1
          by_cases h2 : inc ≤ (H.getD n.toNat .nil).i
          · have hb : bornE H n inc = .err 0 := by unfold bornE; rw [if_neg (by rw [hnode]; simp; omega), if_pos h2]
            have d2 : decide (inc ≤ (H.getD n.toNat .nil).i) = true := decide_eq_true h2
            simp (maxSteps := 4000000) only [walkSet, eq_self, implies_true, evMdl, evMupD, evMup, evLkp, Int.reduceEq, Int.reduceBEq, Int.reduceBNe, Int.reduceLE, Int.reduceLT, Int.reduceAdd, Int.reduceSub, Int.reduceMul, Int.reduceNeg, frpL, preF, preP, prePt, prePd, frzP, evNlq, ev, frOf, oget, ogets, argSs, argS, evMm, frzL, evBin, evWrp, evShf, evCmp, evUna, evNil, evBeq, evLd, evSt, evFad, evIad, evAad, evLen, evSln, evEls, evApp, evParts, evSlc, evNlc, evMif, evPck, evFld, evBld, evTas, evIfq, evSeq, evSl0, evBxf, evAgl, evAgq, evBsf, hget, hset, hdel, cellAt, arrAt, setCellAt, setArrAt, takeC, lenC, svCells, SV.okc, SV.one, ldSV, Fw.isAgg, Nat.reduceMul, Nat.reduceSub, Nat.reduceLeDiff, Nat.reduceLT, explode, explodeL, toD, toDL, toD1, Ty.size, Ty.sizeL, frz1, Fr.sub, Heap.sub, Tok.sub, SV.sub, SV.subL, Nat.reduceEqDiff, Nat.reduceAdd, reduceCtorEq, ↓reduceIte, reduceIte, c2, spNumber, g64, g6, hz, hn, hinc, spRBorn, gOk_c, gI_c, gM_c, gE_c, hH, hb, spIs, fe_End, fa_End, fe_Sum, fa_Sum, fe_Shape, fa_Shape, fe_Many, fa_Many, fe_Range, fa_Range, fe_Kind, fa_Kind, fe_None, fa_None, fe_There, fa_There, fe_Full, fa_Full, fe_Crash, fa_Crash, fe_State, fa_State, fe_Conflict, fa_Conflict, fe_Waits, fa_Waits, fe_Limit, fa_Limit, fe_Fenced, fa_Fenced, fe_Word, fa_Word, fe_Number, fa_Number, fe_nil, d1, d2, spRInc, im1, im64, iat, Int.toNat_natCast, min_i64, max_i64]
            repeat refine ⟨by omega, ?_⟩
            refine next H _ hH ?_
            refine leq_id ?_ (by (simp only [frLt_cons, frLt_nil, and_true, SV.lt, SV.ltL, true_and] <;> omega)) (by ((try simp only []); repeat first | exact HLe.refl _ | refine HLe.cons (by simp only [hget, Nat.reduceEqDiff, Nat.left_eq_add, Nat.add_eq_left, nm_ne2, nm_en2, nm_ne3, nm_en3, nm_ne4, nm_en4, nm_ne5, nm_en5, reduceIte, ↓reduceIte] <;> first | rfl | ((repeat rw [if_neg (by omega)]) <;> rfl)) ?_ | refine HLe.skip hnm (by omega) ?_ | refine HLe.frz hnm (by omega) ?_ | refine HLe.del hnm (by omega) ?_)) (by (repeat first | exact HLt.mono hnm (by simp only [] <;> omega) | refine HLt.cons (by simp only [] <;> omega) (by simp only [Tok.lt, SV.ltL, SV.lt, and_true, true_and] <;> omega) ?_)) (by simp only [] <;> omega)
            simp only [frEq_cons, frEq_nil, frIn_cons, frIn_nil, and_true, fget_cons, Nat.reduceEqDiff, reduceIte, ↓reduceIte, true_and, SV.ren, SV.renL, ren1]
            simp
          · have hb : bornE H n inc = .nil := by unfold bornE; rw [if_neg (by rw [hnode]; simp; omega), if_neg h2]
            have d2 : decide (inc ≤ (H.getD n.toNat .nil).i) = false := decide_eq_false h2
            have hH' : (H.set n.toNat (.int inc)).length = 64 := by rw [List.length_set]; exact hH
            have e1 : (H.set n.toNat (.int inc)).getD n.toNat .nil = .int inc := by
              rw [List.getD_eq_getElem?_getD, List.getElem?_set_self (by omega)]; rfl
            have iat' : incAt (H.set n.toNat (.int inc)) n = inc := by unfold incAt; rw [hnode, if_pos rfl, e1]; rfl
            have im1' : incAt (H.set n.toNat (.int inc)) (-1) = 0 := rfl
            have im64' : incAt (H.set n.toNat (.int inc)) 64 = 0 := rfl
            simp (maxSteps := 4000000) only [walkSet, eq_self, implies_true, evMdl, evMupD, evMup, evLkp, Int.reduceEq, Int.reduceBEq, Int.reduceBNe, Int.reduceLE, Int.reduceLT, Int.reduceAdd, Int.reduceSub, Int.reduceMul, Int.reduceNeg, frpL, preF, preP, prePt, prePd, frzP, evNlq, ev, frOf, oget, ogets, argSs, argS, evMm, frzL, evBin, evWrp, evShf, evCmp, evUna, evNil, evBeq, evLd, evSt, evFad, evIad, evAad, evLen, evSln, evEls, evApp, evParts, evSlc, evNlc, evMif, evPck, evFld, evBld, evTas, evIfq, evSeq, evSl0, evBxf, evAgl, evAgq, evBsf, hget, hset, hdel, cellAt, arrAt, setCellAt, setArrAt, takeC, lenC, svCells, SV.okc, SV.one, ldSV, Fw.isAgg, Nat.reduceMul, Nat.reduceSub, Nat.reduceLeDiff, Nat.reduceLT, explode, explodeL, toD, toDL, toD1, Ty.size, Ty.sizeL, frz1, Fr.sub, Heap.sub, Tok.sub, SV.sub, SV.subL, Nat.reduceEqDiff, Nat.reduceAdd, reduceCtorEq, ↓reduceIte, reduceIte, c2, spNumber, g64, g6, hz, hn, hinc, spRBorn, gOk_c, gI_c, gM_c, gE_c, hH, hH', hb, spIs, fe_End, fa_End, fe_Sum, fa_Sum, fe_Shape, fa_Shape, fe_Many, fa_Many, fe_Range, fa_Range, fe_Kind, fa_Kind, fe_None, fa_None, fe_There, fa_There, fe_Full, fa_Full, fe_Crash, fa_Crash, fe_State, fa_State, fe_Conflict, fa_Conflict, fe_Waits, fa_Waits, fe_Limit, fa_Limit, fe_Fenced, fa_Fenced, fe_Word, fa_Word, fe_Number, fa_Number, fe_nil, d1, d2, spRInc, im1', im64', iat', e1, Int.toNat_natCast, min_i64, max_i64]
            repeat refine ⟨by omega, ?_⟩
            refine next _ _ hH' ?_
            refine leq_id ?_ (by (simp only [frLt_cons, frLt_nil, and_true, SV.lt, SV.ltL, true_and] <;> omega)) (by ((try simp only []); repeat first | exact HLe.refl _ | refine HLe.cons (by simp only [hget, Nat.reduceEqDiff, Nat.left_eq_add, Nat.add_eq_left, nm_ne2, nm_en2, nm_ne3, nm_en3, nm_ne4, nm_en4, nm_ne5, nm_en5, reduceIte, ↓reduceIte] <;> first | rfl | ((repeat rw [if_neg (by omega)]) <;> rfl)) ?_ | refine HLe.skip hnm (by omega) ?_ | refine HLe.frz hnm (by omega) ?_ | refine HLe.del hnm (by omega) ?_)) (by (repeat first | exact HLt.mono hnm (by simp only [] <;> omega) | refine HLt.cons (by simp only [] <;> omega) (by simp only [Tok.lt, SV.ltL, SV.lt, and_true, true_and] <;> omega) ?_)) (by simp only [] <;> omega)
            simp only [frEq_cons, frEq_nil, frIn_cons, frIn_nil, and_true, fget_cons, Nat.reduceEqDiff, reduceIte, ↓reduceIte, true_and, SV.ren, SV.renL, ren1]
            simp
      · obtain rfl : i = l.length := by omega
        have c2 : decide ((l.length : Int) < (l.length : Int)) = false := decide_eq_false (by omega)
        simp (maxSteps := 4000000) only [walkSet, eq_self, implies_true, evMdl, evMupD, evMup, evLkp, Int.reduceEq, Int.reduceBEq, Int.reduceBNe, Int.reduceLE, Int.reduceLT, Int.reduceAdd, Int.reduceSub, Int.reduceMul, Int.reduceNeg, frpL, preF, preP, prePt, prePd, frzP, evNlq, ev, frOf, oget, ogets, argSs, argS, evMm, frzL, evBin, evWrp, evShf, evCmp, evUna, evNil, evBeq, evLd, evSt, evFad, evIad, evAad, evLen, evSln, evEls, evApp, evParts, evSlc, evNlc, evMif, evPck, evFld, evBld, evTas, evIfq, evSeq, evSl0, evBxf, evAgl, evAgq, evBsf, hget, hset, hdel, cellAt, arrAt, setCellAt, setArrAt, takeC, lenC, svCells, SV.okc, SV.one, ldSV, Fw.isAgg, Nat.reduceMul, Nat.reduceSub, Nat.reduceLeDiff, Nat.reduceLT, explode, explodeL, toD, toDL, toD1, Ty.size, Ty.sizeL, frz1, Fr.sub, Heap.sub, Tok.sub, SV.sub, SV.subL, Nat.reduceEqDiff, Nat.reduceAdd, reduceCtorEq, ↓reduceIte, reduceIte, c2]
        exact ret _ _ (by ((try simp only []); repeat first | exact HLe.refl _ | refine HLe.cons (by simp only [hget, Nat.reduceEqDiff, Nat.left_eq_add, Nat.add_eq_left, nm_ne2, nm_en2, nm_ne3, nm_en3, nm_ne4, nm_en4, nm_ne5, nm_en5, reduceIte, ↓reduceIte] <;> first | rfl | ((repeat rw [if_neg (by omega)]) <;> rfl)) ?_ | refine HLe.skip hnm (by omega) ?_ | refine HLe.frz hnm (by omega) ?_ | refine HLe.del hnm (by omega) ?_))
  · exact hsp.elim
end Go.Proofs.YtkojpimkngmckaaDoor
