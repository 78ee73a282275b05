/- Chapter 7: RegistryFences. -/
import Derived.Test.YtkojpimkngmckaaDoorConfU
import Derived.Test.YtkojpimkngmckaaDoorConfT
namespace Go.Proofs.YtkojpimkngmckaaDoor
set_option linter.unusedVariables false
set_option linter.unusedSimpArgs false
open Go Go.Fw

def lowOk (o n : List D) (i : Nat) : Prop := ∀ v, v ∈ o.map D.i ∨ v ∈ n.map D.i → v < 10 + i
theorem other_one (c : D) (l : List D) : otherB [c] 0 l = false := by
  unfold otherB
  simp
theorem setE_one {c e ep : Int} {o n o' n' : List D} (hv : validC (e + 1) o' n' = .nil) : setE c [cfgN e o n] ep 0 (e + 1) o' n' = if ep < c then .err 6 else .nil := by
  have h1 : ([cfgN e o n].getD (0 : Int).toNat .nil).fld 0 = .int e := rfl
  unfold setE
  rw [if_neg (by simp), if_neg (by rw [hv]; decide), h1, other_one]
  simp [D.i]
theorem sameC_refl (e : Int) (o n : List D) : sameC e o n e o n = true := by
  unfold sameC sameD
  simp
theorem regs_one {e : Int} {o n : List D} (he : 0 ≤ e ∧ e ≤ 1000) (ho : o.length ≤ 1000) (hn : n.length ≤ 1000) : regsOk [cfgN e o n] := by
  refine ⟨by simp, fun x hx => ?_⟩
  obtain rfl := List.mem_singleton.1 hx
  exact ⟨ho, hn, he.1, show e ≤ 1073741824 by omega⟩
theorem getR_one (e : Int) (o n : List D) : getR [cfgN e o n] 0 = .tup [cfgA e o n, .bool true] := by
  unfold getR
  rw [if_pos (by simp)]
  rfl
def WRegistryFences : Opts := mkWE 149 [] [0, 1, 2, 3, 4, 5, 6, 7, 8, 9, 10, 11, 12, 13, 14, 15, 16] [] 184 [0, 1, 2, 3, 4, 5, 6, 7, 8, 9, 10, 11, 12, 13, 14, 15, 16] []
def icRegistryFences : IC := (.seq (.seq (.ops [(.u (.mov 2 (.c (.bool false))))]) (.tr [0])) (.seq (.seq (.ops [(.u (.call 18 (.c (.clo 15 [])) [] [] true)), (.u (.mov 3 (.s 18)))]) (.tr [3, 0])) (.seq (.seq (.seq (.ops [(.u (.mov 19 (.s 3))), (.u (.una 20 .not (.s 19)))]) (.tr [20, 3, 0])) (.cond (.s 20) (.seq (.seq (.ops [(.u (.mov 2 (.c (.bool false))))]) (.tr [2])) .ret) .skip)) (.seq (.seq (.seq (.ops [(.u (.mov 21 (.s 0))), (.u (.len 22 false (.s 21))), (.u (.cmp 23 .gtr (.s 22) (.c (.int .i64 20)))), (.u (.mov 24 (.s 23))), (.g 24 false (some 25) (.mov 25 (.s 3))), (.g 24 false (some 26) (.una 26 .not (.s 25))), (.u (.pck 27 (.s 24) (.c (.bool true)) (.s 26)))]) (.tr [27, 3, 0])) (.cond (.s 27) (.seq (.seq (.ops [(.u (.mov 28 (.s 3))), (.u (.mov 2 (.s 28)))]) (.tr [2])) .ret) .skip)) (.seq (.seq (.ops [(.u (.call 30 (.c (.clo 16 [])) [(.c (.int .i64 0))] [none] true)), (.u (.bsl 31 25 (.strct [(.int .i64), (.slice 3), (.slice 3)]) [(.s 30)])), (.u (.call 32 (.c (.clo 50 [])) [(.s 31)] [(some 25)] true)), (.u (.mov 29 (.s 32))), (.u (.ext 33 0 (.s 29))), (.u (.ext 34 1 (.s 29))), (.u (.mov 4 (.s 33))), (.u (.mov 5 (.s 34)))]) (.tr [5, 0, 4])) (.seq (.seq (.seq (.ops [(.u (.mov 35 (.s 4))), (.u (.eqb 36 false 1 (.s 35))), (.u (.mov 37 (.s 36))), (.g 37 false (some 38) (.mov 38 (.s 5))), (.g 37 false (some 39) (.eqb 39 true 0 (.s 38))), (.u (.pck 40 (.s 37) (.c (.bool true)) (.s 39)))]) (.tr [40, 0, 4])) (.cond (.s 40) (.seq (.seq (.ops [(.u (.mov 2 (.c (.bool false))))]) (.tr [2])) .ret) .skip)) (.seq (.seq (.ops [(.u (.mov 6 (.c (.int .i64 0))))]) (.tr [0, 4, 6])) (.seq (.seq (.seq (.ops [(.u (.mov 7 (.c (.int .i64 0))))]) (.tr [0, 7, 4, 6])) (.block 0 (.loop (.seq (.seq (.seq (.ops [(.u (.mov 41 (.s 7))), (.u (.mov 42 (.s 0))), (.u (.len 43 false (.s 42))), (.u (.cmp 44 .lss (.s 41) (.s 43)))]) (.tr [44, 7, 0, 4, 6])) (.cond (.s 44) .skip (.exit 0))) (.seq (.block 1 (.seq (.seq (.ops [(.u (.mov 47 (.s 0))), (.u (.mov 48 (.s 7))), (.u (.iad 49 3 (.int .i64) (.s 47) (.s 48))), (.u (.ld 50 (.int .i64) (.s 49))), (.u (.call 51 (.c (.clo 25 [])) [(.s 50), (.c (.int .i64 30))] [none, none] true)), (.u (.mov 8 (.s 51)))]) (.tr [6, 8, 7, 0, 4])) (.seq (.seq (.ops [(.u (.mov 52 (.s 4))), (.u (.mov 53 (.s 8))), (.u (.call 54 (.c (.clo 55 [])) [(.s 52), (.s 53)] [none, none] true)), (.u (.mov 9 (.s 54)))]) (.tr [9, 6, 8, 7, 0, 4])) (.seq (.seq (.seq (.ops [(.u (.mov 55 (.s 9))), (.u (.eqb 56 false 0 (.s 55))), (.u (.mov 57 (.s 8))), (.u (.mov 58 (.s 6))), (.u (.cmp 59 .gtr (.s 57) (.s 58))), (.u (.beq 60 true (.s 56) (.s 59))), (.u (.mov 61 (.s 60))), (.g 61 false (some 62) (.mov 62 (.s 9))), (.g 61 false (some 63) (.eqb 63 true 0 (.s 62))), (.g 61 false (some 64) (.mov 64 (.s 63))), (.g 64 true (some 65) (.mov 65 (.s 9))), (.g 64 true (some 66) (.call 66 (.c (.clo 35 [])) [(.s 65), (.c (.int .i64 115))] [none, none] true)), (.g 64 true (some 67) (.una 67 .not (.s 66))), (.g 61 false (some 68) (.pck 68 (.s 64) (.s 67) (.c (.bool false)))), (.u (.pck 69 (.s 61) (.c (.bool true)) (.s 68)))]) (.tr [69, 6, 8, 7, 0, 4])) (.cond (.s 69) (.seq (.seq (.ops [(.u (.mov 2 (.c (.bool false))))]) (.tr [2])) .ret) .skip)) (.seq (.seq (.ops [(.u (.mov 70 (.s 6))), (.u (.mov 71 (.s 8))), (.u (.mmx 72 true [(.s 70), (.s 71)])), (.u (.mov 6 (.s 72)))]) (.tr [7, 0, 4, 6])) (.seq (.seq (.ops [(.u (.mov 74 (.s 4))), (.u (.call 75 (.c (.clo 56 [])) [(.s 74), (.c (.int .i64 0))] [none, none] true)), (.u (.mov 73 (.s 75))), (.u (.ext 76 0 (.s 73))), (.u (.ext 77 1 (.s 73))), (.u (.alc 10 [(.int .i64 0), .nils, .nils])), (.u (.st (.strct [(.int .i64), (.slice 3), (.slice 3)]) (.s 10) (.s 76))), (.u (.mov 11 (.s 77)))]) (.tr [10, 7, 0, 4, 6])) (.seq (.seq (.seq (.ops [(.u (.fad 78 1 1 (.slice 3) 25 (.s 10))), (.u (.ld 79 (.slice 3) (.s 78))), (.u (.len 80 false (.s 79))), (.u (.cmp 81 .neq (.s 80) (.c (.int .i64 6))))]) (.tr [81, 10, 7, 0, 4, 6])) (.cond (.s 81) (.seq (.seq (.ops [(.u (.mov 2 (.c (.bool false))))]) (.tr [2])) .ret) .skip)) (.seq (.seq (.rgb [] [(false, (.u (.ld 83 (.strct [(.int .i64), (.slice 3), (.slice 3)]) (.s 10)))), (false, (.u (.fad 84 1 1 (.slice 3) 25 (.s 10)))), (false, (.u (.ld 85 (.slice 3) (.s 84)))), (false, (.u (.mov 86 (.s 7)))), (false, (.u (.bin 87 .rem .i64 (.s 86) (.c (.int .i64 6))))), (false, (.u (.iad 88 3 (.int .i64) (.s 85) (.s 87)))), (false, (.u (.ld 89 (.int .i64) (.s 88)))), (false, (.u (.mov 90 (.s 7)))), (false, (.u (.bin 91 .add .i64 (.c (.int .i64 10)) (.s 90))))] [(false, (.u (.call 92 (.c (.clo 17 [])) [(.s 83), (.s 89), (.s 91)] [none, none, none] true))), (false, (.u (.mov 82 (.s 92)))), (false, (.u (.ext 93 0 (.s 82)))), (false, (.u (.ext 94 1 (.s 82)))), (false, (.u (.alc 12 [(.int .i64 0), .nils, .nils]))), (false, (.u (.st (.strct [(.int .i64), (.slice 3), (.slice 3)]) (.s 12) (.s 93)))), (false, (.u (.mov 13 (.s 94))))] [(false, (.u (.alc 12 [(.int .i64 0), .nils, .nils]))), (false, (.u (.call 92 (.c (.clo 17 [])) [(.s 83), (.s 89), (.s 91)] [none, none, none] true))), (false, (.u (.mov 82 (.s 92)))), (false, (.u (.ext 93 0 (.s 82)))), (false, (.u (.ext 94 1 (.s 82)))), (false, (.u (.st (.strct [(.int .i64), (.slice 3), (.slice 3)]) (.s 12) (.s 93)))), (false, (.u (.mov 13 (.s 94))))]) (.tr [13, 10, 12, 7, 0, 4, 6])) (.seq (.seq (.seq (.ops [(.u (.mov 95 (.s 13))), (.u (.eqb 96 true 0 (.s 95)))]) (.tr [96, 13, 10, 12, 7, 0, 4, 6])) (.cond (.s 96) (.seq (.ops [(.u (.ld 98 (.strct [(.int .i64), (.slice 3), (.slice 3)]) (.s 10))), (.u (.call 99 (.c (.clo 47 [])) [(.s 98)] [none] true)), (.u (.mov 97 (.s 99))), (.u (.ext 100 0 (.s 97))), (.u (.ext 101 1 (.s 97))), (.u (.st (.strct [(.int .i64), (.slice 3), (.slice 3)]) (.s 12) (.s 100))), (.u (.mov 13 (.s 101)))]) (.tr [13, 10, 12, 7, 0, 4, 6])) .skip)) (.seq (.seq (.seq (.ops [(.u (.mov 102 (.s 13))), (.u (.eqb 103 true 0 (.s 102)))]) (.tr [103, 10, 12, 7, 0, 4, 6])) (.cond (.s 103) (.seq (.seq (.ops [(.u (.mov 2 (.c (.bool false))))]) (.tr [2])) .ret) .skip)) (.seq (.seq (.ops [(.u (.mov 104 (.s 0))), (.u (.mov 105 (.s 7))), (.u (.iad 106 3 (.int .i64) (.s 104) (.s 105))), (.u (.ld 107 (.int .i64) (.s 106))), (.u (.bin 108 .quo .i64 (.s 107) (.c (.int .i64 30)))), (.u (.call 109 (.c (.clo 25 [])) [(.s 108), (.c (.int .i64 30))] [none, none] true)), (.u (.mov 14 (.s 109)))]) (.tr [14, 10, 12, 7, 0, 4, 6])) (.seq (.seq (.ops [(.u (.mov 110 (.s 4))), (.u (.mov 111 (.s 14))), (.u (.ld 112 (.strct [(.int .i64), (.slice 3), (.slice 3)]) (.s 12))), (.u (.call 113 (.c (.clo 57 [])) [(.s 110), (.s 111), (.c (.int .i64 0)), (.s 112)] [none, none, none, none] true)), (.u (.mov 15 (.s 113)))]) (.tr [14, 10, 15, 12, 7, 0, 4, 6])) (.seq (.seq (.ops [(.u (.mov 115 (.s 4))), (.u (.call 116 (.c (.clo 56 [])) [(.s 115), (.c (.int .i64 0))] [none, none] true)), (.u (.mov 114 (.s 116))), (.u (.ext 117 0 (.s 114))), (.u (.ext 118 1 (.s 114))), (.u (.alc 16 [(.int .i64 0), .nils, .nils])), (.u (.st (.strct [(.int .i64), (.slice 3), (.slice 3)]) (.s 16) (.s 117))), (.u (.mov 17 (.s 118)))]) (.tr [14, 10, 15, 16, 12, 7, 0, 4, 6])) (.seq (.seq (.ops [(.u (.mov 119 (.s 15))), (.u (.eqb 120 false 0 (.s 119))), (.u (.mov 121 (.s 14))), (.u (.mov 122 (.s 6))), (.u (.cmp 123 .geq (.s 121) (.s 122))), (.u (.beq 124 true (.s 120) (.s 123))), (.u (.mov 125 (.s 124))), (.g 125 false (some 126) (.mov 126 (.s 15))), (.g 125 false (some 127) (.eqb 127 true 0 (.s 126))), (.g 125 false (some 128) (.mov 128 (.s 127))), (.g 128 true (some 129) (.ld 129 (.strct [(.int .i64), (.slice 3), (.slice 3)]) (.s 16))), (.g 128 true (some 130) (.ld 130 (.strct [(.int .i64), (.slice 3), (.slice 3)]) (.s 10))), (.g 128 true (some 131) (.call 131 (.c (.clo 58 [])) [(.s 129), (.s 130)] [none, none] true)), (.g 128 true (some 132) (.una 132 .not (.s 131))), (.g 125 false (some 133) (.pck 133 (.s 128) (.s 132) (.c (.bool false)))), (.u (.pck 134 (.s 125) (.c (.bool true)) (.s 133))), (.u (.mov 135 (.s 134))), (.g 135 false (some 136) (.mov 136 (.s 15))), (.g 135 false (some 137) (.eqb 137 false 0 (.s 136))), (.g 135 false (some 138) (.mov 138 (.s 137))), (.g 138 true (some 139) (.ld 139 (.strct [(.int .i64), (.slice 3), (.slice 3)]) (.s 16))), (.g 138 true (some 140) (.ld 140 (.strct [(.int .i64), (.slice 3), (.slice 3)]) (.s 12))), (.g 138 true (some 141) (.call 141 (.c (.clo 58 [])) [(.s 139), (.s 140)] [none, none] true)), (.g 138 true (some 142) (.una 142 .not (.s 141))), (.g 135 false (some 143) (.pck 143 (.s 138) (.s 142) (.c (.bool false)))), (.u (.pck 144 (.s 135) (.c (.bool true)) (.s 143)))]) (.tr [144, 7, 0, 4, 6])) (.cond (.s 144) (.seq (.seq (.ops [(.u (.mov 2 (.c (.bool false))))]) (.tr [2])) .ret) .skip))))))))))))))) (.seq (.ops [(.u (.mov 45 (.s 7))), (.u (.bin 46 .add .i64 (.s 45) (.c (.int .i64 1)))), (.u (.mov 7 (.s 46)))]) (.tr [0, 7, 4, 6]))))))) (.seq (.seq (.ops [(.u (.mov 145 (.s 4))), (.u (.call 146 (.c (.clo 59 [])) [(.s 145)] [none] true)), (.u (.mov 147 (.s 6))), (.u (.cmp 148 .eql (.s 146) (.s 147))), (.u (.mov 2 (.s 148)))]) (.tr [2])) .ret)))))))))
def rsRegistryFences : List RV := [(.t 2)]
theorem irRegistryFences : fnIR Tryd.prog WRegistryFences 13 = some (icRegistryFences, rsRegistryFences) := by kernel_rfl
def spRegistryFences : FSpec := fun args h nx K => match args with
  | [.dat (.slice 3) d] => K (.bool true) h
  | _ => False
set_option maxHeartbeats 4000000 in
set_option maxRecDepth 8000 in
theorem vRegistryFences {E : Nat → Value} (hE : Errs2 Tryd.prog (some 184) E) : Valid Tryd.prog E G0 13 spRegistryFences := by
  refine valid_go (W := WRegistryFences) hE ((((((((((((allValid_bot.add (up (vL7first hE))).add (up (vL7six hE))).add (up (vNumber hE))).add (up (vCNew hE))).add (up (vRTake hE))).add (up (vIs hE))).add (up (vRGet hE))).add (up (vCBegin hE))).add (up (vCCommit hE))).add (up (vRSet hE))).add (up (vSameConfig hE))).add (up (vREpoch hE))) irRegistryFences (by decide) (fun args h nx K hsp hok hnm => ?_)
  unfold spRegistryFences at hsp
  split at hsp
  · rename_i d
    have hK := hsp
    refine ⟨by simp [WRegistryFences, mkW, mkWE, mkWF], fun Q hQ => ?_⟩
    obtain ⟨hd, _⟩ := hok
    simp only [SV.ok] at hd
    obtain ⟨hd1, hd2, hd3⟩ := Wt.slice hd; generalize d.l = l at *; subst hd1
    have g0 : (0 : Int) ≤ 0 := by decide
    have g1 : (0 : Int) ≤ 1000000 := by decide
    have ret : ∀ h' nx', HLe h h' → Q Ex.ret ⟨[(2, .bool true)], h', nx'⟩ := fun h' nx' hh => by
      refine (hQ _ ?_).1
      exact fin_t (.bool true) rfl rfl hnm hh hK
    by_cases h20 : 20 < l.length
    · have c1 : decide (20 < (l.length : Int)) = true := decide_eq_true (by omega)
      simp (maxSteps := 4000000) only [icRegistryFences, walkSet, eq_self, implies_true, evMdl, evMupD, evMup, evLkp, Int.reduceEq, Int.reduceBEq, Int.reduceBNe, Int.reduceLE, Int.reduceLT, Int.reduceAdd, Int.reduceSub, Int.reduceMul, Int.reduceNeg, frpL, preF, preP, prePt, prePd, frzP, evNlq, ev, frOf, oget, ogets, argSs, argS, evMm, frzL, evBin, evWrp, evShf, evCmp, evUna, evNil, evBeq, evLd, evSt, evFad, evIad, evAad, evLen, evSln, evEls, evApp, evParts, evSlc, evNlc, evMif, evPck, evFld, evBld, evTas, evIfq, evSeq, evSl0, evBxf, evAgl, evAgq, evBsf, hget, hset, hdel, cellAt, arrAt, setCellAt, setArrAt, takeC, lenC, svCells, SV.okc, SV.one, ldSV, Fw.isAgg, Nat.reduceMul, Nat.reduceSub, Nat.reduceLeDiff, Nat.reduceLT, explode, explodeL, toD, toDL, toD1, Ty.size, Ty.sizeL, frz1, Fr.sub, Heap.sub, Tok.sub, SV.sub, SV.subL, Nat.reduceEqDiff, Nat.reduceAdd, reduceCtorEq, ↓reduceIte, reduceIte, spL7first, spL7six, g0, g1, c1, cfgA]
      exact ret _ _ (by ((try simp only []); repeat first | exact HLe.refl _ | refine HLe.cons (by simp only [hget, Nat.reduceEqDiff, Nat.left_eq_add, Nat.add_eq_left, nm_ne2, nm_en2, nm_ne3, nm_en3, nm_ne4, nm_en4, nm_ne5, nm_en5, reduceIte, ↓reduceIte] <;> first | rfl | ((repeat rw [if_neg (by omega)]) <;> rfl)) ?_ | refine HLe.skip hnm (by omega) ?_ | refine HLe.frz hnm (by omega) ?_ | refine HLe.del hnm (by omega) ?_))
    have c1 : decide (20 < (l.length : Int)) = false := decide_eq_false (by omega)
    simp (maxSteps := 4000000) only [icRegistryFences, walkSet, eq_self, implies_true, evMdl, evMupD, evMup, evLkp, Int.reduceEq, Int.reduceBEq, Int.reduceBNe, Int.reduceLE, Int.reduceLT, Int.reduceAdd, Int.reduceSub, Int.reduceMul, Int.reduceNeg, frpL, preF, preP, prePt, prePd, frzP, evNlq, ev, frOf, oget, ogets, argSs, argS, evMm, frzL, evBin, evWrp, evShf, evCmp, evUna, evNil, evBeq, evLd, evSt, evFad, evIad, evAad, evLen, evSln, evEls, evApp, evParts, evSlc, evNlc, evMif, evPck, evFld, evBld, evTas, evIfq, evSeq, evSl0, evBxf, evAgl, evAgq, evBsf, hget, hset, hdel, cellAt, arrAt, setCellAt, setArrAt, takeC, lenC, svCells, SV.okc, SV.one, ldSV, Fw.isAgg, Nat.reduceMul, Nat.reduceSub, Nat.reduceLeDiff, Nat.reduceLT, explode, explodeL, toD, toDL, toD1, Ty.size, Ty.sizeL, frz1, Fr.sub, Heap.sub, Tok.sub, SV.sub, SV.subL, Nat.reduceEqDiff, Nat.reduceAdd, reduceCtorEq, ↓reduceIte, reduceIte, spL7first, spL7six, g0, g1, c1, cfgA, spCNew]
    have hc0 : cfgN 0 (sixL 0) [] = .node [.int 0, .list (sixL 0), .list []] := rfl
    refine ⟨fun hb => by simp at hb, fun _ => ⟨fun i hi _ hb => ?_, fun _ => ?_⟩⟩
    · obtain rfl : i = 0 := by omega
      have := reg_bad
      rw [hc0, hb] at this
      cases this
    refine go_loop (α := { x : Nat × Int × Int × List D × List D // x.1 ≤ l.length ∧ 0 ≤ x.2.1 ∧ x.2.1 < 30 ∧ 0 ≤ x.2.2.1 ∧ x.2.2.1 ≤ x.1 ∧ stepOk x.2.2.2.1 x.2.2.2.2 ∧ lowOk x.2.2.2.1 x.2.2.2.2 x.1 }) (I := fun x => { f := [(7, .int .i64 x.1.1), (0, .dat (.slice 3) (.list l)), (4, .ptr nx 0), (6, .int .i64 x.1.2.1)], h := [(nx, .cells [.vec (nx + 1), .int .i64 x.1.2.1, .arrc (.int .i64) zero64]), (nx + 1, .arr 25 cfgT [cfgN x.1.2.2.1 x.1.2.2.2.1 x.1.2.2.2.2])] ++ h, nx := nx + 2 }) (μ := fun x => l.length - x.1.1) _ _ _ ⟨(0, 0, 0, sixL 0, []), by simp, by simp, by simp, by simp, by simp, ⟨sixL_bad (by decide) (by decide), sixL_six 0, .inl rfl⟩, by intro v hv; simp [sixL_i] at hv; simp only []; omega⟩ ?_ (fun x B hB => ?_)
    · refine leq_news [(nx, nx + 64 + 64 + 1), (nx + 1, nx + 64 + 64 + 1 + 1)] [(nx, .cells [.vec (nx + 1), .int .i64 0, .arrc (.int .i64) zero64]), (nx + 1, .arr 25 cfgT [cfgN 0 (sixL 0) []])] (.refl _) (by simp) (by simp <;> omega) (by simp <;> omega) rfl ?_ ?_ ?_ ?_ hnm ?_ (by omega)
      · simp [frIn_cons, frIn_nil, fget_cons, fget_nil, SV.ren, SV.renL, rens]
      · (simp only [frLt_cons, frLt_nil, and_true, SV.lt, SV.ltL, true_and] <;> omega)
      · (simp only [List.mem_cons, List.not_mem_nil, or_false, forall_eq_or_imp, forall_eq]; simp [hget, rens, Tok.ren, SV.ren, SV.renL])
        exact rfl
      · (simp only [List.mem_cons, List.not_mem_nil, or_false, forall_eq_or_imp, forall_eq, Tok.lt, SV.lt, SV.ltL, and_true, true_and] <;> omega)
      · ((try simp only []); repeat first | exact HLe.refl _ | refine HLe.cons (by simp only [hget, Nat.reduceEqDiff, Nat.left_eq_add, Nat.add_eq_left, nm_ne2, nm_en2, nm_ne3, nm_en3, nm_ne4, nm_en4, nm_ne5, nm_en5, reduceIte, ↓reduceIte] <;> first | rfl | ((repeat rw [if_neg (by omega)]) <;> rfl)) ?_ | refine HLe.skip hnm (by omega) ?_ | refine HLe.frz hnm (by omega) ?_ | refine HLe.del hnm (by omega) ?_)
    · obtain ⟨⟨i, top, e, o, n⟩, hi, ht0, ht1, he0, hei, hst, hlow⟩ := x
      simp only at hi ht0 ht1 he0 hei hst hlow hB
      by_cases hil : i < l.length
      · have c2 : decide ((i : Int) < (l.length : Int)) = true := decide_eq_true (by omega)
        have g30 : (0 : Int) < 30 := by decide
        have q6 : (((6 : Nat) : Int) != 6) = false := rfl
        obtain ⟨z, hz⟩ : ∃ z, (l.getD i .nil).i = z := ⟨_, rfl⟩
        have hzr : -9223372036854775808 ≤ z ∧ z ≤ 9223372036854775807 := by
          have hm : l.getD i .nil ∈ l := by rw [List.getD_eq_getElem?_getD, List.getElem?_eq_getElem hil]; exact List.getElem_mem hil
          have h8 : Wt Tryd.prog E (.int .i64) (l.getD i .nil) := hd3 _ hm
          have h9 := (Wt.int h8).2
          rw [hz, min_i64, max_i64] at h9
          exact h9
        have z30 := tdiv_range hzr (b := 30) (by decide)
        obtain ⟨t, ht⟩ : ∃ t, z % 30 = t := ⟨_, rfl⟩
        obtain ⟨b, hb⟩ : ∃ b, z.tdiv 30 % 30 = b := ⟨_, rfl⟩
        have htr : 0 ≤ t ∧ t < 30 := by rw [← ht]; exact ⟨Int.emod_nonneg _ (by decide), Int.emod_lt_of_pos _ (by decide)⟩
        have hbr : 0 ≤ b ∧ b < 30 := by rw [← hb]; exact ⟨Int.emod_nonneg _ (by decide), Int.emod_lt_of_pos _ (by decide)⟩
        have hv := step_valid hst (e := e) ⟨he0, by omega⟩
        obtain ⟨hbo, h6, h3⟩ := hst
        obtain ⟨hl6, hnd⟩ := six_of h6
        have hn3 : n.length ≤ 1000 := by
          rcases h3 with rfl | ⟨_, h6n, _⟩
          · simp
          · have := (six_of h6n).1; omega
        have hregs := regs_one (e := e) (o := o) (n := n) ⟨he0, by omega⟩ (by omega) hn3
        have hmod : (i : Int).tmod 6 = ((i % 6 : Nat) : Int) := by rw [Int.tmod_eq_emod_of_nonneg (by omega)]; omega
        obtain ⟨tt, htt⟩ : ∃ tt, max top t = tt := ⟨_, rfl⟩
        have hm6 : i % 6 < 6 := Nat.mod_lt _ (by decide)
        have e00 : Int.toNat 0 = 0 := rfl
        have next : ∀ (tp e' : Int) o' n' S', 0 ≤ tp → tp < 30 → 0 ≤ e' → e' ≤ i + 1 → stepOk o' n' → lowOk o' n' (i + 1) → Leq nx S' { f := [(7, .int .i64 ((i + 1 : Nat) : Int)), (0, .dat (.slice 3) (.list l)), (4, .ptr nx 0), (6, .int .i64 tp)], h := [(nx, .cells [.vec (nx + 1), .int .i64 tp, .arrc (.int .i64) zero64]), (nx + 1, .arr 25 cfgT [cfgN e' o' n'])] ++ h, nx := nx + 2 } → B S' := fun tp e' o' n' S' k1 k2 k3 k4 k5 k6 hl =>
          hB _ ⟨(i + 1, tp, e', o', n'), by simp only []; omega, k1, k2, k3, by simp only []; omega, k5, k6⟩ (by simp only []; omega) hl
        have hlow1 : lowOk o n (i + 1) := fun v hv => by have := hlow v hv; omega
        have hst0 : stepOk o n := ⟨hbo, h6, h3⟩
        -- what is begun, or settled
        have body : ∀ (o' n' : List D), stepOk o' n' → lowOk o' n' (i + 1) → o'.length ≤ 1000 → n'.length ≤ 1000 → True := fun _ _ _ _ _ _ => trivial
        rcases h3 with rfl | ⟨hbn, h6n, h5⟩
        · have hjm : (o.getD (i % 6) .nil).i ∈ o.map D.i := by
            have h9 : i % 6 < o.length := by omega
            rw [List.getD_eq_getElem?_getD, List.getElem?_eq_getElem h9]
            exact List.mem_map.2 ⟨_, List.getElem_mem h9, rfl⟩
          have hidx : 0 ≤ idxI (fun v => (o.getD (i % 6) .nil).i == v) o := by
            have h9 := idx_any (fun v => (o.getD (i % 6) .nil).i == v) o
            have h10 : hasI o (o.getD (i % 6) .nil).i = true := hasI_iff.2 hjm
            unfold hasI at h10
            rw [h10] at h9
            exact of_decide_eq_true h9
          have hidr := idx_range (fun v => (o.getD (i % 6) .nil).i == v) o
          have hny : nodeB (10 + (i : Int)) = true := by unfold nodeB; simp; omega
          have hh : hasI o (10 + (i : Int)) = false := by
            rcases bool_ft (hasI o (10 + (i : Int))) with h | h
            · exact h
            · have := hlow _ (.inl (hasI_iff.1 h)); omega
          have hb1 := begin_ok hv hidx hh hny (by omega)
          have hb2 := beginR_ok hb1
          obtain ⟨r1, r2, r3⟩ := replace_ok (k := (idxI (fun v => (o.getD (i % 6) .nil).i == v) o).toNat) (by omega) hl6 hnd hh
          have hbs := bad_set (k := (idxI (fun v => (o.getD (i % 6) .nil).i == v) o).toNat) hbo hny
          generalize hO : o.set (idxI (fun v => (o.getD (i % 6) .nil).i == v) o).toNat (.int (10 + (i : Int))) = O at hb2 r1 r2 r3 hbs
          have hOl : O.length = 6 := by rw [← hO, List.length_set]; exact hl6
          have hst' : stepOk o O := ⟨hbo, h6, .inr ⟨hbs, r1, r2⟩⟩
          have hv2 := step_valid hst' (e := e + 1) ⟨by omega, by omega⟩
          have hlowO : lowOk o O (i + 1) := fun v hv => by
            rcases hv with hv | hv
            · have := hlow v (.inl hv); omega
            · rw [← hO, map_setI] at hv
              rcases List.mem_or_eq_of_mem_set hv with hv | rfl
              · have := hlow v (.inl hv); omega
              · omega
          have hS1 : ∀ c, setE c [cfgN e o []] b 0 (e + 1) o O = if b < c then .err 6 else .nil := fun c => setE_one hv2
          have hregs2 := regs_one (e := e + 1) (o := o) (n := O) ⟨by omega, by omega⟩ (by omega) (by omega)
          by_cases h4 : t ≤ top
          · have hT : takeE top t = .err 6 := by unfold takeE; rw [if_neg (by omega), if_pos h4]
            have d1 : decide (top < t) = false := decide_eq_false (by omega)
            have hmax : max top t = top := by omega
            by_cases h7 : b < top
            · have hS : setE top [cfgN e o []] b 0 (e + 1) o O = .err 6 := by rw [hS1, if_pos h7]
              have d2 : decide (top ≤ b) = false := decide_eq_false (by omega)
              simp (maxSteps := 4000000) only [walkSet, eq_self, implies_true, evMdl, evMupD, evMup, evLkp, Int.reduceEq, Int.reduceBEq, Int.reduceBNe, Int.reduceLE, Int.reduceLT, Int.reduceAdd, Int.reduceSub, Int.reduceMul, Int.reduceNeg, frpL, preF, preP, prePt, prePd, frzP, evNlq, ev, frOf, oget, ogets, argSs, argS, evMm, frzL, evBin, evWrp, evShf, evCmp, evUna, evNil, evBeq, evLd, evSt, evFad, evIad, evAad, evLen, evSln, evEls, evApp, evParts, evSlc, evNlc, evMif, evPck, evFld, evBld, evTas, evIfq, evSeq, evSl0, evBxf, evAgl, evAgq, evBsf, hget, hset, hdel, cellAt, arrAt, setCellAt, setArrAt, takeC, lenC, svCells, SV.okc, SV.one, ldSV, Fw.isAgg, Nat.reduceMul, Nat.reduceSub, Nat.reduceLeDiff, Nat.reduceLT, explode, explodeL, toD, toDL, toD1, Ty.size, Ty.sizeL, frz1, Fr.sub, Heap.sub, Tok.sub, SV.sub, SV.subL, Nat.reduceEqDiff, Nat.reduceAdd, reduceCtorEq, ↓reduceIte, reduceIte, c2, spNumber, g30, hz, ht, hb, spRTake, gOk_c, gE_c, gM_c, gI_c, cOk_c, cL_c, hT, spIs, fe_End, fa_End, fe_Sum, fa_Sum, fe_Shape, fa_Shape, fe_Many, fa_Many, fe_Range, fa_Range, fe_Kind, fa_Kind, fe_None, fa_None, fe_There, fa_There, fe_Full, fa_Full, fe_Crash, fa_Crash, fe_State, fa_State, fe_Conflict, fa_Conflict, fe_Waits, fa_Waits, fe_Limit, fa_Limit, fe_Fenced, fa_Fenced, fe_Word, fa_Word, fe_Number, fa_Number, fe_nil, d1, hmax, spRGet, hregs, getR_one, cfgA, hl6, q6, hmod, spCBegin, hb1, hb2,  spRSet, hS, d2, hregs2, spSameConfig, sameC_refl, e00, Int.toNat_natCast, min_i64, max_i64]
              refine ⟨⟨by omega, by omega⟩, by decide, ⟨by omega, by omega⟩, ⟨by omega, by omega⟩, ⟨⟨by omega, by omega⟩, ⟨by decide, z30.1, z30.2⟩, ⟨by omega, by omega⟩, ?_⟩, ⟨by omega, by omega⟩, ⟨by decide, z30.1, z30.2⟩, ⟨by omega, by omega⟩, ?_⟩
              all_goals
                refine next top e o [] _ (by omega) (by omega) (by omega) (by omega) hst0 hlow1 ?_
                refine leq_id ?_ (by (simp only [frLt_cons, frLt_nil, and_true, SV.lt, SV.ltL, true_and] <;> omega)) (by ((try simp only []); repeat first | exact HLe.refl _ | refine HLe.cons (by simp only [hget, Nat.reduceEqDiff, Nat.left_eq_add, Nat.add_eq_left, nm_ne2, nm_en2, nm_ne3, nm_en3, nm_ne4, nm_en4, nm_ne5, nm_en5, reduceIte, ↓reduceIte] <;> first | rfl | ((repeat rw [if_neg (by omega)]) <;> rfl)) ?_ | refine HLe.skip hnm (by omega) ?_ | refine HLe.frz hnm (by omega) ?_ | refine HLe.del hnm (by omega) ?_)) (by (repeat first | exact HLt.mono hnm (by simp only [] <;> omega) | refine HLt.cons (by simp only [] <;> omega) (by simp only [Tok.lt, SV.ltL, SV.lt, and_true, true_and] <;> omega) ?_)) (by simp only [] <;> omega)
                simp only [frEq_cons, frEq_nil, frIn_cons, frIn_nil, and_true, fget_cons, Nat.reduceEqDiff, reduceIte, ↓reduceIte, true_and, SV.ren, SV.renL, ren1]
                simp
            · have hS : setE top [cfgN e o []] b 0 (e + 1) o O = .nil := by rw [hS1, if_neg h7]
              have d2 : decide (top ≤ b) = true := decide_eq_true (by omega)
              simp (maxSteps := 4000000) only [walkSet, eq_self, implies_true, evMdl, evMupD, evMup, evLkp, Int.reduceEq, Int.reduceBEq, Int.reduceBNe, Int.reduceLE, Int.reduceLT, Int.reduceAdd, Int.reduceSub, Int.reduceMul, Int.reduceNeg, frpL, preF, preP, prePt, prePd, frzP, evNlq, ev, frOf, oget, ogets, argSs, argS, evMm, frzL, evBin, evWrp, evShf, evCmp, evUna, evNil, evBeq, evLd, evSt, evFad, evIad, evAad, evLen, evSln, evEls, evApp, evParts, evSlc, evNlc, evMif, evPck, evFld, evBld, evTas, evIfq, evSeq, evSl0, evBxf, evAgl, evAgq, evBsf, hget, hset, hdel, cellAt, arrAt, setCellAt, setArrAt, takeC, lenC, svCells, SV.okc, SV.one, ldSV, Fw.isAgg, Nat.reduceMul, Nat.reduceSub, Nat.reduceLeDiff, Nat.reduceLT, explode, explodeL, toD, toDL, toD1, Ty.size, Ty.sizeL, frz1, Fr.sub, Heap.sub, Tok.sub, SV.sub, SV.subL, Nat.reduceEqDiff, Nat.reduceAdd, reduceCtorEq, ↓reduceIte, reduceIte, c2, spNumber, g30, hz, ht, hb, spRTake, gOk_c, gE_c, gM_c, gI_c, cOk_c, cL_c, hT, spIs, fe_End, fa_End, fe_Sum, fa_Sum, fe_Shape, fa_Shape, fe_Many, fa_Many, fe_Range, fa_Range, fe_Kind, fa_Kind, fe_None, fa_None, fe_There, fa_There, fe_Full, fa_Full, fe_Crash, fa_Crash, fe_State, fa_State, fe_Conflict, fa_Conflict, fe_Waits, fa_Waits, fe_Limit, fa_Limit, fe_Fenced, fa_Fenced, fe_Word, fa_Word, fe_Number, fa_Number, fe_nil, d1, hmax, spRGet, hregs, getR_one, cfgA, hl6, q6, hmod, spCBegin, hb1, hb2,  spRSet, hS, d2, hregs2, spSameConfig, sameC_refl, e00, Int.toNat_natCast, min_i64, max_i64]
              refine ⟨⟨by omega, by omega⟩, by decide, ⟨by omega, by omega⟩, ⟨by omega, by omega⟩, ⟨⟨by omega, by omega⟩, ⟨by decide, z30.1, z30.2⟩, ⟨by omega, by omega⟩, ?_⟩, ⟨by omega, by omega⟩, ⟨by decide, z30.1, z30.2⟩, ⟨by omega, by omega⟩, ?_⟩
              all_goals
                refine next top (e + 1) o O _ (by omega) (by omega) (by omega) (by omega) hst' hlowO ?_
                refine leq_id ?_ (by (simp only [frLt_cons, frLt_nil, and_true, SV.lt, SV.ltL, true_and] <;> omega)) (by ((try simp only []); repeat first | exact HLe.refl _ | refine HLe.cons (by simp only [hget, Nat.reduceEqDiff, Nat.left_eq_add, Nat.add_eq_left, nm_ne2, nm_en2, nm_ne3, nm_en3, nm_ne4, nm_en4, nm_ne5, nm_en5, reduceIte, ↓reduceIte] <;> first | rfl | ((repeat rw [if_neg (by omega)]) <;> rfl)) ?_ | refine HLe.skip hnm (by omega) ?_ | refine HLe.frz hnm (by omega) ?_ | refine HLe.del hnm (by omega) ?_)) (by (repeat first | exact HLt.mono hnm (by simp only [] <;> omega) | refine HLt.cons (by simp only [] <;> omega) (by simp only [Tok.lt, SV.ltL, SV.lt, and_true, true_and] <;> omega) ?_)) (by simp only [] <;> omega)
                simp only [frEq_cons, frEq_nil, frIn_cons, frIn_nil, and_true, fget_cons, Nat.reduceEqDiff, reduceIte, ↓reduceIte, true_and, SV.ren, SV.renL, ren1]
                simp
          · have hT : takeE top t = .nil := by unfold takeE; rw [if_neg (by omega), if_neg h4]
            have d1 : decide (top < t) = true := decide_eq_true (by omega)
            have hmax : max top t = t := by omega
            by_cases h7 : b < t
            · have hS : setE t [cfgN e o []] b 0 (e + 1) o O = .err 6 := by rw [hS1, if_pos h7]
              have d2 : decide (t ≤ b) = false := decide_eq_false (by omega)
              simp (maxSteps := 4000000) only [walkSet, eq_self, implies_true, evMdl, evMupD, evMup, evLkp, Int.reduceEq, Int.reduceBEq, Int.reduceBNe, Int.reduceLE, Int.reduceLT, Int.reduceAdd, Int.reduceSub, Int.reduceMul, Int.reduceNeg, frpL, preF, preP, prePt, prePd, frzP, evNlq, ev, frOf, oget, ogets, argSs, argS, evMm, frzL, evBin, evWrp, evShf, evCmp, evUna, evNil, evBeq, evLd, evSt, evFad, evIad, evAad, evLen, evSln, evEls, evApp, evParts, evSlc, evNlc, evMif, evPck, evFld, evBld, evTas, evIfq, evSeq, evSl0, evBxf, evAgl, evAgq, evBsf, hget, hset, hdel, cellAt, arrAt, setCellAt, setArrAt, takeC, lenC, svCells, SV.okc, SV.one, ldSV, Fw.isAgg, Nat.reduceMul, Nat.reduceSub, Nat.reduceLeDiff, Nat.reduceLT, explode, explodeL, toD, toDL, toD1, Ty.size, Ty.sizeL, frz1, Fr.sub, Heap.sub, Tok.sub, SV.sub, SV.subL, Nat.reduceEqDiff, Nat.reduceAdd, reduceCtorEq, ↓reduceIte, reduceIte, c2, spNumber, g30, hz, ht, hb, spRTake, gOk_c, gE_c, gM_c, gI_c, cOk_c, cL_c, hT, spIs, fe_End, fa_End, fe_Sum, fa_Sum, fe_Shape, fa_Shape, fe_Many, fa_Many, fe_Range, fa_Range, fe_Kind, fa_Kind, fe_None, fa_None, fe_There, fa_There, fe_Full, fa_Full, fe_Crash, fa_Crash, fe_State, fa_State, fe_Conflict, fa_Conflict, fe_Waits, fa_Waits, fe_Limit, fa_Limit, fe_Fenced, fa_Fenced, fe_Word, fa_Word, fe_Number, fa_Number, fe_nil, d1, hmax, spRGet, hregs, getR_one, cfgA, hl6, q6, hmod, spCBegin, hb1, hb2,  spRSet, hS, d2, hregs2, spSameConfig, sameC_refl, e00, Int.toNat_natCast, min_i64, max_i64]
              refine ⟨⟨by omega, by omega⟩, by decide, ⟨by omega, by omega⟩, ⟨by omega, by omega⟩, ⟨⟨by omega, by omega⟩, ⟨by decide, z30.1, z30.2⟩, ⟨by omega, by omega⟩, ?_⟩, ⟨by omega, by omega⟩, ⟨by decide, z30.1, z30.2⟩, ⟨by omega, by omega⟩, ?_⟩
              all_goals
                refine next t e o [] _ (by omega) (by omega) (by omega) (by omega) hst0 hlow1 ?_
                refine leq_id ?_ (by (simp only [frLt_cons, frLt_nil, and_true, SV.lt, SV.ltL, true_and] <;> omega)) (by ((try simp only []); repeat first | exact HLe.refl _ | refine HLe.cons (by simp only [hget, Nat.reduceEqDiff, Nat.left_eq_add, Nat.add_eq_left, nm_ne2, nm_en2, nm_ne3, nm_en3, nm_ne4, nm_en4, nm_ne5, nm_en5, reduceIte, ↓reduceIte] <;> first | rfl | ((repeat rw [if_neg (by omega)]) <;> rfl)) ?_ | refine HLe.skip hnm (by omega) ?_ | refine HLe.frz hnm (by omega) ?_ | refine HLe.del hnm (by omega) ?_)) (by (repeat first | exact HLt.mono hnm (by simp only [] <;> omega) | refine HLt.cons (by simp only [] <;> omega) (by simp only [Tok.lt, SV.ltL, SV.lt, and_true, true_and] <;> omega) ?_)) (by simp only [] <;> omega)
                simp only [frEq_cons, frEq_nil, frIn_cons, frIn_nil, and_true, fget_cons, Nat.reduceEqDiff, reduceIte, ↓reduceIte, true_and, SV.ren, SV.renL, ren1]
                simp
            · have hS : setE t [cfgN e o []] b 0 (e + 1) o O = .nil := by rw [hS1, if_neg h7]
              have d2 : decide (t ≤ b) = true := decide_eq_true (by omega)
              simp (maxSteps := 4000000) only [walkSet, eq_self, implies_true, evMdl, evMupD, evMup, evLkp, Int.reduceEq, Int.reduceBEq, Int.reduceBNe, Int.reduceLE, Int.reduceLT, Int.reduceAdd, Int.reduceSub, Int.reduceMul, Int.reduceNeg, frpL, preF, preP, prePt, prePd, frzP, evNlq, ev, frOf, oget, ogets, argSs, argS, evMm, frzL, evBin, evWrp, evShf, evCmp, evUna, evNil, evBeq, evLd, evSt, evFad, evIad, evAad, evLen, evSln, evEls, evApp, evParts, evSlc, evNlc, evMif, evPck, evFld, evBld, evTas, evIfq, evSeq, evSl0, evBxf, evAgl, evAgq, evBsf, hget, hset, hdel, cellAt, arrAt, setCellAt, setArrAt, takeC, lenC, svCells, SV.okc, SV.one, ldSV, Fw.isAgg, Nat.reduceMul, Nat.reduceSub, Nat.reduceLeDiff, Nat.reduceLT, explode, explodeL, toD, toDL, toD1, Ty.size, Ty.sizeL, frz1, Fr.sub, Heap.sub, Tok.sub, SV.sub, SV.subL, Nat.reduceEqDiff, Nat.reduceAdd, reduceCtorEq, ↓reduceIte, reduceIte, c2, spNumber, g30, hz, ht, hb, spRTake, gOk_c, gE_c, gM_c, gI_c, cOk_c, cL_c, hT, spIs, fe_End, fa_End, fe_Sum, fa_Sum, fe_Shape, fa_Shape, fe_Many, fa_Many, fe_Range, fa_Range, fe_Kind, fa_Kind, fe_None, fa_None, fe_There, fa_There, fe_Full, fa_Full, fe_Crash, fa_Crash, fe_State, fa_State, fe_Conflict, fa_Conflict, fe_Waits, fa_Waits, fe_Limit, fa_Limit, fe_Fenced, fa_Fenced, fe_Word, fa_Word, fe_Number, fa_Number, fe_nil, d1, hmax, spRGet, hregs, getR_one, cfgA, hl6, q6, hmod, spCBegin, hb1, hb2,  spRSet, hS, d2, hregs2, spSameConfig, sameC_refl, e00, Int.toNat_natCast, min_i64, max_i64]
              refine ⟨⟨by omega, by omega⟩, by decide, ⟨by omega, by omega⟩, ⟨by omega, by omega⟩, ⟨⟨by omega, by omega⟩, ⟨by decide, z30.1, z30.2⟩, ⟨by omega, by omega⟩, ?_⟩, ⟨by omega, by omega⟩, ⟨by decide, z30.1, z30.2⟩, ⟨by omega, by omega⟩, ?_⟩
              all_goals
                refine next t (e + 1) o O _ (by omega) (by omega) (by omega) (by omega) hst' hlowO ?_
                refine leq_id ?_ (by (simp only [frLt_cons, frLt_nil, and_true, SV.lt, SV.ltL, true_and] <;> omega)) (by ((try simp only []); repeat first | exact HLe.refl _ | refine HLe.cons (by simp only [hget, Nat.reduceEqDiff, Nat.left_eq_add, Nat.add_eq_left, nm_ne2, nm_en2, nm_ne3, nm_en3, nm_ne4, nm_en4, nm_ne5, nm_en5, reduceIte, ↓reduceIte] <;> first | rfl | ((repeat rw [if_neg (by omega)]) <;> rfl)) ?_ | refine HLe.skip hnm (by omega) ?_ | refine HLe.frz hnm (by omega) ?_ | refine HLe.del hnm (by omega) ?_)) (by (repeat first | exact HLt.mono hnm (by simp only [] <;> omega) | refine HLt.cons (by simp only [] <;> omega) (by simp only [Tok.lt, SV.ltL, SV.lt, and_true, true_and] <;> omega) ?_)) (by simp only [] <;> omega)
                simp only [frEq_cons, frEq_nil, frIn_cons, frIn_nil, and_true, fget_cons, Nat.reduceEqDiff, reduceIte, ↓reduceIte, true_and, SV.ren, SV.renL, ren1]
                simp
        · obtain ⟨hl6n, hndn⟩ := six_of h6n
          have hb1 : ∀ x y, beginE e o n x y = .err 0 := fun x y => by
            unfold beginE
            rw [if_neg (by rw [hv]; decide), if_pos (by omega)]
          have hb2 : ∀ x y, beginR e o n x y = cfgA 0 [] [] := fun x y => by unfold beginR; rw [hb1, if_neg (by decide)]
          have hEn : endE e o n = .nil := by
            unfold endE
            rw [if_neg (by rw [hv]; decide), if_neg (by omega), if_neg (by omega)]
          have hRt : endR e o n true = cfgA (e + 1) n [] := by unfold endR; rw [hEn, if_pos (show (D.nil).isNil = true from rfl), if_pos rfl]
          have hst1 : stepOk n [] := ⟨hbn, h6n, .inl rfl⟩
          have hv2 := step_valid hst1 (e := e + 1) ⟨by omega, by omega⟩
          have hlowN : lowOk n [] (i + 1) := fun v hv => by
            rcases hv with hv | hv
            · have := hlow v (.inr hv); omega
            · simp at hv
          have hS1 : ∀ c, setE c [cfgN e o n] b 0 (e + 1) n [] = if b < c then .err 6 else .nil := fun c => setE_one hv2
          have hregs2 := regs_one (e := e + 1) (o := n) (n := []) ⟨by omega, by omega⟩ (by omega) (by simp)
          by_cases h4 : t ≤ top
          · have hT : takeE top t = .err 6 := by unfold takeE; rw [if_neg (by omega), if_pos h4]
            have d1 : decide (top < t) = false := decide_eq_false (by omega)
            have hmax : max top t = top := by omega
            by_cases h7 : b < top
            · have hS : setE top [cfgN e o n] b 0 (e + 1) n [] = .err 6 := by rw [hS1, if_pos h7]
              have d2 : decide (top ≤ b) = false := decide_eq_false (by omega)
              simp (maxSteps := 4000000) only [walkSet, eq_self, implies_true, evMdl, evMupD, evMup, evLkp, Int.reduceEq, Int.reduceBEq, Int.reduceBNe, Int.reduceLE, Int.reduceLT, Int.reduceAdd, Int.reduceSub, Int.reduceMul, Int.reduceNeg, frpL, preF, preP, prePt, prePd, frzP, evNlq, ev, frOf, oget, ogets, argSs, argS, evMm, frzL, evBin, evWrp, evShf, evCmp, evUna, evNil, evBeq, evLd, evSt, evFad, evIad, evAad, evLen, evSln, evEls, evApp, evParts, evSlc, evNlc, evMif, evPck, evFld, evBld, evTas, evIfq, evSeq, evSl0, evBxf, evAgl, evAgq, evBsf, hget, hset, hdel, cellAt, arrAt, setCellAt, setArrAt, takeC, lenC, svCells, SV.okc, SV.one, ldSV, Fw.isAgg, Nat.reduceMul, Nat.reduceSub, Nat.reduceLeDiff, Nat.reduceLT, explode, explodeL, toD, toDL, toD1, Ty.size, Ty.sizeL, frz1, Fr.sub, Heap.sub, Tok.sub, SV.sub, SV.subL, Nat.reduceEqDiff, Nat.reduceAdd, reduceCtorEq, ↓reduceIte, reduceIte, c2, spNumber, g30, hz, ht, hb, spRTake, gOk_c, gE_c, gM_c, gI_c, cOk_c, cL_c, hT, spIs, fe_End, fa_End, fe_Sum, fa_Sum, fe_Shape, fa_Shape, fe_Many, fa_Many, fe_Range, fa_Range, fe_Kind, fa_Kind, fe_None, fa_None, fe_There, fa_There, fe_Full, fa_Full, fe_Crash, fa_Crash, fe_State, fa_State, fe_Conflict, fa_Conflict, fe_Waits, fa_Waits, fe_Limit, fa_Limit, fe_Fenced, fa_Fenced, fe_Word, fa_Word, fe_Number, fa_Number, fe_nil, d1, hmax, spRGet, hregs, getR_one, cfgA, hl6, q6, hmod, spCBegin, hb1, hb2, spCCommit, hEn, hRt, spRSet, hS, d2, hregs2, spSameConfig, sameC_refl, e00, Int.toNat_natCast, min_i64, max_i64]
              refine ⟨⟨by omega, by omega⟩, by decide, ⟨by omega, by omega⟩, ⟨by omega, by omega⟩, ⟨⟨by omega, by omega⟩, ⟨by decide, z30.1, z30.2⟩, ⟨by omega, by omega⟩, ?_⟩, ⟨by omega, by omega⟩, ⟨by decide, z30.1, z30.2⟩, ⟨by omega, by omega⟩, ?_⟩
              all_goals
                refine next top e o n _ (by omega) (by omega) (by omega) (by omega) hst0 hlow1 ?_
                refine leq_id ?_ (by (simp only [frLt_cons, frLt_nil, and_true, SV.lt, SV.ltL, true_and] <;> omega)) (by ((try simp only []); repeat first | exact HLe.refl _ | refine HLe.cons (by simp only [hget, Nat.reduceEqDiff, Nat.left_eq_add, Nat.add_eq_left, nm_ne2, nm_en2, nm_ne3, nm_en3, nm_ne4, nm_en4, nm_ne5, nm_en5, reduceIte, ↓reduceIte] <;> first | rfl | ((repeat rw [if_neg (by omega)]) <;> rfl)) ?_ | refine HLe.skip hnm (by omega) ?_ | refine HLe.frz hnm (by omega) ?_ | refine HLe.del hnm (by omega) ?_)) (by (repeat first | exact HLt.mono hnm (by simp only [] <;> omega) | refine HLt.cons (by simp only [] <;> omega) (by simp only [Tok.lt, SV.ltL, SV.lt, and_true, true_and] <;> omega) ?_)) (by simp only [] <;> omega)
                simp only [frEq_cons, frEq_nil, frIn_cons, frIn_nil, and_true, fget_cons, Nat.reduceEqDiff, reduceIte, ↓reduceIte, true_and, SV.ren, SV.renL, ren1]
                simp
            · have hS : setE top [cfgN e o n] b 0 (e + 1) n [] = .nil := by rw [hS1, if_neg h7]
              have d2 : decide (top ≤ b) = true := decide_eq_true (by omega)
              simp (maxSteps := 4000000) only [walkSet, eq_self, implies_true, evMdl, evMupD, evMup, evLkp, Int.reduceEq, Int.reduceBEq, Int.reduceBNe, Int.reduceLE, Int.reduceLT, Int.reduceAdd, Int.reduceSub, Int.reduceMul, Int.reduceNeg, frpL, preF, preP, prePt, prePd, frzP, evNlq, ev, frOf, oget, ogets, argSs, argS, evMm, frzL, evBin, evWrp, evShf, evCmp, evUna, evNil, evBeq, evLd, evSt, evFad, evIad, evAad, evLen, evSln, evEls, evApp, evParts, evSlc, evNlc, evMif, evPck, evFld, evBld, evTas, evIfq, evSeq, evSl0, evBxf, evAgl, evAgq, evBsf, hget, hset, hdel, cellAt, arrAt, setCellAt, setArrAt, takeC, lenC, svCells, SV.okc, SV.one, ldSV, Fw.isAgg, Nat.reduceMul, Nat.reduceSub, Nat.reduceLeDiff, Nat.reduceLT, explode, explodeL, toD, toDL, toD1, Ty.size, Ty.sizeL, frz1, Fr.sub, Heap.sub, Tok.sub, SV.sub, SV.subL, Nat.reduceEqDiff, Nat.reduceAdd, reduceCtorEq, ↓reduceIte, reduceIte, c2, spNumber, g30, hz, ht, hb, spRTake, gOk_c, gE_c, gM_c, gI_c, cOk_c, cL_c, hT, spIs, fe_End, fa_End, fe_Sum, fa_Sum, fe_Shape, fa_Shape, fe_Many, fa_Many, fe_Range, fa_Range, fe_Kind, fa_Kind, fe_None, fa_None, fe_There, fa_There, fe_Full, fa_Full, fe_Crash, fa_Crash, fe_State, fa_State, fe_Conflict, fa_Conflict, fe_Waits, fa_Waits, fe_Limit, fa_Limit, fe_Fenced, fa_Fenced, fe_Word, fa_Word, fe_Number, fa_Number, fe_nil, d1, hmax, spRGet, hregs, getR_one, cfgA, hl6, q6, hmod, spCBegin, hb1, hb2, spCCommit, hEn, hRt, spRSet, hS, d2, hregs2, spSameConfig, sameC_refl, e00, Int.toNat_natCast, min_i64, max_i64]
              refine ⟨⟨by omega, by omega⟩, by decide, ⟨by omega, by omega⟩, ⟨by omega, by omega⟩, ⟨⟨by omega, by omega⟩, ⟨by decide, z30.1, z30.2⟩, ⟨by omega, by omega⟩, ?_⟩, ⟨by omega, by omega⟩, ⟨by decide, z30.1, z30.2⟩, ⟨by omega, by omega⟩, ?_⟩
              all_goals
                refine next top (e + 1) n [] _ (by omega) (by omega) (by omega) (by omega) hst1 hlowN ?_
                refine leq_id ?_ (by (simp only [frLt_cons, frLt_nil, and_true, SV.lt, SV.ltL, true_and] <;> omega)) (by ((try simp only []); repeat first | exact HLe.refl _ | refine HLe.cons (by simp only [hget, Nat.reduceEqDiff, Nat.left_eq_add, Nat.add_eq_left, nm_ne2, nm_en2, nm_ne3, nm_en3, nm_ne4, nm_en4, nm_ne5, nm_en5, reduceIte, ↓reduceIte] <;> first | rfl | ((repeat rw [if_neg (by omega)]) <;> rfl)) ?_ | refine HLe.skip hnm (by omega) ?_ | refine HLe.frz hnm (by omega) ?_ | refine HLe.del hnm (by omega) ?_)) (by (repeat first | exact HLt.mono hnm (by simp only [] <;> omega) | refine HLt.cons (by simp only [] <;> omega) (by simp only [Tok.lt, SV.ltL, SV.lt, and_true, true_and] <;> omega) ?_)) (by simp only [] <;> omega)
                simp only [frEq_cons, frEq_nil, frIn_cons, frIn_nil, and_true, fget_cons, Nat.reduceEqDiff, reduceIte, ↓reduceIte, true_and, SV.ren, SV.renL, ren1]
                simp
          · have hT : takeE top t = .nil := by unfold takeE; rw [if_neg (by omega), if_neg h4]
            have d1 : decide (top < t) = true := decide_eq_true (by omega)
            have hmax : max top t = t := by omega
            by_cases h7 : b < t
            · have hS : setE t [cfgN e o n] b 0 (e + 1) n [] = .err 6 := by rw [hS1, if_pos h7]
              have d2 : decide (t ≤ b) = false := decide_eq_false (by omega)
              simp (maxSteps := 4000000) only [walkSet, eq_self, implies_true, evMdl, evMupD, evMup, evLkp, Int.reduceEq, Int.reduceBEq, Int.reduceBNe, Int.reduceLE, Int.reduceLT, Int.reduceAdd, Int.reduceSub, Int.reduceMul, Int.reduceNeg, frpL, preF, preP, prePt, prePd, frzP, evNlq, ev, frOf, oget, ogets, argSs, argS, evMm, frzL, evBin, evWrp, evShf, evCmp, evUna, evNil, evBeq, evLd, evSt, evFad, evIad, evAad, evLen, evSln, evEls, evApp, evParts, evSlc, evNlc, evMif, evPck, evFld, evBld, evTas, evIfq, evSeq, evSl0, evBxf, evAgl, evAgq, evBsf, hget, hset, hdel, cellAt, arrAt, setCellAt, setArrAt, takeC, lenC, svCells, SV.okc, SV.one, ldSV, Fw.isAgg, Nat.reduceMul, Nat.reduceSub, Nat.reduceLeDiff, Nat.reduceLT, explode, explodeL, toD, toDL, toD1, Ty.size, Ty.sizeL, frz1, Fr.sub, Heap.sub, Tok.sub, SV.sub, SV.subL, Nat.reduceEqDiff, Nat.reduceAdd, reduceCtorEq, ↓reduceIte, reduceIte, c2, spNumber, g30, hz, ht, hb, spRTake, gOk_c, gE_c, gM_c, gI_c, cOk_c, cL_c, hT, spIs, fe_End, fa_End, fe_Sum, fa_Sum, fe_Shape, fa_Shape, fe_Many, fa_Many, fe_Range, fa_Range, fe_Kind, fa_Kind, fe_None, fa_None, fe_There, fa_There, fe_Full, fa_Full, fe_Crash, fa_Crash, fe_State, fa_State, fe_Conflict, fa_Conflict, fe_Waits, fa_Waits, fe_Limit, fa_Limit, fe_Fenced, fa_Fenced, fe_Word, fa_Word, fe_Number, fa_Number, fe_nil, d1, hmax, spRGet, hregs, getR_one, cfgA, hl6, q6, hmod, spCBegin, hb1, hb2, spCCommit, hEn, hRt, spRSet, hS, d2, hregs2, spSameConfig, sameC_refl, e00, Int.toNat_natCast, min_i64, max_i64]
              refine ⟨⟨by omega, by omega⟩, by decide, ⟨by omega, by omega⟩, ⟨by omega, by omega⟩, ⟨⟨by omega, by omega⟩, ⟨by decide, z30.1, z30.2⟩, ⟨by omega, by omega⟩, ?_⟩, ⟨by omega, by omega⟩, ⟨by decide, z30.1, z30.2⟩, ⟨by omega, by omega⟩, ?_⟩
              all_goals
                refine next t e o n _ (by omega) (by omega) (by omega) (by omega) hst0 hlow1 ?_
                refine leq_id ?_ (by (simp only [frLt_cons, frLt_nil, and_true, SV.lt, SV.ltL, true_and] <;> omega)) (by ((try simp only []); repeat first | exact HLe.refl _ | refine HLe.cons (by simp only [hget, Nat.reduceEqDiff, Nat.left_eq_add, Nat.add_eq_left, nm_ne2, nm_en2, nm_ne3, nm_en3, nm_ne4, nm_en4, nm_ne5, nm_en5, reduceIte, ↓reduceIte] <;> first | rfl | ((repeat rw [if_neg (by omega)]) <;> rfl)) ?_ | refine HLe.skip hnm (by omega) ?_ | refine HLe.frz hnm (by omega) ?_ | refine HLe.del hnm (by omega) ?_)) (by (repeat first | exact HLt.mono hnm (by simp only [] <;> omega) | refine HLt.cons (by simp only [] <;> omega) (by simp only [Tok.lt, SV.ltL, SV.lt, and_true, true_and] <;> omega) ?_)) (by simp only [] <;> omega)
                simp only [frEq_cons, frEq_nil, frIn_cons, frIn_nil, and_true, fget_cons, Nat.reduceEqDiff, reduceIte, ↓reduceIte, true_and, SV.ren, SV.renL, ren1]
                simp
            · have hS : setE t [cfgN e o n] b 0 (e + 1) n [] = .nil := by rw [hS1, if_neg h7]
              have d2 : decide (t ≤ b) = true := decide_eq_true (by omega)
              simp (maxSteps := 4000000) only [walkSet, eq_self, implies_true, evMdl, evMupD, evMup, evLkp, Int.reduceEq, Int.reduceBEq, Int.reduceBNe, Int.reduceLE, Int.reduceLT, Int.reduceAdd, Int.reduceSub, Int.reduceMul, Int.reduceNeg, frpL, preF, preP, prePt, prePd, frzP, evNlq, ev, frOf, oget, ogets, argSs, argS, evMm, frzL, evBin, evWrp, evShf, evCmp, evUna, evNil, evBeq, evLd, evSt, evFad, evIad, evAad, evLen, evSln, evEls, evApp, evParts, evSlc, evNlc, evMif, evPck, evFld, evBld, evTas, evIfq, evSeq, evSl0, evBxf, evAgl, evAgq, evBsf, hget, hset, hdel, cellAt, arrAt, setCellAt, setArrAt, takeC, lenC, svCells, SV.okc, SV.one, ldSV, Fw.isAgg, Nat.reduceMul, Nat.reduceSub, Nat.reduceLeDiff, Nat.reduceLT, explode, explodeL, toD, toDL, toD1, Ty.size, Ty.sizeL, frz1, Fr.sub, Heap.sub, Tok.sub, SV.sub, SV.subL, Nat.reduceEqDiff, Nat.reduceAdd, reduceCtorEq, ↓reduceIte, reduceIte, c2, spNumber, g30, hz, ht, hb, spRTake, gOk_c, gE_c, gM_c, gI_c, cOk_c, cL_c, hT, spIs, fe_End, fa_End, fe_Sum, fa_Sum, fe_Shape, fa_Shape, fe_Many, fa_Many, fe_Range, fa_Range, fe_Kind, fa_Kind, fe_None, fa_None, fe_There, fa_There, fe_Full, fa_Full, fe_Crash, fa_Crash, fe_State, fa_State, fe_Conflict, fa_Conflict, fe_Waits, fa_Waits, fe_Limit, fa_Limit, fe_Fenced, fa_Fenced, fe_Word, fa_Word, fe_Number, fa_Number, fe_nil, d1, hmax, spRGet, hregs, getR_one, cfgA, hl6, q6, hmod, spCBegin, hb1, hb2, spCCommit, hEn, hRt, spRSet, hS, d2, hregs2, spSameConfig, sameC_refl, e00, Int.toNat_natCast, min_i64, max_i64]
              refine ⟨⟨by omega, by omega⟩, by decide, ⟨by omega, by omega⟩, ⟨by omega, by omega⟩, ⟨⟨by omega, by omega⟩, ⟨by decide, z30.1, z30.2⟩, ⟨by omega, by omega⟩, ?_⟩, ⟨by omega, by omega⟩, ⟨by decide, z30.1, z30.2⟩, ⟨by omega, by omega⟩, ?_⟩
              all_goals
                refine next t (e + 1) n [] _ (by omega) (by omega) (by omega) (by omega) hst1 hlowN ?_
                refine leq_id ?_ (by (simp only [frLt_cons, frLt_nil, and_true, SV.lt, SV.ltL, true_and] <;> omega)) (by ((try simp only []); repeat first | exact HLe.refl _ | refine HLe.cons (by simp only [hget, Nat.reduceEqDiff, Nat.left_eq_add, Nat.add_eq_left, nm_ne2, nm_en2, nm_ne3, nm_en3, nm_ne4, nm_en4, nm_ne5, nm_en5, reduceIte, ↓reduceIte] <;> first | rfl | ((repeat rw [if_neg (by omega)]) <;> rfl)) ?_ | refine HLe.skip hnm (by omega) ?_ | refine HLe.frz hnm (by omega) ?_ | refine HLe.del hnm (by omega) ?_)) (by (repeat first | exact HLt.mono hnm (by simp only [] <;> omega) | refine HLt.cons (by simp only [] <;> omega) (by simp only [Tok.lt, SV.ltL, SV.lt, and_true, true_and] <;> omega) ?_)) (by simp only [] <;> omega)
                simp only [frEq_cons, frEq_nil, frIn_cons, frIn_nil, and_true, fget_cons, Nat.reduceEqDiff, reduceIte, ↓reduceIte, true_and, SV.ren, SV.renL, ren1]
                simp
      · obtain rfl : i = l.length := by omega
        have c2 : decide ((l.length : Int) < (l.length : Int)) = false := decide_eq_false (by omega)
        simp (maxSteps := 4000000) only [walkSet, eq_self, implies_true, evMdl, evMupD, evMup, evLkp, Int.reduceEq, Int.reduceBEq, Int.reduceBNe, Int.reduceLE, Int.reduceLT, Int.reduceAdd, Int.reduceSub, Int.reduceMul, Int.reduceNeg, frpL, preF, preP, prePt, prePd, frzP, evNlq, ev, frOf, oget, ogets, argSs, argS, evMm, frzL, evBin, evWrp, evShf, evCmp, evUna, evNil, evBeq, evLd, evSt, evFad, evIad, evAad, evLen, evSln, evEls, evApp, evParts, evSlc, evNlc, evMif, evPck, evFld, evBld, evTas, evIfq, evSeq, evSl0, evBxf, evAgl, evAgq, evBsf, hget, hset, hdel, cellAt, arrAt, setCellAt, setArrAt, takeC, lenC, svCells, SV.okc, SV.one, ldSV, Fw.isAgg, Nat.reduceMul, Nat.reduceSub, Nat.reduceLeDiff, Nat.reduceLT, explode, explodeL, toD, toDL, toD1, Ty.size, Ty.sizeL, frz1, Fr.sub, Heap.sub, Tok.sub, SV.sub, SV.subL, Nat.reduceEqDiff, Nat.reduceAdd, reduceCtorEq, ↓reduceIte, reduceIte, c2, spREpoch, gOk_c, gE_c]
        exact ret _ _ (by ((try simp only []); repeat first | exact HLe.refl _ | refine HLe.cons (by simp only [hget, Nat.reduceEqDiff, Nat.left_eq_add, Nat.add_eq_left, nm_ne2, nm_en2, nm_ne3, nm_en3, nm_ne4, nm_en4, nm_ne5, nm_en5, reduceIte, ↓reduceIte] <;> first | rfl | ((repeat rw [if_neg (by omega)]) <;> rfl)) ?_ | refine HLe.skip hnm (by omega) ?_ | refine HLe.frz hnm (by omega) ?_ | refine HLe.del hnm (by omega) ?_))
  · exact hsp.elim
end Go.Proofs.YtkojpimkngmckaaDoor
