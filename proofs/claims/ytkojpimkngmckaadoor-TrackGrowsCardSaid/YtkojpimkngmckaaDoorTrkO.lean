/- Chapter 14: TrackGrows. -/
import Derived.Test.YtkojpimkngmckaaDoorTrkM
import Derived.Test.YtkojpimkngmckaaDoorNum
import Derived.Test.YtkojpimkngmckaaDoorConfS
namespace Go.Proofs.YtkojpimkngmckaaDoor
set_option linter.unusedVariables false
set_option linter.unusedSimpArgs false
open Go Go.Fw

theorem six0_get {j : Nat} (h : j < 6) : six0.getD j 0 = (j : Int) := by
  have : j = 0 ∨ j = 1 ∨ j = 2 ∨ j = 3 ∨ j = 4 ∨ j = 5 := by omega
  rcases this with rfl | rfl | rfl | rfl | rfl | rfl <;> rfl
def cntT (f : Int → Option D) (v : Int) (j : Nat) : Nat := (six0.take j).countP (fun n => decide (v ≤ atI f n))
theorem cntT_step (f : Int → Option D) (v : Int) {j : Nat} (h : j < 6) : (cntT f v (j + 1) : Int) = (cntT f v j : Int) + if v ≤ atI f j then 1 else 0 := by
  unfold cntT
  rw [countP_step (show j < six0.length from h), six0_get h]
  simp only [decide_eq_true_eq]
theorem cntT_all (f : Int → Option D) (v : Int) : cntT f v 6 = cnt f v := rfl
theorem cntT_le (f : Int → Option D) (v : Int) (j : Nat) : cntT f v j ≤ 6 := by
  unfold cntT
  exact Nat.le_trans List.countP_le_length (by rw [List.length_take]; exact Nat.min_le_right _ _)
theorem cnt_mono {f g : Int → Option D} {v : Int} (h : ∀ n, atI f n ≤ atI g n) : cnt f v ≤ cnt g v := by
  unfold cnt
  refine List.countP_mono_left (fun n _ hn => ?_)
  have := h n
  rw [decide_eq_true_eq] at hn ⊢
  omega
theorem pg6_mono {f g : Int → Option D} (h : ∀ n, atI f n ≤ atI g n) : pgcl (sixL 0) p6 f ≤ pgcl (sixL 0) p6 g := by
  obtain ⟨a1, a2, a3⟩ := pg6 f
  obtain ⟨b1, b2, b3⟩ := pg6 g
  rcases a2 with a2 | a2
  · omega
  · exact b3 _ (Nat.le_trans a2 (cnt_mono h))
theorem pg6_more {f : Int → Option D} (h : ∀ n, 0 ≤ atI f n) : 4 ≤ cnt f (pgcl (sixL 0) p6 f) := by
  obtain ⟨a1, a2, a3⟩ := pg6 f
  rcases a2 with a2 | a2
  · rw [a2, cnt_eq]
    simp [h]
  · exact a2
theorem pg6_above (f : Int → Option D) : cnt f (pgcl (sixL 0) p6 f + 1) < 4 := by
  obtain ⟨a1, a2, a3⟩ := pg6 f
  by_cases h : 4 ≤ cnt f (pgcl (sixL 0) p6 f + 1)
  · have := a3 _ h
    omega
  · omega
theorem pg6_empty : pgcl (sixL 0) p6 mEmpty = 0 := pg6_eq (by decide) (.inl rfl) (fun y hy => by
  rw [cnt_eq]
  simp only [atI_empty]
  have : ¬ y ≤ 0 := by omega
  simp [this])
theorem set_get {H : List D} {k j : Nat} {v : D} (hk : k < H.length) : (H.set k v).getD j .nil = if j = k then v else H.getD j .nil := by
  rw [List.getD_eq_getElem?_getD, List.getElem?_set]
  by_cases h : k = j
  · subst h
    simp [hk]
  · rw [if_neg h, if_neg (fun e => h e.symm), List.getD_eq_getElem?_getD]
def WTrackGrows : Opts := mkWF 113 [] [3, 4, 5] [] 184 [3, 4, 5] [] [] [97]
def icTrackGrows : IC := (.seq (.seq (.ops [(.u (.mov 2 (.c (.bool false))))]) (.tr [0])) (.seq (.seq (.ops [(.u (.call 15 (.c (.clo 22 [])) [] [] true)), (.u (.mov 3 (.s 15)))]) (.tr [3, 0])) (.seq (.seq (.seq (.ops [(.u (.mov 16 (.s 3))), (.u (.una 17 .not (.s 16)))]) (.tr [17, 3, 0])) (.cond (.s 17) (.seq (.seq (.ops [(.u (.mov 2 (.c (.bool false))))]) (.tr [2])) .ret) .skip)) (.seq (.seq (.seq (.ops [(.u (.mov 18 (.s 0))), (.u (.len 19 false (.s 18))), (.u (.cmp 20 .gtr (.s 19) (.c (.int .i64 40)))), (.u (.mov 21 (.s 20))), (.g 21 false (some 22) (.mov 22 (.s 3))), (.g 21 false (some 23) (.una 23 .not (.s 22))), (.u (.pck 24 (.s 21) (.c (.bool true)) (.s 23)))]) (.tr [24, 3, 0])) (.cond (.s 24) (.seq (.seq (.ops [(.u (.mov 25 (.s 3))), (.u (.mov 2 (.s 25)))]) (.tr [2])) .ret) .skip)) (.seq (.seq (.ops [(.u (.call 27 (.c (.clo 24 [])) [] [] true)), (.u (.call 28 (.c (.clo 23 [])) [(.s 27)] [none] true)), (.u (.mov 26 (.s 28))), (.u (.ext 29 0 (.s 26))), (.u (.ext 30 1 (.s 26))), (.u (.mov 4 (.s 29))), (.u (.mov 5 (.s 30)))]) (.tr [5, 0, 4])) (.seq (.seq (.seq (.ops [(.u (.mov 31 (.s 4))), (.u (.eqb 32 false 1 (.s 31))), (.u (.mov 33 (.s 32))), (.g 33 false (some 34) (.mov 34 (.s 5))), (.g 33 false (some 35) (.eqb 35 true 0 (.s 34))), (.u (.pck 36 (.s 33) (.c (.bool true)) (.s 35)))]) (.tr [36, 0, 4])) (.cond (.s 36) (.seq (.seq (.ops [(.u (.mov 2 (.c (.bool false))))]) (.tr [2])) .ret) .skip)) (.seq (.seq (.ops [(.u (.mk 37 2 (.int .i64) 8 (.int 0) (.c (.int .i64 6)) (.c (.int .i64 6)))), (.u (.mov 6 (.s 37)))]) (.tr [0, 4, 6])) (.seq (.seq (.ops [(.u (.mov 7 (.c (.int .i64 0))))]) (.tr [0, 7, 4, 6])) (.seq (.seq (.seq (.ops [(.u (.mov 8 (.c (.int .i64 0))))]) (.tr [0, 7, 4, 6, 8])) (.block 0 (.loop (.seq (.seq (.seq (.ops [(.u (.mov 38 (.s 8))), (.u (.mov 39 (.s 0))), (.u (.len 40 false (.s 39))), (.u (.cmp 41 .lss (.s 38) (.s 40)))]) (.tr [41, 8, 0, 7, 4, 6])) (.cond (.s 41) .skip (.exit 0))) (.seq (.block 1 (.seq (.seq (.ops [(.u (.mov 44 (.s 0))), (.u (.mov 45 (.s 8))), (.u (.iad 46 3 (.int .i64) (.s 44) (.s 45))), (.u (.ld 47 (.int .i64) (.s 46))), (.u (.call 48 (.c (.clo 25 [])) [(.s 47), (.c (.int .i64 6))] [none, none] true)), (.u (.mov 9 (.s 48)))]) (.tr [9, 8, 0, 7, 4, 6])) (.seq (.seq (.ops [(.u (.mov 49 (.s 0))), (.u (.mov 50 (.s 8))), (.u (.iad 51 3 (.int .i64) (.s 49) (.s 50))), (.u (.ld 52 (.int .i64) (.s 51))), (.u (.bin 53 .quo .i64 (.s 52) (.c (.int .i64 6)))), (.u (.call 54 (.c (.clo 25 [])) [(.s 53), (.c (.int .i64 50))] [none, none] true)), (.u (.mov 10 (.s 54)))]) (.tr [10, 9, 8, 0, 7, 4, 6])) (.seq (.seq (.seq (.ops [(.u (.mov 55 (.s 4))), (.u (.mov 56 (.s 9))), (.u (.mov 57 (.s 10))), (.u (.call 58 (.c (.clo 26 [])) [(.s 55), (.s 56), (.c (.int .i64 0)), (.s 57)] [none, none, none, none] true)), (.u (.una 59 .not (.s 58)))]) (.tr [59, 10, 9, 8, 0, 7, 4, 6])) (.cond (.s 59) (.seq (.seq (.ops [(.u (.mov 2 (.c (.bool false))))]) (.tr [2])) .ret) .skip)) (.seq (.seq (.ops [(.u (.mov 60 (.s 6))), (.u (.mov 61 (.s 9))), (.u (.mov 62 (.s 6))), (.u (.mov 63 (.s 9))), (.u (.iad 64 2 (.int .i64) (.s 62) (.s 63))), (.u (.ld 65 (.int .i64) (.s 64))), (.u (.mov 66 (.s 10))), (.u (.mmx 67 true [(.s 65), (.s 66)])), (.u (.iad 68 2 (.int .i64) (.s 60) (.s 61))), (.u (.st (.int .i64) (.s 68) (.s 67)))]) (.tr [9, 8, 0, 7, 4, 6])) (.seq (.seq (.ops [(.u (.mov 69 (.s 4))), (.u (.call 70 (.c (.clo 27 [])) [(.s 69)] [none] true)), (.u (.mov 11 (.s 70)))]) (.tr [9, 11, 8, 0, 7, 4, 6])) (.seq (.seq (.ops [(.u (.mov 12 (.c (.int .i64 0))))]) (.tr [9, 12, 11, 8, 0, 7, 4, 6])) (.seq (.seq (.ops [(.u (.mov 13 (.c (.int .i64 0))))]) (.tr [9, 12, 13, 11, 8, 0, 7, 4, 6])) (.seq (.seq (.seq (.ops [(.u (.mov 14 (.c (.int .i64 0))))]) (.tr [14, 9, 12, 13, 11, 8, 0, 7, 4, 6])) (.block 2 (.loop (.seq (.seq (.seq (.ops [(.u (.mov 71 (.s 14))), (.u (.cmp 72 .lss (.s 71) (.c (.int .i64 6))))]) (.tr [72, 14, 9, 12, 13, 11, 8, 0, 7, 4, 6])) (.cond (.s 72) .skip (.exit 2))) (.seq (.block 3 (.seq (.seq (.seq (.ops [(.u (.mov 75 (.s 6))), (.u (.mov 76 (.s 14))), (.u (.iad 77 2 (.int .i64) (.s 75) (.s 76))), (.u (.ld 78 (.int .i64) (.s 77))), (.u (.mov 79 (.s 11))), (.u (.cmp 80 .geq (.s 78) (.s 79)))]) (.tr [80, 14, 9, 12, 13, 11, 8, 0, 7, 4, 6])) (.cond (.s 80) (.seq (.ops [(.u (.mov 81 (.s 12))), (.u (.bin 82 .add .i64 (.s 81) (.c (.int .i64 1)))), (.u (.mov 12 (.s 82)))]) (.tr [14, 9, 12, 13, 11, 8, 0, 7, 4, 6])) .skip)) (.seq (.seq (.ops [(.u (.mov 83 (.s 6))), (.u (.mov 84 (.s 14))), (.u (.iad 85 2 (.int .i64) (.s 83) (.s 84))), (.u (.ld 86 (.int .i64) (.s 85))), (.u (.mov 87 (.s 11))), (.u (.cmp 88 .gtr (.s 86) (.s 87)))]) (.tr [88, 14, 9, 12, 13, 11, 8, 0, 7, 4, 6])) (.cond (.s 88) (.seq (.ops [(.u (.mov 89 (.s 13))), (.u (.bin 90 .add .i64 (.s 89) (.c (.int .i64 1)))), (.u (.mov 13 (.s 90)))]) (.tr [14, 9, 12, 13, 11, 8, 0, 7, 4, 6])) .skip)))) (.seq (.ops [(.u (.mov 73 (.s 14))), (.u (.bin 74 .add .i64 (.s 73) (.c (.int .i64 1)))), (.u (.mov 14 (.s 74)))]) (.tr [14, 9, 12, 13, 11, 8, 0, 7, 4, 6]))))))) (.seq (.seq (.seq (.rgn [(.s 4), (.s 9)] [(false, (.u (.mov 91 (.s 11)))), (false, (.u (.mov 92 (.s 7)))), (false, (.u (.cmp 93 .lss (.s 91) (.s 92)))), (false, (.u (.mov 94 (.s 93)))), (false, (.g 94 false (some 95) (.mov 95 (.s 4)))), (false, (.g 94 false (some 96) (.mov 96 (.s 9)))), (false, (.g 94 false (some 98) (.mov 98 (.s 6)))), (false, (.g 94 false (some 99) (.mov 99 (.s 9)))), (false, (.g 94 false (some 100) (.iad 100 2 (.int .i64) (.s 98) (.s 99)))), (false, (.g 94 false (some 101) (.ld 101 (.int .i64) (.s 100)))), (true, (.g 94 false (some 97) (.call 97 (.c (.clo 28 [])) [(.s 95), (.s 96)] [none, none] true))), (false, (.g 94 false (some 102) (.cmp 102 .neq (.s 97) (.s 101)))), (false, (.u (.pck 103 (.s 94) (.c (.bool true)) (.s 102)))), (false, (.u (.mov 104 (.s 103)))), (false, (.g 104 false (some 105) (.mov 105 (.s 12)))), (false, (.g 104 false (some 106) (.cmp 106 .lss (.s 105) (.c (.int .i64 4))))), (false, (.u (.pck 107 (.s 104) (.c (.bool true)) (.s 106)))), (false, (.u (.mov 108 (.s 107)))), (false, (.g 108 false (some 109) (.mov 109 (.s 13)))), (false, (.g 108 false (some 110) (.cmp 110 .geq (.s 109) (.c (.int .i64 4))))), (false, (.u (.pck 111 (.s 108) (.c (.bool true)) (.s 110))))]) (.tr [111, 11, 8, 0, 4, 6])) (.cond (.s 111) (.seq (.seq (.ops [(.u (.mov 2 (.c (.bool false))))]) (.tr [2])) .ret) .skip)) (.seq (.ops [(.u (.mov 112 (.s 11))), (.u (.mov 7 (.s 112)))]) (.tr [8, 0, 7, 4, 6])))))))))))) (.seq (.ops [(.u (.mov 42 (.s 8))), (.u (.bin 43 .add .i64 (.s 42) (.c (.int .i64 1)))), (.u (.mov 8 (.s 43)))]) (.tr [0, 7, 4, 6, 8]))))))) (.seq (.seq (.ops [(.u (.mov 2 (.c (.bool true))))]) (.tr [2])) .ret))))))))))
def rsTrackGrows : List RV := [(.t 2)]
theorem irTrackGrows : fnIR Tryd.prog WTrackGrows 4 = some (icTrackGrows, rsTrackGrows) := by kernel_rfl
def spTrackGrows : FSpec := fun args h nx K => match args with
  | [.dat (.slice 3) d] => K (.bool true) h
  | _ => False
set_option maxHeartbeats 4000000 in
set_option maxRecDepth 8000 in
theorem vTrackGrows {E : Nat → Value} (hE : Errs2 Tryd.prog (some 184) E) : Valid Tryd.prog E (gs GCE) 4 spTrackGrows := by
  refine valid_go (W := WTrackGrows) hE (((((((allValid_bot.add (up (vL14first hE))).add (up (vNumber hE))).add (up (vL14six hE))).add (up (vTNew hE))).add (up (vTAck hE))).add (up (vTPgcl hE))).add (up (vTScl hE))) irTrackGrows (by decide) (fun args h nx K hsp hok hnm => ?_)
  unfold spTrackGrows at hsp
  split at hsp
  · rename_i d
    have hK := hsp
    refine ⟨by simp [WTrackGrows, mkW, mkWE, mkWF], fun Q hQ => ?_⟩
    obtain ⟨hd, _⟩ := hok
    simp only [SV.ok] at hd
    obtain ⟨hd1, hd2, hd3⟩ := Wt.slice hd; generalize d.l = l at *; subst hd1
    have hs6 : (sixL 0).length ≤ 1000 := by decide
    have hp6 := p6_ok
    have ret : ∀ h' nx', HLe h h' → Q Ex.ret ⟨[(2, .bool true)], h', nx'⟩ := fun h' nx' hh => by
      refine (hQ _ ?_).1
      exact fin_t (.bool true) rfl rfl hnm hh hK
    by_cases h40 : 40 < l.length
    · have c1 : decide (40 < (l.length : Int)) = true := decide_eq_true (by omega)
      simp (maxSteps := 4000000) only [icTrackGrows, walkSet, eq_self, implies_true, evMdl, evMupD, evMup, evLkp, Int.reduceEq, Int.reduceBEq, Int.reduceBNe, Int.reduceLE, Int.reduceLT, Int.reduceAdd, Int.reduceSub, Int.reduceMul, Int.reduceNeg, frpL, preF, preP, prePt, prePd, frzP, evNlq, ev, frOf, oget, ogets, argSs, argS, evMm, frzL, evBin, evWrp, evShf, evCmp, evUna, evNil, evBeq, evLd, evSt, evFad, evIad, evAad, evLen, evSln, evEls, evApp, evParts, evSlc, evNlc, evMif, evPck, evFld, evBld, evTas, evIfq, evSeq, evSl0, evBxf, evAgl, evAgq, evBsf, hget, hset, hdel, cellAt, arrAt, setCellAt, setArrAt, takeC, lenC, svCells, SV.okc, SV.one, ldSV, Fw.isAgg, Nat.reduceMul, Nat.reduceSub, Nat.reduceLeDiff, Nat.reduceLT, explode, explodeL, toD, toDL, toD1, Ty.size, Ty.sizeL, frz1, Fr.sub, Heap.sub, Tok.sub, SV.sub, SV.subL, Nat.reduceEqDiff, Nat.reduceAdd, reduceCtorEq, ↓reduceIte, reduceIte, spL14first, c1]
      exact ret _ _ (by ((try simp only []); repeat first | exact HLe.refl _ | refine HLe.cons (by simp only [hget, Nat.reduceEqDiff, Nat.left_eq_add, Nat.add_eq_left, nm_ne2, nm_en2, nm_ne3, nm_en3, nm_ne4, nm_en4, nm_ne5, nm_en5, reduceIte, ↓reduceIte] <;> first | rfl | ((repeat rw [if_neg (by omega)]) <;> rfl)) ?_ | refine HLe.skip hnm (by omega) ?_ | refine HLe.frz hnm (by omega) ?_ | refine HLe.del hnm (by omega) ?_))
    have c1 : decide (40 < (l.length : Int)) = false := decide_eq_false (by omega)
    have g50 : (0 : Int) < 50 := by decide
    have g6 : (0 : Int) < 6 := by decide
    simp (maxSteps := 4000000) only [icTrackGrows, walkSet, eq_self, implies_true, evMdl, evMupD, evMup, evLkp, Int.reduceEq, Int.reduceBEq, Int.reduceBNe, Int.reduceLE, Int.reduceLT, Int.reduceAdd, Int.reduceSub, Int.reduceMul, Int.reduceNeg, frpL, preF, preP, prePt, prePd, frzP, evNlq, ev, frOf, oget, ogets, argSs, argS, evMm, frzL, evBin, evWrp, evShf, evCmp, evUna, evNil, evBeq, evLd, evSt, evFad, evIad, evAad, evLen, evSln, evEls, evApp, evParts, evSlc, evNlc, evMif, evPck, evFld, evBld, evTas, evIfq, evSeq, evSl0, evBxf, evAgl, evAgq, evBsf, hget, hset, hdel, cellAt, arrAt, setCellAt, setArrAt, takeC, lenC, svCells, SV.okc, SV.one, ldSV, Fw.isAgg, Nat.reduceMul, Nat.reduceSub, Nat.reduceLeDiff, Nat.reduceLT, explode, explodeL, toD, toDL, toD1, Ty.size, Ty.sizeL, frz1, Fr.sub, Heap.sub, Tok.sub, SV.sub, SV.subL, Nat.reduceEqDiff, Nat.reduceAdd, reduceCtorEq, ↓reduceIte, reduceIte, spL14first, c1, spL14six, spTNew, cfgA, six_nil, tNew_six]
    refine ⟨by decide, ?_⟩
    have e6 : List.replicate (Int.toNat 6) (D.int 0) = [.int 0, .int 0, .int 0, .int 0, .int 0, .int 0] := rfl
    rw [e6]
    refine go_loop (α := { x : Nat × (Int → Option D) × List D // x.1 ≤ l.length ∧ x.2.2.length = 6 ∧ (∀ j : Nat, j < 6 → x.2.2.getD j .nil = .int (atI x.2.1 j)) ∧ ∀ n, 0 ≤ atI x.2.1 n ∧ atI x.2.1 n ≤ 50 }) (I := fun x => { f := [(8, .int .i64 x.1.1), (0, .dat (.slice 3) (.list l)), (7, .int .i64 (pgcl (sixL 0) p6 x.1.2.1)), (4, .ptr nx 0), (6, .vec (nx + 3))], h := [(nx, tCells (nx + 1) (nx + 2)), (nx + 1, .map 3 2 x.1.2.1), (nx + 2, .map 3 3 mEmpty), (nx + 3, .arr 2 (.int .i64) x.1.2.2)] ++ h, nx := nx + 4 }) (μ := fun x => l.length - x.1.1) _ _ _ ⟨(0, mEmpty, [.int 0, .int 0, .int 0, .int 0, .int 0, .int 0]), by omega, rfl, fun j hj => by
      have : j = 0 ∨ j = 1 ∨ j = 2 ∨ j = 3 ∨ j = 4 ∨ j = 5 := by omega
      rcases this with rfl | rfl | rfl | rfl | rfl | rfl <;> rfl, fun n => by rw [atI_empty]; decide⟩ ?_ (fun x B hB => ?_)
    · simp only [pg6_empty]
      refine leq_news [(nx, nx + 64 + 64), (nx + 1, nx + 64 + 64 + 1), (nx + 2, nx + 64 + 64 + 2), (nx + 3, nx + 64 + 64 + 64)] [(nx, tCells (nx + 1) (nx + 2)), (nx + 1, .map 3 2 mEmpty), (nx + 2, .map 3 3 mEmpty), (nx + 3, .arr 2 (.int .i64) [.int 0, .int 0, .int 0, .int 0, .int 0, .int 0])] (.refl _) (by simp) (by simp <;> omega) (by simp <;> omega) rfl ?_ ?_ ?_ ?_ hnm ?_ (by omega)
      · simp [frIn_cons, frIn_nil, fget_cons, fget_nil, SV.ren, SV.renL, rens]
      · (simp only [frLt_cons, frLt_nil, and_true, SV.lt, SV.ltL, true_and] <;> omega)
      · simp only [tCells]
        (simp only [List.mem_cons, List.not_mem_nil, or_false, forall_eq_or_imp, forall_eq]; simp [hget, rens, Tok.ren, SV.ren, SV.renL])
      · simp only [tCells]
        (simp only [List.mem_cons, List.not_mem_nil, or_false, forall_eq_or_imp, forall_eq, Tok.lt, SV.lt, SV.ltL, and_true, true_and] <;> omega)
      · ((try simp only []); repeat first | exact HLe.refl _ | refine HLe.cons (by simp only [hget, Nat.reduceEqDiff, Nat.left_eq_add, Nat.add_eq_left, nm_ne2, nm_en2, nm_ne3, nm_en3, nm_ne4, nm_en4, nm_ne5, nm_en5, reduceIte, ↓reduceIte] <;> first | rfl | ((repeat rw [if_neg (by omega)]) <;> rfl)) ?_ | refine HLe.skip hnm (by omega) ?_ | refine HLe.frz hnm (by omega) ?_ | refine HLe.del hnm (by omega) ?_)
    · obtain ⟨⟨i, f, H⟩, hi, hHl, hH, hf⟩ := x
      simp only at hi hHl hH hf hB
      obtain ⟨last, hlast⟩ : ∃ last, pgcl (sixL 0) p6 f = last := ⟨_, rfl⟩
      rw [hlast]
      by_cases hil : i < l.length
      · have c2 : decide ((i : Int) < (l.length : Int)) = true := decide_eq_true (by omega)
        obtain ⟨z, hz⟩ : ∃ z, (l.getD i .nil).i = z := ⟨_, rfl⟩
        have hzr : -9223372036854775808 ≤ z ∧ z ≤ 9223372036854775807 := by
          have hm : l.getD i .nil ∈ l := by rw [List.getD_eq_getElem?_getD, List.getElem?_eq_getElem hil]; exact List.getElem_mem hil
          have h8 : Wt Tryd.prog E (.int .i64) (l.getD i .nil) := hd3 _ hm
          have h9 := (Wt.int h8).2
          rw [hz, min_i64, max_i64] at h9
          exact h9
        have z6 := tdiv_range hzr (b := 6) (by decide)
        obtain ⟨k, hk⟩ : ∃ k, z % 6 = k := ⟨_, rfl⟩
        obtain ⟨n, hn⟩ : ∃ n, z.tdiv 6 % 50 = n := ⟨_, rfl⟩
        have hkr : 0 ≤ k ∧ k < 6 := by rw [← hk]; exact ⟨Int.emod_nonneg _ (by decide), Int.emod_lt_of_pos _ (by decide)⟩
        have hnr : 0 ≤ n ∧ n < 50 := by rw [← hn]; exact ⟨Int.emod_nonneg _ (by decide), Int.emod_lt_of_pos _ (by decide)⟩
        have ha := ack6 (g := mEmpty) (n := k) (inc := 0) (scl := n) (by omega) (by omega) rfl (by omega) (by omega)
        have hHk : (H.getD k.toNat .nil).i = atI f k := by rw [hH _ (by omega), D_i, Int.toNat_of_nonneg hkr.1]
        obtain ⟨x, hx⟩ : ∃ x, max (atI f k) n = x := ⟨_, rfl⟩
        have hfk := hf k
        obtain ⟨f', hf'⟩ : ∃ f', mSet f k (.int x) = f' := ⟨_, rfl⟩
        obtain ⟨H', hH'⟩ : ∃ H', H.set k.toNat (.int x) = H' := ⟨_, rfl⟩
        obtain ⟨p, hp⟩ : ∃ p, pgcl (sixL 0) p6 f' = p := ⟨_, rfl⟩
        have hat : ∀ m, atI f' m = if m = k then x else atI f m := fun m => by rw [← hf', atI_set]
        have hf2 : ∀ m, 0 ≤ atI f' m ∧ atI f' m ≤ 50 := fun m => by
          rw [hat]
          have := hf m
          split <;> omega
        have hHl2 : H'.length = 6 := by rw [← hH', List.length_set]; exact hHl
        have hH2 : ∀ j : Nat, j < 6 → H'.getD j .nil = .int (atI f' j) := fun j hj => by
          rw [← hH', set_get (by omega), hat]
          by_cases e : j = k.toNat
          · rw [if_pos e, if_pos (by omega)]
          · rw [if_neg e, if_neg (by omega), hH j hj]
        have m1 : last ≤ p := by
          rw [← hlast, ← hp]
          exact pg6_mono (fun m => by rw [hat]; split <;> rename_i h1 <;> first | (rw [h1]; omega) | exact Int.le_refl _)
        have m2 := pg6_more (f := f') (fun m => (hf2 m).1)
        have m3 := pg6_above f'
        rw [hp] at m2 m3
        have p0 : 0 ≤ p := by rw [← hp]; exact (pg6 f').1
        simp (maxSteps := 4000000) only [walkSet, eq_self, implies_true, evMdl, evMupD, evMup, evLkp, Int.reduceEq, Int.reduceBEq, Int.reduceBNe, Int.reduceLE, Int.reduceLT, Int.reduceAdd, Int.reduceSub, Int.reduceMul, Int.reduceNeg, frpL, preF, preP, prePt, prePd, frzP, evNlq, ev, frOf, oget, ogets, argSs, argS, evMm, frzL, evBin, evWrp, evShf, evCmp, evUna, evNil, evBeq, evLd, evSt, evFad, evIad, evAad, evLen, evSln, evEls, evApp, evParts, evSlc, evNlc, evMif, evPck, evFld, evBld, evTas, evIfq, evSeq, evSl0, evBxf, evAgl, evAgq, evBsf, hget, hset, hdel, cellAt, arrAt, setCellAt, setArrAt, takeC, lenC, svCells, SV.okc, SV.one, ldSV, Fw.isAgg, Nat.reduceMul, Nat.reduceSub, Nat.reduceLeDiff, Nat.reduceLT, explode, explodeL, toD, toDL, toD1, Ty.size, Ty.sizeL, frz1, Fr.sub, Heap.sub, Tok.sub, SV.sub, SV.subL, Nat.reduceEqDiff, Nat.reduceAdd, reduceCtorEq, ↓reduceIte, reduceIte, c2, tCells, spNumber, g50, g6, hz, hk, hn, spTAck, spTPgcl, spTScl, spTBorn, spTDrop, spTHas, tOk_c, tA_c, tB_c, tM_c, tP_c, sOk_c, iOk_c, mF_c, hs6, hp6, ha, hx, hHk, hf', hH', hp, Int.toNat_natCast, min_i64, max_i64]
        refine ⟨by omega, by omega, ⟨by decide, z6.1, z6.2⟩, by omega, by omega, by omega, by omega, ?_⟩
        refine go_loop (α := { j : Nat // j ≤ 6 }) (I := fun j => { f := [(14, .int .i64 j.1), (9, .int .i64 k), (12, .int .i64 (cntT f' p j.1)), (13, .int .i64 (cntT f' (p + 1) j.1)), (11, .int .i64 p), (8, .int .i64 i), (0, .dat (.slice 3) (.list l)), (7, .int .i64 last), (4, .ptr nx 0), (6, .vec (nx + 3))], h := [(nx, tCells (nx + 1) (nx + 2)), (nx + 1, .map 3 2 f'), (nx + 2, .map 3 3 mEmpty), (nx + 3, .arr 2 (.int .i64) H')] ++ h, nx := nx + 4 }) (μ := fun j => 6 - j.1) _ _ _ ⟨0, by omega⟩ ?_ (fun j B2 hB2 => ?_)
        · refine leq_news [(nx, nx), (nx + 1, nx + 1), (nx + 2, nx + 2), (nx + 3, nx + 3)] [(nx, tCells (nx + 1) (nx + 2)), (nx + 1, .map 3 2 f'), (nx + 2, .map 3 3 mEmpty), (nx + 3, .arr 2 (.int .i64) H')] (.refl _) (by simp) (by simp <;> omega) (by simp <;> omega) rfl ?_ ?_ ?_ ?_ hnm ?_ (by omega)
          · simp [frIn_cons, frIn_nil, fget_cons, fget_nil, SV.ren, SV.renL, rens]
            exact ⟨rfl, rfl⟩
          · (simp only [frLt_cons, frLt_nil, and_true, SV.lt, SV.ltL, true_and] <;> omega)
          · simp only [tCells]
            (simp only [List.mem_cons, List.not_mem_nil, or_false, forall_eq_or_imp, forall_eq]; simp [hget, rens, Tok.ren, SV.ren, SV.renL])
          · simp only [tCells]
            (simp only [List.mem_cons, List.not_mem_nil, or_false, forall_eq_or_imp, forall_eq, Tok.lt, SV.lt, SV.ltL, and_true, true_and] <;> omega)
          · ((try simp only []); repeat first | exact HLe.refl _ | refine HLe.cons (by simp only [hget, Nat.reduceEqDiff, Nat.left_eq_add, Nat.add_eq_left, nm_ne2, nm_en2, nm_ne3, nm_en3, nm_ne4, nm_en4, nm_ne5, nm_en5, reduceIte, ↓reduceIte] <;> first | rfl | ((repeat rw [if_neg (by omega)]) <;> rfl)) ?_ | refine HLe.skip hnm (by omega) ?_ | refine HLe.frz hnm (by omega) ?_ | refine HLe.del hnm (by omega) ?_)
        · obtain ⟨j, hj⟩ := j
          simp only at hB2
          by_cases hj6 : j < 6
          · have c3 : decide ((j : Int) < 6) = true := decide_eq_true (by omega)
            have s1 := cntT_step f' p hj6
            have s2 := cntT_step f' (p + 1) hj6
            have l1 := cntT_le f' p j
            have l2 := cntT_le f' (p + 1) j
            have hHj : (H'.getD j .nil).i = atI f' j := by rw [hH2 j hj6]; rfl
            have next : ∀ a b S', a = (cntT f' p (j + 1) : Int) → b = (cntT f' (p + 1) (j + 1) : Int) → Leq nx S' { f := [(14, .int .i64 ((j + 1 : Nat) : Int)), (9, .int .i64 k), (12, .int .i64 a), (13, .int .i64 b), (11, .int .i64 p), (8, .int .i64 i), (0, .dat (.slice 3) (.list l)), (7, .int .i64 last), (4, .ptr nx 0), (6, .vec (nx + 3))], h := [(nx, tCells (nx + 1) (nx + 2)), (nx + 1, .map 3 2 f'), (nx + 2, .map 3 3 mEmpty), (nx + 3, .arr 2 (.int .i64) H')] ++ h, nx := nx + 4 } → B2 S' := fun a b S' e1 e2 hl => by
              subst e1 e2
              exact hB2 _ ⟨j + 1, by omega⟩ (by simp only []; omega) hl
            by_cases q1 : p ≤ atI f' j
            · have d1 : decide (p ≤ atI f' j) = true := decide_eq_true q1
              rw [if_pos q1] at s1
              by_cases q2 : p < atI f' j
              · have d2 : decide (p < atI f' j) = true := decide_eq_true q2
                rw [if_pos (by omega)] at s2
                simp (maxSteps := 4000000) only [walkSet, eq_self, implies_true, evMdl, evMupD, evMup, evLkp, Int.reduceEq, Int.reduceBEq, Int.reduceBNe, Int.reduceLE, Int.reduceLT, Int.reduceAdd, Int.reduceSub, Int.reduceMul, Int.reduceNeg, frpL, preF, preP, prePt, prePd, frzP, evNlq, ev, frOf, oget, ogets, argSs, argS, evMm, frzL, evBin, evWrp, evShf, evCmp, evUna, evNil, evBeq, evLd, evSt, evFad, evIad, evAad, evLen, evSln, evEls, evApp, evParts, evSlc, evNlc, evMif, evPck, evFld, evBld, evTas, evIfq, evSeq, evSl0, evBxf, evAgl, evAgq, evBsf, hget, hset, hdel, cellAt, arrAt, setCellAt, setArrAt, takeC, lenC, svCells, SV.okc, SV.one, ldSV, Fw.isAgg, Nat.reduceMul, Nat.reduceSub, Nat.reduceLeDiff, Nat.reduceLT, explode, explodeL, toD, toDL, toD1, Ty.size, Ty.sizeL, frz1, Fr.sub, Heap.sub, Tok.sub, SV.sub, SV.subL, Nat.reduceEqDiff, Nat.reduceAdd, reduceCtorEq, ↓reduceIte, reduceIte, c3, hHj, d1, d2, Int.toNat_natCast, min_i64, max_i64]
                repeat refine ⟨by omega, ?_⟩
                refine next _ _ _ s1.symm s2.symm ?_
                refine leq_id ?_ (by (simp only [frLt_cons, frLt_nil, and_true, SV.lt, SV.ltL, true_and] <;> omega)) (by simp only [tCells]; ((try simp only []); repeat first | exact HLe.refl _ | refine HLe.cons (by simp only [hget, Nat.reduceEqDiff, Nat.left_eq_add, Nat.add_eq_left, nm_ne2, nm_en2, nm_ne3, nm_en3, nm_ne4, nm_en4, nm_ne5, nm_en5, reduceIte, ↓reduceIte] <;> first | rfl | ((repeat rw [if_neg (by omega)]) <;> rfl)) ?_ | refine HLe.skip hnm (by omega) ?_ | refine HLe.frz hnm (by omega) ?_ | refine HLe.del hnm (by omega) ?_)) (by unfold tCells; (repeat first | exact HLt.mono hnm (by simp only [] <;> omega) | refine HLt.cons (by simp only [] <;> omega) (by simp only [Tok.lt, SV.ltL, SV.lt, and_true, true_and] <;> omega) ?_)) (by simp only [] <;> omega)
                simp only [frEq_cons, frEq_nil, frIn_cons, frIn_nil, and_true, fget_cons, Nat.reduceEqDiff, reduceIte, ↓reduceIte, true_and, SV.ren, SV.renL, ren1]
                simp
              · have d2 : decide (p < atI f' j) = false := decide_eq_false q2
                rw [if_neg (by omega)] at s2
                simp (maxSteps := 4000000) only [walkSet, eq_self, implies_true, evMdl, evMupD, evMup, evLkp, Int.reduceEq, Int.reduceBEq, Int.reduceBNe, Int.reduceLE, Int.reduceLT, Int.reduceAdd, Int.reduceSub, Int.reduceMul, Int.reduceNeg, frpL, preF, preP, prePt, prePd, frzP, evNlq, ev, frOf, oget, ogets, argSs, argS, evMm, frzL, evBin, evWrp, evShf, evCmp, evUna, evNil, evBeq, evLd, evSt, evFad, evIad, evAad, evLen, evSln, evEls, evApp, evParts, evSlc, evNlc, evMif, evPck, evFld, evBld, evTas, evIfq, evSeq, evSl0, evBxf, evAgl, evAgq, evBsf, hget, hset, hdel, cellAt, arrAt, setCellAt, setArrAt, takeC, lenC, svCells, SV.okc, SV.one, ldSV, Fw.isAgg, Nat.reduceMul, Nat.reduceSub, Nat.reduceLeDiff, Nat.reduceLT, explode, explodeL, toD, toDL, toD1, Ty.size, Ty.sizeL, frz1, Fr.sub, Heap.sub, Tok.sub, SV.sub, SV.subL, Nat.reduceEqDiff, Nat.reduceAdd, reduceCtorEq, ↓reduceIte, reduceIte, c3, hHj, d1, d2, Int.toNat_natCast, min_i64, max_i64]
                repeat refine ⟨by omega, ?_⟩
                refine next _ _ _ s1.symm (by omega : (cntT f' (p + 1) j : Int) = _) ?_
                refine leq_id ?_ (by (simp only [frLt_cons, frLt_nil, and_true, SV.lt, SV.ltL, true_and] <;> omega)) (by simp only [tCells]; ((try simp only []); repeat first | exact HLe.refl _ | refine HLe.cons (by simp only [hget, Nat.reduceEqDiff, Nat.left_eq_add, Nat.add_eq_left, nm_ne2, nm_en2, nm_ne3, nm_en3, nm_ne4, nm_en4, nm_ne5, nm_en5, reduceIte, ↓reduceIte] <;> first | rfl | ((repeat rw [if_neg (by omega)]) <;> rfl)) ?_ | refine HLe.skip hnm (by omega) ?_ | refine HLe.frz hnm (by omega) ?_ | refine HLe.del hnm (by omega) ?_)) (by unfold tCells; (repeat first | exact HLt.mono hnm (by simp only [] <;> omega) | refine HLt.cons (by simp only [] <;> omega) (by simp only [Tok.lt, SV.ltL, SV.lt, and_true, true_and] <;> omega) ?_)) (by simp only [] <;> omega)
                simp only [frEq_cons, frEq_nil, frIn_cons, frIn_nil, and_true, fget_cons, Nat.reduceEqDiff, reduceIte, ↓reduceIte, true_and, SV.ren, SV.renL, ren1]
                simp
            · have d1 : decide (p ≤ atI f' j) = false := decide_eq_false q1
              have d2 : decide (p < atI f' j) = false := decide_eq_false (by omega)
              rw [if_neg q1] at s1
              rw [if_neg (by omega)] at s2
              simp (maxSteps := 4000000) only [walkSet, eq_self, implies_true, evMdl, evMupD, evMup, evLkp, Int.reduceEq, Int.reduceBEq, Int.reduceBNe, Int.reduceLE, Int.reduceLT, Int.reduceAdd, Int.reduceSub, Int.reduceMul, Int.reduceNeg, frpL, preF, preP, prePt, prePd, frzP, evNlq, ev, frOf, oget, ogets, argSs, argS, evMm, frzL, evBin, evWrp, evShf, evCmp, evUna, evNil, evBeq, evLd, evSt, evFad, evIad, evAad, evLen, evSln, evEls, evApp, evParts, evSlc, evNlc, evMif, evPck, evFld, evBld, evTas, evIfq, evSeq, evSl0, evBxf, evAgl, evAgq, evBsf, hget, hset, hdel, cellAt, arrAt, setCellAt, setArrAt, takeC, lenC, svCells, SV.okc, SV.one, ldSV, Fw.isAgg, Nat.reduceMul, Nat.reduceSub, Nat.reduceLeDiff, Nat.reduceLT, explode, explodeL, toD, toDL, toD1, Ty.size, Ty.sizeL, frz1, Fr.sub, Heap.sub, Tok.sub, SV.sub, SV.subL, Nat.reduceEqDiff, Nat.reduceAdd, reduceCtorEq, ↓reduceIte, reduceIte, c3, hHj, d1, d2, Int.toNat_natCast, min_i64, max_i64]
              repeat refine ⟨by omega, ?_⟩
              refine next _ _ _ (by omega : (cntT f' p j : Int) = _) (by omega : (cntT f' (p + 1) j : Int) = _) ?_
              refine leq_id ?_ (by (simp only [frLt_cons, frLt_nil, and_true, SV.lt, SV.ltL, true_and] <;> omega)) (by simp only [tCells]; ((try simp only []); repeat first | exact HLe.refl _ | refine HLe.cons (by simp only [hget, Nat.reduceEqDiff, Nat.left_eq_add, Nat.add_eq_left, nm_ne2, nm_en2, nm_ne3, nm_en3, nm_ne4, nm_en4, nm_ne5, nm_en5, reduceIte, ↓reduceIte] <;> first | rfl | ((repeat rw [if_neg (by omega)]) <;> rfl)) ?_ | refine HLe.skip hnm (by omega) ?_ | refine HLe.frz hnm (by omega) ?_ | refine HLe.del hnm (by omega) ?_)) (by unfold tCells; (repeat first | exact HLt.mono hnm (by simp only [] <;> omega) | refine HLt.cons (by simp only [] <;> omega) (by simp only [Tok.lt, SV.ltL, SV.lt, and_true, true_and] <;> omega) ?_)) (by simp only [] <;> omega)
              simp only [frEq_cons, frEq_nil, frIn_cons, frIn_nil, and_true, fget_cons, Nat.reduceEqDiff, reduceIte, ↓reduceIte, true_and, SV.ren, SV.renL, ren1]
              simp
          · obtain rfl : j = 6 := by omega
            have c3 : decide (((6 : Nat) : Int) < 6) = false := rfl
            rw [cntT_all, cntT_all]
            have d1 : decide (p < last) = false := decide_eq_false (by omega)
            have d2 : decide ((cnt f' p : Int) < 4) = false := decide_eq_false (by omega)
            have d3 : decide (4 ≤ (cnt f' (p + 1) : Int)) = false := decide_eq_false (by omega)
            have hHk2 : (H'.getD k.toNat .nil).i = atI f' k := by rw [hH2 _ (by omega), D_i, Int.toNat_of_nonneg hkr.1]
            have q1 : (atI f' k != atI f' k) = false := by simp
            simp (maxSteps := 4000000) only [walkSet, eq_self, implies_true, evMdl, evMupD, evMup, evLkp, Int.reduceEq, Int.reduceBEq, Int.reduceBNe, Int.reduceLE, Int.reduceLT, Int.reduceAdd, Int.reduceSub, Int.reduceMul, Int.reduceNeg, frpL, preF, preP, prePt, prePd, frzP, evNlq, ev, frOf, oget, ogets, argSs, argS, evMm, frzL, evBin, evWrp, evShf, evCmp, evUna, evNil, evBeq, evLd, evSt, evFad, evIad, evAad, evLen, evSln, evEls, evApp, evParts, evSlc, evNlc, evMif, evPck, evFld, evBld, evTas, evIfq, evSeq, evSl0, evBxf, evAgl, evAgq, evBsf, hget, hset, hdel, cellAt, arrAt, setCellAt, setArrAt, takeC, lenC, svCells, SV.okc, SV.one, ldSV, Fw.isAgg, Nat.reduceMul, Nat.reduceSub, Nat.reduceLeDiff, Nat.reduceLT, explode, explodeL, toD, toDL, toD1, Ty.size, Ty.sizeL, frz1, Fr.sub, Heap.sub, Tok.sub, SV.sub, SV.subL, Nat.reduceEqDiff, Nat.reduceAdd, reduceCtorEq, ↓reduceIte, reduceIte, c3, tCells, spTAck, spTPgcl, spTScl, spTBorn, spTDrop, spTHas, tOk_c, tA_c, tB_c, tM_c, tP_c, sOk_c, iOk_c, mF_c, hs6, hp6, d1, d2, d3, hHk2, q1, Int.toNat_natCast, min_i64, max_i64]
            refine ⟨by omega, by omega, by omega, ?_⟩
            refine hB _ ⟨(i + 1, f', H'), by simp only []; omega, hHl2, hH2, hf2⟩ (by simp only []; omega) ?_
            simp only [hp]
            refine leq_id ?_ (by (simp only [frLt_cons, frLt_nil, and_true, SV.lt, SV.ltL, true_and] <;> omega)) (by simp only [tCells]; ((try simp only []); repeat first | exact HLe.refl _ | refine HLe.cons (by simp only [hget, Nat.reduceEqDiff, Nat.left_eq_add, Nat.add_eq_left, nm_ne2, nm_en2, nm_ne3, nm_en3, nm_ne4, nm_en4, nm_ne5, nm_en5, reduceIte, ↓reduceIte] <;> first | rfl | ((repeat rw [if_neg (by omega)]) <;> rfl)) ?_ | refine HLe.skip hnm (by omega) ?_ | refine HLe.frz hnm (by omega) ?_ | refine HLe.del hnm (by omega) ?_)) (by unfold tCells; (repeat first | exact HLt.mono hnm (by simp only [] <;> omega) | refine HLt.cons (by simp only [] <;> omega) (by simp only [Tok.lt, SV.ltL, SV.lt, and_true, true_and] <;> omega) ?_)) (by simp only [] <;> omega)
            simp only [frEq_cons, frEq_nil, frIn_cons, frIn_nil, and_true, fget_cons, Nat.reduceEqDiff, reduceIte, ↓reduceIte, true_and, SV.ren, SV.renL, ren1]
            simp
      · obtain rfl : i = l.length := by omega
        have c2 : decide ((l.length : Int) < (l.length : Int)) = false := decide_eq_false (by omega)
        simp (maxSteps := 4000000) only [walkSet, eq_self, implies_true, evMdl, evMupD, evMup, evLkp, Int.reduceEq, Int.reduceBEq, Int.reduceBNe, Int.reduceLE, Int.reduceLT, Int.reduceAdd, Int.reduceSub, Int.reduceMul, Int.reduceNeg, frpL, preF, preP, prePt, prePd, frzP, evNlq, ev, frOf, oget, ogets, argSs, argS, evMm, frzL, evBin, evWrp, evShf, evCmp, evUna, evNil, evBeq, evLd, evSt, evFad, evIad, evAad, evLen, evSln, evEls, evApp, evParts, evSlc, evNlc, evMif, evPck, evFld, evBld, evTas, evIfq, evSeq, evSl0, evBxf, evAgl, evAgq, evBsf, hget, hset, hdel, cellAt, arrAt, setCellAt, setArrAt, takeC, lenC, svCells, SV.okc, SV.one, ldSV, Fw.isAgg, Nat.reduceMul, Nat.reduceSub, Nat.reduceLeDiff, Nat.reduceLT, explode, explodeL, toD, toDL, toD1, Ty.size, Ty.sizeL, frz1, Fr.sub, Heap.sub, Tok.sub, SV.sub, SV.subL, Nat.reduceEqDiff, Nat.reduceAdd, reduceCtorEq, ↓reduceIte, reduceIte, c2]
        exact ret _ _ (by ((try simp only []); repeat first | exact HLe.refl _ | refine HLe.cons (by simp only [hget, Nat.reduceEqDiff, Nat.left_eq_add, Nat.add_eq_left, nm_ne2, nm_en2, nm_ne3, nm_en3, nm_ne4, nm_en4, nm_ne5, nm_en5, reduceIte, ↓reduceIte] <;> first | rfl | ((repeat rw [if_neg (by omega)]) <;> rfl)) ?_ | refine HLe.skip hnm (by omega) ?_ | refine HLe.frz hnm (by omega) ?_ | refine HLe.del hnm (by omega) ?_))
  · exact hsp.elim
end Go.Proofs.YtkojpimkngmckaaDoor
