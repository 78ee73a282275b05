/- Chapter 6: QuorGrows. -/
import Derived.Test.YtkmilijehekdoaaDoorQuorK
namespace Go.Proofs.YtkmilijehekdoaaDoor
set_option linter.unusedVariables false
set_option linter.unusedSimpArgs false
open Go Go.Fw
attribute [local go_sem] walkSet evMdl evMupD evMup evLkp frpL preF preP prePt prePd frzP evNlq ev frOf oget ogets argSs argS evMm frzL evBin evWrp evShf evCmp evUna evNil evBeq evLd evSt evFad evIad evAad evLen evSln evEls evApp evParts evSlc evNlc evMif evPck evFld evBld evTas evIfq evSeq evSl0 evBxf evAgl evAgq evBsf hget hset hdel cellAt arrAt setCellAt setArrAt takeC lenC svCells SV.okc SV.one ldSV Fw.isAgg explode explodeL toD toDL toD1 Ty.size Ty.sizeL frz1 Fr.sub Heap.sub Tok.sub SV.sub SV.subL

set_option maxHeartbeats 4000000 in
set_option maxRecDepth 8000 in
theorem vQuorGrows {E : Nat → Value} (hE : Errs2 Tryd.prog (some 152) E) : Valid Tryd.prog E G0 6 spQuorGrows := by
  refine valid_go (W := WQuorGrows) hE ((((((((allValid_bot.add (up (vL6first hE))).add (up (vQLight hE))).add (up (vQMade hE))).add (up (vQNodes hE))).add (up (vRIntsV hE))).add (up (vQHasD hE))).add (up (vQTwo1 hE))).add (up (vQTwo2 hE))) irQuorGrows (by decide) (fun args h nx K hsp hok hnm => ?_)
  unfold spQuorGrows at hsp
  split at hsp
  · rename_i t l t' m t'' d more
    obtain ⟨rfl, rfl, rfl, hK⟩ := hsp
    refine ⟨by simp [WQuorGrows, mkW, mkWE, mkWF], fun Q hQ => ?_⟩
    obtain ⟨hl, hm, hd, _⟩ := hok
    simp only [SV.ok] at hl hm hd
    obtain ⟨hd1, hd2, hd3⟩ := Wt.slice hd; generalize d.l = N at *; subst hd1
    have ret : ∀ h' nx', HLe h h' → Q Ex.ret ⟨[(8, .bool true)], h', nx'⟩ := fun h' nx' hh => by
      refine (hQ _ ?_).1
      exact fin_t (.bool true) rfl rfl hnm hh hK
    simp (maxSteps := 4000000) only [icQuorGrows, go_sem, goD_calls, eq_self, implies_true, Int.reduceEq, Int.reduceBEq, Int.reduceBNe, Int.reduceLE, Int.reduceLT, Int.reduceAdd, Int.reduceSub, Int.reduceMul, Int.reduceNeg, Nat.reduceMul, Nat.reduceSub, Nat.reduceLeDiff, Nat.reduceLT, Nat.reduceEqDiff, Nat.reduceAdd, reduceCtorEq, ↓reduceIte, reduceIte, spL6first, spQLight]
    cases e1 : lightL l.l with
    | false =>
      simp (maxSteps := 4000000) only [go_sem, goD_calls, eq_self, implies_true, Int.reduceEq, Int.reduceBEq, Int.reduceBNe, Int.reduceLE, Int.reduceLT, Int.reduceAdd, Int.reduceSub, Int.reduceMul, Int.reduceNeg, Nat.reduceMul, Nat.reduceSub, Nat.reduceLeDiff, Nat.reduceLT, Nat.reduceEqDiff, Nat.reduceAdd, reduceCtorEq, ↓reduceIte, reduceIte, e1, spQLight]
      exact ret _ _ (by ((try simp only []); repeat first | exact HLe.refl _ | refine HLe.cons (by simp only [hget, Nat.reduceEqDiff, Nat.left_eq_add, Nat.add_eq_left, nm_ne2, nm_en2, nm_ne3, nm_en3, nm_ne4, nm_en4, nm_ne5, nm_en5, reduceIte, ↓reduceIte] <;> first | rfl | ((repeat rw [if_neg (by omega)]) <;> rfl)) ?_ | refine HLe.skip hnm (by omega) ?_ | refine HLe.frz hnm (by omega) ?_ | refine HLe.del hnm (by omega) ?_))
    | true =>
    cases e2 : lightL m.l with
    | false =>
      simp (maxSteps := 4000000) only [go_sem, goD_calls, eq_self, implies_true, Int.reduceEq, Int.reduceBEq, Int.reduceBNe, Int.reduceLE, Int.reduceLT, Int.reduceAdd, Int.reduceSub, Int.reduceMul, Int.reduceNeg, Nat.reduceMul, Nat.reduceSub, Nat.reduceLeDiff, Nat.reduceLT, Nat.reduceEqDiff, Nat.reduceAdd, reduceCtorEq, ↓reduceIte, reduceIte, e1, e2, spQLight]
      exact ret _ _ (by ((try simp only []); repeat first | exact HLe.refl _ | refine HLe.cons (by simp only [hget, Nat.reduceEqDiff, Nat.left_eq_add, Nat.add_eq_left, nm_ne2, nm_en2, nm_ne3, nm_en3, nm_ne4, nm_en4, nm_ne5, nm_en5, reduceIte, ↓reduceIte] <;> first | rfl | ((repeat rw [if_neg (by omega)]) <;> rfl)) ?_ | refine HLe.skip hnm (by omega) ?_ | refine HLe.frz hnm (by omega) ?_ | refine HLe.del hnm (by omega) ?_))
    | true =>
    by_cases hn : 20 < N.length
    · have c1 : decide (20 < (N.length : Int)) = true := decide_eq_true (by omega)
      simp (maxSteps := 4000000) only [go_sem, goD_calls, eq_self, implies_true, Int.reduceEq, Int.reduceBEq, Int.reduceBNe, Int.reduceLE, Int.reduceLT, Int.reduceAdd, Int.reduceSub, Int.reduceMul, Int.reduceNeg, Nat.reduceMul, Nat.reduceSub, Nat.reduceLeDiff, Nat.reduceLT, Nat.reduceEqDiff, Nat.reduceAdd, reduceCtorEq, ↓reduceIte, reduceIte, e1, e2, c1, spQLight]
      exact ret _ _ (by ((try simp only []); repeat first | exact HLe.refl _ | refine HLe.cons (by simp only [hget, Nat.reduceEqDiff, Nat.left_eq_add, Nat.add_eq_left, nm_ne2, nm_en2, nm_ne3, nm_en3, nm_ne4, nm_en4, nm_ne5, nm_en5, reduceIte, ↓reduceIte] <;> first | rfl | ((repeat rw [if_neg (by omega)]) <;> rfl)) ?_ | refine HLe.skip hnm (by omega) ?_ | refine HLe.frz hnm (by omega) ?_ | refine HLe.del hnm (by omega) ?_))
    have c1 : decide (20 < (N.length : Int)) = false := decide_eq_false (by omega)
    obtain ⟨X, hX⟩ : ∃ X, lastQ (madeL l.l) = X := ⟨_, rfl⟩
    have oX : okQ X := hX ▸ lastQ_ok _
    obtain ⟨Y, hY⟩ : ∃ Y, lastQ (madeL m.l) = Y := ⟨_, rfl⟩
    have oY : okQ Y := hY ▸ lastQ_ok _
    have z0 : (((0 : Nat) : Int) == 0) = true := rfl
    have z1 : (([] : List D).length ≤ 1000000000) = True := eq_true (by decide)
    have n9 : (N.length ≤ 1000000000) = True := eq_true (by omega)
    simp (maxSteps := 4000000) only [go_sem, goD_calls, eq_self, implies_true, Int.reduceEq, Int.reduceBEq, Int.reduceBNe, Int.reduceLE, Int.reduceLT, Int.reduceAdd, Int.reduceSub, Int.reduceMul, Int.reduceNeg, Nat.reduceMul, Nat.reduceSub, Nat.reduceLeDiff, Nat.reduceLT, Nat.reduceEqDiff, Nat.reduceAdd, reduceCtorEq, ↓reduceIte, reduceIte, e1, e2, c1, spQLight, spQMade, hX]
    refine ⟨light_len e1, light_20 e1, fun r hr => ?_⟩
    obtain ⟨pa, la, na, hPa, hr⟩ := hr
    have la16 := prog_len oX hPa
    have la9 : (la.length ≤ 1000000000) = True := eq_true (by omega)
    rcases hr with rfl | ⟨rfl, rfl⟩
    · simp (maxSteps := 4000000) only [go_sem, goD_calls, eq_self, implies_true, Int.reduceEq, Int.reduceBEq, Int.reduceBNe, Int.reduceLE, Int.reduceLT, Int.reduceAdd, Int.reduceSub, Int.reduceMul, Int.reduceNeg, Nat.reduceMul, Nat.reduceSub, Nat.reduceLeDiff, Nat.reduceLT, Nat.reduceEqDiff, Nat.reduceAdd, reduceCtorEq, ↓reduceIte, reduceIte, setOf, refV, spQMade, hY]
      refine ⟨light_len e2, light_20 e2, fun r hr => ?_⟩
      obtain ⟨pb, lb, nb, hPb, hr⟩ := hr
      have lb16 := prog_len oY hPb
      have lb9 : (lb.length ≤ 1000000000) = True := eq_true (by omega)
      by_cases la0 : la.length = 0
      · have c2 : ((la.length : Int) == 0) = true := by rw [la0]; rfl
        rcases hr with rfl | ⟨rfl, rfl⟩
        all_goals
          simp (maxSteps := 4000000) only [go_sem, goD_calls, eq_self, implies_true, Int.reduceEq, Int.reduceBEq, Int.reduceBNe, Int.reduceLE, Int.reduceLT, Int.reduceAdd, Int.reduceSub, Int.reduceMul, Int.reduceNeg, Nat.reduceMul, Nat.reduceSub, Nat.reduceLeDiff, Nat.reduceLT, Nat.reduceEqDiff, Nat.reduceAdd, reduceCtorEq, ↓reduceIte, reduceIte, setOf, setA, refV, spQNodes, la9, lb9, z1, c2, D.l, List.length_nil, z0]
          exact ret _ _ (by ((try simp only []); repeat first | exact HLe.refl _ | refine HLe.cons (by simp only [hget, Nat.reduceEqDiff, Nat.left_eq_add, Nat.add_eq_left, nm_ne2, nm_en2, nm_ne3, nm_en3, nm_ne4, nm_en4, nm_ne5, nm_en5, reduceIte, ↓reduceIte] <;> first | rfl | ((repeat rw [if_neg (by omega)]) <;> rfl)) ?_ | refine HLe.skip hnm (by omega) ?_ | refine HLe.frz hnm (by omega) ?_ | refine HLe.del hnm (by omega) ?_))
      have c2 : ((la.length : Int) == 0) = false := beq_eq_false_iff_ne.2 (by omega)
      rcases hr with rfl | ⟨rfl, rfl⟩
      · by_cases lb0 : lb.length = 0
        · have c3 : ((lb.length : Int) == 0) = true := by rw [lb0]; rfl
          simp (maxSteps := 4000000) only [go_sem, goD_calls, eq_self, implies_true, Int.reduceEq, Int.reduceBEq, Int.reduceBNe, Int.reduceLE, Int.reduceLT, Int.reduceAdd, Int.reduceSub, Int.reduceMul, Int.reduceNeg, Nat.reduceMul, Nat.reduceSub, Nat.reduceLeDiff, Nat.reduceLT, Nat.reduceEqDiff, Nat.reduceAdd, reduceCtorEq, ↓reduceIte, reduceIte, setOf, setA, refV, spQNodes, la9, lb9, z1, c2, c3, D.l, List.length_nil, z0]
          exact ret _ _ (by ((try simp only []); repeat first | exact HLe.refl _ | refine HLe.cons (by simp only [hget, Nat.reduceEqDiff, Nat.left_eq_add, Nat.add_eq_left, nm_ne2, nm_en2, nm_ne3, nm_en3, nm_ne4, nm_en4, nm_ne5, nm_en5, reduceIte, ↓reduceIte] <;> first | rfl | ((repeat rw [if_neg (by omega)]) <;> rfl)) ?_ | refine HLe.skip hnm (by omega) ?_ | refine HLe.frz hnm (by omega) ?_ | refine HLe.del hnm (by omega) ?_))
        have c3 : ((lb.length : Int) == 0) = false := beq_eq_false_iff_ne.2 (by omega)
        have dA := okD_prog oX hPa
        have dB := okD_prog oY hPb
        have hA : ∀ S, hasD pa S = hasQ X S := hasD_prog hPa
        have hB : ∀ S, hasD pb S = hasQ Y S := hasD_prog hPb
        have hmono : hasQ X (inL N) = true → hasQ X (inL (iL N ++ [.int more])) = true := grow_1
        obtain ⟨a1, ha1⟩ : ∃ b, hasQ X (inL N) = b := ⟨_, rfl⟩
        obtain ⟨a2, ha2⟩ : ∃ b, hasQ X (inL (iL N ++ [.int more])) = b := ⟨_, rfl⟩
        obtain ⟨b1, hb1⟩ : ∃ b, hasQ Y (inL N) = b := ⟨_, rfl⟩
        rw [ha1, ha2] at hmono
        have key : ∀ kind p l n, kind = 1 ∨ kind = 2 → progD (twoQ kind X Y) = .node [p, .list l, .int n] → l.length ≠ 0 → hasD p (inL N) = if kind = 1 then (a1 && b1) else (a1 || b1) := fun kind p l n hk hP h0 => by
          rw [hasD_prog hP, two_has hk hP (fun e => h0 (by rw [e]; rfl)) hPa hPb (fun e => la0 (by rw [e]; rfl)) (fun e => lb0 (by rw [e]; rfl)), ha1, hb1]
        have oA := two_ok (kind := 1) oX oY
        have oO := two_ok (kind := 2) oX oY
        have n8 : (N.length + 1) * 8 ≤ 140737488355328 := by omega
        have z2 : decide ((0 : Int) < ((0 : Nat) : Int)) = false := rfl
        have l1 : ∀ {kind : Int} {p : D} {l : List D} {n : Int}, okQ (twoQ kind X Y) → progD (twoQ kind X Y) = .node [p, .list l, .int n] → l.length ≤ 1000000000 := fun ho hP => by have := prog_len ho hP; omega
        rcases bool_ftS a1 with rfl | rfl <;> rcases bool_ftS b1 with rfl | rfl
        all_goals
          try obtain rfl : a2 = true := hmono rfl
          simp (maxSteps := 4000000) only [go_sem, goD_calls, eq_self, implies_true, Int.reduceEq, Int.reduceBEq, Int.reduceBNe, Int.reduceLE, Int.reduceLT, Int.reduceAdd, Int.reduceSub, Int.reduceMul, Int.reduceNeg, Nat.reduceMul, Nat.reduceSub, Nat.reduceLeDiff, Nat.reduceLT, Nat.reduceEqDiff, Nat.reduceAdd, reduceCtorEq, ↓reduceIte, reduceIte, setOf, setA, refV, spQNodes, spQHasD, spRIntsV, spQTwo, la9, lb9, n9, z1, c2, c3, D.l, List.length_nil, z0, hA, hB, ha1, ha2, hb1, dA, dB, SV.one, iL_len]
          refine ⟨n8, X, Y, oX, oY, hPa, hPb, fun r hr => ?_⟩
          obtain ⟨p3, l3, n3, hP3, hr⟩ := hr
          have d3 := okD_prog oA hP3
          have l39 := eq_true (l1 oA hP3)
          by_cases h3 : l3.length = 0
          · have e3 : decide ((0 : Int) < (l3.length : Int)) = false := decide_eq_false (by omega)
            rcases hr with rfl | ⟨hl3, rfl⟩
            all_goals
              simp (maxSteps := 4000000) only [go_sem, goD_calls, eq_self, implies_true, Int.reduceEq, Int.reduceBEq, Int.reduceBNe, Int.reduceLE, Int.reduceLT, Int.reduceAdd, Int.reduceSub, Int.reduceMul, Int.reduceNeg, Nat.reduceMul, Nat.reduceSub, Nat.reduceLeDiff, Nat.reduceLT, Nat.reduceEqDiff, Nat.reduceAdd, reduceCtorEq, ↓reduceIte, reduceIte, setOf, setA, refV, spQTwo]
              refine ⟨X, Y, oX, oY, hPa, hPb, fun r hr => ?_⟩
              obtain ⟨p4, l4, n4, hP4, hr⟩ := hr
              have d4 := okD_prog oO hP4
              have l49 := eq_true (l1 oO hP4)
              by_cases h4 : l4.length = 0
              · have e4 : ((l4.length : Int) == 0) = true := by rw [h4]; rfl
                rcases hr with rfl | ⟨hl4, rfl⟩
                all_goals
                  simp (maxSteps := 4000000) only [go_sem, goD_calls, eq_self, implies_true, Int.reduceEq, Int.reduceBEq, Int.reduceBNe, Int.reduceLE, Int.reduceLT, Int.reduceAdd, Int.reduceSub, Int.reduceMul, Int.reduceNeg, Nat.reduceMul, Nat.reduceSub, Nat.reduceLeDiff, Nat.reduceLT, Nat.reduceEqDiff, Nat.reduceAdd, reduceCtorEq, ↓reduceIte, reduceIte, setOf, setA, refV, spQNodes, spQHasD, l39, l49, n9, e3, e4, z0, z1, z2, List.length_nil, D.l, hA, hB, ha1, hb1, dA, dB, d3, d4, SV.one]
                  repeat refine ⟨_, fun nx' => ⟨rfl, rfl⟩, trivial, ?_⟩
                  try simp (maxSteps := 4000000) only [go_sem, goD_calls, eq_self, implies_true, Int.reduceEq, Int.reduceBEq, Int.reduceBNe, Int.reduceLE, Int.reduceLT, Int.reduceAdd, Int.reduceSub, Int.reduceMul, Int.reduceNeg, Nat.reduceMul, Nat.reduceSub, Nat.reduceLeDiff, Nat.reduceLT, Nat.reduceEqDiff, Nat.reduceAdd, reduceCtorEq, ↓reduceIte, reduceIte, setOf, setA, refV, spQNodes, spQHasD, l39, l49, n9, e3, e4, z0, z1, z2, List.length_nil, D.l, hA, hB, ha1, hb1, dA, dB, d3, d4, SV.one]
                  repeat refine ⟨_, fun nx' => ⟨rfl, rfl⟩, trivial, ?_⟩
                  try simp (maxSteps := 4000000) only [go_sem, goD_calls, eq_self, implies_true, Int.reduceEq, Int.reduceBEq, Int.reduceBNe, Int.reduceLE, Int.reduceLT, Int.reduceAdd, Int.reduceSub, Int.reduceMul, Int.reduceNeg, Nat.reduceMul, Nat.reduceSub, Nat.reduceLeDiff, Nat.reduceLT, Nat.reduceEqDiff, Nat.reduceAdd, reduceCtorEq, ↓reduceIte, reduceIte, setOf, setA, refV, spQNodes, spQHasD, l39, l49, n9, e3, e4, z0, z1, z2, List.length_nil, D.l, hA, hB, ha1, hb1, dA, dB, d3, d4, SV.one]
                  repeat refine ⟨_, fun nx' => ⟨rfl, rfl⟩, trivial, ?_⟩
                  try simp (maxSteps := 4000000) only [go_sem, goD_calls, eq_self, implies_true, Int.reduceEq, Int.reduceBEq, Int.reduceBNe, Int.reduceLE, Int.reduceLT, Int.reduceAdd, Int.reduceSub, Int.reduceMul, Int.reduceNeg, Nat.reduceMul, Nat.reduceSub, Nat.reduceLeDiff, Nat.reduceLT, Nat.reduceEqDiff, Nat.reduceAdd, reduceCtorEq, ↓reduceIte, reduceIte, setOf, setA, refV, spQNodes, spQHasD, l39, l49, n9, e3, e4, z0, z1, z2, List.length_nil, D.l, hA, hB, ha1, hb1, dA, dB, d3, d4, SV.one]
                  repeat refine ⟨_, fun nx' => ⟨rfl, rfl⟩, trivial, ?_⟩
                  try simp (maxSteps := 4000000) only [go_sem, goD_calls, eq_self, implies_true, Int.reduceEq, Int.reduceBEq, Int.reduceBNe, Int.reduceLE, Int.reduceLT, Int.reduceAdd, Int.reduceSub, Int.reduceMul, Int.reduceNeg, Nat.reduceMul, Nat.reduceSub, Nat.reduceLeDiff, Nat.reduceLT, Nat.reduceEqDiff, Nat.reduceAdd, reduceCtorEq, ↓reduceIte, reduceIte, setOf, setA, refV, spQNodes, spQHasD, l39, l49, n9, e3, e4, z0, z1, z2, List.length_nil, D.l, hA, hB, ha1, hb1, dA, dB, d3, d4, SV.one]
                  repeat refine ⟨_, fun nx' => ⟨rfl, rfl⟩, trivial, ?_⟩
                  try simp (maxSteps := 4000000) only [go_sem, goD_calls, eq_self, implies_true, Int.reduceEq, Int.reduceBEq, Int.reduceBNe, Int.reduceLE, Int.reduceLT, Int.reduceAdd, Int.reduceSub, Int.reduceMul, Int.reduceNeg, Nat.reduceMul, Nat.reduceSub, Nat.reduceLeDiff, Nat.reduceLT, Nat.reduceEqDiff, Nat.reduceAdd, reduceCtorEq, ↓reduceIte, reduceIte, setOf, setA, refV, spQNodes, spQHasD, l39, l49, n9, e3, e4, z0, z1, z2, List.length_nil, D.l, hA, hB, ha1, hb1, dA, dB, d3, d4, SV.one]
                  repeat refine ⟨_, fun nx' => ⟨rfl, rfl⟩, trivial, ?_⟩
                  try simp (maxSteps := 4000000) only [go_sem, goD_calls, eq_self, implies_true, Int.reduceEq, Int.reduceBEq, Int.reduceBNe, Int.reduceLE, Int.reduceLT, Int.reduceAdd, Int.reduceSub, Int.reduceMul, Int.reduceNeg, Nat.reduceMul, Nat.reduceSub, Nat.reduceLeDiff, Nat.reduceLT, Nat.reduceEqDiff, Nat.reduceAdd, reduceCtorEq, ↓reduceIte, reduceIte, setOf, setA, refV, spQNodes, spQHasD, l39, l49, n9, e3, e4, z0, z1, z2, List.length_nil, D.l, hA, hB, ha1, hb1, dA, dB, d3, d4, SV.one]
                  exact ret _ _ (by ((try simp only []); repeat first | exact HLe.refl _ | refine HLe.cons (by simp only [hget, Nat.reduceEqDiff, Nat.left_eq_add, Nat.add_eq_left, nm_ne2, nm_en2, nm_ne3, nm_en3, nm_ne4, nm_en4, nm_ne5, nm_en5, reduceIte, ↓reduceIte] <;> first | rfl | ((repeat rw [if_neg (by omega)]) <;> rfl)) ?_ | refine HLe.skip hnm (by omega) ?_ | refine HLe.frz hnm (by omega) ?_ | refine HLe.del hnm (by omega) ?_))
              · have e4 : ((l4.length : Int) == 0) = false := beq_eq_false_iff_ne.2 (by omega)
                have k4 := (key 2 _ _ _ (.inr rfl) hP4 h4).trans (if_neg (by decide))
                simp only [Bool.true_and, Bool.false_and, Bool.true_or, Bool.false_or] at k4
                rcases hr with rfl | ⟨hl4, rfl⟩
                · skip
                  simp (maxSteps := 4000000) only [go_sem, goD_calls, eq_self, implies_true, Int.reduceEq, Int.reduceBEq, Int.reduceBNe, Int.reduceLE, Int.reduceLT, Int.reduceAdd, Int.reduceSub, Int.reduceMul, Int.reduceNeg, Nat.reduceMul, Nat.reduceSub, Nat.reduceLeDiff, Nat.reduceLT, Nat.reduceEqDiff, Nat.reduceAdd, reduceCtorEq, ↓reduceIte, reduceIte, setOf, setA, refV, spQNodes, spQHasD, l39, l49, n9, e3, e4, z0, z1, z2, List.length_nil, D.l, hA, hB, ha1, hb1, dA, dB, d3, d4, SV.one, k4]
                  repeat refine ⟨_, fun nx' => ⟨rfl, rfl⟩, trivial, ?_⟩
                  try simp (maxSteps := 4000000) only [go_sem, goD_calls, eq_self, implies_true, Int.reduceEq, Int.reduceBEq, Int.reduceBNe, Int.reduceLE, Int.reduceLT, Int.reduceAdd, Int.reduceSub, Int.reduceMul, Int.reduceNeg, Nat.reduceMul, Nat.reduceSub, Nat.reduceLeDiff, Nat.reduceLT, Nat.reduceEqDiff, Nat.reduceAdd, reduceCtorEq, ↓reduceIte, reduceIte, setOf, setA, refV, spQNodes, spQHasD, l39, l49, n9, e3, e4, z0, z1, z2, List.length_nil, D.l, hA, hB, ha1, hb1, dA, dB, d3, d4, SV.one, k4]
                  repeat refine ⟨_, fun nx' => ⟨rfl, rfl⟩, trivial, ?_⟩
                  try simp (maxSteps := 4000000) only [go_sem, goD_calls, eq_self, implies_true, Int.reduceEq, Int.reduceBEq, Int.reduceBNe, Int.reduceLE, Int.reduceLT, Int.reduceAdd, Int.reduceSub, Int.reduceMul, Int.reduceNeg, Nat.reduceMul, Nat.reduceSub, Nat.reduceLeDiff, Nat.reduceLT, Nat.reduceEqDiff, Nat.reduceAdd, reduceCtorEq, ↓reduceIte, reduceIte, setOf, setA, refV, spQNodes, spQHasD, l39, l49, n9, e3, e4, z0, z1, z2, List.length_nil, D.l, hA, hB, ha1, hb1, dA, dB, d3, d4, SV.one, k4]
                  repeat refine ⟨_, fun nx' => ⟨rfl, rfl⟩, trivial, ?_⟩
                  try simp (maxSteps := 4000000) only [go_sem, goD_calls, eq_self, implies_true, Int.reduceEq, Int.reduceBEq, Int.reduceBNe, Int.reduceLE, Int.reduceLT, Int.reduceAdd, Int.reduceSub, Int.reduceMul, Int.reduceNeg, Nat.reduceMul, Nat.reduceSub, Nat.reduceLeDiff, Nat.reduceLT, Nat.reduceEqDiff, Nat.reduceAdd, reduceCtorEq, ↓reduceIte, reduceIte, setOf, setA, refV, spQNodes, spQHasD, l39, l49, n9, e3, e4, z0, z1, z2, List.length_nil, D.l, hA, hB, ha1, hb1, dA, dB, d3, d4, SV.one, k4]
                  repeat refine ⟨_, fun nx' => ⟨rfl, rfl⟩, trivial, ?_⟩
                  try simp (maxSteps := 4000000) only [go_sem, goD_calls, eq_self, implies_true, Int.reduceEq, Int.reduceBEq, Int.reduceBNe, Int.reduceLE, Int.reduceLT, Int.reduceAdd, Int.reduceSub, Int.reduceMul, Int.reduceNeg, Nat.reduceMul, Nat.reduceSub, Nat.reduceLeDiff, Nat.reduceLT, Nat.reduceEqDiff, Nat.reduceAdd, reduceCtorEq, ↓reduceIte, reduceIte, setOf, setA, refV, spQNodes, spQHasD, l39, l49, n9, e3, e4, z0, z1, z2, List.length_nil, D.l, hA, hB, ha1, hb1, dA, dB, d3, d4, SV.one, k4]
                  repeat refine ⟨_, fun nx' => ⟨rfl, rfl⟩, trivial, ?_⟩
                  try simp (maxSteps := 4000000) only [go_sem, goD_calls, eq_self, implies_true, Int.reduceEq, Int.reduceBEq, Int.reduceBNe, Int.reduceLE, Int.reduceLT, Int.reduceAdd, Int.reduceSub, Int.reduceMul, Int.reduceNeg, Nat.reduceMul, Nat.reduceSub, Nat.reduceLeDiff, Nat.reduceLT, Nat.reduceEqDiff, Nat.reduceAdd, reduceCtorEq, ↓reduceIte, reduceIte, setOf, setA, refV, spQNodes, spQHasD, l39, l49, n9, e3, e4, z0, z1, z2, List.length_nil, D.l, hA, hB, ha1, hb1, dA, dB, d3, d4, SV.one, k4]
                  repeat refine ⟨_, fun nx' => ⟨rfl, rfl⟩, trivial, ?_⟩
                  try simp (maxSteps := 4000000) only [go_sem, goD_calls, eq_self, implies_true, Int.reduceEq, Int.reduceBEq, Int.reduceBNe, Int.reduceLE, Int.reduceLT, Int.reduceAdd, Int.reduceSub, Int.reduceMul, Int.reduceNeg, Nat.reduceMul, Nat.reduceSub, Nat.reduceLeDiff, Nat.reduceLT, Nat.reduceEqDiff, Nat.reduceAdd, reduceCtorEq, ↓reduceIte, reduceIte, setOf, setA, refV, spQNodes, spQHasD, l39, l49, n9, e3, e4, z0, z1, z2, List.length_nil, D.l, hA, hB, ha1, hb1, dA, dB, d3, d4, SV.one, k4]
                  exact ret _ _ (by ((try simp only []); repeat first | exact HLe.refl _ | refine HLe.cons (by simp only [hget, Nat.reduceEqDiff, Nat.left_eq_add, Nat.add_eq_left, nm_ne2, nm_en2, nm_ne3, nm_en3, nm_ne4, nm_en4, nm_ne5, nm_en5, reduceIte, ↓reduceIte] <;> first | rfl | ((repeat rw [if_neg (by omega)]) <;> rfl)) ?_ | refine HLe.skip hnm (by omega) ?_ | refine HLe.frz hnm (by omega) ?_ | refine HLe.del hnm (by omega) ?_))
                · exact absurd (by rw [hl4]; rfl) h4
          · have e3 : decide ((0 : Int) < (l3.length : Int)) = true := decide_eq_true (by omega)
            have k3 := (key 1 _ _ _ (.inl rfl) hP3 h3).trans (if_pos rfl)
            simp only [Bool.true_and, Bool.false_and, Bool.true_or, Bool.false_or] at k3
            rcases hr with rfl | ⟨hl3, rfl⟩
            · skip
              simp (maxSteps := 4000000) only [go_sem, goD_calls, eq_self, implies_true, Int.reduceEq, Int.reduceBEq, Int.reduceBNe, Int.reduceLE, Int.reduceLT, Int.reduceAdd, Int.reduceSub, Int.reduceMul, Int.reduceNeg, Nat.reduceMul, Nat.reduceSub, Nat.reduceLeDiff, Nat.reduceLT, Nat.reduceEqDiff, Nat.reduceAdd, reduceCtorEq, ↓reduceIte, reduceIte, setOf, setA, refV, spQTwo]
              refine ⟨X, Y, oX, oY, hPa, hPb, fun r hr => ?_⟩
              obtain ⟨p4, l4, n4, hP4, hr⟩ := hr
              have d4 := okD_prog oO hP4
              have l49 := eq_true (l1 oO hP4)
              by_cases h4 : l4.length = 0
              · have e4 : ((l4.length : Int) == 0) = true := by rw [h4]; rfl
                rcases hr with rfl | ⟨hl4, rfl⟩
                all_goals
                  simp (maxSteps := 4000000) only [go_sem, goD_calls, eq_self, implies_true, Int.reduceEq, Int.reduceBEq, Int.reduceBNe, Int.reduceLE, Int.reduceLT, Int.reduceAdd, Int.reduceSub, Int.reduceMul, Int.reduceNeg, Nat.reduceMul, Nat.reduceSub, Nat.reduceLeDiff, Nat.reduceLT, Nat.reduceEqDiff, Nat.reduceAdd, reduceCtorEq, ↓reduceIte, reduceIte, setOf, setA, refV, spQNodes, spQHasD, l39, l49, n9, e3, e4, z0, z1, z2, List.length_nil, D.l, hA, hB, ha1, hb1, dA, dB, d3, d4, SV.one, k3]
                  repeat refine ⟨_, fun nx' => ⟨rfl, rfl⟩, trivial, ?_⟩
                  try simp (maxSteps := 4000000) only [go_sem, goD_calls, eq_self, implies_true, Int.reduceEq, Int.reduceBEq, Int.reduceBNe, Int.reduceLE, Int.reduceLT, Int.reduceAdd, Int.reduceSub, Int.reduceMul, Int.reduceNeg, Nat.reduceMul, Nat.reduceSub, Nat.reduceLeDiff, Nat.reduceLT, Nat.reduceEqDiff, Nat.reduceAdd, reduceCtorEq, ↓reduceIte, reduceIte, setOf, setA, refV, spQNodes, spQHasD, l39, l49, n9, e3, e4, z0, z1, z2, List.length_nil, D.l, hA, hB, ha1, hb1, dA, dB, d3, d4, SV.one, k3]
                  repeat refine ⟨_, fun nx' => ⟨rfl, rfl⟩, trivial, ?_⟩
                  try simp (maxSteps := 4000000) only [go_sem, goD_calls, eq_self, implies_true, Int.reduceEq, Int.reduceBEq, Int.reduceBNe, Int.reduceLE, Int.reduceLT, Int.reduceAdd, Int.reduceSub, Int.reduceMul, Int.reduceNeg, Nat.reduceMul, Nat.reduceSub, Nat.reduceLeDiff, Nat.reduceLT, Nat.reduceEqDiff, Nat.reduceAdd, reduceCtorEq, ↓reduceIte, reduceIte, setOf, setA, refV, spQNodes, spQHasD, l39, l49, n9, e3, e4, z0, z1, z2, List.length_nil, D.l, hA, hB, ha1, hb1, dA, dB, d3, d4, SV.one, k3]
                  repeat refine ⟨_, fun nx' => ⟨rfl, rfl⟩, trivial, ?_⟩
                  try simp (maxSteps := 4000000) only [go_sem, goD_calls, eq_self, implies_true, Int.reduceEq, Int.reduceBEq, Int.reduceBNe, Int.reduceLE, Int.reduceLT, Int.reduceAdd, Int.reduceSub, Int.reduceMul, Int.reduceNeg, Nat.reduceMul, Nat.reduceSub, Nat.reduceLeDiff, Nat.reduceLT, Nat.reduceEqDiff, Nat.reduceAdd, reduceCtorEq, ↓reduceIte, reduceIte, setOf, setA, refV, spQNodes, spQHasD, l39, l49, n9, e3, e4, z0, z1, z2, List.length_nil, D.l, hA, hB, ha1, hb1, dA, dB, d3, d4, SV.one, k3]
                  repeat refine ⟨_, fun nx' => ⟨rfl, rfl⟩, trivial, ?_⟩
                  try simp (maxSteps := 4000000) only [go_sem, goD_calls, eq_self, implies_true, Int.reduceEq, Int.reduceBEq, Int.reduceBNe, Int.reduceLE, Int.reduceLT, Int.reduceAdd, Int.reduceSub, Int.reduceMul, Int.reduceNeg, Nat.reduceMul, Nat.reduceSub, Nat.reduceLeDiff, Nat.reduceLT, Nat.reduceEqDiff, Nat.reduceAdd, reduceCtorEq, ↓reduceIte, reduceIte, setOf, setA, refV, spQNodes, spQHasD, l39, l49, n9, e3, e4, z0, z1, z2, List.length_nil, D.l, hA, hB, ha1, hb1, dA, dB, d3, d4, SV.one, k3]
                  repeat refine ⟨_, fun nx' => ⟨rfl, rfl⟩, trivial, ?_⟩
                  try simp (maxSteps := 4000000) only [go_sem, goD_calls, eq_self, implies_true, Int.reduceEq, Int.reduceBEq, Int.reduceBNe, Int.reduceLE, Int.reduceLT, Int.reduceAdd, Int.reduceSub, Int.reduceMul, Int.reduceNeg, Nat.reduceMul, Nat.reduceSub, Nat.reduceLeDiff, Nat.reduceLT, Nat.reduceEqDiff, Nat.reduceAdd, reduceCtorEq, ↓reduceIte, reduceIte, setOf, setA, refV, spQNodes, spQHasD, l39, l49, n9, e3, e4, z0, z1, z2, List.length_nil, D.l, hA, hB, ha1, hb1, dA, dB, d3, d4, SV.one, k3]
                  repeat refine ⟨_, fun nx' => ⟨rfl, rfl⟩, trivial, ?_⟩
                  try simp (maxSteps := 4000000) only [go_sem, goD_calls, eq_self, implies_true, Int.reduceEq, Int.reduceBEq, Int.reduceBNe, Int.reduceLE, Int.reduceLT, Int.reduceAdd, Int.reduceSub, Int.reduceMul, Int.reduceNeg, Nat.reduceMul, Nat.reduceSub, Nat.reduceLeDiff, Nat.reduceLT, Nat.reduceEqDiff, Nat.reduceAdd, reduceCtorEq, ↓reduceIte, reduceIte, setOf, setA, refV, spQNodes, spQHasD, l39, l49, n9, e3, e4, z0, z1, z2, List.length_nil, D.l, hA, hB, ha1, hb1, dA, dB, d3, d4, SV.one, k3]
                  exact ret _ _ (by ((try simp only []); repeat first | exact HLe.refl _ | refine HLe.cons (by simp only [hget, Nat.reduceEqDiff, Nat.left_eq_add, Nat.add_eq_left, nm_ne2, nm_en2, nm_ne3, nm_en3, nm_ne4, nm_en4, nm_ne5, nm_en5, reduceIte, ↓reduceIte] <;> first | rfl | ((repeat rw [if_neg (by omega)]) <;> rfl)) ?_ | refine HLe.skip hnm (by omega) ?_ | refine HLe.frz hnm (by omega) ?_ | refine HLe.del hnm (by omega) ?_))
              · have e4 : ((l4.length : Int) == 0) = false := beq_eq_false_iff_ne.2 (by omega)
                have k4 := (key 2 _ _ _ (.inr rfl) hP4 h4).trans (if_neg (by decide))
                simp only [Bool.true_and, Bool.false_and, Bool.true_or, Bool.false_or] at k4
                rcases hr with rfl | ⟨hl4, rfl⟩
                · skip
                  simp (maxSteps := 4000000) only [go_sem, goD_calls, eq_self, implies_true, Int.reduceEq, Int.reduceBEq, Int.reduceBNe, Int.reduceLE, Int.reduceLT, Int.reduceAdd, Int.reduceSub, Int.reduceMul, Int.reduceNeg, Nat.reduceMul, Nat.reduceSub, Nat.reduceLeDiff, Nat.reduceLT, Nat.reduceEqDiff, Nat.reduceAdd, reduceCtorEq, ↓reduceIte, reduceIte, setOf, setA, refV, spQNodes, spQHasD, l39, l49, n9, e3, e4, z0, z1, z2, List.length_nil, D.l, hA, hB, ha1, hb1, dA, dB, d3, d4, SV.one, k3, k4]
                  repeat refine ⟨_, fun nx' => ⟨rfl, rfl⟩, trivial, ?_⟩
                  try simp (maxSteps := 4000000) only [go_sem, goD_calls, eq_self, implies_true, Int.reduceEq, Int.reduceBEq, Int.reduceBNe, Int.reduceLE, Int.reduceLT, Int.reduceAdd, Int.reduceSub, Int.reduceMul, Int.reduceNeg, Nat.reduceMul, Nat.reduceSub, Nat.reduceLeDiff, Nat.reduceLT, Nat.reduceEqDiff, Nat.reduceAdd, reduceCtorEq, ↓reduceIte, reduceIte, setOf, setA, refV, spQNodes, spQHasD, l39, l49, n9, e3, e4, z0, z1, z2, List.length_nil, D.l, hA, hB, ha1, hb1, dA, dB, d3, d4, SV.one, k3, k4]
                  repeat refine ⟨_, fun nx' => ⟨rfl, rfl⟩, trivial, ?_⟩
                  try simp (maxSteps := 4000000) only [go_sem, goD_calls, eq_self, implies_true, Int.reduceEq, Int.reduceBEq, Int.reduceBNe, Int.reduceLE, Int.reduceLT, Int.reduceAdd, Int.reduceSub, Int.reduceMul, Int.reduceNeg, Nat.reduceMul, Nat.reduceSub, Nat.reduceLeDiff, Nat.reduceLT, Nat.reduceEqDiff, Nat.reduceAdd, reduceCtorEq, ↓reduceIte, reduceIte, setOf, setA, refV, spQNodes, spQHasD, l39, l49, n9, e3, e4, z0, z1, z2, List.length_nil, D.l, hA, hB, ha1, hb1, dA, dB, d3, d4, SV.one, k3, k4]
                  repeat refine ⟨_, fun nx' => ⟨rfl, rfl⟩, trivial, ?_⟩
                  try simp (maxSteps := 4000000) only [go_sem, goD_calls, eq_self, implies_true, Int.reduceEq, Int.reduceBEq, Int.reduceBNe, Int.reduceLE, Int.reduceLT, Int.reduceAdd, Int.reduceSub, Int.reduceMul, Int.reduceNeg, Nat.reduceMul, Nat.reduceSub, Nat.reduceLeDiff, Nat.reduceLT, Nat.reduceEqDiff, Nat.reduceAdd, reduceCtorEq, ↓reduceIte, reduceIte, setOf, setA, refV, spQNodes, spQHasD, l39, l49, n9, e3, e4, z0, z1, z2, List.length_nil, D.l, hA, hB, ha1, hb1, dA, dB, d3, d4, SV.one, k3, k4]
                  repeat refine ⟨_, fun nx' => ⟨rfl, rfl⟩, trivial, ?_⟩
                  try simp (maxSteps := 4000000) only [go_sem, goD_calls, eq_self, implies_true, Int.reduceEq, Int.reduceBEq, Int.reduceBNe, Int.reduceLE, Int.reduceLT, Int.reduceAdd, Int.reduceSub, Int.reduceMul, Int.reduceNeg, Nat.reduceMul, Nat.reduceSub, Nat.reduceLeDiff, Nat.reduceLT, Nat.reduceEqDiff, Nat.reduceAdd, reduceCtorEq, ↓reduceIte, reduceIte, setOf, setA, refV, spQNodes, spQHasD, l39, l49, n9, e3, e4, z0, z1, z2, List.length_nil, D.l, hA, hB, ha1, hb1, dA, dB, d3, d4, SV.one, k3, k4]
                  repeat refine ⟨_, fun nx' => ⟨rfl, rfl⟩, trivial, ?_⟩
                  try simp (maxSteps := 4000000) only [go_sem, goD_calls, eq_self, implies_true, Int.reduceEq, Int.reduceBEq, Int.reduceBNe, Int.reduceLE, Int.reduceLT, Int.reduceAdd, Int.reduceSub, Int.reduceMul, Int.reduceNeg, Nat.reduceMul, Nat.reduceSub, Nat.reduceLeDiff, Nat.reduceLT, Nat.reduceEqDiff, Nat.reduceAdd, reduceCtorEq, ↓reduceIte, reduceIte, setOf, setA, refV, spQNodes, spQHasD, l39, l49, n9, e3, e4, z0, z1, z2, List.length_nil, D.l, hA, hB, ha1, hb1, dA, dB, d3, d4, SV.one, k3, k4]
                  repeat refine ⟨_, fun nx' => ⟨rfl, rfl⟩, trivial, ?_⟩
                  try simp (maxSteps := 4000000) only [go_sem, goD_calls, eq_self, implies_true, Int.reduceEq, Int.reduceBEq, Int.reduceBNe, Int.reduceLE, Int.reduceLT, Int.reduceAdd, Int.reduceSub, Int.reduceMul, Int.reduceNeg, Nat.reduceMul, Nat.reduceSub, Nat.reduceLeDiff, Nat.reduceLT, Nat.reduceEqDiff, Nat.reduceAdd, reduceCtorEq, ↓reduceIte, reduceIte, setOf, setA, refV, spQNodes, spQHasD, l39, l49, n9, e3, e4, z0, z1, z2, List.length_nil, D.l, hA, hB, ha1, hb1, dA, dB, d3, d4, SV.one, k3, k4]
                  exact ret _ _ (by ((try simp only []); repeat first | exact HLe.refl _ | refine HLe.cons (by simp only [hget, Nat.reduceEqDiff, Nat.left_eq_add, Nat.add_eq_left, nm_ne2, nm_en2, nm_ne3, nm_en3, nm_ne4, nm_en4, nm_ne5, nm_en5, reduceIte, ↓reduceIte] <;> first | rfl | ((repeat rw [if_neg (by omega)]) <;> rfl)) ?_ | refine HLe.skip hnm (by omega) ?_ | refine HLe.frz hnm (by omega) ?_ | refine HLe.del hnm (by omega) ?_))
                · exact absurd (by rw [hl4]; rfl) h4
            · exact absurd (by rw [hl3]; rfl) h3
      · simp (maxSteps := 4000000) only [go_sem, goD_calls, eq_self, implies_true, Int.reduceEq, Int.reduceBEq, Int.reduceBNe, Int.reduceLE, Int.reduceLT, Int.reduceAdd, Int.reduceSub, Int.reduceMul, Int.reduceNeg, Nat.reduceMul, Nat.reduceSub, Nat.reduceLeDiff, Nat.reduceLT, Nat.reduceEqDiff, Nat.reduceAdd, reduceCtorEq, ↓reduceIte, reduceIte, setOf, setA, refV, spQNodes, la9, lb9, z1, c2, D.l, List.length_nil, z0]
        exact ret _ _ (by ((try simp only []); repeat first | exact HLe.refl _ | refine HLe.cons (by simp only [hget, Nat.reduceEqDiff, Nat.left_eq_add, Nat.add_eq_left, nm_ne2, nm_en2, nm_ne3, nm_en3, nm_ne4, nm_en4, nm_ne5, nm_en5, reduceIte, ↓reduceIte] <;> first | rfl | ((repeat rw [if_neg (by omega)]) <;> rfl)) ?_ | refine HLe.skip hnm (by omega) ?_ | refine HLe.frz hnm (by omega) ?_ | refine HLe.del hnm (by omega) ?_))
    · simp (maxSteps := 4000000) only [go_sem, goD_calls, eq_self, implies_true, Int.reduceEq, Int.reduceBEq, Int.reduceBNe, Int.reduceLE, Int.reduceLT, Int.reduceAdd, Int.reduceSub, Int.reduceMul, Int.reduceNeg, Nat.reduceMul, Nat.reduceSub, Nat.reduceLeDiff, Nat.reduceLT, Nat.reduceEqDiff, Nat.reduceAdd, reduceCtorEq, ↓reduceIte, reduceIte, setOf, setA, refV, spQMade, hY]
      refine ⟨light_len e2, light_20 e2, fun r hr => ?_⟩
      obtain ⟨pb, lb, nb, hPb, hr⟩ := hr
      have lb16 := prog_len oY hPb
      have lb9 : (lb.length ≤ 1000000000) = True := eq_true (by omega)
      rcases hr with rfl | ⟨rfl, rfl⟩
      all_goals
        simp (maxSteps := 4000000) only [go_sem, goD_calls, eq_self, implies_true, Int.reduceEq, Int.reduceBEq, Int.reduceBNe, Int.reduceLE, Int.reduceLT, Int.reduceAdd, Int.reduceSub, Int.reduceMul, Int.reduceNeg, Nat.reduceMul, Nat.reduceSub, Nat.reduceLeDiff, Nat.reduceLT, Nat.reduceEqDiff, Nat.reduceAdd, reduceCtorEq, ↓reduceIte, reduceIte, setOf, setA, refV, spQNodes, la9, lb9, z1, D.l, List.length_nil, z0]
        exact ret _ _ (by ((try simp only []); repeat first | exact HLe.refl _ | refine HLe.cons (by simp only [hget, Nat.reduceEqDiff, Nat.left_eq_add, Nat.add_eq_left, nm_ne2, nm_en2, nm_ne3, nm_en3, nm_ne4, nm_en4, nm_ne5, nm_en5, reduceIte, ↓reduceIte] <;> first | rfl | ((repeat rw [if_neg (by omega)]) <;> rfl)) ?_ | refine HLe.skip hnm (by omega) ?_ | refine HLe.frz hnm (by omega) ?_ | refine HLe.del hnm (by omega) ?_))
  · exact hsp.elim
end Go.Proofs.YtkmilijehekdoaaDoor
