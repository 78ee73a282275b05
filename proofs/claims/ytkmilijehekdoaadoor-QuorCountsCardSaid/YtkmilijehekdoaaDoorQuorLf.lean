/- Chapter 6: QuorCounts: the walk. -/
import Derived.Test.YtkmilijehekdoaaDoorQuorLe
namespace Go.Proofs.YtkmilijehekdoaaDoor
set_option linter.unusedVariables false
set_option linter.unusedSimpArgs false
open Go Go.Fw
attribute [local go_sem] walkSet evMdl evMupD evMup evLkp frpL preF preP prePt prePd frzP evNlq ev frOf oget ogets argSs argS evMm frzL evBin evWrp evShf evCmp evUna evNil evBeq evLd evSt evFad evIad evAad evLen evSln evEls evApp evParts evSlc evNlc evMif evPck evFld evBld evTas evIfq evSeq evSl0 evBxf evAgl evAgq evBsf hget hset hdel cellAt arrAt setCellAt setArrAt takeC lenC svCells SV.okc SV.one ldSV Fw.isAgg explode explodeL toD toDL toD1 Ty.size Ty.sizeL frz1 Fr.sub Heap.sub Tok.sub SV.sub SV.subL

set_option maxHeartbeats 4000000 in
set_option maxRecDepth 8000 in
theorem vQuorCounts {E : Nat → Value} (hE : Errs2 Tryd.prog (some 152) E) : Valid Tryd.prog E (gs GQO) 3 spQuorCounts := by
  refine valid_go (W := WQuorCounts) hE (((((((allValid_bot.addIt (it_QLeast1 hE)).add (up (vL6first hE))).add (up (vNumber hE))).add (up (vQOfS hE))).add (up (vQMeetsV hE))).add (up (vQHasD hE))).add (up (vQLeast hE))) irQuorCounts (by decide) (fun args h nx K hsp hok hnm => ?_)
  unfold spQuorCounts at hsp
  split at hsp
  · rename_i n0 k0 m0
    have hK := hsp
    refine ⟨by simp [WQuorCounts, mkW, mkWE, mkWF], fun Q hQ => ?_⟩
    have ret : ∀ h' nx', HLe h h' → Q Ex.ret ⟨[(6, .bool true)], h', nx'⟩ := fun h' nx' hh => by
      refine (hQ _ ?_).1
      exact fin_t (.bool true) rfl rfl hnm hh hK
    have g8 : (0 : Int) < 8 := by decide
    obtain ⟨N, hN, hN8⟩ : ∃ N : Nat, n0 % 8 + 1 = (N : Int) ∧ 1 ≤ N ∧ N ≤ 8 := ⟨(n0 % 8 + 1).toNat, by omega, by omega, by omega⟩
    have gN : (0 : Int) < (N : Int) := by omega
    obtain ⟨k, hk, hk1, hkN⟩ : ∃ k : Nat, k0 % (N : Int) + 1 = (k : Int) ∧ 1 ≤ k ∧ k ≤ N := by
      have := Int.emod_nonneg k0 (show (N : Int) ≠ 0 by omega)
      have := Int.emod_lt_of_pos k0 gN
      exact ⟨(k0 % (N : Int) + 1).toNat, by omega, by omega, by omega⟩
    obtain ⟨m, hm, hm1, hmN⟩ : ∃ m : Nat, m0 % (N : Int) + 1 = (m : Int) ∧ 1 ≤ m ∧ m ≤ N := by
      have := Int.emod_nonneg m0 (show (N : Int) ≠ 0 by omega)
      have := Int.emod_lt_of_pos m0 gN
      exact ⟨(m0 % (N : Int) + 1).toNat, by omega, by omega, by omega⟩
    simp (maxSteps := 4000000) only [icQuorCounts, go_sem, goD_calls, eq_self, implies_true, Int.reduceEq, Int.reduceBEq, Int.reduceBNe, Int.reduceLE, Int.reduceLT, Int.reduceAdd, Int.reduceSub, Int.reduceMul, Int.reduceNeg, Nat.reduceMul, Nat.reduceSub, Nat.reduceLeDiff, Nat.reduceLT, Nat.reduceEqDiff, Nat.reduceAdd, reduceCtorEq, ↓reduceIte, reduceIte, spL6first, spNumber, g8, hN, gN, hk, hm, min_i64, max_i64]
    refine ⟨⟨by omega, by omega⟩, ⟨by omega, by omega⟩, ⟨by omega, by omega⟩, ?_⟩
    refine go_loop (α := { i : Nat // i ≤ N }) (I := fun i => { f := [(9, .int .i64 i.1), (7, .bool true), (2, .int .i64 m), (0, .int .i64 N), (8, .vec nx), (1, .int .i64 k), (6, .bool false)], h := (nx, .arr 3 (.int .i64) ((cL i.1).map D.int)) :: h, nx := nx + 1 }) (μ := fun i => N - i.1) _ _ _ ⟨0, by omega⟩ ?_ (fun i B hB => ?_)
    · refine leq_news [(nx, nx + 64 + 64 + 64 + 64)] [(nx, .arr 3 (.int .i64) ((cL 0).map D.int))] (.slot 8 3 (.int .i64) rfl (.refl _)) (by simp) (by simp <;> omega) (by simp <;> omega) rfl ?_ ?_ ?_ ?_ hnm ?_ (by omega)
      · simp [frIn_cons, frIn_nil, fget_cons, fget_nil, SV.ren, SV.renL, rens]
      · (simp only [frLt_cons, frLt_nil, and_true, SV.lt, SV.ltL, true_and] <;> omega)
      · (simp only [List.mem_cons, List.not_mem_nil, or_false, forall_eq_or_imp, forall_eq]; simp [hget, rens, Tok.ren, SV.ren, SV.renL])
        try rfl
      · (simp only [List.mem_cons, List.not_mem_nil, or_false, forall_eq_or_imp, forall_eq, Tok.lt, SV.lt, SV.ltL, and_true, true_and] <;> omega)
      · ((try simp only []); repeat first | exact HLe.refl _ | refine HLe.cons (by simp only [hget, Nat.reduceEqDiff, Nat.left_eq_add, Nat.add_eq_left, nm_ne2, nm_en2, nm_ne3, nm_en3, nm_ne4, nm_en4, nm_ne5, nm_en5, reduceIte, ↓reduceIte] <;> first | rfl | ((repeat rw [if_neg (by omega)]) <;> rfl)) ?_ | refine HLe.skip hnm (by omega) ?_ | refine HLe.frz hnm (by omega) ?_ | refine HLe.del hnm (by omega) ?_)
    obtain ⟨i, hi⟩ := i
    simp only at hB
    have hcl : ((cL i).map D.int).length = i := by rw [List.length_map, cL_len]
    by_cases hil : i < N
    · have c1 : decide ((i : Int) < (N : Int)) = true := decide_eq_true (by omega)
      have hs : (cL i).map D.int ++ [D.int (3 * (i : Int))] = (cL (i + 1)).map D.int := by rw [cL_step, List.map_append]; rfl
      simp (maxSteps := 4000000) only [go_sem, goD_calls, eq_self, implies_true, Int.reduceEq, Int.reduceBEq, Int.reduceBNe, Int.reduceLE, Int.reduceLT, Int.reduceAdd, Int.reduceSub, Int.reduceMul, Int.reduceNeg, Nat.reduceMul, Nat.reduceSub, Nat.reduceLeDiff, Nat.reduceLT, Nat.reduceEqDiff, Nat.reduceAdd, reduceCtorEq, ↓reduceIte, reduceIte, c1, hs, hcl, min_i64, max_i64]
      refine ⟨⟨by omega, by omega⟩, by omega, ⟨by omega, by omega⟩, ?_⟩
      refine hB _ ⟨i + 1, by omega⟩ (by simp only []; omega) ?_
      refine leq_ren1 nx (nx + 1 + 1) (by omega) (by simp only [] <;> omega) ?_ (by (simp only [frLt_cons, frLt_nil, and_true, SV.lt, SV.ltL, true_and] <;> omega)) ?_ (by (repeat first | exact HLt.mono hnm (by simp only [] <;> omega) | refine HLt.cons (by simp only [] <;> omega) (by simp only [Tok.lt, SV.ltL, SV.lt, and_true, true_and] <;> omega) ?_)) (by simp only [] <;> omega)
      · simp only [frEq_cons, frEq_nil, frIn_cons, frIn_nil, and_true, fget_cons, Nat.reduceEqDiff, reduceIte, ↓reduceIte, true_and, SV.ren, SV.renL, ren1]
        simp
      · exact HRen.cons (by rw [ren1_eq]; simp [hget, Tok.ren]) (HRen.base hnm (Nat.le_refl _) (by ((try simp only []); repeat first | exact HLe.refl _ | refine HLe.cons (by simp only [hget, Nat.reduceEqDiff, Nat.left_eq_add, Nat.add_eq_left, nm_ne2, nm_en2, nm_ne3, nm_en3, nm_ne4, nm_en4, nm_ne5, nm_en5, reduceIte, ↓reduceIte] <;> first | rfl | ((repeat rw [if_neg (by omega)]) <;> rfl)) ?_ | refine HLe.skip hnm (by omega) ?_ | refine HLe.frz hnm (by omega) ?_ | refine HLe.del hnm (by omega) ?_)))
    obtain rfl : i = N := by omega
    have c1 : decide ((i : Int) < (i : Int)) = false := decide_eq_false (by omega)
    have hz : ((cL i).map D.int).map D.i = cL i := by rw [List.map_map]; exact List.map_id _
    have hp := eq_true (cL_ok i (by omega)).1
    have hr := eq_true (cL_ok i (by omega)).2
    have t1 := eq_true (show 1 ≤ i by omega)
    have t2 := eq_true (show i ≤ 16 by omega)
    have t3 := eq_true (show (1 : Int) ≤ (k : Int) by omega)
    have t4 := eq_true (show (k : Int) ≤ (i : Int) by omega)
    have t5 := eq_true (show (1 : Int) ≤ (m : Int) by omega)
    have t6 := eq_true (show (m : Int) ≤ (i : Int) by omega)
    simp (maxSteps := 4000000) only [go_sem, goD_calls, eq_self, implies_true, Int.reduceEq, Int.reduceBEq, Int.reduceBNe, Int.reduceLE, Int.reduceLT, Int.reduceAdd, Int.reduceSub, Int.reduceMul, Int.reduceNeg, Nat.reduceMul, Nat.reduceSub, Nat.reduceLeDiff, Nat.reduceLT, Nat.reduceEqDiff, Nat.reduceAdd, reduceCtorEq, ↓reduceIte, reduceIte, c1, spQOfS, spQLeast, setOf, hz, hp, hr, hcl, t1, t2, t3, t4, t5, t6]
    have hok1 : (QP.of (k : Int) (cL i)).ok := of_okZ (cL_ok i (by omega)).2 (by rw [cL_len]; omega)
    have hok2 : (QP.of (m : Int) (cL i)).ok := of_okZ (cL_ok i (by omega)).2 (by rw [cL_len]; omega)
    have hcnt := count_least (n := i) (k := k) (by omega) hk1 (by omega)
    have hitl : ((leastPL (QP.of (k : Int) (cL i)) ((cL i).map D.int)).map itemI).length = binN i k := by rw [List.length_map, hcnt]
    refine go_rng _ _ _ [(54, .clo 33 [.elt setY (.node [(QP.of (k : Int) (cL i)).enc, .list ((cL i).map D.int), .int 1])]), (7, .bool true), (11, .dat .iface .nil), (13, .dat .iface .nil), (12, .ptr (nx + 2) 0), (2, .int .i64 m), (0, .int .i64 i), (10, .ptr (nx + 1) 0), (8, .dat (.slice 3) (.list ((cL i).map D.int))), (1, .int .i64 k), (6, .bool false), (14, .ptr nx 0)] 33 [.elt setY (.node [(QP.of (k : Int) (cL i)).enc, .list ((cL i).map D.int), .int 1])] ((leastPL (QP.of (k : Int) (cL i)) ((cL i).map D.int)).map itemI) (α := Nat) (fun j => ((nx, .cells [.int .i64 j]) :: (nx + 1, .cells [.dat (.ptr 65) (QP.of (k : Int) (cL i)).enc, .dat (.slice 3) (.list ((cL i).map D.int)), .int .i64 1]) :: (nx + 2, .cells [.dat (.ptr 65) (QP.of (m : Int) (cL i)).enc, .dat (.slice 3) (.list ((cL i).map D.int)), .int .i64 1]) :: h, nx + 3)) (fun j => j) 0 (nx + 3) (by omega) (by simp only []; omega) ?_ rfl ?_ rfl ⟨_, _, _, rfl, .inr ⟨QP.of (k : Int) (cL i), rfl, hok1, by rw [hcl]; omega, by rw [hz]; exact (cL_ok i (by omega)).2, rfl⟩⟩ ?_ (fun j Qa R hj hQa hR hret hext => ?_) (fun j hj => ?_)
    · refine FrLt.all ?_
      (simp only [frLt_cons, frLt_nil, and_true, SV.lt, SV.ltL, true_and] <;> omega)
    · refine leq_news [(nx, nx + 1 + 64 + 1 + 64 + 1), (nx + 1, nx + 1 + 64), (nx + 2, nx + 1 + 64 + 1 + 64)] [(nx, .cells [.int .i64 0]), (nx + 1, .cells [.dat (.ptr 65) (QP.of (k : Int) (cL i)).enc, .dat (.slice 3) (.list ((cL i).map D.int)), .int .i64 1]), (nx + 2, .cells [.dat (.ptr 65) (QP.of (m : Int) (cL i)).enc, .dat (.slice 3) (.list ((cL i).map D.int)), .int .i64 1])] (.refl _) (by simp) (by simp <;> omega) (by simp <;> omega) rfl ?_ ?_ ?_ ?_ hnm ?_ ?_
      · simp [frIn_cons, frIn_nil, fget_cons, fget_nil, SV.ren, SV.renL, rens]
      · (simp only [frLt_cons, frLt_nil, and_true, SV.lt, SV.ltL, true_and] <;> omega)
      · (simp only [List.mem_cons, List.not_mem_nil, or_false, forall_eq_or_imp, forall_eq]; simp [hget, rens, Tok.ren, SV.ren, SV.renL])
        all_goals try (refine ⟨?_, ?_⟩ <;> first | omega | (repeat rw [if_neg (by omega)]))
        all_goals try (repeat rw [if_neg (by omega)])
      · (simp only [List.mem_cons, List.not_mem_nil, or_false, forall_eq_or_imp, forall_eq, Tok.lt, SV.lt, SV.ltL, and_true, true_and] <;> omega)
      · ((try simp only []); repeat first | exact HLe.refl _ | refine HLe.cons (by simp only [hget, Nat.reduceEqDiff, Nat.left_eq_add, Nat.add_eq_left, nm_ne2, nm_en2, nm_ne3, nm_en3, nm_ne4, nm_en4, nm_ne5, nm_en5, reduceIte, ↓reduceIte] <;> first | rfl | ((repeat rw [if_neg (by omega)]) <;> rfl)) ?_ | refine HLe.skip hnm (by omega) ?_ | refine HLe.frz hnm (by omega) ?_ | refine HLe.del hnm (by omega) ?_)
      · omega
    · intro it hit
      obtain ⟨d, _, rfl⟩ := List.mem_map.1 hit
      rfl
    · have hj' : j < binN i k := by rw [hitl] at hj; exact hj
      have hb := binN_le i (by omega) k (by omega)
      have ek : ∃ L, ((leastPL (QP.of (k : Int) (cL i)) ((cL i).map D.int)).map itemI).getD j ([], []) = itemI L := by
        rw [List.length_map] at hj
        rw [List.getD_eq_getElem?_getD, List.getElem?_map, List.getElem?_eq_getElem hj]
        exact ⟨_, rfl⟩
      obtain ⟨L, hL⟩ := ek
      rw [hL]
      simp (maxSteps := 4000000) only [go_sem, goD_calls, eq_self, implies_true, Int.reduceEq, Int.reduceBEq, Int.reduceBNe, Int.reduceLE, Int.reduceLT, Int.reduceAdd, Int.reduceSub, Int.reduceMul, Int.reduceNeg, Nat.reduceMul, Nat.reduceSub, Nat.reduceLeDiff, Nat.reduceLT, Nat.reduceEqDiff, Nat.reduceAdd, reduceCtorEq, ↓reduceIte, reduceIte, itemI, zipF_cons, zipF_nil, shH_nil, shH_cons, SV.renL, SV.ren, Tok.ren, shN_def]
      refine hQa _ ?_
      simp (maxSteps := 4000000) only [go_sem, goD_calls, eq_self, implies_true, Int.reduceEq, Int.reduceBEq, Int.reduceBNe, Int.reduceLE, Int.reduceLT, Int.reduceAdd, Int.reduceSub, Int.reduceMul, Int.reduceNeg, Nat.reduceMul, Nat.reduceSub, Nat.reduceLeDiff, Nat.reduceLT, Nat.reduceEqDiff, Nat.reduceAdd, reduceCtorEq, ↓reduceIte, reduceIte, min_i64, max_i64]
      refine ⟨⟨by omega, by omega⟩, ?_⟩
      refine hR _ (j + 1) rfl ?_
      refine leq_id trivial trivial (by ((try simp only []); repeat first | exact HLe.refl _ | refine HLe.cons (by simp only [hget, Nat.reduceEqDiff, Nat.left_eq_add, Nat.add_eq_left, nm_ne2, nm_en2, nm_ne3, nm_en3, nm_ne4, nm_en4, nm_ne5, nm_en5, reduceIte, ↓reduceIte] <;> first | rfl | ((repeat rw [if_neg (by omega)]) <;> rfl)) ?_ | refine HLe.skip hnm (by omega) ?_ | refine HLe.frz hnm (by omega) ?_ | refine HLe.del hnm (by omega) ?_)) (by (repeat first | exact HLt.mono hnm (by simp only [] <;> omega) | refine HLt.cons (by simp only [] <;> omega) (by simp only [Tok.lt, SV.ltL, SV.lt, and_true, true_and] <;> omega) ?_)) (by simp only [] <;> omega)
    · rw [hitl] at hj
      subst hj
      simp (maxSteps := 4000000) only [go_sem, goD_calls, eq_self, implies_true, Int.reduceEq, Int.reduceBEq, Int.reduceBNe, Int.reduceLE, Int.reduceLT, Int.reduceAdd, Int.reduceSub, Int.reduceMul, Int.reduceNeg, Nat.reduceMul, Nat.reduceSub, Nat.reduceLeDiff, Nat.reduceLT, Nat.reduceEqDiff, Nat.reduceAdd, reduceCtorEq, ↓reduceIte, reduceIte]
      refine go_loop (α := { j : Nat // j ≤ k }) (I := fun j => { f := [(16, .int .i64 j.1), (15, .int .i64 (binN i j.1)), (7, .bool true), (11, .dat .iface .nil), (13, .dat .iface .nil), (12, .ptr (nx + 2) 0), (2, .int .i64 m), (0, .int .i64 i), (10, .ptr (nx + 1) 0), (8, .dat (.slice 3) (.list ((cL i).map D.int))), (1, .int .i64 k), (14, .ptr nx 0)], h := (nx, .cells [.int .i64 (binN i k)]) :: (nx + 1, .cells [.dat (.ptr 65) (QP.of (k : Int) (cL i)).enc, .dat (.slice 3) (.list ((cL i).map D.int)), .int .i64 1]) :: (nx + 2, .cells [.dat (.ptr 65) (QP.of (m : Int) (cL i)).enc, .dat (.slice 3) (.list ((cL i).map D.int)), .int .i64 1]) :: h, nx := nx + 3 }) (μ := fun j => k - j.1) _ _ _ ⟨0, by omega⟩ ?_ (fun j B hB => ?_)
      · refine leq_id (by simp only [frEq_cons, frEq_nil, frIn_cons, frIn_nil, and_true, fget_cons, Nat.reduceEqDiff, reduceIte, ↓reduceIte, true_and, SV.ren, SV.renL, ren1] <;> (try rfl) <;> (try simp [binN])) (by (simp only [frLt_cons, frLt_nil, and_true, SV.lt, SV.ltL, true_and] <;> omega)) (by ((try simp only []); repeat first | exact HLe.refl _ | refine HLe.cons (by simp only [hget, Nat.reduceEqDiff, Nat.left_eq_add, Nat.add_eq_left, nm_ne2, nm_en2, nm_ne3, nm_en3, nm_ne4, nm_en4, nm_ne5, nm_en5, reduceIte, ↓reduceIte] <;> first | rfl | ((repeat rw [if_neg (by omega)]) <;> rfl)) ?_ | refine HLe.skip hnm (by omega) ?_ | refine HLe.frz hnm (by omega) ?_ | refine HLe.del hnm (by omega) ?_)) (by (repeat first | exact HLt.mono hnm (by simp only [] <;> omega) | refine HLt.cons (by simp only [] <;> omega) (by simp only [Tok.lt, SV.ltL, SV.lt, and_true, true_and] <;> omega) ?_)) (by simp only [] <;> omega)
      obtain ⟨j, hj⟩ := j
      simp only at hB
      by_cases hjk : j < k
      · have c2 : decide ((j : Int) < (k : Int)) = true := decide_eq_true (by omega)
        have b1 := binN_le i (by omega) j (by omega)
        have b2 := binN_le i (by omega) (j + 1) (by omega)
        have b3 : binN i j * (i - j) ≤ 100 * 8 := Nat.mul_le_mul b1 (by omega)
        have e1 : (binN i j : Int) * ((i : Int) - (j : Int)) = ((binN i j * (i - j) : Nat) : Int) := by
          rw [Int.natCast_mul, Int.natCast_sub (by omega)]
        have e2 : (((binN i j * (i - j) : Nat) : Int)).tdiv ((j : Int) + 1) = (binN i (j + 1) : Int) := by
          have : ((j : Int) + 1) = ((j + 1 : Nat) : Int) := by omega
          rw [this, ← Int.ofNat_tdiv]
          rfl
        simp (maxSteps := 4000000) only [go_sem, goD_calls, eq_self, implies_true, Int.reduceEq, Int.reduceBEq, Int.reduceBNe, Int.reduceLE, Int.reduceLT, Int.reduceAdd, Int.reduceSub, Int.reduceMul, Int.reduceNeg, Nat.reduceMul, Nat.reduceSub, Nat.reduceLeDiff, Nat.reduceLT, Nat.reduceEqDiff, Nat.reduceAdd, reduceCtorEq, ↓reduceIte, reduceIte, c2, e1, e2, min_i64, max_i64]
        refine ⟨⟨by omega, by omega⟩, ⟨by omega, by omega⟩, ⟨by omega, by omega⟩, ⟨by omega, by omega, by omega⟩, ⟨by omega, by omega⟩, ?_⟩
        refine hB _ ⟨j + 1, by omega⟩ (by simp only []; omega) ?_
        refine leq_id (by simp only [frEq_cons, frEq_nil, frIn_cons, frIn_nil, and_true, fget_cons, Nat.reduceEqDiff, reduceIte, ↓reduceIte, true_and, SV.ren, SV.renL, ren1] <;> (try rfl) <;> (try simp)) (by (simp only [frLt_cons, frLt_nil, and_true, SV.lt, SV.ltL, true_and] <;> omega)) (by ((try simp only []); repeat first | exact HLe.refl _ | refine HLe.cons (by simp only [hget, Nat.reduceEqDiff, Nat.left_eq_add, Nat.add_eq_left, nm_ne2, nm_en2, nm_ne3, nm_en3, nm_ne4, nm_en4, nm_ne5, nm_en5, reduceIte, ↓reduceIte] <;> first | rfl | ((repeat rw [if_neg (by omega)]) <;> rfl)) ?_ | refine HLe.skip hnm (by omega) ?_ | refine HLe.frz hnm (by omega) ?_ | refine HLe.del hnm (by omega) ?_)) (by (repeat first | exact HLt.mono hnm (by simp only [] <;> omega) | refine HLt.cons (by simp only [] <;> omega) (by simp only [Tok.lt, SV.ltL, SV.lt, and_true, true_and] <;> omega) ?_)) (by simp only [] <;> omega)
      obtain rfl : j = k := by omega
      have c2 : decide ((j : Int) < (j : Int)) = false := decide_eq_false (by omega)
      have hmv := meets_cL (n := i) (k := j) (m := m) (by omega) hk1 (by omega) hm1 (by omega)
      have hf1 := has_first (n := i) (k := j) (j := j) (by omega) (by omega) hk1 (by omega)
      have hf2 := has_first (n := i) (k := j) (j := j - 1) (by omega) (by omega) hk1 (by omega)
      rw [decide_eq_true (Nat.le_refl j)] at hf1
      rw [decide_eq_false (by omega : ¬ j ≤ j - 1)] at hf2
      have o1 := okD_enc hok1
      have o2 := okD_enc hok2
      have ml : (((cL i).map D.int).length ≤ 16) = True := eq_true (by rw [hcl]; omega)
      obtain ⟨b, hb⟩ : ∃ b, decide ((i : Int) < (j : Int) + (m : Int)) = b := ⟨_, rfl⟩
      rw [hb] at hmv
      have tj : ((j : Int) - 1).toNat = j - 1 := by omega
      simp (maxSteps := 4000000) only [go_sem, goD_calls, eq_self, implies_true, Int.reduceEq, Int.reduceBEq, Int.reduceBNe, Int.reduceLE, Int.reduceLT, Int.reduceAdd, Int.reduceSub, Int.reduceMul, Int.reduceNeg, Nat.reduceMul, Nat.reduceSub, Nat.reduceLeDiff, Nat.reduceLT, Nat.reduceEqDiff, Nat.reduceAdd, reduceCtorEq, ↓reduceIte, reduceIte, c2, spQMeetsV, spQHasD, o1, o2, ml, ex_list, hmv, hb, hf1, hf2, SV.one, hcl, Int.toNat_natCast, tj, min_i64, max_i64]
      exact ⟨⟨by omega, by omega⟩, by omega, ⟨by omega, by omega⟩, ⟨by omega, by omega⟩, ⟨by omega, by omega⟩, ret _ _ (by ((try simp only []); repeat first | exact HLe.refl _ | refine HLe.cons (by simp only [hget, Nat.reduceEqDiff, Nat.left_eq_add, Nat.add_eq_left, nm_ne2, nm_en2, nm_ne3, nm_en3, nm_ne4, nm_en4, nm_ne5, nm_en5, reduceIte, ↓reduceIte] <;> first | rfl | ((repeat rw [if_neg (by omega)]) <;> rfl)) ?_ | refine HLe.skip hnm (by omega) ?_ | refine HLe.frz hnm (by omega) ?_ | refine HLe.del hnm (by omega) ?_))⟩
  · exact hsp.elim
end Go.Proofs.YtkmilijehekdoaaDoor
