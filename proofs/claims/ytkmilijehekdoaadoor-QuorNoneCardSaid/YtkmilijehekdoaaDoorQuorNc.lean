/- Chapter 6: QuorNone. -/
import Derived.Test.YtkmilijehekdoaaDoorQuorNb
namespace Go.Proofs.YtkmilijehekdoaaDoor
set_option linter.unusedVariables false
set_option linter.unusedSimpArgs false
open Go Go.Fw
attribute [local go_sem] walkSet evMdl evMupD evMup evLkp frpL eltP eltV eltK preF preP prePt prePd frzP evNlq ev frOf oget ogets argSs argS evCat evMm frzL evBin evWrp evShf evCmp evUna evNil evBeq evLd evSt evFad evIad evAad evLen evSln evEls evApp evParts evSlc evNlc evMif evPck evFld evBld evTas evIfq evSeq evSl0 evBxf evAgl evAgq evBsf hget hset hdel cellAt arrAt setCellAt setArrAt takeC lenC svCells SV.okc SV.one ldSV Fw.isAgg explode explodeL toD toDL toD1 Ty.size Ty.sizeL frz1 Fr.sub Heap.sub Tok.sub SV.sub SV.subL

set_option maxHeartbeats 4000000 in
set_option maxRecDepth 8000 in
theorem vQuorNoneW {E : Nat → Value} (hE : Errs2 Tryd.prog (some 152) E) : Valid Tryd.prog E (gs GQO) 10 spQuorNone := by
  refine valid_go (W := WQuorNoneW) hE (((((((((((allValid_bot.addIt (it_QLeast1 hE)).add (up (vL6first hE))).add (up (vNumber hE))).add (up (vQOfS hE))).add (up (vQMeetsN hE))).add (up (vQAndN hE))).add (up (vQOrN hE))).add (up (vQHasD hE))).add (up (vQLeast hE))).add (up (vQSTextN hE))).add (up (vQNodes hE))) irQuorNoneW (by decide) (fun args h nx K hsp hok hnm => ?_)
  unfold spQuorNone at hsp
  split at hsp
  · rename_i k0 t d
    obtain ⟨rfl, hK⟩ := hsp
    refine ⟨by simp [WQuorNoneW, mkW, mkWE, mkWF], fun Q hQ => ?_⟩
    obtain ⟨hd, _⟩ := hok.2
    simp only [SV.ok] at hd
    obtain ⟨hd1, hd2, hd3⟩ := Wt.slice hd; generalize d.l = l at *; subst hd1
    have ret : ∀ h' nx', HLe h h' → Q Ex.ret ⟨[(4, .bool true)], h', nx'⟩ := fun h' nx' hh => by
      refine (hQ _ ?_).1
      exact fin_t (.bool true) rfl rfl hnm hh hK
    have g4 : (0 : Int) < 4 := by decide
    obtain ⟨k', hk0⟩ : ∃ x, k0 % 4 = x := ⟨_, rfl⟩
    have rk : 0 ≤ k' ∧ k' < 4 := by rw [← hk0]; exact ⟨Int.emod_nonneg _ (by decide), Int.emod_lt_of_pos _ (by decide)⟩
    obtain ⟨k, hk⟩ : ∃ x, k' + 1 = x := ⟨_, rfl⟩
    have k1 : 1 ≤ k := by omega
    have k2 : k ≤ ((4 : Nat) : Int) := by omega
    by_cases h20 : l.length ≤ 20
    · have c1 : decide ((20 : Int) < (l.length : Int)) = false := decide_eq_false (by omega)
      have hz : ([D.int 1, D.int 3, D.int 5, D.int 7].map D.i) = z1357 := rfl
      have hzl : ([D.int 1, D.int 3, D.int 5, D.int 7] : List D).length = 4 := rfl
      have hp := eq_true (show z1357.Pairwise (· < ·) by decide)
      have hr : ∀ x ∈ z1357, 0 ≤ x ∧ x < 64 := by decide
      have i1 : (1 : Nat) ≤ 4 := by decide
      have i2 : (4 : Nat) ≤ 16 := by decide
      simp only [icQuorNoneW, go_sem, goD_calls, eq_self, implies_true, Int.reduceEq, Int.reduceBEq, Int.reduceBNe, Int.reduceLE, Int.reduceLT, Int.reduceAdd, Int.reduceSub, Int.reduceMul, Int.reduceNeg, Nat.reduceMul, Nat.reduceSub, Nat.reduceLeDiff, Nat.reduceLT, Nat.reduceEqDiff, Nat.reduceAdd, reduceCtorEq, ↓reduceIte, reduceIte, spL6first, spNumber, g4, hk0, hk, c1, spQOfS, setOf, hz, hzl, hp, k1, k2, i1, i2, spQLeast]
      refine ⟨⟨by rw [min_i64]; omega, by rw [max_i64]; omega⟩, hr, ?_⟩
      refine go_rng _ _ _ [(32, .clo 33 [.elt setY (.node [.nil, .list [], .int 0])]), (7, .dat .iface .nil), (8, .ptr (nx + 1) 0), (1, .dat (.slice 3) (.list l)), (6, .ptr (nx + 2) 0), (4, .bool false), (9, .ptr nx 0)] 33 [.elt setY (.node [.nil, .list [], .int 0])] [] (α := Nat) (fun j => ((nx, .cells [.int .i64 0]) :: (nx + 1, .cells [.dat (.ptr 65) .nil, .nils, .int .i64 0]) :: (nx + 2, .cells [.dat (.ptr 65) (QP.of k z1357).enc, .dat (.slice 3) (.list (z1357.map D.int)), .int .i64 1]) :: h, nx + 3)) (fun j => j) 0 (nx + 3) (by omega) (by simp only []; omega) ?_ rfl ?_ rfl ⟨_, _, _, rfl, .inl ⟨rfl, rfl⟩⟩ (fun it hit => by cases hit) (fun j Qa R hj hQa hR hret hext => by cases hj) (fun j hj => ?_)
      · refine FrLt.all ?_
        (simp only [frLt_cons, frLt_nil, and_true, SV.lt, SV.ltL, true_and] <;> omega)
      · refine leq_news [(nx, nx + 64 + 64 + 1 + 64 + 1 + 1), (nx + 1, nx + 64 + 64 + 1 + 64 + 1), (nx + 2, nx + 64 + 64 + 1 + 64)] [(nx, .cells [.int .i64 0]), (nx + 1, .cells [.dat (.ptr 65) .nil, .nils, .int .i64 0]), (nx + 2, .cells [.dat (.ptr 65) (QP.of k z1357).enc, .dat (.slice 3) (.list (z1357.map D.int)), .int .i64 1])] (.refl _) (by simp) (by simp <;> omega) (by simp <;> omega) rfl ?_ ?_ ?_ ?_ hnm ?_ ?_
        · simp [frIn_cons, frIn_nil, fget_cons, fget_nil, SV.ren, SV.renL, rens]
        · (simp only [frLt_cons, frLt_nil, and_true, SV.lt, SV.ltL, true_and] <;> omega)
        · (simp only [List.mem_cons, List.not_mem_nil, or_false, forall_eq_or_imp, forall_eq]; simp [hget, rens, Tok.ren, SV.ren, SV.renL])
          all_goals try (refine ⟨?_, ?_⟩ <;> first | omega | (repeat rw [if_neg (by omega)]))
          all_goals try (repeat rw [if_neg (by omega)])
        · (simp only [List.mem_cons, List.not_mem_nil, or_false, forall_eq_or_imp, forall_eq, Tok.lt, SV.lt, SV.ltL, and_true, true_and] <;> omega)
        · ((try simp only []); repeat first | exact HLe.refl _ | refine HLe.cons (by simp only [hget, Nat.reduceEqDiff, Nat.left_eq_add, Nat.add_eq_left, nm_ne2, nm_en2, nm_ne3, nm_en3, nm_ne4, nm_en4, nm_ne5, nm_en5, reduceIte, ↓reduceIte] <;> first | rfl | ((repeat rw [if_neg (by omega)]) <;> rfl)) ?_ | refine HLe.skip hnm (by omega) ?_ | refine HLe.frz hnm (by omega) ?_ | refine HLe.del hnm (by omega) ?_)
        · omega
      simp only [go_sem, goD_calls, eq_self, implies_true, Int.reduceEq, Int.reduceBEq, Int.reduceBNe, Int.reduceLE, Int.reduceLT, Int.reduceAdd, Int.reduceSub, Int.reduceMul, Int.reduceNeg, Nat.reduceMul, Nat.reduceSub, Nat.reduceLeDiff, Nat.reduceLT, Nat.reduceEqDiff, Nat.reduceAdd, reduceCtorEq, ↓reduceIte, reduceIte, spQAndN, spQOrN, sliceX_nils, sliceX_dat]
      have z0 : (((0 : Nat) : Int) == 0) = true := rfl
      have noneE : (noneS.toList == (⟨#[110, 111, 110, 101]⟩ : ByteArray).toList) = true := by decide +kernel
      have ho : (QP.of k z1357).ok := of_okZ hr (by decide)
      obtain ⟨b, hb⟩ : ∃ b, hasD (QP.of k z1357).enc (inL l) = b := ⟨_, rfl⟩
      refine ⟨.bool false, fun nx' => ⟨rfl, rfl, rfl, rfl, .inl rfl, by rw [hasD_nil]; exact ⟨rfl, rfl⟩⟩, trivial, ?_⟩
      simp only [go_sem, goD_calls, eq_self, implies_true, Int.reduceEq, Int.reduceBEq, Int.reduceBNe, Int.reduceLE, Int.reduceLT, Int.reduceAdd, Int.reduceSub, Int.reduceMul, Int.reduceNeg, Nat.reduceMul, Nat.reduceSub, Nat.reduceLeDiff, Nat.reduceLT, Nat.reduceEqDiff, Nat.reduceAdd, reduceCtorEq, ↓reduceIte, reduceIte, noneE, z0, beq_self_eq_true]
      refine ⟨.str noneS, fun nx' => ⟨rfl, .inl rfl, txtOk_nil, by rw [txtD_nil]; exact ⟨rfl, rfl⟩⟩, trivial, ?_⟩
      simp only [go_sem, goD_calls, eq_self, implies_true, Int.reduceEq, Int.reduceBEq, Int.reduceBNe, Int.reduceLE, Int.reduceLT, Int.reduceAdd, Int.reduceSub, Int.reduceMul, Int.reduceNeg, Nat.reduceMul, Nat.reduceSub, Nat.reduceLeDiff, Nat.reduceLT, Nat.reduceEqDiff, Nat.reduceAdd, reduceCtorEq, ↓reduceIte, reduceIte, noneE, z0, beq_self_eq_true]
      refine ⟨.dat (.slice 3) (.list []), fun nx' => ⟨rfl, rfl, rfl⟩, trivial, ?_⟩
      simp only [go_sem, goD_calls, eq_self, implies_true, Int.reduceEq, Int.reduceBEq, Int.reduceBNe, Int.reduceLE, Int.reduceLT, Int.reduceAdd, Int.reduceSub, Int.reduceMul, Int.reduceNeg, Nat.reduceMul, Nat.reduceSub, Nat.reduceLeDiff, Nat.reduceLT, Nat.reduceEqDiff, Nat.reduceAdd, reduceCtorEq, ↓reduceIte, reduceIte, noneE, z0, beq_self_eq_true]
      refine ⟨.bool true, fun nx' => ⟨rfl, rfl, .inl rfl, rfl, rfl⟩, trivial, ?_⟩
      simp only [go_sem, goD_calls, eq_self, implies_true, Int.reduceEq, Int.reduceBEq, Int.reduceBNe, Int.reduceLE, Int.reduceLT, Int.reduceAdd, Int.reduceSub, Int.reduceMul, Int.reduceNeg, Nat.reduceMul, Nat.reduceSub, Nat.reduceLeDiff, Nat.reduceLT, Nat.reduceEqDiff, Nat.reduceAdd, reduceCtorEq, ↓reduceIte, reduceIte, noneE, z0, beq_self_eq_true]
      refine ⟨.bool true, fun nx' => ⟨rfl, rfl, .inr rfl, rfl, rfl⟩, trivial, ?_⟩
      simp only [go_sem, goD_calls, eq_self, implies_true, Int.reduceEq, Int.reduceBEq, Int.reduceBNe, Int.reduceLE, Int.reduceLT, Int.reduceAdd, Int.reduceSub, Int.reduceMul, Int.reduceNeg, Nat.reduceMul, Nat.reduceSub, Nat.reduceLeDiff, Nat.reduceLT, Nat.reduceEqDiff, Nat.reduceAdd, reduceCtorEq, ↓reduceIte, reduceIte, noneE, z0, beq_self_eq_true]
      refine ⟨.bool false, fun nx' => ⟨rfl, rfl, rfl, rfl, .inl rfl, by rw [hasD_nil]; exact ⟨rfl, rfl⟩⟩, trivial, ?_⟩
      simp only [go_sem, goD_calls, eq_self, implies_true, Int.reduceEq, Int.reduceBEq, Int.reduceBNe, Int.reduceLE, Int.reduceLT, Int.reduceAdd, Int.reduceSub, Int.reduceMul, Int.reduceNeg, Nat.reduceMul, Nat.reduceSub, Nat.reduceLeDiff, Nat.reduceLT, Nat.reduceEqDiff, Nat.reduceAdd, reduceCtorEq, ↓reduceIte, reduceIte, noneE, z0, beq_self_eq_true]
      refine ⟨.str noneS, fun nx' => ⟨rfl, .inl rfl, txtOk_nil, by rw [txtD_nil]; exact ⟨rfl, rfl⟩⟩, trivial, ?_⟩
      simp only [go_sem, goD_calls, eq_self, implies_true, Int.reduceEq, Int.reduceBEq, Int.reduceBNe, Int.reduceLE, Int.reduceLT, Int.reduceAdd, Int.reduceSub, Int.reduceMul, Int.reduceNeg, Nat.reduceMul, Nat.reduceSub, Nat.reduceLeDiff, Nat.reduceLT, Nat.reduceEqDiff, Nat.reduceAdd, reduceCtorEq, ↓reduceIte, reduceIte, noneE, z0, beq_self_eq_true]
      refine ⟨.bool b, fun nx' => ⟨rfl, rfl, rfl, rfl, okD_enc ho, hb.symm ▸ ⟨rfl, rfl⟩⟩, trivial, ?_⟩
      try simp only [go_sem, goD_calls, eq_self, implies_true, Int.reduceEq, Int.reduceBEq, Int.reduceBNe, Int.reduceLE, Int.reduceLT, Int.reduceAdd, Int.reduceSub, Int.reduceMul, Int.reduceNeg, Nat.reduceMul, Nat.reduceSub, Nat.reduceLeDiff, Nat.reduceLT, Nat.reduceEqDiff, Nat.reduceAdd, reduceCtorEq, ↓reduceIte, reduceIte]
      refine ⟨.bool b, fun nx' => ⟨rfl, rfl, rfl, rfl, okD_enc ho, hb.symm ▸ ⟨rfl, rfl⟩⟩, trivial, ?_⟩
      simp only [go_sem, goD_calls, eq_self, implies_true, Int.reduceEq, Int.reduceBEq, Int.reduceBNe, Int.reduceLE, Int.reduceLT, Int.reduceAdd, Int.reduceSub, Int.reduceMul, Int.reduceNeg, Nat.reduceMul, Nat.reduceSub, Nat.reduceLeDiff, Nat.reduceLT, Nat.reduceEqDiff, Nat.reduceAdd, reduceCtorEq, ↓reduceIte, reduceIte, noneE, z0, beq_self_eq_true]
      refine ⟨.str (txtD (QP.of k z1357).enc), fun nx' => ⟨rfl, .inr ⟨_, rfl⟩, txtOk_1357 k1 k2, rfl, rfl⟩, trivial, ?_⟩
      try simp only [go_sem, goD_calls, eq_self, implies_true, Int.reduceEq, Int.reduceBEq, Int.reduceBNe, Int.reduceLE, Int.reduceLT, Int.reduceAdd, Int.reduceSub, Int.reduceMul, Int.reduceNeg, Nat.reduceMul, Nat.reduceSub, Nat.reduceLeDiff, Nat.reduceLT, Nat.reduceEqDiff, Nat.reduceAdd, reduceCtorEq, ↓reduceIte, reduceIte]
      refine ⟨.str (txtD (QP.of k z1357).enc), fun nx' => ⟨rfl, .inr ⟨_, rfl⟩, txtOk_1357 k1 k2, rfl, rfl⟩, trivial, ?_⟩
      simp only [go_sem, goD_calls, eq_self, implies_true, Int.reduceEq, Int.reduceBEq, Int.reduceBNe, Int.reduceLE, Int.reduceLT, Int.reduceAdd, Int.reduceSub, Int.reduceMul, Int.reduceNeg, Nat.reduceMul, Nat.reduceSub, Nat.reduceLeDiff, Nat.reduceLT, Nat.reduceEqDiff, Nat.reduceAdd, reduceCtorEq, ↓reduceIte, reduceIte, noneE, z0, beq_self_eq_true]
      exact ret _ _ (by ((try simp only []); repeat first | exact HLe.refl _ | refine HLe.cons (by simp only [hget, Nat.reduceEqDiff, Nat.left_eq_add, Nat.add_eq_left, nm_ne2, nm_en2, nm_ne3, nm_en3, nm_ne4, nm_en4, nm_ne5, nm_en5, reduceIte, ↓reduceIte] <;> first | rfl | ((repeat rw [if_neg (by omega)]) <;> rfl)) ?_ | refine HLe.skip hnm (by omega) ?_ | refine HLe.frz hnm (by omega) ?_ | refine HLe.del hnm (by omega) ?_))
    · have c1 : decide ((20 : Int) < (l.length : Int)) = true := decide_eq_true (by omega)
      simp only [icQuorNoneW, go_sem, goD_calls, eq_self, implies_true, Int.reduceEq, Int.reduceBEq, Int.reduceBNe, Int.reduceLE, Int.reduceLT, Int.reduceAdd, Int.reduceSub, Int.reduceMul, Int.reduceNeg, Nat.reduceMul, Nat.reduceSub, Nat.reduceLeDiff, Nat.reduceLT, Nat.reduceEqDiff, Nat.reduceAdd, reduceCtorEq, ↓reduceIte, reduceIte, spL6first, c1]
      exact ret _ _ (by ((try simp only []); repeat first | exact HLe.refl _ | refine HLe.cons (by simp only [hget, Nat.reduceEqDiff, Nat.left_eq_add, Nat.add_eq_left, nm_ne2, nm_en2, nm_ne3, nm_en3, nm_ne4, nm_en4, nm_ne5, nm_en5, reduceIte, ↓reduceIte] <;> first | rfl | ((repeat rw [if_neg (by omega)]) <;> rfl)) ?_ | refine HLe.skip hnm (by omega) ?_ | refine HLe.frz hnm (by omega) ?_ | refine HLe.del hnm (by omega) ?_))
  · exact hsp.elim
end Go.Proofs.YtkmilijehekdoaaDoor
