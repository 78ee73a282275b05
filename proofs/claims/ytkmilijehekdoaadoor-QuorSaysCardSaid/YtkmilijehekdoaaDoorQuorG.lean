/- Chapter 6: what a row of parts makes: the walk. -/
import Derived.Test.YtkmilijehekdoaaDoorQuorE
namespace Go.Proofs.YtkmilijehekdoaaDoor
set_option linter.unusedVariables false
set_option linter.unusedSimpArgs false
open Go Go.Fw
attribute [local go_sem] walkSet evMdl evMupD evMup evLkp frpL eltP eltV eltK preF preP prePt prePd frzP evNlq ev frOf oget ogets argSs argS evCat evMm frzL evBin evWrp evShf evCmp evUna evNil evBeq evLd evSt evFad evIad evAad evLen evSln evEls evApp evParts evSlc evNlc evMif evPck evFld evBld evTas evIfq evSeq evSl0 evBxf evAgl evAgq evBsf hget hset hdel cellAt arrAt setCellAt setArrAt takeC lenC svCells SV.okc SV.one ldSV Fw.isAgg explode explodeL toD toDL toD1 Ty.size Ty.sizeL frz1 Fr.sub Heap.sub Tok.sub SV.sub SV.subL

def spQMade : FSpec := fun args h nx K => match args with
  | [.dat (.slice t) d] => t = 72 ∧ d.l.length ≤ 7 ∧ (∀ x ∈ d.l, lN x ≤ 20) ∧ ∀ r, isProg (lastQ (madeL d.l)) r → K (.tup [r, refV (refQ (lastQ (madeL d.l))), .bool true]) h
  | _ => False
set_option maxHeartbeats 4000000 in
set_option maxRecDepth 8000 in
theorem vQMade {E : Nat → Value} (hE : Errs2 Tryd.prog (some 152) E) : Valid Tryd.prog E G0 18 spQMade := by
  refine valid_go (W := WQMade) hE ((((((((allValid_bot.add (up (vQOf hE))).add (up (vR6Of hE))).add (up (vIs hE))).add (up (vNumber hE))).add (up (vQTwo1 hE))).add (up (vQTwo2 hE))).add (up (vR6And hE))).add (up (vR6Or hE))) irQMade (by decide) (fun args h nx K hsp hok hnm => ?_)
  unfold spQMade at hsp
  split at hsp
  · rename_i t d
    obtain ⟨rfl, h7, h20, hK⟩ := hsp
    refine ⟨by simp [WQMade, mkW, mkWE, mkWF], fun Q hQ => ?_⟩
    obtain ⟨hd, _⟩ := hok
    simp only [SV.ok] at hd
    obtain ⟨hd1, hd2, hd3⟩ := Wt.slice hd; generalize d.l = L at *; subst hd1
    have h7 : L.length ≤ 7 := h7
    have h20 : ∀ x ∈ L, lN x ≤ 20 := h20
    have hK : ∀ r, isProg (lastQ (madeL L)) r → K (.tup [r, refV (refQ (lastQ (madeL L))), .bool true]) h := hK
    simp only [icQMade, go_sem, goD_calls, eq_self, implies_true, Int.reduceEq, Int.reduceBEq, Int.reduceBNe, Int.reduceLE, Int.reduceLT, Int.reduceAdd, Int.reduceSub, Int.reduceMul, Int.reduceNeg, Nat.reduceMul, Nat.reduceSub, Nat.reduceLeDiff, Nat.reduceLT, Nat.reduceEqDiff, Nat.reduceAdd, reduceCtorEq, ↓reduceIte, reduceIte]
    by_cases hL0 : L.length = 0
    · obtain rfl : L = [] := List.length_eq_zero_iff.1 hL0
      refine go_loop (α := Unit) (I := fun _ => { f := [(0, .dat (.slice 72) (.list [])), (7, .int .i64 0), (5, .nils), (6, .nils), (2, .ptr nx 0), (3, .ptr (nx + 1) 0)], h := [(nx, .cells [.dat (.ptr 65) .nil, .nils, .int .i64 0]), (nx + 1, .cells [.nils])] ++ h, nx := nx + 2 }) (μ := fun _ => 0) _ _ _ () ?_ (fun _ B hB => ?_)
      · refine leq_news [(nx, nx), (nx + 1, nx + 1)] [(nx, .cells [.dat (.ptr 65) .nil, .nils, .int .i64 0]), (nx + 1, .cells [.nils])] (.refl _) (by simp) (by simp <;> omega) (by simp <;> omega) rfl ?_ ?_ ?_ ?_ hnm ?_ (by omega)
        · simp [frIn_cons, frIn_nil, fget_cons, fget_nil, SV.ren, SV.renL, rens]
        · (simp only [frLt_cons, frLt_nil, and_true, SV.lt, SV.ltL, true_and] <;> omega)
        · (simp only [List.mem_cons, List.not_mem_nil, or_false, forall_eq_or_imp, forall_eq]; simp [hget, rens, Tok.ren, SV.ren, SV.renL])
        · (simp only [List.mem_cons, List.not_mem_nil, or_false, forall_eq_or_imp, forall_eq, Tok.lt, SV.lt, SV.ltL, and_true, true_and] <;> omega)
        · ((try simp only []); repeat first | exact HLe.refl _ | refine HLe.cons (by simp only [hget, Nat.reduceEqDiff, Nat.left_eq_add, Nat.add_eq_left, nm_ne2, nm_en2, nm_ne3, nm_en3, nm_ne4, nm_en4, nm_ne5, nm_en5, reduceIte, ↓reduceIte] <;> first | rfl | ((repeat rw [if_neg (by omega)]) <;> rfl)) ?_ | refine HLe.skip hnm (by omega) ?_ | refine HLe.frz hnm (by omega) ?_ | refine HLe.del hnm (by omega) ?_)
      · have c1 : decide ((0 : Int) < (((0 : Nat) : Int))) = false := rfl
        have c2 : (((0 : Nat) : Int) == 0) = true := rfl
        simp only [go_sem, goD_calls, eq_self, implies_true, Int.reduceEq, Int.reduceBEq, Int.reduceBNe, Int.reduceLE, Int.reduceLT, Int.reduceAdd, Int.reduceSub, Int.reduceMul, Int.reduceNeg, Nat.reduceMul, Nat.reduceSub, Nat.reduceLeDiff, Nat.reduceLT, Nat.reduceEqDiff, Nat.reduceAdd, reduceCtorEq, ↓reduceIte, reduceIte, List.length_nil, c1, c2]
        refine (hQ _ ?_).1
        refine fin_new (p := True) (xs := [.agg [.dat (.ptr 65) .nil, .nils, .int .i64 0], .agg [.nils], .bool true]) ?_ trivial (.dtag 0 1 0 79 rfl rfl rfl rfl (.refl _)) [] (.tup [qNone, refV [], .bool true]) [] (by simp) (by simp) (by simp) ?_ ?_ rfl (by simp) (by simp) hnm (by ((try simp only []); repeat first | exact HLe.refl _ | refine HLe.cons (by simp only [hget, Nat.reduceEqDiff, Nat.left_eq_add, Nat.add_eq_left, nm_ne2, nm_en2, nm_ne3, nm_en3, nm_ne4, nm_en4, nm_ne5, nm_en5, reduceIte, ↓reduceIte] <;> first | rfl | ((repeat rw [if_neg (by omega)]) <;> rfl)) ?_ | refine HLe.skip hnm (by omega) ?_ | refine HLe.frz hnm (by omega) ?_ | refine HLe.del hnm (by omega) ?_)) (hK _ prog_none)
        · simp only [rsQMade, evRs, evR, go_sem, goD_calls, eq_self, implies_true, Int.reduceEq, Int.reduceBEq, Int.reduceBNe, Int.reduceLE, Int.reduceLT, Int.reduceAdd, Int.reduceSub, Int.reduceMul, Int.reduceNeg, Nat.reduceMul, Nat.reduceSub, Nat.reduceLeDiff, Nat.reduceLT, Nat.reduceEqDiff, Nat.reduceAdd, reduceCtorEq, ↓reduceIte, reduceIte]
        · rfl
        · exact ⟨⟨trivial, trivial, trivial, trivial⟩, ⟨trivial, trivial⟩, trivial, trivial⟩
    refine go_loop (α := { i : Nat // i ≤ L.length }) (I := fun i => if i.1 = L.length then { f := [(0, .dat (.slice 72) (.list L)), (7, .int .i64 i.1), (5, .dat (.slice 27) (.list ((madeL (L.take i.1)).map progD))), (6, .dat (.slice 42) (.list ((madeL (L.take i.1)).map refD))), (2, .ptr nx 0), (3, .ptr (nx + 1) 0)], h := [(nx, .cells [.dat (.ptr 65) .nil, .nils, .int .i64 0]), (nx + 1, .cells [.nils])] ++ h, nx := nx + 4 } else { f := [(0, .dat (.slice 72) (.list L)), (7, .int .i64 i.1), (5, .vec (nx + 2)), (6, .vec (nx + 3)), (2, .ptr nx 0), (3, .ptr (nx + 1) 0)], h := [(nx, .cells [.dat (.ptr 65) .nil, .nils, .int .i64 0]), (nx + 1, .cells [.nils]), (nx + 2, .arr 27 setT ((madeL (L.take i.1)).map progD)), (nx + 3, .arr 42 refT ((madeL (L.take i.1)).map refD))] ++ h, nx := nx + 4 }) (μ := fun i => L.length - i.1) _ _ _ ⟨0, by omega⟩ ?_ (fun i B hB => ?_)
    · rw [if_neg (by simp only []; omega)]
      refine leq_news [(nx, nx), (nx + 1, nx + 1), (nx + 2, nx + 2), (nx + 3, nx + 3)] [(nx, .cells [.dat (.ptr 65) .nil, .nils, .int .i64 0]), (nx + 1, .cells [.nils]), (nx + 2, .arr 27 setT []), (nx + 3, .arr 42 refT [])] (.slot 5 27 setT rfl (.slot 6 42 refT rfl (.refl _))) (by simp) (by simp <;> omega) (by simp <;> omega) rfl ?_ ?_ ?_ ?_ hnm ?_ (by omega)
      · simp [frIn_cons, frIn_nil, fget_cons, fget_nil, SV.ren, SV.renL, rens]
      · (simp only [frLt_cons, frLt_nil, and_true, SV.lt, SV.ltL, true_and] <;> omega)
      · (simp only [List.mem_cons, List.not_mem_nil, or_false, forall_eq_or_imp, forall_eq]; simp [hget, rens, Tok.ren, SV.ren, SV.renL])
        all_goals try exact ⟨by rw [if_neg (by omega), if_neg (by omega)], by omega⟩
      · (simp only [List.mem_cons, List.not_mem_nil, or_false, forall_eq_or_imp, forall_eq, Tok.lt, SV.lt, SV.ltL, and_true, true_and] <;> omega)
      · ((try simp only []); repeat first | exact HLe.refl _ | refine HLe.cons (by simp only [hget, Nat.reduceEqDiff, Nat.left_eq_add, Nat.add_eq_left, nm_ne2, nm_en2, nm_ne3, nm_en3, nm_ne4, nm_en4, nm_ne5, nm_en5, reduceIte, ↓reduceIte] <;> first | rfl | ((repeat rw [if_neg (by omega)]) <;> rfl)) ?_ | refine HLe.skip hnm (by omega) ?_ | refine HLe.frz hnm (by omega) ?_ | refine HLe.del hnm (by omega) ?_)
    · obtain ⟨i, hi⟩ := i
      simp only at hB
      have hAl := madeL_len hi
      by_cases hil : i < L.length
      · have c1 : decide ((i : Int) < (L.length : Int)) = true := decide_eq_true (by omega)
        have hst := madeL_step hil
        have hmem : L.getD i .nil ∈ L := by rw [List.getD_eq_getElem?_getD, List.getElem?_eq_getElem hil]; exact List.getElem_mem hil
        have hx := hd3 _ hmem
        have hm20 := h20 _ hmem
        rw [ty_part6] at hx
        have hAok := madeL_ok (L.take i)
        generalize madeL (L.take i) = A at hAl hst hAok ⊢
        obtain ⟨x, hxe⟩ : ∃ x, L.getD i .nil = x := ⟨_, rfl⟩
        rw [hxe] at hst hx hm20
        obtain ⟨k0, hk0⟩ : ∃ k, (x.fld 0).i = k := ⟨_, rfl⟩
        obtain ⟨k1, hk1⟩ : ∃ k, (x.fld 1).i = k := ⟨_, rfl⟩
        obtain ⟨k2, hk2⟩ : ∃ k, (x.fld 2).i = k := ⟨_, rfl⟩
        obtain ⟨k3, hk3⟩ : ∃ k, (x.fld 3).i = k := ⟨_, rfl⟩
        obtain ⟨m, hm⟩ : ∃ m, (x.fld 4).l = m := ⟨_, rfl⟩
        have hml : m.length ≤ 20 := by rw [← hm]; exact hm20
        have hm9 : m.length ≤ 1000 := by omega
        rw [if_neg (show ¬ i = L.length by omega)]
        have next : ∀ o S', stepM A x = A ++ [o] → Leq nx S' { f := [(0, .dat (.slice 72) (.list L)), (7, .int .i64 ((i : Int) + 1)), (5, .vec (nx + 2)), (6, .vec (nx + 3)), (2, .ptr nx 0), (3, .ptr (nx + 1) 0)], h := [(nx, .cells [.dat (.ptr 65) .nil, .nils, .int .i64 0]), (nx + 1, .cells [.nils]), (nx + 2, .arr 27 setT (A.map progD ++ [progD o])), (nx + 3, .arr 42 refT (A.map refD ++ [refD o]))] ++ h, nx := nx + 4 } → Leq nx S' { f := [(0, .dat (.slice 72) (.list L)), (7, .int .i64 ((i : Int) + 1)), (5, .dat (.slice 27) (.list (A.map progD ++ [progD o]))), (6, .dat (.slice 42) (.list (A.map refD ++ [refD o]))), (2, .ptr nx 0), (3, .ptr (nx + 1) 0)], h := [(nx, .cells [.dat (.ptr 65) .nil, .nils, .int .i64 0]), (nx + 1, .cells [.nils])] ++ h, nx := nx + 4 } → B S' := fun o S' e hl hl2 => by
          refine hB S' ⟨i + 1, by omega⟩ (by simp only []; omega) ?_
          simp only [hst, e, List.map_append, List.map_cons, List.map_nil, Int.natCast_add, Int.natCast_one]
          by_cases hlast : i + 1 = L.length
          · rw [if_pos hlast]; exact hl2
          · rw [if_neg hlast]; exact hl
        by_cases hz : k0 = 0 ∨ i = 0
        · have ho : stepM A x = A ++ [ofQ k1 m] := by
            unfold stepM
            rw [hk0, hk1, hm, if_pos (hz.imp id (fun h => by omega))]
          have hc : ((k0 == 0) = true ∧ True) ∨ ((k0 == 0) = false ∧ ((i : Int) == 0) = true) := by
            by_cases h : k0 = 0
            · exact .inl ⟨by rw [h]; rfl, trivial⟩
            · exact .inr ⟨beq_eq_false_iff_ne.2 h, by rw [hz.resolve_left h]; rfl⟩
          have g1 : ((fC (.dat .iface .nil) : Int) = 0) := fault_nil.2.1
          by_cases h16 : 16 < m.length ∨ m.length = 0
          · have hq : ofQ k1 m = none := by unfold ofQ; rw [if_pos (by omega)]
            have e1 : (16 < m.length ∨ m.length = 0) = True := eq_true h16
            have e2 : (m.length < 1 ∨ 16 < m.length) = True := eq_true (by omega)
            rcases hc with ⟨c2, c3⟩ | ⟨c2, c3⟩
            all_goals
              simp only [go_sem, goD_calls, eq_self, implies_true, Int.reduceEq, Int.reduceBEq, Int.reduceBNe, Int.reduceLE, Int.reduceLT, Int.reduceAdd, Int.reduceSub, Int.reduceMul, Int.reduceNeg, Nat.reduceMul, Nat.reduceSub, Nat.reduceLeDiff, Nat.reduceLT, Nat.reduceEqDiff, Nat.reduceAdd, reduceCtorEq, ↓reduceIte, reduceIte, c1, hxe, c2, c3, hk0, hk1, hk2, hk3, hm, Int.toNat_natCast, spQOf, spR6Of, spIs, fe_End, fa_End, fe_Sum, fa_Sum, fe_Shape, fa_Shape, fe_Many, fa_Many, fe_Range, fa_Range, fe_Kind, fa_Kind, fe_None, fa_None, fe_There, fa_There, fe_Full, fa_Full, fe_Crash, fa_Crash, fe_State, fa_State, fe_Conflict, fa_Conflict, fe_Waits, fa_Waits, fe_Limit, fa_Limit, fe_Fenced, fa_Fenced, fe_Word, fa_Word, fe_Number, fa_Number, fe_nil, hm9, e1, e2, qNone, refV, true_imp_iff, false_imp_iff, not_true_eq_false, min_i64, max_i64]
              refine ⟨⟨by omega, by omega⟩, by rw [List.length_map]; omega, by rw [List.length_map]; omega, ⟨by omega, by omega⟩, ?_⟩
              refine next _ _ ho ?_ ?_
              · rw [hq]
                refine leq_news [(nx, nx), (nx + 1, nx + 1), (nx + 2, nx + 4 + 1 + 1 + 1 + 64 + 1 + 64 + 1 + 64 + 1), (nx + 3, nx + 4 + 1 + 1 + 1 + 64 + 1 + 64 + 1 + 64 + 1 + 1 + 1)] [(nx, .cells [.dat (.ptr 65) .nil, .nils, .int .i64 0]), (nx + 1, .cells [.nils]), (nx + 2, .arr 27 setT (A.map progD ++ [progD none])), (nx + 3, .arr 42 refT (A.map refD ++ [refD none]))] (.refl _) (by simp) (by simp <;> omega) (by simp <;> omega) rfl ?_ ?_ ?_ ?_ hnm ?_ (by omega)
                · simp [frIn_cons, frIn_nil, fget_cons, fget_nil, SV.ren, SV.renL, rens]
                · (simp only [frLt_cons, frLt_nil, and_true, SV.lt, SV.ltL, true_and] <;> omega)
                · (simp only [List.mem_cons, List.not_mem_nil, or_false, forall_eq_or_imp, forall_eq]; simp [hget, rens, Tok.ren, SV.ren, SV.renL])
                  all_goals try (refine ⟨?_, ?_, rfl, rfl⟩ <;> repeat rw [if_neg (by omega)])
                · (simp only [List.mem_cons, List.not_mem_nil, or_false, forall_eq_or_imp, forall_eq, Tok.lt, SV.lt, SV.ltL, and_true, true_and] <;> omega)
                · ((try simp only []); repeat first | exact HLe.refl _ | refine HLe.cons (by simp only [hget, Nat.reduceEqDiff, Nat.left_eq_add, Nat.add_eq_left, nm_ne2, nm_en2, nm_ne3, nm_en3, nm_ne4, nm_en4, nm_ne5, nm_en5, reduceIte, ↓reduceIte] <;> first | rfl | ((repeat rw [if_neg (by omega)]) <;> rfl)) ?_ | refine HLe.skip hnm (by omega) ?_ | refine HLe.frz hnm (by omega) ?_ | refine HLe.del hnm (by omega) ?_)
              · rw [hq]
                refine leq_nil (.frz (nx + 4 + 1 + 1 + 1 + 64 + 1 + 64 + 1 + 64 + 1) (.frz (nx + 4 + 1 + 1 + 1 + 64 + 1 + 64 + 1 + 64 + 1 + 1 + 1) (.refl _))) ?_
                have qa : (nx = nx + 4 + 1 + 1 + 1 + 64 + 1 + 64 + 1 + 64 + 1) = False := eq_false (by omega)
                have qb : (nx = nx + 4 + 1 + 1 + 1 + 64 + 1 + 64 + 1 + 64 + 1 + 1 + 1) = False := eq_false (by omega)
                simp only [go_sem, goD_calls, eq_self, implies_true, Int.reduceEq, Int.reduceBEq, Int.reduceBNe, Int.reduceLE, Int.reduceLT, Int.reduceAdd, Int.reduceSub, Int.reduceMul, Int.reduceNeg, Nat.reduceMul, Nat.reduceSub, Nat.reduceLeDiff, Nat.reduceLT, Nat.reduceEqDiff, Nat.reduceAdd, reduceCtorEq, ↓reduceIte, reduceIte, qa, qb, ↓reduceIte, if_false]
                refine leq_news [(nx, nx), (nx + 1, nx + 1)] [(nx, .cells [.dat (.ptr 65) .nil, .nils, .int .i64 0]), (nx + 1, .cells [.nils])] (.refl _) (by simp) (by simp <;> omega) (by simp <;> omega) rfl ?_ ?_ ?_ ?_ hnm ?_ ?_
                · simp [frIn_cons, frIn_nil, fget_cons, fget_nil, SV.ren, SV.renL, rens]
                  all_goals try first | exact ⟨rfl, rfl⟩ | exact ⟨hP.symm, rfl⟩ | exact ⟨rfl, rfl, by omega⟩ | exact ⟨hP.symm, rfl, by omega⟩ | exact ⟨e6.symm, rfl, by omega⟩ | omega
                · (simp only [frLt_cons, frLt_nil, and_true, SV.lt, SV.ltL, true_and] <;> omega)
                · (simp only [List.mem_cons, List.not_mem_nil, or_false, forall_eq_or_imp, forall_eq]; simp [hget, rens, Tok.ren, SV.ren, SV.renL])
                  all_goals try (refine ⟨?_, ?_⟩ <;> repeat rw [if_neg (by omega)])
                · (simp only [List.mem_cons, List.not_mem_nil, or_false, forall_eq_or_imp, forall_eq, Tok.lt, SV.lt, SV.ltL, and_true, true_and] <;> omega)
                · ((try simp only []); repeat first | exact HLe.refl _ | refine HLe.cons (by simp only [hget, Nat.reduceEqDiff, Nat.left_eq_add, Nat.add_eq_left, nm_ne2, nm_en2, nm_ne3, nm_en3, nm_ne4, nm_en4, nm_ne5, nm_en5, reduceIte, ↓reduceIte] <;> first | rfl | ((repeat rw [if_neg (by omega)]) <;> rfl)) ?_ | refine HLe.skip hnm (by omega) ?_ | refine HLe.frz hnm (by omega) ?_ | refine HLe.del hnm (by omega) ?_)
                · omega
          · have hno : (16 < m.length ∨ m.length = 0) = False := eq_false h16
            have hno2 : (m.length < 1 ∨ 16 < m.length) = False := eq_false (by omega)
            by_cases hgo : ofOk k1 m = true
            · have hq : ofQ k1 m = some (.of k1 (riseI (m.map D.i))) := by unfold ofQ; rw [if_neg (by omega), if_pos hgo]
              have e3 : (goodN (sD m) ∧ 1 ≤ k1 ∧ k1 ≤ (m.length : Int)) = True := eq_true (ofOk_good.1 hgo)
              have e4 := ofOk_sD hgo
              rw [e4] at e3
              have e5 : riseL m = (riseI (m.map D.i)).map D.int := rfl
              have e6 : progD (some (.of k1 (riseI (m.map D.i)))) = .node [(QP.of k1 (riseI (m.map D.i))).enc, .list ((riseI (m.map D.i)).map D.int), .int 1] := by
                show D.node [_, .list (nodesL _), .int 1] = _
                rw [nodesL_eq, show (QP.of k1 (riseI (m.map D.i))).all = riseI (m.map D.i) from rfl, rise_id (rise_sorted _)]
              have e7 : refD (some (.of k1 (riseI (m.map D.i)))) = .node [.list [rPart 0 k1 0 0 ((riseI (m.map D.i)).map D.int)]] := rfl
              rcases hc with ⟨c2, c3⟩ | ⟨c2, c3⟩
              all_goals
                simp only [go_sem, goD_calls, eq_self, implies_true, Int.reduceEq, Int.reduceBEq, Int.reduceBNe, Int.reduceLE, Int.reduceLT, Int.reduceAdd, Int.reduceSub, Int.reduceMul, Int.reduceNeg, Nat.reduceMul, Nat.reduceSub, Nat.reduceLeDiff, Nat.reduceLT, Nat.reduceEqDiff, Nat.reduceAdd, reduceCtorEq, ↓reduceIte, reduceIte, c1, hxe, c2, c3, hk0, hk1, hk2, hk3, hm, Int.toNat_natCast, spQOf, spR6Of, spIs, fe_End, fa_End, fe_Sum, fa_Sum, fe_Shape, fa_Shape, fe_Many, fa_Many, fe_Range, fa_Range, fe_Kind, fa_Kind, fe_None, fa_None, fe_There, fa_There, fe_Full, fa_Full, fe_Crash, fa_Crash, fe_State, fa_State, fe_Conflict, fa_Conflict, fe_Waits, fa_Waits, fe_Limit, fa_Limit, fe_Fenced, fa_Fenced, fe_Word, fa_Word, fe_Number, fa_Number, fe_nil, hm9, hno, hno2, e3, e4, e5, hgo, setOf, refV, true_imp_iff, false_imp_iff, not_true_eq_false, not_false_eq_true, min_i64, max_i64]
                refine ⟨⟨by omega, by omega⟩, by rw [List.length_map]; omega, by rw [List.length_map]; omega, ⟨by omega, by omega⟩, ?_⟩
                refine next _ _ ho ?_ ?_
                · rw [hq, e6, e7]
                  refine leq_news [(nx, nx), (nx + 1, nx + 1), (nx + 2, nx + 4 + 1 + 1 + 1 + 64 + 1 + 64 + 1 + 64 + 1), (nx + 3, nx + 4 + 1 + 1 + 1 + 64 + 1 + 64 + 1 + 64 + 1 + 1 + 1)] [(nx, .cells [.dat (.ptr 65) .nil, .nils, .int .i64 0]), (nx + 1, .cells [.nils]), (nx + 2, .arr 27 setT (A.map progD ++ [.node [(QP.of k1 (riseI (m.map D.i))).enc, .list ((riseI (m.map D.i)).map D.int), .int 1]])), (nx + 3, .arr 42 refT (A.map refD ++ [.node [.list [rPart 0 k1 0 0 ((riseI (m.map D.i)).map D.int)]]]))] (.refl _) (by simp) (by simp <;> omega) (by simp <;> omega) rfl ?_ ?_ ?_ ?_ hnm ?_ ?_
                  · simp [frIn_cons, frIn_nil, fget_cons, fget_nil, SV.ren, SV.renL, rens]
                  · (simp only [frLt_cons, frLt_nil, and_true, SV.lt, SV.ltL, true_and] <;> omega)
                  · (simp only [List.mem_cons, List.not_mem_nil, or_false, forall_eq_or_imp, forall_eq]; simp [hget, rens, Tok.ren, SV.ren, SV.renL])
                    all_goals try (refine ⟨?_, ?_⟩ <;> repeat rw [if_neg (by omega)])
                  · (simp only [List.mem_cons, List.not_mem_nil, or_false, forall_eq_or_imp, forall_eq, Tok.lt, SV.lt, SV.ltL, and_true, true_and] <;> omega)
                  · ((try simp only []); repeat first | exact HLe.refl _ | refine HLe.cons (by simp only [hget, Nat.reduceEqDiff, Nat.left_eq_add, Nat.add_eq_left, nm_ne2, nm_en2, nm_ne3, nm_en3, nm_ne4, nm_en4, nm_ne5, nm_en5, reduceIte, ↓reduceIte] <;> first | rfl | ((repeat rw [if_neg (by omega)]) <;> rfl)) ?_ | refine HLe.skip hnm (by omega) ?_ | refine HLe.frz hnm (by omega) ?_ | refine HLe.del hnm (by omega) ?_)
                  · omega
                · rw [hq, e6, e7]
                  refine leq_nil (.frz (nx + 4 + 1 + 1 + 1 + 64 + 1 + 64 + 1 + 64 + 1) (.frz (nx + 4 + 1 + 1 + 1 + 64 + 1 + 64 + 1 + 64 + 1 + 1 + 1) (.refl _))) ?_
                  have qa : (nx = nx + 4 + 1 + 1 + 1 + 64 + 1 + 64 + 1 + 64 + 1) = False := eq_false (by omega)
                  have qb : (nx = nx + 4 + 1 + 1 + 1 + 64 + 1 + 64 + 1 + 64 + 1 + 1 + 1) = False := eq_false (by omega)
                  simp only [go_sem, goD_calls, eq_self, implies_true, Int.reduceEq, Int.reduceBEq, Int.reduceBNe, Int.reduceLE, Int.reduceLT, Int.reduceAdd, Int.reduceSub, Int.reduceMul, Int.reduceNeg, Nat.reduceMul, Nat.reduceSub, Nat.reduceLeDiff, Nat.reduceLT, Nat.reduceEqDiff, Nat.reduceAdd, reduceCtorEq, ↓reduceIte, reduceIte, qa, qb, ↓reduceIte, if_false]
                  refine leq_news [(nx, nx), (nx + 1, nx + 1)] [(nx, .cells [.dat (.ptr 65) .nil, .nils, .int .i64 0]), (nx + 1, .cells [.nils])] (.refl _) (by simp) (by simp <;> omega) (by simp <;> omega) rfl ?_ ?_ ?_ ?_ hnm ?_ ?_
                  · simp [frIn_cons, frIn_nil, fget_cons, fget_nil, SV.ren, SV.renL, rens]
                    all_goals try first | exact ⟨rfl, rfl⟩ | exact ⟨hP.symm, rfl⟩ | exact ⟨rfl, rfl, by omega⟩ | exact ⟨hP.symm, rfl, by omega⟩ | exact ⟨e6.symm, rfl, by omega⟩ | omega
                  · (simp only [frLt_cons, frLt_nil, and_true, SV.lt, SV.ltL, true_and] <;> omega)
                  · (simp only [List.mem_cons, List.not_mem_nil, or_false, forall_eq_or_imp, forall_eq]; simp [hget, rens, Tok.ren, SV.ren, SV.renL])
                    all_goals try (refine ⟨?_, ?_⟩ <;> repeat rw [if_neg (by omega)])
                  · (simp only [List.mem_cons, List.not_mem_nil, or_false, forall_eq_or_imp, forall_eq, Tok.lt, SV.lt, SV.ltL, and_true, true_and] <;> omega)
                  · ((try simp only []); repeat first | exact HLe.refl _ | refine HLe.cons (by simp only [hget, Nat.reduceEqDiff, Nat.left_eq_add, Nat.add_eq_left, nm_ne2, nm_en2, nm_ne3, nm_en3, nm_ne4, nm_en4, nm_ne5, nm_en5, reduceIte, ↓reduceIte] <;> first | rfl | ((repeat rw [if_neg (by omega)]) <;> rfl)) ?_ | refine HLe.skip hnm (by omega) ?_ | refine HLe.frz hnm (by omega) ?_ | refine HLe.del hnm (by omega) ?_)
                  · omega
            · have hgf : ofOk k1 m = false := by simpa using hgo
              have hq : ofQ k1 m = none := by unfold ofQ; rw [if_neg (by omega), if_neg hgo]
              have e3 : (goodN (sD m) ∧ 1 ≤ k1 ∧ k1 ≤ (m.length : Int)) = False := eq_false (fun h => hgo (ofOk_good.2 h))
              rcases hc with ⟨c2, c3⟩ | ⟨c2, c3⟩
              all_goals
                simp only [go_sem, goD_calls, eq_self, implies_true, Int.reduceEq, Int.reduceBEq, Int.reduceBNe, Int.reduceLE, Int.reduceLT, Int.reduceAdd, Int.reduceSub, Int.reduceMul, Int.reduceNeg, Nat.reduceMul, Nat.reduceSub, Nat.reduceLeDiff, Nat.reduceLT, Nat.reduceEqDiff, Nat.reduceAdd, reduceCtorEq, ↓reduceIte, reduceIte, c1, hxe, c2, c3, hk0, hk1, hk2, hk3, hm, Int.toNat_natCast, spQOf, spR6Of, spIs, fe_End, fa_End, fe_Sum, fa_Sum, fe_Shape, fa_Shape, fe_Many, fa_Many, fe_Range, fa_Range, fe_Kind, fa_Kind, fe_None, fa_None, fe_There, fa_There, fe_Full, fa_Full, fe_Crash, fa_Crash, fe_State, fa_State, fe_Conflict, fa_Conflict, fe_Waits, fa_Waits, fe_Limit, fa_Limit, fe_Fenced, fa_Fenced, fe_Word, fa_Word, fe_Number, fa_Number, fe_nil, hm9, hno, hno2, e3, hgf, qNone, refV, true_imp_iff, false_imp_iff, not_true_eq_false, not_false_eq_true, min_i64, max_i64]
                refine ⟨⟨by omega, by omega⟩, by rw [List.length_map]; omega, by rw [List.length_map]; omega, ⟨by omega, by omega⟩, ?_⟩
                refine next _ _ ho ?_ ?_
                · rw [hq]
                  refine leq_news [(nx, nx), (nx + 1, nx + 1), (nx + 2, nx + 4 + 1 + 1 + 1 + 64 + 1 + 64 + 1 + 64 + 1), (nx + 3, nx + 4 + 1 + 1 + 1 + 64 + 1 + 64 + 1 + 64 + 1 + 1 + 1)] [(nx, .cells [.dat (.ptr 65) .nil, .nils, .int .i64 0]), (nx + 1, .cells [.nils]), (nx + 2, .arr 27 setT (A.map progD ++ [progD none])), (nx + 3, .arr 42 refT (A.map refD ++ [refD none]))] (.refl _) (by simp) (by simp <;> omega) (by simp <;> omega) rfl ?_ ?_ ?_ ?_ hnm ?_ (by omega)
                  · simp [frIn_cons, frIn_nil, fget_cons, fget_nil, SV.ren, SV.renL, rens]
                  · (simp only [frLt_cons, frLt_nil, and_true, SV.lt, SV.ltL, true_and] <;> omega)
                  · (simp only [List.mem_cons, List.not_mem_nil, or_false, forall_eq_or_imp, forall_eq]; simp [hget, rens, Tok.ren, SV.ren, SV.renL])
                    all_goals try (refine ⟨?_, ?_, rfl, rfl⟩ <;> repeat rw [if_neg (by omega)])
                  · (simp only [List.mem_cons, List.not_mem_nil, or_false, forall_eq_or_imp, forall_eq, Tok.lt, SV.lt, SV.ltL, and_true, true_and] <;> omega)
                  · ((try simp only []); repeat first | exact HLe.refl _ | refine HLe.cons (by simp only [hget, Nat.reduceEqDiff, Nat.left_eq_add, Nat.add_eq_left, nm_ne2, nm_en2, nm_ne3, nm_en3, nm_ne4, nm_en4, nm_ne5, nm_en5, reduceIte, ↓reduceIte] <;> first | rfl | ((repeat rw [if_neg (by omega)]) <;> rfl)) ?_ | refine HLe.skip hnm (by omega) ?_ | refine HLe.frz hnm (by omega) ?_ | refine HLe.del hnm (by omega) ?_)
                · rw [hq]
                  refine leq_nil (.frz (nx + 4 + 1 + 1 + 1 + 64 + 1 + 64 + 1 + 64 + 1) (.frz (nx + 4 + 1 + 1 + 1 + 64 + 1 + 64 + 1 + 64 + 1 + 1 + 1) (.refl _))) ?_
                  have qa : (nx = nx + 4 + 1 + 1 + 1 + 64 + 1 + 64 + 1 + 64 + 1) = False := eq_false (by omega)
                  have qb : (nx = nx + 4 + 1 + 1 + 1 + 64 + 1 + 64 + 1 + 64 + 1 + 1 + 1) = False := eq_false (by omega)
                  simp only [go_sem, goD_calls, eq_self, implies_true, Int.reduceEq, Int.reduceBEq, Int.reduceBNe, Int.reduceLE, Int.reduceLT, Int.reduceAdd, Int.reduceSub, Int.reduceMul, Int.reduceNeg, Nat.reduceMul, Nat.reduceSub, Nat.reduceLeDiff, Nat.reduceLT, Nat.reduceEqDiff, Nat.reduceAdd, reduceCtorEq, ↓reduceIte, reduceIte, qa, qb, ↓reduceIte, if_false]
                  refine leq_news [(nx, nx), (nx + 1, nx + 1)] [(nx, .cells [.dat (.ptr 65) .nil, .nils, .int .i64 0]), (nx + 1, .cells [.nils])] (.refl _) (by simp) (by simp <;> omega) (by simp <;> omega) rfl ?_ ?_ ?_ ?_ hnm ?_ ?_
                  · simp [frIn_cons, frIn_nil, fget_cons, fget_nil, SV.ren, SV.renL, rens]
                    all_goals try first | exact ⟨rfl, rfl⟩ | exact ⟨hP.symm, rfl⟩ | exact ⟨rfl, rfl, by omega⟩ | exact ⟨hP.symm, rfl, by omega⟩ | exact ⟨e6.symm, rfl, by omega⟩ | omega
                  · (simp only [frLt_cons, frLt_nil, and_true, SV.lt, SV.ltL, true_and] <;> omega)
                  · (simp only [List.mem_cons, List.not_mem_nil, or_false, forall_eq_or_imp, forall_eq]; simp [hget, rens, Tok.ren, SV.ren, SV.renL])
                    all_goals try (refine ⟨?_, ?_⟩ <;> repeat rw [if_neg (by omega)])
                  · (simp only [List.mem_cons, List.not_mem_nil, or_false, forall_eq_or_imp, forall_eq, Tok.lt, SV.lt, SV.ltL, and_true, true_and] <;> omega)
                  · ((try simp only []); repeat first | exact HLe.refl _ | refine HLe.cons (by simp only [hget, Nat.reduceEqDiff, Nat.left_eq_add, Nat.add_eq_left, nm_ne2, nm_en2, nm_ne3, nm_en3, nm_ne4, nm_en4, nm_ne5, nm_en5, reduceIte, ↓reduceIte] <;> first | rfl | ((repeat rw [if_neg (by omega)]) <;> rfl)) ?_ | refine HLe.skip hnm (by omega) ?_ | refine HLe.frz hnm (by omega) ?_ | refine HLe.del hnm (by omega) ?_)
                  · omega
        · have hk0' : (k0 == 0) = false := beq_eq_false_iff_ne.2 (fun h => hz (.inl h))
          have hi0 : ((i : Int) == 0) = false := beq_eq_false_iff_ne.2 (fun h => hz (.inr (by omega)))
          have hip : (0 : Int) < (i : Int) := by omega
          have m2 : (k2 % (i : Int)).toNat < i := by have := Int.emod_lt_of_pos k2 hip; have := Int.emod_nonneg k2 (show (i : Int) ≠ 0 by omega); omega
          have m3 : (k3 % (i : Int)).toNat < i := by have := Int.emod_lt_of_pos k3 hip; have := Int.emod_nonneg k3 (show (i : Int) ≠ 0 by omega); omega
          have n2 := Int.emod_nonneg k2 (show (i : Int) ≠ 0 by omega)
          have n3 := Int.emod_nonneg k3 (show (i : Int) ≠ 0 by omega)
          obtain ⟨u, hu⟩ : ∃ u, k2 % (i : Int) = u := ⟨_, rfl⟩
          obtain ⟨v, hv⟩ : ∃ v, k3 % (i : Int) = v := ⟨_, rfl⟩
          rw [hu] at m2 n2
          rw [hv] at m3 n3
          have ho : stepM A x = A ++ [twoQ (if k0 = 1 then 1 else 2) (A.getD u.toNat none) (A.getD v.toNat none)] := by
            unfold stepM
            rw [hk0, hk1, hk2, hk3, hm, if_neg (fun h => hz (h.imp id (fun h => by omega))), hAl, hu, hv]
          have gd : ∀ (f : Option QP → D) (j : Nat), j < i → (A.map f).getD j .nil = f (A.getD j none) := fun f j hj => by
            rw [List.getD_eq_getElem?_getD, List.getD_eq_getElem?_getD, List.getElem?_map, List.getElem?_eq_getElem (by omega)]
            rfl
          have gp1 := gd progD _ m2
          have gp2 := gd progD _ m3
          have gr1 := gd refD _ m2
          have gr2 := gd refD _ m3
          have ou := getD_ok hAok u.toNat
          have ov := getD_ok hAok v.toNat
          generalize A.getD u.toNat none = X at gp1 gr1 ou ho
          generalize A.getD v.toNat none = Y at gp2 gr2 ov ho
          have sh : ∀ o, ∃ p l n, progD o = .node [p, .list l, .int n] := fun o => by cases o <;> exact ⟨_, _, _, rfl⟩
          obtain ⟨p1, l1, c1', hX⟩ := sh X
          obtain ⟨p2, l2, c2', hY⟩ := sh Y
          rw [hX] at gp1
          rw [hY] at gp2
          by_cases hk : k0 = 1
          · have c4 : (k0 == 1) = true := by rw [hk]; rfl
            rw [if_pos hk] at ho
            simp only [go_sem, goD_calls, eq_self, implies_true, Int.reduceEq, Int.reduceBEq, Int.reduceBNe, Int.reduceLE, Int.reduceLT, Int.reduceAdd, Int.reduceSub, Int.reduceMul, Int.reduceNeg, Nat.reduceMul, Nat.reduceSub, Nat.reduceLeDiff, Nat.reduceLT, Nat.reduceEqDiff, Nat.reduceAdd, reduceCtorEq, ↓reduceIte, reduceIte, c1, hxe, hk0', hi0, c4, hip, hk0, hk1, hk2, hk3, hm, hu, hv, Int.toNat_natCast, spNumber, spQTwo, gp1, gp2, gr1, gr2, refD, min_i64, max_i64]
            refine ⟨⟨by omega, by omega⟩, ⟨n2, by rw [List.length_map]; omega⟩, ⟨n2, by rw [List.length_map]; omega⟩, ⟨n3, by rw [List.length_map]; omega⟩, ⟨n3, by rw [List.length_map]; omega⟩, X, Y, ou, ov, hX, hY, fun r hr => ?_⟩
            obtain ⟨p, l, n, hP, hr⟩ := hr
            rcases hr with rfl | ⟨rfl, rfl⟩
            all_goals
              simp only [go_sem, goD_calls, eq_self, implies_true, Int.reduceEq, Int.reduceBEq, Int.reduceBNe, Int.reduceLE, Int.reduceLT, Int.reduceAdd, Int.reduceSub, Int.reduceMul, Int.reduceNeg, Nat.reduceMul, Nat.reduceSub, Nat.reduceLeDiff, Nat.reduceLT, Nat.reduceEqDiff, Nat.reduceAdd, reduceCtorEq, ↓reduceIte, reduceIte, setOf, setA, c1, hxe, hk0', hi0, c4, hip, hk0, hk1, hk2, hk3, hm, hu, hv, Int.toNat_natCast, spR6And, spR6Or, gp1, gp2, gr1, gr2, refD, refV, min_i64, max_i64]
              refine ⟨⟨n2, by rw [List.length_map]; omega⟩, ⟨n2, by rw [List.length_map]; omega⟩, ⟨n3, by rw [List.length_map]; omega⟩, ⟨n3, by rw [List.length_map]; omega⟩, X, Y, ou, ov, rfl, rfl, by rw [List.length_map]; omega, by rw [List.length_map]; omega, ⟨by omega, by omega⟩, ?_⟩
              refine next _ _ ho ?_ ?_
              · refine leq_news [(nx, nx), (nx + 1, nx + 1), (nx + 2, nx + 4 + 1 + 1 + 1 + 64 + 64 + 64 + 64 + 1), (nx + 3, nx + 4 + 1 + 1 + 1 + 64 + 64 + 64 + 64 + 1 + 1 + 1)] [(nx, .cells [.dat (.ptr 65) .nil, .nils, .int .i64 0]), (nx + 1, .cells [.nils]), (nx + 2, .arr 27 setT (A.map progD ++ [progD (twoQ 1 X Y)])), (nx + 3, .arr 42 refT (A.map refD ++ [refD (twoQ 1 X Y)]))] (.refl _) (by simp) (by simp <;> omega) (by simp <;> omega) rfl ?_ ?_ ?_ ?_ hnm ?_ ?_
                · simp [frIn_cons, frIn_nil, fget_cons, fget_nil, SV.ren, SV.renL, rens]
                · (simp only [frLt_cons, frLt_nil, and_true, SV.lt, SV.ltL, true_and] <;> omega)
                · (simp only [List.mem_cons, List.not_mem_nil, or_false, forall_eq_or_imp, forall_eq]; simp [hget, rens, Tok.ren, SV.ren, SV.renL])
                  all_goals try (refine ⟨?_, ?_, hP.symm, rfl⟩ <;> repeat rw [if_neg (by omega)])
                · (simp only [List.mem_cons, List.not_mem_nil, or_false, forall_eq_or_imp, forall_eq, Tok.lt, SV.lt, SV.ltL, and_true, true_and] <;> omega)
                · ((try simp only []); repeat first | exact HLe.refl _ | refine HLe.cons (by simp only [hget, Nat.reduceEqDiff, Nat.left_eq_add, Nat.add_eq_left, nm_ne2, nm_en2, nm_ne3, nm_en3, nm_ne4, nm_en4, nm_ne5, nm_en5, reduceIte, ↓reduceIte] <;> first | rfl | ((repeat rw [if_neg (by omega)]) <;> rfl)) ?_ | refine HLe.skip hnm (by omega) ?_ | refine HLe.frz hnm (by omega) ?_ | refine HLe.del hnm (by omega) ?_)
                · omega
              · skip
                refine leq_nil (.frz (nx + 4 + 1 + 1 + 1 + 64 + 64 + 64 + 64 + 1) (.frz (nx + 4 + 1 + 1 + 1 + 64 + 64 + 64 + 64 + 1 + 1 + 1) (.refl _))) ?_
                have qa : (nx = nx + 4 + 1 + 1 + 1 + 64 + 64 + 64 + 64 + 1) = False := eq_false (by omega)
                have qb : (nx = nx + 4 + 1 + 1 + 1 + 64 + 64 + 64 + 64 + 1 + 1 + 1) = False := eq_false (by omega)
                simp only [go_sem, goD_calls, eq_self, implies_true, Int.reduceEq, Int.reduceBEq, Int.reduceBNe, Int.reduceLE, Int.reduceLT, Int.reduceAdd, Int.reduceSub, Int.reduceMul, Int.reduceNeg, Nat.reduceMul, Nat.reduceSub, Nat.reduceLeDiff, Nat.reduceLT, Nat.reduceEqDiff, Nat.reduceAdd, reduceCtorEq, ↓reduceIte, reduceIte, qa, qb, ↓reduceIte, if_false]
                refine leq_news [(nx, nx), (nx + 1, nx + 1)] [(nx, .cells [.dat (.ptr 65) .nil, .nils, .int .i64 0]), (nx + 1, .cells [.nils])] (.refl _) (by simp) (by simp <;> omega) (by simp <;> omega) rfl ?_ ?_ ?_ ?_ hnm ?_ ?_
                · simp [frIn_cons, frIn_nil, fget_cons, fget_nil, SV.ren, SV.renL, rens]
                  all_goals try first | exact ⟨rfl, rfl⟩ | exact ⟨hP.symm, rfl⟩ | exact ⟨rfl, rfl, by omega⟩ | exact ⟨hP.symm, rfl, by omega⟩ | exact ⟨e6.symm, rfl, by omega⟩ | omega
                · (simp only [frLt_cons, frLt_nil, and_true, SV.lt, SV.ltL, true_and] <;> omega)
                · (simp only [List.mem_cons, List.not_mem_nil, or_false, forall_eq_or_imp, forall_eq]; simp [hget, rens, Tok.ren, SV.ren, SV.renL])
                  all_goals try (refine ⟨?_, ?_⟩ <;> repeat rw [if_neg (by omega)])
                · (simp only [List.mem_cons, List.not_mem_nil, or_false, forall_eq_or_imp, forall_eq, Tok.lt, SV.lt, SV.ltL, and_true, true_and] <;> omega)
                · ((try simp only []); repeat first | exact HLe.refl _ | refine HLe.cons (by simp only [hget, Nat.reduceEqDiff, Nat.left_eq_add, Nat.add_eq_left, nm_ne2, nm_en2, nm_ne3, nm_en3, nm_ne4, nm_en4, nm_ne5, nm_en5, reduceIte, ↓reduceIte] <;> first | rfl | ((repeat rw [if_neg (by omega)]) <;> rfl)) ?_ | refine HLe.skip hnm (by omega) ?_ | refine HLe.frz hnm (by omega) ?_ | refine HLe.del hnm (by omega) ?_)
                · omega
          · have c4 : (k0 == 1) = false := beq_eq_false_iff_ne.2 hk
            rw [if_neg hk] at ho
            simp only [go_sem, goD_calls, eq_self, implies_true, Int.reduceEq, Int.reduceBEq, Int.reduceBNe, Int.reduceLE, Int.reduceLT, Int.reduceAdd, Int.reduceSub, Int.reduceMul, Int.reduceNeg, Nat.reduceMul, Nat.reduceSub, Nat.reduceLeDiff, Nat.reduceLT, Nat.reduceEqDiff, Nat.reduceAdd, reduceCtorEq, ↓reduceIte, reduceIte, c1, hxe, hk0', hi0, c4, hip, hk0, hk1, hk2, hk3, hm, hu, hv, Int.toNat_natCast, spNumber, spQTwo, gp1, gp2, gr1, gr2, refD, min_i64, max_i64]
            refine ⟨⟨by omega, by omega⟩, ⟨n2, by rw [List.length_map]; omega⟩, ⟨n2, by rw [List.length_map]; omega⟩, ⟨n3, by rw [List.length_map]; omega⟩, ⟨n3, by rw [List.length_map]; omega⟩, X, Y, ou, ov, hX, hY, fun r hr => ?_⟩
            obtain ⟨p, l, n, hP, hr⟩ := hr
            rcases hr with rfl | ⟨rfl, rfl⟩
            all_goals
              simp only [go_sem, goD_calls, eq_self, implies_true, Int.reduceEq, Int.reduceBEq, Int.reduceBNe, Int.reduceLE, Int.reduceLT, Int.reduceAdd, Int.reduceSub, Int.reduceMul, Int.reduceNeg, Nat.reduceMul, Nat.reduceSub, Nat.reduceLeDiff, Nat.reduceLT, Nat.reduceEqDiff, Nat.reduceAdd, reduceCtorEq, ↓reduceIte, reduceIte, setOf, setA, c1, hxe, hk0', hi0, c4, hip, hk0, hk1, hk2, hk3, hm, hu, hv, Int.toNat_natCast, spR6And, spR6Or, gp1, gp2, gr1, gr2, refD, refV, min_i64, max_i64]
              refine ⟨⟨n2, by rw [List.length_map]; omega⟩, ⟨n2, by rw [List.length_map]; omega⟩, ⟨n3, by rw [List.length_map]; omega⟩, ⟨n3, by rw [List.length_map]; omega⟩, X, Y, ou, ov, rfl, rfl, by rw [List.length_map]; omega, by rw [List.length_map]; omega, ⟨by omega, by omega⟩, ?_⟩
              refine next _ _ ho ?_ ?_
              · refine leq_news [(nx, nx), (nx + 1, nx + 1), (nx + 2, nx + 4 + 1 + 1 + 1 + 64 + 64 + 64 + 64 + 1), (nx + 3, nx + 4 + 1 + 1 + 1 + 64 + 64 + 64 + 64 + 1 + 1 + 1)] [(nx, .cells [.dat (.ptr 65) .nil, .nils, .int .i64 0]), (nx + 1, .cells [.nils]), (nx + 2, .arr 27 setT (A.map progD ++ [progD (twoQ 2 X Y)])), (nx + 3, .arr 42 refT (A.map refD ++ [refD (twoQ 2 X Y)]))] (.refl _) (by simp) (by simp <;> omega) (by simp <;> omega) rfl ?_ ?_ ?_ ?_ hnm ?_ ?_
                · simp [frIn_cons, frIn_nil, fget_cons, fget_nil, SV.ren, SV.renL, rens]
                · (simp only [frLt_cons, frLt_nil, and_true, SV.lt, SV.ltL, true_and] <;> omega)
                · (simp only [List.mem_cons, List.not_mem_nil, or_false, forall_eq_or_imp, forall_eq]; simp [hget, rens, Tok.ren, SV.ren, SV.renL])
                  all_goals try (refine ⟨?_, ?_, hP.symm, rfl⟩ <;> repeat rw [if_neg (by omega)])
                · (simp only [List.mem_cons, List.not_mem_nil, or_false, forall_eq_or_imp, forall_eq, Tok.lt, SV.lt, SV.ltL, and_true, true_and] <;> omega)
                · ((try simp only []); repeat first | exact HLe.refl _ | refine HLe.cons (by simp only [hget, Nat.reduceEqDiff, Nat.left_eq_add, Nat.add_eq_left, nm_ne2, nm_en2, nm_ne3, nm_en3, nm_ne4, nm_en4, nm_ne5, nm_en5, reduceIte, ↓reduceIte] <;> first | rfl | ((repeat rw [if_neg (by omega)]) <;> rfl)) ?_ | refine HLe.skip hnm (by omega) ?_ | refine HLe.frz hnm (by omega) ?_ | refine HLe.del hnm (by omega) ?_)
                · omega
              · skip
                refine leq_nil (.frz (nx + 4 + 1 + 1 + 1 + 64 + 64 + 64 + 64 + 1) (.frz (nx + 4 + 1 + 1 + 1 + 64 + 64 + 64 + 64 + 1 + 1 + 1) (.refl _))) ?_
                have qa : (nx = nx + 4 + 1 + 1 + 1 + 64 + 64 + 64 + 64 + 1) = False := eq_false (by omega)
                have qb : (nx = nx + 4 + 1 + 1 + 1 + 64 + 64 + 64 + 64 + 1 + 1 + 1) = False := eq_false (by omega)
                simp only [go_sem, goD_calls, eq_self, implies_true, Int.reduceEq, Int.reduceBEq, Int.reduceBNe, Int.reduceLE, Int.reduceLT, Int.reduceAdd, Int.reduceSub, Int.reduceMul, Int.reduceNeg, Nat.reduceMul, Nat.reduceSub, Nat.reduceLeDiff, Nat.reduceLT, Nat.reduceEqDiff, Nat.reduceAdd, reduceCtorEq, ↓reduceIte, reduceIte, qa, qb, ↓reduceIte, if_false]
                refine leq_news [(nx, nx), (nx + 1, nx + 1)] [(nx, .cells [.dat (.ptr 65) .nil, .nils, .int .i64 0]), (nx + 1, .cells [.nils])] (.refl _) (by simp) (by simp <;> omega) (by simp <;> omega) rfl ?_ ?_ ?_ ?_ hnm ?_ ?_
                · simp [frIn_cons, frIn_nil, fget_cons, fget_nil, SV.ren, SV.renL, rens]
                  all_goals try first | exact ⟨rfl, rfl⟩ | exact ⟨hP.symm, rfl⟩ | exact ⟨rfl, rfl, by omega⟩ | exact ⟨hP.symm, rfl, by omega⟩ | exact ⟨e6.symm, rfl, by omega⟩ | omega
                · (simp only [frLt_cons, frLt_nil, and_true, SV.lt, SV.ltL, true_and] <;> omega)
                · (simp only [List.mem_cons, List.not_mem_nil, or_false, forall_eq_or_imp, forall_eq]; simp [hget, rens, Tok.ren, SV.ren, SV.renL])
                  all_goals try (refine ⟨?_, ?_⟩ <;> repeat rw [if_neg (by omega)])
                · (simp only [List.mem_cons, List.not_mem_nil, or_false, forall_eq_or_imp, forall_eq, Tok.lt, SV.lt, SV.ltL, and_true, true_and] <;> omega)
                · ((try simp only []); repeat first | exact HLe.refl _ | refine HLe.cons (by simp only [hget, Nat.reduceEqDiff, Nat.left_eq_add, Nat.add_eq_left, nm_ne2, nm_en2, nm_ne3, nm_en3, nm_ne4, nm_en4, nm_ne5, nm_en5, reduceIte, ↓reduceIte] <;> first | rfl | ((repeat rw [if_neg (by omega)]) <;> rfl)) ?_ | refine HLe.skip hnm (by omega) ?_ | refine HLe.frz hnm (by omega) ?_ | refine HLe.del hnm (by omega) ?_)
                · omega
      · have hil' : i = L.length := by omega
        have eA : madeL (L.take i) = madeL L := by rw [hil', List.take_length]
        have c1 : decide ((i : Int) < (L.length : Int)) = false := decide_eq_false (by omega)
        rw [eA] at hAl
        rw [if_pos hil']
        simp only [eA]
        obtain ⟨A, hA⟩ : ∃ A, madeL L = A := ⟨_, rfl⟩
        rw [hA] at hAl hK
        simp only [hA]
        have hp : 0 < A.length := by omega
        have c2 : ((A.length : Int) == 0) = false := beq_eq_false_iff_ne.2 (by omega)
        have ht : ((A.length : Int) - 1).toNat = A.length - 1 := by omega
        have gl : ∀ (f : Option QP → D), (A.map f).getD (A.length - 1) .nil = f (lastQ A) := fun f => by
          unfold lastQ
          rw [List.getLast?_eq_getElem?, List.getD_eq_getElem?_getD, List.getElem?_map, List.getElem?_eq_getElem (by omega)]
          rfl
        obtain ⟨o, ho⟩ : ∃ o, lastQ A = o := ⟨_, rfl⟩
        rw [ho] at hK
        have sh : ∀ o, ∃ p l n, progD o = .node [p, .list l, .int n] := fun o => by cases o <;> exact ⟨_, _, _, rfl⟩
        obtain ⟨p, l, n, hP⟩ := sh o
        simp only [go_sem, goD_calls, eq_self, implies_true, Int.reduceEq, Int.reduceBEq, Int.reduceBNe, Int.reduceLE, Int.reduceLT, Int.reduceAdd, Int.reduceSub, Int.reduceMul, Int.reduceNeg, Nat.reduceMul, Nat.reduceSub, Nat.reduceLeDiff, Nat.reduceLT, Nat.reduceEqDiff, Nat.reduceAdd, reduceCtorEq, ↓reduceIte, reduceIte, c1, List.length_map, c2, ht, gl, ho, hP, refD, min_i64, max_i64]
        refine ⟨⟨by omega, by omega⟩, ⟨by omega, by omega⟩, ⟨by omega, by omega⟩, ⟨by omega, by omega⟩, ?_⟩
        refine (hQ _ ?_).1
        refine fin_same (p := True) (xs := [setOf p l n, refV (refQ o), .bool true]) ?_ trivial (fun π => rfl) ?_ hnm (by ((try simp only []); repeat first | exact HLe.refl _ | refine HLe.cons (by simp only [hget, Nat.reduceEqDiff, Nat.left_eq_add, Nat.add_eq_left, nm_ne2, nm_en2, nm_ne3, nm_en3, nm_ne4, nm_en4, nm_ne5, nm_en5, reduceIte, ↓reduceIte] <;> first | rfl | ((repeat rw [if_neg (by omega)]) <;> rfl)) ?_ | refine HLe.skip hnm (by omega) ?_ | refine HLe.frz hnm (by omega) ?_ | refine HLe.del hnm (by omega) ?_)) (hK _ ⟨p, l, n, hP, .inl rfl⟩)
        · simp only [rsQMade, evRs, evR, go_sem, goD_calls, eq_self, implies_true, Int.reduceEq, Int.reduceBEq, Int.reduceBNe, Int.reduceLE, Int.reduceLT, Int.reduceAdd, Int.reduceSub, Int.reduceMul, Int.reduceNeg, Nat.reduceMul, Nat.reduceSub, Nat.reduceLeDiff, Nat.reduceLT, Nat.reduceEqDiff, Nat.reduceAdd, reduceCtorEq, ↓reduceIte, reduceIte, setOf, refV]
        · exact ⟨⟨trivial, trivial, trivial, trivial⟩, ⟨trivial, trivial⟩, trivial, trivial⟩
  · exact hsp.elim
end Go.Proofs.YtkmilijehekdoaaDoor
