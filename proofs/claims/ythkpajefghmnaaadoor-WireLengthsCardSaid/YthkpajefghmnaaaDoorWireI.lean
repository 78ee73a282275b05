/- Chapter 2: WireLengths. -/
import Derived.Test.YthkpajefghmnaaaDoorWireHa
namespace Go.Proofs.YthkpajefghmnaaaDoor
set_option linter.unusedVariables false
set_option linter.unusedSimpArgs false
open Go Go.Fw Go.Wire

theorem enc_0 : encD 0 = [.int 0] := by
  have h1 : enc 0 = [0] := enc_lt (by decide)
  show dOf (enc 0) = _
  rw [h1]; rfl
def WWireLengths : Opts := mkWE 63 [] [0, 1, 2, 3, 4, 5, 6, 7, 8, 9, 10, 11, 12, 13, 14, 15, 16] [] 94 [0, 1, 2, 3, 4, 5, 6, 7, 8, 9, 10, 11, 12, 13, 14, 15, 16] []
def icWireLengths : IC := (.seq (.seq (.ops [(.u (.mov 4 (.c (.bool false))))]) (.tr [0, 1])) (.seq (.seq (.ops [(.u (.call 9 (.c (.clo 17 [])) [] [] true)), (.u (.mov 5 (.s 9)))]) (.tr [0, 1, 5])) (.seq (.seq (.seq (.ops [(.u (.mov 10 (.s 5))), (.u (.una 11 .not (.s 10)))]) (.tr [11, 0, 1, 5])) (.cond (.s 11) (.seq (.seq (.ops [(.u (.mov 4 (.c (.bool false))))]) (.tr [4])) .ret) .skip)) (.seq (.seq (.ops [(.u (.mov 12 (.s 0))), (.u (.call 13 (.c (.clo 14 [])) [(.s 12), (.c (.int .i64 300))] [none, none] true)), (.u (.mov 0 (.s 13)))]) (.tr [1, 0, 5])) (.seq (.seq (.ops [(.u (.mov 14 (.s 1))), (.u (.call 15 (.c (.clo 14 [])) [(.s 14), (.c (.int .i64 300))] [none, none] true)), (.u (.mov 1 (.s 15)))]) (.tr [1, 0, 5])) (.seq (.seq (.ops [(.u (.bsl 16 5 (.int .u8) [(.c (.int .u8 0))])), (.u (.mov 17 (.s 0))), (.u (.mk 18 5 (.int .u8) 1 (.int 0) (.s 17) (.s 17))), (.u (.call 19 (.c (.clo 32 [])) [(.s 16), (.s 18)] [(some 5), (some 5)] true)), (.u (.mov 6 (.s 19)))]) (.tr [6, 1, 0, 5])) (.seq (.seq (.ops [(.u (.mov 20 (.s 6))), (.u (.call 21 (.c (.clo 21 [])) [(.s 20)] [(some 5)] true)), (.u (.mov 7 (.s 21)))]) (.tr [1, 0, 5, 7])) (.seq (.seq (.seq (.ops [(.u (.mov 22 (.s 7))), (.u (.eqb 23 false 1 (.s 22))), (.u (.mov 24 (.s 23))), (.g 24 false (some 25) (.mov 25 (.s 7))), (.g 24 false (some 26) (.call 26 (.c (.clo 37 [])) [(.s 25)] [none] true)), (.u (.pck 27 (.s 24) (.c (.bool true)) (.s 26)))]) (.tr [27, 1, 0, 5, 7])) (.cond (.s 27) (.seq (.seq (.ops [(.u (.mov 4 (.c (.bool false))))]) (.tr [4])) .ret) .skip)) (.seq (.seq (.ops [(.u (.mov 28 (.s 7))), (.u (.mov 29 (.s 1))), (.u (.call 30 (.c (.clo 35 [])) [(.s 28), (.s 29)] [none, none] true)), (.u (.mov 8 (.s 30)))]) (.tr [1, 0, 5, 8, 7])) (.seq (.seq (.seq (.ops [(.u (.mov 31 (.s 0))), (.u (.mov 32 (.s 1))), (.u (.cmp 33 .leq (.s 31) (.s 32)))]) (.tr [33, 0, 5, 8, 7])) (.cond (.s 33) (.seq (.seq (.ops [(.u (.mov 34 (.s 5))), (.u (.mov 35 (.s 34))), (.g 35 true (some 36) (.mov 36 (.s 8))), (.g 35 true (some 37) (.len 37 false (.s 36))), (.g 35 true (some 38) (.mov 38 (.s 0))), (.g 35 true (some 39) (.cmp 39 .eql (.s 37) (.s 38))), (.u (.pck 40 (.s 35) (.s 39) (.c (.bool false)))), (.u (.mov 41 (.s 40))), (.g 41 true (some 42) (.mov 42 (.s 7))), (.g 41 true (some 43) (.call 43 (.c (.clo 24 [])) [(.s 42)] [none] true)), (.g 41 true (some 44) (.eqb 44 false 0 (.s 43))), (.u (.pck 45 (.s 41) (.s 44) (.c (.bool false)))), (.u (.mov 46 (.s 45))), (.g 46 true (some 47) (.mov 47 (.s 7))), (.g 46 true (some 48) (.call 48 (.c (.clo 36 [])) [(.s 47)] [none] true)), (.g 46 true (some 49) (.cmp 49 .eql (.s 48) (.c (.int .i64 0)))), (.u (.pck 50 (.s 46) (.s 49) (.c (.bool false)))), (.u (.mov 4 (.s 50)))]) (.tr [4])) .ret) .skip)) (.seq (.seq (.ops [(.u (.mov 51 (.s 5))), (.u (.mov 52 (.s 51))), (.g 52 true (some 53) (.mov 53 (.s 8))), (.g 52 true (some 54) (.len 54 false (.s 53))), (.g 52 true (some 55) (.cmp 55 .eql (.s 54) (.c (.int .i64 0)))), (.u (.pck 56 (.s 52) (.s 55) (.c (.bool false)))), (.u (.mov 57 (.s 56))), (.g 57 true (some 58) (.mov 58 (.s 7))), (.g 57 true (some 59) (.call 59 (.c (.clo 24 [])) [(.s 58)] [none] true)), (.g 57 true (some 60) (.call 60 (.c (.clo 25 [])) [(.c (.int .i64 105)), (.c (.int .i64 1))] [none, none] true)), (.g 57 true (some 61) (.call 61 (.c (.clo 23 [])) [(.s 59), (.s 60)] [none, none] true)), (.u (.pck 62 (.s 57) (.s 61) (.c (.bool false)))), (.u (.mov 4 (.s 62)))]) (.tr [4])) .ret)))))))))))
def rsWireLengths : List RV := [(.t 4)]
theorem irWireLengths : fnIR Tryd.prog WWireLengths 11 = some (icWireLengths, rsWireLengths) := by kernel_rfl
def spWireLengths : FSpec := fun args h nx K => match args with
  | [.int .i64 n, .int .i64 most] => K (.bool true) h
  | _ => False
set_option maxHeartbeats 4000000 in
set_option maxRecDepth 8000 in
theorem vWireLengths {E : Nat → Value} (hE : Errs2 Tryd.prog (some 94) E) : Valid Tryd.prog E G0 11 spWireLengths := by
  refine valid_go (W := WWireLengths) hE ((((((((((((allValid_bot.add (up (vFirst hE))).add (up (vNumber hE))).add (up (vPutBytes hE))).add (up (vNewReader hE))).add (up (vNum hE))).add (up (vRBytes hE))).add (up (vRBool hE))).add (up (vRLeft hE))).add (up (vRErr hE))).add (vPlaced hE)).add (vSame hE))) irWireLengths (by decide) (fun args h nx K hsp hok hnm => ?_)
  unfold spWireLengths at hsp
  split at hsp
  · rename_i n0 most0
    refine ⟨by simp [WWireLengths, mkW, mkWE], fun Q hQ => ?_⟩
    have fin : ∀ h' nx', HLe h h' → Q Ex.ret ⟨[(4, .bool true)], h', nx'⟩ := fun h' nx' hh => by
      refine (hQ _ ?_).1
      exact fin_t (.bool true) rfl rfl hnm hh hsp
    have a1 : 0 ≤ n0 % 300 := Int.emod_nonneg _ (by omega)
    have a2 : n0 % 300 < 300 := Int.emod_lt_of_pos _ (by omega)
    have b1 : 0 ≤ most0 % 300 := Int.emod_nonneg _ (by omega)
    have b2 : most0 % 300 < 300 := Int.emod_lt_of_pos _ (by omega)
    generalize hn : n0 % 300 = n1 at a1 a2
    generalize hm : most0 % 300 = m1 at b1 b2
    obtain ⟨n, rfl⟩ := Int.eq_ofNat_of_zero_le a1
    obtain ⟨m, rfl⟩ := Int.eq_ofNat_of_zero_le b1
    have z300 : (0 : Int) < 300 := by omega
    have q1 := enc_le (n := (n : Int)) (by omega)
    have hT : (D.int 0 :: (encD n ++ List.replicate n (D.int 0))).length = 1 + (encD n).length + n := by simp only [List.length_cons, List.length_append, List.length_replicate]; omega
    have hL : (D.int 0 :: (encD n ++ List.replicate n (D.int 0))).length ≤ 1000000000 := by rw [hT]; omega
    have hA : 1 ≤ (D.int 0 :: (encD n ++ List.replicate n (D.int 0))).length := by rw [hT]; omega
    have hR : RngB (D.int 0 :: (encD n ++ List.replicate n (D.int 0))) := by
      have h1 : RngB [D.int 0] := by rw [← enc_0]; exact rngB_enc 0
      have h2 : RngB (List.replicate n (D.int 0)) := by
        intro j hj
        rw [List.length_replicate] at hj
        simp [List.getD_eq_getElem?_getD, List.getElem?_replicate, hj, D.i]
      exact rngB_app h1 (rngB_app (rngB_enc _) h2)
    have hF : numF (D.int 0 :: (encD n ++ List.replicate n (D.int 0))) 0 .nil 0 1 = (0, 1, .nil) := by
      have := numF_at (l := D.int 0 :: (encD n ++ List.replicate n (D.int 0))) (r := encD n ++ List.replicate n (D.int 0)) (a := 0) (n := 0) (lo := 0) (hi := 1) (by rw [enc_0]; rfl) (by omega) (by omega)
      rw [this, enc_0]; rfl
    have g1 : n ≤ 1000000000 := by omega
    have hT' : (encD n ++ List.replicate n (D.int 0)).length = (encD n).length + n := by simp only [List.length_append, List.length_replicate]
    have z11 : (((1 : Nat) : Int) == 1) = true := rfl
    by_cases hc : n ≤ m
    · have c1 : decide ((n : Int) ≤ (m : Int)) = true := decide_eq_true (by omega)
      have hB : bytF (D.int 0 :: (encD n ++ List.replicate n (D.int 0))) 1 .nil m = (List.replicate n (D.int 0), 1 + (encD n).length + n, .nil) := by
        have := bytF_at (l := D.int 0 :: (encD n ++ List.replicate n (D.int 0))) (x := List.replicate n (D.int 0)) (r := []) (a := 1) (most := m) (by simp) hL (by simp; omega) (by rw [hT]; omega)
        rw [List.length_replicate] at this
        exact this
      have hz : ((((encD n).length + n + 1 : Nat) : Int) - ((1 + (encD n).length + n : Nat) : Int) == 0) = true := by rw [beq_iff_eq]; omega
      simp (maxSteps := 4000000) only [icWireLengths, go_rgn, rgnK_def, goD_nil, goD_u, contD_some, goD_call, callD_clo, kD_app, goD_g, gD_T, gD_F, gD_U, gK_U, evI_true, evI_false, bareK_some, go_seq, go_ops, go_cond, go_block, go_skip, go_tr, trim_def, trim_nil, trim_cons, fget_nil, go_ret, go_exit, den_nil, den_seq, den_seq_ret, den_seq_ext, den_blk, den_blk_ret, den_blk_ext, den_lp, den_lp_ret, den_lp_ext, goO_nil, goO_u, noCall, contK_some, goO_slc, goO_mif, preF, preP, prePt, prePd, frzP, noSp, D.isNil, goO_nlq, nlqK_some, evNlq, goO_g, gK_T, gK_F, skipD_some, skipD_none, goO_call, goO_callf, frzK_def, callK_clo, kO_app, condK_ite, iteT, iteF, put_def, sput_def, ev, frOf, fget_cons, oget, ogets, argSs, argS, evMm, frzL, evBin, evWrp, evShf, evCmp, evUna, evNil, evBeq, evLd, evSt, evFad, evIad, evAad, evLen, evSln, evEls, evApp, evParts, evSlc, evNlc, evMif, evPck, evFld, evBld, evTas, evIfq, evSeq, evSl0, evBxf, List.set_cons_zero, List.set_cons_succ, List.set_nil, List.flatten_cons, List.flatten_nil, List.getD_cons_zero, List.getD_cons_succ, List.contains_cons,  hget, hset, hdel, cellAt, arrAt, setCellAt, setArrAt, takeC, lenC, svCells, SV.okc, SV.one, ldSV, Fw.isAgg, Nat.reduceMul, Nat.reduceSub, Nat.reduceLeDiff, Nat.lt_irrefl, Nat.not_lt_zero, Nat.reduceLT, Nat.add_eq_left, Nat.left_eq_add, List.nil_append, List.length_cons, List.length_nil, List.append_nil, List.cons_append, Nat.zero_lt_one, Bool.false_eq_true, Bool.not_true, Bool.not_false, eq_self, Option.map_some, Option.map_none, true_imp_iff, false_imp_iff, implies_true, Bool.true_eq_false, explode, explodeL, toD, toDL, toD1, Ty.size, Ty.sizeL, frz1, Fr.sub, Heap.sub, Tok.sub, SV.sub, SV.subL, add_def, Nat.reduceEqDiff, Nat.reduceAdd, Nat.zero_add, reduceCtorEq, ↓reduceIte, and_self, and_true, true_and, reduceIte, spFirst, spNumber, spPutBytes, spNewReader, spRBool, spRBytes, spRErr, spRLeft, spPlaced, spSame, fA, hn, hm, z300, rdTok_def, rdL_c, rdA_c, rdE_c, rdOk_c, list_l, Int.toNat_natCast, List.length_replicate, hF, hB, hR, hT', z11, z00, z01, n105, decide_false, g1, Nat.zero_le, beq_self_eq_true, Bool.and_self, c1, hz]
      refine ⟨by omega, by omega, by omega, by omega, by omega, by omega, ?_⟩
      exact fin _ _ (by ((try simp only []); repeat first | exact HLe.refl _ | refine HLe.cons (by simp only [hget, Nat.reduceEqDiff, reduceIte, ↓reduceIte] <;> rfl) ?_ | refine HLe.skip hnm (by omega) ?_ | refine HLe.frz hnm (by omega) ?_ | refine HLe.del hnm (by omega) ?_))
    · have c1 : decide ((n : Int) ≤ (m : Int)) = false := decide_eq_false (by omega)
      have hB : bytF (D.int 0 :: (encD n ++ List.replicate n (D.int 0))) 1 .nil m = ([], 1, atD 1 0) := bytF_range (r := List.replicate n (D.int 0)) (n := n) rfl (by omega) (by omega)
      have hf := fault_atR 1
      simp (maxSteps := 4000000) only [icWireLengths, go_rgn, rgnK_def, goD_nil, goD_u, contD_some, goD_call, callD_clo, kD_app, goD_g, gD_T, gD_F, gD_U, gK_U, evI_true, evI_false, bareK_some, go_seq, go_ops, go_cond, go_block, go_skip, go_tr, trim_def, trim_nil, trim_cons, fget_nil, go_ret, go_exit, den_nil, den_seq, den_seq_ret, den_seq_ext, den_blk, den_blk_ret, den_blk_ext, den_lp, den_lp_ret, den_lp_ext, goO_nil, goO_u, noCall, contK_some, goO_slc, goO_mif, preF, preP, prePt, prePd, frzP, noSp, D.isNil, goO_nlq, nlqK_some, evNlq, goO_g, gK_T, gK_F, skipD_some, skipD_none, goO_call, goO_callf, frzK_def, callK_clo, kO_app, condK_ite, iteT, iteF, put_def, sput_def, ev, frOf, fget_cons, oget, ogets, argSs, argS, evMm, frzL, evBin, evWrp, evShf, evCmp, evUna, evNil, evBeq, evLd, evSt, evFad, evIad, evAad, evLen, evSln, evEls, evApp, evParts, evSlc, evNlc, evMif, evPck, evFld, evBld, evTas, evIfq, evSeq, evSl0, evBxf, List.set_cons_zero, List.set_cons_succ, List.set_nil, List.flatten_cons, List.flatten_nil, List.getD_cons_zero, List.getD_cons_succ, List.contains_cons,  hget, hset, hdel, cellAt, arrAt, setCellAt, setArrAt, takeC, lenC, svCells, SV.okc, SV.one, ldSV, Fw.isAgg, Nat.reduceMul, Nat.reduceSub, Nat.reduceLeDiff, Nat.lt_irrefl, Nat.not_lt_zero, Nat.reduceLT, Nat.add_eq_left, Nat.left_eq_add, List.nil_append, List.length_cons, List.length_nil, List.append_nil, List.cons_append, Nat.zero_lt_one, Bool.false_eq_true, Bool.not_true, Bool.not_false, eq_self, Option.map_some, Option.map_none, true_imp_iff, false_imp_iff, implies_true, Bool.true_eq_false, explode, explodeL, toD, toDL, toD1, Ty.size, Ty.sizeL, frz1, Fr.sub, Heap.sub, Tok.sub, SV.sub, SV.subL, add_def, Nat.reduceEqDiff, Nat.reduceAdd, Nat.zero_add, reduceCtorEq, ↓reduceIte, and_self, and_true, true_and, reduceIte, spFirst, spNumber, spPutBytes, spNewReader, spRBool, spRBytes, spRErr, spRLeft, spPlaced, spSame, fA, hn, hm, z300, rdTok_def, rdL_c, rdA_c, rdE_c, rdOk_c, list_l, Int.toNat_natCast, List.length_replicate, hF, hB, hR, hT', z11, z00, z01, n105, decide_false, g1, Nat.zero_le, beq_self_eq_true, Bool.and_self, c1, hf]
      refine ⟨by omega, by omega, by omega, by omega, by omega, ?_⟩
      exact fin _ _ (by ((try simp only []); repeat first | exact HLe.refl _ | refine HLe.cons (by simp only [hget, Nat.reduceEqDiff, reduceIte, ↓reduceIte] <;> rfl) ?_ | refine HLe.skip hnm (by omega) ?_ | refine HLe.frz hnm (by omega) ?_ | refine HLe.del hnm (by omega) ?_))
  · exact hsp.elim
end Go.Proofs.YthkpajefghmnaaaDoor
