/- Chapter 8: SpanBack. -/
import Derived.Test.YthkpajefghmnaaaDoorSpanD
import Derived.Test.YthkpajefghmnaaaDoorSpanM
namespace Go.Proofs.YthkpajefghmnaaaDoor
set_option linter.unusedVariables false
set_option linter.unusedSimpArgs false
open Go Go.Fw Go.Wire

def backF (i : Nat) : D := sp3 (((i : Int) + 1) * ((i : Int) + 1)) ((i : Int) + 1) (100 * ((i : Int) + 1))
theorem sq_bd (i : Nat) (h : i < 20) : 1 ≤ ((i : Int) + 1) * ((i : Int) + 1) ∧ ((i : Int) + 1) * ((i : Int) + 1) ≤ 400 := by
  have h1 : ((i : Int) + 1) * ((i : Int) + 1) = (((i + 1) * (i + 1) : Nat) : Int) := by rw [Int.natCast_mul]; simp
  have h2 : (i + 1) * (i + 1) ≤ 20 * 20 := Nat.mul_le_mul (by omega) (by omega)
  have h3 : 1 * 1 ≤ (i + 1) * (i + 1) := Nat.mul_le_mul (by omega) (by omega)
  rw [h1]; omega
theorem back_ok {k : Nat} (h : k ≤ 20) : validD ((List.range k).map backF) = .nil := by
  refine map_ok (by omega) (fun i hi => ?_) (fun i h0 hi => ?_)
  · unfold backF
    rw [sp3_e, sp3_f, sp3_t]
    have := sq_bd i (by omega)
    omega
  · unfold backF
    rw [sp3_e, sp3_e, sp3_t, sp3_t]
    obtain ⟨j, rfl⟩ : ∃ j, i = j + 1 := ⟨i - 1, by omega⟩
    simp only [Nat.add_sub_cancel]
    have e : (((j + 1 : Nat) : Int) + 1) * (((j + 1 : Nat) : Int) + 1) = ((j : Int) + 1) * ((j : Int) + 1) + 2 * ((j : Int) + 1) + 1 := by
      have : ((j + 1 : Nat) : Int) = (j : Int) + 1 := by omega
      rw [this, Int.add_mul, Int.mul_add, Int.mul_add]; omega
    rw [e]
    omega
theorem back_okS {k : Nat} (h : k ≤ 20) : ∀ d ∈ (List.range k).map backF, okS d := by
  intro d hd
  obtain ⟨i, hi, rfl⟩ := List.mem_map.1 hd
  have := List.mem_range.1 hi
  have := sq_bd i (by omega)
  refine ⟨rfl, ?_, ?_, ?_⟩
  · unfold backF; rw [sp3_e]; omega
  · unfold backF; rw [sp3_f]; omega
  · unfold backF; rw [sp3_t]; omega
theorem rngB_enc3 (d : D) : RngB (enc3 d) := rngB_app (rngB_app (rngB_enc _) (rngB_enc _)) (rngB_enc _)
theorem rngB_encS3 (l : List D) : RngB (encS3 l) := by
  refine rngB_app (rngB_enc _) ?_
  induction l with
  | nil => exact rngB_nil
  | cons d l ih => rw [List.flatMap_cons]; exact rngB_app (rngB_enc3 d) ih
theorem rngB_take' {l : List D} (h : RngB l) (k : Nat) : RngB (l.take k) := by
  intro j hj
  rw [List.length_take] at hj
  have := h j (by omega)
  simp only [List.getD_eq_getElem?_getD] at this ⊢
  rw [List.getElem?_take_of_lt (by omega)]
  exact this
theorem okS_len {l : List D} (h : ∀ d ∈ l, okS d) : (encS3 l).length ≤ (encD l.length).length + 30 * l.length := by
  unfold encS3
  rw [List.length_append]
  have := flat3_len (l := l) (fun d hd => by
    obtain ⟨_, h1, h2, h3⟩ := h d hd
    exact enc3_len d (by omega) (by omega) (by omega))
  omega

def WSpanBack : Opts := mkWE 100 [] [0, 1, 2, 3] [] 94 [0, 1, 2, 3] []
def icSpanBack : IC := (.seq (.seq (.ops [(.u (.mov 6 (.c (.bool false))))]) (.tr [0, 1, 2])) (.seq (.seq (.ops [(.u (.call 17 (.c (.clo 13 [])) [] [] true)), (.u (.mov 7 (.s 17)))]) (.tr [0, 7, 1, 2])) (.seq (.seq (.seq (.ops [(.u (.mov 18 (.s 7))), (.u (.una 19 .not (.s 18)))]) (.tr [19, 0, 7, 1, 2])) (.cond (.s 19) (.seq (.seq (.ops [(.u (.mov 6 (.c (.bool false))))]) (.tr [6])) .ret) .skip)) (.seq (.seq (.ops [(.u (.mov 20 (.s 0))), (.u (.call 21 (.c (.clo 14 [])) [(.s 20), (.c (.int .i64 20))] [none, none] true)), (.u (.mov 0 (.s 21)))]) (.tr [7, 0, 1, 2])) (.seq (.seq (.seq (.ops [(.u (.mov 22 (.s 1))), (.u (.len 23 false (.s 22))), (.u (.cmp 24 .gtr (.s 23) (.c (.int .i64 40)))), (.u (.mov 25 (.s 24))), (.g 25 false (some 26) (.mov 26 (.s 7))), (.g 25 false (some 27) (.una 27 .not (.s 26))), (.u (.pck 28 (.s 25) (.c (.bool true)) (.s 27)))]) (.tr [28, 7, 0, 1, 2])) (.cond (.s 28) (.seq (.seq (.ops [(.u (.mov 29 (.s 7))), (.u (.mov 6 (.s 29)))]) (.tr [6])) .ret) .skip)) (.seq (.seq (.ops [(.u (.mov 8 (.c .nils)))]) (.tr [0, 1, 2, 8])) (.seq (.seq (.seq (.ops [(.u (.mov 9 (.c (.int .i64 1))))]) (.tr [0, 9, 1, 2, 8])) (.block 0 (.loop (.seq (.seq (.seq (.ops [(.u (.mov 30 (.s 9))), (.u (.mov 31 (.s 0))), (.u (.cmp 32 .leq (.s 30) (.s 31)))]) (.tr [32, 9, 0, 1, 2, 8])) (.cond (.s 32) .skip (.exit 0))) (.seq (.block 1 (.seq (.ops [(.u (.mov 35 (.s 8))), (.u (.mov 36 (.s 9))), (.u (.mov 37 (.s 9))), (.u (.bin 38 .mul .i64 (.s 36) (.s 37))), (.u (.mov 39 (.s 9))), (.u (.mov 40 (.s 9))), (.u (.bin 41 .mul .i64 (.c (.int .i64 100)) (.s 40))), (.u (.bld 42 [[(.int .i64 0)], [(.int .i64 0)], [(.int .i64 0)]] [(0, (.s 38)), (1, (.s 39)), (2, (.s 41))])), (.u (.bsl 43 30 (.strct [(.int .i64), (.int .i64), (.int .i64)]) [(.s 42)])), (.u (.app 44 30 (.strct [(.int .i64), (.int .i64), (.int .i64)]) 24 (.s 35) (.s 43))), (.u (.mov 8 (.s 44)))]) (.tr [9, 0, 1, 2, 8]))) (.seq (.ops [(.u (.mov 33 (.s 9))), (.u (.bin 34 .add .i64 (.s 33) (.c (.int .i64 1)))), (.u (.mov 9 (.s 34)))]) (.tr [0, 9, 1, 2, 8]))))))) (.seq (.seq (.ops [(.u (.mov 45 (.s 8))), (.u (.call 46 (.c (.clo 38 [])) [(.s 45)] [(some 30)] true)), (.u (.mov 10 (.s 46)))]) (.tr [1, 2, 10, 8])) (.seq (.seq (.ops [(.u (.mov 48 (.s 10))), (.u (.call 49 (.c (.clo 20 [])) [(.s 48)] [(some 5)] true)), (.u (.mov 50 (.s 1))), (.u (.app 51 5 (.int .u8) 1 (.s 49) (.s 50))), (.u (.call 52 (.c (.clo 39 [])) [(.s 51)] [(some 5)] true)), (.u (.mov 47 (.s 52))), (.u (.ext 53 0 (.s 47))), (.u (.ext 54 1 (.s 47))), (.u (.ext 55 2 (.s 47))), (.u (.mov 11 (.s 53))), (.u (.mov 12 (.s 54))), (.u (.mov 13 (.s 55)))]) (.tr [2, 13, 12, 10, 11, 8])) (.seq (.seq (.ops [(.u (.mov 57 (.s 10))), (.u (.mov 58 (.s 2))), (.u (.mov 59 (.s 10))), (.u (.len 60 false (.s 59))), (.u (.call 61 (.c (.clo 14 [])) [(.s 58), (.s 60)] [none, none] true)), (.u (.slc 62 5 (.s 57) none (some (.s 61)))), (.u (.call 63 (.c (.clo 39 [])) [(.s 62)] [(some 5)] true)), (.u (.mov 56 (.s 63))), (.u (.ext 64 0 (.s 56))), (.u (.ext 65 1 (.s 56))), (.u (.ext 66 2 (.s 56))), (.u (.mov 14 (.s 64))), (.u (.mov 15 (.s 65))), (.u (.mov 16 (.s 66)))]) (.tr [13, 12, 10, 11, 16, 15, 8])) (.seq (.seq (.ops [(.u (.mov 67 (.s 13))), (.u (.eqb 68 false 0 (.s 67))), (.u (.mov 69 (.s 68))), (.g 69 true (some 70) (.mov 70 (.s 12))), (.g 69 true (some 71) (.mov 71 (.s 10))), (.g 69 true (some 72) (.len 72 false (.s 71))), (.g 69 true (some 73) (.cmp 73 .eql (.s 70) (.s 72))), (.u (.pck 74 (.s 69) (.s 73) (.c (.bool false)))), (.u (.mov 75 (.s 74))), (.g 75 true (some 76) (.mov 76 (.s 11))), (.g 75 true (some 77) (.mov 77 (.s 8))), (.g 75 true (some 78) (.call 78 (.c (.clo 40 [])) [(.s 76), (.s 77)] [(some 30), (some 30)] true)), (.u (.pck 79 (.s 75) (.s 78) (.c (.bool false)))), (.u (.mov 80 (.s 79))), (.g 80 true (some 81) (.mov 81 (.s 11))), (.g 80 true (some 82) (.mov 82 (.s 8))), (.g 80 true (some 83) (.call 83 (.c (.clo 29 [])) [(.s 81), (.s 82)] [(some 30), (some 30)] true)), (.u (.pck 84 (.s 80) (.s 83) (.c (.bool false)))), (.u (.mov 85 (.s 84))), (.g 85 true (some 86) (.mov 86 (.s 16))), (.g 85 true (some 87) (.eqb 87 true 0 (.s 86))), (.u (.pck 88 (.s 85) (.s 87) (.c (.bool false)))), (.u (.mov 89 (.s 88))), (.g 89 true (some 90) (.mov 90 (.s 15))), (.g 89 true (some 91) (.cmp 91 .eql (.s 90) (.c (.int .i64 0)))), (.u (.pck 92 (.s 89) (.s 91) (.c (.bool false)))), (.u (.mov 93 (.s 92))), (.g 93 true (some 94) (.mov 94 (.s 8))), (.g 93 true (some 95) (.call 95 (.c (.clo 41 [])) [(.s 94)] [(some 30)] true)), (.g 93 true (some 96) (.mov 96 (.s 8))), (.g 93 true (some 97) (.call 97 (.c (.clo 30 [])) [(.s 96)] [(some 30)] true)), (.g 93 true (some 98) (.cmp 98 .eql (.s 95) (.s 97))), (.u (.pck 99 (.s 93) (.s 98) (.c (.bool false)))), (.u (.mov 6 (.s 99)))]) (.tr [6])) .ret)))))))))))
def rsSpanBack : List RV := [(.t 6)]
theorem irSpanBack : fnIR Tryd.prog WSpanBack 12 = some (icSpanBack, rsSpanBack) := by kernel_rfl
def spSpanBack : FSpec := fun args h nx K => match args with
  | [.int .i64 n, .dat (.slice 5) d, .int .i64 cut] => K (.bool true) h
  | _ => False
set_option maxHeartbeats 4000000 in
set_option maxRecDepth 8000 in
theorem vSpanBack {E : Nat → Value} (hE : Errs2 Tryd.prog (some 94) E) : Valid Tryd.prog E (gs GE4) 12 spSpanBack := by
  refine valid_go (W := WSpanBack) hE (((((((((allValid_bot.add (up (vFirst8 hE))).add (up (vNumber hE))).add (up (vSBytes hE))).add (up (vBytes hE))).add (up (vSRead hE))).add (up (vSSame hE))).add (up (vSSameSpans hE))).add (up (vRTop hE))).add (up (vSTop hE))) irSpanBack (by decide) (fun args h nx K hsp hok hnm => ?_)
  unfold spSpanBack at hsp
  split at hsp
  · rename_i n0 d cut
    refine ⟨by simp [WSpanBack, mkW, mkWE, mkWF], fun Q hQ => ?_⟩
    obtain ⟨_, hd, _⟩ := hok
    simp only [SV.ok] at hd
    obtain ⟨hd1, hd2, hd3⟩ := Wt.slice hd; generalize d.l = y at *; subst hd1
    have hry := rngB_of hd3
    have fin : ∀ b h' nx', HLe h h' → b = true → Q Ex.ret ⟨[(6, .bool b)], h', nx'⟩ := fun b h' nx' hh hb => by
      subst hb
      refine (hQ _ ?_).1
      exact fin_t (.bool true) rfl rfl hnm hh hsp
    by_cases hbig : 40 < y.length
    · have c1 : decide (40 < (y.length : Int)) = true := decide_eq_true (by omega)
      simp (maxSteps := 4000000) only [icSpanBack, fzSp_app, fzGo_app, slotsOf_nil, slotsOf_cons, Int.reduceEq, bq_tt, bq_tf, bq_ft, bq_ff, Bool.true_and, Bool.false_and, Bool.and_true, Bool.and_false, Bool.true_or, Bool.false_or, Bool.or_true, Bool.or_false, beq_self_eq_true, bne_self_eq_false, Int.reduceBEq, Int.reduceBNe, Int.reduceLE, Int.reduceLT, Int.reduceAdd, Int.reduceSub, Int.reduceMul, Int.reduceNeg, decide_true, decide_false, nm_ne2, nm_en2, nm_ne3, nm_en3, nm_ne4, nm_en4, nm_ne5, nm_en5, nm_ne6, nm_en6, nm_ne7, nm_en7, nm_ne8, nm_en8, nm_ne9, nm_en9, nm_ne10, nm_en10, D_i, D_b, D_s, D_l, D_tgt, nil_nil, nil_err, nil_ifc, nil_ptr, nil_node, D_fld0, D_fld1, D_fld2, D_fld3, D_fld4, D_fld5, D_fld6, D_fld7, D_fld8, D_fld9, D_fld10, D_fld11, D_fld12, D_fld13, D_fld14, D_fld15, frpL, go_frp, go_rgn, rgnK_def, goD_nil, goD_u, contD_some, goD_call, callD_clo, kD_app, goD_g, gD_T, gD_F, gD_U, gK_U, evI_true, evI_false, bareK_some, go_seq, go_ops, go_cond, go_block, go_skip, go_tr, trim_def, trim_nil, trim_cons, fget_nil, go_ret, go_exit, den_nil, den_seq, den_seq_ret, den_seq_ext, den_blk, den_blk_ret, den_blk_ext, den_lp, den_lp_ret, den_lp_ext, goO_nil, goO_u, noCall, contK_some, goO_slc, goO_mif, preF, preP, prePt, prePd, frzP, noSp, goO_nlq, nlqK_some, evNlq, goO_g, gK_T, gK_F, skipD_some, skipD_none, goO_call, goO_callf, frzK_def, callK_clo, kO_app, condK_ite, iteT, iteF, put_def, sput_def, ev, frOf, fget_cons, oget, ogets, argSs, argS, evMm, frzL, evBin, evWrp, evShf, evCmp, evUna, evNil, evBeq, evLd, evSt, evFad, evIad, evAad, evLen, evSln, evEls, evApp, evParts, evSlc, evNlc, evMif, evPck, evFld, evBld, evTas, evIfq, evSeq, evSl0, evBxf, evAgl, evAgq, evBsf, List.set_cons_zero, List.set_cons_succ, List.set_nil, List.flatten_cons, List.flatten_nil, List.getD_cons_zero, List.getD_cons_succ, List.contains_cons,  hget, hset, hdel, cellAt, arrAt, setCellAt, setArrAt, takeC, lenC, svCells, SV.okc, SV.one, ldSV, Fw.isAgg, Nat.reduceMul, Nat.reduceSub, Nat.reduceLeDiff, Nat.lt_irrefl, Nat.not_lt_zero, Nat.reduceLT, Nat.add_eq_left, Nat.left_eq_add, List.nil_append, List.length_cons, List.length_nil, List.append_nil, List.cons_append, Nat.zero_lt_one, Bool.false_eq_true, Bool.not_true, Bool.not_false, eq_self, Option.map_some, Option.map_none, true_imp_iff, false_imp_iff, implies_true, Bool.true_eq_false, explode, explodeL, toD, toDL, toD1, Ty.size, Ty.sizeL, frz1, Fr.sub, Heap.sub, Tok.sub, SV.sub, SV.subL, add_def, Nat.reduceEqDiff, Nat.reduceAdd, Nat.zero_add, reduceCtorEq, ↓reduceIte, and_self, and_true, true_and, reduceIte, spFirst8, spNumber, c1]
      exact fin _ _ _ (by ((try simp only []); repeat first | exact HLe.refl _ | refine HLe.cons (by simp only [hget, Nat.reduceEqDiff, Nat.left_eq_add, Nat.add_eq_left, reduceIte, ↓reduceIte] <;> rfl) ?_ | refine HLe.skip hnm (by omega) ?_ | refine HLe.frz hnm (by omega) ?_ | refine HLe.del hnm (by omega) ?_)) rfl
    have c1 : decide (40 < (y.length : Int)) = false := decide_eq_false (by omega)
    simp (maxSteps := 4000000) only [icSpanBack, fzSp_app, fzGo_app, slotsOf_nil, slotsOf_cons, Int.reduceEq, bq_tt, bq_tf, bq_ft, bq_ff, Bool.true_and, Bool.false_and, Bool.and_true, Bool.and_false, Bool.true_or, Bool.false_or, Bool.or_true, Bool.or_false, beq_self_eq_true, bne_self_eq_false, Int.reduceBEq, Int.reduceBNe, Int.reduceLE, Int.reduceLT, Int.reduceAdd, Int.reduceSub, Int.reduceMul, Int.reduceNeg, decide_true, decide_false, nm_ne2, nm_en2, nm_ne3, nm_en3, nm_ne4, nm_en4, nm_ne5, nm_en5, nm_ne6, nm_en6, nm_ne7, nm_en7, nm_ne8, nm_en8, nm_ne9, nm_en9, nm_ne10, nm_en10, D_i, D_b, D_s, D_l, D_tgt, nil_nil, nil_err, nil_ifc, nil_ptr, nil_node, D_fld0, D_fld1, D_fld2, D_fld3, D_fld4, D_fld5, D_fld6, D_fld7, D_fld8, D_fld9, D_fld10, D_fld11, D_fld12, D_fld13, D_fld14, D_fld15, frpL, go_frp, go_rgn, rgnK_def, goD_nil, goD_u, contD_some, goD_call, callD_clo, kD_app, goD_g, gD_T, gD_F, gD_U, gK_U, evI_true, evI_false, bareK_some, go_seq, go_ops, go_cond, go_block, go_skip, go_tr, trim_def, trim_nil, trim_cons, fget_nil, go_ret, go_exit, den_nil, den_seq, den_seq_ret, den_seq_ext, den_blk, den_blk_ret, den_blk_ext, den_lp, den_lp_ret, den_lp_ext, goO_nil, goO_u, noCall, contK_some, goO_slc, goO_mif, preF, preP, prePt, prePd, frzP, noSp, goO_nlq, nlqK_some, evNlq, goO_g, gK_T, gK_F, skipD_some, skipD_none, goO_call, goO_callf, frzK_def, callK_clo, kO_app, condK_ite, iteT, iteF, put_def, sput_def, ev, frOf, fget_cons, oget, ogets, argSs, argS, evMm, frzL, evBin, evWrp, evShf, evCmp, evUna, evNil, evBeq, evLd, evSt, evFad, evIad, evAad, evLen, evSln, evEls, evApp, evParts, evSlc, evNlc, evMif, evPck, evFld, evBld, evTas, evIfq, evSeq, evSl0, evBxf, evAgl, evAgq, evBsf, List.set_cons_zero, List.set_cons_succ, List.set_nil, List.flatten_cons, List.flatten_nil, List.getD_cons_zero, List.getD_cons_succ, List.contains_cons,  hget, hset, hdel, cellAt, arrAt, setCellAt, setArrAt, takeC, lenC, svCells, SV.okc, SV.one, ldSV, Fw.isAgg, Nat.reduceMul, Nat.reduceSub, Nat.reduceLeDiff, Nat.lt_irrefl, Nat.not_lt_zero, Nat.reduceLT, Nat.add_eq_left, Nat.left_eq_add, List.nil_append, List.length_cons, List.length_nil, List.append_nil, List.cons_append, Nat.zero_lt_one, Bool.false_eq_true, Bool.not_true, Bool.not_false, eq_self, Option.map_some, Option.map_none, true_imp_iff, false_imp_iff, implies_true, Bool.true_eq_false, explode, explodeL, toD, toDL, toD1, Ty.size, Ty.sizeL, frz1, Fr.sub, Heap.sub, Tok.sub, SV.sub, SV.subL, add_def, Nat.reduceEqDiff, Nat.reduceAdd, Nat.zero_add, reduceCtorEq, ↓reduceIte, and_self, and_true, true_and, reduceIte, spFirst8, spNumber, c1, min_i64, max_i64]
    have r0 : 0 ≤ n0 % 20 := Int.emod_nonneg _ (by omega)
    have r1 : n0 % 20 < 20 := Int.emod_lt_of_pos _ (by omega)
    obtain ⟨N, hN⟩ := Int.eq_ofNat_of_zero_le r0
    rw [hN]
    refine go_loop (α := { k : Nat // k ≤ N }) (I := fun k => { f := [(0, .int .i64 N), (9, .int .i64 ((k.1 : Int) + 1)), (1, .dat (.slice 5) (.list y)), (2, .int .i64 cut), (8, .vec nx)], h := (nx, .arr 30 spanT ((List.range k.1).map backF)) :: h, nx := nx + 1 }) (μ := fun k => N + 1 - k.1) _ _ _ ⟨0, by omega⟩ ?_ (fun k B hB => ?_)
    · refine leq_nil (.slot 8 30 spanT rfl (.refl _)) ?_
      simp only [fzSp_app, fzGo_app, slotsOf_nil, slotsOf_cons, Int.reduceEq, bq_tt, bq_tf, bq_ft, bq_ff, Bool.true_and, Bool.false_and, Bool.and_true, Bool.and_false, Bool.true_or, Bool.false_or, Bool.or_true, Bool.or_false, beq_self_eq_true, bne_self_eq_false, Int.reduceBEq, Int.reduceBNe, Int.reduceLE, Int.reduceLT, Int.reduceAdd, Int.reduceSub, Int.reduceMul, Int.reduceNeg, decide_true, decide_false, nm_ne2, nm_en2, nm_ne3, nm_en3, nm_ne4, nm_en4, nm_ne5, nm_en5, nm_ne6, nm_en6, nm_ne7, nm_en7, nm_ne8, nm_en8, nm_ne9, nm_en9, nm_ne10, nm_en10, D_i, D_b, D_s, D_l, D_tgt, nil_nil, nil_err, nil_ifc, nil_ptr, nil_node, D_fld0, D_fld1, D_fld2, D_fld3, D_fld4, D_fld5, D_fld6, D_fld7, D_fld8, D_fld9, D_fld10, D_fld11, D_fld12, D_fld13, D_fld14, D_fld15, frpL, go_frp, go_rgn, rgnK_def, goD_nil, goD_u, contD_some, goD_call, callD_clo, kD_app, goD_g, gD_T, gD_F, gD_U, gK_U, evI_true, evI_false, bareK_some, go_seq, go_ops, go_cond, go_block, go_skip, go_tr, trim_def, trim_nil, trim_cons, fget_nil, go_ret, go_exit, den_nil, den_seq, den_seq_ret, den_seq_ext, den_blk, den_blk_ret, den_blk_ext, den_lp, den_lp_ret, den_lp_ext, goO_nil, goO_u, noCall, contK_some, goO_slc, goO_mif, preF, preP, prePt, prePd, frzP, noSp, goO_nlq, nlqK_some, evNlq, goO_g, gK_T, gK_F, skipD_some, skipD_none, goO_call, goO_callf, frzK_def, callK_clo, kO_app, condK_ite, iteT, iteF, put_def, sput_def, ev, frOf, fget_cons, oget, ogets, argSs, argS, evMm, frzL, evBin, evWrp, evShf, evCmp, evUna, evNil, evBeq, evLd, evSt, evFad, evIad, evAad, evLen, evSln, evEls, evApp, evParts, evSlc, evNlc, evMif, evPck, evFld, evBld, evTas, evIfq, evSeq, evSl0, evBxf, evAgl, evAgq, evBsf, List.set_cons_zero, List.set_cons_succ, List.set_nil, List.flatten_cons, List.flatten_nil, List.getD_cons_zero, List.getD_cons_succ, List.contains_cons,  hget, hset, hdel, cellAt, arrAt, setCellAt, setArrAt, takeC, lenC, svCells, SV.okc, SV.one, ldSV, Fw.isAgg, Nat.reduceMul, Nat.reduceSub, Nat.reduceLeDiff, Nat.lt_irrefl, Nat.not_lt_zero, Nat.reduceLT, Nat.add_eq_left, Nat.left_eq_add, List.nil_append, List.length_cons, List.length_nil, List.append_nil, List.cons_append, Nat.zero_lt_one, Bool.false_eq_true, Bool.not_true, Bool.not_false, eq_self, Option.map_some, Option.map_none, true_imp_iff, false_imp_iff, implies_true, Bool.true_eq_false, explode, explodeL, toD, toDL, toD1, Ty.size, Ty.sizeL, frz1, Fr.sub, Heap.sub, Tok.sub, SV.sub, SV.subL, add_def, Nat.reduceEqDiff, Nat.reduceAdd, Nat.zero_add, reduceCtorEq, ↓reduceIte, and_self, and_true, true_and, reduceIte]
      refine leq_ren1 nx (nx + 64 + 64) (by omega) (by simp only []; omega) ?_ (by (simp only [frLt_cons, frLt_nil, and_true, SV.lt, SV.ltL, true_and] <;> omega)) ?_ (by (repeat first | exact HLt.mono hnm (by simp only [] <;> omega) | refine HLt.cons (by simp only [] <;> omega) (by simp only [Tok.lt, SV.ltL, SV.lt, and_true, true_and] <;> omega) ?_)) (by simp only [] <;> omega)
      · simp only [frEq_cons, frEq_nil, frIn_cons, frIn_nil, and_true, fget_cons, Nat.reduceEqDiff, reduceIte, ↓reduceIte, true_and, SV.ren, SV.renL, ren1]
        simp
      · exact HRen.cons (by rw [ren1_eq]; simp [hget, Tok.ren]) (HRen.base hnm (Nat.le_refl _) (by ((try simp only []); repeat first | exact HLe.refl _ | refine HLe.cons (by simp only [hget, Nat.reduceEqDiff, Nat.left_eq_add, Nat.add_eq_left, reduceIte, ↓reduceIte] <;> rfl) ?_ | refine HLe.skip hnm (by omega) ?_ | refine HLe.frz hnm (by omega) ?_ | refine HLe.del hnm (by omega) ?_)))
    · obtain ⟨k, hk⟩ := k
      simp only at hB
      by_cases hkN : k < N
      · have c2 : decide ((k : Int) + 1 ≤ (N : Int)) = true := decide_eq_true (by omega)
        have hs : (List.range k).map backF ++ [.node [.int (((k : Int) + 1) * ((k : Int) + 1)), .int ((k : Int) + 1), .int (100 * ((k : Int) + 1))]] = (List.range (k + 1)).map backF := map_succ backF k
        have hq := sq_bd k (by omega)
        simp (maxSteps := 4000000) only [fzSp_app, fzGo_app, slotsOf_nil, slotsOf_cons, Int.reduceEq, bq_tt, bq_tf, bq_ft, bq_ff, Bool.true_and, Bool.false_and, Bool.and_true, Bool.and_false, Bool.true_or, Bool.false_or, Bool.or_true, Bool.or_false, beq_self_eq_true, bne_self_eq_false, Int.reduceBEq, Int.reduceBNe, Int.reduceLE, Int.reduceLT, Int.reduceAdd, Int.reduceSub, Int.reduceMul, Int.reduceNeg, decide_true, decide_false, nm_ne2, nm_en2, nm_ne3, nm_en3, nm_ne4, nm_en4, nm_ne5, nm_en5, nm_ne6, nm_en6, nm_ne7, nm_en7, nm_ne8, nm_en8, nm_ne9, nm_en9, nm_ne10, nm_en10, D_i, D_b, D_s, D_l, D_tgt, nil_nil, nil_err, nil_ifc, nil_ptr, nil_node, D_fld0, D_fld1, D_fld2, D_fld3, D_fld4, D_fld5, D_fld6, D_fld7, D_fld8, D_fld9, D_fld10, D_fld11, D_fld12, D_fld13, D_fld14, D_fld15, frpL, go_frp, go_rgn, rgnK_def, goD_nil, goD_u, contD_some, goD_call, callD_clo, kD_app, goD_g, gD_T, gD_F, gD_U, gK_U, evI_true, evI_false, bareK_some, go_seq, go_ops, go_cond, go_block, go_skip, go_tr, trim_def, trim_nil, trim_cons, fget_nil, go_ret, go_exit, den_nil, den_seq, den_seq_ret, den_seq_ext, den_blk, den_blk_ret, den_blk_ext, den_lp, den_lp_ret, den_lp_ext, goO_nil, goO_u, noCall, contK_some, goO_slc, goO_mif, preF, preP, prePt, prePd, frzP, noSp, goO_nlq, nlqK_some, evNlq, goO_g, gK_T, gK_F, skipD_some, skipD_none, goO_call, goO_callf, frzK_def, callK_clo, kO_app, condK_ite, iteT, iteF, put_def, sput_def, ev, frOf, fget_cons, oget, ogets, argSs, argS, evMm, frzL, evBin, evWrp, evShf, evCmp, evUna, evNil, evBeq, evLd, evSt, evFad, evIad, evAad, evLen, evSln, evEls, evApp, evParts, evSlc, evNlc, evMif, evPck, evFld, evBld, evTas, evIfq, evSeq, evSl0, evBxf, evAgl, evAgq, evBsf, List.set_cons_zero, List.set_cons_succ, List.set_nil, List.flatten_cons, List.flatten_nil, List.getD_cons_zero, List.getD_cons_succ, List.contains_cons,  hget, hset, hdel, cellAt, arrAt, setCellAt, setArrAt, takeC, lenC, svCells, SV.okc, SV.one, ldSV, Fw.isAgg, Nat.reduceMul, Nat.reduceSub, Nat.reduceLeDiff, Nat.lt_irrefl, Nat.not_lt_zero, Nat.reduceLT, Nat.add_eq_left, Nat.left_eq_add, List.nil_append, List.length_cons, List.length_nil, List.append_nil, List.cons_append, Nat.zero_lt_one, Bool.false_eq_true, Bool.not_true, Bool.not_false, eq_self, Option.map_some, Option.map_none, true_imp_iff, false_imp_iff, implies_true, Bool.true_eq_false, explode, explodeL, toD, toDL, toD1, Ty.size, Ty.sizeL, frz1, Fr.sub, Heap.sub, Tok.sub, SV.sub, SV.subL, add_def, Nat.reduceEqDiff, Nat.reduceAdd, Nat.zero_add, reduceCtorEq, ↓reduceIte, and_self, and_true, true_and, reduceIte, c2, hs, map_len, min_i64, max_i64]
        refine ⟨by omega, by omega, by omega, by omega, hB _ ⟨k + 1, by omega⟩ (by simp only []; omega) ?_⟩
        refine leq_ren1 nx (nx + 2) (by omega) (by simp only []; omega) ?_ (by (simp only [frLt_cons, frLt_nil, and_true, SV.lt, SV.ltL, true_and] <;> omega)) ?_ (by (repeat first | exact HLt.mono hnm (by simp only [] <;> omega) | refine HLt.cons (by simp only [] <;> omega) (by simp only [Tok.lt, SV.ltL, SV.lt, and_true, true_and] <;> omega) ?_)) (by simp only [] <;> omega)
        · simp only [frEq_cons, frEq_nil, frIn_cons, frIn_nil, and_true, fget_cons, Nat.reduceEqDiff, reduceIte, ↓reduceIte, true_and, SV.ren, SV.renL, ren1]
          simp
        · exact HRen.cons (by rw [ren1_eq]; simp [hget, Tok.ren]) (HRen.base hnm (Nat.le_refl _) (by ((try simp only []); repeat first | exact HLe.refl _ | refine HLe.cons (by simp only [hget, Nat.reduceEqDiff, Nat.left_eq_add, Nat.add_eq_left, reduceIte, ↓reduceIte] <;> rfl) ?_ | refine HLe.skip hnm (by omega) ?_ | refine HLe.frz hnm (by omega) ?_ | refine HLe.del hnm (by omega) ?_)))
      · obtain rfl : k = N := by omega
        have c2 : decide ((k : Int) + 1 ≤ (k : Int)) = false := decide_eq_false (by omega)
        have hv := back_ok (k := k) (by omega)
        have ho := back_okS (k := k) (by omega)
        have hlen := map_len backF k
        generalize (List.range k).map backF = L at *
        have hn : (validD L).isNil = true := by rw [hv]; rfl
        have e1 := enc_le (n := (L.length : Int)) (by omega)
        have p1 := enc_pos (L.length : Int)
        have e2 := okS_len ho
        have e3 : 0 < (encS3 L).length := by unfold encS3; rw [List.length_append]; omega
        have b1 := rngB_encS3 L
        have hF := spansF_at (l := encS3 L ++ y) (a := 0) (r := y) (s := L) (by omega) ho (by rw [List.drop_zero])
        have hR1 : readE (encS3 L ++ y) = .nil := by unfold readE; rw [hF]; simp only [nil_nil, if_true]; exact hv
        rw [Nat.zero_add] at hF
        have bl : RngB (encS3 L ++ y) := rngB_app b1 hry
        have k0 : 0 ≤ cut % ((encS3 L).length : Int) := Int.emod_nonneg _ (by omega)
        have k1 : cut % ((encS3 L).length : Int) < (encS3 L).length := Int.emod_lt_of_pos _ (by omega)
        have g0 : 0 < ((encS3 L).length : Int) := by omega
        generalize hcq : cut % ((encS3 L).length : Int) = q at k0 k1
        obtain ⟨c, rfl⟩ := Int.eq_ofNat_of_zero_le k0
        have hC := spansF_cut (l := (encS3 L).take c) (s := L) (k := c) (by omega) ho rfl (by omega)
        have hR2 : (readE ((encS3 L).take c)).isNil = false := by unfold readE; rw [if_neg (by rw [hC]; simp)]; exact hC
        have bt : RngB ((encS3 L).take c) := rngB_take' b1 c
        have g1 : (encS3 L).length ≤ 140737488355328 := by omega
        have g2 : (encS3 L ++ y).length ≤ 1000000000 := by rw [List.length_append]; omega
        have g3 : ((encS3 L).take c).length ≤ 1000000000 := by rw [List.length_take]; omega
        simp (maxSteps := 4000000) only [fzSp_app, fzGo_app, slotsOf_nil, slotsOf_cons, Int.reduceEq, bq_tt, bq_tf, bq_ft, bq_ff, Bool.true_and, Bool.false_and, Bool.and_true, Bool.and_false, Bool.true_or, Bool.false_or, Bool.or_true, Bool.or_false, beq_self_eq_true, bne_self_eq_false, Int.reduceBEq, Int.reduceBNe, Int.reduceLE, Int.reduceLT, Int.reduceAdd, Int.reduceSub, Int.reduceMul, Int.reduceNeg, decide_true, decide_false, nm_ne2, nm_en2, nm_ne3, nm_en3, nm_ne4, nm_en4, nm_ne5, nm_en5, nm_ne6, nm_en6, nm_ne7, nm_en7, nm_ne8, nm_en8, nm_ne9, nm_en9, nm_ne10, nm_en10, D_i, D_b, D_s, D_l, D_tgt, nil_nil, nil_err, nil_ifc, nil_ptr, nil_node, D_fld0, D_fld1, D_fld2, D_fld3, D_fld4, D_fld5, D_fld6, D_fld7, D_fld8, D_fld9, D_fld10, D_fld11, D_fld12, D_fld13, D_fld14, D_fld15, frpL, go_frp, go_rgn, rgnK_def, goD_nil, goD_u, contD_some, goD_call, callD_clo, kD_app, goD_g, gD_T, gD_F, gD_U, gK_U, evI_true, evI_false, bareK_some, go_seq, go_ops, go_cond, go_block, go_skip, go_tr, trim_def, trim_nil, trim_cons, fget_nil, go_ret, go_exit, den_nil, den_seq, den_seq_ret, den_seq_ext, den_blk, den_blk_ret, den_blk_ext, den_lp, den_lp_ret, den_lp_ext, goO_nil, goO_u, noCall, contK_some, goO_slc, goO_mif, preF, preP, prePt, prePd, frzP, noSp, goO_nlq, nlqK_some, evNlq, goO_g, gK_T, gK_F, skipD_some, skipD_none, goO_call, goO_callf, frzK_def, callK_clo, kO_app, condK_ite, iteT, iteF, put_def, sput_def, ev, frOf, fget_cons, oget, ogets, argSs, argS, evMm, frzL, evBin, evWrp, evShf, evCmp, evUna, evNil, evBeq, evLd, evSt, evFad, evIad, evAad, evLen, evSln, evEls, evApp, evParts, evSlc, evNlc, evMif, evPck, evFld, evBld, evTas, evIfq, evSeq, evSl0, evBxf, evAgl, evAgq, evBsf, List.set_cons_zero, List.set_cons_succ, List.set_nil, List.flatten_cons, List.flatten_nil, List.getD_cons_zero, List.getD_cons_succ, List.contains_cons,  hget, hset, hdel, cellAt, arrAt, setCellAt, setArrAt, takeC, lenC, svCells, SV.okc, SV.one, ldSV, Fw.isAgg, Nat.reduceMul, Nat.reduceSub, Nat.reduceLeDiff, Nat.lt_irrefl, Nat.not_lt_zero, Nat.reduceLT, Nat.add_eq_left, Nat.left_eq_add, List.nil_append, List.length_cons, List.length_nil, List.append_nil, List.cons_append, Nat.zero_lt_one, Bool.false_eq_true, Bool.not_true, Bool.not_false, eq_self, Option.map_some, Option.map_none, true_imp_iff, false_imp_iff, implies_true, Bool.true_eq_false, explode, explodeL, toD, toDL, toD1, Ty.size, Ty.sizeL, frz1, Fr.sub, Heap.sub, Tok.sub, SV.sub, SV.subL, add_def, Nat.reduceEqDiff, Nat.reduceAdd, Nat.zero_add, reduceCtorEq, ↓reduceIte, and_self, and_true, true_and, reduceIte, c2, spSBytes, spBytes, spSRead, spSameS, spSTop, spNumber, hn, hF, hR1, hR2, bl, bt, g0, g1, g2, g3, hcq, sameS_rfl, Int.toNat_natCast, List.getElem?_cons_zero, List.getElem?_cons_succ]
        (try simp only [decide_eq_true_eq, decide_eq_false_iff_not, beq_iff_eq, bne_iff_ne, ne_eq, beq_eq_false_iff_ne, bne_eq_false_iff_eq]) <;> repeat' (first | refine ⟨?_, ?_⟩ | intro _)
        all_goals first
          | omega
          | exact fin _ _ _ (by ((try simp only []); repeat first | exact HLe.refl _ | refine HLe.cons (by simp only [hget, Nat.reduceEqDiff, Nat.left_eq_add, Nat.add_eq_left, reduceIte, ↓reduceIte] <;> rfl) ?_ | refine HLe.skip hnm (by omega) ?_ | refine HLe.frz hnm (by omega) ?_ | refine HLe.del hnm (by omega) ?_)) rfl
          | skip
  · exact hsp.elim
end Go.Proofs.YthkpajefghmnaaaDoor
