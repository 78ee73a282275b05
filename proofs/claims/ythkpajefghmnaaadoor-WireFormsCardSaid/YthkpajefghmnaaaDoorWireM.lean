/- Chapter 2: WireForms: the walk. -/
import Derived.Test.YthkpajefghmnaaaDoorWireJ
namespace Go.Proofs.YthkpajefghmnaaaDoor
set_option linter.unusedVariables false
set_option linter.unusedSimpArgs false
open Go Go.Fw Go.Wire

theorem encS_len (z : Nat) : (encS z).length = (enc z).length := by rw [← (enc_set z).2, List.length_set]
theorem encS_byte (z : Nat) : ∀ x ∈ encS z, x ≤ 255 := by
  induction z using Nat.strongRecOn with
  | _ z ih =>
    intro x hx
    by_cases h : z < 128
    · rw [encS_lt h] at hx; simp at hx; omega
    · rw [encS_ge h] at hx
      rcases List.mem_cons.1 hx with rfl | hx
      · omega
      · exact ih (z / 128) (by omega) x hx
theorem dOf_getD (l : List Nat) (i : Nat) (h : i < l.length) : (dOf l).getD i .nil = .int (l.getD i 0 : Nat) := by
  unfold dOf
  simp [List.getD_eq_getElem?_getD, List.getElem?_map, List.getElem?_eq_getElem h]
theorem set_mark {a : Int} {L : Nat} (hL : L = (encD a).length - 1) : (encD a).set L (D.int (bitI BinOp.or IntKind.u8 ((encD a).getD L D.nil).i 128)) = dOf (encS (zig a)) := by
  subst hL
  obtain ⟨h1, h2⟩ := enc_set (zig a)
  have hp := enc_len_pos (zig a)
  rw [encD_len]
  unfold encD
  rw [dOf_getD _ _ (by omega)]
  simp only [D.i]
  rw [or8 h1, ← h2]
  unfold dOf
  rw [List.map_set]
theorem rngB_dOf {l : List Nat} (h : ∀ x ∈ l, x ≤ 255) : RngB (dOf l) := by
  intro j hj
  rw [dOf_len] at hj
  rw [dOf_getD _ _ hj]
  have := h _ (List.getElem_mem hj)
  simp only [D.i, List.getD_eq_getElem?_getD, List.getElem?_eq_getElem hj, Option.getD_some]
  omega
theorem numF_mark {a : Int} (ha : -9223372036854775808 ≤ a ∧ a ≤ 9223372036854775807) {lo hi : Int} : numF (dOf (encS (zig a)) ++ [D.int 0]) 0 .nil lo hi = (0, 0, atD 0 3) := by
  unfold numF
  have : nats (List.drop 0 (dOf (encS (zig a)) ++ [D.int 0])) = encS (zig a) ++ [0] := by rw [List.drop_zero, nats_app, nats_dOf]; rfl
  rw [if_pos (by rfl), this, numR_encS (zig a) 0 0 (by omega) (by omega) (by have := zig_lt ha; omega)]

def WWireForms : Opts := mkWE 84 [] [0, 1, 2, 3, 4, 5, 6, 7, 8, 9, 10, 11, 12, 13, 14, 15, 16] [] 94 [0, 1, 2, 3, 4, 5, 6, 7, 8, 9, 10, 11, 12, 13, 14, 15, 16] []
def icWireForms : IC := (.seq (.seq (.ops [(.u (.mov 4 (.c (.bool false))))]) (.tr [0, 1])) (.seq (.seq (.ops [(.u (.call 10 (.c (.clo 17 [])) [] [] true)), (.u (.mov 5 (.s 10)))]) (.tr [0, 1, 5])) (.seq (.seq (.seq (.ops [(.u (.mov 11 (.s 5))), (.u (.una 12 .not (.s 11)))]) (.tr [12, 0, 1, 5])) (.cond (.s 12) (.seq (.seq (.ops [(.u (.mov 4 (.c (.bool false))))]) (.tr [4])) .ret) .skip)) (.seq (.seq (.ops [(.u (.mov 13 (.s 0))), (.u (.call 14 (.c (.clo 18 [])) [(.c .nils), (.s 13)] [(some 5), none] true)), (.u (.mov 6 (.s 14)))]) (.tr [0, 1, 5, 6])) (.seq (.seq (.ops [(.u (.mov 15 (.s 1))), (.u (.call 16 (.c (.clo 18 [])) [(.c .nils), (.s 15)] [(some 5), none] true)), (.u (.mov 7 (.s 16)))]) (.tr [0, 1, 7, 5, 6])) (.seq (.seq (.seq (.ops [(.u (.mov 17 (.s 6))), (.u (.len 18 false (.s 17))), (.u (.cmp 19 .eql (.s 18) (.c (.int .i64 0)))), (.u (.mov 20 (.s 19))), (.g 20 false (some 21) (.mov 21 (.s 6))), (.g 20 false (some 22) (.len 22 false (.s 21))), (.g 20 false (some 23) (.cmp 23 .gtr (.s 22) (.c (.int .i64 10)))), (.u (.pck 24 (.s 20) (.c (.bool true)) (.s 23))), (.u (.mov 25 (.s 24))), (.g 25 false (some 26) (.mov 26 (.s 7))), (.g 25 false (some 27) (.len 27 false (.s 26))), (.g 25 false (some 28) (.cmp 28 .eql (.s 27) (.c (.int .i64 0)))), (.u (.pck 29 (.s 25) (.c (.bool true)) (.s 28)))]) (.tr [29, 0, 1, 7, 5, 6])) (.cond (.s 29) (.seq (.seq (.ops [(.u (.mov 4 (.c (.bool false))))]) (.tr [4])) .ret) .skip)) (.seq (.seq (.seq (.ops [(.u (.mov 30 (.s 0))), (.u (.mov 31 (.s 1))), (.u (.cmp 32 .neq (.s 30) (.s 31))), (.u (.mov 33 (.s 32))), (.g 33 true (some 34) (.mov 34 (.s 6))), (.g 33 true (some 35) (.len 35 false (.s 34))), (.g 33 true (some 36) (.mov 36 (.s 7))), (.g 33 true (some 37) (.len 37 false (.s 36))), (.g 33 true (some 38) (.cmp 38 .leq (.s 35) (.s 37))), (.u (.pck 39 (.s 33) (.s 38) (.c (.bool false)))), (.u (.mov 40 (.s 39))), (.g 40 true (some 41) (.mov 41 (.s 6))), (.g 40 true (some 42) (.mov 42 (.s 7))), (.g 40 true (some 43) (.mov 43 (.s 6))), (.g 40 true (some 44) (.len 44 false (.s 43))), (.g 40 true (some 45) (.slc 45 5 (.s 42) none (some (.s 44)))), (.g 40 true (some 46) (.call 46 (.c (.clo 19 [])) [(.s 41), (.s 45)] [(some 5), (some 5)] true)), (.u (.pck 47 (.s 40) (.s 46) (.c (.bool false))))]) (.tr [47, 5, 6])) (.cond (.s 47) (.seq (.seq (.ops [(.u (.mov 4 (.c (.bool false))))]) (.tr [4])) .ret) .skip)) (.seq (.seq (.ops [(.u (.mov 48 (.s 6))), (.u (.call 49 (.c (.clo 20 [])) [(.s 48)] [(some 5)] true)), (.u (.mov 8 (.s 49)))]) (.tr [8, 5, 6])) (.seq (.seq (.ops [(.u (.mov 50 (.s 8))), (.u (.mov 51 (.s 8))), (.u (.len 52 false (.s 51))), (.u (.bin 53 .sub .i64 (.s 52) (.c (.int .i64 1)))), (.u (.iad 54 5 (.int .u8) (.s 50) (.s 53))), (.u (.ld 55 (.int .u8) (.s 54))), (.u (.bin 56 .or .u8 (.s 55) (.c (.int .u8 128)))), (.u (.iad 57 5 (.int .u8) (.s 50) (.s 53))), (.u (.st (.int .u8) (.s 57) (.s 56)))]) (.tr [8, 5, 6])) (.seq (.seq (.ops [(.u (.mov 58 (.s 8))), (.u (.bsl 59 5 (.int .u8) [(.c (.int .u8 0))])), (.u (.app 60 5 (.int .u8) 1 (.s 58) (.s 59))), (.u (.call 61 (.c (.clo 21 [])) [(.s 60)] [(some 5)] true)), (.u (.mov 9 (.s 61)))]) (.tr [5, 9, 6])) (.seq (.seq (.seq (.ops [(.u (.mov 62 (.s 9))), (.u (.eqb 63 false 1 (.s 62)))]) (.tr [63, 5, 9, 6])) (.cond (.s 63) (.seq (.seq (.ops [(.u (.mov 4 (.c (.bool false))))]) (.tr [4])) .ret) .skip)) (.seq (.seq (.ops [(.u (.mov 64 (.s 9))), (.u (.call 65 (.c (.clo 22 [])) [(.s 64), (.c (.int .i64 (-9223372036854775808))), (.c (.int .i64 9223372036854775807))] [none, none, none] true))]) (.tr [5, 9, 6])) (.seq (.seq (.ops [(.u (.mov 66 (.s 5))), (.u (.mov 67 (.s 66))), (.g 67 true (some 68) (.mov 68 (.s 9))), (.g 67 true (some 69) (.call 69 (.c (.clo 24 [])) [(.s 68)] [none] true)), (.g 67 true (some 70) (.call 70 (.c (.clo 25 [])) [(.c (.int .i64 103)), (.c (.int .i64 0))] [none, none] true)), (.g 67 true (some 71) (.call 71 (.c (.clo 23 [])) [(.s 69), (.s 70)] [none, none] true)), (.u (.pck 72 (.s 67) (.s 71) (.c (.bool false)))), (.u (.mov 73 (.s 72))), (.g 73 true (some 74) (.mov 74 (.s 9))), (.g 73 true (some 75) (.call 75 (.c (.clo 26 [])) [(.s 74)] [none] true)), (.g 73 true (some 76) (.cmp 76 .eql (.s 75) (.c (.int .i64 0)))), (.u (.pck 77 (.s 73) (.s 76) (.c (.bool false)))), (.u (.mov 78 (.s 77))), (.g 78 true (some 79) (.mov 79 (.s 6))), (.g 78 true (some 80) (.len 80 false (.s 79))), (.g 78 true (some 81) (.call 81 (.c (.clo 14 [])) [(.s 80), (.c (.int .i64 11))] [none, none] true)), (.g 78 true (some 82) (.cmp 82 .gtr (.s 81) (.c (.int .i64 0)))), (.u (.pck 83 (.s 78) (.s 82) (.c (.bool false)))), (.u (.mov 4 (.s 83)))]) (.tr [4])) .ret)))))))))))))
def rsWireForms : List RV := [(.t 4)]
theorem irWireForms : fnIR Tryd.prog WWireForms 4 = some (icWireForms, rsWireForms) := by kernel_rfl
def spWireForms : FSpec := fun args h nx K => match args with
  | [.int .i64 a, .int .i64 b] => K (.bool true) h
  | _ => False
set_option maxHeartbeats 4000000 in
set_option maxRecDepth 8000 in
theorem vWireForms {E : Nat → Value} (hE : Errs2 Tryd.prog (some 94) E) : Valid Tryd.prog E G0 4 spWireForms := by
  refine valid_go (W := WWireForms) hE (((((((((((allValid_bot.add (up (vFirst hE))).add (up (vNumber hE))).add (up (vPut hE))).add (up (vBytes hE))).add (up (vNewReader hE))).add (up (vNum hE))).add (up (vRAt hE))).add (up (vRErr hE))).add (vPlaced hE)).add (vSame hE)).add (up (vSameBytes hE))) irWireForms (by decide) (fun args h nx K hsp hok hnm => ?_)
  unfold spWireForms at hsp
  split at hsp
  · rename_i a b
    refine ⟨by simp [WWireForms, mkW, mkWE], fun Q hQ => ?_⟩
    obtain ⟨ha, hb, _⟩ := hok
    simp only [SV.ok] at ha hb
    rw [min_i64, max_i64] at ha hb
    have fin : ∀ h' nx', HLe h h' → Q Ex.ret ⟨[(4, .bool true)], h', nx'⟩ := fun h' nx' hh => by
      refine (hQ _ ?_).1
      exact fin_t (.bool true) rfl rfl hnm hh hsp
    have pa := enc_pos a
    have pb := enc_pos b
    have la := enc_le ha
    have lb := enc_le hb
    have z11 : (0 : Int) < 11 := by omega
    have hm : ((encD a).length : Int) % 11 = ((encD a).length : Int) := by omega
    have hm2 : decide (0 < ((encD a).length : Int)) = true := decide_eq_true (by omega)
    have d1 : (((encD a).length : Int) == 0) = false := by rw [beq_eq_false_iff_ne]; omega
    have d2 : decide (10 < ((encD a).length : Int)) = false := decide_eq_false (by omega)
    have d3 : (((encD b).length : Int) == 0) = false := by rw [beq_eq_false_iff_ne]; omega
    have hf := fault_atS 0
    have hS := set_mark (a := a) (L := ((encD a).length - 1 : Int).toNat) (by omega)
    have hT : (dOf (encS (zig a)) ++ [D.int 0]).length = (encD a).length + 1 := by rw [List.length_append, dOf_len, encS_len, encD_len]; rfl
    have hF := numF_mark ha (lo := -9223372036854775808) (hi := 9223372036854775807)
    have hR : RngB (dOf (encS (zig a)) ++ [D.int 0]) := rngB_app (rngB_dOf (encS_byte _)) (fun j hj => by
      have : j = 0 := by simp at hj; omega
      subst this; simp [D.i])
    have hT' : (dOf (encS (zig a))).length = (encD a).length := by rw [dOf_len, encS_len, encD_len]
    by_cases hab : a = b
    · subst hab
      have c1 : (a != a) = false := by simp
      simp (maxSteps := 4000000) only [icWireForms, go_rgn, rgnK_def, goD_nil, goD_u, contD_some, goD_call, callD_clo, kD_app, goD_g, gD_T, gD_F, gD_U, gK_U, evI_true, evI_false, bareK_some, go_seq, go_ops, go_cond, go_block, go_skip, go_tr, trim_def, trim_nil, trim_cons, fget_nil, go_ret, go_exit, den_nil, den_seq, den_seq_ret, den_seq_ext, den_blk, den_blk_ret, den_blk_ext, den_lp, den_lp_ret, den_lp_ext, goO_nil, goO_u, noCall, contK_some, goO_slc, goO_mif, preF, preP, prePt, prePd, frzP, noSp, D.isNil, goO_nlq, nlqK_some, evNlq, goO_g, gK_T, gK_F, skipD_some, skipD_none, goO_call, goO_callf, frzK_def, callK_clo, kO_app, condK_ite, iteT, iteF, put_def, sput_def, ev, frOf, fget_cons, oget, ogets, argSs, argS, evMm, frzL, evBin, evWrp, evShf, evCmp, evUna, evNil, evBeq, evLd, evSt, evFad, evIad, evAad, evLen, evSln, evEls, evApp, evParts, evSlc, evNlc, evMif, evPck, evFld, evBld, evTas, evIfq, evSeq, evSl0, evBxf, List.set_cons_zero, List.set_cons_succ, List.set_nil, List.flatten_cons, List.flatten_nil, List.getD_cons_zero, List.getD_cons_succ, List.contains_cons,  hget, hset, hdel, cellAt, arrAt, setCellAt, setArrAt, takeC, lenC, svCells, SV.okc, SV.one, ldSV, Fw.isAgg, Nat.reduceMul, Nat.reduceSub, Nat.reduceLeDiff, Nat.lt_irrefl, Nat.not_lt_zero, Nat.reduceLT, Nat.add_eq_left, Nat.left_eq_add, List.nil_append, List.length_cons, List.length_nil, List.append_nil, List.cons_append, Nat.zero_lt_one, Bool.false_eq_true, Bool.not_true, Bool.not_false, eq_self, Option.map_some, Option.map_none, true_imp_iff, false_imp_iff, implies_true, Bool.true_eq_false, explode, explodeL, toD, toDL, toD1, Ty.size, Ty.sizeL, frz1, Fr.sub, Heap.sub, Tok.sub, SV.sub, SV.subL, add_def, Nat.reduceEqDiff, Nat.reduceAdd, Nat.zero_add, reduceCtorEq, ↓reduceIte, and_self, and_true, true_and, reduceIte, spFirst, spNumber, spPut, spBytes, spNewReader, spNum, spRErr, spRAt, spPlaced, spSame, spSameB, fA, rdTok_def, rdL_c, rdA_c, rdE_c, rdOk_c, list_l, d1, d2, d3, hm, hm2, z11, hf, hS, hT, hF, hR, n103, decide_false, z00, beq_self_eq_true, Bool.and_self, Nat.zero_le, c1]
      rw [hT', min_i64, max_i64]
      repeat (refine ⟨by omega, ?_⟩)
      exact fin _ _ (by ((try simp only []); repeat first | exact HLe.refl _ | refine HLe.cons (by simp only [hget, Nat.reduceEqDiff, reduceIte, ↓reduceIte] <;> rfl) ?_ | refine HLe.skip hnm (by omega) ?_ | refine HLe.frz hnm (by omega) ?_ | refine HLe.del hnm (by omega) ?_))
    · have c1 : (a != b) = true := by simpa using hab
      by_cases hle : (encD a).length ≤ (encD b).length
      · have c2 : decide (((encD a).length : Int) ≤ ((encD b).length : Int)) = true := decide_eq_true (by omega)
        have c3 : sameD (encD a) (List.take (encD a).length (encD b)) = false := by
          rw [Bool.eq_false_iff]
          intro h
          unfold sameD at h
          have h := congrArg (List.map D.int) (beq_iff_eq.1 h)
          rw [ints_take] at h
          have e : ∀ n : Int, (ints (encD n)).map D.int = encD n := fun n => by simp [ints, encD, dOf, D.i]
          rw [List.map_take, e, e] at h
          exact hab (enc_pre ha hb h)
        simp (maxSteps := 4000000) only [icWireForms, go_rgn, rgnK_def, goD_nil, goD_u, contD_some, goD_call, callD_clo, kD_app, goD_g, gD_T, gD_F, gD_U, gK_U, evI_true, evI_false, bareK_some, go_seq, go_ops, go_cond, go_block, go_skip, go_tr, trim_def, trim_nil, trim_cons, fget_nil, go_ret, go_exit, den_nil, den_seq, den_seq_ret, den_seq_ext, den_blk, den_blk_ret, den_blk_ext, den_lp, den_lp_ret, den_lp_ext, goO_nil, goO_u, noCall, contK_some, goO_slc, goO_mif, preF, preP, prePt, prePd, frzP, noSp, D.isNil, goO_nlq, nlqK_some, evNlq, goO_g, gK_T, gK_F, skipD_some, skipD_none, goO_call, goO_callf, frzK_def, callK_clo, kO_app, condK_ite, iteT, iteF, put_def, sput_def, ev, frOf, fget_cons, oget, ogets, argSs, argS, evMm, frzL, evBin, evWrp, evShf, evCmp, evUna, evNil, evBeq, evLd, evSt, evFad, evIad, evAad, evLen, evSln, evEls, evApp, evParts, evSlc, evNlc, evMif, evPck, evFld, evBld, evTas, evIfq, evSeq, evSl0, evBxf, List.set_cons_zero, List.set_cons_succ, List.set_nil, List.flatten_cons, List.flatten_nil, List.getD_cons_zero, List.getD_cons_succ, List.contains_cons,  hget, hset, hdel, cellAt, arrAt, setCellAt, setArrAt, takeC, lenC, svCells, SV.okc, SV.one, ldSV, Fw.isAgg, Nat.reduceMul, Nat.reduceSub, Nat.reduceLeDiff, Nat.lt_irrefl, Nat.not_lt_zero, Nat.reduceLT, Nat.add_eq_left, Nat.left_eq_add, List.nil_append, List.length_cons, List.length_nil, List.append_nil, List.cons_append, Nat.zero_lt_one, Bool.false_eq_true, Bool.not_true, Bool.not_false, eq_self, Option.map_some, Option.map_none, true_imp_iff, false_imp_iff, implies_true, Bool.true_eq_false, explode, explodeL, toD, toDL, toD1, Ty.size, Ty.sizeL, frz1, Fr.sub, Heap.sub, Tok.sub, SV.sub, SV.subL, add_def, Nat.reduceEqDiff, Nat.reduceAdd, Nat.zero_add, reduceCtorEq, ↓reduceIte, and_self, and_true, true_and, reduceIte, spFirst, spNumber, spPut, spBytes, spNewReader, spNum, spRErr, spRAt, spPlaced, spSame, spSameB, fA, rdTok_def, rdL_c, rdA_c, rdE_c, rdOk_c, list_l, d1, d2, d3, hm, hm2, z11, hf, hS, hT, hF, hR, n103, decide_false, z00, beq_self_eq_true, Bool.and_self, Nat.zero_le, c1, c2, c3, Int.toNat_natCast]
        rw [hT', min_i64, max_i64]
        repeat (refine ⟨by omega, ?_⟩)
        exact fin _ _ (by ((try simp only []); repeat first | exact HLe.refl _ | refine HLe.cons (by simp only [hget, Nat.reduceEqDiff, reduceIte, ↓reduceIte] <;> rfl) ?_ | refine HLe.skip hnm (by omega) ?_ | refine HLe.frz hnm (by omega) ?_ | refine HLe.del hnm (by omega) ?_))
      · have c2 : decide (((encD a).length : Int) ≤ ((encD b).length : Int)) = false := decide_eq_false (by omega)
        simp (maxSteps := 4000000) only [icWireForms, go_rgn, rgnK_def, goD_nil, goD_u, contD_some, goD_call, callD_clo, kD_app, goD_g, gD_T, gD_F, gD_U, gK_U, evI_true, evI_false, bareK_some, go_seq, go_ops, go_cond, go_block, go_skip, go_tr, trim_def, trim_nil, trim_cons, fget_nil, go_ret, go_exit, den_nil, den_seq, den_seq_ret, den_seq_ext, den_blk, den_blk_ret, den_blk_ext, den_lp, den_lp_ret, den_lp_ext, goO_nil, goO_u, noCall, contK_some, goO_slc, goO_mif, preF, preP, prePt, prePd, frzP, noSp, D.isNil, goO_nlq, nlqK_some, evNlq, goO_g, gK_T, gK_F, skipD_some, skipD_none, goO_call, goO_callf, frzK_def, callK_clo, kO_app, condK_ite, iteT, iteF, put_def, sput_def, ev, frOf, fget_cons, oget, ogets, argSs, argS, evMm, frzL, evBin, evWrp, evShf, evCmp, evUna, evNil, evBeq, evLd, evSt, evFad, evIad, evAad, evLen, evSln, evEls, evApp, evParts, evSlc, evNlc, evMif, evPck, evFld, evBld, evTas, evIfq, evSeq, evSl0, evBxf, List.set_cons_zero, List.set_cons_succ, List.set_nil, List.flatten_cons, List.flatten_nil, List.getD_cons_zero, List.getD_cons_succ, List.contains_cons,  hget, hset, hdel, cellAt, arrAt, setCellAt, setArrAt, takeC, lenC, svCells, SV.okc, SV.one, ldSV, Fw.isAgg, Nat.reduceMul, Nat.reduceSub, Nat.reduceLeDiff, Nat.lt_irrefl, Nat.not_lt_zero, Nat.reduceLT, Nat.add_eq_left, Nat.left_eq_add, List.nil_append, List.length_cons, List.length_nil, List.append_nil, List.cons_append, Nat.zero_lt_one, Bool.false_eq_true, Bool.not_true, Bool.not_false, eq_self, Option.map_some, Option.map_none, true_imp_iff, false_imp_iff, implies_true, Bool.true_eq_false, explode, explodeL, toD, toDL, toD1, Ty.size, Ty.sizeL, frz1, Fr.sub, Heap.sub, Tok.sub, SV.sub, SV.subL, add_def, Nat.reduceEqDiff, Nat.reduceAdd, Nat.zero_add, reduceCtorEq, ↓reduceIte, and_self, and_true, true_and, reduceIte, spFirst, spNumber, spPut, spBytes, spNewReader, spNum, spRErr, spRAt, spPlaced, spSame, spSameB, fA, rdTok_def, rdL_c, rdA_c, rdE_c, rdOk_c, list_l, d1, d2, d3, hm, hm2, z11, hf, hS, hT, hF, hR, n103, decide_false, z00, beq_self_eq_true, Bool.and_self, Nat.zero_le, c1, c2]
        rw [hT', min_i64, max_i64]
        repeat (refine ⟨by omega, ?_⟩)
        exact fin _ _ (by ((try simp only []); repeat first | exact HLe.refl _ | refine HLe.cons (by simp only [hget, Nat.reduceEqDiff, reduceIte, ↓reduceIte] <;> rfl) ?_ | refine HLe.skip hnm (by omega) ?_ | refine HLe.frz hnm (by omega) ?_ | refine HLe.del hnm (by omega) ?_))
  · exact hsp.elim
end Go.Proofs.YthkpajefghmnaaaDoor
