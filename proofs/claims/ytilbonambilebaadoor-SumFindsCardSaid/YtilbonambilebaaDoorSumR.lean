/- The document's sums come to the same. -/
import Derived.Test.YtilbonambilebaaDoorSumE
namespace Go.Proofs.YtilbonambilebaaDoor
set_option linter.unusedVariables false
set_option linter.unusedSimpArgs false
open Go Go.Fw Go.Crc

theorem stn_succ (n : Nat) (x : W32) : stn (n + 1) x = st1 (stn n x) := rfl
theorem stn_8 (x : W32) : stn 8 x = st8 x := rfl
theorem shr1 (x : W32) : (toI x).fdiv (2 ^ min (Int.toNat 1) IntKind.u32.bits) = toI (x >>> 1) := shr32 x 1 (by omega)
theorem and1 (x : W32) : bitI .and .u32 (toI x) 1 = toI (x &&& 1#32) := by rw [and32, ofI_toI]; rfl
theorem xorp (x : W32) : bitI .xor .u32 (toI x) 3988292384 = toI (x ^^^ poly) := by rw [xor32, ofI_toI]; rfl
theorem st1_odd {x : W32} (h : toI (x &&& 1#32) = 1) : st1 x = (x >>> 1) ^^^ poly := by
  rw [st1_if]
  have := and_one x
  split
  · rfl
  · rename_i hb
    rw [if_neg hb] at this
    rw [this] at h
    simp [toI] at h
theorem st1_evn {x : W32} (h : toI (x &&& 1#32) ≠ 1) : st1 x = x >>> 1 := by
  rw [st1_if]
  have := and_one x
  split
  · rename_i hb
    rw [if_pos hb] at this
    rw [this] at h
    simp [toI] at h
  · simp

def WRAdd : Opts := mkWE 37 [] [] [] 60 [] []
def icRAdd : IC := (.seq (.seq (.ops [(.u (.mov 4 (.c (.int .u32 0))))]) (.tr [0, 1])) (.seq (.seq (.ops [(.u (.mov 8 (.s 0))), (.u (.una 9 .xor (.s 8))), (.u (.mov 5 (.s 9)))]) (.tr [1, 5])) (.seq (.seq (.seq (.ops [(.u (.mov 6 (.c (.int .i64 0))))]) (.tr [1, 6, 5])) (.block 0 (.loop (.seq (.seq (.seq (.ops [(.u (.mov 10 (.s 6))), (.u (.mov 11 (.s 1))), (.u (.len 12 false (.s 11))), (.u (.cmp 13 .lss (.s 10) (.s 12)))]) (.tr [13, 6, 1, 5])) (.cond (.s 13) .skip (.exit 0))) (.seq (.block 1 (.seq (.seq (.ops [(.u (.mov 16 (.s 5))), (.u (.mov 17 (.s 1))), (.u (.mov 18 (.s 6))), (.u (.iad 19 5 (.int .u8) (.s 17) (.s 18))), (.u (.ld 20 (.int .u8) (.s 19))), (.u (.cnv 21 .u32 (.s 20))), (.u (.bin 22 .xor .u32 (.s 16) (.s 21))), (.u (.mov 5 (.s 22)))]) (.tr [6, 1, 5])) (.seq (.seq (.ops [(.u (.mov 7 (.c (.int .i64 0))))]) (.tr [7, 6, 1, 5])) (.block 2 (.loop (.seq (.seq (.seq (.ops [(.u (.mov 23 (.s 7))), (.u (.cmp 24 .lss (.s 23) (.c (.int .i64 8))))]) (.tr [24, 7, 6, 1, 5])) (.cond (.s 24) .skip (.exit 2))) (.seq (.block 3 (.seq (.seq (.ops [(.u (.mov 27 (.s 5))), (.u (.bin 28 .and .u32 (.s 27) (.c (.int .u32 1)))), (.u (.cmp 29 .eql (.s 28) (.c (.int .u32 1))))]) (.tr [29, 5, 7, 6, 1])) (.cond (.s 29) (.seq (.ops [(.u (.mov 30 (.s 5))), (.u (.shf 31 .shr .u32 (.s 30) (.c (.int .u64 1)))), (.u (.bin 32 .xor .u32 (.s 31) (.c (.int .u32 3988292384)))), (.u (.mov 5 (.s 32)))]) (.tr [7, 6, 1, 5])) (.seq (.ops [(.u (.mov 33 (.s 5))), (.u (.shf 34 .shr .u32 (.s 33) (.c (.int .u64 1)))), (.u (.mov 5 (.s 34)))]) (.tr [7, 6, 1, 5]))))) (.seq (.ops [(.u (.mov 25 (.s 7))), (.u (.bin 26 .add .i64 (.s 25) (.c (.int .i64 1)))), (.u (.mov 7 (.s 26)))]) (.tr [7, 6, 1, 5]))))))))) (.seq (.ops [(.u (.mov 14 (.s 6))), (.u (.bin 15 .add .i64 (.s 14) (.c (.int .i64 1)))), (.u (.mov 6 (.s 15)))]) (.tr [1, 6, 5]))))))) (.seq (.seq (.ops [(.u (.mov 35 (.s 5))), (.u (.una 36 .xor (.s 35))), (.u (.mov 4 (.s 36)))]) (.tr [4])) .ret))))
def rsRAdd : List RV := [(.t 4)]
theorem irRAdd : fnIR Tryd.prog WRAdd 13 = some (icRAdd, rsRAdd) := by kernel_rfl
set_option maxHeartbeats 1000000 in
theorem vRAdd {E : Nat → Value} (hE : Errs2 Tryd.prog (some 60) E) : Valid Tryd.prog E (gs []) 13 spAdd := by
  refine valid_go (W := WRAdd) hE allValid_bot irRAdd (by decide) (fun args h nx K hsp hok hnm => ?_)
  unfold spAdd at hsp
  split at hsp
  · rename_i s d
    refine ⟨by simp [WRAdd, mkW, mkWE], fun Q hQ => ?_⟩
    obtain ⟨hs, hd, _⟩ := hok
    simp only [SV.ok] at hs hd
    simp only [min_u32, max_u32] at hs
    obtain ⟨hd1, hd2, hd3⟩ := Wt.slice hd
    generalize d.l = l at hsp hd1 hd2 hd3
    subst hd1
    simp only [icRAdd, go_rgn, rgnK_def, goD_nil, goD_u, contD_some, goD_call, callD_clo, kD_app, goD_g, gD_T, gD_F, evI_true, evI_false, bareK_some, go_seq, go_ops, go_cond, go_block, go_skip, go_tr, trim_def, trim_nil, trim_cons, fget_nil, go_ret, go_exit, den_nil, den_seq, den_seq_ret, den_seq_ext, den_blk, den_blk_ret, den_blk_ext, den_lp, den_lp_ret, den_lp_ext, goO_nil, goO_u, noCall, contK_some, goO_slc, goO_mif, preF, preP, prePt, prePd, frzP, noSp, D.isNil, goO_nlq, nlqK_some, evNlq, goO_g, gK_T, gK_F, skipD_some, skipD_none, goO_call, goO_callf, frzK_def, callK_clo, kO_app, condK_ite, iteT, iteF, put_def, sput_def, ev, frOf, fget_cons, oget, ogets, argSs, argS, evMm, frzL, evBin, evWrp, evShf, evCmp, evUna, evNil, evBeq, evLd, evSt, evFad, evIad, evAad, evLen, evSln, evEls, evApp, evParts, evSlc, evNlc, evMif, evPck, evFld, evBld, evTas, evIfq, evSeq, evSl0, evBxf, List.set_cons_zero, List.set_cons_succ, List.set_nil, List.flatten_cons, List.flatten_nil, List.getD_cons_zero, List.getD_cons_succ, List.contains_cons,  hget, hset, hdel, cellAt, arrAt, setCellAt, setArrAt, takeC, lenC, svCells, SV.okc, SV.one, ldSV, Fw.isAgg, Nat.reduceMul, Nat.reduceSub, Nat.reduceLeDiff, Nat.lt_irrefl, Nat.not_lt_zero, Nat.reduceLT, Nat.add_eq_left, Nat.left_eq_add, List.nil_append, List.length_cons, List.length_nil, List.append_nil, List.cons_append, Nat.zero_lt_one, Bool.false_eq_true, Bool.not_true, Bool.not_false, eq_self, Option.map_some, Option.map_none, true_imp_iff, false_imp_iff, implies_true, Bool.true_eq_false, explode, explodeL, toD, toDL, toD1, Ty.size, Ty.sizeL, frz1, Fr.sub, Heap.sub, Tok.sub, SV.sub, SV.subL, add_def, Nat.reduceEqDiff, Nat.reduceAdd, Nat.zero_add, reduceCtorEq, ↓reduceIte, and_self, and_true, true_and, reduceIte, list_l]
    have hml : maxLen ≤ 9223372036854775807 := by decide
    refine go_loop (α := { i : Nat // i ≤ l.length }) (I := fun i => { f := [(6, .int .i64 i.1), (5, .int .u32 (toI (crc (~~~ ofI s) (l.take i.1)))), (1, .dat (.slice 5) (.list l))], h := h, nx := nx }) (μ := fun i => l.length - i.1) _ _ _ ⟨0, by omega⟩ ?_ (fun i B hB => ?_)
    · refine leq_id ?_ (by (simp only [frLt_cons, frLt_nil, and_true, SV.lt, SV.ltL, true_and] <;> omega)) (by ((try simp only []); repeat first | exact HLe.refl _ | refine HLe.cons (by simp only [hget, Nat.reduceEqDiff, reduceIte, ↓reduceIte] <;> rfl) ?_ | refine HLe.skip hnm (by omega) ?_ | refine HLe.frz hnm (by omega) ?_ | refine HLe.del hnm (by omega) ?_)) (by (repeat first | exact HLt.mono hnm (by simp only [] <;> omega) | refine HLt.cons (by simp only [] <;> omega) (by simp only [Tok.lt, SV.ltL, SV.lt, and_true, true_and] <;> omega) ?_)) (by simp only [] <;> omega)
      simp only [frEq_cons, frEq_nil, frIn_cons, frIn_nil, and_true, fget_cons, Nat.reduceEqDiff, reduceIte, ↓reduceIte, true_and, SV.ren, SV.renL, ren1]
      refine ⟨rfl, ?_⟩
      have : s = toI (ofI s) := (toI_ofI hs.1 hs.2).symm
      show SV.int .u32 (bitI .xor .u32 4294967295 s) = _
      rw [this, not32, ofI_toI]
      rfl
    · obtain ⟨i, hi⟩ := i
      simp only [go_rgn, rgnK_def, goD_nil, goD_u, contD_some, goD_call, callD_clo, kD_app, goD_g, gD_T, gD_F, evI_true, evI_false, bareK_some, go_seq, go_ops, go_cond, go_block, go_skip, go_tr, trim_def, trim_nil, trim_cons, fget_nil, go_ret, go_exit, den_nil, den_seq, den_seq_ret, den_seq_ext, den_blk, den_blk_ret, den_blk_ext, den_lp, den_lp_ret, den_lp_ext, goO_nil, goO_u, noCall, contK_some, goO_slc, goO_mif, preF, preP, prePt, prePd, frzP, noSp, D.isNil, goO_nlq, nlqK_some, evNlq, goO_g, gK_T, gK_F, skipD_some, skipD_none, goO_call, goO_callf, frzK_def, callK_clo, kO_app, condK_ite, iteT, iteF, put_def, sput_def, ev, frOf, fget_cons, oget, ogets, argSs, argS, evMm, frzL, evBin, evWrp, evShf, evCmp, evUna, evNil, evBeq, evLd, evSt, evFad, evIad, evAad, evLen, evSln, evEls, evApp, evParts, evSlc, evNlc, evMif, evPck, evFld, evBld, evTas, evIfq, evSeq, evSl0, evBxf, List.set_cons_zero, List.set_cons_succ, List.set_nil, List.flatten_cons, List.flatten_nil, List.getD_cons_zero, List.getD_cons_succ, List.contains_cons,  hget, hset, hdel, cellAt, arrAt, setCellAt, setArrAt, takeC, lenC, svCells, SV.okc, SV.one, ldSV, Fw.isAgg, Nat.reduceMul, Nat.reduceSub, Nat.reduceLeDiff, Nat.lt_irrefl, Nat.not_lt_zero, Nat.reduceLT, Nat.add_eq_left, Nat.left_eq_add, List.nil_append, List.length_cons, List.length_nil, List.append_nil, List.cons_append, Nat.zero_lt_one, Bool.false_eq_true, Bool.not_true, Bool.not_false, eq_self, Option.map_some, Option.map_none, true_imp_iff, false_imp_iff, implies_true, Bool.true_eq_false, explode, explodeL, toD, toDL, toD1, Ty.size, Ty.sizeL, frz1, Fr.sub, Heap.sub, Tok.sub, SV.sub, SV.subL, add_def, Nat.reduceEqDiff, Nat.reduceAdd, Nat.zero_add, reduceCtorEq, ↓reduceIte, and_self, and_true, true_and, reduceIte, list_l]
      refine ⟨fun hc => ?_, fun hc => ?_⟩
      · have hi' : i < l.length := by have := of_decide_eq_true hc; omega
        simp only [list_l, Int.toNat_natCast, xorw, int_i]
        refine ⟨⟨by omega, by omega⟩, ?_⟩
        refine go_loop (α := { k : Nat // k ≤ 8 }) (I := fun k => { f := [(7, .int .i64 k.1), (5, .int .u32 (toI (stn k.1 (crc (~~~ ofI s) (l.take i) ^^^ BitVec.ofInt 32 (l.getD i .nil).i)))), (6, .int .i64 i), (1, .dat (.slice 5) (.list l))], h := h, nx := nx }) (μ := fun k => 8 - k.1) _ _ _ ⟨0, by omega⟩ ?_ (fun k B' hB' => ?_)
        · refine leq_id ?_ (by (simp only [frLt_cons, frLt_nil, and_true, SV.lt, SV.ltL, true_and] <;> omega)) (by ((try simp only []); repeat first | exact HLe.refl _ | refine HLe.cons (by simp only [hget, Nat.reduceEqDiff, reduceIte, ↓reduceIte] <;> rfl) ?_ | refine HLe.skip hnm (by omega) ?_ | refine HLe.frz hnm (by omega) ?_ | refine HLe.del hnm (by omega) ?_)) (by (repeat first | exact HLt.mono hnm (by simp only [] <;> omega) | refine HLt.cons (by simp only [] <;> omega) (by simp only [Tok.lt, SV.ltL, SV.lt, and_true, true_and] <;> omega) ?_)) (by simp only [] <;> omega)
          simp only [frEq_cons, frEq_nil, frIn_cons, frIn_nil, and_true, fget_cons, Nat.reduceEqDiff, reduceIte, ↓reduceIte, true_and, SV.ren, SV.renL, ren1]
          exact ⟨rfl, rfl⟩
        · obtain ⟨k, hk⟩ := k
          simp only [go_rgn, rgnK_def, goD_nil, goD_u, contD_some, goD_call, callD_clo, kD_app, goD_g, gD_T, gD_F, evI_true, evI_false, bareK_some, go_seq, go_ops, go_cond, go_block, go_skip, go_tr, trim_def, trim_nil, trim_cons, fget_nil, go_ret, go_exit, den_nil, den_seq, den_seq_ret, den_seq_ext, den_blk, den_blk_ret, den_blk_ext, den_lp, den_lp_ret, den_lp_ext, goO_nil, goO_u, noCall, contK_some, goO_slc, goO_mif, preF, preP, prePt, prePd, frzP, noSp, D.isNil, goO_nlq, nlqK_some, evNlq, goO_g, gK_T, gK_F, skipD_some, skipD_none, goO_call, goO_callf, frzK_def, callK_clo, kO_app, condK_ite, iteT, iteF, put_def, sput_def, ev, frOf, fget_cons, oget, ogets, argSs, argS, evMm, frzL, evBin, evWrp, evShf, evCmp, evUna, evNil, evBeq, evLd, evSt, evFad, evIad, evAad, evLen, evSln, evEls, evApp, evParts, evSlc, evNlc, evMif, evPck, evFld, evBld, evTas, evIfq, evSeq, evSl0, evBxf, List.set_cons_zero, List.set_cons_succ, List.set_nil, List.flatten_cons, List.flatten_nil, List.getD_cons_zero, List.getD_cons_succ, List.contains_cons,  hget, hset, hdel, cellAt, arrAt, setCellAt, setArrAt, takeC, lenC, svCells, SV.okc, SV.one, ldSV, Fw.isAgg, Nat.reduceMul, Nat.reduceSub, Nat.reduceLeDiff, Nat.lt_irrefl, Nat.not_lt_zero, Nat.reduceLT, Nat.add_eq_left, Nat.left_eq_add, List.nil_append, List.length_cons, List.length_nil, List.append_nil, List.cons_append, Nat.zero_lt_one, Bool.false_eq_true, Bool.not_true, Bool.not_false, eq_self, Option.map_some, Option.map_none, true_imp_iff, false_imp_iff, implies_true, Bool.true_eq_false, explode, explodeL, toD, toDL, toD1, Ty.size, Ty.sizeL, frz1, Fr.sub, Heap.sub, Tok.sub, SV.sub, SV.subL, add_def, Nat.reduceEqDiff, Nat.reduceAdd, Nat.zero_add, reduceCtorEq, ↓reduceIte, and_self, and_true, true_and, reduceIte, list_l]
          refine ⟨fun hc' => ?_, fun hc' => ?_⟩
          · have hk8 : k < 8 := by have := of_decide_eq_true hc'; omega
            simp only [and1, shr1, xorp]
            refine ⟨fun h1 => ⟨by omega, ⟨by rw [min_i64]; omega, by rw [max_i64]; omega⟩, hB' _ ⟨k + 1, by omega⟩ (by simp only []; omega) ?_⟩, fun h1 => ⟨by omega, ⟨by rw [min_i64]; omega, by rw [max_i64]; omega⟩, hB' _ ⟨k + 1, by omega⟩ (by simp only []; omega) ?_⟩⟩
            · refine leq_id ?_ (by (simp only [frLt_cons, frLt_nil, and_true, SV.lt, SV.ltL, true_and] <;> omega)) (by ((try simp only []); repeat first | exact HLe.refl _ | refine HLe.cons (by simp only [hget, Nat.reduceEqDiff, reduceIte, ↓reduceIte] <;> rfl) ?_ | refine HLe.skip hnm (by omega) ?_ | refine HLe.frz hnm (by omega) ?_ | refine HLe.del hnm (by omega) ?_)) (by (repeat first | exact HLt.mono hnm (by simp only [] <;> omega) | refine HLt.cons (by simp only [] <;> omega) (by simp only [Tok.lt, SV.ltL, SV.lt, and_true, true_and] <;> omega) ?_)) (by simp only [] <;> omega)
              simp only [frEq_cons, frEq_nil, frIn_cons, frIn_nil, and_true, fget_cons, Nat.reduceEqDiff, reduceIte, ↓reduceIte, true_and, SV.ren, SV.renL, ren1]
              refine ⟨by simp, ?_⟩
              rw [stn_succ, st1_odd (by simpa using h1)]
            · refine leq_id ?_ (by (simp only [frLt_cons, frLt_nil, and_true, SV.lt, SV.ltL, true_and] <;> omega)) (by ((try simp only []); repeat first | exact HLe.refl _ | refine HLe.cons (by simp only [hget, Nat.reduceEqDiff, reduceIte, ↓reduceIte] <;> rfl) ?_ | refine HLe.skip hnm (by omega) ?_ | refine HLe.frz hnm (by omega) ?_ | refine HLe.del hnm (by omega) ?_)) (by (repeat first | exact HLt.mono hnm (by simp only [] <;> omega) | refine HLt.cons (by simp only [] <;> omega) (by simp only [Tok.lt, SV.ltL, SV.lt, and_true, true_and] <;> omega) ?_)) (by simp only [] <;> omega)
              simp only [frEq_cons, frEq_nil, frIn_cons, frIn_nil, and_true, fget_cons, Nat.reduceEqDiff, reduceIte, ↓reduceIte, true_and, SV.ren, SV.renL, ren1]
              refine ⟨by simp, ?_⟩
              rw [stn_succ, st1_evn (by simpa using h1)]
          · have e8 : k = 8 := by have := of_decide_eq_false hc'; omega
            subst e8
            refine ⟨⟨by rw [min_i64]; omega, by rw [max_i64]; omega⟩, hB _ ⟨i + 1, by omega⟩ (by simp only []; omega) ?_⟩
            refine leq_id ?_ (by (simp only [frLt_cons, frLt_nil, and_true, SV.lt, SV.ltL, true_and] <;> omega)) (by ((try simp only []); repeat first | exact HLe.refl _ | refine HLe.cons (by simp only [hget, Nat.reduceEqDiff, reduceIte, ↓reduceIte] <;> rfl) ?_ | refine HLe.skip hnm (by omega) ?_ | refine HLe.frz hnm (by omega) ?_ | refine HLe.del hnm (by omega) ?_)) (by (repeat first | exact HLt.mono hnm (by simp only [] <;> omega) | refine HLt.cons (by simp only [] <;> omega) (by simp only [Tok.lt, SV.ltL, SV.lt, and_true, true_and] <;> omega) ?_)) (by simp only [] <;> omega)
            simp only [frEq_cons, frEq_nil, frIn_cons, frIn_nil, and_true, fget_cons, Nat.reduceEqDiff, reduceIte, ↓reduceIte, true_and, SV.ren, SV.renL, ren1]
            refine ⟨by simp, ?_⟩
            rw [crc_take _ _ _ hi', stn_8]; rfl
      · have e : i = l.length := by have := of_decide_eq_false hc; omega
        subst e
        refine (hQ _ (fin_t (.int .u32 (toI (Crc.add (ofI s) l))) ?_ rfl hnm (by ((try simp only []); repeat first | exact HLe.refl _ | refine HLe.cons (by simp only [hget, Nat.reduceEqDiff, reduceIte, ↓reduceIte] <;> rfl) ?_ | refine HLe.skip hnm (by omega) ?_ | refine HLe.frz hnm (by omega) ?_ | refine HLe.del hnm (by omega) ?_)) hsp)).1
        simp only [fget_cons, reduceIte, ↓reduceIte, Nat.reduceEqDiff]
        show SV.int .u32 (bitI .xor .u32 4294967295 _) = _
        rw [List.take_length, not32]
        rfl
  · exact hsp.elim

def WRSum : Opts := mkWE 5 [] [] [] 60 [] []
def icRSum : IC := (.seq (.seq (.ops [(.u (.mov 2 (.c (.int .u32 0))))]) (.tr [0])) (.seq (.seq (.ops [(.u (.mov 3 (.s 0))), (.u (.call 4 (.c (.clo 13 [])) [(.c (.int .u32 0)), (.s 3)] [none, (some 5)] true)), (.u (.mov 2 (.s 4)))]) (.tr [2])) .ret))
def rsRSum : List RV := [(.t 2)]
theorem irRSum : fnIR Tryd.prog WRSum 11 = some (icRSum, rsRSum) := by kernel_rfl
theorem vRSum {E : Nat → Value} (hE : Errs2 Tryd.prog (some 60) E) : Valid Tryd.prog E (gs []) 11 spOf := by
  refine valid_go (W := WRSum) hE (allValid_bot.add (vRAdd hE)) irRSum (by decide) (fun args h nx K hsp hok hnm => ?_)
  unfold spOf at hsp
  split at hsp
  · rename_i d
    refine ⟨by simp [WRSum, mkW, mkWE], fun Q hQ => ?_⟩
    simp only [icRSum, go_rgn, rgnK_def, goD_nil, goD_u, contD_some, goD_call, callD_clo, kD_app, goD_g, gD_T, gD_F, evI_true, evI_false, bareK_some, go_seq, go_ops, go_cond, go_block, go_skip, go_tr, trim_def, trim_nil, trim_cons, fget_nil, go_ret, go_exit, den_nil, den_seq, den_seq_ret, den_seq_ext, den_blk, den_blk_ret, den_blk_ext, den_lp, den_lp_ret, den_lp_ext, goO_nil, goO_u, noCall, contK_some, goO_slc, goO_mif, preF, preP, prePt, prePd, frzP, noSp, D.isNil, goO_nlq, nlqK_some, evNlq, goO_g, gK_T, gK_F, skipD_some, skipD_none, goO_call, goO_callf, frzK_def, callK_clo, kO_app, condK_ite, iteT, iteF, put_def, sput_def, ev, frOf, fget_cons, oget, ogets, argSs, argS, evMm, frzL, evBin, evWrp, evShf, evCmp, evUna, evNil, evBeq, evLd, evSt, evFad, evIad, evAad, evLen, evSln, evEls, evApp, evParts, evSlc, evNlc, evMif, evPck, evFld, evBld, evTas, evIfq, evSeq, evSl0, evBxf, List.set_cons_zero, List.set_cons_succ, List.set_nil, List.flatten_cons, List.flatten_nil, List.getD_cons_zero, List.getD_cons_succ, List.contains_cons,  hget, hset, hdel, cellAt, arrAt, setCellAt, setArrAt, takeC, lenC, svCells, SV.okc, SV.one, ldSV, Fw.isAgg, Nat.reduceMul, Nat.reduceSub, Nat.reduceLeDiff, Nat.lt_irrefl, Nat.not_lt_zero, Nat.reduceLT, Nat.add_eq_left, Nat.left_eq_add, List.nil_append, List.length_cons, List.length_nil, List.append_nil, List.cons_append, Nat.zero_lt_one, Bool.false_eq_true, Bool.not_true, Bool.not_false, eq_self, Option.map_some, Option.map_none, true_imp_iff, false_imp_iff, implies_true, Bool.true_eq_false, explode, explodeL, toD, toDL, toD1, Ty.size, Ty.sizeL, frz1, Fr.sub, Heap.sub, Tok.sub, SV.sub, SV.subL, add_def, Nat.reduceEqDiff, Nat.reduceAdd, Nat.zero_add, reduceCtorEq, ↓reduceIte, and_self, and_true, true_and, reduceIte, spAdd]
    exact (hQ _ (fin_t (.int .u32 (toI (Crc.add 0#32 d.l))) rfl rfl hnm (by ((try simp only []); repeat first | exact HLe.refl _ | refine HLe.cons (by simp only [hget, Nat.reduceEqDiff, reduceIte, ↓reduceIte] <;> rfl) ?_ | refine HLe.skip hnm (by omega) ?_ | refine HLe.frz hnm (by omega) ?_ | refine HLe.del hnm (by omega) ?_)) hsp)).1
  · exact hsp.elim

def WRSeal : Opts := mkWE 21 [] [] [] 60 [] []
def icRSeal : IC := (.seq (.seq (.ops [(.u (.mov 2 (.c .nils)))]) (.tr [0])) (.seq (.seq (.ops [(.u (.mov 4 (.s 0))), (.u (.call 5 (.c (.clo 11 [])) [(.s 4)] [(some 5)] true)), (.u (.mov 3 (.s 5)))]) (.tr [0, 3])) (.seq (.seq (.ops [(.u (.mov 6 (.s 0))), (.u (.call 7 (.c (.clo 18 [])) [(.s 6)] [(some 5)] true)), (.u (.mov 8 (.s 3))), (.u (.cnv 9 .u8 (.s 8))), (.u (.mov 10 (.s 3))), (.u (.shf 11 .shr .u32 (.s 10) (.c (.int .u64 8)))), (.u (.cnv 12 .u8 (.s 11))), (.u (.mov 13 (.s 3))), (.u (.shf 14 .shr .u32 (.s 13) (.c (.int .u64 16)))), (.u (.cnv 15 .u8 (.s 14))), (.u (.mov 16 (.s 3))), (.u (.shf 17 .shr .u32 (.s 16) (.c (.int .u64 24)))), (.u (.cnv 18 .u8 (.s 17))), (.u (.bsl 19 5 (.int .u8) [(.s 9), (.s 12), (.s 15), (.s 18)])), (.u (.app 20 5 (.int .u8) 1 (.s 7) (.s 19))), (.u (.mov 2 (.s 20)))]) (.tr [2])) .ret)))
def rsRSeal : List RV := [(.t 2)]
theorem irRSeal : fnIR Tryd.prog WRSeal 15 = some (icRSeal, rsRSeal) := by kernel_rfl
set_option maxHeartbeats 400000 in
theorem vRSeal {E : Nat → Value} (hE : Errs2 Tryd.prog (some 60) E) : Valid Tryd.prog E (gs []) 15 spSeal := by
  refine valid_go (W := WRSeal) hE ((allValid_bot.add (vRSum hE)).add (vBytes hE)) irRSeal (by decide) (fun args h nx K hsp hok hnm => ?_)
  unfold spSeal at hsp
  split at hsp
  · rename_i d
    obtain ⟨hlen, hsp⟩ := hsp
    refine ⟨by simp [WRSeal, mkW, mkWE], fun Q hQ => ?_⟩
    simp only [icRSeal, go_rgn, rgnK_def, goD_nil, goD_u, contD_some, goD_call, callD_clo, kD_app, goD_g, gD_T, gD_F, evI_true, evI_false, bareK_some, go_seq, go_ops, go_cond, go_block, go_skip, go_tr, trim_def, trim_nil, trim_cons, fget_nil, go_ret, go_exit, den_nil, den_seq, den_seq_ret, den_seq_ext, den_blk, den_blk_ret, den_blk_ext, den_lp, den_lp_ret, den_lp_ext, goO_nil, goO_u, noCall, contK_some, goO_slc, goO_mif, preF, preP, prePt, prePd, frzP, noSp, D.isNil, goO_nlq, nlqK_some, evNlq, goO_g, gK_T, gK_F, skipD_some, skipD_none, goO_call, goO_callf, frzK_def, callK_clo, kO_app, condK_ite, iteT, iteF, put_def, sput_def, ev, frOf, fget_cons, oget, ogets, argSs, argS, evMm, frzL, evBin, evWrp, evShf, evCmp, evUna, evNil, evBeq, evLd, evSt, evFad, evIad, evAad, evLen, evSln, evEls, evApp, evParts, evSlc, evNlc, evMif, evPck, evFld, evBld, evTas, evIfq, evSeq, evSl0, evBxf, List.set_cons_zero, List.set_cons_succ, List.set_nil, List.flatten_cons, List.flatten_nil, List.getD_cons_zero, List.getD_cons_succ, List.contains_cons,  hget, hset, hdel, cellAt, arrAt, setCellAt, setArrAt, takeC, lenC, svCells, SV.okc, SV.one, ldSV, Fw.isAgg, Nat.reduceMul, Nat.reduceSub, Nat.reduceLeDiff, Nat.lt_irrefl, Nat.not_lt_zero, Nat.reduceLT, Nat.add_eq_left, Nat.left_eq_add, List.nil_append, List.length_cons, List.length_nil, List.append_nil, List.cons_append, Nat.zero_lt_one, Bool.false_eq_true, Bool.not_true, Bool.not_false, eq_self, Option.map_some, Option.map_none, true_imp_iff, false_imp_iff, implies_true, Bool.true_eq_false, explode, explodeL, toD, toDL, toD1, Ty.size, Ty.sizeL, frz1, Fr.sub, Heap.sub, Tok.sub, SV.sub, SV.subL, add_def, Nat.reduceEqDiff, Nat.reduceAdd, Nat.zero_add, reduceCtorEq, ↓reduceIte, and_self, and_true, true_and, reduceIte, spOf, spBytes, List.length_append]
    refine ⟨by omega, by omega, by omega, by omega, by omega, (hQ _ (fin_vec rfl (by simp only [hget, ↓reduceIte]; rfl) (by omega) hnm (by ((try simp only []); repeat first | exact HLe.refl _ | refine HLe.cons (by simp only [hget, Nat.reduceEqDiff, reduceIte, ↓reduceIte] <;> rfl) ?_ | refine HLe.skip hnm (by omega) ?_ | refine HLe.frz hnm (by omega) ?_ | refine HLe.del hnm (by omega) ?_)) hsp)).1⟩
  · exact hsp.elim
end Go.Proofs.YtilbonambilebaaDoor
