/- Chapter 1's functions: what each of them comes to. -/
import Derived.Test.YtilbonambilebaaDoorBytes
import Derived.Test.YtilbonambilebaaDoorNum
import Derived.Test.YtilbonambilebaaDoorSumP
namespace Go.Proofs.YtilbonambilebaaDoor
set_option linter.unusedVariables false
set_option linter.unusedSimpArgs false
open Go Go.Fw Go.Crc

def WHalves : Opts := mkWE 24 [] [] [] 60 [] []
def icHalves : IC := (.seq (.seq (.ops [(.u (.alc 0 [(.arrc (.int .u32) [(.int 0), (.int 0), (.int 0), (.int 0), (.int 0), (.int 0), (.int 0), (.int 0), (.int 0), (.int 0), (.int 0), (.int 0), (.int 0), (.int 0), (.int 0), (.int 0)])]))]) (.tr [0])) (.seq (.seq (.ops [(.u (.alc 1 [(.arrc (.int .u32) [(.int 0), (.int 0), (.int 0), (.int 0), (.int 0), (.int 0), (.int 0), (.int 0), (.int 0), (.int 0), (.int 0), (.int 0), (.int 0), (.int 0), (.int 0), (.int 0)])]))]) (.tr [1, 0])) (.seq (.seq (.seq (.ops [(.u (.mov 4 (.c (.int .i64 0))))]) (.tr [4, 1, 0])) (.block 0 (.loop (.seq (.seq (.ops [(.u (.cmp 5 .lss (.s 4) (.c (.int .i64 16))))]) (.tr [5, 4, 1, 0])) (.seq (.cond (.s 5) .skip (.exit 0)) (.seq (.block 1 (.seq (.seq (.ops [(.u (.mov 6 (.s 4))), (.u (.mov 2 (.s 6)))]) (.tr [2, 4, 1, 0])) (.seq (.seq (.ops [(.u (.mov 7 (.s 2))), (.u (.cnv 8 .u32 (.s 7))), (.u (.mov 3 (.s 8)))]) (.tr [2, 3, 4, 1, 0])) (.seq (.seq (.seq (.ops [(.u (.mov 9 (.c (.int .i64 0))))]) (.tr [9, 2, 3, 4, 1, 0])) (.block 2 (.loop (.seq (.seq (.ops [(.u (.cmp 10 .lss (.s 9) (.c (.int .i64 4))))]) (.tr [10, 9, 2, 3, 4, 1, 0])) (.seq (.cond (.s 10) .skip (.exit 2)) (.seq (.block 3 (.seq (.ops [(.u (.mov 11 (.s 3))), (.u (.shf 12 .shr .u32 (.s 11) (.c (.int .u64 1)))), (.u (.mov 13 (.s 3))), (.u (.bin 14 .and .u32 (.s 13) (.c (.int .u32 1)))), (.u (.una 15 .neg (.s 14))), (.u (.bin 16 .and .u32 (.s 15) (.c (.int .u32 3988292384)))), (.u (.bin 17 .xor .u32 (.s 12) (.s 16))), (.u (.mov 3 (.s 17)))]) (.tr [9, 2, 3, 4, 1, 0]))) (.seq (.ops [(.u (.bin 18 .add .i64 (.s 9) (.c (.int .i64 1)))), (.u (.mov 9 (.s 18)))]) (.tr [9, 2, 3, 4, 1, 0])))))))) (.seq (.ops [(.u (.mov 19 (.s 2))), (.u (.mov 20 (.s 3))), (.u (.aad 21 16 (.int .u32) (.s 1) (.s 19))), (.u (.st (.int .u32) (.s 21) (.s 20)))]) (.tr [4, 1, 0])))))) (.seq (.ops [(.u (.bin 22 .add .i64 (.s 4) (.c (.int .i64 1)))), (.u (.mov 4 (.s 22)))]) (.tr [4, 1, 0])))))))) (.seq (.seq (.ops [(.u (.ld 23 (.arr 16 (.int .u32)) (.s 1))), (.u (.st (.arr 16 (.int .u32)) (.s 0) (.s 23)))]) (.tr [0])) .ret))))
def rsHalves : List RV := [(.c 0 (.arr 16 (.int .u32)))]
theorem irHalves : fnIR Tryd.prog WHalves 21 = some (icHalves, rsHalves) := by kernel_rfl
/-- The table, its first i places made. -/
def rowT (i : Nat) : List D := (List.range 16).map fun j => .int (if j < i then toI (st4 (BitVec.ofNat 32 j)) else 0)
def tab : List D := rowT 16
theorem rowT_set (i : Nat) (hi : i < 16) : (rowT i).set i (.int (toI (st4 (BitVec.ofNat 32 i)))) = rowT (i + 1) := by
  apply List.ext_getElem
  · simp [rowT]
  · intro n h1 h2
    simp only [rowT, List.getElem_set, List.getElem_map, List.getElem_range]
    by_cases e : i = n
    · subst e; simp
    · have : (n < i + 1) = (n < i) := by apply propext; omega
      simp only [e, if_false, this]
theorem rowT_len (i : Nat) : (rowT i).length = 16 := by simp [rowT]
def spHalves : FSpec := fun args h nx K => match args with
  | [] => K (.agg [.arrc (.int .u32) tab]) h
  | _ => False
set_option maxHeartbeats 400000 in
theorem vHalves {E : Nat → Value} (hE : Errs2 Tryd.prog (some 60) E) : Valid Tryd.prog E (gs []) 21 spHalves := by
  refine valid_go (W := WHalves) hE allValid_bot irHalves (by decide) (fun args h nx K hsp hok hnm => ?_)
  unfold spHalves at hsp
  split at hsp
  · refine ⟨by simp [WHalves, mkW, mkWE], fun Q hQ => ?_⟩
    simp only [icHalves, go_rgn, rgnK_def, goD_nil, goD_u, contD_some, goD_call, callD_clo, kD_app, goD_g, gD_T, gD_F, evI_true, evI_false, bareK_some, go_seq, go_ops, go_cond, go_block, go_skip, go_tr, trim_def, trim_nil, trim_cons, fget_nil, go_ret, go_exit, den_nil, den_seq, den_seq_ret, den_seq_ext, den_blk, den_blk_ret, den_blk_ext, den_lp, den_lp_ret, den_lp_ext, goO_nil, goO_u, noCall, contK_some, goO_slc, goO_mif, preF, preP, prePt, prePd, frzP, noSp, D.isNil, goO_nlq, nlqK_some, evNlq, goO_g, gK_T, gK_F, skipD_some, skipD_none, goO_call, goO_callf, frzK_def, callK_clo, kO_app, condK_ite, iteT, iteF, put_def, sput_def, ev, frOf, fget_cons, oget, ogets, argSs, argS, evMm, frzL, evBin, evWrp, evShf, evCmp, evUna, evNil, evBeq, evLd, evSt, evFad, evIad, evAad, evLen, evSln, evEls, evApp, evParts, evSlc, evNlc, evMif, evPck, evFld, evBld, evTas, evIfq, evSeq, evSl0, evBxf, List.set_cons_zero, List.set_cons_succ, List.set_nil, List.flatten_cons, List.flatten_nil, List.getD_cons_zero, List.getD_cons_succ, List.contains_cons,  hget, hset, hdel, cellAt, arrAt, setCellAt, setArrAt, takeC, lenC, svCells, SV.okc, SV.one, ldSV, Fw.isAgg, Nat.reduceMul, Nat.reduceSub, Nat.reduceLeDiff, Nat.lt_irrefl, Nat.not_lt_zero, Nat.reduceLT, Nat.add_eq_left, Nat.left_eq_add, List.nil_append, List.length_cons, List.length_nil, List.append_nil, List.cons_append, Nat.zero_lt_one, Bool.false_eq_true, Bool.not_true, Bool.not_false, eq_self, Option.map_some, Option.map_none, true_imp_iff, false_imp_iff, implies_true, Bool.true_eq_false, explode, explodeL, toD, toDL, toD1, Ty.size, Ty.sizeL, frz1, Fr.sub, Heap.sub, Tok.sub, SV.sub, SV.subL, add_def, Nat.reduceEqDiff, Nat.reduceAdd, Nat.zero_add, reduceCtorEq, ↓reduceIte, and_self, and_true, true_and, reduceIte]
    refine go_loop (α := { i : Nat // i ≤ 16 }) (I := fun i => { f := [(4, .int .i64 i.1), (1, .ptr (nx + 1) 0), (0, .ptr nx 0)], h := (nx + 1, .cells [.arrc (.int .u32) (rowT i.1)]) :: (nx, .cells [.arrc (.int .u32) (rowT 0)]) :: h, nx := nx + 2 }) (μ := fun i => 16 - i.1) _ _ _ ⟨0, by omega⟩ ?_ (fun i B hB => ?_)
    · refine leq_id ?_ ?_ ?_ ?_ ?_
      · simp only [frEq_cons, frEq_nil, frIn_cons, frIn_nil, and_true, fget_cons, Nat.reduceEqDiff, reduceIte, ↓reduceIte, true_and, SV.ren, SV.renL, ren1]
        rfl
      · (simp only [frLt_cons, frLt_nil, and_true, SV.lt, SV.ltL, true_and] <;> omega)
      · ((try simp only []); repeat first | exact HLe.refl _ | refine HLe.cons (by simp only [hget, Nat.reduceEqDiff, reduceIte, ↓reduceIte] <;> rfl) ?_ | refine HLe.skip hnm (by omega) ?_ | refine HLe.frz hnm (by omega) ?_ | refine HLe.del hnm (by omega) ?_)
      · (repeat first | exact HLt.mono hnm (by simp only [] <;> omega) | refine HLt.cons (by simp only [] <;> omega) (by simp only [Tok.lt, SV.ltL, SV.lt, and_true, true_and] <;> omega) ?_)
      · simp only [] <;> omega
    · obtain ⟨i, hi⟩ := i
      simp only [go_rgn, rgnK_def, goD_nil, goD_u, contD_some, goD_call, callD_clo, kD_app, goD_g, gD_T, gD_F, evI_true, evI_false, bareK_some, go_seq, go_ops, go_cond, go_block, go_skip, go_tr, trim_def, trim_nil, trim_cons, fget_nil, go_ret, go_exit, den_nil, den_seq, den_seq_ret, den_seq_ext, den_blk, den_blk_ret, den_blk_ext, den_lp, den_lp_ret, den_lp_ext, goO_nil, goO_u, noCall, contK_some, goO_slc, goO_mif, preF, preP, prePt, prePd, frzP, noSp, D.isNil, goO_nlq, nlqK_some, evNlq, goO_g, gK_T, gK_F, skipD_some, skipD_none, goO_call, goO_callf, frzK_def, callK_clo, kO_app, condK_ite, iteT, iteF, put_def, sput_def, ev, frOf, fget_cons, oget, ogets, argSs, argS, evMm, frzL, evBin, evWrp, evShf, evCmp, evUna, evNil, evBeq, evLd, evSt, evFad, evIad, evAad, evLen, evSln, evEls, evApp, evParts, evSlc, evNlc, evMif, evPck, evFld, evBld, evTas, evIfq, evSeq, evSl0, evBxf, List.set_cons_zero, List.set_cons_succ, List.set_nil, List.flatten_cons, List.flatten_nil, List.getD_cons_zero, List.getD_cons_succ, List.contains_cons,  hget, hset, hdel, cellAt, arrAt, setCellAt, setArrAt, takeC, lenC, svCells, SV.okc, SV.one, ldSV, Fw.isAgg, Nat.reduceMul, Nat.reduceSub, Nat.reduceLeDiff, Nat.lt_irrefl, Nat.not_lt_zero, Nat.reduceLT, Nat.add_eq_left, Nat.left_eq_add, List.nil_append, List.length_cons, List.length_nil, List.append_nil, List.cons_append, Nat.zero_lt_one, Bool.false_eq_true, Bool.not_true, Bool.not_false, eq_self, Option.map_some, Option.map_none, true_imp_iff, false_imp_iff, implies_true, Bool.true_eq_false, explode, explodeL, toD, toDL, toD1, Ty.size, Ty.sizeL, frz1, Fr.sub, Heap.sub, Tok.sub, SV.sub, SV.subL, add_def, Nat.reduceEqDiff, Nat.reduceAdd, Nat.zero_add, reduceCtorEq, ↓reduceIte, and_self, and_true, true_and, reduceIte, rowT_len]
      refine ⟨fun hc => ?_, fun hc => ?_⟩
      · have hi16 : i < 16 := by have := of_decide_eq_true hc; omega
        refine go_loop (α := { j : Nat // j ≤ 4 }) (I := fun j => { f := [(9, .int .i64 j.1), (3, .int .u32 (toI (stn j.1 (BitVec.ofNat 32 i)))), (2, .int .i64 i), (4, .int .i64 i), (1, .ptr (nx + 1) 0), (0, .ptr nx 0)], h := (nx + 1, .cells [.arrc (.int .u32) (rowT i)]) :: (nx, .cells [.arrc (.int .u32) (rowT 0)]) :: h, nx := nx + 2 }) (μ := fun j => 4 - j.1) _ _ _ ⟨0, by omega⟩ ?_ (fun j B' hB' => ?_)
        · refine leq_id ?_ (by (simp only [frLt_cons, frLt_nil, and_true, SV.lt, SV.ltL, true_and] <;> omega)) (by ((try simp only []); repeat first | exact HLe.refl _ | refine HLe.cons (by simp only [hget, Nat.reduceEqDiff, reduceIte, ↓reduceIte] <;> rfl) ?_ | refine HLe.skip hnm (by omega) ?_ | refine HLe.frz hnm (by omega) ?_ | refine HLe.del hnm (by omega) ?_)) (by (repeat first | exact HLt.mono hnm (by simp only [] <;> omega) | refine HLt.cons (by simp only [] <;> omega) (by simp only [Tok.lt, SV.ltL, SV.lt, and_true, true_and] <;> omega) ?_)) (by simp only [] <;> omega)
          simp only [frEq_cons, frEq_nil, frIn_cons, frIn_nil, and_true, fget_cons, Nat.reduceEqDiff, reduceIte, ↓reduceIte, true_and, SV.ren, SV.renL, ren1]
          exact ⟨rfl, congrArg _ (wrapNat i)⟩
        · obtain ⟨j, hj⟩ := j
          simp only [go_rgn, rgnK_def, goD_nil, goD_u, contD_some, goD_call, callD_clo, kD_app, goD_g, gD_T, gD_F, evI_true, evI_false, bareK_some, go_seq, go_ops, go_cond, go_block, go_skip, go_tr, trim_def, trim_nil, trim_cons, fget_nil, go_ret, go_exit, den_nil, den_seq, den_seq_ret, den_seq_ext, den_blk, den_blk_ret, den_blk_ext, den_lp, den_lp_ret, den_lp_ext, goO_nil, goO_u, noCall, contK_some, goO_slc, goO_mif, preF, preP, prePt, prePd, frzP, noSp, D.isNil, goO_nlq, nlqK_some, evNlq, goO_g, gK_T, gK_F, skipD_some, skipD_none, goO_call, goO_callf, frzK_def, callK_clo, kO_app, condK_ite, iteT, iteF, put_def, sput_def, ev, frOf, fget_cons, oget, ogets, argSs, argS, evMm, frzL, evBin, evWrp, evShf, evCmp, evUna, evNil, evBeq, evLd, evSt, evFad, evIad, evAad, evLen, evSln, evEls, evApp, evParts, evSlc, evNlc, evMif, evPck, evFld, evBld, evTas, evIfq, evSeq, evSl0, evBxf, List.set_cons_zero, List.set_cons_succ, List.set_nil, List.flatten_cons, List.flatten_nil, List.getD_cons_zero, List.getD_cons_succ, List.contains_cons,  hget, hset, hdel, cellAt, arrAt, setCellAt, setArrAt, takeC, lenC, svCells, SV.okc, SV.one, ldSV, Fw.isAgg, Nat.reduceMul, Nat.reduceSub, Nat.reduceLeDiff, Nat.lt_irrefl, Nat.not_lt_zero, Nat.reduceLT, Nat.add_eq_left, Nat.left_eq_add, List.nil_append, List.length_cons, List.length_nil, List.append_nil, List.cons_append, Nat.zero_lt_one, Bool.false_eq_true, Bool.not_true, Bool.not_false, eq_self, Option.map_some, Option.map_none, true_imp_iff, false_imp_iff, implies_true, Bool.true_eq_false, explode, explodeL, toD, toDL, toD1, Ty.size, Ty.sizeL, frz1, Fr.sub, Heap.sub, Tok.sub, SV.sub, SV.subL, add_def, Nat.reduceEqDiff, Nat.reduceAdd, Nat.zero_add, reduceCtorEq, ↓reduceIte, and_self, and_true, true_and, reduceIte, rowT_len]
          refine ⟨fun hc' => ?_, fun hc' => ?_⟩
          · have hj4 : j < 4 := by have := of_decide_eq_true hc'; omega
            refine ⟨by omega, ⟨by rw [min_i64]; omega, by rw [max_i64]; omega⟩, hB' _ ⟨j + 1, by omega⟩ (by simp only []; omega) ?_⟩
            refine leq_id ?_ (by (simp only [frLt_cons, frLt_nil, and_true, SV.lt, SV.ltL, true_and] <;> omega)) (by ((try simp only []); repeat first | exact HLe.refl _ | refine HLe.cons (by simp only [hget, Nat.reduceEqDiff, reduceIte, ↓reduceIte] <;> rfl) ?_ | refine HLe.skip hnm (by omega) ?_ | refine HLe.frz hnm (by omega) ?_ | refine HLe.del hnm (by omega) ?_)) (by (repeat first | exact HLt.mono hnm (by simp only [] <;> omega) | refine HLt.cons (by simp only [] <;> omega) (by simp only [Tok.lt, SV.ltL, SV.lt, and_true, true_and] <;> omega) ?_)) (by simp only [] <;> omega)
            simp only [frEq_cons, frEq_nil, frIn_cons, frIn_nil, and_true, fget_cons, Nat.reduceEqDiff, reduceIte, ↓reduceIte, true_and, SV.ren, SV.renL, ren1]
            exact ⟨by simp, by rw [st1_code]; rfl⟩
          · have e4 : j = 4 := by have := of_decide_eq_false hc'; omega
            subst e4
            refine ⟨⟨by omega, by omega⟩, ⟨by omega, by omega⟩, ⟨by rw [min_i64]; omega, by rw [max_i64]; omega⟩, hB _ ⟨i + 1, by omega⟩ (by simp only []; omega) ?_⟩
            have e : (rowT i).set (Int.toNat (i : Int)) (.int (toI (stn 4 (BitVec.ofNat 32 i)))) = rowT (i + 1) := rowT_set i hi16
            rw [e]
            refine leq_id ?_ (by (simp only [frLt_cons, frLt_nil, and_true, SV.lt, SV.ltL, true_and] <;> omega)) (by ((try simp only []); repeat first | exact HLe.refl _ | refine HLe.cons (by simp only [hget, Nat.reduceEqDiff, reduceIte, ↓reduceIte] <;> rfl) ?_ | refine HLe.skip hnm (by omega) ?_ | refine HLe.frz hnm (by omega) ?_ | refine HLe.del hnm (by omega) ?_)) (by (repeat first | exact HLt.mono hnm (by simp only [] <;> omega) | refine HLt.cons (by simp only [] <;> omega) (by simp only [Tok.lt, SV.ltL, SV.lt, and_true, true_and] <;> omega) ?_)) (by simp only [] <;> omega)
            simp only [frEq_cons, frEq_nil, frIn_cons, frIn_nil, and_true, fget_cons, Nat.reduceEqDiff, reduceIte, ↓reduceIte, true_and, SV.ren, SV.renL, ren1]
            simp
      · have e16 : i = 16 := by have := of_decide_eq_false hc; omega
        subst e16
        refine (hQ _ (fin_c (.agg [.arrc (.int .u32) tab]) (p := True) ?_ trivial rfl hnm (by ((try simp only []); repeat first | exact HLe.refl _ | refine HLe.cons (by simp only [hget, Nat.reduceEqDiff, reduceIte, ↓reduceIte] <;> rfl) ?_ | refine HLe.skip hnm (by omega) ?_ | refine HLe.frz hnm (by omega) ?_ | refine HLe.del hnm (by omega) ?_)) hsp)).1
        simp only [evR, go_rgn, rgnK_def, goD_nil, goD_u, contD_some, goD_call, callD_clo, kD_app, goD_g, gD_T, gD_F, evI_true, evI_false, bareK_some, go_seq, go_ops, go_cond, go_block, go_skip, go_tr, trim_def, trim_nil, trim_cons, fget_nil, go_ret, go_exit, den_nil, den_seq, den_seq_ret, den_seq_ext, den_blk, den_blk_ret, den_blk_ext, den_lp, den_lp_ret, den_lp_ext, goO_nil, goO_u, noCall, contK_some, goO_slc, goO_mif, preF, preP, prePt, prePd, frzP, noSp, D.isNil, goO_nlq, nlqK_some, evNlq, goO_g, gK_T, gK_F, skipD_some, skipD_none, goO_call, goO_callf, frzK_def, callK_clo, kO_app, condK_ite, iteT, iteF, put_def, sput_def, ev, frOf, fget_cons, oget, ogets, argSs, argS, evMm, frzL, evBin, evWrp, evShf, evCmp, evUna, evNil, evBeq, evLd, evSt, evFad, evIad, evAad, evLen, evSln, evEls, evApp, evParts, evSlc, evNlc, evMif, evPck, evFld, evBld, evTas, evIfq, evSeq, evSl0, evBxf, List.set_cons_zero, List.set_cons_succ, List.set_nil, List.flatten_cons, List.flatten_nil, List.getD_cons_zero, List.getD_cons_succ, List.contains_cons,  hget, hset, hdel, cellAt, arrAt, setCellAt, setArrAt, takeC, lenC, svCells, SV.okc, SV.one, ldSV, Fw.isAgg, Nat.reduceMul, Nat.reduceSub, Nat.reduceLeDiff, Nat.lt_irrefl, Nat.not_lt_zero, Nat.reduceLT, Nat.add_eq_left, Nat.left_eq_add, List.nil_append, List.length_cons, List.length_nil, List.append_nil, List.cons_append, Nat.zero_lt_one, Bool.false_eq_true, Bool.not_true, Bool.not_false, eq_self, Option.map_some, Option.map_none, true_imp_iff, false_imp_iff, implies_true, Bool.true_eq_false, explode, explodeL, toD, toDL, toD1, Ty.size, Ty.sizeL, frz1, Fr.sub, Heap.sub, Tok.sub, SV.sub, SV.subL, add_def, Nat.reduceEqDiff, Nat.reduceAdd, Nat.zero_add, reduceCtorEq, ↓reduceIte, and_self, and_true, true_and, reduceIte, rowT_len]
        rfl
  · exact hsp.elim

theorem tab_len : tab.length = 16 := rowT_len 16
theorem tab_get (x : W32) (hx : x.toNat < 16) : tab.getD (toI x).toNat .nil = .int (toI (st4 x)) := by
  have e : (toI x).toNat = x.toNat := by unfold toI; omega
  rw [e, List.getD_eq_getElem?_getD]
  simp [tab, rowT, hx]

def WAdd : Opts := mkWE 38 [] [] [] 60 [] []
def icAdd : IC := (.seq (.seq (.ops [(.u (.mov 4 (.c (.int .u32 0))))]) (.tr [0, 1])) (.seq (.seq (.ops [(.u (.call 8 (.c (.clo 21 [])) [] [] true)), (.u (.alc 5 [(.arrc (.int .u32) [(.int 0), (.int 0), (.int 0), (.int 0), (.int 0), (.int 0), (.int 0), (.int 0), (.int 0), (.int 0), (.int 0), (.int 0), (.int 0), (.int 0), (.int 0), (.int 0)])])), (.u (.st (.arr 16 (.int .u32)) (.s 5) (.s 8)))]) (.tr [0, 1, 5])) (.seq (.seq (.ops [(.u (.mov 9 (.s 0))), (.u (.una 10 .xor (.s 9))), (.u (.mov 0 (.s 10)))]) (.tr [1, 5, 0])) (.seq (.seq (.seq (.ops [(.u (.mov 11 (.s 1))), (.u (.len 12 false (.s 11))), (.u (.mov 13 (.c (.int .i64 0))))]) (.tr [12, 11, 5, 13, 0])) (.block 0 (.loop (.seq (.seq (.ops [(.u (.cmp 14 .lss (.s 13) (.s 12)))]) (.tr [14, 13, 12, 11, 5, 0])) (.seq (.cond (.s 14) .skip (.exit 0)) (.seq (.block 1 (.seq (.seq (.ops [(.u (.iad 15 5 (.int .u8) (.s 11) (.s 13))), (.u (.ld 16 (.int .u8) (.s 15))), (.u (.mov 7 (.s 16)))]) (.tr [0, 7, 13, 12, 11, 5])) (.seq (.seq (.ops [(.u (.mov 17 (.s 0))), (.u (.mov 18 (.s 7))), (.u (.cnv 19 .u32 (.s 18))), (.u (.bin 20 .xor .u32 (.s 17) (.s 19))), (.u (.mov 0 (.s 20)))]) (.tr [0, 13, 12, 11, 5])) (.seq (.seq (.ops [(.u (.mov 21 (.s 0))), (.u (.shf 22 .shr .u32 (.s 21) (.c (.int .u64 4)))), (.u (.mov 23 (.s 0))), (.u (.bin 24 .and .u32 (.s 23) (.c (.int .u32 15)))), (.u (.aad 25 16 (.int .u32) (.s 5) (.s 24))), (.u (.ld 26 (.int .u32) (.s 25))), (.u (.bin 27 .xor .u32 (.s 22) (.s 26))), (.u (.mov 0 (.s 27)))]) (.tr [0, 13, 12, 11, 5])) (.seq (.ops [(.u (.mov 28 (.s 0))), (.u (.shf 29 .shr .u32 (.s 28) (.c (.int .u64 4)))), (.u (.mov 30 (.s 0))), (.u (.bin 31 .and .u32 (.s 30) (.c (.int .u32 15)))), (.u (.aad 32 16 (.int .u32) (.s 5) (.s 31))), (.u (.ld 33 (.int .u32) (.s 32))), (.u (.bin 34 .xor .u32 (.s 29) (.s 33))), (.u (.mov 0 (.s 34)))]) (.tr [13, 12, 11, 5, 0])))))) (.seq (.ops [(.u (.bin 35 .add .i64 (.s 13) (.c (.int .i64 1)))), (.u (.mov 13 (.s 35)))]) (.tr [12, 11, 5, 13, 0])))))))) (.seq (.seq (.ops [(.u (.mov 36 (.s 0))), (.u (.una 37 .xor (.s 36))), (.u (.mov 4 (.s 37)))]) (.tr [4])) .ret)))))
def rsAdd : List RV := [(.t 4)]
theorem irAdd : fnIR Tryd.prog WAdd 12 = some (icAdd, rsAdd) := by kernel_rfl
def spAdd : FSpec := fun args h nx K => match args with
  | [.int .u32 s, .dat (.slice 5) d] => K (.int .u32 (toI (Crc.add (ofI s) d.l))) h
  | _ => False
theorem tab_get' (x : W32) : tab.getD (toI (x &&& 15#32)).toNat .nil = .int (toI (st4 (x &&& 15#32))) := tab_get _ (and15_lt x)
theorem toI15 (x : W32) : 0 ≤ toI (x &&& 15#32) ∧ toI (x &&& 15#32) < ((16 : Nat) : Int) := by
  have := and15_lt x
  unfold toI; omega
theorem int_i (n : Int) : (D.int n).i = n := rfl
theorem crc_take (s : W32) (l : List D) (i : Nat) (hi : i < l.length) : crc s (l.take (i + 1)) = st8 (crc s (l.take i) ^^^ byt (l.getD i .nil)) := by
  rw [List.take_succ_eq_append_getElem hi, crc_app, crc_cons, crc_nil]
  congr 3
  rw [List.getD_eq_getElem?_getD, List.getElem?_eq_getElem hi]; rfl
set_option maxHeartbeats 400000 in
theorem vAdd {E : Nat → Value} (hE : Errs2 Tryd.prog (some 60) E) : Valid Tryd.prog E (gs []) 12 spAdd := by
  refine valid_go (W := WAdd) hE (allValid_bot.add (vHalves hE)) irAdd (by decide) (fun args h nx K hsp hok hnm => ?_)
  unfold spAdd at hsp
  split at hsp
  · rename_i s d
    refine ⟨by simp [WAdd, mkW, mkWE], fun Q hQ => ?_⟩
    obtain ⟨hs, hd, _⟩ := hok
    simp only [SV.ok] at hs hd
    simp only [min_u32, max_u32] at hs
    obtain ⟨hd1, hd2, hd3⟩ := Wt.slice hd
    generalize d.l = l at hsp hd1 hd2 hd3
    subst hd1
    simp only [icAdd, go_rgn, rgnK_def, goD_nil, goD_u, contD_some, goD_call, callD_clo, kD_app, goD_g, gD_T, gD_F, evI_true, evI_false, bareK_some, go_seq, go_ops, go_cond, go_block, go_skip, go_tr, trim_def, trim_nil, trim_cons, fget_nil, go_ret, go_exit, den_nil, den_seq, den_seq_ret, den_seq_ext, den_blk, den_blk_ret, den_blk_ext, den_lp, den_lp_ret, den_lp_ext, goO_nil, goO_u, noCall, contK_some, goO_slc, goO_mif, preF, preP, prePt, prePd, frzP, noSp, D.isNil, goO_nlq, nlqK_some, evNlq, goO_g, gK_T, gK_F, skipD_some, skipD_none, goO_call, goO_callf, frzK_def, callK_clo, kO_app, condK_ite, iteT, iteF, put_def, sput_def, ev, frOf, fget_cons, oget, ogets, argSs, argS, evMm, frzL, evBin, evWrp, evShf, evCmp, evUna, evNil, evBeq, evLd, evSt, evFad, evIad, evAad, evLen, evSln, evEls, evApp, evParts, evSlc, evNlc, evMif, evPck, evFld, evBld, evTas, evIfq, evSeq, evSl0, evBxf, List.set_cons_zero, List.set_cons_succ, List.set_nil, List.flatten_cons, List.flatten_nil, List.getD_cons_zero, List.getD_cons_succ, List.contains_cons,  hget, hset, hdel, cellAt, arrAt, setCellAt, setArrAt, takeC, lenC, svCells, SV.okc, SV.one, ldSV, Fw.isAgg, Nat.reduceMul, Nat.reduceSub, Nat.reduceLeDiff, Nat.lt_irrefl, Nat.not_lt_zero, Nat.reduceLT, Nat.add_eq_left, Nat.left_eq_add, List.nil_append, List.length_cons, List.length_nil, List.append_nil, List.cons_append, Nat.zero_lt_one, Bool.false_eq_true, Bool.not_true, Bool.not_false, eq_self, Option.map_some, Option.map_none, true_imp_iff, false_imp_iff, implies_true, Bool.true_eq_false, explode, explodeL, toD, toDL, toD1, Ty.size, Ty.sizeL, frz1, Fr.sub, Heap.sub, Tok.sub, SV.sub, SV.subL, add_def, Nat.reduceEqDiff, Nat.reduceAdd, Nat.zero_add, reduceCtorEq, ↓reduceIte, and_self, and_true, true_and, reduceIte, spHalves, tab_len]
    have hml : maxLen ≤ 9223372036854775807 := by decide
    refine go_loop (α := { i : Nat // i ≤ l.length }) (I := fun i => { f := [(13, .int .i64 i.1), (12, .int .i64 l.length), (11, .dat (.slice 5) (.list l)), (0, .int .u32 (toI (crc (~~~ ofI s) (l.take i.1)))), (5, .ptr (nx + 64) 0)], h := (nx + 64, .cells [.arrc (.int .u32) tab]) :: h, nx := nx + 65 }) (μ := fun i => l.length - i.1) _ _ _ ⟨0, by omega⟩ ?_ (fun i B hB => ?_)
    · refine leq_id ?_ (by (simp only [frLt_cons, frLt_nil, and_true, SV.lt, SV.ltL, true_and] <;> omega)) (by ((try simp only []); repeat first | exact HLe.refl _ | refine HLe.cons (by simp only [hget, Nat.reduceEqDiff, reduceIte, ↓reduceIte] <;> rfl) ?_ | refine HLe.skip hnm (by omega) ?_ | refine HLe.frz hnm (by omega) ?_ | refine HLe.del hnm (by omega) ?_)) (by (repeat first | exact HLt.mono hnm (by simp only [] <;> omega) | refine HLt.cons (by simp only [] <;> omega) (by simp only [Tok.lt, SV.ltL, SV.lt, and_true, true_and] <;> omega) ?_)) (by simp only [] <;> omega)
      simp only [frEq_cons, frEq_nil, frIn_cons, frIn_nil, and_true, fget_cons, Nat.reduceEqDiff, reduceIte, ↓reduceIte, true_and, SV.ren, SV.renL, ren1]
      refine ⟨rfl, rfl, ?_⟩
      have : s = toI (ofI s) := (toI_ofI hs.1 hs.2).symm
      show SV.int .u32 (bitI .xor .u32 4294967295 s) = _
      rw [this, not32, ofI_toI]
      rfl
    · obtain ⟨i, hi⟩ := i
      simp only [go_rgn, rgnK_def, goD_nil, goD_u, contD_some, goD_call, callD_clo, kD_app, goD_g, gD_T, gD_F, evI_true, evI_false, bareK_some, go_seq, go_ops, go_cond, go_block, go_skip, go_tr, trim_def, trim_nil, trim_cons, fget_nil, go_ret, go_exit, den_nil, den_seq, den_seq_ret, den_seq_ext, den_blk, den_blk_ret, den_blk_ext, den_lp, den_lp_ret, den_lp_ext, goO_nil, goO_u, noCall, contK_some, goO_slc, goO_mif, preF, preP, prePt, prePd, frzP, noSp, D.isNil, goO_nlq, nlqK_some, evNlq, goO_g, gK_T, gK_F, skipD_some, skipD_none, goO_call, goO_callf, frzK_def, callK_clo, kO_app, condK_ite, iteT, iteF, put_def, sput_def, ev, frOf, fget_cons, oget, ogets, argSs, argS, evMm, frzL, evBin, evWrp, evShf, evCmp, evUna, evNil, evBeq, evLd, evSt, evFad, evIad, evAad, evLen, evSln, evEls, evApp, evParts, evSlc, evNlc, evMif, evPck, evFld, evBld, evTas, evIfq, evSeq, evSl0, evBxf, List.set_cons_zero, List.set_cons_succ, List.set_nil, List.flatten_cons, List.flatten_nil, List.getD_cons_zero, List.getD_cons_succ, List.contains_cons,  hget, hset, hdel, cellAt, arrAt, setCellAt, setArrAt, takeC, lenC, svCells, SV.okc, SV.one, ldSV, Fw.isAgg, Nat.reduceMul, Nat.reduceSub, Nat.reduceLeDiff, Nat.lt_irrefl, Nat.not_lt_zero, Nat.reduceLT, Nat.add_eq_left, Nat.left_eq_add, List.nil_append, List.length_cons, List.length_nil, List.append_nil, List.cons_append, Nat.zero_lt_one, Bool.false_eq_true, Bool.not_true, Bool.not_false, eq_self, Option.map_some, Option.map_none, true_imp_iff, false_imp_iff, implies_true, Bool.true_eq_false, explode, explodeL, toD, toDL, toD1, Ty.size, Ty.sizeL, frz1, Fr.sub, Heap.sub, Tok.sub, SV.sub, SV.subL, add_def, Nat.reduceEqDiff, Nat.reduceAdd, Nat.zero_add, reduceCtorEq, ↓reduceIte, and_self, and_true, true_and, reduceIte, tab_len]
      refine ⟨fun hc => ?_, fun hc => ?_⟩
      · have hi' : i < l.length := by have := of_decide_eq_true hc; omega
        simp only [list_l, Int.toNat_natCast, xorw, and15, tab_get', int_i, st4_code']
        have e : st4 (st4 (crc (~~~ofI s) (l.take i) ^^^ BitVec.ofInt 32 (l.getD i .nil).i)) = crc (~~~ofI s) (l.take (i + 1)) := (crc_take _ _ _ hi').symm
        refine ⟨⟨by omega, by omega⟩, by omega, toI15 _, toI15 _, by omega, toI15 _, toI15 _, ⟨by rw [min_i64]; omega, by rw [max_i64]; omega⟩, hB _ ⟨i + 1, by omega⟩ (by simp only []; omega) ?_⟩
        rw [e]
        refine leq_id ?_ (by (simp only [frLt_cons, frLt_nil, and_true, SV.lt, SV.ltL, true_and] <;> omega)) (by ((try simp only []); repeat first | exact HLe.refl _ | refine HLe.cons (by simp only [hget, Nat.reduceEqDiff, reduceIte, ↓reduceIte] <;> rfl) ?_ | refine HLe.skip hnm (by omega) ?_ | refine HLe.frz hnm (by omega) ?_ | refine HLe.del hnm (by omega) ?_)) (by (repeat first | exact HLt.mono hnm (by simp only [] <;> omega) | refine HLt.cons (by simp only [] <;> omega) (by simp only [Tok.lt, SV.ltL, SV.lt, and_true, true_and] <;> omega) ?_)) (by simp only [] <;> omega)
        simp only [frEq_cons, frEq_nil, frIn_cons, frIn_nil, and_true, fget_cons, Nat.reduceEqDiff, reduceIte, ↓reduceIte, true_and, SV.ren, SV.renL, ren1]
        simp
      · have e : i = l.length := by have := of_decide_eq_false hc; omega
        subst e
        refine (hQ _ (fin_t (.int .u32 (toI (Crc.add (ofI s) l))) ?_ rfl hnm (by ((try simp only []); repeat first | exact HLe.refl _ | refine HLe.cons (by simp only [hget, Nat.reduceEqDiff, reduceIte, ↓reduceIte] <;> rfl) ?_ | refine HLe.skip hnm (by omega) ?_ | refine HLe.frz hnm (by omega) ?_ | refine HLe.del hnm (by omega) ?_)) hsp)).1
        simp only [fget_cons, reduceIte, ↓reduceIte, Nat.reduceEqDiff]
        show SV.int .u32 (bitI .xor .u32 4294967295 _) = _
        rw [List.take_length, not32]
        rfl
  · exact hsp.elim
end Go.Proofs.YtilbonambilebaaDoor
