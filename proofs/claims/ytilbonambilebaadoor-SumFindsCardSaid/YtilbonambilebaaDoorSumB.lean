/- Chapter 1's functions: the sum of bytes, the chapter's example. -/
import Derived.Test.YtilbonambilebaaDoorSumA
namespace Go.Proofs.YtilbonambilebaaDoor
set_option linter.unusedVariables false
set_option linter.unusedSimpArgs false
open Go Go.Fw Go.Crc

def WOf : Opts := mkWE 5 [] [] [] 60 [] []
def icOf : IC := (.seq (.seq (.ops [(.u (.mov 2 (.c (.int .u32 0))))]) (.tr [0])) (.seq (.seq (.ops [(.u (.mov 3 (.s 0))), (.u (.call 4 (.c (.clo 12 [])) [(.c (.int .u32 0)), (.s 3)] [none, (some 5)] true)), (.u (.mov 2 (.s 4)))]) (.tr [2])) .ret))
def rsOf : List RV := [(.t 2)]
theorem irOf : fnIR Tryd.prog WOf 10 = some (icOf, rsOf) := by kernel_rfl
def spOf : FSpec := fun args h nx K => match args with
  | [.dat (.slice 5) d] => K (.int .u32 (toI (Crc.add 0#32 d.l))) h
  | _ => False
theorem vOf {E : Nat → Value} (hE : Errs2 Tryd.prog (some 60) E) : Valid Tryd.prog E (gs []) 10 spOf := by
  refine valid_go (W := WOf) hE (allValid_bot.add (vAdd hE)) irOf (by decide) (fun args h nx K hsp hok hnm => ?_)
  unfold spOf at hsp
  split at hsp
  · rename_i d
    refine ⟨by simp [WOf, mkW, mkWE], fun Q hQ => ?_⟩
    simp only [icOf, go_rgn, rgnK_def, goD_nil, goD_u, contD_some, goD_call, callD_clo, kD_app, goD_g, gD_T, gD_F, evI_true, evI_false, bareK_some, go_seq, go_ops, go_cond, go_block, go_skip, go_tr, trim_def, trim_nil, trim_cons, fget_nil, go_ret, go_exit, den_nil, den_seq, den_seq_ret, den_seq_ext, den_blk, den_blk_ret, den_blk_ext, den_lp, den_lp_ret, den_lp_ext, goO_nil, goO_u, noCall, contK_some, goO_slc, goO_mif, preF, preP, prePt, prePd, frzP, noSp, D.isNil, goO_nlq, nlqK_some, evNlq, goO_g, gK_T, gK_F, skipD_some, skipD_none, goO_call, goO_callf, frzK_def, callK_clo, kO_app, condK_ite, iteT, iteF, put_def, sput_def, ev, frOf, fget_cons, oget, ogets, argSs, argS, evMm, frzL, evBin, evWrp, evShf, evCmp, evUna, evNil, evBeq, evLd, evSt, evFad, evIad, evAad, evLen, evSln, evEls, evApp, evParts, evSlc, evNlc, evMif, evPck, evFld, evBld, evTas, evIfq, evSeq, evSl0, evBxf, List.set_cons_zero, List.set_cons_succ, List.set_nil, List.flatten_cons, List.flatten_nil, List.getD_cons_zero, List.getD_cons_succ, List.contains_cons,  hget, hset, hdel, cellAt, arrAt, setCellAt, setArrAt, takeC, lenC, svCells, SV.okc, SV.one, ldSV, Fw.isAgg, Nat.reduceMul, Nat.reduceSub, Nat.reduceLeDiff, Nat.lt_irrefl, Nat.not_lt_zero, Nat.reduceLT, Nat.add_eq_left, Nat.left_eq_add, List.nil_append, List.length_cons, List.length_nil, List.append_nil, List.cons_append, Nat.zero_lt_one, Bool.false_eq_true, Bool.not_true, Bool.not_false, eq_self, Option.map_some, Option.map_none, true_imp_iff, false_imp_iff, implies_true, Bool.true_eq_false, explode, explodeL, toD, toDL, toD1, Ty.size, Ty.sizeL, frz1, Fr.sub, Heap.sub, Tok.sub, SV.sub, SV.subL, add_def, Nat.reduceEqDiff, Nat.reduceAdd, Nat.zero_add, reduceCtorEq, ↓reduceIte, and_self, and_true, true_and, reduceIte, spAdd]
    exact (hQ _ (fin_t (.int .u32 (toI (Crc.add 0#32 d.l))) rfl rfl hnm (by ((try simp only []); repeat first | exact HLe.refl _ | refine HLe.cons (by simp only [hget, Nat.reduceEqDiff, reduceIte, ↓reduceIte] <;> rfl) ?_ | refine HLe.skip hnm (by omega) ?_ | refine HLe.frz hnm (by omega) ?_ | refine HLe.del hnm (by omega) ?_)) hsp)).1
  · exact hsp.elim

def WFirst : Opts := mkWE 5 [] [] [] 60 [] []
def icFirst : IC := (.seq (.seq (.ops [(.u (.mov 0 (.c (.bool false))))]) (.tr [])) (.seq (.seq (.ops [(.u (.bsl 1 5 (.int .u8) [(.c (.int .u8 49)), (.c (.int .u8 50)), (.c (.int .u8 51)), (.c (.int .u8 52)), (.c (.int .u8 53)), (.c (.int .u8 54)), (.c (.int .u8 55)), (.c (.int .u8 56)), (.c (.int .u8 57))])), (.u (.cvs 2 (.s 1))), (.u (.call 3 (.c (.clo 10 [])) [(.s 2)] [(some 5)] true)), (.u (.cmp 4 .eql (.s 3) (.c (.int .u32 3421780262)))), (.u (.mov 0 (.s 4)))]) (.tr [0])) .ret))
def rsFirst : List RV := [(.t 0)]
theorem irFirst : fnIR Tryd.prog WFirst 6 = some (icFirst, rsFirst) := by kernel_rfl
def spFirst : FSpec := fun args h nx K => match args with
  | [] => K (.bool true) h
  | _ => False
theorem ex1 : toI (Crc.add 0#32 [.int 49, .int 50, .int 51, .int 52, .int 53, .int 54, .int 55, .int 56, .int 57]) = 3421780262 := by decide +kernel
theorem vFirst {E : Nat → Value} (hE : Errs2 Tryd.prog (some 60) E) : Valid Tryd.prog E (gs []) 6 spFirst := by
  refine valid_go (W := WFirst) hE (allValid_bot.add (vOf hE)) irFirst (by decide) (fun args h nx K hsp hok hnm => ?_)
  unfold spFirst at hsp
  split at hsp
  · refine ⟨by simp [WFirst, mkW, mkWE], fun Q hQ => ?_⟩
    simp only [icFirst, go_rgn, rgnK_def, goD_nil, goD_u, contD_some, goD_call, callD_clo, kD_app, goD_g, gD_T, gD_F, evI_true, evI_false, bareK_some, go_seq, go_ops, go_cond, go_block, go_skip, go_tr, trim_def, trim_nil, trim_cons, fget_nil, go_ret, go_exit, den_nil, den_seq, den_seq_ret, den_seq_ext, den_blk, den_blk_ret, den_blk_ext, den_lp, den_lp_ret, den_lp_ext, goO_nil, goO_u, noCall, contK_some, goO_slc, goO_mif, preF, preP, prePt, prePd, frzP, noSp, D.isNil, goO_nlq, nlqK_some, evNlq, goO_g, gK_T, gK_F, skipD_some, skipD_none, goO_call, goO_callf, frzK_def, callK_clo, kO_app, condK_ite, iteT, iteF, put_def, sput_def, ev, frOf, fget_cons, oget, ogets, argSs, argS, evMm, frzL, evBin, evWrp, evShf, evCmp, evUna, evNil, evBeq, evLd, evSt, evFad, evIad, evAad, evLen, evSln, evEls, evApp, evParts, evSlc, evNlc, evMif, evPck, evFld, evBld, evTas, evIfq, evSeq, evSl0, evBxf, List.set_cons_zero, List.set_cons_succ, List.set_nil, List.flatten_cons, List.flatten_nil, List.getD_cons_zero, List.getD_cons_succ, List.contains_cons,  hget, hset, hdel, cellAt, arrAt, setCellAt, setArrAt, takeC, lenC, svCells, SV.okc, SV.one, ldSV, Fw.isAgg, Nat.reduceMul, Nat.reduceSub, Nat.reduceLeDiff, Nat.lt_irrefl, Nat.not_lt_zero, Nat.reduceLT, Nat.add_eq_left, Nat.left_eq_add, List.nil_append, List.length_cons, List.length_nil, List.append_nil, List.cons_append, Nat.zero_lt_one, Bool.false_eq_true, Bool.not_true, Bool.not_false, eq_self, Option.map_some, Option.map_none, true_imp_iff, false_imp_iff, implies_true, Bool.true_eq_false, explode, explodeL, toD, toDL, toD1, Ty.size, Ty.sizeL, frz1, Fr.sub, Heap.sub, Tok.sub, SV.sub, SV.subL, add_def, Nat.reduceEqDiff, Nat.reduceAdd, Nat.zero_add, reduceCtorEq, ↓reduceIte, and_self, and_true, true_and, reduceIte, spOf, list_l, ex1]
    exact ⟨by simp, (hQ _ (fin_t (.bool true) rfl rfl hnm (by ((try simp only []); repeat first | exact HLe.refl _ | refine HLe.cons (by simp only [hget, Nat.reduceEqDiff, reduceIte, ↓reduceIte] <;> rfl) ?_ | refine HLe.skip hnm (by omega) ?_ | refine HLe.frz hnm (by omega) ?_ | refine HLe.del hnm (by omega) ?_)) hsp)).1⟩
  · exact hsp.elim

end Go.Proofs.YtilbonambilebaaDoor
