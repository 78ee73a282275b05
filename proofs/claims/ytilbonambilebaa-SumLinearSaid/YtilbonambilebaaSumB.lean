/- Chapter 1's functions: the sum of bytes, the chapter's example, a copy. -/
import Derived.Test.YtilbonambilebaaSumA
namespace Go.Proofs.Ytilbonambilebaa
set_option linter.unusedVariables false
set_option linter.unusedSimpArgs false
open Go Go.Fw Go.Crc

def WOf : Opts := mkW 5 [] [] []
def icOf : IC := (.seq (.ops [(.u (.mov 2 (.c (.int .u32 0))))]) (.seq (.ops [(.u (.mov 3 (.s 0))), (.u (.call 4 9 [(.c (.int .u32 0)), (.s 3)] [none, (some 5)] true)), (.u (.mov 2 (.s 4)))]) .ret))
def rsOf : List RV := [(.t 2)]
theorem irOf : fnIR Try.prog WOf 7 = some (icOf, rsOf) := by kernel_rfl
def spOf : FSpec := fun args h nx K => match args with
  | [.dat (.slice 5) d] => K (.int .u32 (toI (Crc.add 0#32 d.l))) h
  | _ => False
theorem vOf {E : Nat → Value} (hE : Errs E) : Valid Try.prog E G0 7 spOf := by
  refine valid_go (W := WOf) hE (allValid_bot.add (vAdd hE)) irOf (by decide) (fun args h nx K hsp hok hnm => ?_)
  unfold spOf at hsp
  split at hsp
  · rename_i d
    refine ⟨by simp [WOf, mkW], fun Q hQ => ?_⟩
    simp only [icOf, go_rgn, rgnK_def, goD_nil, goD_u, contD_some, goD_call, callD_def, goD_g, gD_bool, evI_true, evI_false, bareK_some, go_seq, go_ops, go_cond, go_block, go_skip, go_ret, go_exit, den_nil, den_seq, den_seq_ret, den_seq_ext, den_blk, den_blk_ret, den_blk_ext, den_lp, den_lp_ret, den_lp_ext, goO_nil, goO_u, noCall, contK_some, goO_g, gK_bool, skipD_some, skipD_none, goO_call, goO_callf, frzK_def, callK_def, condK_bool, put_def, sput_def, ev, frOf, fget_cons, oget, ogets, argSs, argS, evMm, frzL, evBin, evWrp, evShf, evCmp, evUna, evNil, evBeq, evLd, evSt, evFad, evIad, evAad, evLen, evSln, evEls, evApp, evParts, evSlc, evNlc, evMif, evPck, hget, hset, hdel, cellAt, arrAt, setCellAt, setArrAt, takeC, lenC, svCells, SV.okc, SV.one, ldSV, Fw.isAgg, Nat.reduceMul, Nat.reduceSub, Nat.reduceLeDiff, Nat.lt_irrefl, Nat.not_lt_zero, Nat.reduceLT, Nat.add_eq_left, Nat.left_eq_add, List.nil_append, List.length_cons, List.length_nil, List.append_nil, List.cons_append, Nat.zero_lt_one, Bool.false_eq_true, Bool.not_true, Bool.not_false, eq_self, Option.map_some, Option.map_none, true_imp_iff, false_imp_iff, implies_true, Bool.true_eq_false, explode, explodeL, toD, toDL, toD1, Ty.size, Ty.sizeL, frz1, Fr.sub, Heap.sub, Tok.sub, SV.sub, SV.subL, add_def, Nat.reduceEqDiff, Nat.reduceAdd, Nat.zero_add, reduceCtorEq, ↓reduceIte, and_self, and_true, true_and, reduceIte, spAdd]
    exact (hQ _ (fin_t (.int .u32 (toI (Crc.add 0#32 d.l))) rfl rfl hnm (by (repeat first | exact HLe.refl _ | refine HLe.cons (by simp only [hget, Nat.reduceEqDiff, reduceIte, ↓reduceIte] <;> rfl) ?_ | refine HLe.skip hnm (by omega) ?_ | refine HLe.frz hnm (by omega) ?_ | refine HLe.del hnm (by omega) ?_)) hsp)).1
  · exact hsp.elim

def WFirst : Opts := mkW 5 [] [] []
def icFirst : IC := (.seq (.ops [(.u (.mov 0 (.c (.bool false))))]) (.seq (.ops [(.u (.bsl 1 5 (.int .u8) [(.c (.int .u8 49)), (.c (.int .u8 50)), (.c (.int .u8 51)), (.c (.int .u8 52)), (.c (.int .u8 53)), (.c (.int .u8 54)), (.c (.int .u8 55)), (.c (.int .u8 56)), (.c (.int .u8 57))])), (.u (.cvs 2 (.s 1))), (.u (.call 3 7 [(.s 2)] [(some 5)] true)), (.u (.cmp 4 .eql (.s 3) (.c (.int .u32 3421780262)))), (.u (.mov 0 (.s 4)))]) .ret))
def rsFirst : List RV := [(.t 0)]
theorem irFirst : fnIR Try.prog WFirst 6 = some (icFirst, rsFirst) := by kernel_rfl
def spFirst : FSpec := fun args h nx K => match args with
  | [] => K (.bool true) h
  | _ => False
theorem ex1 : toI (Crc.add 0#32 [.int 49, .int 50, .int 51, .int 52, .int 53, .int 54, .int 55, .int 56, .int 57]) = 3421780262 := by decide +kernel
theorem vFirst {E : Nat → Value} (hE : Errs E) : Valid Try.prog E G0 6 spFirst := by
  refine valid_go (W := WFirst) hE (allValid_bot.add (vOf hE)) irFirst (by decide) (fun args h nx K hsp hok hnm => ?_)
  unfold spFirst at hsp
  split at hsp
  · refine ⟨by simp [WFirst, mkW], fun Q hQ => ?_⟩
    simp only [icFirst, go_rgn, rgnK_def, goD_nil, goD_u, contD_some, goD_call, callD_def, goD_g, gD_bool, evI_true, evI_false, bareK_some, go_seq, go_ops, go_cond, go_block, go_skip, go_ret, go_exit, den_nil, den_seq, den_seq_ret, den_seq_ext, den_blk, den_blk_ret, den_blk_ext, den_lp, den_lp_ret, den_lp_ext, goO_nil, goO_u, noCall, contK_some, goO_g, gK_bool, skipD_some, skipD_none, goO_call, goO_callf, frzK_def, callK_def, condK_bool, put_def, sput_def, ev, frOf, fget_cons, oget, ogets, argSs, argS, evMm, frzL, evBin, evWrp, evShf, evCmp, evUna, evNil, evBeq, evLd, evSt, evFad, evIad, evAad, evLen, evSln, evEls, evApp, evParts, evSlc, evNlc, evMif, evPck, hget, hset, hdel, cellAt, arrAt, setCellAt, setArrAt, takeC, lenC, svCells, SV.okc, SV.one, ldSV, Fw.isAgg, Nat.reduceMul, Nat.reduceSub, Nat.reduceLeDiff, Nat.lt_irrefl, Nat.not_lt_zero, Nat.reduceLT, Nat.add_eq_left, Nat.left_eq_add, List.nil_append, List.length_cons, List.length_nil, List.append_nil, List.cons_append, Nat.zero_lt_one, Bool.false_eq_true, Bool.not_true, Bool.not_false, eq_self, Option.map_some, Option.map_none, true_imp_iff, false_imp_iff, implies_true, Bool.true_eq_false, explode, explodeL, toD, toDL, toD1, Ty.size, Ty.sizeL, frz1, Fr.sub, Heap.sub, Tok.sub, SV.sub, SV.subL, add_def, Nat.reduceEqDiff, Nat.reduceAdd, Nat.zero_add, reduceCtorEq, ↓reduceIte, and_self, and_true, true_and, reduceIte, spOf, list_l, ex1]
    exact ⟨by simp, (hQ _ (fin_t (.bool true) rfl rfl hnm (by (repeat first | exact HLe.refl _ | refine HLe.cons (by simp only [hget, Nat.reduceEqDiff, reduceIte, ↓reduceIte] <;> rfl) ?_ | refine HLe.skip hnm (by omega) ?_ | refine HLe.frz hnm (by omega) ?_ | refine HLe.del hnm (by omega) ?_)) hsp)).1⟩
  · exact hsp.elim

def WBytes : Opts := mkW 22 [] [] []
def icBytes : IC := (.seq (.ops [(.u (.mov 2 (.c .nils)))]) (.seq (.ops [(.u (.mov 5 (.s 0))), (.u (.len 6 false (.s 5))), (.u (.mk 7 5 (.int .u8) 1 (.int 0) (.c (.int .i64 0)) (.s 6))), (.u (.mov 3 (.s 7)))]) (.seq (.seq (.ops [(.u (.mov 4 (.c (.int .i64 0))))]) (.block 0 (.loop (.seq (.seq (.ops [(.u (.mov 8 (.s 4))), (.u (.mov 9 (.s 0))), (.u (.len 10 false (.s 9))), (.u (.cmp 11 .lss (.s 8) (.s 10)))]) (.cond (.s 11) .skip (.exit 0))) (.seq (.block 1 (.ops [(.u (.mov 14 (.s 3))), (.u (.mov 15 (.s 0))), (.u (.mov 16 (.s 4))), (.u (.iad 17 5 (.int .u8) (.s 15) (.s 16))), (.u (.ld 18 (.int .u8) (.s 17))), (.u (.bsl 19 5 (.int .u8) [(.s 18)])), (.u (.app 20 5 (.int .u8) 1 (.s 14) (.s 19))), (.u (.mov 3 (.s 20)))])) (.ops [(.u (.mov 12 (.s 4))), (.u (.bin 13 .add .i64 (.s 12) (.c (.int .i64 1)))), (.u (.mov 4 (.s 13)))])))))) (.seq (.ops [(.u (.mov 21 (.s 3))), (.u (.mov 2 (.s 21)))]) .ret))))
def rsBytes : List RV := [(.t 2)]
theorem irBytes : fnIR Try.prog WBytes 10 = some (icBytes, rsBytes) := by kernel_rfl
def spBytes : FSpec := fun args h nx K => match args with
  | [.dat (.slice 5) d] => d.l.length ≤ 140737488355328 ∧ K (.vec nx) ((nx, .arr 5 (.int .u8) d.l) :: h)
  | _ => False
set_option maxHeartbeats 400000 in
theorem vBytes {E : Nat → Value} (hE : Errs E) : Valid Try.prog E G0 10 spBytes := by
  refine valid_go (W := WBytes) hE allValid_bot irBytes (by decide) (fun args h nx K hsp hok hnm => ?_)
  unfold spBytes at hsp
  split at hsp
  · rename_i d
    obtain ⟨hlen, hsp⟩ := hsp
    refine ⟨by simp [WBytes, mkW], fun Q hQ => ?_⟩
    obtain ⟨hd, _⟩ := hok
    simp only [SV.ok] at hd
    obtain ⟨hd1, hd2, hd3⟩ := Wt.slice hd
    generalize d.l = l at hsp hlen hd1 hd2 hd3
    subst hd1
    simp only [icBytes, go_rgn, rgnK_def, goD_nil, goD_u, contD_some, goD_call, callD_def, goD_g, gD_bool, evI_true, evI_false, bareK_some, go_seq, go_ops, go_cond, go_block, go_skip, go_ret, go_exit, den_nil, den_seq, den_seq_ret, den_seq_ext, den_blk, den_blk_ret, den_blk_ext, den_lp, den_lp_ret, den_lp_ext, goO_nil, goO_u, noCall, contK_some, goO_g, gK_bool, skipD_some, skipD_none, goO_call, goO_callf, frzK_def, callK_def, condK_bool, put_def, sput_def, ev, frOf, fget_cons, oget, ogets, argSs, argS, evMm, frzL, evBin, evWrp, evShf, evCmp, evUna, evNil, evBeq, evLd, evSt, evFad, evIad, evAad, evLen, evSln, evEls, evApp, evParts, evSlc, evNlc, evMif, evPck, hget, hset, hdel, cellAt, arrAt, setCellAt, setArrAt, takeC, lenC, svCells, SV.okc, SV.one, ldSV, Fw.isAgg, Nat.reduceMul, Nat.reduceSub, Nat.reduceLeDiff, Nat.lt_irrefl, Nat.not_lt_zero, Nat.reduceLT, Nat.add_eq_left, Nat.left_eq_add, List.nil_append, List.length_cons, List.length_nil, List.append_nil, List.cons_append, Nat.zero_lt_one, Bool.false_eq_true, Bool.not_true, Bool.not_false, eq_self, Option.map_some, Option.map_none, true_imp_iff, false_imp_iff, implies_true, Bool.true_eq_false, explode, explodeL, toD, toDL, toD1, Ty.size, Ty.sizeL, frz1, Fr.sub, Heap.sub, Tok.sub, SV.sub, SV.subL, add_def, Nat.reduceEqDiff, Nat.reduceAdd, Nat.zero_add, reduceCtorEq, ↓reduceIte, and_self, and_true, true_and, reduceIte, list_l]
    have hml : maxLen ≤ 9223372036854775807 := by decide
    refine ⟨by omega, ?_⟩
    refine go_loop (α := { i : Nat // i ≤ l.length }) (I := fun i => { f := [(4, .int .i64 i.1), (3, .vec nx), (0, .dat (.slice 5) (.list l))], h := (nx, .arr 5 (.int .u8) (l.take i.1)) :: h, nx := nx + 1 }) (μ := fun i => l.length - i.1) _ _ _ ⟨0, by omega⟩ ?_ (fun i B hB => ?_)
    · refine leq_id ?_ (by (simp only [frLt_cons, frLt_nil, and_true, SV.lt, SV.ltL, true_and] <;> omega)) (by (repeat first | exact HLe.refl _ | refine HLe.cons (by simp only [hget, Nat.reduceEqDiff, reduceIte, ↓reduceIte] <;> rfl) ?_ | refine HLe.skip hnm (by omega) ?_ | refine HLe.frz hnm (by omega) ?_ | refine HLe.del hnm (by omega) ?_)) (by (repeat first | exact HLt.mono hnm (by simp only [] <;> omega) | refine HLt.cons (by simp only [] <;> omega) (by simp only [Tok.lt, SV.ltL, SV.lt, and_true, true_and] <;> omega) ?_)) (by simp only [] <;> omega)
      simp only [frEq_cons, frEq_nil, frIn_cons, frIn_nil, and_true, fget_cons, Nat.reduceEqDiff, reduceIte, ↓reduceIte, true_and, SV.ren, SV.renL, ren1]
      rfl
    · obtain ⟨i, hi⟩ := i
      simp only [go_rgn, rgnK_def, goD_nil, goD_u, contD_some, goD_call, callD_def, goD_g, gD_bool, evI_true, evI_false, bareK_some, go_seq, go_ops, go_cond, go_block, go_skip, go_ret, go_exit, den_nil, den_seq, den_seq_ret, den_seq_ext, den_blk, den_blk_ret, den_blk_ext, den_lp, den_lp_ret, den_lp_ext, goO_nil, goO_u, noCall, contK_some, goO_g, gK_bool, skipD_some, skipD_none, goO_call, goO_callf, frzK_def, callK_def, condK_bool, put_def, sput_def, ev, frOf, fget_cons, oget, ogets, argSs, argS, evMm, frzL, evBin, evWrp, evShf, evCmp, evUna, evNil, evBeq, evLd, evSt, evFad, evIad, evAad, evLen, evSln, evEls, evApp, evParts, evSlc, evNlc, evMif, evPck, hget, hset, hdel, cellAt, arrAt, setCellAt, setArrAt, takeC, lenC, svCells, SV.okc, SV.one, ldSV, Fw.isAgg, Nat.reduceMul, Nat.reduceSub, Nat.reduceLeDiff, Nat.lt_irrefl, Nat.not_lt_zero, Nat.reduceLT, Nat.add_eq_left, Nat.left_eq_add, List.nil_append, List.length_cons, List.length_nil, List.append_nil, List.cons_append, Nat.zero_lt_one, Bool.false_eq_true, Bool.not_true, Bool.not_false, eq_self, Option.map_some, Option.map_none, true_imp_iff, false_imp_iff, implies_true, Bool.true_eq_false, explode, explodeL, toD, toDL, toD1, Ty.size, Ty.sizeL, frz1, Fr.sub, Heap.sub, Tok.sub, SV.sub, SV.subL, add_def, Nat.reduceEqDiff, Nat.reduceAdd, Nat.zero_add, reduceCtorEq, ↓reduceIte, and_self, and_true, true_and, reduceIte, list_l]
      refine ⟨fun hc => ?_, fun hc => ?_⟩
      · have hi' : i < l.length := by have := of_decide_eq_true hc; omega
        have hx : l.getD i .nil = l[i] := by rw [List.getD_eq_getElem?_getD, List.getElem?_eq_getElem hi']; rfl
        have hw := (hd3 _ (List.getElem_mem hi')).int
        have hte : l.take i ++ [.int (l.getD i .nil).i] = l.take (i + 1) := by rw [hx, ← hw.1, List.take_succ_eq_append_getElem hi']
        refine ⟨⟨by omega, by omega⟩, by rw [List.length_take]; omega, ⟨by rw [min_i64]; omega, by rw [max_i64]; omega⟩, hB _ ⟨i + 1, by omega⟩ (by simp only []; omega) ?_⟩
        rw [Int.toNat_natCast, hte]
        refine leq_ren1 nx (nx + 2) (by omega) (by simp only []; omega) ?_ (by (simp only [frLt_cons, frLt_nil, and_true, SV.lt, SV.ltL, true_and] <;> omega)) ?_ (by (repeat first | exact HLt.mono hnm (by simp only [] <;> omega) | refine HLt.cons (by simp only [] <;> omega) (by simp only [Tok.lt, SV.ltL, SV.lt, and_true, true_and] <;> omega) ?_)) (by simp only [] <;> omega)
        · simp only [frEq_cons, frEq_nil, frIn_cons, frIn_nil, and_true, fget_cons, Nat.reduceEqDiff, reduceIte, ↓reduceIte, true_and, SV.ren, SV.renL, ren1]
          simp
        · exact HRen.cons (by rw [ren1_eq]; simp [hget, Tok.ren]) (HRen.base hnm (Nat.le_refl _) (by (repeat first | exact HLe.refl _ | refine HLe.cons (by simp only [hget, Nat.reduceEqDiff, reduceIte, ↓reduceIte] <;> rfl) ?_ | refine HLe.skip hnm (by omega) ?_ | refine HLe.frz hnm (by omega) ?_ | refine HLe.del hnm (by omega) ?_)))
      · have e : i = l.length := by have := of_decide_eq_false hc; omega
        subst e
        refine (hQ _ (fin_vec rfl ?_ (Nat.le_refl _) hnm (by (repeat first | exact HLe.refl _ | refine HLe.cons (by simp only [hget, Nat.reduceEqDiff, reduceIte, ↓reduceIte] <;> rfl) ?_ | refine HLe.skip hnm (by omega) ?_ | refine HLe.frz hnm (by omega) ?_ | refine HLe.del hnm (by omega) ?_)) hsp)).1
        simp only [hget, if_true, List.take_length]
  · exact hsp.elim
end Go.Proofs.Ytilbonambilebaa
