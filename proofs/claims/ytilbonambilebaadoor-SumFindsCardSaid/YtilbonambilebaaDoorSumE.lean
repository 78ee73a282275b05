/- Chapter 1's functions: sealed, and opened. -/
import Derived.Test.YtilbonambilebaaDoorSumB
namespace Go.Proofs.YtilbonambilebaaDoor
set_option linter.unusedVariables false
set_option linter.unusedSimpArgs false
open Go Go.Fw Go.Crc

/-- A sum's four bytes. -/
def tl (c : W32) : List D := [.int (IntKind.u8.wrap (toI c)), .int (IntKind.u8.wrap ((toI c).fdiv (2 ^ min (Int.toNat 8) IntKind.u32.bits))), .int (IntKind.u8.wrap ((toI c).fdiv (2 ^ min (Int.toNat 16) IntKind.u32.bits))), .int (IntKind.u8.wrap ((toI c).fdiv (2 ^ min (Int.toNat 24) IntKind.u32.bits)))]
def sealD (l : List D) : List D := l ++ tl (Crc.add 0#32 l)
/-- What stands ahead of a sum, if it is right. -/
def openD (l : List D) : List D × D :=
  if l.length < 4 then ([], .err 0)
  else if sameD (sealD (l.take (l.length - 4))) l then (l.take (l.length - 4), .nil) else ([], .err 1)

def WSeal : Opts := mkWE 21 [] [] [] 60 [] []
def icSeal : IC := (.seq (.seq (.ops [(.u (.mov 2 (.c .nils)))]) (.tr [0])) (.seq (.seq (.ops [(.u (.mov 4 (.s 0))), (.u (.call 5 (.c (.clo 10 [])) [(.s 4)] [(some 5)] true)), (.u (.mov 3 (.s 5)))]) (.tr [0, 3])) (.seq (.seq (.ops [(.u (.mov 6 (.s 0))), (.u (.call 7 (.c (.clo 20 [])) [(.s 6)] [(some 5)] true)), (.u (.mov 8 (.s 3))), (.u (.cnv 9 .u8 (.s 8))), (.u (.mov 10 (.s 3))), (.u (.shf 11 .shr .u32 (.s 10) (.c (.int .u64 8)))), (.u (.cnv 12 .u8 (.s 11))), (.u (.mov 13 (.s 3))), (.u (.shf 14 .shr .u32 (.s 13) (.c (.int .u64 16)))), (.u (.cnv 15 .u8 (.s 14))), (.u (.mov 16 (.s 3))), (.u (.shf 17 .shr .u32 (.s 16) (.c (.int .u64 24)))), (.u (.cnv 18 .u8 (.s 17))), (.u (.bsl 19 5 (.int .u8) [(.s 9), (.s 12), (.s 15), (.s 18)])), (.u (.app 20 5 (.int .u8) 1 (.s 7) (.s 19))), (.u (.mov 2 (.s 20)))]) (.tr [2])) .ret)))
def rsSeal : List RV := [(.t 2)]
theorem irSeal : fnIR Tryd.prog WSeal 9 = some (icSeal, rsSeal) := by kernel_rfl
def spSeal : FSpec := fun args h nx K => match args with
  | [.dat (.slice 5) d] => d.l.length ≤ 1000000000 ∧ K (.vec nx) ((nx, .arr 5 (.int .u8) (sealD d.l)) :: h)
  | _ => False
set_option maxHeartbeats 400000 in
theorem vSeal {E : Nat → Value} (hE : Errs2 Tryd.prog (some 60) E) : Valid Tryd.prog E (gs []) 9 spSeal := by
  refine valid_go (W := WSeal) hE ((allValid_bot.add (vOf hE)).add (vCloneB hE)) irSeal (by decide) (fun args h nx K hsp hok hnm => ?_)
  unfold spSeal at hsp
  split at hsp
  · rename_i d
    obtain ⟨hlen, hsp⟩ := hsp
    refine ⟨by simp [WSeal, mkW, mkWE], fun Q hQ => ?_⟩
    simp only [icSeal, go_rgn, rgnK_def, goD_nil, goD_u, contD_some, goD_call, callD_clo, kD_app, goD_g, gD_T, gD_F, evI_true, evI_false, bareK_some, go_seq, go_ops, go_cond, go_block, go_skip, go_tr, trim_def, trim_nil, trim_cons, fget_nil, go_ret, go_exit, den_nil, den_seq, den_seq_ret, den_seq_ext, den_blk, den_blk_ret, den_blk_ext, den_lp, den_lp_ret, den_lp_ext, goO_nil, goO_u, noCall, contK_some, goO_slc, goO_mif, preF, preP, prePt, prePd, frzP, noSp, D.isNil, goO_nlq, nlqK_some, evNlq, goO_g, gK_T, gK_F, skipD_some, skipD_none, goO_call, goO_callf, frzK_def, callK_clo, kO_app, condK_ite, iteT, iteF, put_def, sput_def, ev, frOf, fget_cons, oget, ogets, argSs, argS, evMm, frzL, evBin, evWrp, evShf, evCmp, evUna, evNil, evBeq, evLd, evSt, evFad, evIad, evAad, evLen, evSln, evEls, evApp, evParts, evSlc, evNlc, evMif, evPck, evFld, evBld, evTas, evIfq, evSeq, evSl0, evBxf, List.set_cons_zero, List.set_cons_succ, List.set_nil, List.flatten_cons, List.flatten_nil, List.getD_cons_zero, List.getD_cons_succ, List.contains_cons,  hget, hset, hdel, cellAt, arrAt, setCellAt, setArrAt, takeC, lenC, svCells, SV.okc, SV.one, ldSV, Fw.isAgg, Nat.reduceMul, Nat.reduceSub, Nat.reduceLeDiff, Nat.lt_irrefl, Nat.not_lt_zero, Nat.reduceLT, Nat.add_eq_left, Nat.left_eq_add, List.nil_append, List.length_cons, List.length_nil, List.append_nil, List.cons_append, Nat.zero_lt_one, Bool.false_eq_true, Bool.not_true, Bool.not_false, eq_self, Option.map_some, Option.map_none, true_imp_iff, false_imp_iff, implies_true, Bool.true_eq_false, explode, explodeL, toD, toDL, toD1, Ty.size, Ty.sizeL, frz1, Fr.sub, Heap.sub, Tok.sub, SV.sub, SV.subL, add_def, Nat.reduceEqDiff, Nat.reduceAdd, Nat.zero_add, reduceCtorEq, ↓reduceIte, and_self, and_true, true_and, reduceIte, spOf, spCloneB, List.length_append]
    refine ⟨by omega, by omega, by omega, by omega, by omega, (hQ _ (fin_vec rfl (by simp only [hget, ↓reduceIte]; rfl) (by omega) hnm (by ((try simp only []); repeat first | exact HLe.refl _ | refine HLe.cons (by simp only [hget, Nat.reduceEqDiff, reduceIte, ↓reduceIte] <;> rfl) ?_ | refine HLe.skip hnm (by omega) ?_ | refine HLe.frz hnm (by omega) ?_ | refine HLe.del hnm (by omega) ?_)) hsp)).1⟩
  · exact hsp.elim

def WOpen : Opts := mkWE 23 [] [0, 1] [] 60 [0, 1] []
def icOpen : IC := (.seq (.seq (.ops [(.u (.mov 2 (.c .nils))), (.u (.mov 3 (.c (.dat .iface .nil))))]) (.tr [0])) (.seq (.seq (.ops [(.u (.mov 5 (.s 0))), (.u (.len 6 false (.s 5))), (.u (.bin 7 .sub .i64 (.s 6) (.c (.int .i64 4)))), (.u (.mov 4 (.s 7)))]) (.tr [0, 4])) (.seq (.seq (.seq (.ops [(.u (.mov 8 (.s 4))), (.u (.cmp 9 .lss (.s 8) (.c (.int .i64 0))))]) (.tr [9, 0, 4])) (.cond (.s 9) (.seq (.seq (.rgn [] [(false, (.u (.gld 10 0))), (false, (.u (.mov 2 (.c .nils)))), (false, (.u (.mov 3 (.s 10))))]) (.tr [2, 3])) .ret) .skip)) (.seq (.seq (.seq (.ops [(.u (.mov 11 (.s 0))), (.u (.mov 12 (.s 4))), (.u (.slc 13 5 (.s 11) none (some (.s 12)))), (.u (.call 14 (.c (.clo 9 [])) [(.s 13)] [(some 5)] true)), (.u (.mov 15 (.s 0))), (.u (.call 16 (.c (.clo 19 [])) [(.s 14), (.s 15)] [(some 5), (some 5)] true)), (.u (.una 17 .not (.s 16)))]) (.tr [17, 0, 4])) (.cond (.s 17) (.seq (.seq (.rgn [] [(false, (.u (.gld 18 1))), (false, (.u (.mov 2 (.c .nils)))), (false, (.u (.mov 3 (.s 18))))]) (.tr [2, 3])) .ret) .skip)) (.seq (.seq (.ops [(.u (.mov 19 (.s 0))), (.u (.mov 20 (.s 4))), (.u (.slc 21 5 (.s 19) none (some (.s 20)))), (.u (.call 22 (.c (.clo 20 [])) [(.s 21)] [(some 5)] true)), (.u (.mov 2 (.s 22))), (.u (.mov 3 (.c (.dat .iface .nil))))]) (.tr [2, 3])) .ret)))))
def rsOpen : List RV := [(.t 2), (.t 3)]
theorem irOpen : fnIR Tryd.prog WOpen 7 = some (icOpen, rsOpen) := by kernel_rfl
def spOpen : FSpec := fun args h nx K => match args with
  | [.dat (.slice 5) d] => d.l.length ≤ 1000000000 ∧ K (.tup [.vec nx, .dat .iface (openD d.l).2]) ((nx, .arr 5 (.int .u8) (openD d.l).1) :: h)
  | _ => False
set_option maxHeartbeats 400000 in
theorem vOpen {E : Nat → Value} (hE : Errs2 Tryd.prog (some 60) E) : Valid Tryd.prog E (gs [0, 1]) 7 spOpen := by
  refine valid_go (W := WOpen) hE (((allValid_bot.add (up (vEqualB hE))).add (up (vSeal hE))).add (up (vCloneB hE))) irOpen (by decide) (fun args h nx K hsp hok hnm => ?_)
  unfold spOpen at hsp
  split at hsp
  · rename_i d
    obtain ⟨hlen, hsp⟩ := hsp
    refine ⟨by simp [WOpen, mkW, mkWE], fun Q hQ => ?_⟩
    obtain ⟨hd, _⟩ := hok
    simp only [SV.ok] at hd
    obtain ⟨hd1, hd2, hd3⟩ := Wt.slice hd
    generalize d.l = l at hsp hlen hd1 hd2 hd3
    subst hd1
    simp only [icOpen, go_rgn, rgnK_def, goD_nil, goD_u, contD_some, goD_call, callD_clo, kD_app, goD_g, gD_T, gD_F, evI_true, evI_false, bareK_some, go_seq, go_ops, go_cond, go_block, go_skip, go_tr, trim_def, trim_nil, trim_cons, fget_nil, go_ret, go_exit, den_nil, den_seq, den_seq_ret, den_seq_ext, den_blk, den_blk_ret, den_blk_ext, den_lp, den_lp_ret, den_lp_ext, goO_nil, goO_u, noCall, contK_some, goO_slc, goO_mif, preF, preP, prePt, prePd, frzP, noSp, D.isNil, goO_nlq, nlqK_some, evNlq, goO_g, gK_T, gK_F, skipD_some, skipD_none, goO_call, goO_callf, frzK_def, callK_clo, kO_app, condK_ite, iteT, iteF, put_def, sput_def, ev, frOf, fget_cons, oget, ogets, argSs, argS, evMm, frzL, evBin, evWrp, evShf, evCmp, evUna, evNil, evBeq, evLd, evSt, evFad, evIad, evAad, evLen, evSln, evEls, evApp, evParts, evSlc, evNlc, evMif, evPck, evFld, evBld, evTas, evIfq, evSeq, evSl0, evBxf, List.set_cons_zero, List.set_cons_succ, List.set_nil, List.flatten_cons, List.flatten_nil, List.getD_cons_zero, List.getD_cons_succ, List.contains_cons,  hget, hset, hdel, cellAt, arrAt, setCellAt, setArrAt, takeC, lenC, svCells, SV.okc, SV.one, ldSV, Fw.isAgg, Nat.reduceMul, Nat.reduceSub, Nat.reduceLeDiff, Nat.lt_irrefl, Nat.not_lt_zero, Nat.reduceLT, Nat.add_eq_left, Nat.left_eq_add, List.nil_append, List.length_cons, List.length_nil, List.append_nil, List.cons_append, Nat.zero_lt_one, Bool.false_eq_true, Bool.not_true, Bool.not_false, eq_self, Option.map_some, Option.map_none, true_imp_iff, false_imp_iff, implies_true, Bool.true_eq_false, explode, explodeL, toD, toDL, toD1, Ty.size, Ty.sizeL, frz1, Fr.sub, Heap.sub, Tok.sub, SV.sub, SV.subL, add_def, Nat.reduceEqDiff, Nat.reduceAdd, Nat.zero_add, reduceCtorEq, ↓reduceIte, and_self, and_true, true_and, reduceIte, spSeal, spSameB, spCloneB, list_l]
    refine ⟨⟨by rw [min_i64]; omega, by rw [max_i64]; omega⟩, fun hc => ?_, fun hc => ?_⟩
    · have hl : l.length < 4 := by have := of_decide_eq_true hc; omega
      have e : openD l = ([], .err 0) := by unfold openD; rw [if_pos hl]
      rw [e] at hsp
      exact (hQ _ (fin_nilsT 5 (.int .u8) (.dat .iface (.err 0)) rfl rfl rfl (Nat.le_refl _) hnm (by ((try simp only []); repeat first | exact HLe.refl _ | refine HLe.cons (by simp only [hget, Nat.reduceEqDiff, reduceIte, ↓reduceIte] <;> rfl) ?_ | refine HLe.skip hnm (by omega) ?_ | refine HLe.frz hnm (by omega) ?_ | refine HLe.del hnm (by omega) ?_)) hsp)).1
    · have hl : ¬ l.length < 4 := by have := of_decide_eq_false hc; omega
      have en : Int.toNat ((l.length : Int) - 4) = l.length - 4 := by omega
      rw [en]
      have hl2 : (l.take (l.length - 4)).length = l.length - 4 := by simp
      refine ⟨⟨by omega, by omega⟩, by omega, fun hs => ?_, fun hs => ?_⟩
      · have hs' : sameD (sealD (l.take (l.length - 4))) l = false := by simpa using hs
        have e : openD l = ([], .err 1) := by unfold openD; rw [if_neg hl, if_neg (by rw [hs']; simp)]
        rw [e] at hsp
        exact (hQ _ (fin_nilsT 5 (.int .u8) (.dat .iface (.err 1)) rfl rfl rfl (by simp only [] <;> omega) hnm (by ((try simp only []); repeat first | exact HLe.refl _ | refine HLe.cons (by simp only [hget, Nat.reduceEqDiff, reduceIte, ↓reduceIte] <;> rfl) ?_ | refine HLe.skip hnm (by omega) ?_ | refine HLe.frz hnm (by omega) ?_ | refine HLe.del hnm (by omega) ?_)) hsp)).1
      · have hs' : sameD (sealD (l.take (l.length - 4))) l = true := by simpa using hs
        have e : openD l = (l.take (l.length - 4), .nil) := by unfold openD; rw [if_neg hl, if_pos hs']
        rw [e] at hsp
        refine ⟨⟨by omega, by omega⟩, by omega, (hQ _ (fin_vecT (.dat .iface .nil) rfl rfl rfl (by simp only [hget, ↓reduceIte]) (by omega) hnm (by ((try simp only []); repeat first | exact HLe.refl _ | refine HLe.cons (by simp only [hget, Nat.reduceEqDiff, reduceIte, ↓reduceIte] <;> rfl) ?_ | refine HLe.skip hnm (by omega) ?_ | refine HLe.frz hnm (by omega) ?_ | refine HLe.del hnm (by omega) ?_)) hsp)).1⟩
  · exact hsp.elim
end Go.Proofs.YtilbonambilebaaDoor
