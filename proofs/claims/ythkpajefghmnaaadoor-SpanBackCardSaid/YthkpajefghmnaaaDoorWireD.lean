/- Chapter 2's functions: bytes, and what is told of a reader. -/
import Derived.Test.YthkpajefghmnaaaDoorWireC
namespace Go.Proofs.YthkpajefghmnaaaDoor
set_option linter.unusedVariables false
set_option linter.unusedSimpArgs false
open Go Go.Fw Go.Wire

def WRAt : Opts := mkWE 7 [] [] [] 94 [] []
def icRAt : IC := (.seq (.seq (.ops [(.u (.mov 2 (.c (.int .i64 0))))]) (.tr [0])) (.seq (.seq (.ops [(.u (.mov 3 (.s 0))), (.u (.nlc 4 (.s 3))), (.u (.fad 5 1 1 (.int .i64) 70 (.s 4))), (.u (.ld 6 (.int .i64) (.s 5))), (.u (.mov 2 (.s 6)))]) (.tr [2])) .ret))
def rsRAt : List RV := [(.t 2)]
theorem irRAt : fnIR Tryd.prog WRAt 26 = some (icRAt, rsRAt) := by kernel_rfl
def spRAt : FSpec := fun args h nx K => match args with
  | [.ptr p 0] => rdOk (hget h p) ∧ K (.int .i64 (rdA (hget h p) : Int)) h
  | _ => False
theorem vRAt {E : Nat → Value} (hE : Errs2 Tryd.prog (some 94) E) : Valid Tryd.prog E (gs []) 26 spRAt := by
  refine valid_go (W := WRAt) hE allValid_bot irRAt (by decide) (fun args h nx K hsp hok hnm => ?_)
  unfold spRAt at hsp
  split at hsp
  · rename_i p
    obtain ⟨⟨l, a, e, hp, hal, hl9, hrng⟩, hK⟩ := hsp
    rw [hp, rdA_tok] at hK
    rw [rdTok_def] at hp
    refine ⟨by simp [WRAt, mkW, mkWE], fun Q hQ => ?_⟩
    simp only [icRAt, frpL, go_frp, go_rgn, rgnK_def, goD_nil, goD_u, contD_some, goD_call, callD_clo, kD_app, goD_g, gD_T, gD_F, gD_U, gK_U, evI_true, evI_false, bareK_some, go_seq, go_ops, go_cond, go_block, go_skip, go_tr, trim_def, trim_nil, trim_cons, fget_nil, go_ret, go_exit, den_nil, den_seq, den_seq_ret, den_seq_ext, den_blk, den_blk_ret, den_blk_ext, den_lp, den_lp_ret, den_lp_ext, goO_nil, goO_u, noCall, contK_some, goO_slc, goO_mif, preF, preP, prePt, prePd, frzP, noSp, D.isNil, goO_nlq, nlqK_some, evNlq, goO_g, gK_T, gK_F, skipD_some, skipD_none, goO_call, goO_callf, frzK_def, callK_clo, kO_app, condK_ite, iteT, iteF, put_def, sput_def, ev, frOf, fget_cons, oget, ogets, argSs, argS, evMm, frzL, evBin, evWrp, evShf, evCmp, evUna, evNil, evBeq, evLd, evSt, evFad, evIad, evAad, evLen, evSln, evEls, evApp, evParts, evSlc, evNlc, evMif, evPck, evFld, evBld, evTas, evIfq, evSeq, evSl0, evBxf, evAgl, evAgq, evBsf, List.set_cons_zero, List.set_cons_succ, List.set_nil, List.flatten_cons, List.flatten_nil, List.getD_cons_zero, List.getD_cons_succ, List.contains_cons,  hget, hset, hdel, cellAt, arrAt, setCellAt, setArrAt, takeC, lenC, svCells, SV.okc, SV.one, ldSV, Fw.isAgg, Nat.reduceMul, Nat.reduceSub, Nat.reduceLeDiff, Nat.lt_irrefl, Nat.not_lt_zero, Nat.reduceLT, Nat.add_eq_left, Nat.left_eq_add, List.nil_append, List.length_cons, List.length_nil, List.append_nil, List.cons_append, Nat.zero_lt_one, Bool.false_eq_true, Bool.not_true, Bool.not_false, eq_self, Option.map_some, Option.map_none, true_imp_iff, false_imp_iff, implies_true, Bool.true_eq_false, explode, explodeL, toD, toDL, toD1, Ty.size, Ty.sizeL, frz1, Fr.sub, Heap.sub, Tok.sub, SV.sub, SV.subL, add_def, Nat.reduceEqDiff, Nat.reduceAdd, Nat.zero_add, reduceCtorEq, ↓reduceIte, and_self, and_true, true_and, reduceIte, hp, List.getElem?_cons_zero, List.getElem?_cons_succ]
    exact (hQ _ (fin_t (.int .i64 a) rfl rfl hnm (by ((try simp only []); repeat first | exact HLe.refl _ | refine HLe.cons (by simp only [hget, Nat.reduceEqDiff, Nat.left_eq_add, Nat.add_eq_left, reduceIte, ↓reduceIte] <;> rfl) ?_ | refine HLe.skip hnm (by omega) ?_ | refine HLe.frz hnm (by omega) ?_ | refine HLe.del hnm (by omega) ?_)) hK)).1
  · exact hsp.elim

def WRLeft : Opts := mkWE 13 [] [] [] 94 [] []
def icRLeft : IC := (.seq (.seq (.ops [(.u (.mov 2 (.c (.int .i64 0))))]) (.tr [0])) (.seq (.seq (.rgn [] [(false, (.u (.mov 3 (.s 0)))), (false, (.u (.nlc 4 (.s 3)))), (false, (.u (.fad 5 0 0 (.slice 5) 70 (.s 4)))), (false, (.u (.ld 6 (.slice 5) (.s 5)))), (false, (.u (.len 7 false (.s 6)))), (false, (.u (.mov 8 (.s 0)))), (false, (.u (.nlc 9 (.s 8)))), (false, (.u (.fad 10 1 1 (.int .i64) 70 (.s 9)))), (false, (.u (.ld 11 (.int .i64) (.s 10)))), (false, (.u (.bin 12 .sub .i64 (.s 7) (.s 11)))), (false, (.u (.mov 2 (.s 12))))]) (.tr [2])) .ret))
def rsRLeft : List RV := [(.t 2)]
theorem irRLeft : fnIR Tryd.prog WRLeft 36 = some (icRLeft, rsRLeft) := by kernel_rfl
def spRLeft : FSpec := fun args h nx K => match args with
  | [.ptr p 0] => rdOk (hget h p) ∧ K (.int .i64 ((rdL (hget h p)).length - (rdA (hget h p) : Int))) h
  | _ => False
theorem vRLeft {E : Nat → Value} (hE : Errs2 Tryd.prog (some 94) E) : Valid Tryd.prog E (gs []) 36 spRLeft := by
  refine valid_go (W := WRLeft) hE allValid_bot irRLeft (by decide) (fun args h nx K hsp hok hnm => ?_)
  unfold spRLeft at hsp
  split at hsp
  · rename_i p
    obtain ⟨⟨l, a, e, hp, hal, hl9, hrng⟩, hK⟩ := hsp
    rw [hp, rdA_tok, rdL_tok] at hK
    rw [rdTok_def] at hp
    refine ⟨by simp [WRLeft, mkW, mkWE], fun Q hQ => ?_⟩
    simp only [icRLeft, frpL, go_frp, go_rgn, rgnK_def, goD_nil, goD_u, contD_some, goD_call, callD_clo, kD_app, goD_g, gD_T, gD_F, gD_U, gK_U, evI_true, evI_false, bareK_some, go_seq, go_ops, go_cond, go_block, go_skip, go_tr, trim_def, trim_nil, trim_cons, fget_nil, go_ret, go_exit, den_nil, den_seq, den_seq_ret, den_seq_ext, den_blk, den_blk_ret, den_blk_ext, den_lp, den_lp_ret, den_lp_ext, goO_nil, goO_u, noCall, contK_some, goO_slc, goO_mif, preF, preP, prePt, prePd, frzP, noSp, D.isNil, goO_nlq, nlqK_some, evNlq, goO_g, gK_T, gK_F, skipD_some, skipD_none, goO_call, goO_callf, frzK_def, callK_clo, kO_app, condK_ite, iteT, iteF, put_def, sput_def, ev, frOf, fget_cons, oget, ogets, argSs, argS, evMm, frzL, evBin, evWrp, evShf, evCmp, evUna, evNil, evBeq, evLd, evSt, evFad, evIad, evAad, evLen, evSln, evEls, evApp, evParts, evSlc, evNlc, evMif, evPck, evFld, evBld, evTas, evIfq, evSeq, evSl0, evBxf, evAgl, evAgq, evBsf, List.set_cons_zero, List.set_cons_succ, List.set_nil, List.flatten_cons, List.flatten_nil, List.getD_cons_zero, List.getD_cons_succ, List.contains_cons,  hget, hset, hdel, cellAt, arrAt, setCellAt, setArrAt, takeC, lenC, svCells, SV.okc, SV.one, ldSV, Fw.isAgg, Nat.reduceMul, Nat.reduceSub, Nat.reduceLeDiff, Nat.lt_irrefl, Nat.not_lt_zero, Nat.reduceLT, Nat.add_eq_left, Nat.left_eq_add, List.nil_append, List.length_cons, List.length_nil, List.append_nil, List.cons_append, Nat.zero_lt_one, Bool.false_eq_true, Bool.not_true, Bool.not_false, eq_self, Option.map_some, Option.map_none, true_imp_iff, false_imp_iff, implies_true, Bool.true_eq_false, explode, explodeL, toD, toDL, toD1, Ty.size, Ty.sizeL, frz1, Fr.sub, Heap.sub, Tok.sub, SV.sub, SV.subL, add_def, Nat.reduceEqDiff, Nat.reduceAdd, Nat.zero_add, reduceCtorEq, ↓reduceIte, and_self, and_true, true_and, reduceIte, hp, list_l, List.getElem?_cons_zero, List.getElem?_cons_succ]
    exact ⟨⟨by rw [min_i64]; omega, by rw [max_i64]; omega⟩, (hQ _ (fin_t (.int .i64 ((l.length : Int) - (a : Int))) rfl rfl hnm (by ((try simp only []); repeat first | exact HLe.refl _ | refine HLe.cons (by simp only [hget, Nat.reduceEqDiff, Nat.left_eq_add, Nat.add_eq_left, reduceIte, ↓reduceIte] <;> rfl) ?_ | refine HLe.skip hnm (by omega) ?_ | refine HLe.frz hnm (by omega) ?_ | refine HLe.del hnm (by omega) ?_)) hK)).1⟩
  · exact hsp.elim

def WRErr : Opts := mkWE 7 [] [] [] 94 [] []
def icRErr : IC := (.seq (.seq (.ops [(.u (.mov 2 (.c (.dat .iface .nil))))]) (.tr [0])) (.seq (.seq (.ops [(.u (.mov 3 (.s 0))), (.u (.nlc 4 (.s 3))), (.u (.fad 5 2 2 .iface 70 (.s 4))), (.u (.ld 6 .iface (.s 5))), (.u (.mov 2 (.s 6)))]) (.tr [2])) .ret))
def rsRErr : List RV := [(.t 2)]
theorem irRErr : fnIR Tryd.prog WRErr 24 = some (icRErr, rsRErr) := by kernel_rfl
def spRErr : FSpec := fun args h nx K => match args with
  | [.ptr p 0] => rdOk (hget h p) ∧ K (.dat .iface (rdE (hget h p))) h
  | _ => False
theorem vRErr {E : Nat → Value} (hE : Errs2 Tryd.prog (some 94) E) : Valid Tryd.prog E (gs []) 24 spRErr := by
  refine valid_go (W := WRErr) hE allValid_bot irRErr (by decide) (fun args h nx K hsp hok hnm => ?_)
  unfold spRErr at hsp
  split at hsp
  · rename_i p
    obtain ⟨⟨l, a, e, hp, hal, hl9, hrng⟩, hK⟩ := hsp
    rw [hp, rdE_tok] at hK
    rw [rdTok_def] at hp
    refine ⟨by simp [WRErr, mkW, mkWE], fun Q hQ => ?_⟩
    simp only [icRErr, frpL, go_frp, go_rgn, rgnK_def, goD_nil, goD_u, contD_some, goD_call, callD_clo, kD_app, goD_g, gD_T, gD_F, gD_U, gK_U, evI_true, evI_false, bareK_some, go_seq, go_ops, go_cond, go_block, go_skip, go_tr, trim_def, trim_nil, trim_cons, fget_nil, go_ret, go_exit, den_nil, den_seq, den_seq_ret, den_seq_ext, den_blk, den_blk_ret, den_blk_ext, den_lp, den_lp_ret, den_lp_ext, goO_nil, goO_u, noCall, contK_some, goO_slc, goO_mif, preF, preP, prePt, prePd, frzP, noSp, D.isNil, goO_nlq, nlqK_some, evNlq, goO_g, gK_T, gK_F, skipD_some, skipD_none, goO_call, goO_callf, frzK_def, callK_clo, kO_app, condK_ite, iteT, iteF, put_def, sput_def, ev, frOf, fget_cons, oget, ogets, argSs, argS, evMm, frzL, evBin, evWrp, evShf, evCmp, evUna, evNil, evBeq, evLd, evSt, evFad, evIad, evAad, evLen, evSln, evEls, evApp, evParts, evSlc, evNlc, evMif, evPck, evFld, evBld, evTas, evIfq, evSeq, evSl0, evBxf, evAgl, evAgq, evBsf, List.set_cons_zero, List.set_cons_succ, List.set_nil, List.flatten_cons, List.flatten_nil, List.getD_cons_zero, List.getD_cons_succ, List.contains_cons,  hget, hset, hdel, cellAt, arrAt, setCellAt, setArrAt, takeC, lenC, svCells, SV.okc, SV.one, ldSV, Fw.isAgg, Nat.reduceMul, Nat.reduceSub, Nat.reduceLeDiff, Nat.lt_irrefl, Nat.not_lt_zero, Nat.reduceLT, Nat.add_eq_left, Nat.left_eq_add, List.nil_append, List.length_cons, List.length_nil, List.append_nil, List.cons_append, Nat.zero_lt_one, Bool.false_eq_true, Bool.not_true, Bool.not_false, eq_self, Option.map_some, Option.map_none, true_imp_iff, false_imp_iff, implies_true, Bool.true_eq_false, explode, explodeL, toD, toDL, toD1, Ty.size, Ty.sizeL, frz1, Fr.sub, Heap.sub, Tok.sub, SV.sub, SV.subL, add_def, Nat.reduceEqDiff, Nat.reduceAdd, Nat.zero_add, reduceCtorEq, ↓reduceIte, and_self, and_true, true_and, reduceIte, hp, list_l, List.getElem?_cons_zero, List.getElem?_cons_succ]
    exact (hQ _ (fin_t (.dat .iface e) rfl rfl hnm (by ((try simp only []); repeat first | exact HLe.refl _ | refine HLe.cons (by simp only [hget, Nat.reduceEqDiff, Nat.left_eq_add, Nat.add_eq_left, reduceIte, ↓reduceIte] <;> rfl) ?_ | refine HLe.skip hnm (by omega) ?_ | refine HLe.frz hnm (by omega) ?_ | refine HLe.del hnm (by omega) ?_)) hK)).1
  · exact hsp.elim

def WRBool : Opts := mkWE 6 [] [0, 1, 3] [] 94 [0, 1, 3] []
def icRBool : IC := (.seq (.seq (.ops [(.u (.mov 2 (.c (.bool false))))]) (.tr [0])) (.seq (.seq (.ops [(.u (.mov 3 (.s 0))), (.u (.call 4 (.c (.clo 22 [])) [(.s 3), (.c (.int .i64 0)), (.c (.int .i64 1))] [none, none, none] true)), (.u (.cmp 5 .eql (.s 4) (.c (.int .i64 1)))), (.u (.mov 2 (.s 5)))]) (.tr [2])) .ret))
def rsRBool : List RV := [(.t 2)]
theorem irRBool : fnIR Tryd.prog WRBool 37 = some (icRBool, rsRBool) := by kernel_rfl
def spRBool : FSpec := fun args h nx K => match args with
  | [.ptr p 0] => rdOk (hget h p) ∧ K (.bool ((numF (rdL (hget h p)) (rdA (hget h p)) (rdE (hget h p)) 0 1).1 == 1)) (hset h p (rdTok (rdL (hget h p)) (numF (rdL (hget h p)) (rdA (hget h p)) (rdE (hget h p)) 0 1).2.1 (numF (rdL (hget h p)) (rdA (hget h p)) (rdE (hget h p)) 0 1).2.2))
  | _ => False
theorem vRBool {E : Nat → Value} (hE : Errs2 Tryd.prog (some 94) E) : Valid Tryd.prog E (gs GW) 37 spRBool := by
  refine valid_go (W := WRBool) hE (allValid_bot.add (vNum hE)) irRBool (by decide) (fun args h nx K hsp hok hnm => ?_)
  unfold spRBool at hsp
  split at hsp
  · rename_i p
    obtain ⟨⟨l, a, e, hp, hal, hl9, hrng⟩, hK⟩ := hsp
    have hro : rdOk (hget h p) := ⟨l, a, e, hp, hal, hl9, hrng⟩
    have hlt := HLt.hset (p := p) hnm (rd_lt (nx := nx) l (numF l a e 0 1).2.1 (numF l a e 0 1).2.2)
    rw [hp, rdL_tok, rdA_tok, rdE_tok] at hK
    refine ⟨by simp [WRBool, mkW, mkWE], fun Q hQ => ?_⟩
    simp only [icRBool, frpL, go_frp, go_rgn, rgnK_def, goD_nil, goD_u, contD_some, goD_call, callD_clo, kD_app, goD_g, gD_T, gD_F, gD_U, gK_U, evI_true, evI_false, bareK_some, go_seq, go_ops, go_cond, go_block, go_skip, go_tr, trim_def, trim_nil, trim_cons, fget_nil, go_ret, go_exit, den_nil, den_seq, den_seq_ret, den_seq_ext, den_blk, den_blk_ret, den_blk_ext, den_lp, den_lp_ret, den_lp_ext, goO_nil, goO_u, noCall, contK_some, goO_slc, goO_mif, preF, preP, prePt, prePd, frzP, noSp, D.isNil, goO_nlq, nlqK_some, evNlq, goO_g, gK_T, gK_F, skipD_some, skipD_none, goO_call, goO_callf, frzK_def, callK_clo, kO_app, condK_ite, iteT, iteF, put_def, sput_def, ev, frOf, fget_cons, oget, ogets, argSs, argS, evMm, frzL, evBin, evWrp, evShf, evCmp, evUna, evNil, evBeq, evLd, evSt, evFad, evIad, evAad, evLen, evSln, evEls, evApp, evParts, evSlc, evNlc, evMif, evPck, evFld, evBld, evTas, evIfq, evSeq, evSl0, evBxf, evAgl, evAgq, evBsf, List.set_cons_zero, List.set_cons_succ, List.set_nil, List.flatten_cons, List.flatten_nil, List.getD_cons_zero, List.getD_cons_succ, List.contains_cons,  hget, hset, hdel, cellAt, arrAt, setCellAt, setArrAt, takeC, lenC, svCells, SV.okc, SV.one, ldSV, Fw.isAgg, Nat.reduceMul, Nat.reduceSub, Nat.reduceLeDiff, Nat.lt_irrefl, Nat.not_lt_zero, Nat.reduceLT, Nat.add_eq_left, Nat.left_eq_add, List.nil_append, List.length_cons, List.length_nil, List.append_nil, List.cons_append, Nat.zero_lt_one, Bool.false_eq_true, Bool.not_true, Bool.not_false, eq_self, Option.map_some, Option.map_none, true_imp_iff, false_imp_iff, implies_true, Bool.true_eq_false, explode, explodeL, toD, toDL, toD1, Ty.size, Ty.sizeL, frz1, Fr.sub, Heap.sub, Tok.sub, SV.sub, SV.subL, add_def, Nat.reduceEqDiff, Nat.reduceAdd, Nat.zero_add, reduceCtorEq, ↓reduceIte, and_self, and_true, true_and, reduceIte, spNum, hro, hp, rdL_tok, rdA_tok, rdE_tok]
    refine ⟨?_, ?_⟩
    · rw [rdOk_tok]; exact ⟨hal, hl9, hrng⟩
    · refine (hQ _ ?_).1
      exact fin_t (.bool ((numF l a e 0 1).1 == 1)) rfl rfl hlt (HLe.refl _) hK
  · exact hsp.elim

theorem numF_cases {l : List D} {a : Nat} {e : D} {lo hi : Int} (hal : a ≤ l.length) : (∃ n k, e = .nil ∧ numF l a e lo hi = (n, a + k, .nil) ∧ lo ≤ n ∧ n ≤ hi ∧ a + k ≤ l.length) ∨ ∃ e', e'.isNil = false ∧ numF l a e lo hi = (0, a, e') := by
  unfold numF
  cases hen : e.isNil with
  | false => rw [if_neg (by simp)]; exact .inr ⟨e, hen, rfl⟩
  | true =>
    rw [if_pos rfl]
    cases hr : numR (nats (l.drop a)) 0 0 with
    | fin => exact .inr ⟨_, rfl, rfl⟩
    | shape => exact .inr ⟨_, rfl, rfl⟩
    | ok n k =>
      have hk := numR_len _ _ _ hr
      rw [nats_len, List.length_drop] at hk
      simp only []
      split
      · exact .inr ⟨_, rfl, rfl⟩
      · exact .inl ⟨n, k, isNil_eq hen, rfl, by omega, by omega, by omega⟩

/-- What comes of reading bytes. -/
def bytF (l : List D) (a : Nat) (e : D) (most : Int) : List D × Nat × D :=
  if (numF l a e 0 most).2.2.isNil = true then
    if (l.length : Int) < (numF l a e 0 most).2.1 + (numF l a e 0 most).1 then ([], a, atD a 1)
    else ((l.drop (numF l a e 0 most).2.1).take (numF l a e 0 most).1.toNat, (numF l a e 0 most).2.1 + (numF l a e 0 most).1.toNat, .nil)
  else ([], (numF l a e 0 most).2.1, (numF l a e 0 most).2.2)

def WRBytes : Opts := mkWE 54 [] [0, 1, 3] [] 94 [0, 1, 3] []
def icRBytes : IC := (.seq (.seq (.ops [(.u (.mov 4 (.c .nils)))]) (.tr [1, 0])) (.seq (.seq (.ops [(.u (.mov 7 (.s 0))), (.u (.nlc 8 (.s 7))), (.u (.fad 9 1 1 (.int .i64) 70 (.s 8))), (.u (.ld 10 (.int .i64) (.s 9))), (.u (.mov 5 (.s 10)))]) (.tr [1, 5, 0])) (.seq (.seq (.ops [(.u (.mov 11 (.s 0))), (.u (.mov 12 (.s 1))), (.u (.call 13 (.c (.clo 22 [])) [(.s 11), (.c (.int .i64 0)), (.s 12)] [none, none, none] true)), (.u (.mov 6 (.s 13)))]) (.tr [5, 6, 0])) (.seq (.seq (.seq (.ops [(.u (.mov 14 (.s 0))), (.u (.nlc 15 (.s 14))), (.u (.fad 16 2 2 .iface 70 (.s 15))), (.u (.ld 17 .iface (.s 16))), (.u (.eqb 18 true 0 (.s 17)))]) (.tr [18, 5, 6, 0])) (.cond (.s 18) (.seq (.seq (.ops [(.u (.mov 4 (.c .nils)))]) (.tr [4])) .ret) .skip)) (.seq (.seq (.seq (.ops [(.u (.mov 19 (.s 6))), (.u (.mov 20 (.s 0))), (.u (.call 21 (.c (.clo 36 [])) [(.s 20)] [none] true)), (.u (.cmp 22 .gtr (.s 19) (.s 21)))]) (.tr [22, 5, 6, 0])) (.cond (.s 22) (.seq (.seq (.ops [(.u (.mov 23 (.s 0))), (.u (.mov 24 (.s 5))), (.u (.nlc 25 (.s 23))), (.u (.fad 26 1 1 (.int .i64) 70 (.s 25))), (.u (.st (.int .i64) (.s 26) (.s 24)))]) (.tr [0])) (.seq (.seq (.ops [(.u (.mov 27 (.s 0))), (.u (.gld 28 1)), (.u (.call 29 (.c (.clo 48 [])) [(.s 27), (.s 28)] [none, none] true))]) (.tr [])) (.seq (.seq (.ops [(.u (.mov 4 (.c .nils)))]) (.tr [4])) .ret))) .skip)) (.seq (.seq (.ops [(.u (.mov 30 (.s 0))), (.u (.nlc 31 (.s 30))), (.u (.fad 32 1 1 (.int .i64) 70 (.s 31))), (.u (.ld 33 (.int .i64) (.s 32))), (.u (.mov 34 (.s 6))), (.u (.bin 35 .add .i64 (.s 33) (.s 34))), (.u (.nlc 36 (.s 30))), (.u (.fad 37 1 1 (.int .i64) 70 (.s 36))), (.u (.st (.int .i64) (.s 37) (.s 35)))]) (.tr [6, 0])) (.seq (.seq (.rgn [] [(false, (.u (.mov 38 (.s 0)))), (false, (.u (.nlc 39 (.s 38)))), (false, (.u (.fad 40 0 0 (.slice 5) 70 (.s 39)))), (false, (.u (.ld 41 (.slice 5) (.s 40)))), (false, (.u (.mov 42 (.s 0)))), (false, (.u (.nlc 43 (.s 42)))), (false, (.u (.fad 44 1 1 (.int .i64) 70 (.s 43)))), (false, (.u (.ld 45 (.int .i64) (.s 44)))), (false, (.u (.mov 46 (.s 6)))), (false, (.u (.bin 47 .sub .i64 (.s 45) (.s 46)))), (false, (.u (.mov 48 (.s 0)))), (false, (.u (.nlc 49 (.s 48)))), (false, (.u (.fad 50 1 1 (.int .i64) 70 (.s 49)))), (false, (.u (.ld 51 (.int .i64) (.s 50)))), (false, (.u (.slc 52 5 (.s 41) (some (.s 47)) (some (.s 51))))), (false, (.u (.call 53 (.c (.clo 46 [])) [(.s 52)] [(some 5)] true))), (false, (.u (.mov 4 (.s 53))))]) (.tr [4])) .ret)))))))
def rsRBytes : List RV := [(.t 4)]
theorem irRBytes : fnIR Tryd.prog WRBytes 35 = some (icRBytes, rsRBytes) := by kernel_rfl
def spRBytes : FSpec := fun args h nx K => match args with
  | [.ptr p 0, .int .i64 most] => rdOk (hget h p) ∧ K (.vec nx) ((nx, .arr 5 (.int .u8) (bytF (rdL (hget h p)) (rdA (hget h p)) (rdE (hget h p)) most).1) :: hset h p (rdTok (rdL (hget h p)) (bytF (rdL (hget h p)) (rdA (hget h p)) (rdE (hget h p)) most).2.1 (bytF (rdL (hget h p)) (rdA (hget h p)) (rdE (hget h p)) most).2.2))
  | _ => False
set_option maxHeartbeats 1000000 in
theorem vRBytes {E : Nat → Value} (hE : Errs2 Tryd.prog (some 94) E) : Valid Tryd.prog E (gs GW) 35 spRBytes := by
  refine valid_go (W := WRBytes) hE ((((allValid_bot.add (vNum hE)).add (up (vRLeft hE))).add (up (vFail hE))).add (up (vCloneB hE))) irRBytes (by decide) (fun args h nx K hsp hok hnm => ?_)
  unfold spRBytes at hsp
  split at hsp
  · rename_i p most
    obtain ⟨⟨l, a, e, hp, hal, hl9, hrng⟩, hK⟩ := hsp
    obtain ⟨_, hm, _⟩ := hok
    simp only [SV.ok] at hm
    have hro : rdOk (hget h p) := ⟨l, a, e, hp, hal, hl9, hrng⟩
    rw [hp, rdL_tok, rdA_tok, rdE_tok] at hK
    have hpx := (hnm p _ hp).1
    have hself : ∀ t, hget (hset h p t) p = some t := fun t => hget_hset' hp
    have hst : ∀ a' e', HLt (hset h p (rdTok l a' e')) nx := fun a' e' => HLt.hset hnm (rd_lt l a' e')
    have hwr : IntKind.i64.wrap most = most := wrap_self _ hm
    rw [min_i64, max_i64] at hm
    refine ⟨by simp [WRBytes, mkW, mkWE], fun Q hQ => ?_⟩
    have rr := rdTok_def l a e
    rcases numF_cases (l := l) (a := a) (e := e) (lo := 0) (hi := most) hal with ⟨n, k, rfl, hF, hn0, hnm', hak⟩ | ⟨e', he', hF⟩
    · obtain ⟨n, rfl⟩ := Int.eq_ofNat_of_zero_le hn0
      have hwn : IntKind.i64.wrap (n : Int) = n := wrap_self _ (by rw [min_i64, max_i64]; omega)
      rw [rr] at hp
      by_cases hc : (l.length : Int) < ((a + k : Nat) : Int) + (n : Int)
      · have hb : bytF l a .nil most = ([], a, atD a 1) := by unfold bytF; rw [hF]; rw [if_pos (by rfl)]; exact if_pos hc
        rw [hb] at hK
        have hdec : decide ((l.length : Int) - ((a + k : Nat) : Int) < (n : Int)) = true := decide_eq_true (by omega)
        simp only [icRBytes, frpL, go_frp, go_rgn, rgnK_def, goD_nil, goD_u, contD_some, goD_call, callD_clo, kD_app, goD_g, gD_T, gD_F, gD_U, gK_U, evI_true, evI_false, bareK_some, go_seq, go_ops, go_cond, go_block, go_skip, go_tr, trim_def, trim_nil, trim_cons, fget_nil, go_ret, go_exit, den_nil, den_seq, den_seq_ret, den_seq_ext, den_blk, den_blk_ret, den_blk_ext, den_lp, den_lp_ret, den_lp_ext, goO_nil, goO_u, noCall, contK_some, goO_slc, goO_mif, preF, preP, prePt, prePd, frzP, noSp, D.isNil, goO_nlq, nlqK_some, evNlq, goO_g, gK_T, gK_F, skipD_some, skipD_none, goO_call, goO_callf, frzK_def, callK_clo, kO_app, condK_ite, iteT, iteF, put_def, sput_def, ev, frOf, fget_cons, oget, ogets, argSs, argS, evMm, frzL, evBin, evWrp, evShf, evCmp, evUna, evNil, evBeq, evLd, evSt, evFad, evIad, evAad, evLen, evSln, evEls, evApp, evParts, evSlc, evNlc, evMif, evPck, evFld, evBld, evTas, evIfq, evSeq, evSl0, evBxf, evAgl, evAgq, evBsf, List.set_cons_zero, List.set_cons_succ, List.set_nil, List.flatten_cons, List.flatten_nil, List.getD_cons_zero, List.getD_cons_succ, List.contains_cons,  hget, hset, hdel, cellAt, arrAt, setCellAt, setArrAt, takeC, lenC, svCells, SV.okc, SV.one, ldSV, Fw.isAgg, Nat.reduceMul, Nat.reduceSub, Nat.reduceLeDiff, Nat.lt_irrefl, Nat.not_lt_zero, Nat.reduceLT, Nat.add_eq_left, Nat.left_eq_add, List.nil_append, List.length_cons, List.length_nil, List.append_nil, List.cons_append, Nat.zero_lt_one, Bool.false_eq_true, Bool.not_true, Bool.not_false, eq_self, Option.map_some, Option.map_none, true_imp_iff, false_imp_iff, implies_true, Bool.true_eq_false, explode, explodeL, toD, toDL, toD1, Ty.size, Ty.sizeL, frz1, Fr.sub, Heap.sub, Tok.sub, SV.sub, SV.subL, add_def, Nat.reduceEqDiff, Nat.reduceAdd, Nat.zero_add, reduceCtorEq, ↓reduceIte, and_self, and_true, true_and, reduceIte, spNum, spRLeft, spFail, spCloneB, hro, hp, hwr, rdL_c, rdA_c, rdE_c, rdOk_c, hF, hself, hset_hset, hwn, hdec, rdTok_def, List.getElem?_cons_zero, List.getElem?_cons_succ]
        refine ⟨⟨hal, hl9, hrng⟩, ⟨hak, hl9, hrng⟩, ⟨hal, hl9, hrng⟩, (hQ _ ?_).1⟩
        exact fin_nils 5 (.int .u8) rfl (by simp only [] <;> omega) (hst _ _) (HLe.refl _) hK
      · have hb : bytF l a .nil most = ((l.drop (a + k)).take n, a + k + n, .nil) := by unfold bytF; rw [hF]; rw [if_pos (by rfl)]; exact if_neg hc
        rw [hb] at hK
        have hdec : decide ((l.length : Int) - ((a + k : Nat) : Int) < (n : Int)) = false := decide_eq_false (by omega)
        simp only [icRBytes, frpL, go_frp, go_rgn, rgnK_def, goD_nil, goD_u, contD_some, goD_call, callD_clo, kD_app, goD_g, gD_T, gD_F, gD_U, gK_U, evI_true, evI_false, bareK_some, go_seq, go_ops, go_cond, go_block, go_skip, go_tr, trim_def, trim_nil, trim_cons, fget_nil, go_ret, go_exit, den_nil, den_seq, den_seq_ret, den_seq_ext, den_blk, den_blk_ret, den_blk_ext, den_lp, den_lp_ret, den_lp_ext, goO_nil, goO_u, noCall, contK_some, goO_slc, goO_mif, preF, preP, prePt, prePd, frzP, noSp, D.isNil, goO_nlq, nlqK_some, evNlq, goO_g, gK_T, gK_F, skipD_some, skipD_none, goO_call, goO_callf, frzK_def, callK_clo, kO_app, condK_ite, iteT, iteF, put_def, sput_def, ev, frOf, fget_cons, oget, ogets, argSs, argS, evMm, frzL, evBin, evWrp, evShf, evCmp, evUna, evNil, evBeq, evLd, evSt, evFad, evIad, evAad, evLen, evSln, evEls, evApp, evParts, evSlc, evNlc, evMif, evPck, evFld, evBld, evTas, evIfq, evSeq, evSl0, evBxf, evAgl, evAgq, evBsf, List.set_cons_zero, List.set_cons_succ, List.set_nil, List.flatten_cons, List.flatten_nil, List.getD_cons_zero, List.getD_cons_succ, List.contains_cons,  hget, hset, hdel, cellAt, arrAt, setCellAt, setArrAt, takeC, lenC, svCells, SV.okc, SV.one, ldSV, Fw.isAgg, Nat.reduceMul, Nat.reduceSub, Nat.reduceLeDiff, Nat.lt_irrefl, Nat.not_lt_zero, Nat.reduceLT, Nat.add_eq_left, Nat.left_eq_add, List.nil_append, List.length_cons, List.length_nil, List.append_nil, List.cons_append, Nat.zero_lt_one, Bool.false_eq_true, Bool.not_true, Bool.not_false, eq_self, Option.map_some, Option.map_none, true_imp_iff, false_imp_iff, implies_true, Bool.true_eq_false, explode, explodeL, toD, toDL, toD1, Ty.size, Ty.sizeL, frz1, Fr.sub, Heap.sub, Tok.sub, SV.sub, SV.subL, add_def, Nat.reduceEqDiff, Nat.reduceAdd, Nat.zero_add, reduceCtorEq, ↓reduceIte, and_self, and_true, true_and, reduceIte, spNum, spRLeft, spFail, spCloneB, hro, hp, hwr, rdL_c, rdA_c, rdE_c, rdOk_c, hF, hself, hset_hset, hwn, hdec, rdTok_def, List.getElem?_cons_zero, List.getElem?_cons_succ]
        have e1 : ((a + k : Nat) : Int) + (n : Int) - (n : Int) = ((a + k : Nat) : Int) := by omega
        have e2 : ((a + k : Nat) : Int) + (n : Int) = ((a + k + n : Nat) : Int) := by omega
        simp only [e1, list_l]
        simp only [e2, Int.toNat_natCast]
        have e3 : List.drop (a + k) (List.take (a + k + n) l) = (l.drop (a + k)).take n := by rw [List.drop_take]; congr 1; omega
        rw [e3]
        refine ⟨⟨hal, hl9, hrng⟩, ⟨hak, hl9, hrng⟩, ⟨by rw [min_i64]; omega, by rw [max_i64]; omega⟩, ⟨by rw [min_i64]; omega, by rw [max_i64]; omega⟩, by omega, ?_, (hQ _ ?_).1⟩
        · have := List.length_take_le n (l.drop (a + k))
          rw [List.length_take, List.length_drop]; omega
        · exact fin_vec (m := nx + 64 + 64) rfl (hget_cons_self _ _ _) (by omega) (hst _ _) (HLe.skip (hst _ _) (by omega) (HLe.refl _)) hK
    · have hb : bytF l a e most = ([], a, e') := by unfold bytF; rw [hF]; exact if_neg (by simp [he'])
      rw [hb] at hK
      rw [rr] at hp
      have hen2 := he'
      simp only [D.isNil] at hen2
      simp only [icRBytes, frpL, go_frp, go_rgn, rgnK_def, goD_nil, goD_u, contD_some, goD_call, callD_clo, kD_app, goD_g, gD_T, gD_F, gD_U, gK_U, evI_true, evI_false, bareK_some, go_seq, go_ops, go_cond, go_block, go_skip, go_tr, trim_def, trim_nil, trim_cons, fget_nil, go_ret, go_exit, den_nil, den_seq, den_seq_ret, den_seq_ext, den_blk, den_blk_ret, den_blk_ext, den_lp, den_lp_ret, den_lp_ext, goO_nil, goO_u, noCall, contK_some, goO_slc, goO_mif, preF, preP, prePt, prePd, frzP, noSp, D.isNil, goO_nlq, nlqK_some, evNlq, goO_g, gK_T, gK_F, skipD_some, skipD_none, goO_call, goO_callf, frzK_def, callK_clo, kO_app, condK_ite, iteT, iteF, put_def, sput_def, ev, frOf, fget_cons, oget, ogets, argSs, argS, evMm, frzL, evBin, evWrp, evShf, evCmp, evUna, evNil, evBeq, evLd, evSt, evFad, evIad, evAad, evLen, evSln, evEls, evApp, evParts, evSlc, evNlc, evMif, evPck, evFld, evBld, evTas, evIfq, evSeq, evSl0, evBxf, evAgl, evAgq, evBsf, List.set_cons_zero, List.set_cons_succ, List.set_nil, List.flatten_cons, List.flatten_nil, List.getD_cons_zero, List.getD_cons_succ, List.contains_cons,  hget, hset, hdel, cellAt, arrAt, setCellAt, setArrAt, takeC, lenC, svCells, SV.okc, SV.one, ldSV, Fw.isAgg, Nat.reduceMul, Nat.reduceSub, Nat.reduceLeDiff, Nat.lt_irrefl, Nat.not_lt_zero, Nat.reduceLT, Nat.add_eq_left, Nat.left_eq_add, List.nil_append, List.length_cons, List.length_nil, List.append_nil, List.cons_append, Nat.zero_lt_one, Bool.false_eq_true, Bool.not_true, Bool.not_false, eq_self, Option.map_some, Option.map_none, true_imp_iff, false_imp_iff, implies_true, Bool.true_eq_false, explode, explodeL, toD, toDL, toD1, Ty.size, Ty.sizeL, frz1, Fr.sub, Heap.sub, Tok.sub, SV.sub, SV.subL, add_def, Nat.reduceEqDiff, Nat.reduceAdd, Nat.zero_add, reduceCtorEq, ↓reduceIte, and_self, and_true, true_and, reduceIte, spNum, spRLeft, spFail, spCloneB, hro, hp, hwr, rdL_c, rdA_c, rdE_c, rdOk_c, rdL_tok, rdA_tok, rdE_tok, rdOk_tok, hF, hself, hen2, rdTok_def, List.getElem?_cons_zero, List.getElem?_cons_succ]
      refine ⟨⟨hal, hl9, hrng⟩, (hQ _ ?_).1⟩
      exact fin_nils 5 (.int .u8) rfl (by simp only [] <;> omega) (hst _ _) (HLe.refl _) hK
  · exact hsp.elim
end Go.Proofs.YthkpajefghmnaaaDoor
