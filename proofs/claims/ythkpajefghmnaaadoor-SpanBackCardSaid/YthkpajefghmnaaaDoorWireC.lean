/- Chapter 2's functions: the reader's, behind a number. -/
import Derived.Test.YthkpajefghmnaaaDoorWireB
namespace Go.Proofs.YthkpajefghmnaaaDoor
set_option linter.unusedVariables false
set_option linter.unusedSimpArgs false
open Go Go.Fw Go.Wire

def WNewReader : Opts := mkWE 7 [] [] [] 94 [] []
def icNewReader : IC := (.seq (.seq (.ops [(.u (.mov 2 (.c (.raw (.pointer none)))))]) (.tr [0])) (.seq (.seq (.ops [(.u (.mov 3 (.s 0))), (.u (.call 4 (.c (.clo 46 [])) [(.s 3)] [(some 5)] true)), (.u (.bld 5 [[.nils], [(.int .i64 0)], [(.dat .iface .nil)]] [(0, (.s 4))])), (.u (.box 6 0 (.s 5))), (.u (.mov 2 (.s 6)))]) (.tr [2])) .ret))
def rsNewReader : List RV := [(.t 2)]
theorem irNewReader : fnIR Tryd.prog WNewReader 21 = some (icNewReader, rsNewReader) := by kernel_rfl
def spNewReader : FSpec := fun args h nx K => match args with
  | [.dat (.slice 5) d] => d.l.length ≤ 1000000000 ∧ K (.ptr nx 0) ((nx, rdTok d.l 0 .nil) :: h)
  | _ => False
theorem vNewReader {E : Nat → Value} (hE : Errs2 Tryd.prog (some 94) E) : Valid Tryd.prog E (gs []) 21 spNewReader := by
  refine valid_go (W := WNewReader) hE (allValid_bot.add (vCloneB hE)) irNewReader (by decide) (fun args h nx K hsp hok hnm => ?_)
  unfold spNewReader at hsp
  split at hsp
  · rename_i d
    obtain ⟨hlen, hK⟩ := hsp
    refine ⟨by simp [WNewReader, mkW, mkWE], fun Q hQ => ?_⟩
    simp only [icNewReader, frpL, go_frp, go_rgn, rgnK_def, goD_nil, goD_u, contD_some, goD_call, callD_clo, kD_app, goD_g, gD_T, gD_F, gD_U, gK_U, evI_true, evI_false, bareK_some, go_seq, go_ops, go_cond, go_block, go_skip, go_tr, trim_def, trim_nil, trim_cons, fget_nil, go_ret, go_exit, den_nil, den_seq, den_seq_ret, den_seq_ext, den_blk, den_blk_ret, den_blk_ext, den_lp, den_lp_ret, den_lp_ext, goO_nil, goO_u, noCall, contK_some, goO_slc, goO_mif, preF, preP, prePt, prePd, frzP, noSp, D.isNil, goO_nlq, nlqK_some, evNlq, goO_g, gK_T, gK_F, skipD_some, skipD_none, goO_call, goO_callf, frzK_def, callK_clo, kO_app, condK_ite, iteT, iteF, put_def, sput_def, ev, frOf, fget_cons, oget, ogets, argSs, argS, evMm, frzL, evBin, evWrp, evShf, evCmp, evUna, evNil, evBeq, evLd, evSt, evFad, evIad, evAad, evLen, evSln, evEls, evApp, evParts, evSlc, evNlc, evMif, evPck, evFld, evBld, evTas, evIfq, evSeq, evSl0, evBxf, evAgl, evAgq, evBsf, List.set_cons_zero, List.set_cons_succ, List.set_nil, List.flatten_cons, List.flatten_nil, List.getD_cons_zero, List.getD_cons_succ, List.contains_cons,  hget, hset, hdel, cellAt, arrAt, setCellAt, setArrAt, takeC, lenC, svCells, SV.okc, SV.one, ldSV, Fw.isAgg, Nat.reduceMul, Nat.reduceSub, Nat.reduceLeDiff, Nat.lt_irrefl, Nat.not_lt_zero, Nat.reduceLT, Nat.add_eq_left, Nat.left_eq_add, List.nil_append, List.length_cons, List.length_nil, List.append_nil, List.cons_append, Nat.zero_lt_one, Bool.false_eq_true, Bool.not_true, Bool.not_false, eq_self, Option.map_some, Option.map_none, true_imp_iff, false_imp_iff, implies_true, Bool.true_eq_false, explode, explodeL, toD, toDL, toD1, Ty.size, Ty.sizeL, frz1, Fr.sub, Heap.sub, Tok.sub, SV.sub, SV.subL, add_def, Nat.reduceEqDiff, Nat.reduceAdd, Nat.zero_add, reduceCtorEq, ↓reduceIte, and_self, and_true, true_and, reduceIte, spCloneB]
    refine ⟨by omega, ?_⟩
    refine (hQ _ (fin_new (p := True ∧ True) (xs := [.ptr (nx + 64) 0]) rfl ⟨trivial, trivial⟩ (.frz nx (.refl _)) [(nx, nx + 64)] (.ptr nx 0) [(nx, rdTok d.l 0 .nil)] (by simp) (by simp) (by simp) ?_ ?_ rfl ?_ ?_ hnm ?_ hK)).1
    · simp only [mkR, frpL, go_frp, go_rgn, rgnK_def, goD_nil, goD_u, contD_some, goD_call, callD_clo, kD_app, goD_g, gD_T, gD_F, gD_U, gK_U, evI_true, evI_false, bareK_some, go_seq, go_ops, go_cond, go_block, go_skip, go_tr, trim_def, trim_nil, trim_cons, fget_nil, go_ret, go_exit, den_nil, den_seq, den_seq_ret, den_seq_ext, den_blk, den_blk_ret, den_blk_ext, den_lp, den_lp_ret, den_lp_ext, goO_nil, goO_u, noCall, contK_some, goO_slc, goO_mif, preF, preP, prePt, prePd, frzP, noSp, D.isNil, goO_nlq, nlqK_some, evNlq, goO_g, gK_T, gK_F, skipD_some, skipD_none, goO_call, goO_callf, frzK_def, callK_clo, kO_app, condK_ite, iteT, iteF, put_def, sput_def, ev, frOf, fget_cons, oget, ogets, argSs, argS, evMm, frzL, evBin, evWrp, evShf, evCmp, evUna, evNil, evBeq, evLd, evSt, evFad, evIad, evAad, evLen, evSln, evEls, evApp, evParts, evSlc, evNlc, evMif, evPck, evFld, evBld, evTas, evIfq, evSeq, evSl0, evBxf, evAgl, evAgq, evBsf, List.set_cons_zero, List.set_cons_succ, List.set_nil, List.flatten_cons, List.flatten_nil, List.getD_cons_zero, List.getD_cons_succ, List.contains_cons,  hget, hset, hdel, cellAt, arrAt, setCellAt, setArrAt, takeC, lenC, svCells, SV.okc, SV.one, ldSV, Fw.isAgg, Nat.reduceMul, Nat.reduceSub, Nat.reduceLeDiff, Nat.lt_irrefl, Nat.not_lt_zero, Nat.reduceLT, Nat.add_eq_left, Nat.left_eq_add, List.nil_append, List.length_cons, List.length_nil, List.append_nil, List.cons_append, Nat.zero_lt_one, Bool.false_eq_true, Bool.not_true, Bool.not_false, eq_self, Option.map_some, Option.map_none, true_imp_iff, false_imp_iff, implies_true, Bool.true_eq_false, explode, explodeL, toD, toDL, toD1, Ty.size, Ty.sizeL, frz1, Fr.sub, Heap.sub, Tok.sub, SV.sub, SV.subL, add_def, Nat.reduceEqDiff, Nat.reduceAdd, Nat.zero_add, reduceCtorEq, ↓reduceIte, and_self, and_true, true_and, reduceIte, SV.ren, rens]
    · show nx < nx + 64; omega
    · simp only [rdTok, List.mem_singleton, forall_eq, Tok.lt, SV.ltL, SV.lt, and_true, true_and]; omega
    · simp only [mkR, frpL, go_frp, go_rgn, rgnK_def, goD_nil, goD_u, contD_some, goD_call, callD_clo, kD_app, goD_g, gD_T, gD_F, gD_U, gK_U, evI_true, evI_false, bareK_some, go_seq, go_ops, go_cond, go_block, go_skip, go_tr, trim_def, trim_nil, trim_cons, fget_nil, go_ret, go_exit, den_nil, den_seq, den_seq_ret, den_seq_ext, den_blk, den_blk_ret, den_blk_ext, den_lp, den_lp_ret, den_lp_ext, goO_nil, goO_u, noCall, contK_some, goO_slc, goO_mif, preF, preP, prePt, prePd, frzP, noSp, D.isNil, goO_nlq, nlqK_some, evNlq, goO_g, gK_T, gK_F, skipD_some, skipD_none, goO_call, goO_callf, frzK_def, callK_clo, kO_app, condK_ite, iteT, iteF, put_def, sput_def, ev, frOf, fget_cons, oget, ogets, argSs, argS, evMm, frzL, evBin, evWrp, evShf, evCmp, evUna, evNil, evBeq, evLd, evSt, evFad, evIad, evAad, evLen, evSln, evEls, evApp, evParts, evSlc, evNlc, evMif, evPck, evFld, evBld, evTas, evIfq, evSeq, evSl0, evBxf, evAgl, evAgq, evBsf, List.set_cons_zero, List.set_cons_succ, List.set_nil, List.flatten_cons, List.flatten_nil, List.getD_cons_zero, List.getD_cons_succ, List.contains_cons,  hget, hset, hdel, cellAt, arrAt, setCellAt, setArrAt, takeC, lenC, svCells, SV.okc, SV.one, ldSV, Fw.isAgg, Nat.reduceMul, Nat.reduceSub, Nat.reduceLeDiff, Nat.lt_irrefl, Nat.not_lt_zero, Nat.reduceLT, Nat.add_eq_left, Nat.left_eq_add, List.nil_append, List.length_cons, List.length_nil, List.append_nil, List.cons_append, Nat.zero_lt_one, Bool.false_eq_true, Bool.not_true, Bool.not_false, eq_self, Option.map_some, Option.map_none, true_imp_iff, false_imp_iff, implies_true, Bool.true_eq_false, explode, explodeL, toD, toDL, toD1, Ty.size, Ty.sizeL, frz1, Fr.sub, Heap.sub, Tok.sub, SV.sub, SV.subL, add_def, Nat.reduceEqDiff, Nat.reduceAdd, Nat.zero_add, reduceCtorEq, ↓reduceIte, and_self, and_true, true_and, reduceIte, rens, rdTok, List.mem_singleton, forall_eq, Tok.ren, SV.ren, SV.renL]
      rfl
    · simp only [mkR, frpL, go_frp, go_rgn, rgnK_def, goD_nil, goD_u, contD_some, goD_call, callD_clo, kD_app, goD_g, gD_T, gD_F, gD_U, gK_U, evI_true, evI_false, bareK_some, go_seq, go_ops, go_cond, go_block, go_skip, go_tr, trim_def, trim_nil, trim_cons, fget_nil, go_ret, go_exit, den_nil, den_seq, den_seq_ret, den_seq_ext, den_blk, den_blk_ret, den_blk_ext, den_lp, den_lp_ret, den_lp_ext, goO_nil, goO_u, noCall, contK_some, goO_slc, goO_mif, preF, preP, prePt, prePd, frzP, noSp, D.isNil, goO_nlq, nlqK_some, evNlq, goO_g, gK_T, gK_F, skipD_some, skipD_none, goO_call, goO_callf, frzK_def, callK_clo, kO_app, condK_ite, iteT, iteF, put_def, sput_def, ev, frOf, fget_cons, oget, ogets, argSs, argS, evMm, frzL, evBin, evWrp, evShf, evCmp, evUna, evNil, evBeq, evLd, evSt, evFad, evIad, evAad, evLen, evSln, evEls, evApp, evParts, evSlc, evNlc, evMif, evPck, evFld, evBld, evTas, evIfq, evSeq, evSl0, evBxf, evAgl, evAgq, evBsf, List.set_cons_zero, List.set_cons_succ, List.set_nil, List.flatten_cons, List.flatten_nil, List.getD_cons_zero, List.getD_cons_succ, List.contains_cons,  hget, hset, hdel, cellAt, arrAt, setCellAt, setArrAt, takeC, lenC, svCells, SV.okc, SV.one, ldSV, Fw.isAgg, Nat.reduceMul, Nat.reduceSub, Nat.reduceLeDiff, Nat.lt_irrefl, Nat.not_lt_zero, Nat.reduceLT, Nat.add_eq_left, Nat.left_eq_add, List.nil_append, List.length_cons, List.length_nil, List.append_nil, List.cons_append, Nat.zero_lt_one, Bool.false_eq_true, Bool.not_true, Bool.not_false, eq_self, Option.map_some, Option.map_none, true_imp_iff, false_imp_iff, implies_true, Bool.true_eq_false, explode, explodeL, toD, toDL, toD1, Ty.size, Ty.sizeL, frz1, Fr.sub, Heap.sub, Tok.sub, SV.sub, SV.subL, add_def, Nat.reduceEqDiff, Nat.reduceAdd, Nat.zero_add, reduceCtorEq, ↓reduceIte, and_self, and_true, true_and, reduceIte]
      ((try simp only []); repeat first | exact HLe.refl _ | refine HLe.cons (by simp only [hget, Nat.reduceEqDiff, Nat.left_eq_add, Nat.add_eq_left, reduceIte, ↓reduceIte] <;> rfl) ?_ | refine HLe.skip hnm (by omega) ?_ | refine HLe.frz hnm (by omega) ?_ | refine HLe.del hnm (by omega) ?_)
  · exact hsp.elim

theorem rdOk_c (l : List D) (a : Nat) (e : D) : rdOk (some (.cells [.dat (.slice 5) (.list l), .int .i64 (a : Int), .dat .iface e])) = (a ≤ l.length ∧ l.length ≤ 1000000000 ∧ RngB l) := rdOk_tok l a e
theorem rdL_c (t : Ty) (l : List D) (x y : SV) : rdL (some (.cells [.dat t (.list l), x, y])) = l := rfl
theorem rdA_c (k : IntKind) (a : Nat) (x y : SV) : rdA (some (.cells [x, .int k (a : Int), y])) = a := rfl
theorem rdE_c (t : Ty) (e : D) (x y : SV) : rdE (some (.cells [x, y, .dat t e])) = e := by
  cases x <;> cases y <;> rfl
theorem rd_lt {nx : Nat} (l : List D) (a : Nat) (e : D) : (rdTok l a e).lt nx := ⟨trivial, trivial, trivial, trivial⟩

def WFail : Opts := mkWE 15 [] [] [] 94 [] []
def icFail : IC := (.seq (.ops [(.u (.mov 4 (.s 0))), (.u (.mov 5 (.s 0))), (.u (.nlc 6 (.s 5))), (.u (.fad 7 1 1 (.int .i64) 70 (.s 6))), (.u (.ld 8 (.int .i64) (.s 7))), (.u (.mov 9 (.s 1))), (.u (.bld 10 [[(.int .i64 0)], [(.dat .iface .nil)]] [(0, (.s 8)), (1, (.s 9))])), (.u (.box 11 0 (.s 10))), (.u (.mif 12 86 (.ptr 88) (.strct [(.int .i64), .iface]) (.s 11))), (.u (.nlc 13 (.s 4))), (.u (.fad 14 2 2 .iface 70 (.s 13))), (.u (.st .iface (.s 14) (.s 12)))]) (.tr []))
def rsFail : List RV := []
theorem irFail : fnIR Tryd.prog WFail 48 = some (icFail, rsFail) := by kernel_rfl
def spFail : FSpec := fun args h nx K => match args with
  | [.ptr p 0, .dat .iface (.err g)] => rdOk (hget h p) ∧ K (.tup []) (hset h p (rdTok (rdL (hget h p)) (rdA (hget h p)) (atD (rdA (hget h p)) g)))
  | _ => False
theorem vFail {E : Nat → Value} (hE : Errs2 Tryd.prog (some 94) E) : Valid Tryd.prog E (gs []) 48 spFail := by
  refine valid_go (W := WFail) hE allValid_bot irFail (by decide) (fun args h nx K hsp hok hnm => ?_)
  unfold spFail at hsp
  split at hsp
  · rename_i p g
    obtain ⟨⟨l, a, e, hp, hal, hl9, hrng⟩, hK⟩ := hsp
    rw [hp, rdL_tok, rdA_tok] at hK
    refine ⟨by simp [WFail, mkW, mkWE], fun Q hQ => ?_⟩
    have hpx := (hnm p _ hp).1
    have hq : ∀ y, hget (Heap.sub nx y (hdel h nx)) p = some (rdTok l a e) := by
      intro y
      rw [hget_sub', hget_hdel', if_neg (by omega), hp, Option.map_some, tok_sub_lt (rd_lt l a e)]
    have hle : ∀ y, HLe (hset h p (rdTok l a (atD a g))) (hset (Heap.sub nx y (hdel h nx)) p (rdTok l a (atD a g))) := fun y => HLe.hset (HLe.frz hnm (Nat.le_refl _) (HLe.del hnm (Nat.le_refl _) (HLe.refl h))) hp (hq y)
    have hlt := HLt.hset (p := p) hnm (rd_lt (nx := nx) l a (atD a g))
    rw [rdTok_def] at hp
    simp only [rdTok_def] at hq
    have pn1 : (p = nx) = False := by apply eq_false; omega
    have pn2 : (nx = p) = False := by apply eq_false; omega
    simp only [icFail, frpL, go_frp, go_rgn, rgnK_def, goD_nil, goD_u, contD_some, goD_call, callD_clo, kD_app, goD_g, gD_T, gD_F, gD_U, gK_U, evI_true, evI_false, bareK_some, go_seq, go_ops, go_cond, go_block, go_skip, go_tr, trim_def, trim_nil, trim_cons, fget_nil, go_ret, go_exit, den_nil, den_seq, den_seq_ret, den_seq_ext, den_blk, den_blk_ret, den_blk_ext, den_lp, den_lp_ret, den_lp_ext, goO_nil, goO_u, noCall, contK_some, goO_slc, goO_mif, preF, preP, prePt, prePd, frzP, noSp, D.isNil, goO_nlq, nlqK_some, evNlq, goO_g, gK_T, gK_F, skipD_some, skipD_none, goO_call, goO_callf, frzK_def, callK_clo, kO_app, condK_ite, iteT, iteF, put_def, sput_def, ev, frOf, fget_cons, oget, ogets, argSs, argS, evMm, frzL, evBin, evWrp, evShf, evCmp, evUna, evNil, evBeq, evLd, evSt, evFad, evIad, evAad, evLen, evSln, evEls, evApp, evParts, evSlc, evNlc, evMif, evPck, evFld, evBld, evTas, evIfq, evSeq, evSl0, evBxf, evAgl, evAgq, evBsf, List.set_cons_zero, List.set_cons_succ, List.set_nil, List.flatten_cons, List.flatten_nil, List.getD_cons_zero, List.getD_cons_succ, List.contains_cons,  hget, hset, hdel, cellAt, arrAt, setCellAt, setArrAt, takeC, lenC, svCells, SV.okc, SV.one, ldSV, Fw.isAgg, Nat.reduceMul, Nat.reduceSub, Nat.reduceLeDiff, Nat.lt_irrefl, Nat.not_lt_zero, Nat.reduceLT, Nat.add_eq_left, Nat.left_eq_add, List.nil_append, List.length_cons, List.length_nil, List.append_nil, List.cons_append, Nat.zero_lt_one, Bool.false_eq_true, Bool.not_true, Bool.not_false, eq_self, Option.map_some, Option.map_none, true_imp_iff, false_imp_iff, implies_true, Bool.true_eq_false, explode, explodeL, toD, toDL, toD1, Ty.size, Ty.sizeL, frz1, Fr.sub, Heap.sub, Tok.sub, SV.sub, SV.subL, add_def, Nat.reduceEqDiff, Nat.reduceAdd, Nat.zero_add, reduceCtorEq, ↓reduceIte, and_self, and_true, true_and, reduceIte, hp, hq, List.getElem?_cons_zero, List.getElem?_cons_succ, pn1, pn2]
    refine (hQ _ ?_).2
    exact fin_0 hlt (hle _) hK
  · exact hsp.elim

/-- What comes of reading a number: it, the place, the first error. -/
def numF (l : List D) (a : Nat) (e : D) (lo hi : Int) : Int × Nat × D :=
  if e.isNil = true then match numR (nats (l.drop a)) 0 0 with
    | .ok n k => if n < lo ∨ hi < n then (0, a, atD a 0) else (n, a + k, .nil)
    | .fin => (0, a, atD a 1)
    | .shape => (0, a, atD a 3)
  else (0, a, e)
theorem isNil_eq {e : D} (h : e.isNil = true) : e = .nil := by cases e <;> simp_all [D.isNil]
theorem numR_len : ∀ (bs : List Nat) (i z : Nat) {n : Int} {k : Nat}, numR bs i z = .ok n k → i < k ∧ k ≤ i + bs.length
  | [], i, z, n, k, h => by simp [numR] at h
  | c :: r, i, z, n, k, h => by
    simp only [numR] at h
    split at h
    · cases h
    · split at h
      · have := numR_len r (i + 1) _ h
        simp only [List.length_cons]; omega
      · split at h
        · cases h
        · cases h; simp only [List.length_cons]; omega
def WNum : Opts := mkWE 48 [] [0, 1, 3] [] 94 [0, 1, 3] []
def icNum : IC := (.seq (.seq (.ops [(.u (.mov 6 (.c (.int .i64 0))))]) (.tr [1, 2, 0])) (.seq (.seq (.seq (.ops [(.u (.mov 10 (.s 0))), (.u (.nlc 11 (.s 10))), (.u (.fad 12 2 2 .iface 70 (.s 11))), (.u (.ld 13 .iface (.s 12))), (.u (.eqb 14 true 0 (.s 13)))]) (.tr [14, 1, 2, 0])) (.cond (.s 14) (.seq (.seq (.ops [(.u (.mov 6 (.c (.int .i64 0))))]) (.tr [6])) .ret) .skip)) (.seq (.seq (.ops [(.u (.mov 16 (.s 0))), (.u (.call 17 (.c (.clo 47 [])) [(.s 16)] [none] true)), (.u (.mov 15 (.s 17))), (.u (.ext 18 0 (.s 15))), (.u (.ext 19 1 (.s 15))), (.u (.ext 20 2 (.s 15))), (.u (.mov 7 (.s 18))), (.u (.mov 8 (.s 19))), (.u (.mov 9 (.s 20)))]) (.tr [1, 2, 9, 0, 8, 7])) (.seq (.seq (.seq (.ops [(.u (.mov 21 (.s 9))), (.u (.eqb 22 false 0 (.s 21))), (.u (.mov 23 (.s 22))), (.g 23 true (some 24) (.mov 24 (.s 7))), (.g 23 true (some 25) (.mov 25 (.s 1))), (.g 23 true (some 26) (.cmp 26 .lss (.s 24) (.s 25))), (.g 23 true (some 27) (.mov 27 (.s 26))), (.g 27 false (some 28) (.mov 28 (.s 7))), (.g 27 false (some 29) (.mov 29 (.s 2))), (.g 27 false (some 30) (.cmp 30 .gtr (.s 28) (.s 29))), (.g 23 true (some 31) (.pck 31 (.s 27) (.c (.bool true)) (.s 30))), (.u (.pck 32 (.s 23) (.s 31) (.c (.bool false))))]) (.tr [32, 9, 0, 8, 7])) (.cond (.s 32) (.seq (.ops [(.u (.gld 33 0)), (.u (.mov 9 (.s 33)))]) (.tr [9, 0, 8, 7])) .skip)) (.seq (.seq (.seq (.ops [(.u (.mov 34 (.s 9))), (.u (.eqb 35 true 0 (.s 34)))]) (.tr [35, 9, 0, 8, 7])) (.cond (.s 35) (.seq (.seq (.ops [(.u (.mov 36 (.s 0))), (.u (.mov 37 (.s 9))), (.u (.call 38 (.c (.clo 48 [])) [(.s 36), (.s 37)] [none, none] true))]) (.tr [])) (.seq (.seq (.ops [(.u (.mov 6 (.c (.int .i64 0))))]) (.tr [6])) .ret)) .skip)) (.seq (.seq (.ops [(.u (.mov 39 (.s 0))), (.u (.nlc 40 (.s 39))), (.u (.fad 41 1 1 (.int .i64) 70 (.s 40))), (.u (.ld 42 (.int .i64) (.s 41))), (.u (.mov 43 (.s 8))), (.u (.bin 44 .add .i64 (.s 42) (.s 43))), (.u (.nlc 45 (.s 39))), (.u (.fad 46 1 1 (.int .i64) 70 (.s 45))), (.u (.st (.int .i64) (.s 46) (.s 44)))]) (.tr [7])) (.seq (.seq (.ops [(.u (.mov 47 (.s 7))), (.u (.mov 6 (.s 47)))]) (.tr [6])) .ret)))))))
def rsNum : List RV := [(.t 6)]
theorem irNum : fnIR Tryd.prog WNum 22 = some (icNum, rsNum) := by kernel_rfl
def spNum : FSpec := fun args h nx K => match args with
  | [.ptr p 0, .int .i64 lo, .int .i64 hi] => rdOk (hget h p) ∧ K (.int .i64 (numF (rdL (hget h p)) (rdA (hget h p)) (rdE (hget h p)) lo hi).1) (hset h p (rdTok (rdL (hget h p)) (numF (rdL (hget h p)) (rdA (hget h p)) (rdE (hget h p)) lo hi).2.1 (numF (rdL (hget h p)) (rdA (hget h p)) (rdE (hget h p)) lo hi).2.2))
  | _ => False
set_option maxHeartbeats 1000000 in
theorem vNum {E : Nat → Value} (hE : Errs2 Tryd.prog (some 94) E) : Valid Tryd.prog E (gs GW) 22 spNum := by
  refine valid_go (W := WNum) hE ((allValid_bot.add (up (vNumber0 hE))).add (up (vFail hE))) irNum (by decide) (fun args h nx K hsp hok hnm => ?_)
  unfold spNum at hsp
  split at hsp
  · rename_i p lo hi
    obtain ⟨⟨l, a, e, hp, hal, hl9, hrng⟩, hK⟩ := hsp
    rw [hp, rdL_tok, rdA_tok, rdE_tok] at hK
    have hro : rdOk (hget h p) := ⟨l, a, e, hp, hal, hl9, hrng⟩
    refine ⟨by simp [WNum, mkW, mkWE], fun Q hQ => ?_⟩
    have hpx := (hnm p _ hp).1
    have ret : ∀ n h' nx', HLt h' nx → K (.int .i64 n) h' → Q Ex.ret ⟨[(6, .int .i64 n)], h', nx'⟩ := fun n h' nx' a b => by
      refine (hQ _ ?_).1
      exact fin_t (.int .i64 n) rfl rfl a (HLe.refl _) b
    have hst : ∀ a' e', HLt (hset h p (rdTok l a' e')) nx := fun a' e' => HLt.hset hnm (rd_lt l a' e')
    have hself : ∀ t, hget (hset h p t) p = some t := fun t => hget_hset' hp
    have rr := rdTok_def l a e
    cases hen : e.isNil with
    | false =>
      have hf : numF l a e lo hi = (0, a, e) := by unfold numF; rw [if_neg (by rw [hen]; simp)]
      rw [hf, hset_self hp] at hK
      rw [rr] at hp
      have hen2 := hen
      simp only [D.isNil] at hen2
      simp only [icNum, frpL, go_frp, go_rgn, rgnK_def, goD_nil, goD_u, contD_some, goD_call, callD_clo, kD_app, goD_g, gD_T, gD_F, gD_U, gK_U, evI_true, evI_false, bareK_some, go_seq, go_ops, go_cond, go_block, go_skip, go_tr, trim_def, trim_nil, trim_cons, fget_nil, go_ret, go_exit, den_nil, den_seq, den_seq_ret, den_seq_ext, den_blk, den_blk_ret, den_blk_ext, den_lp, den_lp_ret, den_lp_ext, goO_nil, goO_u, noCall, contK_some, goO_slc, goO_mif, preF, preP, prePt, prePd, frzP, noSp, D.isNil, goO_nlq, nlqK_some, evNlq, goO_g, gK_T, gK_F, skipD_some, skipD_none, goO_call, goO_callf, frzK_def, callK_clo, kO_app, condK_ite, iteT, iteF, put_def, sput_def, ev, frOf, fget_cons, oget, ogets, argSs, argS, evMm, frzL, evBin, evWrp, evShf, evCmp, evUna, evNil, evBeq, evLd, evSt, evFad, evIad, evAad, evLen, evSln, evEls, evApp, evParts, evSlc, evNlc, evMif, evPck, evFld, evBld, evTas, evIfq, evSeq, evSl0, evBxf, evAgl, evAgq, evBsf, List.set_cons_zero, List.set_cons_succ, List.set_nil, List.flatten_cons, List.flatten_nil, List.getD_cons_zero, List.getD_cons_succ, List.contains_cons,  hget, hset, hdel, cellAt, arrAt, setCellAt, setArrAt, takeC, lenC, svCells, SV.okc, SV.one, ldSV, Fw.isAgg, Nat.reduceMul, Nat.reduceSub, Nat.reduceLeDiff, Nat.lt_irrefl, Nat.not_lt_zero, Nat.reduceLT, Nat.add_eq_left, Nat.left_eq_add, List.nil_append, List.length_cons, List.length_nil, List.append_nil, List.cons_append, Nat.zero_lt_one, Bool.false_eq_true, Bool.not_true, Bool.not_false, eq_self, Option.map_some, Option.map_none, true_imp_iff, false_imp_iff, implies_true, Bool.true_eq_false, explode, explodeL, toD, toDL, toD1, Ty.size, Ty.sizeL, frz1, Fr.sub, Heap.sub, Tok.sub, SV.sub, SV.subL, add_def, Nat.reduceEqDiff, Nat.reduceAdd, Nat.zero_add, reduceCtorEq, ↓reduceIte, and_self, and_true, true_and, reduceIte, hp, hen2]
      refine (hQ _ ?_).1
      exact fin_t (.int .i64 0) rfl rfl hnm (by ((try simp only []); repeat first | exact HLe.refl _ | refine HLe.cons (by simp only [hget, Nat.reduceEqDiff, Nat.left_eq_add, Nat.add_eq_left, reduceIte, ↓reduceIte] <;> rfl) ?_ | refine HLe.skip hnm (by omega) ?_ | refine HLe.frz hnm (by omega) ?_ | refine HLe.del hnm (by omega) ?_)) hK
    | true =>
      have hen' := isNil_eq hen
      subst hen'
      cases hr : numR (nats (l.drop a)) 0 0 with
      | fin =>
        have hf : numF l a .nil lo hi = (0, a, atD a 1) := by unfold numF; rw [if_pos (by rfl), hr]
        rw [hf] at hK
        rw [rr] at hp
        simp only [icNum, frpL, go_frp, go_rgn, rgnK_def, goD_nil, goD_u, contD_some, goD_call, callD_clo, kD_app, goD_g, gD_T, gD_F, gD_U, gK_U, evI_true, evI_false, bareK_some, go_seq, go_ops, go_cond, go_block, go_skip, go_tr, trim_def, trim_nil, trim_cons, fget_nil, go_ret, go_exit, den_nil, den_seq, den_seq_ret, den_seq_ext, den_blk, den_blk_ret, den_blk_ext, den_lp, den_lp_ret, den_lp_ext, goO_nil, goO_u, noCall, contK_some, goO_slc, goO_mif, preF, preP, prePt, prePd, frzP, noSp, D.isNil, goO_nlq, nlqK_some, evNlq, goO_g, gK_T, gK_F, skipD_some, skipD_none, goO_call, goO_callf, frzK_def, callK_clo, kO_app, condK_ite, iteT, iteF, put_def, sput_def, ev, frOf, fget_cons, oget, ogets, argSs, argS, evMm, frzL, evBin, evWrp, evShf, evCmp, evUna, evNil, evBeq, evLd, evSt, evFad, evIad, evAad, evLen, evSln, evEls, evApp, evParts, evSlc, evNlc, evMif, evPck, evFld, evBld, evTas, evIfq, evSeq, evSl0, evBxf, evAgl, evAgq, evBsf, List.set_cons_zero, List.set_cons_succ, List.set_nil, List.flatten_cons, List.flatten_nil, List.getD_cons_zero, List.getD_cons_succ, List.contains_cons,  hget, hset, hdel, cellAt, arrAt, setCellAt, setArrAt, takeC, lenC, svCells, SV.okc, SV.one, ldSV, Fw.isAgg, Nat.reduceMul, Nat.reduceSub, Nat.reduceLeDiff, Nat.lt_irrefl, Nat.not_lt_zero, Nat.reduceLT, Nat.add_eq_left, Nat.left_eq_add, List.nil_append, List.length_cons, List.length_nil, List.append_nil, List.cons_append, Nat.zero_lt_one, Bool.false_eq_true, Bool.not_true, Bool.not_false, eq_self, Option.map_some, Option.map_none, true_imp_iff, false_imp_iff, implies_true, Bool.true_eq_false, explode, explodeL, toD, toDL, toD1, Ty.size, Ty.sizeL, frz1, Fr.sub, Heap.sub, Tok.sub, SV.sub, SV.subL, add_def, Nat.reduceEqDiff, Nat.reduceAdd, Nat.zero_add, reduceCtorEq, ↓reduceIte, and_self, and_true, true_and, reduceIte, hp, hro, spNumber0, spFail, rdL_c, rdA_c, rdOk_c, hr, numT, List.getElem?_cons_zero, List.getElem?_cons_succ]
        exact ⟨⟨hal, hl9, hrng⟩, ⟨hal, hl9, hrng⟩, ret _ _ _ (hst _ _) hK⟩
      | shape =>
        have hf : numF l a .nil lo hi = (0, a, atD a 3) := by unfold numF; rw [if_pos (by rfl), hr]
        rw [hf] at hK
        rw [rr] at hp
        simp only [icNum, frpL, go_frp, go_rgn, rgnK_def, goD_nil, goD_u, contD_some, goD_call, callD_clo, kD_app, goD_g, gD_T, gD_F, gD_U, gK_U, evI_true, evI_false, bareK_some, go_seq, go_ops, go_cond, go_block, go_skip, go_tr, trim_def, trim_nil, trim_cons, fget_nil, go_ret, go_exit, den_nil, den_seq, den_seq_ret, den_seq_ext, den_blk, den_blk_ret, den_blk_ext, den_lp, den_lp_ret, den_lp_ext, goO_nil, goO_u, noCall, contK_some, goO_slc, goO_mif, preF, preP, prePt, prePd, frzP, noSp, D.isNil, goO_nlq, nlqK_some, evNlq, goO_g, gK_T, gK_F, skipD_some, skipD_none, goO_call, goO_callf, frzK_def, callK_clo, kO_app, condK_ite, iteT, iteF, put_def, sput_def, ev, frOf, fget_cons, oget, ogets, argSs, argS, evMm, frzL, evBin, evWrp, evShf, evCmp, evUna, evNil, evBeq, evLd, evSt, evFad, evIad, evAad, evLen, evSln, evEls, evApp, evParts, evSlc, evNlc, evMif, evPck, evFld, evBld, evTas, evIfq, evSeq, evSl0, evBxf, evAgl, evAgq, evBsf, List.set_cons_zero, List.set_cons_succ, List.set_nil, List.flatten_cons, List.flatten_nil, List.getD_cons_zero, List.getD_cons_succ, List.contains_cons,  hget, hset, hdel, cellAt, arrAt, setCellAt, setArrAt, takeC, lenC, svCells, SV.okc, SV.one, ldSV, Fw.isAgg, Nat.reduceMul, Nat.reduceSub, Nat.reduceLeDiff, Nat.lt_irrefl, Nat.not_lt_zero, Nat.reduceLT, Nat.add_eq_left, Nat.left_eq_add, List.nil_append, List.length_cons, List.length_nil, List.append_nil, List.cons_append, Nat.zero_lt_one, Bool.false_eq_true, Bool.not_true, Bool.not_false, eq_self, Option.map_some, Option.map_none, true_imp_iff, false_imp_iff, implies_true, Bool.true_eq_false, explode, explodeL, toD, toDL, toD1, Ty.size, Ty.sizeL, frz1, Fr.sub, Heap.sub, Tok.sub, SV.sub, SV.subL, add_def, Nat.reduceEqDiff, Nat.reduceAdd, Nat.zero_add, reduceCtorEq, ↓reduceIte, and_self, and_true, true_and, reduceIte, hp, hro, spNumber0, spFail, rdL_c, rdA_c, rdOk_c, hr, numT, List.getElem?_cons_zero, List.getElem?_cons_succ]
        exact ⟨⟨hal, hl9, hrng⟩, ⟨hal, hl9, hrng⟩, ret _ _ _ (hst _ _) hK⟩
      | ok n k =>
        have hk := numR_len _ _ _ hr
        rw [nats_len, List.length_drop] at hk
        rw [rr] at hp
        have fr : (n < lo ∨ hi < n) → K (.int .i64 0) (hset h p (rdTok l a (atD a 0))) := fun hc => by
          have hf : numF l a .nil lo hi = (0, a, atD a 0) := by unfold numF; rw [if_pos (by rfl), hr]; exact if_pos hc
          rw [hf] at hK; exact hK
        simp only [icNum, frpL, go_frp, go_rgn, rgnK_def, goD_nil, goD_u, contD_some, goD_call, callD_clo, kD_app, goD_g, gD_T, gD_F, gD_U, gK_U, evI_true, evI_false, bareK_some, go_seq, go_ops, go_cond, go_block, go_skip, go_tr, trim_def, trim_nil, trim_cons, fget_nil, go_ret, go_exit, den_nil, den_seq, den_seq_ret, den_seq_ext, den_blk, den_blk_ret, den_blk_ext, den_lp, den_lp_ret, den_lp_ext, goO_nil, goO_u, noCall, contK_some, goO_slc, goO_mif, preF, preP, prePt, prePd, frzP, noSp, D.isNil, goO_nlq, nlqK_some, evNlq, goO_g, gK_T, gK_F, skipD_some, skipD_none, goO_call, goO_callf, frzK_def, callK_clo, kO_app, condK_ite, iteT, iteF, put_def, sput_def, ev, frOf, fget_cons, oget, ogets, argSs, argS, evMm, frzL, evBin, evWrp, evShf, evCmp, evUna, evNil, evBeq, evLd, evSt, evFad, evIad, evAad, evLen, evSln, evEls, evApp, evParts, evSlc, evNlc, evMif, evPck, evFld, evBld, evTas, evIfq, evSeq, evSl0, evBxf, evAgl, evAgq, evBsf, List.set_cons_zero, List.set_cons_succ, List.set_nil, List.flatten_cons, List.flatten_nil, List.getD_cons_zero, List.getD_cons_succ, List.contains_cons,  hget, hset, hdel, cellAt, arrAt, setCellAt, setArrAt, takeC, lenC, svCells, SV.okc, SV.one, ldSV, Fw.isAgg, Nat.reduceMul, Nat.reduceSub, Nat.reduceLeDiff, Nat.lt_irrefl, Nat.not_lt_zero, Nat.reduceLT, Nat.add_eq_left, Nat.left_eq_add, List.nil_append, List.length_cons, List.length_nil, List.append_nil, List.cons_append, Nat.zero_lt_one, Bool.false_eq_true, Bool.not_true, Bool.not_false, eq_self, Option.map_some, Option.map_none, true_imp_iff, false_imp_iff, implies_true, Bool.true_eq_false, explode, explodeL, toD, toDL, toD1, Ty.size, Ty.sizeL, frz1, Fr.sub, Heap.sub, Tok.sub, SV.sub, SV.subL, add_def, Nat.reduceEqDiff, Nat.reduceAdd, Nat.zero_add, reduceCtorEq, ↓reduceIte, and_self, and_true, true_and, reduceIte, hp, hro, spNumber0, spFail, rdL_c, rdA_c, rdOk_c, hr, numT, List.getElem?_cons_zero, List.getElem?_cons_succ]
        have h2 : decide (n < lo) = false → decide (hi < n) = false → K (.int .i64 n) (hset h p (rdTok l (a + k) .nil)) := fun c1 c2 => by
          have c1 := of_decide_eq_false c1
          have c2 := of_decide_eq_false c2
          have hf : numF l a .nil lo hi = (n, a + k, .nil) := by unfold numF; rw [if_pos (by rfl), hr]; exact if_neg (by omega)
          rw [hf] at hK; exact hK
        refine ⟨⟨hal, hl9, hrng⟩, fun c1 => ⟨fun c2 => ⟨⟨hal, hl9, hrng⟩, ret _ _ _ (hst _ _) (fr (.inr (of_decide_eq_true c2)))⟩, fun c2 => ⟨⟨by rw [min_i64]; omega, by rw [max_i64]; omega⟩, ?_⟩⟩, fun c1 => ⟨⟨hal, hl9, hrng⟩, ret _ _ _ (hst _ _) (fr (.inl (of_decide_eq_true c1)))⟩⟩
        have e1 : (a : Int) + (k : Int) = ((a + k : Nat) : Int) := by omega
        rw [e1]
        exact ret _ _ _ (hst _ _) (h2 c1 c2)
  · exact hsp.elim
end Go.Proofs.YthkpajefghmnaaaDoor
