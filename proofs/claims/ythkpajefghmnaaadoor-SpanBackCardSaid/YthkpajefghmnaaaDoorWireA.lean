/- Chapter 2's functions: numbers and bytes are put. -/
import Derived.Test.YthkpajefghmnaaaDoorWireP
import Derived.Test.YthkpajefghmnaaaDoorAt
import Derived.Test.YthkpajefghmnaaaDoorNum
namespace Go.Proofs.YthkpajefghmnaaaDoor
set_option linter.unusedVariables false
set_option linter.unusedSimpArgs false
open Go Go.Fw Go.Wire

theorem encD_len (n : Int) : (encD n).length = (enc (zig n)).length := dOf_len _
def WPut0 : Opts := mkWE 28 [] [] [] 94 [] []
def icPut0 : IC := (.seq (.seq (.ops [(.u (.mov 4 (.c .nils)))]) (.tr [1, 0])) (.seq (.seq (.ops [(.u (.mov 6 (.s 1))), (.u (.cnv 7 .u64 (.s 6))), (.u (.shf 8 .shl .u64 (.s 7) (.c (.int .u64 1)))), (.u (.mov 9 (.s 1))), (.u (.shf 10 .shr .i64 (.s 9) (.c (.int .u64 63)))), (.u (.cnv 11 .u64 (.s 10))), (.u (.bin 12 .xor .u64 (.s 8) (.s 11))), (.u (.mov 5 (.s 12)))]) (.tr [0, 5])) (.seq (.block 0 (.loop (.seq (.seq (.seq (.ops [(.u (.mov 13 (.s 5))), (.u (.cmp 14 .geq (.s 13) (.c (.int .u64 128))))]) (.tr [14, 0, 5])) (.cond (.s 14) .skip (.exit 0))) (.block 1 (.seq (.seq (.ops [(.u (.mov 15 (.s 0))), (.u (.mov 16 (.s 5))), (.u (.cnv 17 .u8 (.s 16))), (.u (.bin 18 .or .u8 (.s 17) (.c (.int .u8 128)))), (.u (.bsl 19 5 (.int .u8) [(.s 18)])), (.u (.app 20 5 (.int .u8) 1 (.s 15) (.s 19))), (.u (.mov 0 (.s 20)))]) (.tr [5, 0])) (.seq (.ops [(.u (.mov 21 (.s 5))), (.u (.shf 22 .shr .u64 (.s 21) (.c (.int .u64 7)))), (.u (.mov 5 (.s 22)))]) (.tr [0, 5]))))))) (.seq (.seq (.ops [(.u (.mov 23 (.s 0))), (.u (.mov 24 (.s 5))), (.u (.cnv 25 .u8 (.s 24))), (.u (.bsl 26 5 (.int .u8) [(.s 25)])), (.u (.app 27 5 (.int .u8) 1 (.s 23) (.s 26))), (.u (.mov 4 (.s 27)))]) (.tr [4])) .ret))))
def rsPut0 : List RV := [(.t 4)]
theorem irPut0 : fnIR Tryd.prog WPut0 45 = some (icPut0, rsPut0) := by kernel_rfl
/-- A slice of bytes of the function's own. -/
def bytesOk (r : Option Tok) : Prop := match r with
  | some (.arr t (.int .u8) l) => t = 5 ∧ l.length ≤ 1000000000
  | _ => False
def bytesOf (r : Option Tok) : List D := match r with
  | some (.arr _ _ l) => l
  | _ => []
theorem bytesOk_some (t : TypeId) (l : List D) : bytesOk (some (.arr t (.int .u8) l)) = (t = 5 ∧ l.length ≤ 1000000000) := rfl
theorem bytesOf_some (t : TypeId) (e : Ty) (l : List D) : bytesOf (some (.arr t e l)) = l := rfl
theorem bytes_spec {r : Option Tok} (h : bytesOk r) : ∃ l, r = some (.arr 5 (.int .u8) l) ∧ l.length ≤ 1000000000 := by
  unfold bytesOk at h
  split at h
  · obtain ⟨rfl, h⟩ := h; exact ⟨_, rfl, h⟩
  · exact h.elim
def spPut0 : FSpec := fun args h nx K => match args with
  | [.vec m, .int .i64 n] => bytesOk (hget h m) ∧ K (.vec nx) ((nx, .arr 5 (.int .u8) (bytesOf (hget h m) ++ encD n)) :: hdel h m)
  | _ => False
set_option maxHeartbeats 1000000 in
theorem vPut0 {E : Nat → Value} (hE : Errs2 Tryd.prog (some 94) E) : Valid Tryd.prog E (gs []) 45 spPut0 := by
  refine valid_go (W := WPut0) hE allValid_bot irPut0 (by decide) (fun args h nx K hsp hok hnm => ?_)
  unfold spPut0 at hsp
  split at hsp
  · rename_i m n
    obtain ⟨hbo, hK⟩ := hsp
    obtain ⟨l, hm, hlen⟩ := bytes_spec hbo
    rw [hm, bytesOf_some] at hK
    clear hbo
    refine ⟨by simp [WPut0, mkW, mkWE], fun Q hQ => ?_⟩
    obtain ⟨_, hn, _⟩ := hok
    simp only [SV.ok, min_i64, max_i64] at hn
    have hmx := (hnm m _ hm).1
    have hnm0 := hnm
    replace hnm : HLt (hdel h m) nx := HLt.hdel hnm0
    have hz := enc10 (zig_lt hn)
    simp only [icPut0, frpL, go_frp, go_rgn, rgnK_def, goD_nil, goD_u, contD_some, goD_call, callD_clo, kD_app, goD_g, gD_T, gD_F, gD_U, gK_U, evI_true, evI_false, bareK_some, go_seq, go_ops, go_cond, go_block, go_skip, go_tr, trim_def, trim_nil, trim_cons, fget_nil, go_ret, go_exit, den_nil, den_seq, den_seq_ret, den_seq_ext, den_blk, den_blk_ret, den_blk_ext, den_lp, den_lp_ret, den_lp_ext, goO_nil, goO_u, noCall, contK_some, goO_slc, goO_mif, preF, preP, prePt, prePd, frzP, noSp, D.isNil, goO_nlq, nlqK_some, evNlq, goO_g, gK_T, gK_F, skipD_some, skipD_none, goO_call, goO_callf, frzK_def, callK_clo, kO_app, condK_ite, iteT, iteF, put_def, sput_def, ev, frOf, fget_cons, oget, ogets, argSs, argS, evMm, frzL, evBin, evWrp, evShf, evCmp, evUna, evNil, evBeq, evLd, evSt, evFad, evIad, evAad, evLen, evSln, evEls, evApp, evParts, evSlc, evNlc, evMif, evPck, evFld, evBld, evTas, evIfq, evSeq, evSl0, evBxf, evAgl, evAgq, evBsf, List.set_cons_zero, List.set_cons_succ, List.set_nil, List.flatten_cons, List.flatten_nil, List.getD_cons_zero, List.getD_cons_succ, List.contains_cons,  hget, hset, hdel, cellAt, arrAt, setCellAt, setArrAt, takeC, lenC, svCells, SV.okc, SV.one, ldSV, Fw.isAgg, Nat.reduceMul, Nat.reduceSub, Nat.reduceLeDiff, Nat.lt_irrefl, Nat.not_lt_zero, Nat.reduceLT, Nat.add_eq_left, Nat.left_eq_add, List.nil_append, List.length_cons, List.length_nil, List.append_nil, List.cons_append, Nat.zero_lt_one, Bool.false_eq_true, Bool.not_true, Bool.not_false, eq_self, Option.map_some, Option.map_none, true_imp_iff, false_imp_iff, implies_true, Bool.true_eq_false, explode, explodeL, toD, toDL, toD1, Ty.size, Ty.sizeL, frz1, Fr.sub, Heap.sub, Tok.sub, SV.sub, SV.subL, add_def, Nat.reduceEqDiff, Nat.reduceAdd, Nat.zero_add, reduceCtorEq, ↓reduceIte, and_self, and_true, true_and, reduceIte, zig_code hn]
    refine ⟨by omega, by omega, ?_⟩
    refine go_loop (α := { p : Nat × List Nat // p.1 < 18446744073709551616 ∧ p.2 ++ enc p.1 = enc (zig n) }) (I := fun p => { f := [(5, .int .u64 (p.1.1 : Int)), (0, .vec nx)], h := (nx, .arr 5 (.int .u8) (l ++ dOf p.1.2)) :: hdel h m, nx := nx + 1 }) (μ := fun p => p.1.1) _ _ _ ⟨(zig n, []), zig_lt hn, rfl⟩ ?_ (fun p B hB => ?_)
    · refine leq_ren nx m (Nat.le_refl _) ?_ (by (simp only [frLt_cons, frLt_nil, and_true, SV.lt, SV.ltL, true_and] <;> omega)) ?_ ?_ (by (repeat first | exact HLt.mono hnm (by simp only [] <;> omega) | refine HLt.cons (by simp only [] <;> omega) (by simp only [Tok.lt, SV.ltL, SV.lt, and_true, true_and] <;> omega) ?_)) (by simp only [] <;> omega)
      · simp only [frEq_cons, frEq_nil, frIn_cons, frIn_nil, and_true, fget_cons, Nat.reduceEqDiff, reduceIte, ↓reduceIte, true_and, SV.ren, SV.renL, ren1]
        (try simp)
      · exact HRen.cons (by rw [ren1_eq]; simpa [dOf, Tok.ren] using hm) (HRen.base hnm (Nat.le_refl _) HLe.hdel)
      · intro k t hk _ e
        subst e
        simp only [hget] at hk
        rw [if_neg (by omega), hget_hdel', if_pos rfl] at hk
        cases hk
    · obtain ⟨⟨z, ds⟩, hz1, hz2⟩ := p
      have hds : ds.length ≤ 10 := by
        have := congrArg List.length hz2
        simp only [List.length_append] at this
        omega
      simp only [frpL, go_frp, go_rgn, rgnK_def, goD_nil, goD_u, contD_some, goD_call, callD_clo, kD_app, goD_g, gD_T, gD_F, gD_U, gK_U, evI_true, evI_false, bareK_some, go_seq, go_ops, go_cond, go_block, go_skip, go_tr, trim_def, trim_nil, trim_cons, fget_nil, go_ret, go_exit, den_nil, den_seq, den_seq_ret, den_seq_ext, den_blk, den_blk_ret, den_blk_ext, den_lp, den_lp_ret, den_lp_ext, goO_nil, goO_u, noCall, contK_some, goO_slc, goO_mif, preF, preP, prePt, prePd, frzP, noSp, D.isNil, goO_nlq, nlqK_some, evNlq, goO_g, gK_T, gK_F, skipD_some, skipD_none, goO_call, goO_callf, frzK_def, callK_clo, kO_app, condK_ite, iteT, iteF, put_def, sput_def, ev, frOf, fget_cons, oget, ogets, argSs, argS, evMm, frzL, evBin, evWrp, evShf, evCmp, evUna, evNil, evBeq, evLd, evSt, evFad, evIad, evAad, evLen, evSln, evEls, evApp, evParts, evSlc, evNlc, evMif, evPck, evFld, evBld, evTas, evIfq, evSeq, evSl0, evBxf, evAgl, evAgq, evBsf, List.set_cons_zero, List.set_cons_succ, List.set_nil, List.flatten_cons, List.flatten_nil, List.getD_cons_zero, List.getD_cons_succ, List.contains_cons,  hget, hset, hdel, cellAt, arrAt, setCellAt, setArrAt, takeC, lenC, svCells, SV.okc, SV.one, ldSV, Fw.isAgg, Nat.reduceMul, Nat.reduceSub, Nat.reduceLeDiff, Nat.lt_irrefl, Nat.not_lt_zero, Nat.reduceLT, Nat.add_eq_left, Nat.left_eq_add, List.nil_append, List.length_cons, List.length_nil, List.append_nil, List.cons_append, Nat.zero_lt_one, Bool.false_eq_true, Bool.not_true, Bool.not_false, eq_self, Option.map_some, Option.map_none, true_imp_iff, false_imp_iff, implies_true, Bool.true_eq_false, explode, explodeL, toD, toDL, toD1, Ty.size, Ty.sizeL, frz1, Fr.sub, Heap.sub, Tok.sub, SV.sub, SV.subL, add_def, Nat.reduceEqDiff, Nat.reduceAdd, Nat.zero_add, reduceCtorEq, ↓reduceIte, and_self, and_true, true_and, reduceIte, more_code, shr7, List.length_append, dOf_len]
      refine ⟨fun hc => ?_, fun hc => ?_⟩
      · have hz128 : ¬ z < 128 := by have := of_decide_eq_true hc; omega
        refine ⟨by omega, by omega, hB _ ⟨(z / 128, ds ++ [z % 128 + 128]), by simp only []; omega, by rw [← hz2, enc_ge hz128]; simp⟩ (by simp only []; omega) ?_⟩
        refine leq_ren1 nx (nx + 2) (Nat.le_refl _) (by simp only []; omega) ?_ (by (simp only [frLt_cons, frLt_nil, and_true, SV.lt, SV.ltL, true_and] <;> omega)) ?_ (by (repeat first | exact HLt.mono hnm (by simp only [] <;> omega) | refine HLt.cons (by simp only [] <;> omega) (by simp only [Tok.lt, SV.ltL, SV.lt, and_true, true_and] <;> omega) ?_)) (by simp only [] <;> omega)
        · simp only [frEq_cons, frEq_nil, frIn_cons, frIn_nil, and_true, fget_cons, Nat.reduceEqDiff, reduceIte, ↓reduceIte, true_and, SV.ren, SV.renL, ren1]
          (try simp)
        · exact HRen.cons (by rw [ren1_eq]; simp [hget, Tok.ren, dOf]) (HRen.base hnm (Nat.le_refl _) (by ((try simp only []); repeat first | exact HLe.refl _ | refine HLe.cons (by simp only [hget, Nat.reduceEqDiff, Nat.left_eq_add, Nat.add_eq_left, reduceIte, ↓reduceIte] <;> rfl) ?_ | refine HLe.skip hnm (by omega) ?_ | refine HLe.frz hnm (by omega) ?_ | refine HLe.del hnm (by omega) ?_)))
      · have hz128 : z < 128 := by have := of_decide_eq_false hc; omega
        have e1 : IntKind.u8.wrap (z : Int) = (z : Int) := by rw [u8w']; omega
        rw [enc_lt hz128] at hz2
        refine ⟨by omega, (hQ _ (fin_vec rfl ?_ (by omega) hnm (by ((try simp only []); repeat first | exact HLe.refl _ | refine HLe.cons (by simp only [hget, Nat.reduceEqDiff, Nat.left_eq_add, Nat.add_eq_left, reduceIte, ↓reduceIte] <;> rfl) ?_ | refine HLe.skip hnm (by omega) ?_ | refine HLe.frz hnm (by omega) ?_ | refine HLe.del hnm (by omega) ?_)) hK)).1⟩
        simp only [hget, ↓reduceIte, e1]
        have : l ++ dOf ds ++ [D.int (z : Int)] = l ++ encD n := by
          unfold encD
          rw [← hz2, dOf_app, List.append_assoc]; rfl
        rw [this]
  · exact hsp.elim

def WPut : Opts := mkWE 9 [] [] [8] 94 [] []
def icPut : IC := (.seq (.seq (.ops [(.u (.mov 4 (.c .nils)))]) (.tr [0, 1])) (.seq (.seq (.ops [(.u (.mov 5 (.s 0))), (.u (.call 6 (.c (.clo 46 [])) [(.s 5)] [(some 5)] true)), (.u (.mov 7 (.s 1))), (.u (.call 8 (.c (.clo 45 [])) [(.s 6), (.s 7)] [(some 5), none] false)), (.u (.mov 4 (.s 8)))]) (.tr [4])) .ret))
def rsPut : List RV := [(.t 4)]
theorem irPut : fnIR Tryd.prog WPut 18 = some (icPut, rsPut) := by kernel_rfl
def spPut : FSpec := fun args h nx K => match args with
  | [.dat (.slice 5) d, .int .i64 n] => d.l.length ≤ 1000000000 ∧ K (.vec nx) ((nx, .arr 5 (.int .u8) (d.l ++ encD n)) :: h)
  | _ => False
theorem vPut {E : Nat → Value} (hE : Errs2 Tryd.prog (some 94) E) : Valid Tryd.prog E (gs []) 18 spPut := by
  refine valid_go (W := WPut) hE ((allValid_bot.add (vPut0 hE)).add (vCloneB hE)) irPut (by decide) (fun args h nx K hsp hok hnm => ?_)
  unfold spPut at hsp
  split at hsp
  · rename_i d n
    obtain ⟨hlen, hK⟩ := hsp
    refine ⟨by simp [WPut, mkW, mkWE], fun Q hQ => ?_⟩
    simp only [icPut, frpL, go_frp, go_rgn, rgnK_def, goD_nil, goD_u, contD_some, goD_call, callD_clo, kD_app, goD_g, gD_T, gD_F, gD_U, gK_U, evI_true, evI_false, bareK_some, go_seq, go_ops, go_cond, go_block, go_skip, go_tr, trim_def, trim_nil, trim_cons, fget_nil, go_ret, go_exit, den_nil, den_seq, den_seq_ret, den_seq_ext, den_blk, den_blk_ret, den_blk_ext, den_lp, den_lp_ret, den_lp_ext, goO_nil, goO_u, noCall, contK_some, goO_slc, goO_mif, preF, preP, prePt, prePd, frzP, noSp, D.isNil, goO_nlq, nlqK_some, evNlq, goO_g, gK_T, gK_F, skipD_some, skipD_none, goO_call, goO_callf, frzK_def, callK_clo, kO_app, condK_ite, iteT, iteF, put_def, sput_def, ev, frOf, fget_cons, oget, ogets, argSs, argS, evMm, frzL, evBin, evWrp, evShf, evCmp, evUna, evNil, evBeq, evLd, evSt, evFad, evIad, evAad, evLen, evSln, evEls, evApp, evParts, evSlc, evNlc, evMif, evPck, evFld, evBld, evTas, evIfq, evSeq, evSl0, evBxf, evAgl, evAgq, evBsf, List.set_cons_zero, List.set_cons_succ, List.set_nil, List.flatten_cons, List.flatten_nil, List.getD_cons_zero, List.getD_cons_succ, List.contains_cons,  hget, hset, hdel, cellAt, arrAt, setCellAt, setArrAt, takeC, lenC, svCells, SV.okc, SV.one, ldSV, Fw.isAgg, Nat.reduceMul, Nat.reduceSub, Nat.reduceLeDiff, Nat.lt_irrefl, Nat.not_lt_zero, Nat.reduceLT, Nat.add_eq_left, Nat.left_eq_add, List.nil_append, List.length_cons, List.length_nil, List.append_nil, List.cons_append, Nat.zero_lt_one, Bool.false_eq_true, Bool.not_true, Bool.not_false, eq_self, Option.map_some, Option.map_none, true_imp_iff, false_imp_iff, implies_true, Bool.true_eq_false, explode, explodeL, toD, toDL, toD1, Ty.size, Ty.sizeL, frz1, Fr.sub, Heap.sub, Tok.sub, SV.sub, SV.subL, add_def, Nat.reduceEqDiff, Nat.reduceAdd, Nat.zero_add, reduceCtorEq, ↓reduceIte, and_self, and_true, true_and, reduceIte, spPut0, spCloneB, bytesOk_some, bytesOf_some]
    exact ⟨by omega, hlen, (hQ _ (fin_vec rfl (by simp only [hget, ↓reduceIte]) (by omega) hnm (by ((try simp only []); repeat first | exact HLe.refl _ | refine HLe.cons (by simp only [hget, Nat.reduceEqDiff, Nat.left_eq_add, Nat.add_eq_left, reduceIte, ↓reduceIte] <;> rfl) ?_ | refine HLe.skip hnm (by omega) ?_ | refine HLe.frz hnm (by omega) ?_ | refine HLe.del hnm (by omega) ?_)) hK)).1⟩
  · exact hsp.elim

def WPutBytes : Opts := mkWE 12 [] [] [9] 94 [] []
def icPutBytes : IC := (.seq (.seq (.ops [(.u (.mov 4 (.c .nils)))]) (.tr [0, 1])) (.seq (.seq (.ops [(.u (.mov 5 (.s 0))), (.u (.call 6 (.c (.clo 46 [])) [(.s 5)] [(some 5)] true)), (.u (.mov 7 (.s 1))), (.u (.len 8 false (.s 7))), (.u (.call 9 (.c (.clo 45 [])) [(.s 6), (.s 8)] [(some 5), none] false)), (.u (.mov 10 (.s 1))), (.u (.app 11 5 (.int .u8) 1 (.s 9) (.s 10))), (.u (.mov 4 (.s 11)))]) (.tr [4])) .ret))
def rsPutBytes : List RV := [(.t 4)]
theorem irPutBytes : fnIR Tryd.prog WPutBytes 32 = some (icPutBytes, rsPutBytes) := by kernel_rfl
def spPutBytes : FSpec := fun args h nx K => match args with
  | [.dat (.slice 5) d, .dat (.slice 5) x] => d.l.length ≤ 1000000000 ∧ x.l.length ≤ 1000000000 ∧ K (.vec nx) ((nx, .arr 5 (.int .u8) (d.l ++ encD x.l.length ++ x.l)) :: h)
  | _ => False
theorem vPutBytes {E : Nat → Value} (hE : Errs2 Tryd.prog (some 94) E) : Valid Tryd.prog E (gs []) 32 spPutBytes := by
  refine valid_go (W := WPutBytes) hE ((allValid_bot.add (vPut0 hE)).add (vCloneB hE)) irPutBytes (by decide) (fun args h nx K hsp hok hnm => ?_)
  unfold spPutBytes at hsp
  split at hsp
  · rename_i d x
    obtain ⟨hlen, hlx, hK⟩ := hsp
    refine ⟨by simp [WPutBytes, mkW, mkWE], fun Q hQ => ?_⟩
    have hz := enc10 (zig_lt (n := (x.l.length : Int)) (by omega))
    simp only [icPutBytes, frpL, go_frp, go_rgn, rgnK_def, goD_nil, goD_u, contD_some, goD_call, callD_clo, kD_app, goD_g, gD_T, gD_F, gD_U, gK_U, evI_true, evI_false, bareK_some, go_seq, go_ops, go_cond, go_block, go_skip, go_tr, trim_def, trim_nil, trim_cons, fget_nil, go_ret, go_exit, den_nil, den_seq, den_seq_ret, den_seq_ext, den_blk, den_blk_ret, den_blk_ext, den_lp, den_lp_ret, den_lp_ext, goO_nil, goO_u, noCall, contK_some, goO_slc, goO_mif, preF, preP, prePt, prePd, frzP, noSp, D.isNil, goO_nlq, nlqK_some, evNlq, goO_g, gK_T, gK_F, skipD_some, skipD_none, goO_call, goO_callf, frzK_def, callK_clo, kO_app, condK_ite, iteT, iteF, put_def, sput_def, ev, frOf, fget_cons, oget, ogets, argSs, argS, evMm, frzL, evBin, evWrp, evShf, evCmp, evUna, evNil, evBeq, evLd, evSt, evFad, evIad, evAad, evLen, evSln, evEls, evApp, evParts, evSlc, evNlc, evMif, evPck, evFld, evBld, evTas, evIfq, evSeq, evSl0, evBxf, evAgl, evAgq, evBsf, List.set_cons_zero, List.set_cons_succ, List.set_nil, List.flatten_cons, List.flatten_nil, List.getD_cons_zero, List.getD_cons_succ, List.contains_cons,  hget, hset, hdel, cellAt, arrAt, setCellAt, setArrAt, takeC, lenC, svCells, SV.okc, SV.one, ldSV, Fw.isAgg, Nat.reduceMul, Nat.reduceSub, Nat.reduceLeDiff, Nat.lt_irrefl, Nat.not_lt_zero, Nat.reduceLT, Nat.add_eq_left, Nat.left_eq_add, List.nil_append, List.length_cons, List.length_nil, List.append_nil, List.cons_append, Nat.zero_lt_one, Bool.false_eq_true, Bool.not_true, Bool.not_false, eq_self, Option.map_some, Option.map_none, true_imp_iff, false_imp_iff, implies_true, Bool.true_eq_false, explode, explodeL, toD, toDL, toD1, Ty.size, Ty.sizeL, frz1, Fr.sub, Heap.sub, Tok.sub, SV.sub, SV.subL, add_def, Nat.reduceEqDiff, Nat.reduceAdd, Nat.zero_add, reduceCtorEq, ↓reduceIte, and_self, and_true, true_and, reduceIte, spPut0, spCloneB, bytesOk_some, bytesOf_some, List.length_append, encD_len]
    exact ⟨by omega, hlen, by omega, (hQ _ (fin_vec rfl (by simp only [hget, ↓reduceIte]) (by omega) hnm (by ((try simp only []); repeat first | exact HLe.refl _ | refine HLe.cons (by simp only [hget, Nat.reduceEqDiff, Nat.left_eq_add, Nat.add_eq_left, reduceIte, ↓reduceIte] <;> rfl) ?_ | refine HLe.skip hnm (by omega) ?_ | refine HLe.frz hnm (by omega) ?_ | refine HLe.del hnm (by omega) ?_)) hK)).1⟩
  · exact hsp.elim
end Go.Proofs.YthkpajefghmnaaaDoor
