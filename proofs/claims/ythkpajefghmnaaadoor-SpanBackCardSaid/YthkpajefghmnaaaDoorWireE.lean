/- Chapter 2's functions: the document's, and the chapter's examples. -/
import Derived.Test.YthkpajefghmnaaaDoorWireD
namespace Go.Proofs.YthkpajefghmnaaaDoor
set_option linter.unusedVariables false
set_option linter.unusedSimpArgs false
open Go Go.Fw Go.Wire

theorem pos_code {n : Int} (h : 0 ≤ n ∧ n ≤ 9223372036854775807) : IntKind.u64.wrap (IntKind.u64.wrap n * 2 ^ min (Int.toNat 1) IntKind.u64.bits) = (zig n : Int) := by
  have e1 : (2 : Int) ^ min (Int.toNat 1) IntKind.u64.bits = 2 := rfl
  have w : ∀ m : Int, IntKind.u64.wrap m = m % 18446744073709551616 := fun m => by simp [IntKind.wrap, IntKind.signed, IntKind.bits]
  rw [e1, w, w]
  unfold zig
  rw [if_pos h.1]
  omega
theorem lo7_code (z : Nat) (hz : z < 18446744073709551616) : IntKind.u8.wrap (bitI .or .u64 (bitI .and .u64 (z : Int) 127) 128) = ((z % 128 + 128 : Nat) : Int) := by
  have ha : bitI .and .u64 (z : Int) 127 = ((z % 128 : Nat) : Int) := by
    unfold bitI
    simp only []
    show IntKind.u64.wrap (((BitVec.ofInt 64 (z : Int) &&& BitVec.ofInt 64 ((127 : Nat) : Int)).toNat : Nat) : Int) = _
    rw [BitVec.toNat_and, of64, of64, Nat.mod_eq_of_lt hz, show (127 : Nat) % 18446744073709551616 = 2 ^ 7 - 1 by decide, Nat.and_two_pow_sub_one_eq_mod, u64w (by omega)]
  have hb : bitI .or .u64 ((z % 128 : Nat) : Int) 128 = ((z % 128 + 128 : Nat) : Int) := by
    rw [show (128 : Int) = ((128 : Nat) : Int) from rfl, or64 _ _ (by omega) (by omega)]
    have := Nat.shiftLeft_add_eq_or_of_lt (i := 7) (b := z % 128) (by omega) 1
    rw [Nat.shiftLeft_eq] at this
    rw [Nat.or_comm, show (128 : Nat) = 1 * 2 ^ 7 by decide, ← this]
    congr 1
    omega
  rw [ha, hb, u8w']
  omega

theorem neg_code {n : Int} (h : -9223372036854775808 ≤ n ∧ n < 0) : bitI BinOp.xor IntKind.u64 (if IntKind.u64.signed = true then -1 else IntKind.u64.max) (IntKind.u64.wrap (IntKind.u64.wrap n * 2 ^ min (Int.toNat 1) IntKind.u64.bits)) = (zig n : Int) := by
  have e1 : (2 : Int) ^ min (Int.toNat 1) IntKind.u64.bits = 2 := rfl
  have w : ∀ m : Int, IntKind.u64.wrap m = m % 18446744073709551616 := fun m => by simp [IntKind.wrap, IntKind.signed, IntKind.bits]
  have e2 : (if IntKind.u64.signed = true then (-1 : Int) else IntKind.u64.max) = ((18446744073709551615 : Nat) : Int) := rfl
  rw [e2, e1, w, w]
  have f1 : n % 18446744073709551616 * 2 % 18446744073709551616 = (((2 * n + 18446744073709551616).toNat : Nat) : Int) := by omega
  rw [f1, xor64 _ _ (by omega) (by omega), Nat.xor_comm, xor_ones _ (by omega)]
  unfold zig
  rw [if_neg (by omega)]
  omega

def WRPut : Opts := mkWE 32 [] [] [] 94 [] []
def icRPut : IC := (.seq (.seq (.ops [(.u (.mov 4 (.c .nils)))]) (.tr [0, 1])) (.seq (.seq (.ops [(.u (.mov 7 (.s 0))), (.u (.call 8 (.c (.clo 20 [])) [(.s 7)] [(some 5)] true)), (.u (.mov 5 (.s 8)))]) (.tr [1, 5])) (.seq (.seq (.ops [(.u (.mov 9 (.s 1))), (.u (.cnv 10 .u64 (.s 9))), (.u (.shf 11 .shl .u64 (.s 10) (.c (.int .u64 1)))), (.u (.mov 6 (.s 11)))]) (.tr [1, 5, 6])) (.seq (.seq (.seq (.ops [(.u (.mov 12 (.s 1))), (.u (.cmp 13 .lss (.s 12) (.c (.int .i64 0))))]) (.tr [13, 5, 6])) (.cond (.s 13) (.seq (.ops [(.u (.mov 14 (.s 6))), (.u (.una 15 .xor (.s 14))), (.u (.mov 6 (.s 15)))]) (.tr [5, 6])) .skip)) (.seq (.block 0 (.loop (.seq (.seq (.seq (.ops [(.u (.mov 16 (.s 6))), (.u (.cmp 17 .geq (.s 16) (.c (.int .u64 128))))]) (.tr [17, 5, 6])) (.cond (.s 17) .skip (.exit 0))) (.block 1 (.seq (.seq (.ops [(.u (.mov 18 (.s 5))), (.u (.mov 19 (.s 6))), (.u (.bin 20 .and .u64 (.s 19) (.c (.int .u64 127)))), (.u (.bin 21 .or .u64 (.s 20) (.c (.int .u64 128)))), (.u (.cnv 22 .u8 (.s 21))), (.u (.bsl 23 5 (.int .u8) [(.s 22)])), (.u (.app 24 5 (.int .u8) 1 (.s 18) (.s 23))), (.u (.mov 5 (.s 24)))]) (.tr [6, 5])) (.seq (.ops [(.u (.mov 25 (.s 6))), (.u (.shf 26 .shr .u64 (.s 25) (.c (.int .u64 7)))), (.u (.mov 6 (.s 26)))]) (.tr [5, 6]))))))) (.seq (.seq (.ops [(.u (.mov 27 (.s 5))), (.u (.mov 28 (.s 6))), (.u (.cnv 29 .u8 (.s 28))), (.u (.bsl 30 5 (.int .u8) [(.s 29)])), (.u (.app 31 5 (.int .u8) 1 (.s 27) (.s 30))), (.u (.mov 4 (.s 31)))]) (.tr [4])) .ret))))))
def rsRPut : List RV := [(.t 4)]
theorem irRPut : fnIR Tryd.prog WRPut 33 = some (icRPut, rsRPut) := by kernel_rfl
set_option maxHeartbeats 1000000 in
theorem vRPut {E : Nat → Value} (hE : Errs2 Tryd.prog (some 94) E) : Valid Tryd.prog E (gs []) 33 spPut := by
  refine valid_go (W := WRPut) hE (allValid_bot.add (vBytes hE)) irRPut (by decide) (fun args h nx K hsp hok hnm => ?_)
  unfold spPut at hsp
  split at hsp
  · rename_i d n
    obtain ⟨hlen, hK⟩ := hsp
    refine ⟨by simp [WRPut, mkW, mkWE], fun Q hQ => ?_⟩
    obtain ⟨_, hn, _⟩ := hok
    simp only [SV.ok, min_i64, max_i64] at hn
    have hz := enc10 (zig_lt hn)
    generalize hl : d.l = l at hK hlen
    have fin : ∀ m h' nx' (L : List D), nx ≤ m → L = l ++ encD n → HLe h h' → Q Ex.ret ⟨[(4, .vec m)], (m, .arr 5 (.int .u8) L) :: h', nx'⟩ := fun m h' nx' L hm hL hh => by
      refine (hQ _ ?_).1
      subst hL
      exact fin_vec rfl (hget_cons_self _ _ _) hm hnm (HLe.skip hnm hm hh) hK
    rcases Int.lt_or_le n 0 with hneg | hneg
    case' inl =>
      have hdec : decide (n < 0) = true := decide_eq_true hneg
      have hpc := neg_code (n := n) ⟨hn.1, hneg⟩
    case' inr =>
      have hdec : decide (n < 0) = false := decide_eq_false (by omega)
      have hpc := pos_code (n := n) (by omega)
    all_goals
      simp only [icRPut, frpL, go_frp, go_rgn, rgnK_def, goD_nil, goD_u, contD_some, goD_call, callD_clo, kD_app, goD_g, gD_T, gD_F, gD_U, gK_U, evI_true, evI_false, bareK_some, go_seq, go_ops, go_cond, go_block, go_skip, go_tr, trim_def, trim_nil, trim_cons, fget_nil, go_ret, go_exit, den_nil, den_seq, den_seq_ret, den_seq_ext, den_blk, den_blk_ret, den_blk_ext, den_lp, den_lp_ret, den_lp_ext, goO_nil, goO_u, noCall, contK_some, goO_slc, goO_mif, preF, preP, prePt, prePd, frzP, noSp, D.isNil, goO_nlq, nlqK_some, evNlq, goO_g, gK_T, gK_F, skipD_some, skipD_none, goO_call, goO_callf, frzK_def, callK_clo, kO_app, condK_ite, iteT, iteF, put_def, sput_def, ev, frOf, fget_cons, oget, ogets, argSs, argS, evMm, frzL, evBin, evWrp, evShf, evCmp, evUna, evNil, evBeq, evLd, evSt, evFad, evIad, evAad, evLen, evSln, evEls, evApp, evParts, evSlc, evNlc, evMif, evPck, evFld, evBld, evTas, evIfq, evSeq, evSl0, evBxf, evAgl, evAgq, evBsf, List.set_cons_zero, List.set_cons_succ, List.set_nil, List.flatten_cons, List.flatten_nil, List.getD_cons_zero, List.getD_cons_succ, List.contains_cons,  hget, hset, hdel, cellAt, arrAt, setCellAt, setArrAt, takeC, lenC, svCells, SV.okc, SV.one, ldSV, Fw.isAgg, Nat.reduceMul, Nat.reduceSub, Nat.reduceLeDiff, Nat.lt_irrefl, Nat.not_lt_zero, Nat.reduceLT, Nat.add_eq_left, Nat.left_eq_add, List.nil_append, List.length_cons, List.length_nil, List.append_nil, List.cons_append, Nat.zero_lt_one, Bool.false_eq_true, Bool.not_true, Bool.not_false, eq_self, Option.map_some, Option.map_none, true_imp_iff, false_imp_iff, implies_true, Bool.true_eq_false, explode, explodeL, toD, toDL, toD1, Ty.size, Ty.sizeL, frz1, Fr.sub, Heap.sub, Tok.sub, SV.sub, SV.subL, add_def, Nat.reduceEqDiff, Nat.reduceAdd, Nat.zero_add, reduceCtorEq, ↓reduceIte, and_self, and_true, true_and, reduceIte, spBytes, hl, hdec]
      rw [hpc]
      refine ⟨by omega, by omega, ?_⟩
      refine go_loop (α := { p : Nat × List Nat // p.1 < 18446744073709551616 ∧ p.2 ++ enc p.1 = enc (zig n) }) (I := fun p => { f := [(5, .vec nx), (6, .int .u64 (p.1.1 : Int))], h := (nx, .arr 5 (.int .u8) (l ++ dOf p.1.2)) :: h, nx := nx + 64 }) (μ := fun p => p.1.1) _ _ _ ⟨(zig n, []), zig_lt hn, rfl⟩ ?_ (fun p B hB => ?_)
      · refine leq_id ?_ (by (simp only [frLt_cons, frLt_nil, and_true, SV.lt, SV.ltL, true_and] <;> omega)) ?_ (by (repeat first | exact HLt.mono hnm (by simp only [] <;> omega) | refine HLt.cons (by simp only [] <;> omega) (by simp only [Tok.lt, SV.ltL, SV.lt, and_true, true_and] <;> omega) ?_)) (by simp only [] <;> omega)
        · simp only [frEq_cons, frEq_nil, frIn_cons, frIn_nil, and_true, fget_cons, Nat.reduceEqDiff, reduceIte, ↓reduceIte, true_and, SV.ren, SV.renL, ren1]
          (try simp)
        · simp only [dOf, List.map_nil, List.append_nil]
          ((try simp only []); repeat first | exact HLe.refl _ | refine HLe.cons (by simp only [hget, Nat.reduceEqDiff, Nat.left_eq_add, Nat.add_eq_left, reduceIte, ↓reduceIte] <;> rfl) ?_ | refine HLe.skip hnm (by omega) ?_ | refine HLe.frz hnm (by omega) ?_ | refine HLe.del hnm (by omega) ?_)
      · obtain ⟨⟨z, ds⟩, hz1, hz2⟩ := p
        have hds : ds.length ≤ 10 := by
          have := congrArg List.length hz2
          simp only [List.length_append] at this
          omega
        simp only [frpL, go_frp, go_rgn, rgnK_def, goD_nil, goD_u, contD_some, goD_call, callD_clo, kD_app, goD_g, gD_T, gD_F, gD_U, gK_U, evI_true, evI_false, bareK_some, go_seq, go_ops, go_cond, go_block, go_skip, go_tr, trim_def, trim_nil, trim_cons, fget_nil, go_ret, go_exit, den_nil, den_seq, den_seq_ret, den_seq_ext, den_blk, den_blk_ret, den_blk_ext, den_lp, den_lp_ret, den_lp_ext, goO_nil, goO_u, noCall, contK_some, goO_slc, goO_mif, preF, preP, prePt, prePd, frzP, noSp, D.isNil, goO_nlq, nlqK_some, evNlq, goO_g, gK_T, gK_F, skipD_some, skipD_none, goO_call, goO_callf, frzK_def, callK_clo, kO_app, condK_ite, iteT, iteF, put_def, sput_def, ev, frOf, fget_cons, oget, ogets, argSs, argS, evMm, frzL, evBin, evWrp, evShf, evCmp, evUna, evNil, evBeq, evLd, evSt, evFad, evIad, evAad, evLen, evSln, evEls, evApp, evParts, evSlc, evNlc, evMif, evPck, evFld, evBld, evTas, evIfq, evSeq, evSl0, evBxf, evAgl, evAgq, evBsf, List.set_cons_zero, List.set_cons_succ, List.set_nil, List.flatten_cons, List.flatten_nil, List.getD_cons_zero, List.getD_cons_succ, List.contains_cons,  hget, hset, hdel, cellAt, arrAt, setCellAt, setArrAt, takeC, lenC, svCells, SV.okc, SV.one, ldSV, Fw.isAgg, Nat.reduceMul, Nat.reduceSub, Nat.reduceLeDiff, Nat.lt_irrefl, Nat.not_lt_zero, Nat.reduceLT, Nat.add_eq_left, Nat.left_eq_add, List.nil_append, List.length_cons, List.length_nil, List.append_nil, List.cons_append, Nat.zero_lt_one, Bool.false_eq_true, Bool.not_true, Bool.not_false, eq_self, Option.map_some, Option.map_none, true_imp_iff, false_imp_iff, implies_true, Bool.true_eq_false, explode, explodeL, toD, toDL, toD1, Ty.size, Ty.sizeL, frz1, Fr.sub, Heap.sub, Tok.sub, SV.sub, SV.subL, add_def, Nat.reduceEqDiff, Nat.reduceAdd, Nat.zero_add, reduceCtorEq, ↓reduceIte, and_self, and_true, true_and, reduceIte, lo7_code z hz1, shr7, List.length_append, dOf_len]
        refine ⟨fun hc => ?_, fun hc => ?_⟩
        · have hz128 : ¬ z < 128 := by have := of_decide_eq_true hc; omega
          refine ⟨by omega, by omega, hB _ ⟨(z / 128, ds ++ [z % 128 + 128]), by simp only []; omega, by rw [← hz2, enc_ge hz128]; simp⟩ (by simp only []; omega) ?_⟩
          refine leq_ren1 nx (nx + 65) (Nat.le_refl _) (by simp only []; omega) ?_ (by (simp only [frLt_cons, frLt_nil, and_true, SV.lt, SV.ltL, true_and] <;> omega)) ?_ (by (repeat first | exact HLt.mono hnm (by simp only [] <;> omega) | refine HLt.cons (by simp only [] <;> omega) (by simp only [Tok.lt, SV.ltL, SV.lt, and_true, true_and] <;> omega) ?_)) (by simp only [] <;> omega)
          · simp only [frEq_cons, frEq_nil, frIn_cons, frIn_nil, and_true, fget_cons, Nat.reduceEqDiff, reduceIte, ↓reduceIte, true_and, SV.ren, SV.renL, ren1]
            (try simp)
          · exact HRen.cons (by rw [ren1_eq]; simp [hget, Tok.ren, dOf]) (HRen.base hnm (Nat.le_refl _) (by ((try simp only []); repeat first | exact HLe.refl _ | refine HLe.cons (by simp only [hget, Nat.reduceEqDiff, Nat.left_eq_add, Nat.add_eq_left, reduceIte, ↓reduceIte] <;> rfl) ?_ | refine HLe.skip hnm (by omega) ?_ | refine HLe.frz hnm (by omega) ?_ | refine HLe.del hnm (by omega) ?_)))
        · have hz128 : z < 128 := by have := of_decide_eq_false hc; omega
          have e1 : IntKind.u8.wrap (z : Int) = (z : Int) := by rw [u8w']; omega
          rw [enc_lt hz128] at hz2
          refine ⟨by omega, ?_⟩
          rw [e1]
          refine fin _ _ _ _ (by omega) ?_ (by ((try simp only []); repeat first | exact HLe.refl _ | refine HLe.cons (by simp only [hget, Nat.reduceEqDiff, Nat.left_eq_add, Nat.add_eq_left, reduceIte, ↓reduceIte] <;> rfl) ?_ | refine HLe.skip hnm (by omega) ?_ | refine HLe.frz hnm (by omega) ?_ | refine HLe.del hnm (by omega) ?_))
          unfold encD
          rw [← hz2, dOf_app, List.append_assoc]; rfl
  · exact hsp.elim

def WRPutBytes : Opts := mkWE 11 [] [] [] 94 [] []
def icRPutBytes : IC := (.seq (.seq (.ops [(.u (.mov 4 (.c .nils)))]) (.tr [0, 1])) (.seq (.seq (.ops [(.u (.mov 5 (.s 0))), (.u (.mov 6 (.s 1))), (.u (.len 7 false (.s 6))), (.u (.call 8 (.c (.clo 33 [])) [(.s 5), (.s 7)] [(some 5), none] true)), (.u (.mov 9 (.s 1))), (.u (.app 10 5 (.int .u8) 1 (.s 8) (.s 9))), (.u (.mov 4 (.s 10)))]) (.tr [4])) .ret))
def rsRPutBytes : List RV := [(.t 4)]
theorem irRPutBytes : fnIR Tryd.prog WRPutBytes 34 = some (icRPutBytes, rsRPutBytes) := by kernel_rfl
theorem vRPutBytes {E : Nat → Value} (hE : Errs2 Tryd.prog (some 94) E) : Valid Tryd.prog E (gs []) 34 spPutBytes := by
  refine valid_go (W := WRPutBytes) hE (allValid_bot.add (vRPut hE)) irRPutBytes (by decide) (fun args h nx K hsp hok hnm => ?_)
  unfold spPutBytes at hsp
  split at hsp
  · rename_i d x
    obtain ⟨hlen, hlx, hK⟩ := hsp
    refine ⟨by simp [WRPutBytes, mkW, mkWE], fun Q hQ => ?_⟩
    have hz := enc10 (zig_lt (n := (x.l.length : Int)) (by omega))
    simp only [icRPutBytes, frpL, go_frp, go_rgn, rgnK_def, goD_nil, goD_u, contD_some, goD_call, callD_clo, kD_app, goD_g, gD_T, gD_F, gD_U, gK_U, evI_true, evI_false, bareK_some, go_seq, go_ops, go_cond, go_block, go_skip, go_tr, trim_def, trim_nil, trim_cons, fget_nil, go_ret, go_exit, den_nil, den_seq, den_seq_ret, den_seq_ext, den_blk, den_blk_ret, den_blk_ext, den_lp, den_lp_ret, den_lp_ext, goO_nil, goO_u, noCall, contK_some, goO_slc, goO_mif, preF, preP, prePt, prePd, frzP, noSp, D.isNil, goO_nlq, nlqK_some, evNlq, goO_g, gK_T, gK_F, skipD_some, skipD_none, goO_call, goO_callf, frzK_def, callK_clo, kO_app, condK_ite, iteT, iteF, put_def, sput_def, ev, frOf, fget_cons, oget, ogets, argSs, argS, evMm, frzL, evBin, evWrp, evShf, evCmp, evUna, evNil, evBeq, evLd, evSt, evFad, evIad, evAad, evLen, evSln, evEls, evApp, evParts, evSlc, evNlc, evMif, evPck, evFld, evBld, evTas, evIfq, evSeq, evSl0, evBxf, evAgl, evAgq, evBsf, List.set_cons_zero, List.set_cons_succ, List.set_nil, List.flatten_cons, List.flatten_nil, List.getD_cons_zero, List.getD_cons_succ, List.contains_cons,  hget, hset, hdel, cellAt, arrAt, setCellAt, setArrAt, takeC, lenC, svCells, SV.okc, SV.one, ldSV, Fw.isAgg, Nat.reduceMul, Nat.reduceSub, Nat.reduceLeDiff, Nat.lt_irrefl, Nat.not_lt_zero, Nat.reduceLT, Nat.add_eq_left, Nat.left_eq_add, List.nil_append, List.length_cons, List.length_nil, List.append_nil, List.cons_append, Nat.zero_lt_one, Bool.false_eq_true, Bool.not_true, Bool.not_false, eq_self, Option.map_some, Option.map_none, true_imp_iff, false_imp_iff, implies_true, Bool.true_eq_false, explode, explodeL, toD, toDL, toD1, Ty.size, Ty.sizeL, frz1, Fr.sub, Heap.sub, Tok.sub, SV.sub, SV.subL, add_def, Nat.reduceEqDiff, Nat.reduceAdd, Nat.zero_add, reduceCtorEq, ↓reduceIte, and_self, and_true, true_and, reduceIte, spPut, List.length_append, encD_len]
    exact ⟨hlen, by omega, (hQ _ (fin_vec rfl (by simp only [hget, ↓reduceIte]) (by omega) hnm (by ((try simp only []); repeat first | exact HLe.refl _ | refine HLe.cons (by simp only [hget, Nat.reduceEqDiff, Nat.left_eq_add, Nat.add_eq_left, reduceIte, ↓reduceIte] <;> rfl) ?_ | refine HLe.skip hnm (by omega) ?_ | refine HLe.frz hnm (by omega) ?_ | refine HLe.del hnm (by omega) ?_)) hK)).1⟩
  · exact hsp.elim

theorem enc_m1 : encD (-1) = [.int 1] := by
  have : enc 1 = [1] := enc_lt (by decide)
  show dOf (enc 1) = _
  rw [this]; rfl
theorem enc_64 : encD 64 = [.int 128, .int 1] := by
  have h1 : enc 1 = [1] := enc_lt (by decide)
  have : enc 128 = [128, 1] := by rw [enc_ge (by decide)]; show (128 % 128 + 128) :: enc 1 = _; rw [h1]
  show dOf (enc 128) = _
  rw [this]; rfl
theorem sameD_rfl (l : List D) : sameD l l = true := by simp [sameD]
def WFirst2 : Opts := mkWE 9 [] [] [] 94 [] []
def icFirst2 : IC := (.seq (.seq (.ops [(.u (.mov 0 (.c (.bool false))))]) (.tr [])) (.seq (.seq (.ops [(.u (.call 1 (.c (.clo 18 [])) [(.c .nils), (.c (.int .i64 (-1)))] [(some 5), none] true)), (.u (.bsl 2 5 (.int .u8) [(.c (.int .u8 1))])), (.u (.call 3 (.c (.clo 19 [])) [(.s 1), (.s 2)] [(some 5), (some 5)] true)), (.u (.mov 4 (.s 3))), (.g 4 true (some 5) (.call 5 (.c (.clo 18 [])) [(.c .nils), (.c (.int .i64 64))] [(some 5), none] true)), (.g 4 true (some 6) (.bsl 6 5 (.int .u8) [(.c (.int .u8 128)), (.c (.int .u8 1))])), (.g 4 true (some 7) (.call 7 (.c (.clo 19 [])) [(.s 5), (.s 6)] [(some 5), (some 5)] true)), (.u (.pck 8 (.s 4) (.s 7) (.c (.bool false)))), (.u (.mov 0 (.s 8)))]) (.tr [0])) .ret))
def rsFirst2 : List RV := [(.t 0)]
theorem irFirst2 : fnIR Tryd.prog WFirst2 17 = some (icFirst2, rsFirst2) := by kernel_rfl
def spFirst : FSpec := fun args h nx K => match args with
  | [] => K (.bool true) h
  | _ => False
theorem vFirst {E : Nat → Value} (hE : Errs2 Tryd.prog (some 94) E) : Valid Tryd.prog E (gs []) 17 spFirst := by
  refine valid_go (W := WFirst2) hE ((allValid_bot.add (vPut hE)).add (vSameBytes hE)) irFirst2 (by decide) (fun args h nx K hsp hok hnm => ?_)
  unfold spFirst at hsp
  split at hsp
  · refine ⟨by simp [WFirst2, mkW, mkWE], fun Q hQ => ?_⟩
    simp (maxSteps := 4000000) only [icFirst2, frpL, go_frp, go_rgn, rgnK_def, goD_nil, goD_u, contD_some, goD_call, callD_clo, kD_app, goD_g, gD_T, gD_F, gD_U, gK_U, evI_true, evI_false, bareK_some, go_seq, go_ops, go_cond, go_block, go_skip, go_tr, trim_def, trim_nil, trim_cons, fget_nil, go_ret, go_exit, den_nil, den_seq, den_seq_ret, den_seq_ext, den_blk, den_blk_ret, den_blk_ext, den_lp, den_lp_ret, den_lp_ext, goO_nil, goO_u, noCall, contK_some, goO_slc, goO_mif, preF, preP, prePt, prePd, frzP, noSp, D.isNil, goO_nlq, nlqK_some, evNlq, goO_g, gK_T, gK_F, skipD_some, skipD_none, goO_call, goO_callf, frzK_def, callK_clo, kO_app, condK_ite, iteT, iteF, put_def, sput_def, ev, frOf, fget_cons, oget, ogets, argSs, argS, evMm, frzL, evBin, evWrp, evShf, evCmp, evUna, evNil, evBeq, evLd, evSt, evFad, evIad, evAad, evLen, evSln, evEls, evApp, evParts, evSlc, evNlc, evMif, evPck, evFld, evBld, evTas, evIfq, evSeq, evSl0, evBxf, evAgl, evAgq, evBsf, List.set_cons_zero, List.set_cons_succ, List.set_nil, List.flatten_cons, List.flatten_nil, List.getD_cons_zero, List.getD_cons_succ, List.contains_cons,  hget, hset, hdel, cellAt, arrAt, setCellAt, setArrAt, takeC, lenC, svCells, SV.okc, SV.one, ldSV, Fw.isAgg, Nat.reduceMul, Nat.reduceSub, Nat.reduceLeDiff, Nat.lt_irrefl, Nat.not_lt_zero, Nat.reduceLT, Nat.add_eq_left, Nat.left_eq_add, List.nil_append, List.length_cons, List.length_nil, List.append_nil, List.cons_append, Nat.zero_lt_one, Bool.false_eq_true, Bool.not_true, Bool.not_false, eq_self, Option.map_some, Option.map_none, true_imp_iff, false_imp_iff, implies_true, Bool.true_eq_false, explode, explodeL, toD, toDL, toD1, Ty.size, Ty.sizeL, frz1, Fr.sub, Heap.sub, Tok.sub, SV.sub, SV.subL, add_def, Nat.reduceEqDiff, Nat.reduceAdd, Nat.zero_add, reduceCtorEq, ↓reduceIte, and_self, and_true, true_and, reduceIte, spPut, spSameB, list_l, enc_m1, enc_64, D.l, sameD_rfl]
    refine (hQ _ ?_).1
    exact fin_t (.bool true) rfl rfl hnm (by ((try simp only []); repeat first | exact HLe.refl _ | refine HLe.cons (by simp only [hget, Nat.reduceEqDiff, Nat.left_eq_add, Nat.add_eq_left, reduceIte, ↓reduceIte] <;> rfl) ?_ | refine HLe.skip hnm (by omega) ?_ | refine HLe.frz hnm (by omega) ?_ | refine HLe.del hnm (by omega) ?_)) hsp
  · exact hsp.elim
end Go.Proofs.YthkpajefghmnaaaDoor
