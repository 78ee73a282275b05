/- Chapter 8's functions: spans as bytes, and back. -/
import Derived.Test.YthkpajefghmnaaaDoorSpanC
import Derived.Test.YthkpajefghmnaaaDoorWireF
namespace Go.Proofs.YthkpajefghmnaaaDoor
set_option linter.unusedVariables false
set_option linter.unusedSimpArgs false
open Go Go.Fw Go.Wire

theorem numF_ge {l : List D} {a : Nat} {e : D} {lo hi : Int} (hal : a ≤ l.length) : (numF l a e lo hi).2.1 ≤ l.length := by
  rcases numF_cases (e := e) (lo := lo) (hi := hi) hal with ⟨n, k, _, h, _, _, h2⟩ | ⟨e', _, h⟩
  · rw [h]; exact h2
  · rw [h]; exact hal
theorem numF_in {l : List D} {a : Nat} {e : D} {lo hi : Int} (hal : a ≤ l.length) (h0 : lo ≤ 0 ∧ 0 ≤ hi) : lo ≤ (numF l a e lo hi).1 ∧ (numF l a e lo hi).1 ≤ hi := by
  rcases numF_cases (e := e) (lo := lo) (hi := hi) hal with ⟨n, k, _, h, h1, h2, _⟩ | ⟨e', _, h⟩
  · rw [h]; exact ⟨h1, h2⟩
  · rw [h]; exact h0
/-- What comes of reading one span. -/
def span3 (l : List D) (a : Nat) (e : D) : D × Nat × D :=
  (.node [.int (numF l a e 1 1073741824).1, .int (numF l (numF l a e 1 1073741824).2.1 (numF l a e 1 1073741824).2.2 0 1099511627776).1,
    .int (numF l (numF l (numF l a e 1 1073741824).2.1 (numF l a e 1 1073741824).2.2 0 1099511627776).2.1 (numF l (numF l a e 1 1073741824).2.1 (numF l a e 1 1073741824).2.2 0 1099511627776).2.2 0 1099511627776).1],
   (numF l (numF l (numF l a e 1 1073741824).2.1 (numF l a e 1 1073741824).2.2 0 1099511627776).2.1 (numF l (numF l a e 1 1073741824).2.1 (numF l a e 1 1073741824).2.2 0 1099511627776).2.2 0 1099511627776).2)
def spansN (l : List D) : Nat → Nat → D → List D × Nat × D
  | 0, a, e => ([], a, e)
  | k + 1, a, e => if e.isNil = true then ((span3 l a e).1 :: (spansN l k (span3 l a e).2.1 (span3 l a e).2.2).1, (spansN l k (span3 l a e).2.1 (span3 l a e).2.2).2) else ([], a, e)
def spansF (l : List D) (a : Nat) (e : D) : List D × Nat × D := spansN l (numF l a e 0 64).1.toNat (numF l a e 0 64).2.1 (numF l a e 0 64).2.2
theorem span3_ge {l : List D} {a : Nat} {e : D} (hal : a ≤ l.length) : (span3 l a e).2.1 ≤ l.length := numF_ge (numF_ge (numF_ge hal))
theorem spansN_ge {l : List D} : ∀ (k : Nat) {a : Nat} {e : D}, a ≤ l.length → (spansN l k a e).2.1 ≤ l.length ∧ (spansN l k a e).1.length ≤ k
  | 0, a, e, h => ⟨h, Nat.le_refl _⟩
  | k + 1, a, e, h => by
    simp only [spansN]
    split
    · have := spansN_ge k (e := (span3 l a e).2.2) (span3_ge (e := e) h)
      exact ⟨this.1, by simp only [List.length_cons]; omega⟩
    · exact ⟨h, by simp⟩
theorem rd_c (l : List D) (a : Nat) (e : D) : Tok.cells [.dat (.slice 5) (.list l), .int .i64 (a : Int), .dat .iface e] = rdTok l a e := rfl
theorem hset_new {n p : Nat} {u t : Tok} {h : Heap} (hne : (n = p) = False) : hset ((n, u) :: h) p t = (n, u) :: hset h p t := by
  simp only [hset, hne, if_false]

def WSFrom : Opts := mkWE 31 [] [0, 1, 3] [] 94 [0, 1, 3] []
def icSFrom : IC := (.seq (.seq (.ops [(.u (.mov 2 (.c .nils)))]) (.tr [0])) (.seq (.seq (.ops [(.u (.mov 3 (.c .nils)))]) (.tr [0, 3])) (.seq (.seq (.seq (.ops [(.u (.mov 6 (.s 0))), (.u (.call 7 (.c (.clo 22 [])) [(.s 6), (.c (.int .i64 0)), (.c (.int .i64 64))] [none, none, none] true)), (.u (.mov 4 (.s 7)))]) (.tr [0, 4, 3])) (.block 0 (.loop (.seq (.seq (.seq (.ops [(.u (.mov 8 (.s 4))), (.u (.cmp 9 .gtr (.s 8) (.c (.int .i64 0)))), (.u (.mov 10 (.s 9))), (.g 10 true (some 11) (.mov 11 (.s 0))), (.g 10 true (some 12) (.call 12 (.c (.clo 24 [])) [(.s 11)] [none] true)), (.g 10 true (some 13) (.eqb 13 false 0 (.s 12))), (.u (.pck 14 (.s 10) (.s 13) (.c (.bool false))))]) (.tr [14, 4, 0, 3])) (.cond (.s 14) .skip (.exit 0))) (.seq (.block 1 (.seq (.seq (.ops [(.u (.alc 5 [(.int .i64 0), (.int .i64 0), (.int .i64 0)]))]) (.tr [3, 5, 4, 0])) (.seq (.seq (.ops [(.u (.mov 17 (.s 0))), (.u (.call 18 (.c (.clo 22 [])) [(.s 17), (.c (.int .i64 1)), (.c (.int .i64 1073741824))] [none, none, none] true)), (.u (.mov 19 (.s 0))), (.u (.call 20 (.c (.clo 22 [])) [(.s 19), (.c (.int .i64 0)), (.c (.int .i64 1099511627776))] [none, none, none] true)), (.u (.mov 21 (.s 0))), (.u (.call 22 (.c (.clo 22 [])) [(.s 21), (.c (.int .i64 0)), (.c (.int .i64 1099511627776))] [none, none, none] true)), (.u (.fad 23 0 0 (.int .i64) 30 (.s 5))), (.u (.st (.int .i64) (.s 23) (.s 18))), (.u (.fad 24 1 1 (.int .i64) 30 (.s 5))), (.u (.st (.int .i64) (.s 24) (.s 20))), (.u (.fad 25 2 2 (.int .i64) 30 (.s 5))), (.u (.st (.int .i64) (.s 25) (.s 22)))]) (.tr [3, 5, 4, 0])) (.seq (.ops [(.u (.mov 26 (.s 3))), (.u (.ld 27 (.strct [(.int .i64), (.int .i64), (.int .i64)]) (.s 5))), (.u (.bsl 28 30 (.strct [(.int .i64), (.int .i64), (.int .i64)]) [(.s 27)])), (.u (.app 29 30 (.strct [(.int .i64), (.int .i64), (.int .i64)]) 24 (.s 26) (.s 28))), (.u (.mov 3 (.s 29)))]) (.tr [4, 0, 3]))))) (.seq (.ops [(.u (.mov 15 (.s 4))), (.u (.bin 16 .sub .i64 (.s 15) (.c (.int .i64 1)))), (.u (.mov 4 (.s 16)))]) (.tr [0, 4, 3]))))))) (.seq (.seq (.ops [(.u (.mov 30 (.s 3))), (.u (.mov 2 (.s 30)))]) (.tr [2])) .ret))))
def rsSFrom : List RV := [(.t 2)]
theorem irSFrom : fnIR Tryd.prog WSFrom 59 = some (icSFrom, rsSFrom) := by kernel_rfl
def spSFrom : FSpec := fun args h nx K => match args with
  | [.ptr p 0] => rdOk (hget h p) ∧ K (.vec nx) ((nx, .arr 30 spanT (spansF (rdL (hget h p)) (rdA (hget h p)) (rdE (hget h p))).1) :: hset h p (rdTok (rdL (hget h p)) (spansF (rdL (hget h p)) (rdA (hget h p)) (rdE (hget h p))).2.1 (spansF (rdL (hget h p)) (rdA (hget h p)) (rdE (hget h p))).2.2))
  | _ => False
set_option maxHeartbeats 4000000 in
set_option maxRecDepth 8000 in
theorem vSFrom {E : Nat → Value} (hE : Errs2 Tryd.prog (some 94) E) : Valid Tryd.prog E (gs GW) 59 spSFrom := by
  refine valid_go (W := WSFrom) hE ((allValid_bot.add (up (vNum hE))).add (up (vRErr hE))) irSFrom (by decide) (fun args h nx K hsp hok hnm => ?_)
  unfold spSFrom at hsp
  split at hsp
  · rename_i p
    obtain ⟨⟨l, a, e, hp, hal, hl9, hrng⟩, hK⟩ := hsp
    rw [hp, rdL_tok, rdA_tok, rdE_tok] at hK
    refine ⟨by simp [WSFrom, mkW, mkWE, mkWF], fun Q hQ => ?_⟩
    have hpx := (hnm p _ hp).1
    have hst : ∀ a' e', HLt (hset h p (rdTok l a' e')) nx := fun a' e' => HLt.hset hnm (rd_lt l a' e')
    have hself : ∀ t, hget (hset h p t) p = some t := fun t => hget_hset' hp
    have pn : (nx = p) = False := eq_false (by omega)
    have g0 := numF_ge (e := e) (lo := 0) (hi := 64) hal
    have g1 := numF_in (e := e) (lo := 0) (hi := 64) hal (by omega)
    have hF : spansF l a e = spansN l (numF l a e 0 64).1.toNat (numF l a e 0 64).2.1 (numF l a e 0 64).2.2 := rfl
    rw [hF] at hK
    simp (maxSteps := 4000000) only [icSFrom, fzSp_app, fzGo_app, slotsOf_nil, slotsOf_cons, Int.reduceEq, bq_tt, bq_tf, bq_ft, bq_ff, Bool.true_and, Bool.false_and, Bool.and_true, Bool.and_false, Bool.true_or, Bool.false_or, Bool.or_true, Bool.or_false, beq_self_eq_true, bne_self_eq_false, Int.reduceBEq, Int.reduceBNe, Int.reduceLE, Int.reduceLT, Int.reduceAdd, Int.reduceSub, Int.reduceMul, Int.reduceNeg, decide_true, decide_false, nm_ne2, nm_en2, nm_ne3, nm_en3, nm_ne4, nm_en4, nm_ne5, nm_en5, nm_ne6, nm_en6, nm_ne7, nm_en7, nm_ne8, nm_en8, nm_ne9, nm_en9, nm_ne10, nm_en10, D_i, D_b, D_s, D_l, D_tgt, nil_nil, nil_err, nil_ifc, nil_ptr, nil_node, D_fld0, D_fld1, D_fld2, D_fld3, D_fld4, D_fld5, D_fld6, D_fld7, D_fld8, D_fld9, D_fld10, D_fld11, D_fld12, D_fld13, D_fld14, D_fld15, frpL, go_frp, go_rgn, rgnK_def, goD_nil, goD_u, contD_some, goD_call, callD_clo, kD_app, goD_g, gD_T, gD_F, gD_U, gK_U, evI_true, evI_false, bareK_some, go_seq, go_ops, go_cond, go_block, go_skip, go_tr, trim_def, trim_nil, trim_cons, fget_nil, go_ret, go_exit, den_nil, den_seq, den_seq_ret, den_seq_ext, den_blk, den_blk_ret, den_blk_ext, den_lp, den_lp_ret, den_lp_ext, goO_nil, goO_u, noCall, contK_some, goO_slc, goO_mif, preF, preP, prePt, prePd, frzP, noSp, goO_nlq, nlqK_some, evNlq, goO_g, gK_T, gK_F, skipD_some, skipD_none, goO_call, goO_callf, frzK_def, callK_clo, kO_app, condK_ite, iteT, iteF, put_def, sput_def, ev, frOf, fget_cons, oget, ogets, argSs, argS, evMm, frzL, evBin, evWrp, evShf, evCmp, evUna, evNil, evBeq, evLd, evSt, evFad, evIad, evAad, evLen, evSln, evEls, evApp, evParts, evSlc, evNlc, evMif, evPck, evFld, evBld, evTas, evIfq, evSeq, evSl0, evBxf, evAgl, evAgq, evBsf, List.set_cons_zero, List.set_cons_succ, List.set_nil, List.flatten_cons, List.flatten_nil, List.getD_cons_zero, List.getD_cons_succ, List.contains_cons,  hget, hset, hdel, cellAt, arrAt, setCellAt, setArrAt, takeC, lenC, svCells, SV.okc, SV.one, ldSV, Fw.isAgg, Nat.reduceMul, Nat.reduceSub, Nat.reduceLeDiff, Nat.lt_irrefl, Nat.not_lt_zero, Nat.reduceLT, Nat.add_eq_left, Nat.left_eq_add, List.nil_append, List.length_cons, List.length_nil, List.append_nil, List.cons_append, Nat.zero_lt_one, Bool.false_eq_true, Bool.not_true, Bool.not_false, eq_self, Option.map_some, Option.map_none, true_imp_iff, false_imp_iff, implies_true, Bool.true_eq_false, explode, explodeL, toD, toDL, toD1, Ty.size, Ty.sizeL, frz1, Fr.sub, Heap.sub, Tok.sub, SV.sub, SV.subL, add_def, Nat.reduceEqDiff, Nat.reduceAdd, Nat.zero_add, reduceCtorEq, ↓reduceIte, and_self, and_true, true_and, reduceIte, spNum, hp, rdL_tok, rdA_tok, rdE_tok, rdOk_tok]
    refine ⟨⟨hal, hl9, hrng⟩, ?_⟩
    generalize (numF l a e 0 64).2.1 = a0 at *
    generalize (numF l a e 0 64).2.2 = e0 at *
    generalize (numF l a e 0 64).1 = n0 at *
    obtain ⟨N, rfl⟩ := Int.eq_ofNat_of_zero_le g1.1
    rw [Int.toNat_natCast] at hK
    refine go_loop (α := { x : Nat × List D × Nat × D // x.1 ≤ N ∧ x.2.1.length + x.1 = N ∧ x.2.2.1 ≤ l.length ∧ x.2.1 ++ (spansN l x.1 x.2.2.1 x.2.2.2).1 = (spansN l N a0 e0).1 ∧ (spansN l x.1 x.2.2.1 x.2.2.2).2 = (spansN l N a0 e0).2 })
      (I := fun x => { f := [(0, .ptr p 0), (4, .int .i64 (x.1.1 : Int)), (3, .vec nx)], h := (nx, .arr 30 spanT x.1.2.1) :: hset h p (rdTok l x.1.2.2.1 x.1.2.2.2), nx := nx + 1 }) (μ := fun x => x.1.1) _ _ _ ⟨(N, [], a0, e0), by omega, by simp, g0, by simp, rfl⟩ ?_ (fun x B hB => ?_)
    · refine leq_nil (.slot 3 30 spanT rfl (.refl _)) ?_
      simp only [fzSp_app, fzGo_app, slotsOf_nil, slotsOf_cons, Int.reduceEq, bq_tt, bq_tf, bq_ft, bq_ff, Bool.true_and, Bool.false_and, Bool.and_true, Bool.and_false, Bool.true_or, Bool.false_or, Bool.or_true, Bool.or_false, beq_self_eq_true, bne_self_eq_false, Int.reduceBEq, Int.reduceBNe, Int.reduceLE, Int.reduceLT, Int.reduceAdd, Int.reduceSub, Int.reduceMul, Int.reduceNeg, decide_true, decide_false, nm_ne2, nm_en2, nm_ne3, nm_en3, nm_ne4, nm_en4, nm_ne5, nm_en5, nm_ne6, nm_en6, nm_ne7, nm_en7, nm_ne8, nm_en8, nm_ne9, nm_en9, nm_ne10, nm_en10, D_i, D_b, D_s, D_l, D_tgt, nil_nil, nil_err, nil_ifc, nil_ptr, nil_node, D_fld0, D_fld1, D_fld2, D_fld3, D_fld4, D_fld5, D_fld6, D_fld7, D_fld8, D_fld9, D_fld10, D_fld11, D_fld12, D_fld13, D_fld14, D_fld15, frpL, go_frp, go_rgn, rgnK_def, goD_nil, goD_u, contD_some, goD_call, callD_clo, kD_app, goD_g, gD_T, gD_F, gD_U, gK_U, evI_true, evI_false, bareK_some, go_seq, go_ops, go_cond, go_block, go_skip, go_tr, trim_def, trim_nil, trim_cons, fget_nil, go_ret, go_exit, den_nil, den_seq, den_seq_ret, den_seq_ext, den_blk, den_blk_ret, den_blk_ext, den_lp, den_lp_ret, den_lp_ext, goO_nil, goO_u, noCall, contK_some, goO_slc, goO_mif, preF, preP, prePt, prePd, frzP, noSp, goO_nlq, nlqK_some, evNlq, goO_g, gK_T, gK_F, skipD_some, skipD_none, goO_call, goO_callf, frzK_def, callK_clo, kO_app, condK_ite, iteT, iteF, put_def, sput_def, ev, frOf, fget_cons, oget, ogets, argSs, argS, evMm, frzL, evBin, evWrp, evShf, evCmp, evUna, evNil, evBeq, evLd, evSt, evFad, evIad, evAad, evLen, evSln, evEls, evApp, evParts, evSlc, evNlc, evMif, evPck, evFld, evBld, evTas, evIfq, evSeq, evSl0, evBxf, evAgl, evAgq, evBsf, List.set_cons_zero, List.set_cons_succ, List.set_nil, List.flatten_cons, List.flatten_nil, List.getD_cons_zero, List.getD_cons_succ, List.contains_cons,  hget, hset, hdel, cellAt, arrAt, setCellAt, setArrAt, takeC, lenC, svCells, SV.okc, SV.one, ldSV, Fw.isAgg, Nat.reduceMul, Nat.reduceSub, Nat.reduceLeDiff, Nat.lt_irrefl, Nat.not_lt_zero, Nat.reduceLT, Nat.add_eq_left, Nat.left_eq_add, List.nil_append, List.length_cons, List.length_nil, List.append_nil, List.cons_append, Nat.zero_lt_one, Bool.false_eq_true, Bool.not_true, Bool.not_false, eq_self, Option.map_some, Option.map_none, true_imp_iff, false_imp_iff, implies_true, Bool.true_eq_false, explode, explodeL, toD, toDL, toD1, Ty.size, Ty.sizeL, frz1, Fr.sub, Heap.sub, Tok.sub, SV.sub, SV.subL, add_def, Nat.reduceEqDiff, Nat.reduceAdd, Nat.zero_add, reduceCtorEq, ↓reduceIte, and_self, and_true, true_and, reduceIte]
      refine leq_ren1 nx (nx + 64) (by omega) (by simp only []; omega) ?_ ?_ ?_ ?_ (by simp only [] <;> omega)
      · simp only [frEq_cons, frEq_nil, frIn_cons, frIn_nil, and_true, fget_cons, Nat.reduceEqDiff, reduceIte, ↓reduceIte, true_and, SV.ren, SV.renL, ren1]
        rw [if_neg (by omega)]
      · exact ⟨by show p < nx + 1; omega, trivial, by show nx < nx + 1; omega, trivial⟩
      · exact HRen.cons (by rw [ren1_eq]; simp [hget, Tok.ren]) (HRen.base (hst _ _) (Nat.le_refl _) (HLe.skip (hst _ _) (by omega) (HLe.refl _)))
      · exact HLt.cons (by simp only []; omega) trivial ((hst _ _).mono (by simp only []; omega))
    · obtain ⟨⟨k, acc, a1, e1⟩, hk, hka, ha1, hacc, hfin⟩ := x
      simp only at hk hka ha1 hacc hfin hB
      have ho1 : rdOk (some (rdTok l a1 e1)) = True := by rw [rdOk_tok]; exact eq_true ⟨ha1, hl9, hrng⟩
      by_cases hk0 : k = 0
      · subst hk0
        simp only [spansN, List.append_nil] at hacc hfin
        rw [← hacc, ← hfin] at hK
        have c0 : decide (0 < ((0 : Nat) : Int)) = false := rfl
        simp (maxSteps := 4000000) only [fzSp_app, fzGo_app, slotsOf_nil, slotsOf_cons, Int.reduceEq, bq_tt, bq_tf, bq_ft, bq_ff, Bool.true_and, Bool.false_and, Bool.and_true, Bool.and_false, Bool.true_or, Bool.false_or, Bool.or_true, Bool.or_false, beq_self_eq_true, bne_self_eq_false, Int.reduceBEq, Int.reduceBNe, Int.reduceLE, Int.reduceLT, Int.reduceAdd, Int.reduceSub, Int.reduceMul, Int.reduceNeg, decide_true, decide_false, nm_ne2, nm_en2, nm_ne3, nm_en3, nm_ne4, nm_en4, nm_ne5, nm_en5, nm_ne6, nm_en6, nm_ne7, nm_en7, nm_ne8, nm_en8, nm_ne9, nm_en9, nm_ne10, nm_en10, D_i, D_b, D_s, D_l, D_tgt, nil_nil, nil_err, nil_ifc, nil_ptr, nil_node, D_fld0, D_fld1, D_fld2, D_fld3, D_fld4, D_fld5, D_fld6, D_fld7, D_fld8, D_fld9, D_fld10, D_fld11, D_fld12, D_fld13, D_fld14, D_fld15, frpL, go_frp, go_rgn, rgnK_def, goD_nil, goD_u, contD_some, goD_call, callD_clo, kD_app, goD_g, gD_T, gD_F, gD_U, gK_U, evI_true, evI_false, bareK_some, go_seq, go_ops, go_cond, go_block, go_skip, go_tr, trim_def, trim_nil, trim_cons, fget_nil, go_ret, go_exit, den_nil, den_seq, den_seq_ret, den_seq_ext, den_blk, den_blk_ret, den_blk_ext, den_lp, den_lp_ret, den_lp_ext, goO_nil, goO_u, noCall, contK_some, goO_slc, goO_mif, preF, preP, prePt, prePd, frzP, noSp, goO_nlq, nlqK_some, evNlq, goO_g, gK_T, gK_F, skipD_some, skipD_none, goO_call, goO_callf, frzK_def, callK_clo, kO_app, condK_ite, iteT, iteF, put_def, sput_def, ev, frOf, fget_cons, oget, ogets, argSs, argS, evMm, frzL, evBin, evWrp, evShf, evCmp, evUna, evNil, evBeq, evLd, evSt, evFad, evIad, evAad, evLen, evSln, evEls, evApp, evParts, evSlc, evNlc, evMif, evPck, evFld, evBld, evTas, evIfq, evSeq, evSl0, evBxf, evAgl, evAgq, evBsf, List.set_cons_zero, List.set_cons_succ, List.set_nil, List.flatten_cons, List.flatten_nil, List.getD_cons_zero, List.getD_cons_succ, List.contains_cons,  hget, hset, hdel, cellAt, arrAt, setCellAt, setArrAt, takeC, lenC, svCells, SV.okc, SV.one, ldSV, Fw.isAgg, Nat.reduceMul, Nat.reduceSub, Nat.reduceLeDiff, Nat.lt_irrefl, Nat.not_lt_zero, Nat.reduceLT, Nat.add_eq_left, Nat.left_eq_add, List.nil_append, List.length_cons, List.length_nil, List.append_nil, List.cons_append, Nat.zero_lt_one, Bool.false_eq_true, Bool.not_true, Bool.not_false, eq_self, Option.map_some, Option.map_none, true_imp_iff, false_imp_iff, implies_true, Bool.true_eq_false, explode, explodeL, toD, toDL, toD1, Ty.size, Ty.sizeL, frz1, Fr.sub, Heap.sub, Tok.sub, SV.sub, SV.subL, add_def, Nat.reduceEqDiff, Nat.reduceAdd, Nat.zero_add, reduceCtorEq, ↓reduceIte, and_self, and_true, true_and, reduceIte, spRErr, c0]
        refine (hQ _ ?_).1
        exact fin_vec rfl (by simp only [hget, ↓reduceIte]) (Nat.le_refl _) (hst _ _) (HLe.skip (hst _ _) (by omega) (HLe.refl _)) hK
      · obtain ⟨k, rfl⟩ : ∃ j, k = j + 1 := ⟨k - 1, by omega⟩
        have c1 : decide (0 < ((k + 1 : Nat) : Int)) = true := decide_eq_true (by omega)
        cases hen : e1.isNil with
        | false =>
          have hs : spansN l (k + 1) a1 e1 = ([], a1, e1) := by simp only [spansN]; rw [if_neg (by rw [hen]; simp)]
          rw [hs] at hacc hfin
          simp only [List.append_nil] at hacc
          simp only at hfin
          rw [← hacc, ← hfin] at hK
          simp (maxSteps := 4000000) only [fzSp_app, fzGo_app, slotsOf_nil, slotsOf_cons, Int.reduceEq, bq_tt, bq_tf, bq_ft, bq_ff, Bool.true_and, Bool.false_and, Bool.and_true, Bool.and_false, Bool.true_or, Bool.false_or, Bool.or_true, Bool.or_false, beq_self_eq_true, bne_self_eq_false, Int.reduceBEq, Int.reduceBNe, Int.reduceLE, Int.reduceLT, Int.reduceAdd, Int.reduceSub, Int.reduceMul, Int.reduceNeg, decide_true, decide_false, nm_ne2, nm_en2, nm_ne3, nm_en3, nm_ne4, nm_en4, nm_ne5, nm_en5, nm_ne6, nm_en6, nm_ne7, nm_en7, nm_ne8, nm_en8, nm_ne9, nm_en9, nm_ne10, nm_en10, D_i, D_b, D_s, D_l, D_tgt, nil_nil, nil_err, nil_ifc, nil_ptr, nil_node, D_fld0, D_fld1, D_fld2, D_fld3, D_fld4, D_fld5, D_fld6, D_fld7, D_fld8, D_fld9, D_fld10, D_fld11, D_fld12, D_fld13, D_fld14, D_fld15, frpL, go_frp, go_rgn, rgnK_def, goD_nil, goD_u, contD_some, goD_call, callD_clo, kD_app, goD_g, gD_T, gD_F, gD_U, gK_U, evI_true, evI_false, bareK_some, go_seq, go_ops, go_cond, go_block, go_skip, go_tr, trim_def, trim_nil, trim_cons, fget_nil, go_ret, go_exit, den_nil, den_seq, den_seq_ret, den_seq_ext, den_blk, den_blk_ret, den_blk_ext, den_lp, den_lp_ret, den_lp_ext, goO_nil, goO_u, noCall, contK_some, goO_slc, goO_mif, preF, preP, prePt, prePd, frzP, noSp, goO_nlq, nlqK_some, evNlq, goO_g, gK_T, gK_F, skipD_some, skipD_none, goO_call, goO_callf, frzK_def, callK_clo, kO_app, condK_ite, iteT, iteF, put_def, sput_def, ev, frOf, fget_cons, oget, ogets, argSs, argS, evMm, frzL, evBin, evWrp, evShf, evCmp, evUna, evNil, evBeq, evLd, evSt, evFad, evIad, evAad, evLen, evSln, evEls, evApp, evParts, evSlc, evNlc, evMif, evPck, evFld, evBld, evTas, evIfq, evSeq, evSl0, evBxf, evAgl, evAgq, evBsf, List.set_cons_zero, List.set_cons_succ, List.set_nil, List.flatten_cons, List.flatten_nil, List.getD_cons_zero, List.getD_cons_succ, List.contains_cons,  hget, hset, hdel, cellAt, arrAt, setCellAt, setArrAt, takeC, lenC, svCells, SV.okc, SV.one, ldSV, Fw.isAgg, Nat.reduceMul, Nat.reduceSub, Nat.reduceLeDiff, Nat.lt_irrefl, Nat.not_lt_zero, Nat.reduceLT, Nat.add_eq_left, Nat.left_eq_add, List.nil_append, List.length_cons, List.length_nil, List.append_nil, List.cons_append, Nat.zero_lt_one, Bool.false_eq_true, Bool.not_true, Bool.not_false, eq_self, Option.map_some, Option.map_none, true_imp_iff, false_imp_iff, implies_true, Bool.true_eq_false, explode, explodeL, toD, toDL, toD1, Ty.size, Ty.sizeL, frz1, Fr.sub, Heap.sub, Tok.sub, SV.sub, SV.subL, add_def, Nat.reduceEqDiff, Nat.reduceAdd, Nat.zero_add, reduceCtorEq, ↓reduceIte, and_self, and_true, true_and, reduceIte, spRErr, c1, pn, hself, ho1, rdE_tok, hen]
          refine (hQ _ ?_).1
          exact fin_vec rfl (by simp only [hget, ↓reduceIte]) (Nat.le_refl _) (hst _ _) (HLe.skip (hst _ _) (by omega) (HLe.refl _)) hK
        | true =>
          obtain rfl := isNil_eq hen
          have hs : spansN l (k + 1) a1 .nil = ((span3 l a1 .nil).1 :: (spansN l k (span3 l a1 .nil).2.1 (span3 l a1 .nil).2.2).1, (spansN l k (span3 l a1 .nil).2.1 (span3 l a1 .nil).2.2).2) := by simp only [spansN, nil_nil, if_true]
          have q3 := span3_ge (e := .nil) ha1
          have q1 := numF_ge (e := .nil) (lo := 1) (hi := 1073741824) ha1
          have q2 := numF_ge (e := (numF l a1 .nil 1 1073741824).2.2) (lo := 0) (hi := 1099511627776) q1
          rw [hs] at hacc hfin
          have e3 : (span3 l a1 .nil).1 = .node [.int (numF l a1 .nil 1 1073741824).1, .int (numF l (numF l a1 .nil 1 1073741824).2.1 (numF l a1 .nil 1 1073741824).2.2 0 1099511627776).1, .int (numF l (numF l (numF l a1 .nil 1 1073741824).2.1 (numF l a1 .nil 1 1073741824).2.2 0 1099511627776).2.1 (numF l (numF l a1 .nil 1 1073741824).2.1 (numF l a1 .nil 1 1073741824).2.2 0 1099511627776).2.2 0 1099511627776).1] := rfl
          have e4 : (numF l (numF l (numF l a1 .nil 1 1073741824).2.1 (numF l a1 .nil 1 1073741824).2.2 0 1099511627776).2.1 (numF l (numF l a1 .nil 1 1073741824).2.1 (numF l a1 .nil 1 1073741824).2.2 0 1099511627776).2.2 0 1099511627776).2 = (span3 l a1 .nil).2 := rfl
          have o2 : rdOk (some (rdTok l (numF l a1 .nil 1 1073741824).2.1 (numF l a1 .nil 1 1073741824).2.2)) = True := by rw [rdOk_tok]; exact eq_true ⟨q1, hl9, hrng⟩
          have o3 : rdOk (some (rdTok l (numF l (numF l a1 .nil 1 1073741824).2.1 (numF l a1 .nil 1 1073741824).2.2 0 1099511627776).2.1 (numF l (numF l a1 .nil 1 1073741824).2.1 (numF l a1 .nil 1 1073741824).2.2 0 1099511627776).2.2)) = True := by rw [rdOk_tok]; exact eq_true ⟨q2, hl9, hrng⟩
          have pn2 : (nx + 1 + 64 = p) = False := eq_false (by omega)
          simp (maxSteps := 4000000) only [fzSp_app, fzGo_app, slotsOf_nil, slotsOf_cons, Int.reduceEq, bq_tt, bq_tf, bq_ft, bq_ff, Bool.true_and, Bool.false_and, Bool.and_true, Bool.and_false, Bool.true_or, Bool.false_or, Bool.or_true, Bool.or_false, beq_self_eq_true, bne_self_eq_false, Int.reduceBEq, Int.reduceBNe, Int.reduceLE, Int.reduceLT, Int.reduceAdd, Int.reduceSub, Int.reduceMul, Int.reduceNeg, decide_true, decide_false, nm_ne2, nm_en2, nm_ne3, nm_en3, nm_ne4, nm_en4, nm_ne5, nm_en5, nm_ne6, nm_en6, nm_ne7, nm_en7, nm_ne8, nm_en8, nm_ne9, nm_en9, nm_ne10, nm_en10, D_i, D_b, D_s, D_l, D_tgt, nil_nil, nil_err, nil_ifc, nil_ptr, nil_node, D_fld0, D_fld1, D_fld2, D_fld3, D_fld4, D_fld5, D_fld6, D_fld7, D_fld8, D_fld9, D_fld10, D_fld11, D_fld12, D_fld13, D_fld14, D_fld15, frpL, go_frp, go_rgn, rgnK_def, goD_nil, goD_u, contD_some, goD_call, callD_clo, kD_app, goD_g, gD_T, gD_F, gD_U, gK_U, evI_true, evI_false, bareK_some, go_seq, go_ops, go_cond, go_block, go_skip, go_tr, trim_def, trim_nil, trim_cons, fget_nil, go_ret, go_exit, den_nil, den_seq, den_seq_ret, den_seq_ext, den_blk, den_blk_ret, den_blk_ext, den_lp, den_lp_ret, den_lp_ext, goO_nil, goO_u, noCall, contK_some, goO_slc, goO_mif, preF, preP, prePt, prePd, frzP, noSp, goO_nlq, nlqK_some, evNlq, goO_g, gK_T, gK_F, skipD_some, skipD_none, goO_call, goO_callf, frzK_def, callK_clo, kO_app, condK_ite, iteT, iteF, put_def, sput_def, ev, frOf, fget_cons, oget, ogets, argSs, argS, evMm, frzL, evBin, evWrp, evShf, evCmp, evUna, evNil, evBeq, evLd, evSt, evFad, evIad, evAad, evLen, evSln, evEls, evApp, evParts, evSlc, evNlc, evMif, evPck, evFld, evBld, evTas, evIfq, evSeq, evSl0, evBxf, evAgl, evAgq, evBsf, List.set_cons_zero, List.set_cons_succ, List.set_nil, List.flatten_cons, List.flatten_nil, List.getD_cons_zero, List.getD_cons_succ, List.contains_cons,  hget, hset, hdel, cellAt, arrAt, setCellAt, setArrAt, takeC, lenC, svCells, SV.okc, SV.one, ldSV, Fw.isAgg, Nat.reduceMul, Nat.reduceSub, Nat.reduceLeDiff, Nat.lt_irrefl, Nat.not_lt_zero, Nat.reduceLT, Nat.add_eq_left, Nat.left_eq_add, List.nil_append, List.length_cons, List.length_nil, List.append_nil, List.cons_append, Nat.zero_lt_one, Bool.false_eq_true, Bool.not_true, Bool.not_false, eq_self, Option.map_some, Option.map_none, true_imp_iff, false_imp_iff, implies_true, Bool.true_eq_false, explode, explodeL, toD, toDL, toD1, Ty.size, Ty.sizeL, frz1, Fr.sub, Heap.sub, Tok.sub, SV.sub, SV.subL, add_def, Nat.reduceEqDiff, Nat.reduceAdd, Nat.zero_add, reduceCtorEq, ↓reduceIte, and_self, and_true, true_and, reduceIte, spRErr, spNum, c1, pn, pn2, hself, ho1, o2, o3, rdE_tok, rdA_tok, rdL_tok, hset_hset, min_i64, max_i64, hset_new, e4]
          refine ⟨by omega, by omega, hB _ ⟨(k, acc ++ [(span3 l a1 .nil).1], (span3 l a1 .nil).2.1, (span3 l a1 .nil).2.2), by simp only []; omega, by simp only [List.length_append, List.length_cons, List.length_nil]; omega, q3, by simp only [List.append_assoc, List.cons_append, List.nil_append]; exact hacc, hfin⟩ (by simp only []; omega) ?_⟩
          refine leq_ren1 nx (nx + 1 + 64 + 1 + 64 + 64 + 64 + 1) (by omega) (by simp only []; omega) ?_ ?_ ?_ ?_ (by simp only [] <;> omega)
          · simp only [frEq_cons, frEq_nil, frIn_cons, frIn_nil, and_true, fget_cons, Nat.reduceEqDiff, reduceIte, ↓reduceIte, true_and, SV.ren, SV.renL, ren1]
            rw [if_neg (by omega)]
            simp
          · exact ⟨by show p < nx + 1; omega, trivial, by show nx < nx + 1; omega, trivial⟩
          · exact HRen.cons (by rw [ren1_eq]; simp [hget, Tok.ren, e3]) (HRen.base (hst _ _) (Nat.le_refl _) (by repeat (first | exact HLe.refl _ | refine HLe.skip (hst _ _) (by omega) ?_ | refine HLe.del (hst _ _) (by omega) ?_)))
          · exact HLt.cons (by simp only []; omega) trivial ((hst _ _).mono (by simp only []; omega))
  · exact hsp.elim

def WSRead : Opts := mkWE 24 [] [0, 1, 2, 3] [] 94 [0, 1, 2, 3] []
def icSRead : IC := (.seq (.seq (.ops [(.u (.mov 2 (.c .nils))), (.u (.mov 3 (.c (.int .i64 0)))), (.u (.mov 4 (.c (.dat .iface .nil))))]) (.tr [0])) (.seq (.seq (.ops [(.u (.mov 8 (.s 0))), (.u (.call 9 (.c (.clo 21 [])) [(.s 8)] [(some 5)] true)), (.u (.mov 5 (.s 9)))]) (.tr [5])) (.seq (.seq (.ops [(.u (.mov 10 (.s 5))), (.u (.call 11 (.c (.clo 59 [])) [(.s 10)] [none] true)), (.u (.mov 6 (.s 11)))]) (.tr [6, 5])) (.seq (.seq (.ops [(.u (.mov 12 (.s 5))), (.u (.call 13 (.c (.clo 24 [])) [(.s 12)] [none] true)), (.u (.mov 7 (.s 13)))]) (.tr [7, 6, 5])) (.seq (.seq (.seq (.ops [(.u (.mov 14 (.s 7))), (.u (.eqb 15 false 0 (.s 14)))]) (.tr [15, 7, 6, 5])) (.cond (.s 15) (.seq (.ops [(.u (.mov 16 (.s 6))), (.u (.call 17 (.c (.clo 43 [])) [(.s 16)] [(some 30)] true)), (.u (.mov 7 (.s 17)))]) (.tr [7, 6, 5])) .skip)) (.seq (.seq (.seq (.ops [(.u (.mov 18 (.s 7))), (.u (.eqb 19 true 0 (.s 18)))]) (.tr [19, 7, 6, 5])) (.cond (.s 19) (.seq (.seq (.ops [(.u (.mov 20 (.s 7))), (.u (.mov 2 (.c .nils))), (.u (.mov 3 (.c (.int .i64 0)))), (.u (.mov 4 (.s 20)))]) (.tr [2, 3, 4])) .ret) .skip)) (.seq (.seq (.ops [(.u (.mov 21 (.s 6))), (.u (.mov 22 (.s 5))), (.u (.call 23 (.c (.clo 26 [])) [(.s 22)] [none] true)), (.u (.mov 2 (.s 21))), (.u (.mov 3 (.s 23))), (.u (.mov 4 (.c (.dat .iface .nil))))]) (.tr [2, 3, 4])) .ret)))))))
def rsSRead : List RV := [(.t 2), (.t 3), (.t 4)]
theorem irSRead : fnIR Tryd.prog WSRead 39 = some (icSRead, rsSRead) := by kernel_rfl
/-- What comes of reading spans. -/
def readE (l : List D) : D := if (spansF l 0 .nil).2.2.isNil = true then validD (spansF l 0 .nil).1 else (spansF l 0 .nil).2.2
abbrev GE4 : List Nat := [0, 1, 2, 3]
def spSRead : FSpec := fun args h nx K => match args with
  | [.dat (.slice 5) d] => d.l.length ≤ 1000000000 ∧ RngB d.l ∧
      ((readE d.l).isNil = true → K (.tup [.dat (.slice 30) (.list (spansF d.l 0 .nil).1), .int .i64 ((spansF d.l 0 .nil).2.1 : Int), .dat .iface .nil]) h) ∧
      ((readE d.l).isNil = false → K (.tup [.nils, .int .i64 0, .dat .iface (readE d.l)]) h)
  | _ => False
set_option maxHeartbeats 4000000 in
set_option maxRecDepth 8000 in
theorem vSRead {E : Nat → Value} (hE : Errs2 Tryd.prog (some 94) E) : Valid Tryd.prog E (gs GE4) 39 spSRead := by
  refine valid_go (W := WSRead) hE (((((allValid_bot.add (up (vNewReader hE))).add (up (vSFrom hE))).add (up (vRErr hE))).add (up (vSValid hE))).add (up (vRAt hE))) irSRead (by decide) (fun args h nx K hsp hok hnm => ?_)
  unfold spSRead at hsp
  split at hsp
  · rename_i d
    obtain ⟨hl9, hrng, hok1, hbad⟩ := hsp
    refine ⟨by simp [WSRead, mkW, mkWE, mkWF], fun Q hQ => ?_⟩
    obtain ⟨hd, _⟩ := hok
    simp only [SV.ok] at hd
    obtain ⟨hd1, hd2, hd3⟩ := Wt.slice hd; generalize d.l = l at *; subst hd1
    have hg := (spansN_ge (l := l) (numF l 0 .nil 0 64).1.toNat (e := (numF l 0 .nil 0 64).2.2) (numF_ge (e := .nil) (lo := 0) (hi := 64) (Nat.zero_le _))).1
    have hg' : (spansF l 0 .nil).2.1 ≤ l.length := hg
    unfold readE at hok1 hbad
    generalize qa : (spansF l 0 .nil).2.1 = a at *
    generalize qe : (spansF l 0 .nil).2.2 = e at *
    generalize qs : (spansF l 0 .nil).1 = sp at *
    cases hen : e.isNil with
    | false =>
      rw [if_neg (by rw [hen]; simp)] at hok1 hbad
      simp (maxSteps := 4000000) only [icSRead, fzSp_app, fzGo_app, slotsOf_nil, slotsOf_cons, Int.reduceEq, bq_tt, bq_tf, bq_ft, bq_ff, Bool.true_and, Bool.false_and, Bool.and_true, Bool.and_false, Bool.true_or, Bool.false_or, Bool.or_true, Bool.or_false, beq_self_eq_true, bne_self_eq_false, Int.reduceBEq, Int.reduceBNe, Int.reduceLE, Int.reduceLT, Int.reduceAdd, Int.reduceSub, Int.reduceMul, Int.reduceNeg, decide_true, decide_false, nm_ne2, nm_en2, nm_ne3, nm_en3, nm_ne4, nm_en4, nm_ne5, nm_en5, nm_ne6, nm_en6, nm_ne7, nm_en7, nm_ne8, nm_en8, nm_ne9, nm_en9, nm_ne10, nm_en10, D_i, D_b, D_s, D_l, D_tgt, nil_nil, nil_err, nil_ifc, nil_ptr, nil_node, D_fld0, D_fld1, D_fld2, D_fld3, D_fld4, D_fld5, D_fld6, D_fld7, D_fld8, D_fld9, D_fld10, D_fld11, D_fld12, D_fld13, D_fld14, D_fld15, frpL, go_frp, go_rgn, rgnK_def, goD_nil, goD_u, contD_some, goD_call, callD_clo, kD_app, goD_g, gD_T, gD_F, gD_U, gK_U, evI_true, evI_false, bareK_some, go_seq, go_ops, go_cond, go_block, go_skip, go_tr, trim_def, trim_nil, trim_cons, fget_nil, go_ret, go_exit, den_nil, den_seq, den_seq_ret, den_seq_ext, den_blk, den_blk_ret, den_blk_ext, den_lp, den_lp_ret, den_lp_ext, goO_nil, goO_u, noCall, contK_some, goO_slc, goO_mif, preF, preP, prePt, prePd, frzP, noSp, goO_nlq, nlqK_some, evNlq, goO_g, gK_T, gK_F, skipD_some, skipD_none, goO_call, goO_callf, frzK_def, callK_clo, kO_app, condK_ite, iteT, iteF, put_def, sput_def, ev, frOf, fget_cons, oget, ogets, argSs, argS, evMm, frzL, evBin, evWrp, evShf, evCmp, evUna, evNil, evBeq, evLd, evSt, evFad, evIad, evAad, evLen, evSln, evEls, evApp, evParts, evSlc, evNlc, evMif, evPck, evFld, evBld, evTas, evIfq, evSeq, evSl0, evBxf, evAgl, evAgq, evBsf, List.set_cons_zero, List.set_cons_succ, List.set_nil, List.flatten_cons, List.flatten_nil, List.getD_cons_zero, List.getD_cons_succ, List.contains_cons,  hget, hset, hdel, cellAt, arrAt, setCellAt, setArrAt, takeC, lenC, svCells, SV.okc, SV.one, ldSV, Fw.isAgg, Nat.reduceMul, Nat.reduceSub, Nat.reduceLeDiff, Nat.lt_irrefl, Nat.not_lt_zero, Nat.reduceLT, Nat.add_eq_left, Nat.left_eq_add, List.nil_append, List.length_cons, List.length_nil, List.append_nil, List.cons_append, Nat.zero_lt_one, Bool.false_eq_true, Bool.not_true, Bool.not_false, eq_self, Option.map_some, Option.map_none, true_imp_iff, false_imp_iff, implies_true, Bool.true_eq_false, explode, explodeL, toD, toDL, toD1, Ty.size, Ty.sizeL, frz1, Fr.sub, Heap.sub, Tok.sub, SV.sub, SV.subL, add_def, Nat.reduceEqDiff, Nat.reduceAdd, Nat.zero_add, reduceCtorEq, ↓reduceIte, and_self, and_true, true_and, reduceIte, rdTok_def, rdL_c, rdA_c, rdE_c, rdOk_c, spNewReader, spSFrom, spRErr, spRAt, spSValid, hl9, hrng, hg', Nat.zero_le, hen, qa, qe, qs]
      refine (hQ _ ?_).1
      exact fin_t3 _ _ _ rfl rfl rfl rfl rfl rfl hnm (by ((try simp only []); repeat first | exact HLe.refl _ | refine HLe.cons (by simp only [hget, Nat.reduceEqDiff, Nat.left_eq_add, Nat.add_eq_left, reduceIte, ↓reduceIte] <;> rfl) ?_ | refine HLe.skip hnm (by omega) ?_ | refine HLe.frz hnm (by omega) ?_ | refine HLe.del hnm (by omega) ?_)) (hbad hen)
    | true =>
      obtain rfl := isNil_eq hen
      rw [if_pos hen] at hok1 hbad
      simp (maxSteps := 4000000) only [icSRead, fzSp_app, fzGo_app, slotsOf_nil, slotsOf_cons, Int.reduceEq, bq_tt, bq_tf, bq_ft, bq_ff, Bool.true_and, Bool.false_and, Bool.and_true, Bool.and_false, Bool.true_or, Bool.false_or, Bool.or_true, Bool.or_false, beq_self_eq_true, bne_self_eq_false, Int.reduceBEq, Int.reduceBNe, Int.reduceLE, Int.reduceLT, Int.reduceAdd, Int.reduceSub, Int.reduceMul, Int.reduceNeg, decide_true, decide_false, nm_ne2, nm_en2, nm_ne3, nm_en3, nm_ne4, nm_en4, nm_ne5, nm_en5, nm_ne6, nm_en6, nm_ne7, nm_en7, nm_ne8, nm_en8, nm_ne9, nm_en9, nm_ne10, nm_en10, D_i, D_b, D_s, D_l, D_tgt, nil_nil, nil_err, nil_ifc, nil_ptr, nil_node, D_fld0, D_fld1, D_fld2, D_fld3, D_fld4, D_fld5, D_fld6, D_fld7, D_fld8, D_fld9, D_fld10, D_fld11, D_fld12, D_fld13, D_fld14, D_fld15, frpL, go_frp, go_rgn, rgnK_def, goD_nil, goD_u, contD_some, goD_call, callD_clo, kD_app, goD_g, gD_T, gD_F, gD_U, gK_U, evI_true, evI_false, bareK_some, go_seq, go_ops, go_cond, go_block, go_skip, go_tr, trim_def, trim_nil, trim_cons, fget_nil, go_ret, go_exit, den_nil, den_seq, den_seq_ret, den_seq_ext, den_blk, den_blk_ret, den_blk_ext, den_lp, den_lp_ret, den_lp_ext, goO_nil, goO_u, noCall, contK_some, goO_slc, goO_mif, preF, preP, prePt, prePd, frzP, noSp, goO_nlq, nlqK_some, evNlq, goO_g, gK_T, gK_F, skipD_some, skipD_none, goO_call, goO_callf, frzK_def, callK_clo, kO_app, condK_ite, iteT, iteF, put_def, sput_def, ev, frOf, fget_cons, oget, ogets, argSs, argS, evMm, frzL, evBin, evWrp, evShf, evCmp, evUna, evNil, evBeq, evLd, evSt, evFad, evIad, evAad, evLen, evSln, evEls, evApp, evParts, evSlc, evNlc, evMif, evPck, evFld, evBld, evTas, evIfq, evSeq, evSl0, evBxf, evAgl, evAgq, evBsf, List.set_cons_zero, List.set_cons_succ, List.set_nil, List.flatten_cons, List.flatten_nil, List.getD_cons_zero, List.getD_cons_succ, List.contains_cons,  hget, hset, hdel, cellAt, arrAt, setCellAt, setArrAt, takeC, lenC, svCells, SV.okc, SV.one, ldSV, Fw.isAgg, Nat.reduceMul, Nat.reduceSub, Nat.reduceLeDiff, Nat.lt_irrefl, Nat.not_lt_zero, Nat.reduceLT, Nat.add_eq_left, Nat.left_eq_add, List.nil_append, List.length_cons, List.length_nil, List.append_nil, List.cons_append, Nat.zero_lt_one, Bool.false_eq_true, Bool.not_true, Bool.not_false, eq_self, Option.map_some, Option.map_none, true_imp_iff, false_imp_iff, implies_true, Bool.true_eq_false, explode, explodeL, toD, toDL, toD1, Ty.size, Ty.sizeL, frz1, Fr.sub, Heap.sub, Tok.sub, SV.sub, SV.subL, add_def, Nat.reduceEqDiff, Nat.reduceAdd, Nat.zero_add, reduceCtorEq, ↓reduceIte, and_self, and_true, true_and, reduceIte, rdTok_def, rdL_c, rdA_c, rdE_c, rdOk_c, spNewReader, spSFrom, spRErr, spRAt, spSValid, hl9, hrng, hg', Nat.zero_le, qa, qe, qs]
      refine ⟨fun c => ?_, fun c => ?_⟩
      · have hn : (validD sp).isNil = false := by simpa using c
        refine (hQ _ ?_).1
        exact fin_t3 _ _ _ rfl rfl rfl rfl rfl rfl hnm (by ((try simp only []); repeat first | exact HLe.refl _ | refine HLe.cons (by simp only [hget, Nat.reduceEqDiff, Nat.left_eq_add, Nat.add_eq_left, reduceIte, ↓reduceIte] <;> rfl) ?_ | refine HLe.skip hnm (by omega) ?_ | refine HLe.frz hnm (by omega) ?_ | refine HLe.del hnm (by omega) ?_)) (hbad hn)
      · have hn : (validD sp).isNil = true := by simpa using c
        refine (hQ _ ?_).1
        exact fin_t3 _ _ _ rfl rfl rfl rfl rfl rfl hnm (by ((try simp only []); repeat first | exact HLe.refl _ | refine HLe.cons (by simp only [hget, Nat.reduceEqDiff, Nat.left_eq_add, Nat.add_eq_left, reduceIte, ↓reduceIte] <;> rfl) ?_ | refine HLe.skip hnm (by omega) ?_ | refine HLe.frz hnm (by omega) ?_ | refine HLe.del hnm (by omega) ?_)) (hok1 hn)
  · exact hsp.elim

/-- A span as bytes; spans, one behind the other. -/
def enc3 (d : D) : List D := encD (spE d) ++ encD (spF d) ++ encD (spT d)
def encS3 (l : List D) : List D := encD l.length ++ l.flatMap enc3
theorem encS3_take {l : List D} {i : Nat} (h : i < l.length) : (l.take (i + 1)).flatMap enc3 = (l.take i).flatMap enc3 ++ enc3 (l.getD i .nil) := by
  rw [List.take_succ_eq_append_getElem h, List.flatMap_append]
  simp [List.getD_eq_getElem?_getD, List.getElem?_eq_getElem h]
theorem enc3_len (d : D) (h : -9223372036854775808 ≤ spE d ∧ spE d ≤ 9223372036854775807) (h1 : -9223372036854775808 ≤ spF d ∧ spF d ≤ 9223372036854775807) (h2 : -9223372036854775808 ≤ spT d ∧ spT d ≤ 9223372036854775807) : (enc3 d).length ≤ 30 := by
  have := enc_le h; have := enc_le h1; have := enc_le h2
  unfold enc3
  simp only [List.length_append]; omega
theorem flat3_len {l : List D} (h : ∀ d ∈ l, (enc3 d).length ≤ 30) : (l.flatMap enc3).length ≤ 30 * l.length := by
  induction l with
  | nil => simp
  | cons d l ih =>
    have := ih (fun x hx => h x (by simp [hx]))
    have := h d (by simp)
    simp only [List.flatMap_cons, List.length_append, List.length_cons]; omega
def WSBytes : Opts := mkWF 30 [] [0, 2, 3] [] 94 [0, 2, 3] [] [(5, 30)]
def icSBytes : IC := (.seq (.seq (.ops [(.u (.mov 2 (.c .nils)))]) (.tr [0])) (.seq (.seq (.seq (.ops [(.u (.mov 6 (.s 0))), (.u (.call 7 (.c (.clo 43 [])) [(.s 6)] [(some 30)] true)), (.u (.eqb 8 true 0 (.s 7)))]) (.tr [8, 0])) (.cond (.s 8) (.seq (.seq (.ops [(.u (.mov 2 (.c .nils)))]) (.tr [2])) .ret) .skip)) (.seq (.seq (.ops [(.u (.mov 9 (.s 0))), (.u (.len 10 false (.s 9))), (.u (.call 11 (.c (.clo 18 [])) [(.c .nils), (.s 10)] [(some 5), none] true)), (.u (.mov 3 (.s 11)))]) (.tr [0, 3])) (.seq (.seq (.seq (.ops [(.u (.mov 12 (.s 0))), (.u (.len 13 false (.s 12))), (.u (.mov 14 (.c (.int .i64 0))))]) (.tr [13, 12, 14, 3])) (.block 0 (.loop (.seq (.seq (.ops [(.u (.cmp 15 .lss (.s 14) (.s 13)))]) (.tr [15, 14, 13, 12, 3])) (.seq (.cond (.s 15) .skip (.exit 0)) (.seq (.block 1 (.seq (.seq (.ops [(.u (.iad 16 30 (.strct [(.int .i64), (.int .i64), (.int .i64)]) (.s 12) (.s 14))), (.u (.ld 17 (.strct [(.int .i64), (.int .i64), (.int .i64)]) (.s 16))), (.u (.alc 5 [(.int .i64 0), (.int .i64 0), (.int .i64 0)])), (.u (.st (.strct [(.int .i64), (.int .i64), (.int .i64)]) (.s 5) (.s 17)))]) (.tr [3, 5, 14, 13, 12])) (.seq (.frp [(5, (30, (.strct [(.int .i64), (.int .i64), (.int .i64)])))]) (.seq (.rgn [(.s 3)] [(false, (.u (.mov 18 (.s 3)))), (false, (.u (.fad 19 0 0 (.int .i64) 30 (.s 5)))), (false, (.u (.ld 20 (.int .i64) (.s 19)))), (false, (.u (.fad 22 1 1 (.int .i64) 30 (.s 5)))), (true, (.u (.ld 23 (.int .i64) (.s 22)))), (false, (.u (.fad 25 2 2 (.int .i64) 30 (.s 5)))), (true, (.u (.ld 26 (.int .i64) (.s 25)))), (false, (.u (.call 21 (.c (.clo 18 [])) [(.s 18), (.s 20)] [(some 5), none] true))), (false, (.u (.call 24 (.c (.clo 18 [])) [(.s 21), (.s 23)] [(some 5), none] true))), (false, (.u (.call 27 (.c (.clo 18 [])) [(.s 24), (.s 26)] [(some 5), none] true))), (false, (.u (.mov 3 (.s 27))))]) (.tr [14, 13, 12, 3]))))) (.seq (.ops [(.u (.bin 28 .add .i64 (.s 14) (.c (.int .i64 1)))), (.u (.mov 14 (.s 28)))]) (.tr [13, 12, 14, 3])))))))) (.seq (.seq (.ops [(.u (.mov 29 (.s 3))), (.u (.mov 2 (.s 29)))]) (.tr [2])) .ret)))))
def rsSBytes : List RV := [(.t 2)]
theorem irSBytes : fnIR Tryd.prog WSBytes 38 = some (icSBytes, rsSBytes) := by kernel_rfl
def spSBytes : FSpec := fun args h nx K => match args with
  | [.dat (.slice 30) d] =>
      ((validD d.l).isNil = true → K (.vec nx) ((nx, .arr 5 (.int .u8) (encS3 d.l)) :: h)) ∧
      ((validD d.l).isNil = false → K (.vec nx) ((nx, .arr 5 (.int .u8) []) :: h))
  | _ => False
theorem span_rng {E : Nat → Value} {l : List D} (h : ∀ x ∈ l, Wt Tryd.prog E (tyOf Tryd.prog 8 30) x) : ∀ d ∈ l, (enc3 d).length ≤ 30 := by
  intro d hd
  have hw := h d hd
  rw [ty_span] at hw
  have h1 := (Wt.fld hw 0 (.int .i64) rfl).int
  have h2 := (Wt.fld hw 1 (.int .i64) rfl).int
  have h3 := (Wt.fld hw 2 (.int .i64) rfl).int
  rw [min_i64, max_i64] at h1 h2 h3
  exact enc3_len d h1.2 h2.2 h3.2
theorem valid_len {l : List D} (h : (validD l).isNil = true) : l.length ≤ 64 := by
  apply Nat.not_lt.1
  intro hlt
  rw [validD_many hlt] at h
  simp [D.isNil] at h
set_option maxHeartbeats 4000000 in
set_option maxRecDepth 8000 in
theorem vSBytes {E : Nat → Value} (hE : Errs2 Tryd.prog (some 94) E) : Valid Tryd.prog E (gs GS) 38 spSBytes := by
  refine valid_go (W := WSBytes) hE ((allValid_bot.add (up (vSValid hE))).add (up (vPut hE)).fz) irSBytes (by decide) (fun args h nx K hsp hok hnm => ?_)
  unfold spSBytes at hsp
  split at hsp
  · rename_i d
    obtain ⟨hok1, hbad⟩ := hsp
    refine ⟨by simp [WSBytes, mkW, mkWE, mkWF], fun Q hQ => ?_⟩
    obtain ⟨hd, _⟩ := hok
    simp only [SV.ok] at hd
    obtain ⟨hd1, hd2, hd3⟩ := Wt.slice hd; generalize d.l = l at *; subst hd1
    have hrg := span_rng hd3
    cases hv : (validD l).isNil with
    | false =>
      simp (maxSteps := 4000000) only [icSBytes, fzSp_app, fzGo_app, slotsOf_nil, slotsOf_cons, Int.reduceEq, bq_tt, bq_tf, bq_ft, bq_ff, Bool.true_and, Bool.false_and, Bool.and_true, Bool.and_false, Bool.true_or, Bool.false_or, Bool.or_true, Bool.or_false, beq_self_eq_true, bne_self_eq_false, Int.reduceBEq, Int.reduceBNe, Int.reduceLE, Int.reduceLT, Int.reduceAdd, Int.reduceSub, Int.reduceMul, Int.reduceNeg, decide_true, decide_false, nm_ne2, nm_en2, nm_ne3, nm_en3, nm_ne4, nm_en4, nm_ne5, nm_en5, nm_ne6, nm_en6, nm_ne7, nm_en7, nm_ne8, nm_en8, nm_ne9, nm_en9, nm_ne10, nm_en10, D_i, D_b, D_s, D_l, D_tgt, nil_nil, nil_err, nil_ifc, nil_ptr, nil_node, D_fld0, D_fld1, D_fld2, D_fld3, D_fld4, D_fld5, D_fld6, D_fld7, D_fld8, D_fld9, D_fld10, D_fld11, D_fld12, D_fld13, D_fld14, D_fld15, frpL, go_frp, go_rgn, rgnK_def, goD_nil, goD_u, contD_some, goD_call, callD_clo, kD_app, goD_g, gD_T, gD_F, gD_U, gK_U, evI_true, evI_false, bareK_some, go_seq, go_ops, go_cond, go_block, go_skip, go_tr, trim_def, trim_nil, trim_cons, fget_nil, go_ret, go_exit, den_nil, den_seq, den_seq_ret, den_seq_ext, den_blk, den_blk_ret, den_blk_ext, den_lp, den_lp_ret, den_lp_ext, goO_nil, goO_u, noCall, contK_some, goO_slc, goO_mif, preF, preP, prePt, prePd, frzP, noSp, goO_nlq, nlqK_some, evNlq, goO_g, gK_T, gK_F, skipD_some, skipD_none, goO_call, goO_callf, frzK_def, callK_clo, kO_app, condK_ite, iteT, iteF, put_def, sput_def, ev, frOf, fget_cons, oget, ogets, argSs, argS, evMm, frzL, evBin, evWrp, evShf, evCmp, evUna, evNil, evBeq, evLd, evSt, evFad, evIad, evAad, evLen, evSln, evEls, evApp, evParts, evSlc, evNlc, evMif, evPck, evFld, evBld, evTas, evIfq, evSeq, evSl0, evBxf, evAgl, evAgq, evBsf, List.set_cons_zero, List.set_cons_succ, List.set_nil, List.flatten_cons, List.flatten_nil, List.getD_cons_zero, List.getD_cons_succ, List.contains_cons,  hget, hset, hdel, cellAt, arrAt, setCellAt, setArrAt, takeC, lenC, svCells, SV.okc, SV.one, ldSV, Fw.isAgg, Nat.reduceMul, Nat.reduceSub, Nat.reduceLeDiff, Nat.lt_irrefl, Nat.not_lt_zero, Nat.reduceLT, Nat.add_eq_left, Nat.left_eq_add, List.nil_append, List.length_cons, List.length_nil, List.append_nil, List.cons_append, Nat.zero_lt_one, Bool.false_eq_true, Bool.not_true, Bool.not_false, eq_self, Option.map_some, Option.map_none, true_imp_iff, false_imp_iff, implies_true, Bool.true_eq_false, explode, explodeL, toD, toDL, toD1, Ty.size, Ty.sizeL, frz1, Fr.sub, Heap.sub, Tok.sub, SV.sub, SV.subL, add_def, Nat.reduceEqDiff, Nat.reduceAdd, Nat.zero_add, reduceCtorEq, ↓reduceIte, and_self, and_true, true_and, reduceIte, spSValid, hv]
      refine (hQ _ ?_).1
      exact fin_nils 5 (.int .u8) rfl (by simp only []; omega) hnm (by ((try simp only []); repeat first | exact HLe.refl _ | refine HLe.cons (by simp only [hget, Nat.reduceEqDiff, Nat.left_eq_add, Nat.add_eq_left, reduceIte, ↓reduceIte] <;> rfl) ?_ | refine HLe.skip hnm (by omega) ?_ | refine HLe.frz hnm (by omega) ?_ | refine HLe.del hnm (by omega) ?_)) (hbad hv)
    | true =>
      have hK := hok1 hv
      have hl64 := valid_len hv
      have hq := enc_le (n := (l.length : Int)) (by omega)
      simp (maxSteps := 4000000) only [icSBytes, fzSp_app, fzGo_app, slotsOf_nil, slotsOf_cons, Int.reduceEq, bq_tt, bq_tf, bq_ft, bq_ff, Bool.true_and, Bool.false_and, Bool.and_true, Bool.and_false, Bool.true_or, Bool.false_or, Bool.or_true, Bool.or_false, beq_self_eq_true, bne_self_eq_false, Int.reduceBEq, Int.reduceBNe, Int.reduceLE, Int.reduceLT, Int.reduceAdd, Int.reduceSub, Int.reduceMul, Int.reduceNeg, decide_true, decide_false, nm_ne2, nm_en2, nm_ne3, nm_en3, nm_ne4, nm_en4, nm_ne5, nm_en5, nm_ne6, nm_en6, nm_ne7, nm_en7, nm_ne8, nm_en8, nm_ne9, nm_en9, nm_ne10, nm_en10, D_i, D_b, D_s, D_l, D_tgt, nil_nil, nil_err, nil_ifc, nil_ptr, nil_node, D_fld0, D_fld1, D_fld2, D_fld3, D_fld4, D_fld5, D_fld6, D_fld7, D_fld8, D_fld9, D_fld10, D_fld11, D_fld12, D_fld13, D_fld14, D_fld15, frpL, go_frp, go_rgn, rgnK_def, goD_nil, goD_u, contD_some, goD_call, callD_clo, kD_app, goD_g, gD_T, gD_F, gD_U, gK_U, evI_true, evI_false, bareK_some, go_seq, go_ops, go_cond, go_block, go_skip, go_tr, trim_def, trim_nil, trim_cons, fget_nil, go_ret, go_exit, den_nil, den_seq, den_seq_ret, den_seq_ext, den_blk, den_blk_ret, den_blk_ext, den_lp, den_lp_ret, den_lp_ext, goO_nil, goO_u, noCall, contK_some, goO_slc, goO_mif, preF, preP, prePt, prePd, frzP, noSp, goO_nlq, nlqK_some, evNlq, goO_g, gK_T, gK_F, skipD_some, skipD_none, goO_call, goO_callf, frzK_def, callK_clo, kO_app, condK_ite, iteT, iteF, put_def, sput_def, ev, frOf, fget_cons, oget, ogets, argSs, argS, evMm, frzL, evBin, evWrp, evShf, evCmp, evUna, evNil, evBeq, evLd, evSt, evFad, evIad, evAad, evLen, evSln, evEls, evApp, evParts, evSlc, evNlc, evMif, evPck, evFld, evBld, evTas, evIfq, evSeq, evSl0, evBxf, evAgl, evAgq, evBsf, List.set_cons_zero, List.set_cons_succ, List.set_nil, List.flatten_cons, List.flatten_nil, List.getD_cons_zero, List.getD_cons_succ, List.contains_cons,  hget, hset, hdel, cellAt, arrAt, setCellAt, setArrAt, takeC, lenC, svCells, SV.okc, SV.one, ldSV, Fw.isAgg, Nat.reduceMul, Nat.reduceSub, Nat.reduceLeDiff, Nat.lt_irrefl, Nat.not_lt_zero, Nat.reduceLT, Nat.add_eq_left, Nat.left_eq_add, List.nil_append, List.length_cons, List.length_nil, List.append_nil, List.cons_append, Nat.zero_lt_one, Bool.false_eq_true, Bool.not_true, Bool.not_false, eq_self, Option.map_some, Option.map_none, true_imp_iff, false_imp_iff, implies_true, Bool.true_eq_false, explode, explodeL, toD, toDL, toD1, Ty.size, Ty.sizeL, frz1, Fr.sub, Heap.sub, Tok.sub, SV.sub, SV.subL, add_def, Nat.reduceEqDiff, Nat.reduceAdd, Nat.zero_add, reduceCtorEq, ↓reduceIte, and_self, and_true, true_and, reduceIte, spSValid, spPut, hv]
      refine go_loop (α := { i : Nat // i ≤ l.length }) (I := fun i => { f := [(13, .int .i64 l.length), (12, .dat (.slice 30) (.list l)), (14, .int .i64 i.1), (3, .vec nx)], h := (nx, .arr 5 (.int .u8) (encD l.length ++ (l.take i.1).flatMap enc3)) :: h, nx := nx + 1 }) (μ := fun i => l.length - i.1) _ _ _ ⟨0, by omega⟩ ?_ (fun i B hB => ?_)
      · refine leq_ren1 nx (nx + 64) (by omega) (by simp only []; omega) ?_ (by (simp only [frLt_cons, frLt_nil, and_true, SV.lt, SV.ltL, true_and] <;> omega)) ?_ (by (repeat first | exact HLt.mono hnm (by simp only [] <;> omega) | refine HLt.cons (by simp only [] <;> omega) (by simp only [Tok.lt, SV.ltL, SV.lt, and_true, true_and] <;> omega) ?_)) (by simp only [] <;> omega)
        · simp only [frEq_cons, frEq_nil, frIn_cons, frIn_nil, and_true, fget_cons, Nat.reduceEqDiff, reduceIte, ↓reduceIte, true_and, SV.ren, SV.renL, ren1]
          rfl
        · exact HRen.cons (by rw [ren1_eq]; simp [hget, Tok.ren]) (HRen.base hnm (Nat.le_refl _) (by ((try simp only []); repeat first | exact HLe.refl _ | refine HLe.cons (by simp only [hget, Nat.reduceEqDiff, Nat.left_eq_add, Nat.add_eq_left, reduceIte, ↓reduceIte] <;> rfl) ?_ | refine HLe.skip hnm (by omega) ?_ | refine HLe.frz hnm (by omega) ?_ | refine HLe.del hnm (by omega) ?_)))
      · obtain ⟨i, hi⟩ := i
        simp only at hB
        by_cases hil : i < l.length
        · have c2 : decide ((i : Int) < (l.length : Int)) = true := decide_eq_true (by omega)
          have hfl := flat3_len (l := l.take i) (fun x hx => hrg x (List.mem_of_mem_take hx))
          have hfl2 : (l.take i).length ≤ 64 := by rw [List.length_take]; omega
          have ht := encS3_take hil
          have hx := hrg _ (getD_mem hil)
          have hx' := hx
          unfold enc3 spE spF spT at hx'
          simp only [List.length_append] at hx'
          have e1 : encD l.length ++ (l.take i).flatMap enc3 ++ encD ((l.getD i .nil).fld 0).i ++ encD ((l.getD i .nil).fld 1).i ++ encD ((l.getD i .nil).fld 2).i = encD l.length ++ (l.take (i + 1)).flatMap enc3 := by
            rw [ht]; unfold enc3 spE spF spT; simp only [List.append_assoc]
          simp (maxSteps := 4000000) only [fzSp_app, fzGo_app, slotsOf_nil, slotsOf_cons, Int.reduceEq, bq_tt, bq_tf, bq_ft, bq_ff, Bool.true_and, Bool.false_and, Bool.and_true, Bool.and_false, Bool.true_or, Bool.false_or, Bool.or_true, Bool.or_false, beq_self_eq_true, bne_self_eq_false, Int.reduceBEq, Int.reduceBNe, Int.reduceLE, Int.reduceLT, Int.reduceAdd, Int.reduceSub, Int.reduceMul, Int.reduceNeg, decide_true, decide_false, nm_ne2, nm_en2, nm_ne3, nm_en3, nm_ne4, nm_en4, nm_ne5, nm_en5, nm_ne6, nm_en6, nm_ne7, nm_en7, nm_ne8, nm_en8, nm_ne9, nm_en9, nm_ne10, nm_en10, D_i, D_b, D_s, D_l, D_tgt, nil_nil, nil_err, nil_ifc, nil_ptr, nil_node, D_fld0, D_fld1, D_fld2, D_fld3, D_fld4, D_fld5, D_fld6, D_fld7, D_fld8, D_fld9, D_fld10, D_fld11, D_fld12, D_fld13, D_fld14, D_fld15, frpL, go_frp, go_rgn, rgnK_def, goD_nil, goD_u, contD_some, goD_call, callD_clo, kD_app, goD_g, gD_T, gD_F, gD_U, gK_U, evI_true, evI_false, bareK_some, go_seq, go_ops, go_cond, go_block, go_skip, go_tr, trim_def, trim_nil, trim_cons, fget_nil, go_ret, go_exit, den_nil, den_seq, den_seq_ret, den_seq_ext, den_blk, den_blk_ret, den_blk_ext, den_lp, den_lp_ret, den_lp_ext, goO_nil, goO_u, noCall, contK_some, goO_slc, goO_mif, preF, preP, prePt, prePd, frzP, noSp, goO_nlq, nlqK_some, evNlq, goO_g, gK_T, gK_F, skipD_some, skipD_none, goO_call, goO_callf, frzK_def, callK_clo, kO_app, condK_ite, iteT, iteF, put_def, sput_def, ev, frOf, fget_cons, oget, ogets, argSs, argS, evMm, frzL, evBin, evWrp, evShf, evCmp, evUna, evNil, evBeq, evLd, evSt, evFad, evIad, evAad, evLen, evSln, evEls, evApp, evParts, evSlc, evNlc, evMif, evPck, evFld, evBld, evTas, evIfq, evSeq, evSl0, evBxf, evAgl, evAgq, evBsf, List.set_cons_zero, List.set_cons_succ, List.set_nil, List.flatten_cons, List.flatten_nil, List.getD_cons_zero, List.getD_cons_succ, List.contains_cons,  hget, hset, hdel, cellAt, arrAt, setCellAt, setArrAt, takeC, lenC, svCells, SV.okc, SV.one, ldSV, Fw.isAgg, Nat.reduceMul, Nat.reduceSub, Nat.reduceLeDiff, Nat.lt_irrefl, Nat.not_lt_zero, Nat.reduceLT, Nat.add_eq_left, Nat.left_eq_add, List.nil_append, List.length_cons, List.length_nil, List.append_nil, List.cons_append, Nat.zero_lt_one, Bool.false_eq_true, Bool.not_true, Bool.not_false, eq_self, Option.map_some, Option.map_none, true_imp_iff, false_imp_iff, implies_true, Bool.true_eq_false, explode, explodeL, toD, toDL, toD1, Ty.size, Ty.sizeL, frz1, Fr.sub, Heap.sub, Tok.sub, SV.sub, SV.subL, add_def, Nat.reduceEqDiff, Nat.reduceAdd, Nat.zero_add, reduceCtorEq, ↓reduceIte, and_self, and_true, true_and, reduceIte, spPut, c2, Int.toNat_natCast, min_i64, max_i64, e1]
          simp only [List.length_append]
          refine ⟨by omega, by omega, by omega, by omega, by omega, hB _ ⟨i + 1, by omega⟩ (by simp only []; omega) ?_⟩
          refine leq_ren1 nx (nx + 1 + 1 + 64 + 64) (by omega) (by simp only []; omega) ?_ (by (simp only [frLt_cons, frLt_nil, and_true, SV.lt, SV.ltL, true_and] <;> omega)) ?_ (by (repeat first | exact HLt.mono hnm (by simp only [] <;> omega) | refine HLt.cons (by simp only [] <;> omega) (by simp only [Tok.lt, SV.ltL, SV.lt, and_true, true_and] <;> omega) ?_)) (by simp only [] <;> omega)
          · simp only [frEq_cons, frEq_nil, frIn_cons, frIn_nil, and_true, fget_cons, Nat.reduceEqDiff, reduceIte, ↓reduceIte, true_and, SV.ren, SV.renL, ren1]
            simp
          · exact HRen.cons (by rw [ren1_eq]; simp [hget, Tok.ren]) (HRen.base hnm (Nat.le_refl _) (by ((try simp only []); repeat first | exact HLe.refl _ | refine HLe.cons (by simp only [hget, Nat.reduceEqDiff, Nat.left_eq_add, Nat.add_eq_left, reduceIte, ↓reduceIte] <;> rfl) ?_ | refine HLe.skip hnm (by omega) ?_ | refine HLe.frz hnm (by omega) ?_ | refine HLe.del hnm (by omega) ?_)))
        · obtain rfl : i = l.length := by omega
          have c2 : decide ((l.length : Int) < (l.length : Int)) = false := decide_eq_false (by omega)
          simp (maxSteps := 4000000) only [fzSp_app, fzGo_app, slotsOf_nil, slotsOf_cons, Int.reduceEq, bq_tt, bq_tf, bq_ft, bq_ff, Bool.true_and, Bool.false_and, Bool.and_true, Bool.and_false, Bool.true_or, Bool.false_or, Bool.or_true, Bool.or_false, beq_self_eq_true, bne_self_eq_false, Int.reduceBEq, Int.reduceBNe, Int.reduceLE, Int.reduceLT, Int.reduceAdd, Int.reduceSub, Int.reduceMul, Int.reduceNeg, decide_true, decide_false, nm_ne2, nm_en2, nm_ne3, nm_en3, nm_ne4, nm_en4, nm_ne5, nm_en5, nm_ne6, nm_en6, nm_ne7, nm_en7, nm_ne8, nm_en8, nm_ne9, nm_en9, nm_ne10, nm_en10, D_i, D_b, D_s, D_l, D_tgt, nil_nil, nil_err, nil_ifc, nil_ptr, nil_node, D_fld0, D_fld1, D_fld2, D_fld3, D_fld4, D_fld5, D_fld6, D_fld7, D_fld8, D_fld9, D_fld10, D_fld11, D_fld12, D_fld13, D_fld14, D_fld15, frpL, go_frp, go_rgn, rgnK_def, goD_nil, goD_u, contD_some, goD_call, callD_clo, kD_app, goD_g, gD_T, gD_F, gD_U, gK_U, evI_true, evI_false, bareK_some, go_seq, go_ops, go_cond, go_block, go_skip, go_tr, trim_def, trim_nil, trim_cons, fget_nil, go_ret, go_exit, den_nil, den_seq, den_seq_ret, den_seq_ext, den_blk, den_blk_ret, den_blk_ext, den_lp, den_lp_ret, den_lp_ext, goO_nil, goO_u, noCall, contK_some, goO_slc, goO_mif, preF, preP, prePt, prePd, frzP, noSp, goO_nlq, nlqK_some, evNlq, goO_g, gK_T, gK_F, skipD_some, skipD_none, goO_call, goO_callf, frzK_def, callK_clo, kO_app, condK_ite, iteT, iteF, put_def, sput_def, ev, frOf, fget_cons, oget, ogets, argSs, argS, evMm, frzL, evBin, evWrp, evShf, evCmp, evUna, evNil, evBeq, evLd, evSt, evFad, evIad, evAad, evLen, evSln, evEls, evApp, evParts, evSlc, evNlc, evMif, evPck, evFld, evBld, evTas, evIfq, evSeq, evSl0, evBxf, evAgl, evAgq, evBsf, List.set_cons_zero, List.set_cons_succ, List.set_nil, List.flatten_cons, List.flatten_nil, List.getD_cons_zero, List.getD_cons_succ, List.contains_cons,  hget, hset, hdel, cellAt, arrAt, setCellAt, setArrAt, takeC, lenC, svCells, SV.okc, SV.one, ldSV, Fw.isAgg, Nat.reduceMul, Nat.reduceSub, Nat.reduceLeDiff, Nat.lt_irrefl, Nat.not_lt_zero, Nat.reduceLT, Nat.add_eq_left, Nat.left_eq_add, List.nil_append, List.length_cons, List.length_nil, List.append_nil, List.cons_append, Nat.zero_lt_one, Bool.false_eq_true, Bool.not_true, Bool.not_false, eq_self, Option.map_some, Option.map_none, true_imp_iff, false_imp_iff, implies_true, Bool.true_eq_false, explode, explodeL, toD, toDL, toD1, Ty.size, Ty.sizeL, frz1, Fr.sub, Heap.sub, Tok.sub, SV.sub, SV.subL, add_def, Nat.reduceEqDiff, Nat.reduceAdd, Nat.zero_add, reduceCtorEq, ↓reduceIte, and_self, and_true, true_and, reduceIte, c2, List.take_length]
          refine (hQ _ ?_).1
          exact fin_vec rfl (by simp only [hget, ↓reduceIte]; rfl) (Nat.le_refl _) hnm (by ((try simp only []); repeat first | exact HLe.refl _ | refine HLe.cons (by simp only [hget, Nat.reduceEqDiff, Nat.left_eq_add, Nat.add_eq_left, reduceIte, ↓reduceIte] <;> rfl) ?_ | refine HLe.skip hnm (by omega) ?_ | refine HLe.frz hnm (by omega) ?_ | refine HLe.del hnm (by omega) ?_)) hK
  · exact hsp.elim

def WRTop : Opts := mkWE 13 [] [] [] 94 [] []
def icRTop : IC := (.seq (.seq (.ops [(.u (.mov 2 (.c (.int .i64 0))))]) (.tr [0])) (.seq (.seq (.seq (.ops [(.u (.mov 3 (.s 0))), (.u (.len 4 false (.s 3))), (.u (.cmp 5 .eql (.s 4) (.c (.int .i64 0))))]) (.tr [5, 0])) (.cond (.s 5) (.seq (.seq (.ops [(.u (.mov 2 (.c (.int .i64 0))))]) (.tr [2])) .ret) .skip)) (.seq (.seq (.ops [(.u (.mov 6 (.s 0))), (.u (.mov 7 (.s 0))), (.u (.len 8 false (.s 7))), (.u (.bin 9 .sub .i64 (.s 8) (.c (.int .i64 1)))), (.u (.iad 10 30 (.strct [(.int .i64), (.int .i64), (.int .i64)]) (.s 6) (.s 9))), (.u (.fad 11 2 2 (.int .i64) 30 (.s 10))), (.u (.ld 12 (.int .i64) (.s 11))), (.u (.mov 2 (.s 12)))]) (.tr [2])) .ret)))
def rsRTop : List RV := [(.t 2)]
theorem irRTop : fnIR Tryd.prog WRTop 41 = some (icRTop, rsRTop) := by kernel_rfl
theorem vRTop {E : Nat → Value} (hE : Errs2 Tryd.prog (some 94) E) : Valid Tryd.prog E (gs []) 41 spSTop := by
  refine valid_go (W := WRTop) hE allValid_bot irRTop (by decide) (fun args h nx K hsp hok hnm => ?_)
  unfold spSTop at hsp
  split at hsp
  · rename_i d
    obtain ⟨hd, _⟩ := hok
    simp only [SV.ok] at hd
    obtain ⟨hd1, hd2, hd3⟩ := Wt.slice hd
    generalize d.l = l at hsp hd1 hd2 hd3
    subst hd1
    have hml : maxLen ≤ 9223372036854775807 := by decide
    refine ⟨by simp [WRTop, mkW, mkWE], fun Q hQ => ?_⟩
    by_cases h0 : l.length = 0
    · have c : ((l.length : Int) == 0) = true := by rw [h0]; rfl
      simp only [icRTop, fzSp_app, fzGo_app, slotsOf_nil, slotsOf_cons, Int.reduceEq, bq_tt, bq_tf, bq_ft, bq_ff, Bool.true_and, Bool.false_and, Bool.and_true, Bool.and_false, Bool.true_or, Bool.false_or, Bool.or_true, Bool.or_false, beq_self_eq_true, bne_self_eq_false, Int.reduceBEq, Int.reduceBNe, Int.reduceLE, Int.reduceLT, Int.reduceAdd, Int.reduceSub, Int.reduceMul, Int.reduceNeg, decide_true, decide_false, nm_ne2, nm_en2, nm_ne3, nm_en3, nm_ne4, nm_en4, nm_ne5, nm_en5, nm_ne6, nm_en6, nm_ne7, nm_en7, nm_ne8, nm_en8, nm_ne9, nm_en9, nm_ne10, nm_en10, D_i, D_b, D_s, D_l, D_tgt, nil_nil, nil_err, nil_ifc, nil_ptr, nil_node, D_fld0, D_fld1, D_fld2, D_fld3, D_fld4, D_fld5, D_fld6, D_fld7, D_fld8, D_fld9, D_fld10, D_fld11, D_fld12, D_fld13, D_fld14, D_fld15, frpL, go_frp, go_rgn, rgnK_def, goD_nil, goD_u, contD_some, goD_call, callD_clo, kD_app, goD_g, gD_T, gD_F, gD_U, gK_U, evI_true, evI_false, bareK_some, go_seq, go_ops, go_cond, go_block, go_skip, go_tr, trim_def, trim_nil, trim_cons, fget_nil, go_ret, go_exit, den_nil, den_seq, den_seq_ret, den_seq_ext, den_blk, den_blk_ret, den_blk_ext, den_lp, den_lp_ret, den_lp_ext, goO_nil, goO_u, noCall, contK_some, goO_slc, goO_mif, preF, preP, prePt, prePd, frzP, noSp, goO_nlq, nlqK_some, evNlq, goO_g, gK_T, gK_F, skipD_some, skipD_none, goO_call, goO_callf, frzK_def, callK_clo, kO_app, condK_ite, iteT, iteF, put_def, sput_def, ev, frOf, fget_cons, oget, ogets, argSs, argS, evMm, frzL, evBin, evWrp, evShf, evCmp, evUna, evNil, evBeq, evLd, evSt, evFad, evIad, evAad, evLen, evSln, evEls, evApp, evParts, evSlc, evNlc, evMif, evPck, evFld, evBld, evTas, evIfq, evSeq, evSl0, evBxf, evAgl, evAgq, evBsf, List.set_cons_zero, List.set_cons_succ, List.set_nil, List.flatten_cons, List.flatten_nil, List.getD_cons_zero, List.getD_cons_succ, List.contains_cons,  hget, hset, hdel, cellAt, arrAt, setCellAt, setArrAt, takeC, lenC, svCells, SV.okc, SV.one, ldSV, Fw.isAgg, Nat.reduceMul, Nat.reduceSub, Nat.reduceLeDiff, Nat.lt_irrefl, Nat.not_lt_zero, Nat.reduceLT, Nat.add_eq_left, Nat.left_eq_add, List.nil_append, List.length_cons, List.length_nil, List.append_nil, List.cons_append, Nat.zero_lt_one, Bool.false_eq_true, Bool.not_true, Bool.not_false, eq_self, Option.map_some, Option.map_none, true_imp_iff, false_imp_iff, implies_true, Bool.true_eq_false, explode, explodeL, toD, toDL, toD1, Ty.size, Ty.sizeL, frz1, Fr.sub, Heap.sub, Tok.sub, SV.sub, SV.subL, add_def, Nat.reduceEqDiff, Nat.reduceAdd, Nat.zero_add, reduceCtorEq, ↓reduceIte, and_self, and_true, true_and, reduceIte, c]
      refine (hQ _ (fin_t (.int .i64 0) rfl rfl hnm (by ((try simp only []); repeat first | exact HLe.refl _ | refine HLe.cons (by simp only [hget, Nat.reduceEqDiff, Nat.left_eq_add, Nat.add_eq_left, reduceIte, ↓reduceIte] <;> rfl) ?_ | refine HLe.skip hnm (by omega) ?_ | refine HLe.frz hnm (by omega) ?_ | refine HLe.del hnm (by omega) ?_)) ?_)).1
      unfold topF at hsp; rw [if_pos h0] at hsp; exact hsp
    · have c : ((l.length : Int) == 0) = false := by rw [beq_eq_false_iff_ne]; omega
      have ei : ((l.length : Int) - 1).toNat = l.length - 1 := by omega
      simp only [icRTop, fzSp_app, fzGo_app, slotsOf_nil, slotsOf_cons, Int.reduceEq, bq_tt, bq_tf, bq_ft, bq_ff, Bool.true_and, Bool.false_and, Bool.and_true, Bool.and_false, Bool.true_or, Bool.false_or, Bool.or_true, Bool.or_false, beq_self_eq_true, bne_self_eq_false, Int.reduceBEq, Int.reduceBNe, Int.reduceLE, Int.reduceLT, Int.reduceAdd, Int.reduceSub, Int.reduceMul, Int.reduceNeg, decide_true, decide_false, nm_ne2, nm_en2, nm_ne3, nm_en3, nm_ne4, nm_en4, nm_ne5, nm_en5, nm_ne6, nm_en6, nm_ne7, nm_en7, nm_ne8, nm_en8, nm_ne9, nm_en9, nm_ne10, nm_en10, D_i, D_b, D_s, D_l, D_tgt, nil_nil, nil_err, nil_ifc, nil_ptr, nil_node, D_fld0, D_fld1, D_fld2, D_fld3, D_fld4, D_fld5, D_fld6, D_fld7, D_fld8, D_fld9, D_fld10, D_fld11, D_fld12, D_fld13, D_fld14, D_fld15, frpL, go_frp, go_rgn, rgnK_def, goD_nil, goD_u, contD_some, goD_call, callD_clo, kD_app, goD_g, gD_T, gD_F, gD_U, gK_U, evI_true, evI_false, bareK_some, go_seq, go_ops, go_cond, go_block, go_skip, go_tr, trim_def, trim_nil, trim_cons, fget_nil, go_ret, go_exit, den_nil, den_seq, den_seq_ret, den_seq_ext, den_blk, den_blk_ret, den_blk_ext, den_lp, den_lp_ret, den_lp_ext, goO_nil, goO_u, noCall, contK_some, goO_slc, goO_mif, preF, preP, prePt, prePd, frzP, noSp, goO_nlq, nlqK_some, evNlq, goO_g, gK_T, gK_F, skipD_some, skipD_none, goO_call, goO_callf, frzK_def, callK_clo, kO_app, condK_ite, iteT, iteF, put_def, sput_def, ev, frOf, fget_cons, oget, ogets, argSs, argS, evMm, frzL, evBin, evWrp, evShf, evCmp, evUna, evNil, evBeq, evLd, evSt, evFad, evIad, evAad, evLen, evSln, evEls, evApp, evParts, evSlc, evNlc, evMif, evPck, evFld, evBld, evTas, evIfq, evSeq, evSl0, evBxf, evAgl, evAgq, evBsf, List.set_cons_zero, List.set_cons_succ, List.set_nil, List.flatten_cons, List.flatten_nil, List.getD_cons_zero, List.getD_cons_succ, List.contains_cons,  hget, hset, hdel, cellAt, arrAt, setCellAt, setArrAt, takeC, lenC, svCells, SV.okc, SV.one, ldSV, Fw.isAgg, Nat.reduceMul, Nat.reduceSub, Nat.reduceLeDiff, Nat.lt_irrefl, Nat.not_lt_zero, Nat.reduceLT, Nat.add_eq_left, Nat.left_eq_add, List.nil_append, List.length_cons, List.length_nil, List.append_nil, List.cons_append, Nat.zero_lt_one, Bool.false_eq_true, Bool.not_true, Bool.not_false, eq_self, Option.map_some, Option.map_none, true_imp_iff, false_imp_iff, implies_true, Bool.true_eq_false, explode, explodeL, toD, toDL, toD1, Ty.size, Ty.sizeL, frz1, Fr.sub, Heap.sub, Tok.sub, SV.sub, SV.subL, add_def, Nat.reduceEqDiff, Nat.reduceAdd, Nat.zero_add, reduceCtorEq, ↓reduceIte, and_self, and_true, true_and, reduceIte, c, ei, min_i64, max_i64]
      refine ⟨by omega, by omega, ⟨rfl, rfl⟩, (hQ _ (fin_t (.int .i64 _) rfl rfl hnm (by ((try simp only []); repeat first | exact HLe.refl _ | refine HLe.cons (by simp only [hget, Nat.reduceEqDiff, Nat.left_eq_add, Nat.add_eq_left, reduceIte, ↓reduceIte] <;> rfl) ?_ | refine HLe.skip hnm (by omega) ?_ | refine HLe.frz hnm (by omega) ?_ | refine HLe.del hnm (by omega) ?_)) ?_)).1⟩
      unfold topF at hsp; rw [if_neg h0] at hsp; exact hsp
  · exact hsp.elim

def WSEqual : Opts := mkWE 26 [] [] [] 94 [] []
def icSEqual : IC := (.seq (.seq (.ops [(.u (.mov 4 (.c (.bool false))))]) (.tr [0, 1])) (.seq (.seq (.seq (.ops [(.u (.mov 6 (.s 0))), (.u (.len 7 false (.s 6))), (.u (.mov 8 (.s 1))), (.u (.len 9 false (.s 8))), (.u (.cmp 10 .neq (.s 7) (.s 9)))]) (.tr [10, 0, 1])) (.cond (.s 10) (.seq (.seq (.ops [(.u (.mov 4 (.c (.bool false))))]) (.tr [4])) .ret) .skip)) (.seq (.seq (.seq (.ops [(.u (.mov 11 (.s 0))), (.u (.len 12 false (.s 11))), (.u (.mov 13 (.c (.int .i64 0))))]) (.tr [12, 0, 1, 13])) (.block 0 (.loop (.seq (.seq (.ops [(.u (.cmp 14 .lss (.s 13) (.s 12)))]) (.tr [14, 13, 12, 0, 1])) (.seq (.cond (.s 14) .skip (.exit 0)) (.seq (.block 1 (.seq (.seq (.ops [(.u (.mov 15 (.s 13))), (.u (.mov 5 (.s 15)))]) (.tr [5, 13, 12, 0, 1])) (.seq (.seq (.rgn [] [(false, (.u (.mov 16 (.s 0)))), (false, (.u (.mov 17 (.s 5)))), (false, (.u (.iad 18 30 (.strct [(.int .i64), (.int .i64), (.int .i64)]) (.s 16) (.s 17)))), (false, (.u (.ld 19 (.strct [(.int .i64), (.int .i64), (.int .i64)]) (.s 18)))), (false, (.u (.mov 20 (.s 1)))), (false, (.u (.mov 21 (.s 5)))), (false, (.u (.iad 22 30 (.strct [(.int .i64), (.int .i64), (.int .i64)]) (.s 20) (.s 21)))), (false, (.u (.ld 23 (.strct [(.int .i64), (.int .i64), (.int .i64)]) (.s 22)))), (false, (.u (.agq 24 true 3 (.s 19) (.s 23))))]) (.tr [24, 13, 12, 0, 1])) (.cond (.s 24) (.seq (.seq (.ops [(.u (.mov 4 (.c (.bool false))))]) (.tr [4])) .ret) .skip)))) (.seq (.ops [(.u (.bin 25 .add .i64 (.s 13) (.c (.int .i64 1)))), (.u (.mov 13 (.s 25)))]) (.tr [12, 0, 1, 13])))))))) (.seq (.seq (.ops [(.u (.mov 4 (.c (.bool true))))]) (.tr [4])) .ret))))
def rsSEqual : List RV := [(.t 4)]
theorem irSEqual : fnIR Tryd.prog WSEqual 60 = some (icSEqual, rsSEqual) := by kernel_rfl
set_option maxHeartbeats 4000000 in
set_option maxRecDepth 8000 in
theorem vSEqual {E : Nat → Value} (hE : Errs2 Tryd.prog (some 94) E) : Valid Tryd.prog E (gs []) 60 spSameS := by
  refine valid_go (W := WSEqual) hE allValid_bot irSEqual (by decide) (fun args h nx K hsp hok hnm => ?_)
  unfold spSameS at hsp
  split at hsp
  · rename_i a b
    obtain ⟨ha, hb, _⟩ := hok
    simp only [SV.ok] at ha hb
    obtain ⟨ha1, ha2, ha3⟩ := Wt.slice ha
    obtain ⟨hb1, hb2, hb3⟩ := Wt.slice hb
    generalize a.l = l at hsp ha1 ha2 ha3
    generalize b.l = m at hsp hb1 hb2 hb3
    subst ha1 hb1
    have hml : maxLen ≤ 9223372036854775807 := by decide
    refine ⟨by simp [WSEqual, mkW, mkWE, mkWF], fun Q hQ => ?_⟩
    have ret : ∀ b h' nx', HLe h h' → b = sameS l m → Q Ex.ret ⟨[(4, .bool b)], h', nx'⟩ := fun b h' nx' hh hb => by
      subst hb
      refine (hQ _ ?_).1
      exact fin_t (.bool _) rfl rfl hnm hh hsp
    by_cases hll : l.length = m.length
    · have c1 : ((l.length : Int) != (m.length : Int)) = false := by rw [bne_eq_false_iff_eq]; omega
      simp only [icSEqual, fzSp_app, fzGo_app, slotsOf_nil, slotsOf_cons, Int.reduceEq, bq_tt, bq_tf, bq_ft, bq_ff, Bool.true_and, Bool.false_and, Bool.and_true, Bool.and_false, Bool.true_or, Bool.false_or, Bool.or_true, Bool.or_false, beq_self_eq_true, bne_self_eq_false, Int.reduceBEq, Int.reduceBNe, Int.reduceLE, Int.reduceLT, Int.reduceAdd, Int.reduceSub, Int.reduceMul, Int.reduceNeg, decide_true, decide_false, nm_ne2, nm_en2, nm_ne3, nm_en3, nm_ne4, nm_en4, nm_ne5, nm_en5, nm_ne6, nm_en6, nm_ne7, nm_en7, nm_ne8, nm_en8, nm_ne9, nm_en9, nm_ne10, nm_en10, D_i, D_b, D_s, D_l, D_tgt, nil_nil, nil_err, nil_ifc, nil_ptr, nil_node, D_fld0, D_fld1, D_fld2, D_fld3, D_fld4, D_fld5, D_fld6, D_fld7, D_fld8, D_fld9, D_fld10, D_fld11, D_fld12, D_fld13, D_fld14, D_fld15, frpL, go_frp, go_rgn, rgnK_def, goD_nil, goD_u, contD_some, goD_call, callD_clo, kD_app, goD_g, gD_T, gD_F, gD_U, gK_U, evI_true, evI_false, bareK_some, go_seq, go_ops, go_cond, go_block, go_skip, go_tr, trim_def, trim_nil, trim_cons, fget_nil, go_ret, go_exit, den_nil, den_seq, den_seq_ret, den_seq_ext, den_blk, den_blk_ret, den_blk_ext, den_lp, den_lp_ret, den_lp_ext, goO_nil, goO_u, noCall, contK_some, goO_slc, goO_mif, preF, preP, prePt, prePd, frzP, noSp, goO_nlq, nlqK_some, evNlq, goO_g, gK_T, gK_F, skipD_some, skipD_none, goO_call, goO_callf, frzK_def, callK_clo, kO_app, condK_ite, iteT, iteF, put_def, sput_def, ev, frOf, fget_cons, oget, ogets, argSs, argS, evMm, frzL, evBin, evWrp, evShf, evCmp, evUna, evNil, evBeq, evLd, evSt, evFad, evIad, evAad, evLen, evSln, evEls, evApp, evParts, evSlc, evNlc, evMif, evPck, evFld, evBld, evTas, evIfq, evSeq, evSl0, evBxf, evAgl, evAgq, evBsf, List.set_cons_zero, List.set_cons_succ, List.set_nil, List.flatten_cons, List.flatten_nil, List.getD_cons_zero, List.getD_cons_succ, List.contains_cons,  hget, hset, hdel, cellAt, arrAt, setCellAt, setArrAt, takeC, lenC, svCells, SV.okc, SV.one, ldSV, Fw.isAgg, Nat.reduceMul, Nat.reduceSub, Nat.reduceLeDiff, Nat.lt_irrefl, Nat.not_lt_zero, Nat.reduceLT, Nat.add_eq_left, Nat.left_eq_add, List.nil_append, List.length_cons, List.length_nil, List.append_nil, List.cons_append, Nat.zero_lt_one, Bool.false_eq_true, Bool.not_true, Bool.not_false, eq_self, Option.map_some, Option.map_none, true_imp_iff, false_imp_iff, implies_true, Bool.true_eq_false, explode, explodeL, toD, toDL, toD1, Ty.size, Ty.sizeL, frz1, Fr.sub, Heap.sub, Tok.sub, SV.sub, SV.subL, add_def, Nat.reduceEqDiff, Nat.reduceAdd, Nat.zero_add, reduceCtorEq, ↓reduceIte, and_self, and_true, true_and, reduceIte, c1]
      refine go_loop (α := { i : Nat // i ≤ l.length ∧ ∀ j, j < i → keyS (l.getD j .nil) = keyS (m.getD j .nil) }) (I := fun i => { f := [(12, .int .i64 l.length), (0, .dat (.slice 30) (.list l)), (1, .dat (.slice 30) (.list m)), (13, .int .i64 i.1)], h := h, nx := nx }) (μ := fun i => l.length - i.1) _ _ _ ⟨0, by omega, fun j hj => by omega⟩ ?_ (fun i B hB => ?_)
      · refine leq_id (by simp only [frEq_cons, frEq_nil, frIn_cons, frIn_nil, and_true, fget_cons, Nat.reduceEqDiff, reduceIte, ↓reduceIte, true_and, SV.ren, SV.renL, ren1] <;> (try rfl) <;> (try simp)) (by (simp only [frLt_cons, frLt_nil, and_true, SV.lt, SV.ltL, true_and] <;> omega)) (by ((try simp only []); repeat first | exact HLe.refl _ | refine HLe.cons (by simp only [hget, Nat.reduceEqDiff, Nat.left_eq_add, Nat.add_eq_left, reduceIte, ↓reduceIte] <;> rfl) ?_ | refine HLe.skip hnm (by omega) ?_ | refine HLe.frz hnm (by omega) ?_ | refine HLe.del hnm (by omega) ?_)) (by (repeat first | exact HLt.mono hnm (by simp only [] <;> omega) | refine HLt.cons (by simp only [] <;> omega) (by simp only [Tok.lt, SV.ltL, SV.lt, and_true, true_and] <;> omega) ?_)) (by simp only [] <;> omega)
      · obtain ⟨i, hi, hs⟩ := i
        by_cases hil : i < l.length
        · have c2 : decide ((i : Int) < (l.length : Int)) = true := decide_eq_true (by omega)
          simp (maxSteps := 1000000) only [fzSp_app, fzGo_app, slotsOf_nil, slotsOf_cons, Int.reduceEq, bq_tt, bq_tf, bq_ft, bq_ff, Bool.true_and, Bool.false_and, Bool.and_true, Bool.and_false, Bool.true_or, Bool.false_or, Bool.or_true, Bool.or_false, beq_self_eq_true, bne_self_eq_false, Int.reduceBEq, Int.reduceBNe, Int.reduceLE, Int.reduceLT, Int.reduceAdd, Int.reduceSub, Int.reduceMul, Int.reduceNeg, decide_true, decide_false, nm_ne2, nm_en2, nm_ne3, nm_en3, nm_ne4, nm_en4, nm_ne5, nm_en5, nm_ne6, nm_en6, nm_ne7, nm_en7, nm_ne8, nm_en8, nm_ne9, nm_en9, nm_ne10, nm_en10, D_i, D_b, D_s, D_l, D_tgt, nil_nil, nil_err, nil_ifc, nil_ptr, nil_node, D_fld0, D_fld1, D_fld2, D_fld3, D_fld4, D_fld5, D_fld6, D_fld7, D_fld8, D_fld9, D_fld10, D_fld11, D_fld12, D_fld13, D_fld14, D_fld15, frpL, go_frp, go_rgn, rgnK_def, goD_nil, goD_u, contD_some, goD_call, callD_clo, kD_app, goD_g, gD_T, gD_F, gD_U, gK_U, evI_true, evI_false, bareK_some, go_seq, go_ops, go_cond, go_block, go_skip, go_tr, trim_def, trim_nil, trim_cons, fget_nil, go_ret, go_exit, den_nil, den_seq, den_seq_ret, den_seq_ext, den_blk, den_blk_ret, den_blk_ext, den_lp, den_lp_ret, den_lp_ext, goO_nil, goO_u, noCall, contK_some, goO_slc, goO_mif, preF, preP, prePt, prePd, frzP, noSp, goO_nlq, nlqK_some, evNlq, goO_g, gK_T, gK_F, skipD_some, skipD_none, goO_call, goO_callf, frzK_def, callK_clo, kO_app, condK_ite, iteT, iteF, put_def, sput_def, ev, frOf, fget_cons, oget, ogets, argSs, argS, evMm, frzL, evBin, evWrp, evShf, evCmp, evUna, evNil, evBeq, evLd, evSt, evFad, evIad, evAad, evLen, evSln, evEls, evApp, evParts, evSlc, evNlc, evMif, evPck, evFld, evBld, evTas, evIfq, evSeq, evSl0, evBxf, evAgl, evAgq, evBsf, List.set_cons_zero, List.set_cons_succ, List.set_nil, List.flatten_cons, List.flatten_nil, List.getD_cons_zero, List.getD_cons_succ, List.contains_cons,  hget, hset, hdel, cellAt, arrAt, setCellAt, setArrAt, takeC, lenC, svCells, SV.okc, SV.one, ldSV, Fw.isAgg, Nat.reduceMul, Nat.reduceSub, Nat.reduceLeDiff, Nat.lt_irrefl, Nat.not_lt_zero, Nat.reduceLT, Nat.add_eq_left, Nat.left_eq_add, List.nil_append, List.length_cons, List.length_nil, List.append_nil, List.cons_append, Nat.zero_lt_one, Bool.false_eq_true, Bool.not_true, Bool.not_false, eq_self, Option.map_some, Option.map_none, true_imp_iff, false_imp_iff, implies_true, Bool.true_eq_false, explode, explodeL, toD, toDL, toD1, Ty.size, Ty.sizeL, frz1, Fr.sub, Heap.sub, Tok.sub, SV.sub, SV.subL, add_def, Nat.reduceEqDiff, Nat.reduceAdd, Nat.zero_add, reduceCtorEq, ↓reduceIte, and_self, and_true, true_and, reduceIte, c2, Int.toNat_natCast, min_i64, max_i64]
          have e : ((((l.getD i .nil).fld 0).i == ((m.getD i .nil).fld 0).i) && ((((l.getD i .nil).fld 1).i == ((m.getD i .nil).fld 1).i) && (((l.getD i .nil).fld 2).i == ((m.getD i .nil).fld 2).i))) = keyB (l.getD i .nil) (m.getD i .nil) := rfl
          rw [e]
          refine ⟨by omega, by omega, fun c => ?_, fun c => ?_⟩
          · have c' : keyB (l.getD i .nil) (m.getD i .nil) = false := by simpa using c
            exact ret _ _ _ (by ((try simp only []); repeat first | exact HLe.refl _ | refine HLe.cons (by simp only [hget, Nat.reduceEqDiff, Nat.left_eq_add, Nat.add_eq_left, reduceIte, ↓reduceIte] <;> rfl) ?_ | refine HLe.skip hnm (by omega) ?_ | refine HLe.frz hnm (by omega) ?_ | refine HLe.del hnm (by omega) ?_)) (sameS_ne hil (by omega) ((keyB_not _ _).1 c')).symm
          · have c' : keyB (l.getD i .nil) (m.getD i .nil) = true := by simpa using c
            refine ⟨by omega, hB _ ⟨i + 1, by omega, fun j hj => ?_⟩ (by simp only []; omega) ?_⟩
            · by_cases e : j = i
              · subst e; exact (keyB_iff _ _).1 c'
              · exact hs j (by omega)
            · refine leq_id (by simp only [frEq_cons, frEq_nil, frIn_cons, frIn_nil, and_true, fget_cons, Nat.reduceEqDiff, reduceIte, ↓reduceIte, true_and, SV.ren, SV.renL, ren1] <;> (try rfl) <;> (try simp)) (by (simp only [frLt_cons, frLt_nil, and_true, SV.lt, SV.ltL, true_and] <;> omega)) (by ((try simp only []); repeat first | exact HLe.refl _ | refine HLe.cons (by simp only [hget, Nat.reduceEqDiff, Nat.left_eq_add, Nat.add_eq_left, reduceIte, ↓reduceIte] <;> rfl) ?_ | refine HLe.skip hnm (by omega) ?_ | refine HLe.frz hnm (by omega) ?_ | refine HLe.del hnm (by omega) ?_)) (by (repeat first | exact HLt.mono hnm (by simp only [] <;> omega) | refine HLt.cons (by simp only [] <;> omega) (by simp only [Tok.lt, SV.ltL, SV.lt, and_true, true_and] <;> omega) ?_)) (by simp only [] <;> omega)
        · have c2 : decide ((i : Int) < (l.length : Int)) = false := decide_eq_false (by omega)
          simp only [fzSp_app, fzGo_app, slotsOf_nil, slotsOf_cons, Int.reduceEq, bq_tt, bq_tf, bq_ft, bq_ff, Bool.true_and, Bool.false_and, Bool.and_true, Bool.and_false, Bool.true_or, Bool.false_or, Bool.or_true, Bool.or_false, beq_self_eq_true, bne_self_eq_false, Int.reduceBEq, Int.reduceBNe, Int.reduceLE, Int.reduceLT, Int.reduceAdd, Int.reduceSub, Int.reduceMul, Int.reduceNeg, decide_true, decide_false, nm_ne2, nm_en2, nm_ne3, nm_en3, nm_ne4, nm_en4, nm_ne5, nm_en5, nm_ne6, nm_en6, nm_ne7, nm_en7, nm_ne8, nm_en8, nm_ne9, nm_en9, nm_ne10, nm_en10, D_i, D_b, D_s, D_l, D_tgt, nil_nil, nil_err, nil_ifc, nil_ptr, nil_node, D_fld0, D_fld1, D_fld2, D_fld3, D_fld4, D_fld5, D_fld6, D_fld7, D_fld8, D_fld9, D_fld10, D_fld11, D_fld12, D_fld13, D_fld14, D_fld15, frpL, go_frp, go_rgn, rgnK_def, goD_nil, goD_u, contD_some, goD_call, callD_clo, kD_app, goD_g, gD_T, gD_F, gD_U, gK_U, evI_true, evI_false, bareK_some, go_seq, go_ops, go_cond, go_block, go_skip, go_tr, trim_def, trim_nil, trim_cons, fget_nil, go_ret, go_exit, den_nil, den_seq, den_seq_ret, den_seq_ext, den_blk, den_blk_ret, den_blk_ext, den_lp, den_lp_ret, den_lp_ext, goO_nil, goO_u, noCall, contK_some, goO_slc, goO_mif, preF, preP, prePt, prePd, frzP, noSp, goO_nlq, nlqK_some, evNlq, goO_g, gK_T, gK_F, skipD_some, skipD_none, goO_call, goO_callf, frzK_def, callK_clo, kO_app, condK_ite, iteT, iteF, put_def, sput_def, ev, frOf, fget_cons, oget, ogets, argSs, argS, evMm, frzL, evBin, evWrp, evShf, evCmp, evUna, evNil, evBeq, evLd, evSt, evFad, evIad, evAad, evLen, evSln, evEls, evApp, evParts, evSlc, evNlc, evMif, evPck, evFld, evBld, evTas, evIfq, evSeq, evSl0, evBxf, evAgl, evAgq, evBsf, List.set_cons_zero, List.set_cons_succ, List.set_nil, List.flatten_cons, List.flatten_nil, List.getD_cons_zero, List.getD_cons_succ, List.contains_cons,  hget, hset, hdel, cellAt, arrAt, setCellAt, setArrAt, takeC, lenC, svCells, SV.okc, SV.one, ldSV, Fw.isAgg, Nat.reduceMul, Nat.reduceSub, Nat.reduceLeDiff, Nat.lt_irrefl, Nat.not_lt_zero, Nat.reduceLT, Nat.add_eq_left, Nat.left_eq_add, List.nil_append, List.length_cons, List.length_nil, List.append_nil, List.cons_append, Nat.zero_lt_one, Bool.false_eq_true, Bool.not_true, Bool.not_false, eq_self, Option.map_some, Option.map_none, true_imp_iff, false_imp_iff, implies_true, Bool.true_eq_false, explode, explodeL, toD, toDL, toD1, Ty.size, Ty.sizeL, frz1, Fr.sub, Heap.sub, Tok.sub, SV.sub, SV.subL, add_def, Nat.reduceEqDiff, Nat.reduceAdd, Nat.zero_add, reduceCtorEq, ↓reduceIte, and_self, and_true, true_and, reduceIte, c2]
          exact ret _ _ _ (by ((try simp only []); repeat first | exact HLe.refl _ | refine HLe.cons (by simp only [hget, Nat.reduceEqDiff, Nat.left_eq_add, Nat.add_eq_left, reduceIte, ↓reduceIte] <;> rfl) ?_ | refine HLe.skip hnm (by omega) ?_ | refine HLe.frz hnm (by omega) ?_ | refine HLe.del hnm (by omega) ?_)) (sameS_eq hll (fun j hj => hs j (by omega))).symm
    · have c1 : ((l.length : Int) != (m.length : Int)) = true := by rw [bne_iff_ne]; omega
      simp only [icSEqual, fzSp_app, fzGo_app, slotsOf_nil, slotsOf_cons, Int.reduceEq, bq_tt, bq_tf, bq_ft, bq_ff, Bool.true_and, Bool.false_and, Bool.and_true, Bool.and_false, Bool.true_or, Bool.false_or, Bool.or_true, Bool.or_false, beq_self_eq_true, bne_self_eq_false, Int.reduceBEq, Int.reduceBNe, Int.reduceLE, Int.reduceLT, Int.reduceAdd, Int.reduceSub, Int.reduceMul, Int.reduceNeg, decide_true, decide_false, nm_ne2, nm_en2, nm_ne3, nm_en3, nm_ne4, nm_en4, nm_ne5, nm_en5, nm_ne6, nm_en6, nm_ne7, nm_en7, nm_ne8, nm_en8, nm_ne9, nm_en9, nm_ne10, nm_en10, D_i, D_b, D_s, D_l, D_tgt, nil_nil, nil_err, nil_ifc, nil_ptr, nil_node, D_fld0, D_fld1, D_fld2, D_fld3, D_fld4, D_fld5, D_fld6, D_fld7, D_fld8, D_fld9, D_fld10, D_fld11, D_fld12, D_fld13, D_fld14, D_fld15, frpL, go_frp, go_rgn, rgnK_def, goD_nil, goD_u, contD_some, goD_call, callD_clo, kD_app, goD_g, gD_T, gD_F, gD_U, gK_U, evI_true, evI_false, bareK_some, go_seq, go_ops, go_cond, go_block, go_skip, go_tr, trim_def, trim_nil, trim_cons, fget_nil, go_ret, go_exit, den_nil, den_seq, den_seq_ret, den_seq_ext, den_blk, den_blk_ret, den_blk_ext, den_lp, den_lp_ret, den_lp_ext, goO_nil, goO_u, noCall, contK_some, goO_slc, goO_mif, preF, preP, prePt, prePd, frzP, noSp, goO_nlq, nlqK_some, evNlq, goO_g, gK_T, gK_F, skipD_some, skipD_none, goO_call, goO_callf, frzK_def, callK_clo, kO_app, condK_ite, iteT, iteF, put_def, sput_def, ev, frOf, fget_cons, oget, ogets, argSs, argS, evMm, frzL, evBin, evWrp, evShf, evCmp, evUna, evNil, evBeq, evLd, evSt, evFad, evIad, evAad, evLen, evSln, evEls, evApp, evParts, evSlc, evNlc, evMif, evPck, evFld, evBld, evTas, evIfq, evSeq, evSl0, evBxf, evAgl, evAgq, evBsf, List.set_cons_zero, List.set_cons_succ, List.set_nil, List.flatten_cons, List.flatten_nil, List.getD_cons_zero, List.getD_cons_succ, List.contains_cons,  hget, hset, hdel, cellAt, arrAt, setCellAt, setArrAt, takeC, lenC, svCells, SV.okc, SV.one, ldSV, Fw.isAgg, Nat.reduceMul, Nat.reduceSub, Nat.reduceLeDiff, Nat.lt_irrefl, Nat.not_lt_zero, Nat.reduceLT, Nat.add_eq_left, Nat.left_eq_add, List.nil_append, List.length_cons, List.length_nil, List.append_nil, List.cons_append, Nat.zero_lt_one, Bool.false_eq_true, Bool.not_true, Bool.not_false, eq_self, Option.map_some, Option.map_none, true_imp_iff, false_imp_iff, implies_true, Bool.true_eq_false, explode, explodeL, toD, toDL, toD1, Ty.size, Ty.sizeL, frz1, Fr.sub, Heap.sub, Tok.sub, SV.sub, SV.subL, add_def, Nat.reduceEqDiff, Nat.reduceAdd, Nat.zero_add, reduceCtorEq, ↓reduceIte, and_self, and_true, true_and, reduceIte, c1]
      exact ret _ _ _ (by ((try simp only []); repeat first | exact HLe.refl _ | refine HLe.cons (by simp only [hget, Nat.reduceEqDiff, Nat.left_eq_add, Nat.add_eq_left, reduceIte, ↓reduceIte] <;> rfl) ?_ | refine HLe.skip hnm (by omega) ?_ | refine HLe.frz hnm (by omega) ?_ | refine HLe.del hnm (by omega) ?_)) (sameS_len hll).symm
  · exact hsp.elim
def WSSame : Opts := mkWE 8 [] [] [] 94 [] []
def icSSame : IC := (.seq (.seq (.ops [(.u (.mov 4 (.c (.bool false))))]) (.tr [0, 1])) (.seq (.seq (.ops [(.u (.mov 5 (.s 0))), (.u (.mov 6 (.s 1))), (.u (.call 7 (.c (.clo 60 [])) [(.s 5), (.s 6)] [(some 30), (some 30)] true)), (.u (.mov 4 (.s 7)))]) (.tr [4])) .ret))
def rsSSame : List RV := [(.t 4)]
theorem irSSame : fnIR Tryd.prog WSSame 40 = some (icSSame, rsSSame) := by kernel_rfl
set_option maxHeartbeats 4000000 in
set_option maxRecDepth 8000 in
theorem vSSame {E : Nat → Value} (hE : Errs2 Tryd.prog (some 94) E) : Valid Tryd.prog E (gs []) 40 spSameS := by
  refine valid_go (W := WSSame) hE (allValid_bot.add (up (vSEqual hE))) irSSame (by decide) (fun args h nx K hsp hok hnm => ?_)
  unfold spSameS at hsp
  split at hsp
  · rename_i a b
    refine ⟨by simp [WSSame, mkW, mkWE, mkWF], fun Q hQ => ?_⟩
    simp only [icSSame, fzSp_app, fzGo_app, slotsOf_nil, slotsOf_cons, Int.reduceEq, bq_tt, bq_tf, bq_ft, bq_ff, Bool.true_and, Bool.false_and, Bool.and_true, Bool.and_false, Bool.true_or, Bool.false_or, Bool.or_true, Bool.or_false, beq_self_eq_true, bne_self_eq_false, Int.reduceBEq, Int.reduceBNe, Int.reduceLE, Int.reduceLT, Int.reduceAdd, Int.reduceSub, Int.reduceMul, Int.reduceNeg, decide_true, decide_false, nm_ne2, nm_en2, nm_ne3, nm_en3, nm_ne4, nm_en4, nm_ne5, nm_en5, nm_ne6, nm_en6, nm_ne7, nm_en7, nm_ne8, nm_en8, nm_ne9, nm_en9, nm_ne10, nm_en10, D_i, D_b, D_s, D_l, D_tgt, nil_nil, nil_err, nil_ifc, nil_ptr, nil_node, D_fld0, D_fld1, D_fld2, D_fld3, D_fld4, D_fld5, D_fld6, D_fld7, D_fld8, D_fld9, D_fld10, D_fld11, D_fld12, D_fld13, D_fld14, D_fld15, frpL, go_frp, go_rgn, rgnK_def, goD_nil, goD_u, contD_some, goD_call, callD_clo, kD_app, goD_g, gD_T, gD_F, gD_U, gK_U, evI_true, evI_false, bareK_some, go_seq, go_ops, go_cond, go_block, go_skip, go_tr, trim_def, trim_nil, trim_cons, fget_nil, go_ret, go_exit, den_nil, den_seq, den_seq_ret, den_seq_ext, den_blk, den_blk_ret, den_blk_ext, den_lp, den_lp_ret, den_lp_ext, goO_nil, goO_u, noCall, contK_some, goO_slc, goO_mif, preF, preP, prePt, prePd, frzP, noSp, goO_nlq, nlqK_some, evNlq, goO_g, gK_T, gK_F, skipD_some, skipD_none, goO_call, goO_callf, frzK_def, callK_clo, kO_app, condK_ite, iteT, iteF, put_def, sput_def, ev, frOf, fget_cons, oget, ogets, argSs, argS, evMm, frzL, evBin, evWrp, evShf, evCmp, evUna, evNil, evBeq, evLd, evSt, evFad, evIad, evAad, evLen, evSln, evEls, evApp, evParts, evSlc, evNlc, evMif, evPck, evFld, evBld, evTas, evIfq, evSeq, evSl0, evBxf, evAgl, evAgq, evBsf, List.set_cons_zero, List.set_cons_succ, List.set_nil, List.flatten_cons, List.flatten_nil, List.getD_cons_zero, List.getD_cons_succ, List.contains_cons,  hget, hset, hdel, cellAt, arrAt, setCellAt, setArrAt, takeC, lenC, svCells, SV.okc, SV.one, ldSV, Fw.isAgg, Nat.reduceMul, Nat.reduceSub, Nat.reduceLeDiff, Nat.lt_irrefl, Nat.not_lt_zero, Nat.reduceLT, Nat.add_eq_left, Nat.left_eq_add, List.nil_append, List.length_cons, List.length_nil, List.append_nil, List.cons_append, Nat.zero_lt_one, Bool.false_eq_true, Bool.not_true, Bool.not_false, eq_self, Option.map_some, Option.map_none, true_imp_iff, false_imp_iff, implies_true, Bool.true_eq_false, explode, explodeL, toD, toDL, toD1, Ty.size, Ty.sizeL, frz1, Fr.sub, Heap.sub, Tok.sub, SV.sub, SV.subL, add_def, Nat.reduceEqDiff, Nat.reduceAdd, Nat.zero_add, reduceCtorEq, ↓reduceIte, and_self, and_true, true_and, reduceIte, spSameS]
    refine (hQ _ ?_).1
    exact fin_t (.bool _) rfl rfl hnm (by ((try simp only []); repeat first | exact HLe.refl _ | refine HLe.cons (by simp only [hget, Nat.reduceEqDiff, Nat.left_eq_add, Nat.add_eq_left, reduceIte, ↓reduceIte] <;> rfl) ?_ | refine HLe.skip hnm (by omega) ?_ | refine HLe.frz hnm (by omega) ?_ | refine HLe.del hnm (by omega) ?_)) hsp
  · exact hsp.elim

/-! ### Spans that were put are read -/
theorem span3_at {l : List D} {a : Nat} {r : List D} {e f t : Int} (hd : l.drop a = encD e ++ encD f ++ encD t ++ r) (he : 1 ≤ e ∧ e ≤ 1073741824) (hf : 0 ≤ f ∧ f ≤ 1099511627776) (ht : 0 ≤ t ∧ t ≤ 1099511627776) :
    span3 l a .nil = (.node [.int e, .int f, .int t], a + (encD e ++ encD f ++ encD t).length, .nil) := by
  have h1 := numF_at (l := l) (a := a) (r := encD f ++ encD t ++ r) (lo := 1) (hi := 1073741824) (by rw [hd]; simp only [List.append_assoc]) (by omega) he
  have h2 := numF_at (l := l) (a := a + (encD e).length) (n := f) (r := encD t ++ r) (lo := 0) (hi := 1099511627776) (by rw [← List.drop_drop, hd]; simp only [List.append_assoc, List.drop_left]) (by omega) hf
  have h3 := numF_at (l := l) (a := a + (encD e).length + (encD f).length) (n := t) (r := r) (lo := 0) (hi := 1099511627776) (by rw [← List.drop_drop, ← List.drop_drop, hd]; simp only [List.append_assoc, List.drop_left]) (by omega) ht
  unfold span3
  rw [h1]
  simp only []
  rw [h2]
  simp only []
  rw [h3]
  simp only [List.length_append, Nat.add_assoc]
def okS (d : D) : Prop := d = .node [.int (spE d), .int (spF d), .int (spT d)] ∧ (1 ≤ spE d ∧ spE d ≤ 1073741824) ∧ (0 ≤ spF d ∧ spF d ≤ 1099511627776) ∧ (0 ≤ spT d ∧ spT d ≤ 1099511627776)
theorem spansN_at {l : List D} : ∀ {s : List D} {a : Nat} {r : List D}, (∀ d ∈ s, okS d) → l.drop a = s.flatMap enc3 ++ r → spansN l s.length a .nil = (s, a + (s.flatMap enc3).length, .nil)
  | [], a, r, _, _ => by simp [spansN]
  | d :: s, a, r, hs, hd => by
    obtain ⟨e0, h1, h2, h3⟩ := hs d (by simp)
    have ha := span3_at (l := l) (a := a) (r := s.flatMap enc3 ++ r) (by rw [hd]; simp only [List.flatMap_cons, enc3, List.append_assoc]) h1 h2 h3
    rw [← e0] at ha
    have ih := spansN_at (l := l) (s := s) (a := a + (enc3 d).length) (r := r) (fun x hx => hs x (by simp [hx])) (by rw [← List.drop_drop, hd]; simp only [List.flatMap_cons, List.append_assoc, List.drop_left])
    simp only [List.length_cons, spansN, nil_nil, if_true, ha]
    have e1 : encD (spE d) ++ encD (spF d) ++ encD (spT d) = enc3 d := rfl
    rw [e1, ih]
    simp only [List.flatMap_cons, List.length_append, Nat.add_assoc]
theorem spansF_at {l s r : List D} {a : Nat} (hl : s.length ≤ 64) (hs : ∀ d ∈ s, okS d) (hd : l.drop a = encS3 s ++ r) : spansF l a .nil = (s, a + (encS3 s).length, .nil) := by
  unfold encS3 at hd
  have h1 := numF_at (l := l) (a := a) (n := (s.length : Int)) (r := s.flatMap enc3 ++ r) (lo := 0) (hi := 64) (by rw [hd]; simp only [List.append_assoc]) (by omega) (by omega)
  unfold spansF
  rw [h1]
  simp only [Int.toNat_natCast]
  rw [spansN_at (r := r) hs (by rw [← List.drop_drop, hd]; simp only [List.append_assoc, List.drop_left])]
  unfold encS3
  simp only [List.length_append, Nat.add_assoc]
/-! Cut off: an error. -/
theorem numF_cut' {l : List D} {a k : Nat} {n lo hi : Int} {r : List D} (hd : l.drop a = (encD n ++ r).take k) (hn : -9223372036854775808 ≤ n ∧ n ≤ 9223372036854775807) (h : lo ≤ n ∧ n ≤ hi) :
    (k < (encD n).length ∧ (numF l a .nil lo hi).2.2.isNil = false) ∨ ((encD n).length ≤ k ∧ numF l a .nil lo hi = (n, a + (encD n).length, .nil) ∧ l.drop (a + (encD n).length) = r.take (k - (encD n).length)) := by
  by_cases hk : k < (encD n).length
  · left
    refine ⟨hk, ?_⟩
    rw [numF_cut (k := k) (by rw [hd, List.take_append_of_le_length (by omega)]) hn hk]
    rfl
  · right
    refine ⟨by omega, ?_, ?_⟩
    · refine numF_at (r := r.take (k - (encD n).length)) ?_ hn h
      rw [hd, List.take_append, List.take_of_length_le (by omega)]
    · rw [← List.drop_drop, hd, List.take_append, List.take_of_length_le (by omega), List.drop_left]
theorem numF_badE {l : List D} {a : Nat} {e : D} {lo hi : Int} (he : e.isNil = false) : (numF l a e lo hi).2.2.isNil = false := by
  rw [numF_bad he]; exact he
theorem span3_bad {l : List D} {a : Nat} {e : D} (he : (numF l a e 1 1073741824).2.2.isNil = false) : (span3 l a e).2.2.isNil = false := numF_badE (numF_badE he)
theorem span3_cut {l : List D} {a k : Nat} {r : List D} {e f t : Int} (hd : l.drop a = (encD e ++ encD f ++ encD t ++ r).take k) (he : 1 ≤ e ∧ e ≤ 1073741824) (hf : 0 ≤ f ∧ f ≤ 1099511627776) (ht : 0 ≤ t ∧ t ≤ 1099511627776) :
    (k < (encD e ++ encD f ++ encD t).length ∧ (span3 l a .nil).2.2.isNil = false) ∨ ((encD e ++ encD f ++ encD t).length ≤ k ∧ span3 l a .nil = (.node [.int e, .int f, .int t], a + (encD e ++ encD f ++ encD t).length, .nil) ∧ l.drop (a + (encD e ++ encD f ++ encD t).length) = r.take (k - (encD e ++ encD f ++ encD t).length)) := by
  simp only [List.append_assoc] at hd
  simp only [List.length_append]
  rcases numF_cut' hd (by omega) he with ⟨h1, h2⟩ | ⟨h1, h2, h3⟩
  · exact .inl ⟨by omega, span3_bad h2⟩
  · rcases numF_cut' h3 (by omega) hf with ⟨k1, k2⟩ | ⟨k1, k2, k3⟩
    · left
      refine ⟨by omega, ?_⟩
      unfold span3
      rw [h2]
      exact numF_badE k2
    · rcases numF_cut' k3 (by omega) ht with ⟨m1, m2⟩ | ⟨m1, m2, m3⟩
      · left
        refine ⟨by omega, ?_⟩
        unfold span3
        rw [h2]
        simp only []
        rw [k2]
        exact m2
      · right
        refine ⟨by omega, ?_, ?_⟩
        · unfold span3
          rw [h2]
          simp only []
          rw [k2]
          simp only []
          rw [m2]
          simp only [Nat.add_assoc]
        · have e1 : a + ((encD e).length + (encD f).length + (encD t).length) = a + (encD e).length + (encD f).length + (encD t).length := by omega
          have e2 : k - ((encD e).length + (encD f).length + (encD t).length) = k - (encD e).length - (encD f).length - (encD t).length := by omega
          rw [e1, e2]; exact m3
theorem spansN_bad {l : List D} {k a : Nat} {e : D} (h : e.isNil = false) : (spansN l k a e).2.2.isNil = false := by
  cases k with
  | zero => exact h
  | succ k => simp only [spansN]; rw [if_neg (by rw [h]; simp)]; exact h
theorem spansN_cut {l : List D} : ∀ {s : List D} {a k : Nat}, (∀ d ∈ s, okS d) → l.drop a = (s.flatMap enc3).take k → k < (s.flatMap enc3).length → (spansN l s.length a .nil).2.2.isNil = false
  | [], a, k, _, _, hk => by simp at hk
  | d :: s, a, k, hs, hd, hk => by
    obtain ⟨e0, h1, h2, h3⟩ := hs d (by simp)
    have e1 : encD (spE d) ++ encD (spF d) ++ encD (spT d) = enc3 d := rfl
    simp only [List.flatMap_cons, List.length_append] at hk hd
    simp only [List.length_cons, spansN, nil_nil, if_true]
    rcases span3_cut (l := l) (a := a) (k := k) (r := s.flatMap enc3) (by rw [hd, ← e1]) h1 h2 h3 with ⟨q1, q2⟩ | ⟨q1, q2, q3⟩
    · exact spansN_bad q2
    · rw [q2]
      simp only []
      rw [e1] at q1 q3 ⊢
      exact spansN_cut (fun x hx => hs x (by simp [hx])) q3 (by omega)
theorem spansF_cut {l s : List D} {k : Nat} (hl : s.length ≤ 64) (hs : ∀ d ∈ s, okS d) (hd : l = (encS3 s).take k) (hk : k < (encS3 s).length) : (spansF l 0 .nil).2.2.isNil = false := by
  unfold encS3 at hd hk
  simp only [List.length_append] at hk
  unfold spansF
  rcases numF_cut' (l := l) (a := 0) (k := k) (n := (s.length : Int)) (r := s.flatMap enc3) (lo := 0) (hi := 64) (by rw [List.drop_zero]; exact hd) (by omega) (by omega) with ⟨h1, h2⟩ | ⟨h1, h2, h3⟩
  · exact spansN_bad h2
  · rw [h2]
    simp only [Int.toNat_natCast]
    exact spansN_cut hs h3 (by omega)
end Go.Proofs.YthkpajefghmnaaaDoor
