/- Chapter 2's functions: the reader's. -/
import Derived.Test.YthkpajefghmnaaaDoorWireA
import Derived.Test.YthkpajefghmnaaaDoorAt
namespace Go.Proofs.YthkpajefghmnaaaDoor
set_option linter.unusedVariables false
set_option linter.unusedSimpArgs false
open Go Go.Fw Go.Wire

def RngB (l : List D) : Prop := ∀ j, j < l.length → 0 ≤ (l.getD j .nil).i ∧ (l.getD j .nil).i ≤ 255
/-- A reader's memory. -/
def rdTok (l : List D) (a : Nat) (e : D) : Tok := .cells [.dat (.slice 5) (.list l), .int .i64 (a : Int), .dat .iface e]
theorem rdTok_def (l : List D) (a : Nat) (e : D) : rdTok l a e = .cells [.dat (.slice 5) (.list l), .int .i64 (a : Int), .dat .iface e] := rfl
def rdOk (r : Option Tok) : Prop := ∃ l a e, r = some (rdTok l a e) ∧ a ≤ l.length ∧ l.length ≤ 1000000000 ∧ RngB l
def rdL (r : Option Tok) : List D := match r with | some (.cells [.dat _ (.list l), _, _]) => l | _ => []
def rdA (r : Option Tok) : Nat := match r with | some (.cells [_, .int _ a, _]) => a.toNat | _ => 0
def rdE (r : Option Tok) : D := match r with | some (.cells [_, _, .dat _ e]) => e | _ => .nil
theorem rdL_tok (l : List D) (a : Nat) (e : D) : rdL (some (rdTok l a e)) = l := rfl
theorem rdA_tok (l : List D) (a : Nat) (e : D) : rdA (some (rdTok l a e)) = a := rfl
theorem rdE_tok (l : List D) (a : Nat) (e : D) : rdE (some (rdTok l a e)) = e := rfl
theorem rdOk_tok (l : List D) (a : Nat) (e : D) : rdOk (some (rdTok l a e)) = (a ≤ l.length ∧ l.length ≤ 1000000000 ∧ RngB l) := by
  apply propext
  constructor
  · rintro ⟨l', a', e', h, h1, h2, h3⟩
    simp only [rdTok, Option.some.injEq, Tok.cells.injEq, List.cons.injEq, SV.dat.injEq, D.list.injEq, SV.int.injEq, true_and, and_true] at h
    obtain ⟨rfl, h4, rfl⟩ := h
    have : a = a' := by omega
    subst this
    exact ⟨h1, h2, h3⟩
  · rintro ⟨h1, h2, h3⟩; exact ⟨l, a, e, rfl, h1, h2, h3⟩
def WNumber0 : Opts := mkWE 69 [] [0, 1, 3] [] 94 [0, 1, 3] []
def icNumber0 : IC := (.seq (.seq (.ops [(.u (.mov 2 (.c (.int .i64 0)))), (.u (.mov 3 (.c (.int .i64 0)))), (.u (.mov 4 (.c (.dat .iface .nil))))]) (.tr [0, 2, 3, 4])) (.seq (.seq (.ops [(.u (.mov 5 (.c (.int .u64 0))))]) (.tr [0, 5, 2, 3, 4])) (.seq (.seq (.ops [(.u (.mov 6 (.c (.int .i64 0))))]) (.tr [0, 5, 2, 3, 4, 6])) (.block 0 (.loop (.seq (.block 1 (.seq (.seq (.seq (.rgn [] [(false, (.u (.mov 10 (.s 0)))), (false, (.u (.nlc 11 (.s 10)))), (false, (.u (.fad 12 1 1 (.int .i64) 70 (.s 11)))), (false, (.u (.ld 13 (.int .i64) (.s 12)))), (false, (.u (.mov 14 (.s 6)))), (false, (.u (.bin 15 .add .i64 (.s 13) (.s 14)))), (false, (.u (.mov 16 (.s 0)))), (false, (.u (.nlc 17 (.s 16)))), (false, (.u (.fad 18 0 0 (.slice 5) 70 (.s 17)))), (false, (.u (.ld 19 (.slice 5) (.s 18)))), (false, (.u (.len 20 false (.s 19)))), (false, (.u (.cmp 21 .geq (.s 15) (.s 20))))]) (.tr [21, 5, 0, 2, 3, 4, 6])) (.cond (.s 21) (.seq (.seq (.rgn [] [(false, (.u (.gld 22 1))), (false, (.u (.mov 2 (.c (.int .i64 0))))), (false, (.u (.mov 3 (.c (.int .i64 0))))), (false, (.u (.mov 4 (.s 22))))]) (.tr [2, 3, 4])) .ret) .skip)) (.seq (.seq (.rgn [] [(false, (.u (.mov 23 (.s 0)))), (false, (.u (.nlc 24 (.s 23)))), (false, (.u (.fad 25 0 0 (.slice 5) 70 (.s 24)))), (false, (.u (.ld 26 (.slice 5) (.s 25)))), (false, (.u (.mov 27 (.s 0)))), (false, (.u (.nlc 28 (.s 27)))), (false, (.u (.fad 29 1 1 (.int .i64) 70 (.s 28)))), (false, (.u (.ld 30 (.int .i64) (.s 29)))), (false, (.u (.mov 31 (.s 6)))), (false, (.u (.bin 32 .add .i64 (.s 30) (.s 31)))), (false, (.u (.iad 33 5 (.int .u8) (.s 26) (.s 32)))), (false, (.u (.ld 34 (.int .u8) (.s 33)))), (false, (.u (.mov 7 (.s 34))))]) (.tr [5, 0, 2, 3, 4, 7, 6])) (.seq (.seq (.seq (.ops [(.u (.mov 35 (.s 6))), (.u (.cmp 36 .eql (.s 35) (.c (.int .i64 9)))), (.u (.mov 37 (.s 36))), (.g 37 true (some 38) (.mov 38 (.s 7))), (.g 37 true (some 39) (.cmp 39 .gtr (.s 38) (.c (.int .u8 1)))), (.u (.pck 40 (.s 37) (.s 39) (.c (.bool false))))]) (.tr [40, 5, 0, 2, 3, 4, 7, 6])) (.cond (.s 40) (.seq (.seq (.rgn [] [(false, (.u (.gld 41 3))), (false, (.u (.mov 2 (.c (.int .i64 0))))), (false, (.u (.mov 3 (.c (.int .i64 0))))), (false, (.u (.mov 4 (.s 41))))]) (.tr [2, 3, 4])) .ret) .skip)) (.seq (.seq (.ops [(.u (.mov 42 (.s 5))), (.u (.mov 43 (.s 7))), (.u (.bin 44 .andNot .u8 (.s 43) (.c (.int .u8 128)))), (.u (.cnv 45 .u64 (.s 44))), (.u (.mov 46 (.s 6))), (.u (.bin 47 .mul .i64 (.c (.int .i64 7)) (.s 46))), (.u (.shf 48 .shl .u64 (.s 45) (.s 47))), (.u (.bin 49 .or .u64 (.s 42) (.s 48))), (.u (.mov 5 (.s 49)))]) (.tr [0, 2, 3, 4, 7, 5, 6])) (.seq (.seq (.seq (.ops [(.u (.mov 50 (.s 7))), (.u (.cmp 51 .geq (.s 50) (.c (.int .u8 128))))]) (.tr [51, 0, 2, 3, 4, 7, 5, 6])) (.cond (.s 51) (.exit 1) .skip)) (.seq (.seq (.seq (.ops [(.u (.mov 52 (.s 7))), (.u (.cmp 53 .eql (.s 52) (.c (.int .u8 0)))), (.u (.mov 54 (.s 53))), (.g 54 true (some 55) (.mov 55 (.s 6))), (.g 54 true (some 56) (.cmp 56 .gtr (.s 55) (.c (.int .i64 0)))), (.u (.pck 57 (.s 54) (.s 56) (.c (.bool false))))]) (.tr [57, 5, 6])) (.cond (.s 57) (.seq (.seq (.rgn [] [(false, (.u (.gld 58 3))), (false, (.u (.mov 2 (.c (.int .i64 0))))), (false, (.u (.mov 3 (.c (.int .i64 0))))), (false, (.u (.mov 4 (.s 58))))]) (.tr [2, 3, 4])) .ret) .skip)) (.seq (.seq (.ops [(.u (.mov 59 (.s 5))), (.u (.shf 60 .shr .u64 (.s 59) (.c (.int .u64 1)))), (.u (.cnv 61 .i64 (.s 60))), (.u (.mov 62 (.s 5))), (.u (.bin 63 .and .u64 (.s 62) (.c (.int .u64 1)))), (.u (.cnv 64 .i64 (.s 63))), (.u (.una 65 .neg (.s 64))), (.u (.bin 66 .xor .i64 (.s 61) (.s 65))), (.u (.mov 67 (.s 6))), (.u (.bin 68 .add .i64 (.s 67) (.c (.int .i64 1)))), (.u (.mov 2 (.s 66))), (.u (.mov 3 (.s 68))), (.u (.mov 4 (.c (.dat .iface .nil))))]) (.tr [2, 3, 4])) .ret)))))))) (.seq (.ops [(.u (.mov 8 (.s 6))), (.u (.bin 9 .add .i64 (.s 8) (.c (.int .i64 1)))), (.u (.mov 6 (.s 9)))]) (.tr [0, 5, 2, 3, 4, 6]))))))))
def rsNumber0 : List RV := [(.t 2), (.t 3), (.t 4)]
theorem irNumber0 : fnIR Tryd.prog WNumber0 47 = some (icNumber0, rsNumber0) := by kernel_rfl
def numT : NumR → SV
  | .fin => .tup [.int .i64 0, .int .i64 0, .dat .iface (.err 1)]
  | .shape => .tup [.int .i64 0, .int .i64 0, .dat .iface (.err 3)]
  | .ok n k => .tup [.int .i64 n, .int .i64 (k : Int), .dat .iface .nil]
def spNumber0 : FSpec := fun args h nx K => match args with
  | [.ptr p 0] => rdOk (hget h p) ∧ K (numT (numR (nats ((rdL (hget h p)).drop (rdA (hget h p)))) 0 0)) h
  | _ => False
abbrev GW : List Nat := [0, 1, 3]
theorem nats_drop {l : List D} {i c : Nat} (hi : i < l.length) (hc : (l.getD i .nil).i = (c : Int)) : nats (l.drop i) = c :: nats (l.drop (i + 1)) := by
  rw [List.drop_eq_getElem_cons hi]
  simp only [nats, List.map_cons]
  congr 1
  have : l.getD i .nil = l[i] := by rw [List.getD_eq_getElem?_getD, List.getElem?_eq_getElem hi]; rfl
  rw [← this, hc]; rfl
set_option maxHeartbeats 4000000 in
theorem vNumber0 {E : Nat → Value} (hE : Errs2 Tryd.prog (some 94) E) : Valid Tryd.prog E (gs GW) 47 spNumber0 := by
  refine valid_go (W := WNumber0) hE allValid_bot irNumber0 (by decide) (fun args h nx K hsp hok hnm => ?_)
  unfold spNumber0 at hsp
  split at hsp
  · rename_i p
    obtain ⟨⟨l, a, e, hp, hal, hl9, hrng⟩, hK⟩ := hsp
    rw [hp, rdL_tok, rdA_tok] at hK
    rw [rdTok_def] at hp
    refine ⟨by simp [WNumber0, mkW, mkWE], fun Q hQ => ?_⟩
    have hpx := (hnm p _ hp).1
    simp only [icNumber0, frpL, go_frp, go_rgn, rgnK_def, goD_nil, goD_u, contD_some, goD_call, callD_clo, kD_app, goD_g, gD_T, gD_F, gD_U, gK_U, evI_true, evI_false, bareK_some, go_seq, go_ops, go_cond, go_block, go_skip, go_tr, trim_def, trim_nil, trim_cons, fget_nil, go_ret, go_exit, den_nil, den_seq, den_seq_ret, den_seq_ext, den_blk, den_blk_ret, den_blk_ext, den_lp, den_lp_ret, den_lp_ext, goO_nil, goO_u, noCall, contK_some, goO_slc, goO_mif, preF, preP, prePt, prePd, frzP, noSp, D.isNil, goO_nlq, nlqK_some, evNlq, goO_g, gK_T, gK_F, skipD_some, skipD_none, goO_call, goO_callf, frzK_def, callK_clo, kO_app, condK_ite, iteT, iteF, put_def, sput_def, ev, frOf, fget_cons, oget, ogets, argSs, argS, evMm, frzL, evBin, evWrp, evShf, evCmp, evUna, evNil, evBeq, evLd, evSt, evFad, evIad, evAad, evLen, evSln, evEls, evApp, evParts, evSlc, evNlc, evMif, evPck, evFld, evBld, evTas, evIfq, evSeq, evSl0, evBxf, evAgl, evAgq, evBsf, List.set_cons_zero, List.set_cons_succ, List.set_nil, List.flatten_cons, List.flatten_nil, List.getD_cons_zero, List.getD_cons_succ, List.contains_cons,  hget, hset, hdel, cellAt, arrAt, setCellAt, setArrAt, takeC, lenC, svCells, SV.okc, SV.one, ldSV, Fw.isAgg, Nat.reduceMul, Nat.reduceSub, Nat.reduceLeDiff, Nat.lt_irrefl, Nat.not_lt_zero, Nat.reduceLT, Nat.add_eq_left, Nat.left_eq_add, List.nil_append, List.length_cons, List.length_nil, List.append_nil, List.cons_append, Nat.zero_lt_one, Bool.false_eq_true, Bool.not_true, Bool.not_false, eq_self, Option.map_some, Option.map_none, true_imp_iff, false_imp_iff, implies_true, Bool.true_eq_false, explode, explodeL, toD, toDL, toD1, Ty.size, Ty.sizeL, frz1, Fr.sub, Heap.sub, Tok.sub, SV.sub, SV.subL, add_def, Nat.reduceEqDiff, Nat.reduceAdd, Nat.zero_add, reduceCtorEq, ↓reduceIte, and_self, and_true, true_and, reduceIte]
    refine go_loop (α := { x : Nat × Nat // x.1 ≤ 9 ∧ x.2 < 2 ^ (7 * x.1) ∧ a + x.1 ≤ l.length ∧ numR (nats (l.drop (a + x.1))) x.1 x.2 = numR (nats (l.drop a)) 0 0 }) (I := fun x => { f := [(5, .int .u64 (x.1.2 : Int)), (6, .int .i64 (x.1.1 : Int)), (0, .ptr p 0)], h := h, nx := nx }) (μ := fun x => 10 - x.1.1) _ _ _ ⟨(0, 0), by omega, by simp, by omega, rfl⟩ ?_ (fun x B hB => ?_)
    · refine leq_id ?_ ?_ (by ((try simp only []); repeat first | exact HLe.refl _ | refine HLe.cons (by simp only [hget, Nat.reduceEqDiff, Nat.left_eq_add, Nat.add_eq_left, reduceIte, ↓reduceIte] <;> rfl) ?_ | refine HLe.skip hnm (by omega) ?_ | refine HLe.frz hnm (by omega) ?_ | refine HLe.del hnm (by omega) ?_)) (by (repeat first | exact HLt.mono hnm (by simp only [] <;> omega) | refine HLt.cons (by simp only [] <;> omega) (by simp only [Tok.lt, SV.ltL, SV.lt, and_true, true_and] <;> omega) ?_)) (by simp only [] <;> omega)
      · simp only [frEq_cons, frEq_nil, frIn_cons, frIn_nil, and_true, fget_cons, Nat.reduceEqDiff, reduceIte, ↓reduceIte, true_and, SV.ren, SV.renL, ren1]
        simp
      · simp only [frLt_cons, frLt_nil, and_true, SV.lt, true_and]; exact hpx
    · obtain ⟨⟨i, z⟩, hi9, hz, hai, hnr⟩ := x
      simp only at hi9 hz hai hnr hB
      by_cases hend : a + i = l.length
      · have hr : numR (nats (l.drop a)) 0 0 = .fin := by
          rw [← hnr, hend, List.drop_length]; rfl
        rw [hr] at hK
        have hge : decide ((l.length : Int) ≤ (a : Int) + (i : Int)) = true := by rw [decide_eq_true_eq]; omega
        simp (maxSteps := 4000000) only [frpL, go_frp, go_rgn, rgnK_def, goD_nil, goD_u, contD_some, goD_call, callD_clo, kD_app, goD_g, gD_T, gD_F, gD_U, gK_U, evI_true, evI_false, bareK_some, go_seq, go_ops, go_cond, go_block, go_skip, go_tr, trim_def, trim_nil, trim_cons, fget_nil, go_ret, go_exit, den_nil, den_seq, den_seq_ret, den_seq_ext, den_blk, den_blk_ret, den_blk_ext, den_lp, den_lp_ret, den_lp_ext, goO_nil, goO_u, noCall, contK_some, goO_slc, goO_mif, preF, preP, prePt, prePd, frzP, noSp, D.isNil, goO_nlq, nlqK_some, evNlq, goO_g, gK_T, gK_F, skipD_some, skipD_none, goO_call, goO_callf, frzK_def, callK_clo, kO_app, condK_ite, iteT, iteF, put_def, sput_def, ev, frOf, fget_cons, oget, ogets, argSs, argS, evMm, frzL, evBin, evWrp, evShf, evCmp, evUna, evNil, evBeq, evLd, evSt, evFad, evIad, evAad, evLen, evSln, evEls, evApp, evParts, evSlc, evNlc, evMif, evPck, evFld, evBld, evTas, evIfq, evSeq, evSl0, evBxf, evAgl, evAgq, evBsf, List.set_cons_zero, List.set_cons_succ, List.set_nil, List.flatten_cons, List.flatten_nil, List.getD_cons_zero, List.getD_cons_succ, List.contains_cons,  hget, hset, hdel, cellAt, arrAt, setCellAt, setArrAt, takeC, lenC, svCells, SV.okc, SV.one, ldSV, Fw.isAgg, Nat.reduceMul, Nat.reduceSub, Nat.reduceLeDiff, Nat.lt_irrefl, Nat.not_lt_zero, Nat.reduceLT, Nat.add_eq_left, Nat.left_eq_add, List.nil_append, List.length_cons, List.length_nil, List.append_nil, List.cons_append, Nat.zero_lt_one, Bool.false_eq_true, Bool.not_true, Bool.not_false, eq_self, Option.map_some, Option.map_none, true_imp_iff, false_imp_iff, implies_true, Bool.true_eq_false, explode, explodeL, toD, toDL, toD1, Ty.size, Ty.sizeL, frz1, Fr.sub, Heap.sub, Tok.sub, SV.sub, SV.subL, add_def, Nat.reduceEqDiff, Nat.reduceAdd, Nat.zero_add, reduceCtorEq, ↓reduceIte, and_self, and_true, true_and, reduceIte, hp, list_l, hge]
        refine ⟨⟨by rw [min_i64]; omega, by rw [max_i64]; omega⟩, (hQ _ (fin_t3 (.int .i64 0) (.int .i64 0) (.dat .iface (.err 1)) rfl rfl rfl rfl rfl rfl hnm (by ((try simp only []); repeat first | exact HLe.refl _ | refine HLe.cons (by simp only [hget, Nat.reduceEqDiff, Nat.left_eq_add, Nat.add_eq_left, reduceIte, ↓reduceIte] <;> rfl) ?_ | refine HLe.skip hnm (by omega) ?_ | refine HLe.frz hnm (by omega) ?_ | refine HLe.del hnm (by omega) ?_)) hK)).1⟩
      · have hlt : a + i < l.length := by omega
        obtain ⟨r0, r1⟩ := hrng (a + i) hlt
        obtain ⟨c, hc⟩ := Int.eq_ofNat_of_zero_le r0
        have hc256 : c < 256 := by omega
        have hidx : ((a : Int) + (i : Int)).toNat = a + i := by omega
        have hge : decide ((l.length : Int) ≤ (a : Int) + (i : Int)) = false := by rw [decide_eq_false_iff_not]; omega
        rw [nats_drop hlt hc] at hnr
        simp only [numR] at hnr
        simp (maxSteps := 4000000) only [frpL, go_frp, go_rgn, rgnK_def, goD_nil, goD_u, contD_some, goD_call, callD_clo, kD_app, goD_g, gD_T, gD_F, gD_U, gK_U, evI_true, evI_false, bareK_some, go_seq, go_ops, go_cond, go_block, go_skip, go_tr, trim_def, trim_nil, trim_cons, fget_nil, go_ret, go_exit, den_nil, den_seq, den_seq_ret, den_seq_ext, den_blk, den_blk_ret, den_blk_ext, den_lp, den_lp_ret, den_lp_ext, goO_nil, goO_u, noCall, contK_some, goO_slc, goO_mif, preF, preP, prePt, prePd, frzP, noSp, D.isNil, goO_nlq, nlqK_some, evNlq, goO_g, gK_T, gK_F, skipD_some, skipD_none, goO_call, goO_callf, frzK_def, callK_clo, kO_app, condK_ite, iteT, iteF, put_def, sput_def, ev, frOf, fget_cons, oget, ogets, argSs, argS, evMm, frzL, evBin, evWrp, evShf, evCmp, evUna, evNil, evBeq, evLd, evSt, evFad, evIad, evAad, evLen, evSln, evEls, evApp, evParts, evSlc, evNlc, evMif, evPck, evFld, evBld, evTas, evIfq, evSeq, evSl0, evBxf, evAgl, evAgq, evBsf, List.set_cons_zero, List.set_cons_succ, List.set_nil, List.flatten_cons, List.flatten_nil, List.getD_cons_zero, List.getD_cons_succ, List.contains_cons,  hget, hset, hdel, cellAt, arrAt, setCellAt, setArrAt, takeC, lenC, svCells, SV.okc, SV.one, ldSV, Fw.isAgg, Nat.reduceMul, Nat.reduceSub, Nat.reduceLeDiff, Nat.lt_irrefl, Nat.not_lt_zero, Nat.reduceLT, Nat.add_eq_left, Nat.left_eq_add, List.nil_append, List.length_cons, List.length_nil, List.append_nil, List.cons_append, Nat.zero_lt_one, Bool.false_eq_true, Bool.not_true, Bool.not_false, eq_self, Option.map_some, Option.map_none, true_imp_iff, false_imp_iff, implies_true, Bool.true_eq_false, explode, explodeL, toD, toDL, toD1, Ty.size, Ty.sizeL, frz1, Fr.sub, Heap.sub, Tok.sub, SV.sub, SV.subL, add_def, Nat.reduceEqDiff, Nat.reduceAdd, Nat.zero_add, reduceCtorEq, ↓reduceIte, and_self, and_true, true_and, reduceIte, hp, list_l, hge, hidx, hc]
        obtain ⟨hn7a, hn7b, hn7c⟩ : (7 * (i : Int)) ≤ 63 ∧ 0 ≤ (7 * (i : Int)) ∧ (i : Int) ≤ 9 := ⟨by omega, by omega, by omega⟩
        refine ⟨⟨by rw [min_i64]; omega, by rw [max_i64]; omega⟩, ⟨by rw [min_i64]; omega, by rw [max_i64]; omega⟩, ⟨by omega, by omega⟩, fun h9 => ⟨fun hc1 => ?_, fun hc1 => ?_⟩, fun h9 => ?_⟩
        · have h9' : i = 9 := by have := beq_iff_eq.1 h9; omega
          have hc1' : 1 < c := by have := of_decide_eq_true hc1; omega
          rw [if_pos ⟨h9', hc1'⟩] at hnr
          rw [← hnr] at hK
          exact (hQ _ (fin_t3 (.int .i64 0) (.int .i64 0) (.dat .iface (.err 3)) rfl rfl rfl rfl rfl rfl hnm (by ((try simp only []); repeat first | exact HLe.refl _ | refine HLe.cons (by simp only [hget, Nat.reduceEqDiff, Nat.left_eq_add, Nat.add_eq_left, reduceIte, ↓reduceIte] <;> rfl) ?_ | refine HLe.skip hnm (by omega) ?_ | refine HLe.frz hnm (by omega) ?_ | refine HLe.del hnm (by omega) ?_)) hK)).1
        all_goals
          have h91 : i = 9 → c ≤ 1 := by
            intro e9
            first
              | (have := of_decide_eq_false hc1; omega)
              | (exfalso; subst e9; simp at h9)
          obtain ⟨gc, gz, gb⟩ := gather_code (z := z) (c := c) hi9 hc256 h91 hz
          rw [if_neg (by rintro ⟨e1, e2⟩; have := h91 e1; omega)] at hnr
          refine ⟨⟨by rw [min_i64]; omega, by rw [max_i64]; omega⟩, by omega, fun h128 => ?_, fun h128 => ?_⟩
          · have h128' : 128 ≤ c := by have := of_decide_eq_true h128; omega
            have hi8 : i ≠ 9 := by intro e; have := h91 e; omega
            rw [if_pos h128'] at hnr
            refine ⟨⟨by rw [min_i64]; omega, by rw [max_i64]; omega⟩, hB _ ⟨(i + 1, z + c % 128 * 2 ^ (7 * i)), by simp only []; omega, gz, by simp only []; omega, by simp only []; rw [← hnr]; rfl⟩ (by simp only []; omega) ?_⟩
            refine leq_id ?_ ?_ (by ((try simp only []); repeat first | exact HLe.refl _ | refine HLe.cons (by simp only [hget, Nat.reduceEqDiff, Nat.left_eq_add, Nat.add_eq_left, reduceIte, ↓reduceIte] <;> rfl) ?_ | refine HLe.skip hnm (by omega) ?_ | refine HLe.frz hnm (by omega) ?_ | refine HLe.del hnm (by omega) ?_)) (by (repeat first | exact HLt.mono hnm (by simp only [] <;> omega) | refine HLt.cons (by simp only [] <;> omega) (by simp only [Tok.lt, SV.ltL, SV.lt, and_true, true_and] <;> omega) ?_)) (by simp only [] <;> omega)
            · simp only [frEq_cons, frEq_nil, frIn_cons, frIn_nil, and_true, fget_cons, Nat.reduceEqDiff, reduceIte, ↓reduceIte, true_and, SV.ren, SV.renL, ren1]
              rw [gc]
              simp
            · simp only [frLt_cons, frLt_nil, and_true, SV.lt, true_and]; exact hpx
          · have h128' : ¬ 128 ≤ c := by have := of_decide_eq_false h128; omega
            rw [if_neg h128'] at hnr
            have fin : ¬ (c = 0 ∧ 0 < i) → K (.tup [.int .i64 (zag (z + c % 128 * 2 ^ (7 * i))), .int .i64 ((i : Int) + 1), .dat .iface .nil]) h := by
              intro hno
              rw [if_neg hno] at hnr
              rw [← hnr] at hK
              exact hK
            refine ⟨fun h0 => ⟨fun hi0 => ?_, fun hi0 => ?_⟩, fun h0 => ?_⟩
            · have c0 : c = 0 := by have := beq_iff_eq.1 h0; omega
              have i0 : 0 < i := by have := of_decide_eq_true hi0; omega
              rw [if_pos ⟨c0, i0⟩] at hnr
              rw [← hnr] at hK
              exact (hQ _ (fin_t3 (.int .i64 0) (.int .i64 0) (.dat .iface (.err 3)) rfl rfl rfl rfl rfl rfl hnm (by ((try simp only []); repeat first | exact HLe.refl _ | refine HLe.cons (by simp only [hget, Nat.reduceEqDiff, Nat.left_eq_add, Nat.add_eq_left, reduceIte, ↓reduceIte] <;> rfl) ?_ | refine HLe.skip hnm (by omega) ?_ | refine HLe.frz hnm (by omega) ?_ | refine HLe.del hnm (by omega) ?_)) hK)).1
            · have i0 : ¬ 0 < i := by have := of_decide_eq_false hi0; omega
              rw [gc, zag_code gb]
              exact ⟨by omega, ⟨by rw [min_i64]; omega, by rw [max_i64]; omega⟩, (hQ _ (fin_t3 (.int .i64 (zag (z + c % 128 * 2 ^ (7 * i)))) (.int .i64 ((i : Int) + 1)) (.dat .iface .nil) rfl rfl rfl rfl rfl rfl hnm (by ((try simp only []); repeat first | exact HLe.refl _ | refine HLe.cons (by simp only [hget, Nat.reduceEqDiff, Nat.left_eq_add, Nat.add_eq_left, reduceIte, ↓reduceIte] <;> rfl) ?_ | refine HLe.skip hnm (by omega) ?_ | refine HLe.frz hnm (by omega) ?_ | refine HLe.del hnm (by omega) ?_)) (fin (fun h => i0 h.2)))).1⟩
            · have c0 : ¬ c = 0 := by intro e; subst e; simp at h0
              rw [gc, zag_code gb]
              exact ⟨by omega, ⟨by rw [min_i64]; omega, by rw [max_i64]; omega⟩, (hQ _ (fin_t3 (.int .i64 (zag (z + c % 128 * 2 ^ (7 * i)))) (.int .i64 ((i : Int) + 1)) (.dat .iface .nil) rfl rfl rfl rfl rfl rfl hnm (by ((try simp only []); repeat first | exact HLe.refl _ | refine HLe.cons (by simp only [hget, Nat.reduceEqDiff, Nat.left_eq_add, Nat.add_eq_left, reduceIte, ↓reduceIte] <;> rfl) ?_ | refine HLe.skip hnm (by omega) ?_ | refine HLe.frz hnm (by omega) ?_ | refine HLe.del hnm (by omega) ?_)) (fin (fun h => c0 h.1)))).1⟩
  · exact hsp.elim
end Go.Proofs.YthkpajefghmnaaaDoor
