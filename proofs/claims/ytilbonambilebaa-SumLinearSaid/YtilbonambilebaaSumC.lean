/- Chapter 1's laws: what they come to: true. -/
import Derived.Test.YtilbonambilebaaSumB
namespace Go.Proofs.Ytilbonambilebaa
set_option linter.unusedVariables false
set_option linter.unusedSimpArgs false
open Go Go.Fw Go.Crc

theorem Γ1 {E : Nat → Value} (hE : Errs E) : AllValid Try.prog E G0 (add (add (add (add (add bot 9 spAdd) 7 spOf) 6 spFirst) 10 spBytes) 8 spNumber) :=
  ((((allValid_bot.add (vAdd hE)).add (vOf hE)).add (vFirst hE)).add (vBytes hE)).add (vNumber hE)

def WSumSteps : Opts := mkW 68 [] [] []
def icSumSteps : IC := (.seq (.ops [(.u (.mov 6 (.c (.bool false))))]) (.seq (.ops [(.u (.call 12 6 [] [] true)), (.u (.mov 7 (.s 12)))]) (.seq (.seq (.ops [(.u (.mov 13 (.s 7))), (.u (.una 14 .not (.s 13)))]) (.cond (.s 14) (.seq (.ops [(.u (.mov 6 (.c (.bool false))))]) .ret) .skip)) (.seq (.seq (.ops [(.u (.mov 15 (.s 0))), (.u (.len 16 false (.s 15))), (.u (.cmp 17 .gtr (.s 16) (.c (.int .i64 200)))), (.u (.mov 18 (.s 17))), (.g 18 false (some 19) (.mov 19 (.s 0))), (.g 18 false (some 20) (.len 20 false (.s 19))), (.g 18 false (some 21) (.cmp 21 .eql (.s 20) (.c (.int .i64 0)))), (.u (.pck 22 (.s 18) (.c (.bool true)) (.s 21))), (.u (.mov 23 (.s 22))), (.g 23 false (some 24) (.mov 24 (.s 7))), (.g 23 false (some 25) (.una 25 .not (.s 24))), (.u (.pck 26 (.s 23) (.c (.bool true)) (.s 25)))]) (.cond (.s 26) (.seq (.ops [(.u (.mov 27 (.s 7))), (.u (.mov 6 (.s 27)))]) .ret) .skip)) (.seq (.ops [(.u (.call 28 7 [(.c .nils)] [(some 5)] true)), (.u (.mov 8 (.s 28)))]) (.seq (.seq (.ops [(.u (.mov 9 (.c (.int .i64 0))))]) (.block 0 (.loop (.seq (.seq (.ops [(.u (.mov 29 (.s 9))), (.u (.mov 30 (.s 0))), (.u (.len 31 false (.s 30))), (.u (.cmp 32 .lss (.s 29) (.s 31)))]) (.cond (.s 32) .skip (.exit 0))) (.seq (.block 1 (.ops [(.u (.mov 35 (.s 8))), (.u (.mov 36 (.s 0))), (.u (.mov 37 (.s 9))), (.u (.mov 38 (.s 9))), (.u (.bin 39 .add .i64 (.s 38) (.c (.int .i64 1)))), (.u (.slc 40 5 (.s 36) (some (.s 37)) (some (.s 39)))), (.u (.call 41 9 [(.s 35), (.s 40)] [none, (some 5)] true)), (.u (.mov 8 (.s 41)))])) (.ops [(.u (.mov 33 (.s 9))), (.u (.bin 34 .add .i64 (.s 33) (.c (.int .i64 1)))), (.u (.mov 9 (.s 34)))])))))) (.seq (.ops [(.u (.mov 42 (.s 0))), (.u (.call 43 10 [(.s 42)] [(some 5)] true)), (.u (.mov 10 (.s 43)))]) (.seq (.ops [(.u (.mov 44 (.s 1))), (.u (.mov 45 (.s 10))), (.u (.len 46 false (.s 45))), (.u (.call 47 8 [(.s 44), (.s 46)] [none, none] true)), (.u (.mov 11 (.s 47)))]) (.seq (.ops [(.u (.mov 48 (.s 10))), (.u (.mov 49 (.s 11))), (.u (.iad 50 5 (.int .u8) (.s 48) (.s 49))), (.u (.ld 51 (.int .u8) (.s 50))), (.u (.mov 52 (.s 2))), (.u (.bin 53 .xor .u8 (.s 51) (.s 52))), (.u (.iad 54 5 (.int .u8) (.s 48) (.s 49))), (.u (.st (.int .u8) (.s 54) (.s 53)))]) (.seq (.ops [(.u (.mov 55 (.s 8))), (.u (.mov 56 (.s 0))), (.u (.call 57 7 [(.s 56)] [(some 5)] true)), (.u (.cmp 58 .eql (.s 55) (.s 57))), (.u (.mov 59 (.s 58))), (.g 59 true (some 60) (.mov 60 (.s 10))), (.g 59 true (some 61) (.call 61 7 [(.s 60)] [(some 5)] true)), (.g 59 true (some 62) (.mov 62 (.s 8))), (.g 59 true (some 63) (.cmp 63 .eql (.s 61) (.s 62))), (.g 59 true (some 64) (.mov 64 (.s 2))), (.g 59 true (some 65) (.cmp 65 .eql (.s 64) (.c (.int .u8 0)))), (.g 59 true (some 66) (.beq 66 false (.s 63) (.s 65))), (.u (.pck 67 (.s 59) (.s 66) (.c (.bool false)))), (.u (.mov 6 (.s 67)))]) .ret))))))))))
def rsSumSteps : List RV := [(.t 6)]
theorem irSumSteps : fnIR Try.prog WSumSteps 5 = some (icSumSteps, rsSumSteps) := by kernel_rfl
def spSumSteps : FSpec := fun args h nx K => match args with
  | [.dat (.slice 5) _, .int .i64 _, .int .u8 _] => K (.bool true) h
  | _ => False
set_option maxHeartbeats 1000000 in
theorem vSumSteps {E : Nat → Value} (hE : Errs E) : Valid Try.prog E G0 5 spSumSteps := by
  refine valid_go (W := WSumSteps) hE (Γ1 hE) irSumSteps (by decide) (fun args h nx K hsp hok hnm => ?_)
  unfold spSumSteps at hsp
  split at hsp
  · rename_i d at_ by_
    refine ⟨by simp [WSumSteps, mkW], fun Q hQ => ?_⟩
    obtain ⟨hd, hat, hby, _⟩ := hok
    simp only [SV.ok] at hd hat hby
    simp only [min_u8, max_u8] at hby
    obtain ⟨hd1, hd2, hd3⟩ := Wt.slice hd
    generalize d.l = l at hd1 hd2 hd3
    subst hd1
    have hml : maxLen ≤ 9223372036854775807 := by decide
    simp only [icSumSteps, go_rgn, rgnK_def, goD_nil, goD_u, contD_some, goD_call, callD_def, goD_g, gD_bool, evI_true, evI_false, bareK_some, go_seq, go_ops, go_cond, go_block, go_skip, go_ret, go_exit, den_nil, den_seq, den_seq_ret, den_seq_ext, den_blk, den_blk_ret, den_blk_ext, den_lp, den_lp_ret, den_lp_ext, goO_nil, goO_u, noCall, contK_some, goO_g, gK_bool, skipD_some, skipD_none, goO_call, goO_callf, frzK_def, callK_def, condK_bool, put_def, sput_def, ev, frOf, fget_cons, oget, ogets, argSs, argS, evMm, frzL, evBin, evWrp, evShf, evCmp, evUna, evNil, evBeq, evLd, evSt, evFad, evIad, evAad, evLen, evSln, evEls, evApp, evParts, evSlc, evNlc, evMif, evPck, hget, hset, hdel, cellAt, arrAt, setCellAt, setArrAt, takeC, lenC, svCells, SV.okc, SV.one, ldSV, Fw.isAgg, Nat.reduceMul, Nat.reduceSub, Nat.reduceLeDiff, Nat.lt_irrefl, Nat.not_lt_zero, Nat.reduceLT, Nat.add_eq_left, Nat.left_eq_add, List.nil_append, List.length_cons, List.length_nil, List.append_nil, List.cons_append, Nat.zero_lt_one, Bool.false_eq_true, Bool.not_true, Bool.not_false, eq_self, Option.map_some, Option.map_none, true_imp_iff, false_imp_iff, implies_true, Bool.true_eq_false, explode, explodeL, toD, toDL, toD1, Ty.size, Ty.sizeL, frz1, Fr.sub, Heap.sub, Tok.sub, SV.sub, SV.subL, add_def, Nat.reduceEqDiff, Nat.reduceAdd, Nat.zero_add, reduceCtorEq, ↓reduceIte, and_self, and_true, true_and, reduceIte, spFirst, spOf, spAdd, spNumber, spBytes, list_l]
    refine ⟨fun hc1 => ⟨fun hc2 => ?_, fun _ => (hQ _ (fin_t (.bool true) rfl rfl hnm (by (repeat first | exact HLe.refl _ | refine HLe.cons (by simp only [hget, Nat.reduceEqDiff, reduceIte, ↓reduceIte] <;> rfl) ?_ | refine HLe.skip hnm (by omega) ?_ | refine HLe.frz hnm (by omega) ?_ | refine HLe.del hnm (by omega) ?_)) hsp)).1⟩, fun _ => (hQ _ (fin_t (.bool true) rfl rfl hnm (by (repeat first | exact HLe.refl _ | refine HLe.cons (by simp only [hget, Nat.reduceEqDiff, reduceIte, ↓reduceIte] <;> rfl) ?_ | refine HLe.skip hnm (by omega) ?_ | refine HLe.frz hnm (by omega) ?_ | refine HLe.del hnm (by omega) ?_)) hsp)).1⟩
    have hlen : l.length ≤ 200 := by have := of_decide_eq_false hc1; omega
    have hpos : 0 < l.length := by simp at hc2; cases l with | nil => simp at hc2 | cons => simp
    refine go_loop (α := { i : Nat // i ≤ l.length }) (I := fun i => { f := [(9, .int .i64 i.1), (8, .int .u32 (toI (Crc.add 0#32 (l.take i.1)))), (0, .dat (.slice 5) (.list l)), (1, .int .i64 at_), (2, .int .u8 by_)], h := h, nx := nx + 128 }) (μ := fun i => l.length - i.1) _ _ _ ⟨0, by omega⟩ ?_ (fun i B hB => ?_)
    · refine leq_id ?_ (by (simp only [frLt_cons, frLt_nil, and_true, SV.lt, SV.ltL, true_and] <;> omega)) (by (repeat first | exact HLe.refl _ | refine HLe.cons (by simp only [hget, Nat.reduceEqDiff, reduceIte, ↓reduceIte] <;> rfl) ?_ | refine HLe.skip hnm (by omega) ?_ | refine HLe.frz hnm (by omega) ?_ | refine HLe.del hnm (by omega) ?_)) (by (repeat first | exact HLt.mono hnm (by simp only [] <;> omega) | refine HLt.cons (by simp only [] <;> omega) (by simp only [Tok.lt, SV.ltL, SV.lt, and_true, true_and] <;> omega) ?_)) (by simp only [] <;> omega)
      simp only [frEq_cons, frEq_nil, frIn_cons, frIn_nil, and_true, fget_cons, Nat.reduceEqDiff, reduceIte, ↓reduceIte, true_and, SV.ren, SV.renL, ren1]
      exact ⟨rfl, rfl⟩
    · obtain ⟨i, hi⟩ := i
      simp only [go_rgn, rgnK_def, goD_nil, goD_u, contD_some, goD_call, callD_def, goD_g, gD_bool, evI_true, evI_false, bareK_some, go_seq, go_ops, go_cond, go_block, go_skip, go_ret, go_exit, den_nil, den_seq, den_seq_ret, den_seq_ext, den_blk, den_blk_ret, den_blk_ext, den_lp, den_lp_ret, den_lp_ext, goO_nil, goO_u, noCall, contK_some, goO_g, gK_bool, skipD_some, skipD_none, goO_call, goO_callf, frzK_def, callK_def, condK_bool, put_def, sput_def, ev, frOf, fget_cons, oget, ogets, argSs, argS, evMm, frzL, evBin, evWrp, evShf, evCmp, evUna, evNil, evBeq, evLd, evSt, evFad, evIad, evAad, evLen, evSln, evEls, evApp, evParts, evSlc, evNlc, evMif, evPck, hget, hset, hdel, cellAt, arrAt, setCellAt, setArrAt, takeC, lenC, svCells, SV.okc, SV.one, ldSV, Fw.isAgg, Nat.reduceMul, Nat.reduceSub, Nat.reduceLeDiff, Nat.lt_irrefl, Nat.not_lt_zero, Nat.reduceLT, Nat.add_eq_left, Nat.left_eq_add, List.nil_append, List.length_cons, List.length_nil, List.append_nil, List.cons_append, Nat.zero_lt_one, Bool.false_eq_true, Bool.not_true, Bool.not_false, eq_self, Option.map_some, Option.map_none, true_imp_iff, false_imp_iff, implies_true, Bool.true_eq_false, explode, explodeL, toD, toDL, toD1, Ty.size, Ty.sizeL, frz1, Fr.sub, Heap.sub, Tok.sub, SV.sub, SV.subL, add_def, Nat.reduceEqDiff, Nat.reduceAdd, Nat.zero_add, reduceCtorEq, ↓reduceIte, and_self, and_true, true_and, reduceIte, spFirst, spOf, spAdd, spNumber, spBytes, list_l]
      refine ⟨fun hc => ?_, fun hc => ?_⟩
      · have hi' : i < l.length := by have := of_decide_eq_true hc; omega
        refine ⟨⟨by rw [min_i64]; omega, by rw [max_i64]; omega⟩, ⟨by omega, by omega, by omega⟩, ⟨by rw [min_i64]; omega, by rw [max_i64]; omega⟩, hB _ ⟨i + 1, by omega⟩ (by simp only []; omega) ?_⟩
        have e1 : (Int.toNat ((i : Int) + 1)) = i + 1 := by omega
        have e2 : Crc.add (Crc.add 0#32 (l.take i)) ((l.take (i + 1)).drop i) = Crc.add 0#32 (l.take (i + 1)) := by
          rw [add_app]
          congr 1
          conv => rhs; rw [← List.take_append_drop i (l.take (i + 1))]
          rw [List.take_take, Nat.min_eq_left (by omega)]
        rw [ofI_toI, Int.toNat_natCast, e1, e2]
        refine leq_id ?_ (by (simp only [frLt_cons, frLt_nil, and_true, SV.lt, SV.ltL, true_and] <;> omega)) (by (repeat first | exact HLe.refl _ | refine HLe.cons (by simp only [hget, Nat.reduceEqDiff, reduceIte, ↓reduceIte] <;> rfl) ?_ | refine HLe.skip hnm (by omega) ?_ | refine HLe.frz hnm (by omega) ?_ | refine HLe.del hnm (by omega) ?_)) (by (repeat first | exact HLt.mono hnm (by simp only [] <;> omega) | refine HLt.cons (by simp only [] <;> omega) (by simp only [Tok.lt, SV.ltL, SV.lt, and_true, true_and] <;> omega) ?_)) (by simp only [] <;> omega)
        simp only [frEq_cons, frEq_nil, frIn_cons, frIn_nil, and_true, fget_cons, Nat.reduceEqDiff, reduceIte, ↓reduceIte, true_and, SV.ren, SV.renL, ren1]
        simp
      · have e : i = l.length := by have := of_decide_eq_false hc; omega
        subst e
        have hk0 : 0 ≤ at_ % (l.length : Int) := Int.emod_nonneg _ (by omega)
        have hk1 : at_ % (l.length : Int) < l.length := Int.emod_lt_of_pos _ (by omega)
        have hk : (at_ % (l.length : Int)).toNat < l.length := by omega
        have hx : l.getD (at_ % (l.length : Int)).toNat .nil = l[(at_ % (l.length : Int)).toNat] := by rw [List.getD_eq_getElem?_getD, List.getElem?_eq_getElem hk]; rfl
        have hr : 0 ≤ (l.getD (at_ % (l.length : Int)).toNat .nil).i ∧ (l.getD (at_ % (l.length : Int)).toNat .nil).i ≤ 255 := by
          rw [hx]
          have := (hd3 _ (List.getElem_mem hk)).int.2
          rwa [min_u8, max_u8] at this
        have law := steps_law hk hr hby
        refine ⟨by omega, by omega, ⟨hk0, hk1⟩, ⟨hk0, hk1⟩, ⟨hk0, hk1⟩, ⟨hk0, hk1⟩, fun _ => ?_, fun hc => ?_⟩
        · refine (hQ _ (fin_t (.bool true) ?_ rfl hnm (by (repeat first | exact HLe.refl _ | refine HLe.cons (by simp only [hget, Nat.reduceEqDiff, reduceIte, ↓reduceIte] <;> rfl) ?_ | refine HLe.skip hnm (by omega) ?_ | refine HLe.frz hnm (by omega) ?_ | refine HLe.del hnm (by omega) ?_)) hsp)).1
          simp only [fget_cons, reduceIte, ↓reduceIte, Nat.reduceEqDiff, List.take_length]
          rw [law]
        · rw [List.take_length] at hc
          simp at hc
  · exact hsp.elim

def WSumParts : Opts := mkW 58 [] [] []
def icSumParts : IC := (.seq (.ops [(.u (.mov 4 (.c (.bool false))))]) (.seq (.ops [(.u (.call 10 6 [] [] true)), (.u (.mov 5 (.s 10)))]) (.seq (.seq (.ops [(.u (.mov 11 (.s 5))), (.u (.una 12 .not (.s 11)))]) (.cond (.s 12) (.seq (.ops [(.u (.mov 4 (.c (.bool false))))]) .ret) .skip)) (.seq (.seq (.ops [(.u (.mov 13 (.s 0))), (.u (.len 14 false (.s 13))), (.u (.cmp 15 .gtr (.s 14) (.c (.int .i64 500)))), (.u (.mov 16 (.s 15))), (.g 16 false (some 17) (.mov 17 (.s 1))), (.g 16 false (some 18) (.len 18 false (.s 17))), (.g 16 false (some 19) (.cmp 19 .gtr (.s 18) (.c (.int .i64 20)))), (.u (.pck 20 (.s 16) (.c (.bool true)) (.s 19))), (.u (.mov 21 (.s 20))), (.g 21 false (some 22) (.mov 22 (.s 5))), (.g 21 false (some 23) (.una 23 .not (.s 22))), (.u (.pck 24 (.s 21) (.c (.bool true)) (.s 23)))]) (.cond (.s 24) (.seq (.ops [(.u (.mov 25 (.s 5))), (.u (.mov 4 (.s 25)))]) .ret) .skip)) (.seq (.ops [(.u (.call 26 7 [(.c .nils)] [(some 5)] true)), (.u (.mov 6 (.s 26)))]) (.seq (.ops [(.u (.mov 7 (.c (.int .i64 0))))]) (.seq (.seq (.ops [(.u (.mov 8 (.c (.int .i64 0))))]) (.block 0 (.loop (.seq (.seq (.ops [(.u (.mov 27 (.s 8))), (.u (.mov 28 (.s 1))), (.u (.len 29 false (.s 28))), (.u (.cmp 30 .lss (.s 27) (.s 29)))]) (.cond (.s 30) .skip (.exit 0))) (.seq (.block 1 (.seq (.ops [(.u (.mov 33 (.s 0))), (.u (.len 34 false (.s 33))), (.u (.mov 35 (.s 7))), (.u (.mov 36 (.s 1))), (.u (.mov 37 (.s 8))), (.u (.iad 38 3 (.int .i64) (.s 36) (.s 37))), (.u (.ld 39 (.int .i64) (.s 38))), (.u (.call 40 8 [(.s 39), (.c (.int .i64 60))] [none, none] true)), (.u (.bin 41 .add .i64 (.s 35) (.s 40))), (.u (.mmx 42 false [(.s 34), (.s 41)])), (.u (.mov 9 (.s 42)))]) (.seq (.ops [(.u (.mov 43 (.s 6))), (.u (.mov 44 (.s 0))), (.u (.mov 45 (.s 7))), (.u (.mov 46 (.s 9))), (.u (.slc 47 5 (.s 44) (some (.s 45)) (some (.s 46)))), (.u (.call 48 9 [(.s 43), (.s 47)] [none, (some 5)] true)), (.u (.mov 6 (.s 48)))]) (.ops [(.u (.mov 49 (.s 9))), (.u (.mov 7 (.s 49)))])))) (.ops [(.u (.mov 31 (.s 8))), (.u (.bin 32 .add .i64 (.s 31) (.c (.int .i64 1)))), (.u (.mov 8 (.s 32)))])))))) (.seq (.ops [(.u (.mov 50 (.s 6))), (.u (.mov 51 (.s 0))), (.u (.mov 52 (.s 7))), (.u (.slc 53 5 (.s 51) (some (.s 52)) none)), (.u (.call 54 9 [(.s 50), (.s 53)] [none, (some 5)] true)), (.u (.mov 55 (.s 0))), (.u (.call 56 7 [(.s 55)] [(some 5)] true)), (.u (.cmp 57 .eql (.s 54) (.s 56))), (.u (.mov 4 (.s 57)))]) .ret))))))))
def rsSumParts : List RV := [(.t 4)]
theorem irSumParts : fnIR Try.prog WSumParts 3 = some (icSumParts, rsSumParts) := by kernel_rfl
def spSumParts : FSpec := fun args h nx K => match args with
  | [.dat (.slice 5) _, .dat (.slice 3) _] => K (.bool true) h
  | _ => False
set_option maxHeartbeats 1000000 in
theorem vSumParts {E : Nat → Value} (hE : Errs E) : Valid Try.prog E G0 3 spSumParts := by
  refine valid_go (W := WSumParts) hE (Γ1 hE) irSumParts (by decide) (fun args h nx K hsp hok hnm => ?_)
  unfold spSumParts at hsp
  split at hsp
  · rename_i d cs
    refine ⟨by simp [WSumParts, mkW], fun Q hQ => ?_⟩
    obtain ⟨hd, hcs, _⟩ := hok
    simp only [SV.ok] at hd hcs
    obtain ⟨hd1, hd2, hd3⟩ := Wt.slice hd
    obtain ⟨hcs1, hcs2, hcs3⟩ := Wt.slice hcs
    generalize d.l = l at hd1 hd2 hd3
    generalize cs.l = cuts at hcs1 hcs2 hcs3
    subst hd1 hcs1
    have hml : maxLen ≤ 9223372036854775807 := by decide
    simp only [icSumParts, go_rgn, rgnK_def, goD_nil, goD_u, contD_some, goD_call, callD_def, goD_g, gD_bool, evI_true, evI_false, bareK_some, go_seq, go_ops, go_cond, go_block, go_skip, go_ret, go_exit, den_nil, den_seq, den_seq_ret, den_seq_ext, den_blk, den_blk_ret, den_blk_ext, den_lp, den_lp_ret, den_lp_ext, goO_nil, goO_u, noCall, contK_some, goO_g, gK_bool, skipD_some, skipD_none, goO_call, goO_callf, frzK_def, callK_def, condK_bool, put_def, sput_def, ev, frOf, fget_cons, oget, ogets, argSs, argS, evMm, frzL, evBin, evWrp, evShf, evCmp, evUna, evNil, evBeq, evLd, evSt, evFad, evIad, evAad, evLen, evSln, evEls, evApp, evParts, evSlc, evNlc, evMif, evPck, hget, hset, hdel, cellAt, arrAt, setCellAt, setArrAt, takeC, lenC, svCells, SV.okc, SV.one, ldSV, Fw.isAgg, Nat.reduceMul, Nat.reduceSub, Nat.reduceLeDiff, Nat.lt_irrefl, Nat.not_lt_zero, Nat.reduceLT, Nat.add_eq_left, Nat.left_eq_add, List.nil_append, List.length_cons, List.length_nil, List.append_nil, List.cons_append, Nat.zero_lt_one, Bool.false_eq_true, Bool.not_true, Bool.not_false, eq_self, Option.map_some, Option.map_none, true_imp_iff, false_imp_iff, implies_true, Bool.true_eq_false, explode, explodeL, toD, toDL, toD1, Ty.size, Ty.sizeL, frz1, Fr.sub, Heap.sub, Tok.sub, SV.sub, SV.subL, add_def, Nat.reduceEqDiff, Nat.reduceAdd, Nat.zero_add, reduceCtorEq, ↓reduceIte, and_self, and_true, true_and, reduceIte, spFirst, spOf, spAdd, spNumber, spBytes, list_l]
    refine ⟨fun hc1 => ⟨fun hc2 => ?_, fun _ => (hQ _ (fin_t (.bool true) rfl rfl hnm (by (repeat first | exact HLe.refl _ | refine HLe.cons (by simp only [hget, Nat.reduceEqDiff, reduceIte, ↓reduceIte] <;> rfl) ?_ | refine HLe.skip hnm (by omega) ?_ | refine HLe.frz hnm (by omega) ?_ | refine HLe.del hnm (by omega) ?_)) hsp)).1⟩, fun _ => (hQ _ (fin_t (.bool true) rfl rfl hnm (by (repeat first | exact HLe.refl _ | refine HLe.cons (by simp only [hget, Nat.reduceEqDiff, reduceIte, ↓reduceIte] <;> rfl) ?_ | refine HLe.skip hnm (by omega) ?_ | refine HLe.frz hnm (by omega) ?_ | refine HLe.del hnm (by omega) ?_)) hsp)).1⟩
    have hlen : l.length ≤ 500 := by have := of_decide_eq_false hc1; omega
    refine go_loop (α := { x : Nat × Nat // x.1 ≤ cuts.length ∧ x.2 ≤ l.length }) (I := fun x => { f := [(8, .int .i64 x.1.1), (7, .int .i64 x.1.2), (6, .int .u32 (toI (Crc.add 0#32 (l.take x.1.2)))), (0, .dat (.slice 5) (.list l)), (1, .dat (.slice 3) (.list cuts))], h := h, nx := nx + 128 }) (μ := fun x => cuts.length - x.1.1) _ _ _ ⟨(0, 0), by omega, by omega⟩ ?_ (fun x B hB => ?_)
    · refine leq_id ?_ (by (simp only [frLt_cons, frLt_nil, and_true, SV.lt, SV.ltL, true_and] <;> omega)) (by (repeat first | exact HLe.refl _ | refine HLe.cons (by simp only [hget, Nat.reduceEqDiff, reduceIte, ↓reduceIte] <;> rfl) ?_ | refine HLe.skip hnm (by omega) ?_ | refine HLe.frz hnm (by omega) ?_ | refine HLe.del hnm (by omega) ?_)) (by (repeat first | exact HLt.mono hnm (by simp only [] <;> omega) | refine HLt.cons (by simp only [] <;> omega) (by simp only [Tok.lt, SV.ltL, SV.lt, and_true, true_and] <;> omega) ?_)) (by simp only [] <;> omega)
      simp only [frEq_cons, frEq_nil, frIn_cons, frIn_nil, and_true, fget_cons, Nat.reduceEqDiff, reduceIte, ↓reduceIte, true_and, SV.ren, SV.renL, ren1]
      exact ⟨rfl, rfl, rfl⟩
    · obtain ⟨⟨i, k⟩, hi, hk⟩ := x
      simp only at hi hk hB
      simp only [go_rgn, rgnK_def, goD_nil, goD_u, contD_some, goD_call, callD_def, goD_g, gD_bool, evI_true, evI_false, bareK_some, go_seq, go_ops, go_cond, go_block, go_skip, go_ret, go_exit, den_nil, den_seq, den_seq_ret, den_seq_ext, den_blk, den_blk_ret, den_blk_ext, den_lp, den_lp_ret, den_lp_ext, goO_nil, goO_u, noCall, contK_some, goO_g, gK_bool, skipD_some, skipD_none, goO_call, goO_callf, frzK_def, callK_def, condK_bool, put_def, sput_def, ev, frOf, fget_cons, oget, ogets, argSs, argS, evMm, frzL, evBin, evWrp, evShf, evCmp, evUna, evNil, evBeq, evLd, evSt, evFad, evIad, evAad, evLen, evSln, evEls, evApp, evParts, evSlc, evNlc, evMif, evPck, hget, hset, hdel, cellAt, arrAt, setCellAt, setArrAt, takeC, lenC, svCells, SV.okc, SV.one, ldSV, Fw.isAgg, Nat.reduceMul, Nat.reduceSub, Nat.reduceLeDiff, Nat.lt_irrefl, Nat.not_lt_zero, Nat.reduceLT, Nat.add_eq_left, Nat.left_eq_add, List.nil_append, List.length_cons, List.length_nil, List.append_nil, List.cons_append, Nat.zero_lt_one, Bool.false_eq_true, Bool.not_true, Bool.not_false, eq_self, Option.map_some, Option.map_none, true_imp_iff, false_imp_iff, implies_true, Bool.true_eq_false, explode, explodeL, toD, toDL, toD1, Ty.size, Ty.sizeL, frz1, Fr.sub, Heap.sub, Tok.sub, SV.sub, SV.subL, add_def, Nat.reduceEqDiff, Nat.reduceAdd, Nat.zero_add, reduceCtorEq, ↓reduceIte, and_self, and_true, true_and, reduceIte, spFirst, spOf, spAdd, spNumber, spBytes, list_l]
      refine ⟨fun hc => ?_, fun hc => ?_⟩
      · have hi' : i < cuts.length := by have := of_decide_eq_true hc; omega
        generalize (cuts.getD (Int.toNat (i : Int)) .nil).i = c
        have h0 : 0 ≤ c % 60 := Int.emod_nonneg _ (by omega)
        have h1 : c % 60 < 60 := Int.emod_lt_of_pos _ (by omega)
        obtain ⟨r, hr⟩ : ∃ r : Nat, c % 60 = r := ⟨(c % 60).toNat, by omega⟩
        rw [hr] at h0 h1 ⊢
        obtain ⟨m, hme⟩ : ∃ m : Nat, min (l.length : Int) ((k : Int) + r) = m := ⟨min l.length (k + r), by omega⟩
        have hkm : k ≤ m := by omega
        have hml' : m ≤ l.length := by omega
        rw [hme]
        refine ⟨⟨by omega, by omega⟩, by omega, ⟨by rw [min_i64]; omega, by rw [max_i64]; omega⟩, ⟨by omega, by omega, by omega⟩, ⟨by rw [min_i64]; omega, by rw [max_i64]; omega⟩, hB _ ⟨(i + 1, m), by simp only []; omega, by simp only []; omega⟩ (by simp only []; omega) ?_⟩
        have e2 : Crc.add (Crc.add 0#32 (l.take k)) ((l.take m).drop k) = Crc.add 0#32 (l.take m) := by
          have := List.take_append_drop k (l.take m)
          rw [List.take_take, Nat.min_eq_left hkm] at this
          rw [add_app, this]
        rw [ofI_toI, Int.toNat_natCast, Int.toNat_natCast, e2]
        refine leq_id ?_ (by (simp only [frLt_cons, frLt_nil, and_true, SV.lt, SV.ltL, true_and] <;> omega)) (by (repeat first | exact HLe.refl _ | refine HLe.cons (by simp only [hget, Nat.reduceEqDiff, reduceIte, ↓reduceIte] <;> rfl) ?_ | refine HLe.skip hnm (by omega) ?_ | refine HLe.frz hnm (by omega) ?_ | refine HLe.del hnm (by omega) ?_)) (by (repeat first | exact HLt.mono hnm (by simp only [] <;> omega) | refine HLt.cons (by simp only [] <;> omega) (by simp only [Tok.lt, SV.ltL, SV.lt, and_true, true_and] <;> omega) ?_)) (by simp only [] <;> omega)
        simp only [frEq_cons, frEq_nil, frIn_cons, frIn_nil, and_true, fget_cons, Nat.reduceEqDiff, reduceIte, ↓reduceIte, true_and, SV.ren, SV.renL, ren1]
        simp
      · refine ⟨⟨by omega, by omega⟩, (hQ _ (fin_t (.bool true) ?_ rfl hnm (by (repeat first | exact HLe.refl _ | refine HLe.cons (by simp only [hget, Nat.reduceEqDiff, reduceIte, ↓reduceIte] <;> rfl) ?_ | refine HLe.skip hnm (by omega) ?_ | refine HLe.frz hnm (by omega) ?_ | refine HLe.del hnm (by omega) ?_)) hsp)).1⟩
        simp only [fget_cons, reduceIte, ↓reduceIte, Nat.reduceEqDiff, Int.toNat_natCast, ofI_toI]
        rw [add_app, List.take_append_drop]
        simp
  · exact hsp.elim
end Go.Proofs.Ytilbonambilebaa
