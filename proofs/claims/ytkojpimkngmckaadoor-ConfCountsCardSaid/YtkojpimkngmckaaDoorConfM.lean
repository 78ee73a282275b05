/- Chapter 7: ConfCounts. -/
import Derived.Test.YtkojpimkngmckaaDoorConfL
namespace Go.Proofs.YtkojpimkngmckaaDoor
set_option linter.unusedVariables false
set_option linter.unusedSimpArgs false
open Go Go.Fw

def nineD : List D := [.int 9, .int 1, .int 2, .int 3, .int 4, .int 5]
theorem nine_begin : beginE 0 (sixL 0) [] 0 9 = .nil := begin_ok (sixL_valid (by decide) (by decide) (by decide)) (by decide) (by decide) (by decide) (by decide)
theorem nine_beginR : beginR 0 (sixL 0) [] 0 9 = cfgA 1 (sixL 0) nineD := by rw [beginR_ok nine_begin]; rfl
theorem nine_valid : validC 1 (sixL 0) nineD = .nil := valid_of (by decide) (by decide) (by decide) (sixL_six 0) (fun _ => ⟨sixB_of rfl (by decide), by decide⟩)
/-- The bits that are set. -/
def bitAt (m : Int) (j : Nat) : Bool := bitI .and .i64 (m.fdiv (2 ^ min j IntKind.i64.bits)) 1 == 1
def bitsN (f : Nat → Bool) (i : Nat) : List Nat := (List.range i).filter f
def bitsL (f : Nat → Bool) (i : Nat) : List D := (bitsN f i).map fun (j : Nat) => D.int (j : Int)
def nowN (f : Nat → Bool) (i : Nat) : Nat := ((List.range i).filter (fun j => f j && decide (0 < j))).length
theorem bitsN_step (f : Nat → Bool) (i : Nat) : bitsN f (i + 1) = bitsN f i ++ if f i then [i] else [] := by
  unfold bitsN
  rw [List.range_succ, List.filter_append]
  cases h : f i <;> simp [h]
theorem bitsL_step (f : Nat → Bool) (i : Nat) : bitsL f (i + 1) = bitsL f i ++ if f i then [D.int (i : Int)] else [] := by
  unfold bitsL
  rw [bitsN_step, List.map_append]
  cases f i <;> rfl
theorem nowN_step (f : Nat → Bool) (i : Nat) : nowN f (i + 1) = nowN f i + if f i = true ∧ 0 < i then 1 else 0 := by
  unfold nowN
  rw [List.range_succ, List.filter_append, List.length_append]
  cases hf : f i
  · simp [hf]
  · by_cases h : 0 < i
    · simp [h, hf]
    · simp [h, hf]
theorem bitsN_len (f : Nat → Bool) (i : Nat) : (bitsN f i).length ≤ i := by
  unfold bitsN
  exact Nat.le_trans (List.length_filter_le _ _) (by simp)
theorem bitsL_len (f : Nat → Bool) (i : Nat) : (bitsL f i).length ≤ i := by
  unfold bitsL
  rw [List.length_map]
  exact bitsN_len f i
theorem nowN_len (f : Nat → Bool) (i : Nat) : nowN f i ≤ i := by
  unfold nowN
  exact Nat.le_trans (List.length_filter_le _ _) (by simp)
theorem r6 : List.range 6 = [0, 1, 2, 3, 4, 5] := by decide
theorem old_count (f : Nat → Bool) : ((sixL 0).map D.i).countP (inL (bitsL f 6)) = (bitsN f 6).length := by
  unfold bitsL bitsN
  rw [r6]
  simp only [List.filter_cons, List.filter_nil]
  cases f 0 <;> cases f 1 <;> cases f 2 <;> cases f 3 <;> cases f 4 <;> cases f 5 <;> rfl
theorem old_count9 (f : Nat → Bool) : ((sixL 0).map D.i).countP (inL (bitsL f 6 ++ [.int 9])) = (bitsN f 6).length := by
  unfold bitsL bitsN
  rw [r6]
  simp only [List.filter_cons, List.filter_nil]
  cases f 0 <;> cases f 1 <;> cases f 2 <;> cases f 3 <;> cases f 4 <;> cases f 5 <;> rfl
theorem now_count (f : Nat → Bool) : (nineD.map D.i).countP (inL (bitsL f 6)) = nowN f 6 := by
  unfold bitsL bitsN nowN
  rw [r6]
  simp only [List.filter_cons, List.filter_nil]
  cases f 0 <;> cases f 1 <;> cases f 2 <;> cases f 3 <;> cases f 4 <;> cases f 5 <;> rfl
theorem now_count9 (f : Nat → Bool) : (nineD.map D.i).countP (inL (bitsL f 6 ++ [.int 9])) = nowN f 6 + 1 := by
  unfold bitsL bitsN nowN
  rw [r6]
  simp only [List.filter_cons, List.filter_nil]
  cases f 0 <;> cases f 1 <;> cases f 2 <;> cases f 3 <;> cases f 4 <;> cases f 5 <;> rfl
def q6 (k : Int) : QP := .of k (sD (sixL 0))
def q9 (k : Int) : QP := .an (.of k (sD (sixL 0))) (.of k (sD nineD))
theorem q6_ok (k : Int) : okD (q6 k).enc := okD_enc (of_ok (by decide) (by decide))
theorem q9_ok (k : Int) : okD (q9 k).enc := okD_enc ⟨of_ok (by decide) (by decide), of_ok (by decide) (by decide)⟩
theorem q6_enough (k : Int) (b : Bool) : enoughQ 0 (sixL 0) [] k b = some (q6 k, (sD (sixL 0)).map D.int, 1) := enough_one (by rw [sixL_valid (by decide) (by decide) (by decide)]; rfl)
theorem q9_enough (k : Int) : enoughQ 1 (sixL 0) nineD k true = some (q9 k, joinL ((sD (sixL 0)).map D.int) ((sD nineD).map D.int), 2) := enough_two (by rw [nine_valid]; rfl) (by decide)
theorem q9_base (k : Int) : enoughQ 1 (sixL 0) nineD k false = some (q6 k, (sD (sixL 0)).map D.int, 1) := enough_base (by rw [nine_valid]; rfl)
theorem q6_has (k : Int) (S : Int → Bool) : hasD (q6 k).enc S = decide (k ≤ (((sixL 0).map D.i).countP S : Int)) := by rw [hasD_enc, q6, of_has]
theorem q9_has (k : Int) (S : Int → Bool) : hasD (q9 k).enc S = (decide (k ≤ (((sixL 0).map D.i).countP S : Int)) && decide (k ≤ ((nineD.map D.i).countP S : Int))) := by rw [hasD_enc, q9, QP.has, of_has, of_has]
def WConfCounts : Opts := mkWE 102 [] [0, 1, 2, 3, 4, 5] [] 184 [0, 1, 2, 3, 4, 5] []
def icConfCounts : IC := (.seq (.seq (.ops [(.u (.mov 4 (.c (.bool false))))]) (.tr [0, 1])) (.seq (.seq (.ops [(.u (.call 13 (.c (.clo 15 [])) [] [] true)), (.u (.mov 5 (.s 13)))]) (.tr [0, 5, 1])) (.seq (.seq (.seq (.ops [(.u (.mov 14 (.s 5))), (.u (.una 15 .not (.s 14)))]) (.tr [15, 0, 5, 1])) (.cond (.s 15) (.seq (.seq (.ops [(.u (.mov 4 (.c (.bool false))))]) (.tr [4])) .ret) .skip)) (.seq (.seq (.ops [(.u (.call 16 (.c (.clo 16 [])) [(.c (.int .i64 0))] [none] true)), (.u (.alc 6 [(.int .i64 0), .nils, .nils])), (.u (.st (.strct [(.int .i64), (.slice 3), (.slice 3)]) (.s 6) (.s 16)))]) (.tr [0, 5, 1, 6])) (.seq (.seq (.seq (.ops [(.u (.mov 17 (.s 1)))]) (.tr [17, 0, 5, 1, 6])) (.cond (.s 17) (.seq (.seq (.ops [(.u (.ld 19 (.strct [(.int .i64), (.slice 3), (.slice 3)]) (.s 6))), (.u (.call 20 (.c (.clo 17 [])) [(.s 19), (.c (.int .i64 0)), (.c (.int .i64 9))] [none, none, none] true)), (.u (.mov 18 (.s 20))), (.u (.ext 21 0 (.s 18))), (.u (.ext 22 1 (.s 18))), (.u (.alc 7 [(.int .i64 0), .nils, .nils])), (.u (.st (.strct [(.int .i64), (.slice 3), (.slice 3)]) (.s 7) (.s 21))), (.u (.mov 8 (.s 22)))]) (.tr [8, 7, 0, 5, 1, 6])) (.seq (.seq (.seq (.ops [(.u (.mov 23 (.s 8))), (.u (.eqb 24 true 0 (.s 23)))]) (.tr [24, 7, 0, 5, 1, 6])) (.cond (.s 24) (.seq (.seq (.ops [(.u (.mov 4 (.c (.bool false))))]) (.tr [4])) .ret) .skip)) (.seq (.ops [(.u (.ld 25 (.strct [(.int .i64), (.slice 3), (.slice 3)]) (.s 7))), (.u (.st (.strct [(.int .i64), (.slice 3), (.slice 3)]) (.s 6) (.s 25)))]) (.tr [0, 5, 1, 6])))) .skip)) (.seq (.seq (.ops [(.u (.mov 9 (.c .nils)))]) (.tr [0, 5, 1, 6, 9])) (.seq (.seq (.ops [(.u (.mov 10 (.c (.int .i64 0))))]) (.tr [0, 5, 1, 6, 9, 10])) (.seq (.seq (.ops [(.u (.mov 11 (.c (.int .i64 0))))]) (.tr [0, 5, 1, 11, 6, 9, 10])) (.seq (.seq (.seq (.ops [(.u (.mov 12 (.c (.int .i64 0))))]) (.tr [12, 0, 5, 1, 11, 6, 9, 10])) (.block 0 (.loop (.seq (.seq (.seq (.ops [(.u (.mov 26 (.s 12))), (.u (.cmp 27 .lss (.s 26) (.c (.int .i64 6))))]) (.tr [27, 12, 0, 5, 1, 11, 6, 9, 10])) (.cond (.s 27) .skip (.exit 0))) (.seq (.block 1 (.seq (.seq (.ops [(.u (.mov 30 (.s 0))), (.u (.mov 31 (.s 12))), (.u (.cnv 32 .u64 (.s 31))), (.u (.shf 33 .shr .i64 (.s 30) (.s 32))), (.u (.bin 34 .and .i64 (.s 33) (.c (.int .i64 1)))), (.u (.cmp 35 .eql (.s 34) (.c (.int .i64 1))))]) (.tr [35, 12, 0, 5, 1, 11, 6, 9, 10])) (.cond (.s 35) (.seq (.seq (.ops [(.u (.mov 36 (.s 9))), (.u (.mov 37 (.s 12))), (.u (.bsl 38 3 (.int .i64) [(.s 37)])), (.u (.app 39 3 (.int .i64) 8 (.s 36) (.s 38))), (.u (.mov 9 (.s 39)))]) (.tr [10, 12, 0, 5, 1, 11, 6, 9])) (.seq (.seq (.ops [(.u (.mov 40 (.s 10))), (.u (.bin 41 .add .i64 (.s 40) (.c (.int .i64 1)))), (.u (.mov 10 (.s 41)))]) (.tr [12, 0, 5, 1, 11, 6, 9, 10])) (.seq (.seq (.ops [(.u (.mov 42 (.s 12))), (.u (.cmp 43 .gtr (.s 42) (.c (.int .i64 0))))]) (.tr [43, 12, 0, 5, 1, 11, 6, 9, 10])) (.cond (.s 43) (.seq (.ops [(.u (.mov 44 (.s 11))), (.u (.bin 45 .add .i64 (.s 44) (.c (.int .i64 1)))), (.u (.mov 11 (.s 45)))]) (.tr [12, 0, 5, 1, 11, 6, 9, 10])) .skip)))) .skip))) (.seq (.ops [(.u (.mov 28 (.s 12))), (.u (.bin 29 .add .i64 (.s 28) (.c (.int .i64 1)))), (.u (.mov 12 (.s 29)))]) (.tr [12, 0, 5, 1, 11, 6, 9, 10]))))))) (.seq (.seq (.seq (.ops [(.u (.mov 46 (.s 1))), (.u (.mov 47 (.s 46))), (.g 47 true (some 48) (.mov 48 (.s 0))), (.g 47 true (some 49) (.shf 49 .shr .i64 (.s 48) (.c (.int .u64 6)))), (.g 47 true (some 50) (.bin 50 .and .i64 (.s 49) (.c (.int .i64 1)))), (.g 47 true (some 51) (.cmp 51 .eql (.s 50) (.c (.int .i64 1)))), (.u (.pck 52 (.s 47) (.s 51) (.c (.bool false))))]) (.tr [52, 5, 1, 11, 6, 9, 10])) (.cond (.s 52) (.seq (.seq (.ops [(.u (.mov 53 (.s 9))), (.u (.bsl 54 3 (.int .i64) [(.c (.int .i64 9))])), (.u (.app 55 3 (.int .i64) 8 (.s 53) (.s 54))), (.u (.mov 9 (.s 55)))]) (.tr [11, 5, 1, 6, 9, 10])) (.seq (.ops [(.u (.mov 56 (.s 11))), (.u (.bin 57 .add .i64 (.s 56) (.c (.int .i64 1)))), (.u (.mov 11 (.s 57)))]) (.tr [5, 1, 11, 6, 9, 10]))) .skip)) (.seq (.seq (.ops [(.u (.mov 58 (.s 5))), (.u (.mov 59 (.s 58))), (.g 59 true (some 60) (.ld 60 (.strct [(.int .i64), (.slice 3), (.slice 3)]) (.s 6))), (.g 59 true (some 61) (.call 61 (.c (.clo 18 [])) [(.s 60)] [none] true)), (.g 59 true (some 62) (.mov 62 (.s 9))), (.g 59 true (some 63) (.call 63 (.c (.clo 19 [])) [(.s 61), (.s 62)] [none, (some 3)] true)), (.g 59 true (some 64) (.mov 64 (.s 10))), (.g 59 true (some 65) (.cmp 65 .geq (.s 64) (.c (.int .i64 4)))), (.g 59 true (some 66) (.mov 66 (.s 65))), (.g 66 true (some 67) (.mov 67 (.s 1))), (.g 66 true (some 68) (.una 68 .not (.s 67))), (.g 66 true (some 69) (.mov 69 (.s 68))), (.g 69 false (some 70) (.mov 70 (.s 11))), (.g 69 false (some 71) (.cmp 71 .geq (.s 70) (.c (.int .i64 4)))), (.g 66 true (some 72) (.pck 72 (.s 69) (.c (.bool true)) (.s 71))), (.g 59 true (some 73) (.pck 73 (.s 66) (.s 72) (.c (.bool false)))), (.g 59 true (some 74) (.beq 74 false (.s 63) (.s 73))), (.u (.pck 75 (.s 59) (.s 74) (.c (.bool false)))), (.u (.mov 76 (.s 75))), (.g 76 true (some 77) (.ld 77 (.strct [(.int .i64), (.slice 3), (.slice 3)]) (.s 6))), (.g 76 true (some 78) (.call 78 (.c (.clo 20 [])) [(.s 77)] [none] true)), (.g 76 true (some 79) (.mov 79 (.s 9))), (.g 76 true (some 80) (.call 80 (.c (.clo 19 [])) [(.s 78), (.s 79)] [none, (some 3)] true)), (.g 76 true (some 81) (.mov 81 (.s 10))), (.g 76 true (some 82) (.cmp 82 .geq (.s 81) (.c (.int .i64 3)))), (.g 76 true (some 83) (.mov 83 (.s 82))), (.g 83 true (some 84) (.mov 84 (.s 1))), (.g 83 true (some 85) (.una 85 .not (.s 84))), (.g 83 true (some 86) (.mov 86 (.s 85))), (.g 86 false (some 87) (.mov 87 (.s 11))), (.g 86 false (some 88) (.cmp 88 .geq (.s 87) (.c (.int .i64 3)))), (.g 83 true (some 89) (.pck 89 (.s 86) (.c (.bool true)) (.s 88))), (.g 76 true (some 90) (.pck 90 (.s 83) (.s 89) (.c (.bool false)))), (.g 76 true (some 91) (.beq 91 false (.s 80) (.s 90))), (.u (.pck 92 (.s 76) (.s 91) (.c (.bool false)))), (.u (.mov 93 (.s 92))), (.g 93 true (some 94) (.ld 94 (.strct [(.int .i64), (.slice 3), (.slice 3)]) (.s 6))), (.g 93 true (some 95) (.call 95 (.c (.clo 21 [])) [(.s 94)] [none] true)), (.g 93 true (some 96) (.mov 96 (.s 9))), (.g 93 true (some 97) (.call 97 (.c (.clo 19 [])) [(.s 95), (.s 96)] [none, (some 3)] true)), (.g 93 true (some 98) (.mov 98 (.s 10))), (.g 93 true (some 99) (.cmp 99 .geq (.s 98) (.c (.int .i64 3)))), (.g 93 true (some 100) (.beq 100 false (.s 97) (.s 99))), (.u (.pck 101 (.s 93) (.s 100) (.c (.bool false)))), (.u (.mov 4 (.s 101)))]) (.tr [4])) .ret)))))))))))
def rsConfCounts : List RV := [(.t 4)]
theorem irConfCounts : fnIR Tryd.prog WConfCounts 3 = some (icConfCounts, rsConfCounts) := by kernel_rfl
def spConfCounts : FSpec := fun args h nx K => match args with
  | [.int .i64 m, .bool b] => K (.bool true) h
  | _ => False
set_option maxHeartbeats 4000000 in
set_option maxRecDepth 8000 in
theorem vConfCounts {E : Nat → Value} (hE : Errs2 Tryd.prog (some 184) E) : Valid Tryd.prog E (gs GC7) 3 spConfCounts := by
  refine valid_go (W := WConfCounts) hE (((((((allValid_bot.add (up (vL7first hE))).add (up (vL7six hE))).add (up (vCBegin hE))).add (up (vCWrite hE))).add (up (vCRead hE))).add (up (vCBase hE))).add (up (vQHasD hE))) irConfCounts (by decide) (fun args h nx K hsp hok hnm => ?_)
  unfold spConfCounts at hsp
  split at hsp
  · rename_i m b
    refine ⟨by simp [WConfCounts, mkW, mkWE, mkWF], fun Q hQ => ?_⟩
    have g0 : (0 : Int) ≤ 0 := by decide
    have g1 : (0 : Int) ≤ 1000000 := by decide
    have ret : ∀ b h' nx', b = true → HLe h h' → Q Ex.ret ⟨[(4, .bool b)], h', nx'⟩ := fun b h' nx' hb hh => by
      refine (hQ _ ?_).1
      subst hb
      exact fin_t (.bool true) rfl rfl hnm hh hsp
    let f := bitAt m
    cases b with
    | false =>
      simp (maxSteps := 4000000) only [icConfCounts, walkSet, eq_self, implies_true, evMdl, evMupD, evMup, evLkp, Int.reduceEq, Int.reduceBEq, Int.reduceBNe, Int.reduceLE, Int.reduceLT, Int.reduceAdd, Int.reduceSub, Int.reduceMul, Int.reduceNeg, frpL, preF, preP, prePt, prePd, frzP, evNlq, ev, frOf, oget, ogets, argSs, argS, evMm, frzL, evBin, evWrp, evShf, evCmp, evUna, evNil, evBeq, evLd, evSt, evFad, evIad, evAad, evLen, evSln, evEls, evApp, evParts, evSlc, evNlc, evMif, evPck, evFld, evBld, evTas, evIfq, evSeq, evSl0, evBxf, evAgl, evAgq, evBsf, hget, hset, hdel, cellAt, arrAt, setCellAt, setArrAt, takeC, lenC, svCells, SV.okc, SV.one, ldSV, Fw.isAgg, Nat.reduceMul, Nat.reduceSub, Nat.reduceLeDiff, Nat.reduceLT, explode, explodeL, toD, toDL, toD1, Ty.size, Ty.sizeL, frz1, Fr.sub, Heap.sub, Tok.sub, SV.sub, SV.subL, Nat.reduceEqDiff, Nat.reduceAdd, reduceCtorEq, ↓reduceIte, reduceIte, spL7first, spL7six, g0, g1, cfgA]
      refine go_loop (α := { i : Nat // i ≤ 6 }) (I := fun i => { f := [(12, .int .i64 (i.1 : Nat)), (0, .int .i64 m), (5, .bool true), (1, .bool false), (11, .int .i64 (nowN f i.1)), (6, .ptr nx 0), (9, .vec (nx + 1)), (10, .int .i64 ((bitsN f i.1).length))], h := [(nx, .cells [.int .i64 0, .dat (.slice 3) (.list (sixL 0)), .dat (.slice 3) (.list [])]), (nx + 1, .arr 3 (.int .i64) (bitsL f i.1))] ++ h, nx := nx + 2 }) (μ := fun i => 6 - i.1) _ _ _ ⟨0, by omega⟩ ?_ (fun i B hB => ?_)
      · refine leq_news [(nx, nx + 64 + 64), (nx + 1, nx + 64 + 64 + 1)] [(nx, .cells [.int .i64 0, .dat (.slice 3) (.list (sixL 0)), .dat (.slice 3) (.list [])]), (nx + 1, .arr 3 (.int .i64) (bitsL f 0))] (.slot 9 3 (.int .i64) rfl (.refl _)) (by simp) (by simp; omega) (by simp <;> omega) rfl ?_ ?_ ?_ ?_ hnm ?_ (by omega)
        · simp [frIn_cons, frIn_nil, fget_cons, fget_nil, SV.ren, SV.renL, rens]
          simp [bitsN, nowN]
        · (simp only [frLt_cons, frLt_nil, and_true, SV.lt, SV.ltL, true_and] <;> omega)
        · (simp only [List.mem_cons, List.not_mem_nil, or_false, forall_eq_or_imp, forall_eq]; simp [hget, rens, Tok.ren, SV.ren, SV.renL])
          try simp [bitsL, bitsN, nowN]
        · (simp only [List.mem_cons, List.not_mem_nil, or_false, forall_eq_or_imp, forall_eq, Tok.lt, SV.lt, SV.ltL, and_true, true_and] <;> omega)
        · ((try simp only []); repeat first | exact HLe.refl _ | refine HLe.cons (by simp only [hget, Nat.reduceEqDiff, Nat.left_eq_add, Nat.add_eq_left, nm_ne2, nm_en2, nm_ne3, nm_en3, nm_ne4, nm_en4, nm_ne5, nm_en5, reduceIte, ↓reduceIte] <;> rfl) ?_ | refine HLe.skip hnm (by omega) ?_ | refine HLe.frz hnm (by omega) ?_ | refine HLe.del hnm (by omega) ?_)
      · obtain ⟨i, hi⟩ := i
        simp only at hB
        by_cases hil : i < 6
        · have c1 : decide ((i : Int) < 6) = true := decide_eq_true (by omega)
          have eu : IntKind.u64.wrap (i : Int) = i := wrap_u64 (by omega) (by omega)
          have l1 := bitsN_len f i
          have l2 := bitsL_len f i
          have l3 := nowN_len f i
          have s1 := bitsN_step f i
          have s2 := bitsL_step f i
          have s3 := nowN_step f i
          have next : ∀ S', Leq nx S' { f := [(12, .int .i64 ((i + 1) : Nat)), (0, .int .i64 m), (5, .bool true), (1, .bool false), (11, .int .i64 (nowN f (i + 1))), (6, .ptr nx 0), (9, .vec (nx + 1)), (10, .int .i64 ((bitsN f (i + 1)).length))], h := [(nx, .cells [.int .i64 0, .dat (.slice 3) (.list (sixL 0)), .dat (.slice 3) (.list [])]), (nx + 1, .arr 3 (.int .i64) (bitsL f (i + 1)))] ++ h, nx := nx + 2 } → B S' := fun S' hl => hB _ ⟨i + 1, by omega⟩ (by simp only []; omega) hl
          rcases bool_ft (f i) with hf | hf
          · have cb : (bitI .and .i64 (m.fdiv (2 ^ min i IntKind.i64.bits)) 1 == 1) = false := hf
            rw [hf] at s1 s2 s3
            simp only [Bool.false_eq_true, if_false, false_and, List.append_nil, Nat.add_zero] at s1 s2 s3
            rw [s1, s2, s3] at next
            simp (maxSteps := 4000000) only [walkSet, eq_self, implies_true, evMdl, evMupD, evMup, evLkp, Int.reduceEq, Int.reduceBEq, Int.reduceBNe, Int.reduceLE, Int.reduceLT, Int.reduceAdd, Int.reduceSub, Int.reduceMul, Int.reduceNeg, frpL, preF, preP, prePt, prePd, frzP, evNlq, ev, frOf, oget, ogets, argSs, argS, evMm, frzL, evBin, evWrp, evShf, evCmp, evUna, evNil, evBeq, evLd, evSt, evFad, evIad, evAad, evLen, evSln, evEls, evApp, evParts, evSlc, evNlc, evMif, evPck, evFld, evBld, evTas, evIfq, evSeq, evSl0, evBxf, evAgl, evAgq, evBsf, hget, hset, hdel, cellAt, arrAt, setCellAt, setArrAt, takeC, lenC, svCells, SV.okc, SV.one, ldSV, Fw.isAgg, Nat.reduceMul, Nat.reduceSub, Nat.reduceLeDiff, Nat.reduceLT, explode, explodeL, toD, toDL, toD1, Ty.size, Ty.sizeL, frz1, Fr.sub, Heap.sub, Tok.sub, SV.sub, SV.subL, Nat.reduceEqDiff, Nat.reduceAdd, reduceCtorEq, ↓reduceIte, reduceIte, c1, eu, cb, Int.toNat_natCast, min_i64, max_i64]
            repeat refine ⟨by omega, ?_⟩
            refine next _ ?_
            refine leq_id ?_ (by (simp only [frLt_cons, frLt_nil, and_true, SV.lt, SV.ltL, true_and] <;> omega)) (by ((try simp only []); repeat first | exact HLe.refl _ | refine HLe.cons (by simp only [hget, Nat.reduceEqDiff, Nat.left_eq_add, Nat.add_eq_left, nm_ne2, nm_en2, nm_ne3, nm_en3, nm_ne4, nm_en4, nm_ne5, nm_en5, reduceIte, ↓reduceIte] <;> rfl) ?_ | refine HLe.skip hnm (by omega) ?_ | refine HLe.frz hnm (by omega) ?_ | refine HLe.del hnm (by omega) ?_)) (by (repeat first | exact HLt.mono hnm (by simp only [] <;> omega) | refine HLt.cons (by simp only [] <;> omega) (by simp only [Tok.lt, SV.ltL, SV.lt, and_true, true_and] <;> omega) ?_)) (by simp only [] <;> omega)
            simp only [frEq_cons, frEq_nil, frIn_cons, frIn_nil, and_true, fget_cons, Nat.reduceEqDiff, reduceIte, ↓reduceIte, true_and, SV.ren, SV.renL, ren1]
            simp
          · have cb : (bitI .and .i64 (m.fdiv (2 ^ min i IntKind.i64.bits)) 1 == 1) = true := hf
            rw [hf] at s1 s2 s3
            simp only [if_true] at s1 s2
            have s1' := congrArg List.length s1
            rw [List.length_append] at s1'
            simp only [List.length_cons, List.length_nil] at s1'
            by_cases h0 : 0 < i
            · have c2 : decide (0 < (i : Int)) = true := decide_eq_true (by omega)
              rw [if_pos ⟨rfl, h0⟩] at s3
              rw [s1', s2, s3] at next
              simp (maxSteps := 4000000) only [walkSet, eq_self, implies_true, evMdl, evMupD, evMup, evLkp, Int.reduceEq, Int.reduceBEq, Int.reduceBNe, Int.reduceLE, Int.reduceLT, Int.reduceAdd, Int.reduceSub, Int.reduceMul, Int.reduceNeg, frpL, preF, preP, prePt, prePd, frzP, evNlq, ev, frOf, oget, ogets, argSs, argS, evMm, frzL, evBin, evWrp, evShf, evCmp, evUna, evNil, evBeq, evLd, evSt, evFad, evIad, evAad, evLen, evSln, evEls, evApp, evParts, evSlc, evNlc, evMif, evPck, evFld, evBld, evTas, evIfq, evSeq, evSl0, evBxf, evAgl, evAgq, evBsf, hget, hset, hdel, cellAt, arrAt, setCellAt, setArrAt, takeC, lenC, svCells, SV.okc, SV.one, ldSV, Fw.isAgg, Nat.reduceMul, Nat.reduceSub, Nat.reduceLeDiff, Nat.reduceLT, explode, explodeL, toD, toDL, toD1, Ty.size, Ty.sizeL, frz1, Fr.sub, Heap.sub, Tok.sub, SV.sub, SV.subL, Nat.reduceEqDiff, Nat.reduceAdd, reduceCtorEq, ↓reduceIte, reduceIte, c1, c2, eu, cb, Int.toNat_natCast, min_i64, max_i64]
              repeat refine ⟨by omega, ?_⟩
              refine next _ ?_
              refine leq_news [(nx, nx), (nx + 1, nx + 2 + 1)] [(nx, .cells [.int .i64 0, .dat (.slice 3) (.list (sixL 0)), .dat (.slice 3) (.list [])]), (nx + 1, .arr 3 (.int .i64) (bitsL f i ++ [D.int (i : Int)]))] (.refl _) (by simp) (by simp <;> omega) (by simp <;> omega) rfl ?_ ?_ ?_ ?_ hnm ?_ (by omega)
              · simp [frIn_cons, frIn_nil, fget_cons, fget_nil, SV.ren, SV.renL, rens]
              · (simp only [frLt_cons, frLt_nil, and_true, SV.lt, SV.ltL, true_and] <;> omega)
              · (simp only [List.mem_cons, List.not_mem_nil, or_false, forall_eq_or_imp, forall_eq]; simp [hget, rens, Tok.ren, SV.ren, SV.renL])
                omega
              · (simp only [List.mem_cons, List.not_mem_nil, or_false, forall_eq_or_imp, forall_eq, Tok.lt, SV.lt, SV.ltL, and_true, true_and] <;> omega)
              · ((try simp only []); repeat first | exact HLe.refl _ | refine HLe.cons (by simp only [hget, Nat.reduceEqDiff, Nat.left_eq_add, Nat.add_eq_left, nm_ne2, nm_en2, nm_ne3, nm_en3, nm_ne4, nm_en4, nm_ne5, nm_en5, reduceIte, ↓reduceIte] <;> rfl) ?_ | refine HLe.skip hnm (by omega) ?_ | refine HLe.frz hnm (by omega) ?_ | refine HLe.del hnm (by omega) ?_)
            · have c2 : decide (0 < (i : Int)) = false := decide_eq_false (by omega)
              rw [if_neg (fun h => h0 h.2)] at s3
              rw [s1', s2, s3] at next
              simp (maxSteps := 4000000) only [walkSet, eq_self, implies_true, evMdl, evMupD, evMup, evLkp, Int.reduceEq, Int.reduceBEq, Int.reduceBNe, Int.reduceLE, Int.reduceLT, Int.reduceAdd, Int.reduceSub, Int.reduceMul, Int.reduceNeg, frpL, preF, preP, prePt, prePd, frzP, evNlq, ev, frOf, oget, ogets, argSs, argS, evMm, frzL, evBin, evWrp, evShf, evCmp, evUna, evNil, evBeq, evLd, evSt, evFad, evIad, evAad, evLen, evSln, evEls, evApp, evParts, evSlc, evNlc, evMif, evPck, evFld, evBld, evTas, evIfq, evSeq, evSl0, evBxf, evAgl, evAgq, evBsf, hget, hset, hdel, cellAt, arrAt, setCellAt, setArrAt, takeC, lenC, svCells, SV.okc, SV.one, ldSV, Fw.isAgg, Nat.reduceMul, Nat.reduceSub, Nat.reduceLeDiff, Nat.reduceLT, explode, explodeL, toD, toDL, toD1, Ty.size, Ty.sizeL, frz1, Fr.sub, Heap.sub, Tok.sub, SV.sub, SV.subL, Nat.reduceEqDiff, Nat.reduceAdd, reduceCtorEq, ↓reduceIte, reduceIte, c1, c2, eu, cb, Int.toNat_natCast, min_i64, max_i64]
              repeat refine ⟨by omega, ?_⟩
              refine next _ ?_
              refine leq_news [(nx, nx), (nx + 1, nx + 2 + 1)] [(nx, .cells [.int .i64 0, .dat (.slice 3) (.list (sixL 0)), .dat (.slice 3) (.list [])]), (nx + 1, .arr 3 (.int .i64) (bitsL f i ++ [D.int (i : Int)]))] (.refl _) (by simp) (by simp <;> omega) (by simp <;> omega) rfl ?_ ?_ ?_ ?_ hnm ?_ (by omega)
              · simp [frIn_cons, frIn_nil, fget_cons, fget_nil, SV.ren, SV.renL, rens]
              · (simp only [frLt_cons, frLt_nil, and_true, SV.lt, SV.ltL, true_and] <;> omega)
              · (simp only [List.mem_cons, List.not_mem_nil, or_false, forall_eq_or_imp, forall_eq]; simp [hget, rens, Tok.ren, SV.ren, SV.renL])
                omega
              · (simp only [List.mem_cons, List.not_mem_nil, or_false, forall_eq_or_imp, forall_eq, Tok.lt, SV.lt, SV.ltL, and_true, true_and] <;> omega)
              · ((try simp only []); repeat first | exact HLe.refl _ | refine HLe.cons (by simp only [hget, Nat.reduceEqDiff, Nat.left_eq_add, Nat.add_eq_left, nm_ne2, nm_en2, nm_ne3, nm_en3, nm_ne4, nm_en4, nm_ne5, nm_en5, reduceIte, ↓reduceIte] <;> rfl) ?_ | refine HLe.skip hnm (by omega) ?_ | refine HLe.frz hnm (by omega) ?_ | refine HLe.del hnm (by omega) ?_)
        · obtain rfl : i = 6 := by omega
          have c1 : decide (((6 : Nat) : Int) < 6) = false := rfl
          simp (maxSteps := 4000000) only [walkSet, eq_self, implies_true, evMdl, evMupD, evMup, evLkp, Int.reduceEq, Int.reduceBEq, Int.reduceBNe, Int.reduceLE, Int.reduceLT, Int.reduceAdd, Int.reduceSub, Int.reduceMul, Int.reduceNeg, frpL, preF, preP, prePt, prePd, frzP, evNlq, ev, frOf, oget, ogets, argSs, argS, evMm, frzL, evBin, evWrp, evShf, evCmp, evUna, evNil, evBeq, evLd, evSt, evFad, evIad, evAad, evLen, evSln, evEls, evApp, evParts, evSlc, evNlc, evMif, evPck, evFld, evBld, evTas, evIfq, evSeq, evSl0, evBxf, evAgl, evAgq, evBsf, hget, hset, hdel, cellAt, arrAt, setCellAt, setArrAt, takeC, lenC, svCells, SV.okc, SV.one, ldSV, Fw.isAgg, Nat.reduceMul, Nat.reduceSub, Nat.reduceLeDiff, Nat.reduceLT, explode, explodeL, toD, toDL, toD1, Ty.size, Ty.sizeL, frz1, Fr.sub, Heap.sub, Tok.sub, SV.sub, SV.subL, Nat.reduceEqDiff, Nat.reduceAdd, reduceCtorEq, ↓reduceIte, reduceIte, c1, spCWrite, spCRead, spCBase, q6_enough, setV_some, spQHasD, SV.one, q6_ok, q6_has, old_count]
          rcases bool_ft (decide (4 ≤ ((bitsN f 6).length : Int))) with h4 | h4 <;> rcases bool_ft (decide (3 ≤ ((bitsN f 6).length : Int))) with h3 | h3 <;> simp only [h4, h3, beq_self_eq_true, Bool.false_eq_true, Bool.true_eq_false, reduceCtorEq, false_implies, forall_const, implies_true, and_true, true_and, true_implies, Bool.not_true, Bool.not_false] <;> exact ret _ _ _ rfl (by ((try simp only []); repeat first | exact HLe.refl _ | refine HLe.cons (by simp only [hget, Nat.reduceEqDiff, Nat.left_eq_add, Nat.add_eq_left, nm_ne2, nm_en2, nm_ne3, nm_en3, nm_ne4, nm_en4, nm_ne5, nm_en5, reduceIte, ↓reduceIte] <;> rfl) ?_ | refine HLe.skip hnm (by omega) ?_ | refine HLe.frz hnm (by omega) ?_ | refine HLe.del hnm (by omega) ?_))
    | true =>
      simp (maxSteps := 4000000) only [icConfCounts, walkSet, eq_self, implies_true, evMdl, evMupD, evMup, evLkp, Int.reduceEq, Int.reduceBEq, Int.reduceBNe, Int.reduceLE, Int.reduceLT, Int.reduceAdd, Int.reduceSub, Int.reduceMul, Int.reduceNeg, frpL, preF, preP, prePt, prePd, frzP, evNlq, ev, frOf, oget, ogets, argSs, argS, evMm, frzL, evBin, evWrp, evShf, evCmp, evUna, evNil, evBeq, evLd, evSt, evFad, evIad, evAad, evLen, evSln, evEls, evApp, evParts, evSlc, evNlc, evMif, evPck, evFld, evBld, evTas, evIfq, evSeq, evSl0, evBxf, evAgl, evAgq, evBsf, hget, hset, hdel, cellAt, arrAt, setCellAt, setArrAt, takeC, lenC, svCells, SV.okc, SV.one, ldSV, Fw.isAgg, Nat.reduceMul, Nat.reduceSub, Nat.reduceLeDiff, Nat.reduceLT, explode, explodeL, toD, toDL, toD1, Ty.size, Ty.sizeL, frz1, Fr.sub, Heap.sub, Tok.sub, SV.sub, SV.subL, Nat.reduceEqDiff, Nat.reduceAdd, reduceCtorEq, ↓reduceIte, reduceIte, spL7first, spL7six, g0, g1, cfgA, spCBegin, nine_begin, nine_beginR]
      refine go_loop (α := { i : Nat // i ≤ 6 }) (I := fun i => { f := [(12, .int .i64 (i.1 : Nat)), (0, .int .i64 m), (5, .bool true), (1, .bool true), (11, .int .i64 (nowN f i.1)), (6, .ptr nx 0), (9, .vec (nx + 1)), (10, .int .i64 ((bitsN f i.1).length))], h := [(nx, .cells [.int .i64 1, .dat (.slice 3) (.list (sixL 0)), .dat (.slice 3) (.list nineD)]), (nx + 1, .arr 3 (.int .i64) (bitsL f i.1))] ++ h, nx := nx + 2 }) (μ := fun i => 6 - i.1) _ _ _ ⟨0, by omega⟩ ?_ (fun i B hB => ?_)
      · refine leq_news [(nx, nx + 64 + 64), (nx + 1, nx + 64 + 64 + 1 + 64 + 1)] [(nx, .cells [.int .i64 1, .dat (.slice 3) (.list (sixL 0)), .dat (.slice 3) (.list nineD)]), (nx + 1, .arr 3 (.int .i64) (bitsL f 0))] (.slot 9 3 (.int .i64) rfl (.refl _)) (by simp) (by simp; omega) (by simp <;> omega) rfl ?_ ?_ ?_ ?_ hnm ?_ (by omega)
        · simp [frIn_cons, frIn_nil, fget_cons, fget_nil, SV.ren, SV.renL, rens]
          simp [bitsN, nowN]
        · (simp only [frLt_cons, frLt_nil, and_true, SV.lt, SV.ltL, true_and] <;> omega)
        · (simp only [List.mem_cons, List.not_mem_nil, or_false, forall_eq_or_imp, forall_eq]; simp [hget, rens, Tok.ren, SV.ren, SV.renL])
          try simp [bitsL, bitsN, nowN]
        · (simp only [List.mem_cons, List.not_mem_nil, or_false, forall_eq_or_imp, forall_eq, Tok.lt, SV.lt, SV.ltL, and_true, true_and] <;> omega)
        · ((try simp only []); repeat first | exact HLe.refl _ | refine HLe.cons (by simp only [hget, Nat.reduceEqDiff, Nat.left_eq_add, Nat.add_eq_left, nm_ne2, nm_en2, nm_ne3, nm_en3, nm_ne4, nm_en4, nm_ne5, nm_en5, reduceIte, ↓reduceIte] <;> rfl) ?_ | refine HLe.skip hnm (by omega) ?_ | refine HLe.frz hnm (by omega) ?_ | refine HLe.del hnm (by omega) ?_)
      · obtain ⟨i, hi⟩ := i
        simp only at hB
        by_cases hil : i < 6
        · have c1 : decide ((i : Int) < 6) = true := decide_eq_true (by omega)
          have eu : IntKind.u64.wrap (i : Int) = i := wrap_u64 (by omega) (by omega)
          have l1 := bitsN_len f i
          have l2 := bitsL_len f i
          have l3 := nowN_len f i
          have s1 := bitsN_step f i
          have s2 := bitsL_step f i
          have s3 := nowN_step f i
          have next : ∀ S', Leq nx S' { f := [(12, .int .i64 ((i + 1) : Nat)), (0, .int .i64 m), (5, .bool true), (1, .bool true), (11, .int .i64 (nowN f (i + 1))), (6, .ptr nx 0), (9, .vec (nx + 1)), (10, .int .i64 ((bitsN f (i + 1)).length))], h := [(nx, .cells [.int .i64 1, .dat (.slice 3) (.list (sixL 0)), .dat (.slice 3) (.list nineD)]), (nx + 1, .arr 3 (.int .i64) (bitsL f (i + 1)))] ++ h, nx := nx + 2 } → B S' := fun S' hl => hB _ ⟨i + 1, by omega⟩ (by simp only []; omega) hl
          rcases bool_ft (f i) with hf | hf
          · have cb : (bitI .and .i64 (m.fdiv (2 ^ min i IntKind.i64.bits)) 1 == 1) = false := hf
            rw [hf] at s1 s2 s3
            simp only [Bool.false_eq_true, if_false, false_and, List.append_nil, Nat.add_zero] at s1 s2 s3
            rw [s1, s2, s3] at next
            simp (maxSteps := 4000000) only [walkSet, eq_self, implies_true, evMdl, evMupD, evMup, evLkp, Int.reduceEq, Int.reduceBEq, Int.reduceBNe, Int.reduceLE, Int.reduceLT, Int.reduceAdd, Int.reduceSub, Int.reduceMul, Int.reduceNeg, frpL, preF, preP, prePt, prePd, frzP, evNlq, ev, frOf, oget, ogets, argSs, argS, evMm, frzL, evBin, evWrp, evShf, evCmp, evUna, evNil, evBeq, evLd, evSt, evFad, evIad, evAad, evLen, evSln, evEls, evApp, evParts, evSlc, evNlc, evMif, evPck, evFld, evBld, evTas, evIfq, evSeq, evSl0, evBxf, evAgl, evAgq, evBsf, hget, hset, hdel, cellAt, arrAt, setCellAt, setArrAt, takeC, lenC, svCells, SV.okc, SV.one, ldSV, Fw.isAgg, Nat.reduceMul, Nat.reduceSub, Nat.reduceLeDiff, Nat.reduceLT, explode, explodeL, toD, toDL, toD1, Ty.size, Ty.sizeL, frz1, Fr.sub, Heap.sub, Tok.sub, SV.sub, SV.subL, Nat.reduceEqDiff, Nat.reduceAdd, reduceCtorEq, ↓reduceIte, reduceIte, c1, eu, cb, Int.toNat_natCast, min_i64, max_i64]
            repeat refine ⟨by omega, ?_⟩
            refine next _ ?_
            refine leq_id ?_ (by (simp only [frLt_cons, frLt_nil, and_true, SV.lt, SV.ltL, true_and] <;> omega)) (by ((try simp only []); repeat first | exact HLe.refl _ | refine HLe.cons (by simp only [hget, Nat.reduceEqDiff, Nat.left_eq_add, Nat.add_eq_left, nm_ne2, nm_en2, nm_ne3, nm_en3, nm_ne4, nm_en4, nm_ne5, nm_en5, reduceIte, ↓reduceIte] <;> rfl) ?_ | refine HLe.skip hnm (by omega) ?_ | refine HLe.frz hnm (by omega) ?_ | refine HLe.del hnm (by omega) ?_)) (by (repeat first | exact HLt.mono hnm (by simp only [] <;> omega) | refine HLt.cons (by simp only [] <;> omega) (by simp only [Tok.lt, SV.ltL, SV.lt, and_true, true_and] <;> omega) ?_)) (by simp only [] <;> omega)
            simp only [frEq_cons, frEq_nil, frIn_cons, frIn_nil, and_true, fget_cons, Nat.reduceEqDiff, reduceIte, ↓reduceIte, true_and, SV.ren, SV.renL, ren1]
            simp
          · have cb : (bitI .and .i64 (m.fdiv (2 ^ min i IntKind.i64.bits)) 1 == 1) = true := hf
            rw [hf] at s1 s2 s3
            simp only [if_true] at s1 s2
            have s1' := congrArg List.length s1
            rw [List.length_append] at s1'
            simp only [List.length_cons, List.length_nil] at s1'
            by_cases h0 : 0 < i
            · have c2 : decide (0 < (i : Int)) = true := decide_eq_true (by omega)
              rw [if_pos ⟨rfl, h0⟩] at s3
              rw [s1', s2, s3] at next
              simp (maxSteps := 4000000) only [walkSet, eq_self, implies_true, evMdl, evMupD, evMup, evLkp, Int.reduceEq, Int.reduceBEq, Int.reduceBNe, Int.reduceLE, Int.reduceLT, Int.reduceAdd, Int.reduceSub, Int.reduceMul, Int.reduceNeg, frpL, preF, preP, prePt, prePd, frzP, evNlq, ev, frOf, oget, ogets, argSs, argS, evMm, frzL, evBin, evWrp, evShf, evCmp, evUna, evNil, evBeq, evLd, evSt, evFad, evIad, evAad, evLen, evSln, evEls, evApp, evParts, evSlc, evNlc, evMif, evPck, evFld, evBld, evTas, evIfq, evSeq, evSl0, evBxf, evAgl, evAgq, evBsf, hget, hset, hdel, cellAt, arrAt, setCellAt, setArrAt, takeC, lenC, svCells, SV.okc, SV.one, ldSV, Fw.isAgg, Nat.reduceMul, Nat.reduceSub, Nat.reduceLeDiff, Nat.reduceLT, explode, explodeL, toD, toDL, toD1, Ty.size, Ty.sizeL, frz1, Fr.sub, Heap.sub, Tok.sub, SV.sub, SV.subL, Nat.reduceEqDiff, Nat.reduceAdd, reduceCtorEq, ↓reduceIte, reduceIte, c1, c2, eu, cb, Int.toNat_natCast, min_i64, max_i64]
              repeat refine ⟨by omega, ?_⟩
              refine next _ ?_
              refine leq_news [(nx, nx), (nx + 1, nx + 2 + 1)] [(nx, .cells [.int .i64 1, .dat (.slice 3) (.list (sixL 0)), .dat (.slice 3) (.list nineD)]), (nx + 1, .arr 3 (.int .i64) (bitsL f i ++ [D.int (i : Int)]))] (.refl _) (by simp) (by simp <;> omega) (by simp <;> omega) rfl ?_ ?_ ?_ ?_ hnm ?_ (by omega)
              · simp [frIn_cons, frIn_nil, fget_cons, fget_nil, SV.ren, SV.renL, rens]
              · (simp only [frLt_cons, frLt_nil, and_true, SV.lt, SV.ltL, true_and] <;> omega)
              · (simp only [List.mem_cons, List.not_mem_nil, or_false, forall_eq_or_imp, forall_eq]; simp [hget, rens, Tok.ren, SV.ren, SV.renL])
                omega
              · (simp only [List.mem_cons, List.not_mem_nil, or_false, forall_eq_or_imp, forall_eq, Tok.lt, SV.lt, SV.ltL, and_true, true_and] <;> omega)
              · ((try simp only []); repeat first | exact HLe.refl _ | refine HLe.cons (by simp only [hget, Nat.reduceEqDiff, Nat.left_eq_add, Nat.add_eq_left, nm_ne2, nm_en2, nm_ne3, nm_en3, nm_ne4, nm_en4, nm_ne5, nm_en5, reduceIte, ↓reduceIte] <;> rfl) ?_ | refine HLe.skip hnm (by omega) ?_ | refine HLe.frz hnm (by omega) ?_ | refine HLe.del hnm (by omega) ?_)
            · have c2 : decide (0 < (i : Int)) = false := decide_eq_false (by omega)
              rw [if_neg (fun h => h0 h.2)] at s3
              rw [s1', s2, s3] at next
              simp (maxSteps := 4000000) only [walkSet, eq_self, implies_true, evMdl, evMupD, evMup, evLkp, Int.reduceEq, Int.reduceBEq, Int.reduceBNe, Int.reduceLE, Int.reduceLT, Int.reduceAdd, Int.reduceSub, Int.reduceMul, Int.reduceNeg, frpL, preF, preP, prePt, prePd, frzP, evNlq, ev, frOf, oget, ogets, argSs, argS, evMm, frzL, evBin, evWrp, evShf, evCmp, evUna, evNil, evBeq, evLd, evSt, evFad, evIad, evAad, evLen, evSln, evEls, evApp, evParts, evSlc, evNlc, evMif, evPck, evFld, evBld, evTas, evIfq, evSeq, evSl0, evBxf, evAgl, evAgq, evBsf, hget, hset, hdel, cellAt, arrAt, setCellAt, setArrAt, takeC, lenC, svCells, SV.okc, SV.one, ldSV, Fw.isAgg, Nat.reduceMul, Nat.reduceSub, Nat.reduceLeDiff, Nat.reduceLT, explode, explodeL, toD, toDL, toD1, Ty.size, Ty.sizeL, frz1, Fr.sub, Heap.sub, Tok.sub, SV.sub, SV.subL, Nat.reduceEqDiff, Nat.reduceAdd, reduceCtorEq, ↓reduceIte, reduceIte, c1, c2, eu, cb, Int.toNat_natCast, min_i64, max_i64]
              repeat refine ⟨by omega, ?_⟩
              refine next _ ?_
              refine leq_news [(nx, nx), (nx + 1, nx + 2 + 1)] [(nx, .cells [.int .i64 1, .dat (.slice 3) (.list (sixL 0)), .dat (.slice 3) (.list nineD)]), (nx + 1, .arr 3 (.int .i64) (bitsL f i ++ [D.int (i : Int)]))] (.refl _) (by simp) (by simp <;> omega) (by simp <;> omega) rfl ?_ ?_ ?_ ?_ hnm ?_ (by omega)
              · simp [frIn_cons, frIn_nil, fget_cons, fget_nil, SV.ren, SV.renL, rens]
              · (simp only [frLt_cons, frLt_nil, and_true, SV.lt, SV.ltL, true_and] <;> omega)
              · (simp only [List.mem_cons, List.not_mem_nil, or_false, forall_eq_or_imp, forall_eq]; simp [hget, rens, Tok.ren, SV.ren, SV.renL])
                omega
              · (simp only [List.mem_cons, List.not_mem_nil, or_false, forall_eq_or_imp, forall_eq, Tok.lt, SV.lt, SV.ltL, and_true, true_and] <;> omega)
              · ((try simp only []); repeat first | exact HLe.refl _ | refine HLe.cons (by simp only [hget, Nat.reduceEqDiff, Nat.left_eq_add, Nat.add_eq_left, nm_ne2, nm_en2, nm_ne3, nm_en3, nm_ne4, nm_en4, nm_ne5, nm_en5, reduceIte, ↓reduceIte] <;> rfl) ?_ | refine HLe.skip hnm (by omega) ?_ | refine HLe.frz hnm (by omega) ?_ | refine HLe.del hnm (by omega) ?_)
        · obtain rfl : i = 6 := by omega
          have c1 : decide (((6 : Nat) : Int) < 6) = false := rfl
          have e6 : Int.toNat 6 = 6 := rfl
          rcases bool_ft (bitI .and .i64 (m.fdiv (2 ^ min 6 IntKind.i64.bits)) 1 == 1) with h9 | h9
          · simp (maxSteps := 4000000) only [walkSet, eq_self, implies_true, evMdl, evMupD, evMup, evLkp, Int.reduceEq, Int.reduceBEq, Int.reduceBNe, Int.reduceLE, Int.reduceLT, Int.reduceAdd, Int.reduceSub, Int.reduceMul, Int.reduceNeg, frpL, preF, preP, prePt, prePd, frzP, evNlq, ev, frOf, oget, ogets, argSs, argS, evMm, frzL, evBin, evWrp, evShf, evCmp, evUna, evNil, evBeq, evLd, evSt, evFad, evIad, evAad, evLen, evSln, evEls, evApp, evParts, evSlc, evNlc, evMif, evPck, evFld, evBld, evTas, evIfq, evSeq, evSl0, evBxf, evAgl, evAgq, evBsf, hget, hset, hdel, cellAt, arrAt, setCellAt, setArrAt, takeC, lenC, svCells, SV.okc, SV.one, ldSV, Fw.isAgg, Nat.reduceMul, Nat.reduceSub, Nat.reduceLeDiff, Nat.reduceLT, explode, explodeL, toD, toDL, toD1, Ty.size, Ty.sizeL, frz1, Fr.sub, Heap.sub, Tok.sub, SV.sub, SV.subL, Nat.reduceEqDiff, Nat.reduceAdd, reduceCtorEq, ↓reduceIte, reduceIte, c1, spCWrite, spCRead, spCBase, q9_enough, q9_base, setV_some, spQHasD, SV.one, q9_ok, q6_ok, q9_has, q6_has, old_count, now_count, e6, h9]
            rcases bool_ft (decide (4 ≤ ((bitsN f 6).length : Int))) with h4 | h4 <;> rcases bool_ft (decide (3 ≤ ((bitsN f 6).length : Int))) with h3 | h3 <;> rcases bool_ft (decide (4 ≤ ((nowN f 6 : Nat) : Int))) with n4 | n4 <;> rcases bool_ft (decide (3 ≤ ((nowN f 6 : Nat) : Int))) with n3 | n3 <;> simp only [h4, h3, n4, n3, beq_self_eq_true, Bool.false_eq_true, Bool.true_eq_false, reduceCtorEq, false_implies, forall_const, implies_true, and_true, true_and, true_implies, Bool.not_true, Bool.not_false, Bool.true_and, Bool.false_and, Bool.and_true, Bool.and_false] <;> exact ret _ _ _ rfl (by ((try simp only []); repeat first | exact HLe.refl _ | refine HLe.cons (by simp only [hget, Nat.reduceEqDiff, Nat.left_eq_add, Nat.add_eq_left, nm_ne2, nm_en2, nm_ne3, nm_en3, nm_ne4, nm_en4, nm_ne5, nm_en5, reduceIte, ↓reduceIte] <;> rfl) ?_ | refine HLe.skip hnm (by omega) ?_ | refine HLe.frz hnm (by omega) ?_ | refine HLe.del hnm (by omega) ?_))
          · simp (maxSteps := 4000000) only [walkSet, eq_self, implies_true, evMdl, evMupD, evMup, evLkp, Int.reduceEq, Int.reduceBEq, Int.reduceBNe, Int.reduceLE, Int.reduceLT, Int.reduceAdd, Int.reduceSub, Int.reduceMul, Int.reduceNeg, frpL, preF, preP, prePt, prePd, frzP, evNlq, ev, frOf, oget, ogets, argSs, argS, evMm, frzL, evBin, evWrp, evShf, evCmp, evUna, evNil, evBeq, evLd, evSt, evFad, evIad, evAad, evLen, evSln, evEls, evApp, evParts, evSlc, evNlc, evMif, evPck, evFld, evBld, evTas, evIfq, evSeq, evSl0, evBxf, evAgl, evAgq, evBsf, hget, hset, hdel, cellAt, arrAt, setCellAt, setArrAt, takeC, lenC, svCells, SV.okc, SV.one, ldSV, Fw.isAgg, Nat.reduceMul, Nat.reduceSub, Nat.reduceLeDiff, Nat.reduceLT, explode, explodeL, toD, toDL, toD1, Ty.size, Ty.sizeL, frz1, Fr.sub, Heap.sub, Tok.sub, SV.sub, SV.subL, Nat.reduceEqDiff, Nat.reduceAdd, reduceCtorEq, ↓reduceIte, reduceIte, c1, spCWrite, spCRead, spCBase, q9_enough, q9_base, setV_some, spQHasD, SV.one, q9_ok, q6_ok, q9_has, q6_has, old_count9, now_count9, e6, h9]
            have l2 := bitsL_len f 6
            have l3 := nowN_len f 6
            have en : ((nowN f 6 + 1 : Nat) : Int) = (nowN f 6 : Int) + 1 := by omega
            rw [en]
            refine ⟨by omega, ⟨by rw [min_i64]; omega, by rw [max_i64]; omega⟩, ?_⟩
            rcases bool_ft (decide (4 ≤ ((bitsN f 6).length : Int))) with h4 | h4 <;> rcases bool_ft (decide (3 ≤ ((bitsN f 6).length : Int))) with h3 | h3 <;> rcases bool_ft (decide (4 ≤ (nowN f 6 : Int) + 1)) with n4 | n4 <;> rcases bool_ft (decide (3 ≤ (nowN f 6 : Int) + 1)) with n3 | n3 <;> simp only [h4, h3, n4, n3, beq_self_eq_true, Bool.false_eq_true, Bool.true_eq_false, reduceCtorEq, false_implies, forall_const, implies_true, and_true, true_and, true_implies, Bool.not_true, Bool.not_false, Bool.true_and, Bool.false_and, Bool.and_true, Bool.and_false] <;> exact ret _ _ _ rfl (by ((try simp only []); repeat first | exact HLe.refl _ | refine HLe.cons (by simp only [hget, Nat.reduceEqDiff, Nat.left_eq_add, Nat.add_eq_left, nm_ne2, nm_en2, nm_ne3, nm_en3, nm_ne4, nm_en4, nm_ne5, nm_en5, reduceIte, ↓reduceIte] <;> rfl) ?_ | refine HLe.skip hnm (by omega) ?_ | refine HLe.frz hnm (by omega) ?_ | refine HLe.del hnm (by omega) ?_))
  · exact hsp.elim
end Go.Proofs.YtkojpimkngmckaaDoor
