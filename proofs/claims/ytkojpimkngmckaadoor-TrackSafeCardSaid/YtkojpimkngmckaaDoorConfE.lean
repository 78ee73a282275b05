/- Chapter 7: Write, Read, Base. -/
import Derived.Test.YtkojpimkngmckaaDoorConfD
namespace Go.Proofs.YtkojpimkngmckaaDoor
set_option linter.unusedVariables false
set_option linter.unusedSimpArgs false
open Go Go.Fw
attribute [local go_sem] walkSet evMdl evMupD evMup evLkp frpL preF preP prePt prePd frzP evNlq ev frOf oget ogets argSs argS evMm frzL evBin evWrp evShf evCmp evUna evNil evBeq evLd evSt evFad evIad evAad evLen evSln evEls evApp evParts evSlc evNlc evMif evPck evFld evBld evTas evIfq evSeq evSl0 evBxf evAgl evAgq evBsf hget hset hdel cellAt arrAt setCellAt setArrAt takeC lenC svCells SV.okc SV.one ldSV Fw.isAgg explode explodeL toD toDL toD1 Ty.size Ty.sizeL frz1 Fr.sub Heap.sub Tok.sub SV.sub SV.subL

theorem setV_none : setV none = .agg [.dat (.ptr 139) .nil, .nils, .int .i64 0] := rfl
theorem setV_some (q : QP) (l : List D) (n : Int) : setV (some (q, l, n)) = .agg [.dat (.ptr 139) q.enc, .dat (.slice 3) (.list l), .int .i64 n] := rfl
def WCWrite : Opts := mkWE 5 [] [3, 4, 5] [] 184 [3, 4, 5] []
def icCWrite : IC := (.seq (.seq (.ops [(.u (.box 1 0 (.s 0))), (.u (.alc 2 [(.dat (.ptr 139) .nil), .nils, (.int .i64 0)]))]) (.tr [1, 2])) (.seq (.seq (.ops [(.u (.ld 3 (.strct [(.int .i64), (.slice 3), (.slice 3)]) (.s 1))), (.u (.call 4 (.c (.clo 73 [])) [(.s 3), (.c (.int .i64 4)), (.c (.bool true))] [none, none, none] true)), (.u (.st (.strct [(.ptr 139), (.slice 3), (.int .i64)]) (.s 2) (.s 4)))]) (.tr [2])) .ret))
def rsCWrite : List RV := [(.c 2 (.strct [(.ptr 139), (.slice 3), (.int .i64)]))]
theorem irCWrite : fnIR Tryd.prog WCWrite 18 = some (icCWrite, rsCWrite) := by kernel_rfl
def spCWrite : FSpec := fun args h nx K => match args with
  | [.agg [.int .i64 e, .dat (.slice t) o, .dat (.slice t') n]] => t = 3 ∧ t' = 3 ∧ K (setV (enoughQ e o.l n.l 4 true)) h
  | _ => False
set_option maxHeartbeats 4000000 in
set_option maxRecDepth 8000 in
theorem vCWrite {E : Nat → Value} (hE : Errs2 Tryd.prog (some 184) E) : Valid Tryd.prog E (gs GCE) 18 spCWrite := by
  refine valid_go (W := WCWrite) hE (allValid_bot.add (up (vCEnough hE))) irCWrite (by decide) (fun args h nx K hsp hok hnm => ?_)
  unfold spCWrite at hsp
  split at hsp
  · rename_i e t o t' n
    obtain ⟨rfl, rfl, hK⟩ := hsp
    refine ⟨by simp [WCWrite, mkW, mkWE, mkWF], fun Q hQ => ?_⟩
    generalize hq : enoughQ e o.l n.l 4 true = q at hK
    have g4 : (1 : Int) ≤ 4 := by decide
    have g5 : (4 : Int) ≤ 6 := by decide
    rcases q with _ | ⟨q, l, m⟩
    all_goals
      simp (maxSteps := 4000000) only [icCWrite, go_sem, goD_calls, eq_self, implies_true, Int.reduceEq, Int.reduceBEq, Int.reduceBNe, Int.reduceLE, Int.reduceLT, Int.reduceAdd, Int.reduceSub, Int.reduceMul, Int.reduceNeg, Nat.reduceMul, Nat.reduceSub, Nat.reduceLeDiff, Nat.reduceLT, Nat.reduceEqDiff, Nat.reduceAdd, reduceCtorEq, ↓reduceIte, reduceIte, spCEnough, g4, g5, hq, setV_none, setV_some]
      refine (hQ _ ?_).1
      refine fin_same (p := True) (xs := [_]) ?_ trivial (fun π => ?_) ?_ hnm (by ((try simp only []); repeat first | exact HLe.refl _ | refine HLe.cons (by simp only [hget, Nat.reduceEqDiff, Nat.left_eq_add, Nat.add_eq_left, nm_ne2, nm_en2, nm_ne3, nm_en3, nm_ne4, nm_en4, nm_ne5, nm_en5, reduceIte, ↓reduceIte] <;> first | rfl | ((repeat rw [if_neg (by omega)]) <;> rfl)) ?_ | refine HLe.skip hnm (by omega) ?_ | refine HLe.frz hnm (by omega) ?_ | refine HLe.del hnm (by omega) ?_)) hK
      · simp only [rsCWrite, evRs, evR, go_sem, goD_calls, eq_self, implies_true, Int.reduceEq, Int.reduceBEq, Int.reduceBNe, Int.reduceLE, Int.reduceLT, Int.reduceAdd, Int.reduceSub, Int.reduceMul, Int.reduceNeg, Nat.reduceMul, Nat.reduceSub, Nat.reduceLeDiff, Nat.reduceLT, Nat.reduceEqDiff, Nat.reduceAdd, reduceCtorEq, ↓reduceIte, reduceIte, setV_none, setV_some] <;> rfl
      · rfl
      · exact ⟨trivial, trivial, trivial, trivial⟩
  · exact hsp.elim
def WCRead : Opts := mkWE 5 [] [3, 4, 5] [] 184 [3, 4, 5] []
def icCRead : IC := (.seq (.seq (.ops [(.u (.box 1 0 (.s 0))), (.u (.alc 2 [(.dat (.ptr 139) .nil), .nils, (.int .i64 0)]))]) (.tr [1, 2])) (.seq (.seq (.ops [(.u (.ld 3 (.strct [(.int .i64), (.slice 3), (.slice 3)]) (.s 1))), (.u (.call 4 (.c (.clo 73 [])) [(.s 3), (.c (.int .i64 3)), (.c (.bool true))] [none, none, none] true)), (.u (.st (.strct [(.ptr 139), (.slice 3), (.int .i64)]) (.s 2) (.s 4)))]) (.tr [2])) .ret))
def rsCRead : List RV := [(.c 2 (.strct [(.ptr 139), (.slice 3), (.int .i64)]))]
theorem irCRead : fnIR Tryd.prog WCRead 20 = some (icCRead, rsCRead) := by kernel_rfl
def spCRead : FSpec := fun args h nx K => match args with
  | [.agg [.int .i64 e, .dat (.slice t) o, .dat (.slice t') n]] => t = 3 ∧ t' = 3 ∧ K (setV (enoughQ e o.l n.l 3 true)) h
  | _ => False
set_option maxHeartbeats 4000000 in
set_option maxRecDepth 8000 in
theorem vCRead {E : Nat → Value} (hE : Errs2 Tryd.prog (some 184) E) : Valid Tryd.prog E (gs GCE) 20 spCRead := by
  refine valid_go (W := WCRead) hE (allValid_bot.add (up (vCEnough hE))) irCRead (by decide) (fun args h nx K hsp hok hnm => ?_)
  unfold spCRead at hsp
  split at hsp
  · rename_i e t o t' n
    obtain ⟨rfl, rfl, hK⟩ := hsp
    refine ⟨by simp [WCRead, mkW, mkWE, mkWF], fun Q hQ => ?_⟩
    generalize hq : enoughQ e o.l n.l 3 true = q at hK
    have g4 : (1 : Int) ≤ 3 := by decide
    have g5 : (3 : Int) ≤ 6 := by decide
    rcases q with _ | ⟨q, l, m⟩
    all_goals
      simp (maxSteps := 4000000) only [icCRead, go_sem, goD_calls, eq_self, implies_true, Int.reduceEq, Int.reduceBEq, Int.reduceBNe, Int.reduceLE, Int.reduceLT, Int.reduceAdd, Int.reduceSub, Int.reduceMul, Int.reduceNeg, Nat.reduceMul, Nat.reduceSub, Nat.reduceLeDiff, Nat.reduceLT, Nat.reduceEqDiff, Nat.reduceAdd, reduceCtorEq, ↓reduceIte, reduceIte, spCEnough, g4, g5, hq, setV_none, setV_some]
      refine (hQ _ ?_).1
      refine fin_same (p := True) (xs := [_]) ?_ trivial (fun π => ?_) ?_ hnm (by ((try simp only []); repeat first | exact HLe.refl _ | refine HLe.cons (by simp only [hget, Nat.reduceEqDiff, Nat.left_eq_add, Nat.add_eq_left, nm_ne2, nm_en2, nm_ne3, nm_en3, nm_ne4, nm_en4, nm_ne5, nm_en5, reduceIte, ↓reduceIte] <;> first | rfl | ((repeat rw [if_neg (by omega)]) <;> rfl)) ?_ | refine HLe.skip hnm (by omega) ?_ | refine HLe.frz hnm (by omega) ?_ | refine HLe.del hnm (by omega) ?_)) hK
      · simp only [rsCRead, evRs, evR, go_sem, goD_calls, eq_self, implies_true, Int.reduceEq, Int.reduceBEq, Int.reduceBNe, Int.reduceLE, Int.reduceLT, Int.reduceAdd, Int.reduceSub, Int.reduceMul, Int.reduceNeg, Nat.reduceMul, Nat.reduceSub, Nat.reduceLeDiff, Nat.reduceLT, Nat.reduceEqDiff, Nat.reduceAdd, reduceCtorEq, ↓reduceIte, reduceIte, setV_none, setV_some] <;> rfl
      · rfl
      · exact ⟨trivial, trivial, trivial, trivial⟩
  · exact hsp.elim
def WCBase : Opts := mkWE 5 [] [3, 4, 5] [] 184 [3, 4, 5] []
def icCBase : IC := (.seq (.seq (.ops [(.u (.box 1 0 (.s 0))), (.u (.alc 2 [(.dat (.ptr 139) .nil), .nils, (.int .i64 0)]))]) (.tr [1, 2])) (.seq (.seq (.ops [(.u (.ld 3 (.strct [(.int .i64), (.slice 3), (.slice 3)]) (.s 1))), (.u (.call 4 (.c (.clo 73 [])) [(.s 3), (.c (.int .i64 3)), (.c (.bool false))] [none, none, none] true)), (.u (.st (.strct [(.ptr 139), (.slice 3), (.int .i64)]) (.s 2) (.s 4)))]) (.tr [2])) .ret))
def rsCBase : List RV := [(.c 2 (.strct [(.ptr 139), (.slice 3), (.int .i64)]))]
theorem irCBase : fnIR Tryd.prog WCBase 21 = some (icCBase, rsCBase) := by kernel_rfl
def spCBase : FSpec := fun args h nx K => match args with
  | [.agg [.int .i64 e, .dat (.slice t) o, .dat (.slice t') n]] => t = 3 ∧ t' = 3 ∧ K (setV (enoughQ e o.l n.l 3 false)) h
  | _ => False
set_option maxHeartbeats 4000000 in
set_option maxRecDepth 8000 in
theorem vCBase {E : Nat → Value} (hE : Errs2 Tryd.prog (some 184) E) : Valid Tryd.prog E (gs GCE) 21 spCBase := by
  refine valid_go (W := WCBase) hE (allValid_bot.add (up (vCEnough hE))) irCBase (by decide) (fun args h nx K hsp hok hnm => ?_)
  unfold spCBase at hsp
  split at hsp
  · rename_i e t o t' n
    obtain ⟨rfl, rfl, hK⟩ := hsp
    refine ⟨by simp [WCBase, mkW, mkWE, mkWF], fun Q hQ => ?_⟩
    generalize hq : enoughQ e o.l n.l 3 false = q at hK
    have g4 : (1 : Int) ≤ 3 := by decide
    have g5 : (3 : Int) ≤ 6 := by decide
    rcases q with _ | ⟨q, l, m⟩
    all_goals
      simp (maxSteps := 4000000) only [icCBase, go_sem, goD_calls, eq_self, implies_true, Int.reduceEq, Int.reduceBEq, Int.reduceBNe, Int.reduceLE, Int.reduceLT, Int.reduceAdd, Int.reduceSub, Int.reduceMul, Int.reduceNeg, Nat.reduceMul, Nat.reduceSub, Nat.reduceLeDiff, Nat.reduceLT, Nat.reduceEqDiff, Nat.reduceAdd, reduceCtorEq, ↓reduceIte, reduceIte, spCEnough, g4, g5, hq, setV_none, setV_some]
      refine (hQ _ ?_).1
      refine fin_same (p := True) (xs := [_]) ?_ trivial (fun π => ?_) ?_ hnm (by ((try simp only []); repeat first | exact HLe.refl _ | refine HLe.cons (by simp only [hget, Nat.reduceEqDiff, Nat.left_eq_add, Nat.add_eq_left, nm_ne2, nm_en2, nm_ne3, nm_en3, nm_ne4, nm_en4, nm_ne5, nm_en5, reduceIte, ↓reduceIte] <;> first | rfl | ((repeat rw [if_neg (by omega)]) <;> rfl)) ?_ | refine HLe.skip hnm (by omega) ?_ | refine HLe.frz hnm (by omega) ?_ | refine HLe.del hnm (by omega) ?_)) hK
      · simp only [rsCBase, evRs, evR, go_sem, goD_calls, eq_self, implies_true, Int.reduceEq, Int.reduceBEq, Int.reduceBNe, Int.reduceLE, Int.reduceLT, Int.reduceAdd, Int.reduceSub, Int.reduceMul, Int.reduceNeg, Nat.reduceMul, Nat.reduceSub, Nat.reduceLeDiff, Nat.reduceLT, Nat.reduceEqDiff, Nat.reduceAdd, reduceCtorEq, ↓reduceIte, reduceIte, setV_none, setV_some] <;> rfl
      · rfl
      · exact ⟨trivial, trivial, trivial, trivial⟩
  · exact hsp.elim

/-! ### Ends of what gives a configuration -/
theorem fin_cfg0 {nb : Nat} {h : Heap} {K : SV → Heap → Prop} {rs : List RV} {S : SSt} {e : Int} {d : D} (he : evRs rs S = some (True, [.agg [.int .i64 e, .nils, .nils], .dat .iface d])) (hl : HLt h nb) (hs : HLe h S.h) (hk : K (.tup [cfgA e [] [], .dat .iface d]) h) : Fin nb K rs S := by
  refine fin_new (p := True) he trivial (.dtag 0 0 1 3 rfl rfl rfl rfl (.dtag 0 0 2 3 rfl rfl rfl rfl (.refl _))) [] (.tup [cfgA e [] [], .dat .iface d]) [] (by simp) (by simp) (by simp) ?_ ?_ rfl (by simp) (by simp) hl hs hk
  · rfl
  · exact ⟨⟨trivial, trivial, trivial, trivial⟩, trivial, trivial⟩
theorem fin_cfg1 {nb : Nat} {h : Heap} {K : SV → Heap → Prop} {rs : List RV} {S : SSt} {e : Int} {o : List D} {d : D} (he : evRs rs S = some (True, [.agg [.int .i64 e, .dat (.slice 3) (.list o), .nils], .dat .iface d])) (hl : HLt h nb) (hs : HLe h S.h) (hk : K (.tup [cfgA e o [], .dat .iface d]) h) : Fin nb K rs S := by
  refine fin_new (p := True) he trivial (.dtag 0 0 2 3 rfl rfl rfl rfl (.refl _)) [] (.tup [cfgA e o [], .dat .iface d]) [] (by simp) (by simp) (by simp) ?_ ?_ rfl (by simp) (by simp) hl hs hk
  · rfl
  · exact ⟨⟨trivial, trivial, trivial, trivial⟩, trivial, trivial⟩
theorem fin_cfg2 {nb : Nat} {h : Heap} {K : SV → Heap → Prop} {rs : List RV} {S : SSt} {e : Int} {o n : List D} {d : D} (he : evRs rs S = some (True, [.agg [.int .i64 e, .dat (.slice 3) (.list o), .dat (.slice 3) (.list n)], .dat .iface d])) (hl : HLt h nb) (hs : HLe h S.h) (hk : K (.tup [cfgA e o n, .dat .iface d]) h) : Fin nb K rs S := by
  refine fin_new (p := True) he trivial (.refl _) [] (.tup [cfgA e o n, .dat .iface d]) [] (by simp) (by simp) (by simp) ?_ ?_ rfl (by simp) (by simp) hl hs hk
  · rfl
  · exact ⟨⟨trivial, trivial, trivial, trivial⟩, trivial, trivial⟩

abbrev GCB : List Nat := [0, 1, 2, 3, 4]
def beginE (e : Int) (o n : List D) (x y : Int) : D :=
  if (validC e o n).isNil = false then validC e o n
  else if 0 < n.length then .err 0
  else if idxI (fun z => x == z) o < 0 then .err 1
  else if hasI o y = true then .err 2
  else if nodeB y = false ∨ e = 1073741824 then .err 3
  else .nil
def beginR (e : Int) (o n : List D) (x y : Int) : SV :=
  if (beginE e o n x y).isNil = true then cfgA (e + 1) o (o.set (idxI (fun z => x == z) o).toNat (.int y)) else cfgA 0 [] []
def WCBegin : Opts := mkWE 66 [] [0, 1, 2, 3, 4] [] 184 [0, 1, 2, 3, 4] []
def icCBegin : IC := (.seq (.seq (.ops [(.u (.box 3 0 (.s 0))), (.u (.alc 6 [(.int .i64 0), .nils, .nils])), (.u (.mov 7 (.c (.dat .iface .nil))))]) (.tr [1, 2, 3, 6])) (.seq (.seq (.seq (.ops [(.u (.ld 10 (.strct [(.int .i64), (.slice 3), (.slice 3)]) (.s 3))), (.u (.call 11 (.c (.clo 49 [])) [(.s 10)] [none] true)), (.u (.mov 8 (.s 11)))]) (.tr [8, 1, 2, 3, 6])) (.seq (.seq (.ops [(.u (.mov 12 (.s 8))), (.u (.eqb 13 true 0 (.s 12)))]) (.tr [13, 8, 1, 2, 3, 6])) (.cond (.s 13) (.seq (.seq (.ops [(.u (.bld 14 [[(.int .i64 0)], [.nils], [.nils]] [])), (.u (.mov 15 (.s 8))), (.u (.st (.strct [(.int .i64), (.slice 3), (.slice 3)]) (.s 6) (.s 14))), (.u (.mov 7 (.s 15)))]) (.tr [6, 7])) .ret) .skip))) (.seq (.seq (.ops [(.u (.fad 16 1 1 (.slice 3) 25 (.s 3))), (.u (.ld 17 (.slice 3) (.s 16))), (.u (.mov 18 (.s 1))), (.u (.call 19 (.c (.clo 68 [])) [(.s 17), (.s 18)] [(some 3), none] true)), (.u (.mov 9 (.s 19)))]) (.tr [9, 2, 3, 6])) (.seq (.block 0 (.seq (.seq (.ops [(.u (.fad 21 2 2 (.slice 3) 25 (.s 3))), (.u (.ld 22 (.slice 3) (.s 21))), (.u (.len 23 false (.s 22))), (.u (.cmp 24 .gtr (.s 23) (.c (.int .i64 0)))), (.u (.mov 20 (.s 24)))]) (.tr [20, 9, 2, 3, 6])) (.cond (.s 20) (.seq (.seq (.rgn [] [(false, (.u (.bld 25 [[(.int .i64 0)], [.nils], [.nils]] []))), (false, (.u (.gld 26 0))), (false, (.u (.st (.strct [(.int .i64), (.slice 3), (.slice 3)]) (.s 6) (.s 25)))), (false, (.u (.mov 7 (.s 26))))]) (.tr [6, 7])) .ret) (.seq (.seq (.ops [(.u (.mov 28 (.s 9))), (.u (.cmp 29 .lss (.s 28) (.c (.int .i64 0)))), (.u (.mov 27 (.s 29)))]) (.tr [27, 9, 2, 3, 6])) (.cond (.s 27) (.seq (.seq (.rgn [] [(false, (.u (.bld 30 [[(.int .i64 0)], [.nils], [.nils]] []))), (false, (.u (.gld 31 1))), (false, (.u (.st (.strct [(.int .i64), (.slice 3), (.slice 3)]) (.s 6) (.s 30)))), (false, (.u (.mov 7 (.s 31))))]) (.tr [6, 7])) .ret) (.seq (.seq (.ops [(.u (.fad 33 1 1 (.slice 3) 25 (.s 3))), (.u (.ld 34 (.slice 3) (.s 33))), (.u (.mov 35 (.s 2))), (.u (.call 36 (.c (.clo 69 [])) [(.s 34), (.s 35)] [(some 3), none] true)), (.u (.mov 32 (.s 36)))]) (.tr [32, 9, 2, 3, 6])) (.cond (.s 32) (.seq (.seq (.rgn [] [(false, (.u (.bld 37 [[(.int .i64 0)], [.nils], [.nils]] []))), (false, (.u (.gld 38 2))), (false, (.u (.st (.strct [(.int .i64), (.slice 3), (.slice 3)]) (.s 6) (.s 37)))), (false, (.u (.mov 7 (.s 38))))]) (.tr [6, 7])) .ret) (.seq (.seq (.ops [(.u (.mov 40 (.s 2))), (.u (.call 41 (.c (.clo 70 [])) [(.s 40)] [none] true)), (.u (.una 42 .not (.s 41))), (.u (.mov 43 (.s 42))), (.g 43 false (some 44) (.fad 44 0 0 (.int .i64) 25 (.s 3))), (.g 43 false (some 45) (.ld 45 (.int .i64) (.s 44))), (.g 43 false (some 46) (.cmp 46 .eql (.s 45) (.c (.int .i64 1073741824)))), (.u (.pck 47 (.s 43) (.c (.bool true)) (.s 46))), (.u (.mov 39 (.s 47)))]) (.tr [39, 9, 2, 3, 6])) (.cond (.s 39) (.seq (.seq (.rgn [] [(false, (.u (.bld 48 [[(.int .i64 0)], [.nils], [.nils]] []))), (false, (.u (.gld 49 3))), (false, (.u (.st (.strct [(.int .i64), (.slice 3), (.slice 3)]) (.s 6) (.s 48)))), (false, (.u (.mov 7 (.s 49))))]) (.tr [6, 7])) .ret) .skip))))))))) (.seq (.seq (.ops [(.u (.ld 50 (.strct [(.int .i64), (.slice 3), (.slice 3)]) (.s 3))), (.u (.call 51 (.c (.clo 71 [])) [(.s 50)] [none] true)), (.u (.st (.strct [(.int .i64), (.slice 3), (.slice 3)]) (.s 3) (.s 51)))]) (.tr [9, 2, 3, 6])) (.seq (.seq (.ops [(.u (.fad 52 0 0 (.int .i64) 25 (.s 3))), (.u (.ld 53 (.int .i64) (.s 52))), (.u (.bin 54 .add .i64 (.s 53) (.c (.int .i64 1)))), (.u (.fad 55 0 0 (.int .i64) 25 (.s 3))), (.u (.st (.int .i64) (.s 55) (.s 54)))]) (.tr [9, 2, 3, 6])) (.seq (.seq (.ops [(.u (.fad 56 1 1 (.slice 3) 25 (.s 3))), (.u (.ld 57 (.slice 3) (.s 56))), (.u (.call 58 (.c (.clo 72 [])) [(.s 57)] [(some 3)] true)), (.u (.fad 59 2 2 (.slice 3) 25 (.s 3))), (.u (.st (.slice 3) (.s 59) (.s 58)))]) (.tr [9, 2, 3, 6])) (.seq (.seq (.ops [(.u (.fad 60 2 2 (.slice 3) 25 (.s 3))), (.u (.ld 61 (.slice 3) (.s 60))), (.u (.mov 62 (.s 9))), (.u (.mov 63 (.s 2))), (.u (.iad 64 3 (.int .i64) (.s 61) (.s 62))), (.u (.st (.int .i64) (.s 64) (.s 63)))]) (.tr [3, 6])) (.seq (.seq (.ops [(.u (.ld 65 (.strct [(.int .i64), (.slice 3), (.slice 3)]) (.s 3))), (.u (.st (.strct [(.int .i64), (.slice 3), (.slice 3)]) (.s 6) (.s 65))), (.u (.mov 7 (.c (.dat .iface .nil))))]) (.tr [6, 7])) .ret)))))))))
def rsCBegin : List RV := [(.c 6 (.strct [(.int .i64), (.slice 3), (.slice 3)])), (.t 7)]
theorem irCBegin : fnIR Tryd.prog WCBegin 17 = some (icCBegin, rsCBegin) := by kernel_rfl
def spCBegin : FSpec := fun args h nx K => match args with
  | [.agg [.int .i64 e, .dat (.slice t) o, .dat (.slice t') n], .int .i64 x, .int .i64 y] => t = 3 ∧ t' = 3 ∧ K (.tup [beginR e o.l n.l x y, .dat .iface (beginE e o.l n.l x y)]) h
  | _ => False
set_option maxHeartbeats 4000000 in
set_option maxRecDepth 8000 in
theorem vCBegin {E : Nat → Value} (hE : Errs2 Tryd.prog (some 184) E) : Valid Tryd.prog E (gs GCB) 17 spCBegin := by
  refine valid_go (W := WCBegin) hE ((((((allValid_bot.add (up (vCValid hE))).add (up (vSIndex hE))).add (up (vSContains hE))).add (up (vCNode hE))).add (up (vCClone hE))).add (up (vSCloneV hE))) irCBegin (by decide) (fun args h nx K hsp hok hnm => ?_)
  unfold spCBegin at hsp
  split at hsp
  · rename_i e t o t' n x y
    obtain ⟨rfl, rfl, hK⟩ := hsp
    refine ⟨by simp [WCBegin, mkW, mkWE, mkWF], fun Q hQ => ?_⟩
    obtain ⟨⟨_, ho, hn, _⟩, _⟩ := hok
    simp only [SV.ok] at ho hn
    obtain ⟨ho1, ho2, ho3⟩ := Wt.slice ho; generalize o.l = xs at *; subst ho1
    obtain ⟨hn1, hn2, hn3⟩ := Wt.slice hn; generalize n.l = ys at *; subst hn1
    have retE : ∀ d h' nx', d.isNil = false → d = beginE e xs ys x y → HLe h h' → hget h' (nx + 1) = some (.cells [.int .i64 0, .nils, .nils]) → Q Ex.ret ⟨[(6, .ptr (nx + 1) 0), (7, .dat .iface d)], h', nx'⟩ := fun d h' nx' hd hde hh hg => by
      refine (hQ _ ?_).1
      subst hde
      unfold beginR at hK
      rw [if_neg (by rw [hd]; decide)] at hK
      refine fin_cfg0 ?_ hnm hh hK
      simp only [rsCBegin, evRs, evR, go_sem, goD_calls, eq_self, implies_true, Int.reduceEq, Int.reduceBEq, Int.reduceBNe, Int.reduceLE, Int.reduceLT, Int.reduceAdd, Int.reduceSub, Int.reduceMul, Int.reduceNeg, Nat.reduceMul, Nat.reduceSub, Nat.reduceLeDiff, Nat.reduceLT, Nat.reduceEqDiff, Nat.reduceAdd, reduceCtorEq, ↓reduceIte, reduceIte, hg]
    rcases bool_ft (validC e xs ys).isNil with hv | hv
    · simp (maxSteps := 4000000) only [icCBegin, go_sem, goD_calls, eq_self, implies_true, Int.reduceEq, Int.reduceBEq, Int.reduceBNe, Int.reduceLE, Int.reduceLT, Int.reduceAdd, Int.reduceSub, Int.reduceMul, Int.reduceNeg, Nat.reduceMul, Nat.reduceSub, Nat.reduceLeDiff, Nat.reduceLT, Nat.reduceEqDiff, Nat.reduceAdd, reduceCtorEq, ↓reduceIte, reduceIte, spCValid, hv]
      exact retE _ _ _ hv (by unfold beginE; rw [if_pos hv]) (by ((try simp only []); repeat first | exact HLe.refl _ | refine HLe.cons (by simp only [hget, Nat.reduceEqDiff, Nat.left_eq_add, Nat.add_eq_left, nm_ne2, nm_en2, nm_ne3, nm_en3, nm_ne4, nm_en4, nm_ne5, nm_en5, reduceIte, ↓reduceIte] <;> first | rfl | ((repeat rw [if_neg (by omega)]) <;> rfl)) ?_ | refine HLe.skip hnm (by omega) ?_ | refine HLe.frz hnm (by omega) ?_ | refine HLe.del hnm (by omega) ?_)) (by simp only [hget, go_sem, goD_calls, eq_self, implies_true, Int.reduceEq, Int.reduceBEq, Int.reduceBNe, Int.reduceLE, Int.reduceLT, Int.reduceAdd, Int.reduceSub, Int.reduceMul, Int.reduceNeg, Nat.reduceMul, Nat.reduceSub, Nat.reduceLeDiff, Nat.reduceLT, Nat.reduceEqDiff, Nat.reduceAdd, reduceCtorEq, ↓reduceIte, reduceIte])
    obtain ⟨b0, b1, s0, s1, e0, e1⟩ := valid_good hv
    obtain ⟨l6, g6⟩ := six_good b0 s0
    have hE0 : beginE e xs ys x y = if 0 < ys.length then .err 0
        else if idxI (fun z => x == z) xs < 0 then .err 1
        else if hasI xs y = true then .err 2
        else if nodeB y = false ∨ e = 1073741824 then .err 3
        else .nil := by unfold beginE; rw [if_neg (by rw [hv]; decide)]
    by_cases hy : 0 < ys.length
    · have c1 : decide (0 < (ys.length : Int)) = true := decide_eq_true (by omega)
      rw [if_pos hy] at hE0
      simp (maxSteps := 4000000) only [icCBegin, go_sem, goD_calls, eq_self, implies_true, Int.reduceEq, Int.reduceBEq, Int.reduceBNe, Int.reduceLE, Int.reduceLT, Int.reduceAdd, Int.reduceSub, Int.reduceMul, Int.reduceNeg, Nat.reduceMul, Nat.reduceSub, Nat.reduceLeDiff, Nat.reduceLT, Nat.reduceEqDiff, Nat.reduceAdd, reduceCtorEq, ↓reduceIte, reduceIte, spCValid, hv, spSIndex, c1]
      exact retE _ _ _ rfl hE0.symm (by ((try simp only []); repeat first | exact HLe.refl _ | refine HLe.cons (by simp only [hget, Nat.reduceEqDiff, Nat.left_eq_add, Nat.add_eq_left, nm_ne2, nm_en2, nm_ne3, nm_en3, nm_ne4, nm_en4, nm_ne5, nm_en5, reduceIte, ↓reduceIte] <;> first | rfl | ((repeat rw [if_neg (by omega)]) <;> rfl)) ?_ | refine HLe.skip hnm (by omega) ?_ | refine HLe.frz hnm (by omega) ?_ | refine HLe.del hnm (by omega) ?_)) (by simp only [hget, go_sem, goD_calls, eq_self, implies_true, Int.reduceEq, Int.reduceBEq, Int.reduceBNe, Int.reduceLE, Int.reduceLT, Int.reduceAdd, Int.reduceSub, Int.reduceMul, Int.reduceNeg, Nat.reduceMul, Nat.reduceSub, Nat.reduceLeDiff, Nat.reduceLT, Nat.reduceEqDiff, Nat.reduceAdd, reduceCtorEq, ↓reduceIte, reduceIte])
    have c1 : decide (0 < (ys.length : Int)) = false := decide_eq_false (by omega)
    rw [if_neg hy] at hE0
    by_cases hx : idxI (fun z => x == z) xs < 0
    · have c2 : decide (idxI (fun z => x == z) xs < 0) = true := decide_eq_true hx
      rw [if_pos hx] at hE0
      simp (maxSteps := 4000000) only [icCBegin, go_sem, goD_calls, eq_self, implies_true, Int.reduceEq, Int.reduceBEq, Int.reduceBNe, Int.reduceLE, Int.reduceLT, Int.reduceAdd, Int.reduceSub, Int.reduceMul, Int.reduceNeg, Nat.reduceMul, Nat.reduceSub, Nat.reduceLeDiff, Nat.reduceLT, Nat.reduceEqDiff, Nat.reduceAdd, reduceCtorEq, ↓reduceIte, reduceIte, spCValid, hv, spSIndex, c1, c2]
      exact retE _ _ _ rfl hE0.symm (by ((try simp only []); repeat first | exact HLe.refl _ | refine HLe.cons (by simp only [hget, Nat.reduceEqDiff, Nat.left_eq_add, Nat.add_eq_left, nm_ne2, nm_en2, nm_ne3, nm_en3, nm_ne4, nm_en4, nm_ne5, nm_en5, reduceIte, ↓reduceIte] <;> first | rfl | ((repeat rw [if_neg (by omega)]) <;> rfl)) ?_ | refine HLe.skip hnm (by omega) ?_ | refine HLe.frz hnm (by omega) ?_ | refine HLe.del hnm (by omega) ?_)) (by simp only [hget, go_sem, goD_calls, eq_self, implies_true, Int.reduceEq, Int.reduceBEq, Int.reduceBNe, Int.reduceLE, Int.reduceLT, Int.reduceAdd, Int.reduceSub, Int.reduceMul, Int.reduceNeg, Nat.reduceMul, Nat.reduceSub, Nat.reduceLeDiff, Nat.reduceLT, Nat.reduceEqDiff, Nat.reduceAdd, reduceCtorEq, ↓reduceIte, reduceIte])
    have c2 : decide (idxI (fun z => x == z) xs < 0) = false := decide_eq_false hx
    rw [if_neg hx] at hE0
    rcases bool_ft (hasI xs y) with h3 | h3
    rotate_left
    · rw [if_pos h3] at hE0
      simp (maxSteps := 4000000) only [icCBegin, go_sem, goD_calls, eq_self, implies_true, Int.reduceEq, Int.reduceBEq, Int.reduceBNe, Int.reduceLE, Int.reduceLT, Int.reduceAdd, Int.reduceSub, Int.reduceMul, Int.reduceNeg, Nat.reduceMul, Nat.reduceSub, Nat.reduceLeDiff, Nat.reduceLT, Nat.reduceEqDiff, Nat.reduceAdd, reduceCtorEq, ↓reduceIte, reduceIte, spCValid, hv, spSIndex, c1, c2, spSContains, h3]
      exact retE _ _ _ rfl hE0.symm (by ((try simp only []); repeat first | exact HLe.refl _ | refine HLe.cons (by simp only [hget, Nat.reduceEqDiff, Nat.left_eq_add, Nat.add_eq_left, nm_ne2, nm_en2, nm_ne3, nm_en3, nm_ne4, nm_en4, nm_ne5, nm_en5, reduceIte, ↓reduceIte] <;> first | rfl | ((repeat rw [if_neg (by omega)]) <;> rfl)) ?_ | refine HLe.skip hnm (by omega) ?_ | refine HLe.frz hnm (by omega) ?_ | refine HLe.del hnm (by omega) ?_)) (by simp only [hget, go_sem, goD_calls, eq_self, implies_true, Int.reduceEq, Int.reduceBEq, Int.reduceBNe, Int.reduceLE, Int.reduceLT, Int.reduceAdd, Int.reduceSub, Int.reduceMul, Int.reduceNeg, Nat.reduceMul, Nat.reduceSub, Nat.reduceLeDiff, Nat.reduceLT, Nat.reduceEqDiff, Nat.reduceAdd, reduceCtorEq, ↓reduceIte, reduceIte])
    rw [if_neg (by rw [h3]; decide)] at hE0
    rcases bool_ft (nodeB y) with h4 | h4
    · rw [if_pos (.inl h4)] at hE0
      simp (maxSteps := 4000000) only [icCBegin, go_sem, goD_calls, eq_self, implies_true, Int.reduceEq, Int.reduceBEq, Int.reduceBNe, Int.reduceLE, Int.reduceLT, Int.reduceAdd, Int.reduceSub, Int.reduceMul, Int.reduceNeg, Nat.reduceMul, Nat.reduceSub, Nat.reduceLeDiff, Nat.reduceLT, Nat.reduceEqDiff, Nat.reduceAdd, reduceCtorEq, ↓reduceIte, reduceIte, spCValid, hv, spSIndex, c1, c2, spSContains, h3, spCNode, h4]
      exact retE _ _ _ rfl hE0.symm (by ((try simp only []); repeat first | exact HLe.refl _ | refine HLe.cons (by simp only [hget, Nat.reduceEqDiff, Nat.left_eq_add, Nat.add_eq_left, nm_ne2, nm_en2, nm_ne3, nm_en3, nm_ne4, nm_en4, nm_ne5, nm_en5, reduceIte, ↓reduceIte] <;> first | rfl | ((repeat rw [if_neg (by omega)]) <;> rfl)) ?_ | refine HLe.skip hnm (by omega) ?_ | refine HLe.frz hnm (by omega) ?_ | refine HLe.del hnm (by omega) ?_)) (by simp only [hget, go_sem, goD_calls, eq_self, implies_true, Int.reduceEq, Int.reduceBEq, Int.reduceBNe, Int.reduceLE, Int.reduceLT, Int.reduceAdd, Int.reduceSub, Int.reduceMul, Int.reduceNeg, Nat.reduceMul, Nat.reduceSub, Nat.reduceLeDiff, Nat.reduceLT, Nat.reduceEqDiff, Nat.reduceAdd, reduceCtorEq, ↓reduceIte, reduceIte])
    by_cases h5 : e = 1073741824
    · rw [if_pos (.inr h5)] at hE0
      have c5 : (e == 1073741824) = true := beq_iff_eq.2 h5
      simp (maxSteps := 4000000) only [icCBegin, go_sem, goD_calls, eq_self, implies_true, Int.reduceEq, Int.reduceBEq, Int.reduceBNe, Int.reduceLE, Int.reduceLT, Int.reduceAdd, Int.reduceSub, Int.reduceMul, Int.reduceNeg, Nat.reduceMul, Nat.reduceSub, Nat.reduceLeDiff, Nat.reduceLT, Nat.reduceEqDiff, Nat.reduceAdd, reduceCtorEq, ↓reduceIte, reduceIte, spCValid, hv, spSIndex, c1, c2, spSContains, h3, spCNode, h4, c5]
      exact retE _ _ _ rfl hE0.symm (by ((try simp only []); repeat first | exact HLe.refl _ | refine HLe.cons (by simp only [hget, Nat.reduceEqDiff, Nat.left_eq_add, Nat.add_eq_left, nm_ne2, nm_en2, nm_ne3, nm_en3, nm_ne4, nm_en4, nm_ne5, nm_en5, reduceIte, ↓reduceIte] <;> first | rfl | ((repeat rw [if_neg (by omega)]) <;> rfl)) ?_ | refine HLe.skip hnm (by omega) ?_ | refine HLe.frz hnm (by omega) ?_ | refine HLe.del hnm (by omega) ?_)) (by simp only [hget, go_sem, goD_calls, eq_self, implies_true, Int.reduceEq, Int.reduceBEq, Int.reduceBNe, Int.reduceLE, Int.reduceLT, Int.reduceAdd, Int.reduceSub, Int.reduceMul, Int.reduceNeg, Nat.reduceMul, Nat.reduceSub, Nat.reduceLeDiff, Nat.reduceLT, Nat.reduceEqDiff, Nat.reduceAdd, reduceCtorEq, ↓reduceIte, reduceIte])
    have c5 : (e == 1073741824) = false := beq_eq_false_iff_ne.2 h5
    rw [if_neg (by rw [h4]; simp [h5])] at hE0
    have hr := idx_range (fun z => x == z) xs
    have hx9 : xs.length ≤ 1000000000 := by omega
    have hy9 : ys.length ≤ 1000000000 := by omega
    simp (maxSteps := 4000000) only [icCBegin, go_sem, goD_calls, eq_self, implies_true, Int.reduceEq, Int.reduceBEq, Int.reduceBNe, Int.reduceLE, Int.reduceLT, Int.reduceAdd, Int.reduceSub, Int.reduceMul, Int.reduceNeg, Nat.reduceMul, Nat.reduceSub, Nat.reduceLeDiff, Nat.reduceLT, Nat.reduceEqDiff, Nat.reduceAdd, reduceCtorEq, ↓reduceIte, reduceIte, spCValid, hv, spSIndex, c1, c2, spSContains, h3, spCNode, h4, c5, spCClone, hx9, hy9, cfgA, spSCloneV]
    refine ⟨⟨by rw [min_i64]; omega, by rw [max_i64]; omega⟩, ⟨by omega, by omega⟩, ⟨by omega, by omega⟩, ?_⟩
    unfold beginR at hK
    rw [hE0, if_pos (show (D.nil).isNil = true from rfl)] at hK
    refine (hQ _ ?_).1
    refine fin_new (p := True) (xs := [.agg [.int .i64 (e + 1), .dat (.slice 3) (.list xs), .vec (nx + 1 + 1 + 64 + 64 + 64 + 64 + 64)], .dat .iface .nil]) ?_ trivial (.frz (nx + 1 + 1 + 64 + 64 + 64 + 64 + 64) (.refl _)) [] (.tup [cfgA (e + 1) xs (xs.set (idxI (fun z => x == z) xs).toNat (.int y)), .dat .iface .nil]) [] (by simp) (by simp) (by simp) ?_ ?_ rfl (by simp) (by simp) hnm ?_ hK
    · simp only [rsCBegin, evRs, evR, go_sem, goD_calls, eq_self, implies_true, Int.reduceEq, Int.reduceBEq, Int.reduceBNe, Int.reduceLE, Int.reduceLT, Int.reduceAdd, Int.reduceSub, Int.reduceMul, Int.reduceNeg, Nat.reduceMul, Nat.reduceSub, Nat.reduceLeDiff, Nat.reduceLT, Nat.reduceEqDiff, Nat.reduceAdd, reduceCtorEq, ↓reduceIte, reduceIte]
    · simp only [mkR, go_sem, goD_calls, eq_self, implies_true, Int.reduceEq, Int.reduceBEq, Int.reduceBNe, Int.reduceLE, Int.reduceLT, Int.reduceAdd, Int.reduceSub, Int.reduceMul, Int.reduceNeg, Nat.reduceMul, Nat.reduceSub, Nat.reduceLeDiff, Nat.reduceLT, Nat.reduceEqDiff, Nat.reduceAdd, reduceCtorEq, ↓reduceIte, reduceIte, SV.ren, SV.renL, rens, cfgA]
    · exact ⟨⟨trivial, trivial, trivial, trivial⟩, trivial, trivial⟩
    · simp only [mkR, go_sem, goD_calls, eq_self, implies_true, Int.reduceEq, Int.reduceBEq, Int.reduceBNe, Int.reduceLE, Int.reduceLT, Int.reduceAdd, Int.reduceSub, Int.reduceMul, Int.reduceNeg, Nat.reduceMul, Nat.reduceSub, Nat.reduceLeDiff, Nat.reduceLT, Nat.reduceEqDiff, Nat.reduceAdd, reduceCtorEq, ↓reduceIte, reduceIte] <;> ((try simp only []); repeat first | exact HLe.refl _ | refine HLe.cons (by simp only [hget, Nat.reduceEqDiff, Nat.left_eq_add, Nat.add_eq_left, nm_ne2, nm_en2, nm_ne3, nm_en3, nm_ne4, nm_en4, nm_ne5, nm_en5, reduceIte, ↓reduceIte] <;> first | rfl | ((repeat rw [if_neg (by omega)]) <;> rfl)) ?_ | refine HLe.skip hnm (by omega) ?_ | refine HLe.frz hnm (by omega) ?_ | refine HLe.del hnm (by omega) ?_)
  · exact hsp.elim

abbrev GCD : List Nat := [0, 3, 4]
def endE (e : Int) (o n : List D) : D :=
  if (validC e o n).isNil = false then validC e o n
  else if n.length = 0 then .err 0
  else if e = 1073741824 then .err 3
  else .nil
def endR (e : Int) (o n : List D) (commit : Bool) : SV :=
  if (endE e o n).isNil = true then cfgA (e + 1) (if commit then n else o) [] else cfgA 0 [] []
def WCEnd : Opts := mkWE 36 [] [0, 3, 4] [] 184 [0, 3, 4] []
def icCEnd : IC := (.seq (.seq (.ops [(.u (.box 2 0 (.s 0))), (.u (.alc 4 [(.int .i64 0), .nils, .nils])), (.u (.mov 5 (.c (.dat .iface .nil))))]) (.tr [1, 2, 4])) (.seq (.seq (.seq (.ops [(.u (.ld 7 (.strct [(.int .i64), (.slice 3), (.slice 3)]) (.s 2))), (.u (.call 8 (.c (.clo 49 [])) [(.s 7)] [none] true)), (.u (.mov 6 (.s 8)))]) (.tr [6, 1, 2, 4])) (.seq (.seq (.ops [(.u (.mov 9 (.s 6))), (.u (.eqb 10 true 0 (.s 9)))]) (.tr [10, 6, 1, 2, 4])) (.cond (.s 10) (.seq (.seq (.ops [(.u (.bld 11 [[(.int .i64 0)], [.nils], [.nils]] [])), (.u (.mov 12 (.s 6))), (.u (.st (.strct [(.int .i64), (.slice 3), (.slice 3)]) (.s 4) (.s 11))), (.u (.mov 5 (.s 12)))]) (.tr [4, 5])) .ret) .skip))) (.seq (.seq (.seq (.ops [(.u (.fad 13 2 2 (.slice 3) 25 (.s 2))), (.u (.ld 14 (.slice 3) (.s 13))), (.u (.len 15 false (.s 14))), (.u (.cmp 16 .eql (.s 15) (.c (.int .i64 0))))]) (.tr [16, 1, 2, 4])) (.cond (.s 16) (.seq (.seq (.rgn [] [(false, (.u (.bld 17 [[(.int .i64 0)], [.nils], [.nils]] []))), (false, (.u (.gld 18 0))), (false, (.u (.st (.strct [(.int .i64), (.slice 3), (.slice 3)]) (.s 4) (.s 17)))), (false, (.u (.mov 5 (.s 18))))]) (.tr [4, 5])) .ret) .skip)) (.seq (.seq (.seq (.ops [(.u (.fad 19 0 0 (.int .i64) 25 (.s 2))), (.u (.ld 20 (.int .i64) (.s 19))), (.u (.cmp 21 .eql (.s 20) (.c (.int .i64 1073741824))))]) (.tr [21, 1, 2, 4])) (.cond (.s 21) (.seq (.seq (.rgn [] [(false, (.u (.bld 22 [[(.int .i64 0)], [.nils], [.nils]] []))), (false, (.u (.gld 23 3))), (false, (.u (.st (.strct [(.int .i64), (.slice 3), (.slice 3)]) (.s 4) (.s 22)))), (false, (.u (.mov 5 (.s 23))))]) (.tr [4, 5])) .ret) .skip)) (.seq (.seq (.ops [(.u (.ld 24 (.strct [(.int .i64), (.slice 3), (.slice 3)]) (.s 2))), (.u (.call 25 (.c (.clo 71 [])) [(.s 24)] [none] true)), (.u (.st (.strct [(.int .i64), (.slice 3), (.slice 3)]) (.s 2) (.s 25)))]) (.tr [1, 2, 4])) (.seq (.seq (.ops [(.u (.fad 26 0 0 (.int .i64) 25 (.s 2))), (.u (.ld 27 (.int .i64) (.s 26))), (.u (.bin 28 .add .i64 (.s 27) (.c (.int .i64 1)))), (.u (.fad 29 0 0 (.int .i64) 25 (.s 2))), (.u (.st (.int .i64) (.s 29) (.s 28)))]) (.tr [1, 2, 4])) (.seq (.seq (.seq (.ops [(.u (.mov 30 (.s 1)))]) (.tr [30, 2, 4])) (.cond (.s 30) (.seq (.ops [(.u (.fad 31 2 2 (.slice 3) 25 (.s 2))), (.u (.ld 32 (.slice 3) (.s 31))), (.u (.fad 33 1 1 (.slice 3) 25 (.s 2))), (.u (.st (.slice 3) (.s 33) (.s 32)))]) (.tr [2, 4])) .skip)) (.seq (.seq (.ops [(.u (.fad 34 2 2 (.slice 3) 25 (.s 2))), (.u (.st (.slice 3) (.s 34) (.c .nils)))]) (.tr [2, 4])) (.seq (.seq (.ops [(.u (.ld 35 (.strct [(.int .i64), (.slice 3), (.slice 3)]) (.s 2))), (.u (.st (.strct [(.int .i64), (.slice 3), (.slice 3)]) (.s 4) (.s 35))), (.u (.mov 5 (.c (.dat .iface .nil))))]) (.tr [4, 5])) .ret)))))))))
def rsCEnd : List RV := [(.c 4 (.strct [(.int .i64), (.slice 3), (.slice 3)])), (.t 5)]
theorem irCEnd : fnIR Tryd.prog WCEnd 87 = some (icCEnd, rsCEnd) := by kernel_rfl
def spCEnd : FSpec := fun args h nx K => match args with
  | [.agg [.int .i64 e, .dat (.slice t) o, .dat (.slice t') n], .bool c] => t = 3 ∧ t' = 3 ∧ K (.tup [endR e o.l n.l c, .dat .iface (endE e o.l n.l)]) h
  | _ => False
set_option maxHeartbeats 4000000 in
set_option maxRecDepth 8000 in
theorem vCEnd {E : Nat → Value} (hE : Errs2 Tryd.prog (some 184) E) : Valid Tryd.prog E (gs GCD) 87 spCEnd := by
  refine valid_go (W := WCEnd) hE ((allValid_bot.add (up (vCValid hE))).add (up (vCClone hE))) irCEnd (by decide) (fun args h nx K hsp hok hnm => ?_)
  unfold spCEnd at hsp
  split at hsp
  · rename_i e t o t' n c
    obtain ⟨rfl, rfl, hK⟩ := hsp
    refine ⟨by simp [WCEnd, mkW, mkWE, mkWF], fun Q hQ => ?_⟩
    obtain ⟨⟨_, ho, hn, _⟩, _⟩ := hok
    simp only [SV.ok] at ho hn
    obtain ⟨ho1, ho2, ho3⟩ := Wt.slice ho; generalize o.l = xs at *; subst ho1
    obtain ⟨hn1, hn2, hn3⟩ := Wt.slice hn; generalize n.l = ys at *; subst hn1
    have retE : ∀ d h' nx', d.isNil = false → d = endE e xs ys → HLe h h' → hget h' (nx + 1) = some (.cells [.int .i64 0, .nils, .nils]) → Q Ex.ret ⟨[(4, .ptr (nx + 1) 0), (5, .dat .iface d)], h', nx'⟩ := fun d h' nx' hd hde hh hg => by
      refine (hQ _ ?_).1
      subst hde
      unfold endR at hK
      rw [if_neg (by rw [hd]; decide)] at hK
      refine fin_cfg0 ?_ hnm hh hK
      simp only [rsCEnd, evRs, evR, go_sem, goD_calls, eq_self, implies_true, Int.reduceEq, Int.reduceBEq, Int.reduceBNe, Int.reduceLE, Int.reduceLT, Int.reduceAdd, Int.reduceSub, Int.reduceMul, Int.reduceNeg, Nat.reduceMul, Nat.reduceSub, Nat.reduceLeDiff, Nat.reduceLT, Nat.reduceEqDiff, Nat.reduceAdd, reduceCtorEq, ↓reduceIte, reduceIte, hg]
    rcases bool_ft (validC e xs ys).isNil with hv | hv
    · simp (maxSteps := 4000000) only [icCEnd, go_sem, goD_calls, eq_self, implies_true, Int.reduceEq, Int.reduceBEq, Int.reduceBNe, Int.reduceLE, Int.reduceLT, Int.reduceAdd, Int.reduceSub, Int.reduceMul, Int.reduceNeg, Nat.reduceMul, Nat.reduceSub, Nat.reduceLeDiff, Nat.reduceLT, Nat.reduceEqDiff, Nat.reduceAdd, reduceCtorEq, ↓reduceIte, reduceIte, spCValid, hv]
      exact retE _ _ _ hv (by unfold endE; rw [if_pos hv]) (by ((try simp only []); repeat first | exact HLe.refl _ | refine HLe.cons (by simp only [hget, Nat.reduceEqDiff, Nat.left_eq_add, Nat.add_eq_left, nm_ne2, nm_en2, nm_ne3, nm_en3, nm_ne4, nm_en4, nm_ne5, nm_en5, reduceIte, ↓reduceIte] <;> first | rfl | ((repeat rw [if_neg (by omega)]) <;> rfl)) ?_ | refine HLe.skip hnm (by omega) ?_ | refine HLe.frz hnm (by omega) ?_ | refine HLe.del hnm (by omega) ?_)) (by simp only [hget, go_sem, goD_calls, eq_self, implies_true, Int.reduceEq, Int.reduceBEq, Int.reduceBNe, Int.reduceLE, Int.reduceLT, Int.reduceAdd, Int.reduceSub, Int.reduceMul, Int.reduceNeg, Nat.reduceMul, Nat.reduceSub, Nat.reduceLeDiff, Nat.reduceLT, Nat.reduceEqDiff, Nat.reduceAdd, reduceCtorEq, ↓reduceIte, reduceIte])
    obtain ⟨b0, b1, s0, s1, e0, e1⟩ := valid_good hv
    obtain ⟨l6, g6⟩ := six_good b0 s0
    have hE0 : endE e xs ys = if ys.length = 0 then .err 0 else if e = 1073741824 then .err 3 else .nil := by unfold endE; rw [if_neg (by rw [hv]; decide)]
    by_cases hy : ys.length = 0
    · have c1 : ((ys.length : Int) == 0) = true := beq_iff_eq.2 (by omega)
      rw [if_pos hy] at hE0
      simp (maxSteps := 4000000) only [icCEnd, go_sem, goD_calls, eq_self, implies_true, Int.reduceEq, Int.reduceBEq, Int.reduceBNe, Int.reduceLE, Int.reduceLT, Int.reduceAdd, Int.reduceSub, Int.reduceMul, Int.reduceNeg, Nat.reduceMul, Nat.reduceSub, Nat.reduceLeDiff, Nat.reduceLT, Nat.reduceEqDiff, Nat.reduceAdd, reduceCtorEq, ↓reduceIte, reduceIte, spCValid, hv, c1]
      exact retE _ _ _ rfl hE0.symm (by ((try simp only []); repeat first | exact HLe.refl _ | refine HLe.cons (by simp only [hget, Nat.reduceEqDiff, Nat.left_eq_add, Nat.add_eq_left, nm_ne2, nm_en2, nm_ne3, nm_en3, nm_ne4, nm_en4, nm_ne5, nm_en5, reduceIte, ↓reduceIte] <;> first | rfl | ((repeat rw [if_neg (by omega)]) <;> rfl)) ?_ | refine HLe.skip hnm (by omega) ?_ | refine HLe.frz hnm (by omega) ?_ | refine HLe.del hnm (by omega) ?_)) (by simp only [hget, go_sem, goD_calls, eq_self, implies_true, Int.reduceEq, Int.reduceBEq, Int.reduceBNe, Int.reduceLE, Int.reduceLT, Int.reduceAdd, Int.reduceSub, Int.reduceMul, Int.reduceNeg, Nat.reduceMul, Nat.reduceSub, Nat.reduceLeDiff, Nat.reduceLT, Nat.reduceEqDiff, Nat.reduceAdd, reduceCtorEq, ↓reduceIte, reduceIte])
    have c1 : ((ys.length : Int) == 0) = false := beq_eq_false_iff_ne.2 (by omega)
    obtain ⟨l6n, g6n⟩ := six_good b1 (s1 (by omega))
    rw [if_neg hy] at hE0
    by_cases h5 : e = 1073741824
    · rw [if_pos h5] at hE0
      have c5 : (e == 1073741824) = true := beq_iff_eq.2 h5
      simp (maxSteps := 4000000) only [icCEnd, go_sem, goD_calls, eq_self, implies_true, Int.reduceEq, Int.reduceBEq, Int.reduceBNe, Int.reduceLE, Int.reduceLT, Int.reduceAdd, Int.reduceSub, Int.reduceMul, Int.reduceNeg, Nat.reduceMul, Nat.reduceSub, Nat.reduceLeDiff, Nat.reduceLT, Nat.reduceEqDiff, Nat.reduceAdd, reduceCtorEq, ↓reduceIte, reduceIte, spCValid, hv, c1, c5]
      exact retE _ _ _ rfl hE0.symm (by ((try simp only []); repeat first | exact HLe.refl _ | refine HLe.cons (by simp only [hget, Nat.reduceEqDiff, Nat.left_eq_add, Nat.add_eq_left, nm_ne2, nm_en2, nm_ne3, nm_en3, nm_ne4, nm_en4, nm_ne5, nm_en5, reduceIte, ↓reduceIte] <;> first | rfl | ((repeat rw [if_neg (by omega)]) <;> rfl)) ?_ | refine HLe.skip hnm (by omega) ?_ | refine HLe.frz hnm (by omega) ?_ | refine HLe.del hnm (by omega) ?_)) (by simp only [hget, go_sem, goD_calls, eq_self, implies_true, Int.reduceEq, Int.reduceBEq, Int.reduceBNe, Int.reduceLE, Int.reduceLT, Int.reduceAdd, Int.reduceSub, Int.reduceMul, Int.reduceNeg, Nat.reduceMul, Nat.reduceSub, Nat.reduceLeDiff, Nat.reduceLT, Nat.reduceEqDiff, Nat.reduceAdd, reduceCtorEq, ↓reduceIte, reduceIte])
    have c5 : (e == 1073741824) = false := beq_eq_false_iff_ne.2 h5
    rw [if_neg h5] at hE0
    have hx9 : xs.length ≤ 1000000000 := by omega
    have hy9 : ys.length ≤ 1000000000 := by omega
    unfold endR at hK
    rw [hE0, if_pos (show (D.nil).isNil = true from rfl)] at hK
    cases c
    all_goals
      simp (maxSteps := 4000000) only [icCEnd, go_sem, goD_calls, eq_self, implies_true, Int.reduceEq, Int.reduceBEq, Int.reduceBNe, Int.reduceLE, Int.reduceLT, Int.reduceAdd, Int.reduceSub, Int.reduceMul, Int.reduceNeg, Nat.reduceMul, Nat.reduceSub, Nat.reduceLeDiff, Nat.reduceLT, Nat.reduceEqDiff, Nat.reduceAdd, reduceCtorEq, ↓reduceIte, reduceIte, spCValid, hv, c1, c5, spCClone, hx9, hy9, cfgA]
      refine ⟨⟨by rw [min_i64]; omega, by rw [max_i64]; omega⟩, ?_⟩
      refine (hQ _ ?_).1
      refine fin_cfg1 ?_ hnm ?_ hK
      · simp only [rsCEnd, evRs, evR, go_sem, goD_calls, eq_self, implies_true, Int.reduceEq, Int.reduceBEq, Int.reduceBNe, Int.reduceLE, Int.reduceLT, Int.reduceAdd, Int.reduceSub, Int.reduceMul, Int.reduceNeg, Nat.reduceMul, Nat.reduceSub, Nat.reduceLeDiff, Nat.reduceLT, Nat.reduceEqDiff, Nat.reduceAdd, reduceCtorEq, ↓reduceIte, reduceIte] <;> rfl
      · ((try simp only []); repeat first | exact HLe.refl _ | refine HLe.cons (by simp only [hget, Nat.reduceEqDiff, Nat.left_eq_add, Nat.add_eq_left, nm_ne2, nm_en2, nm_ne3, nm_en3, nm_ne4, nm_en4, nm_ne5, nm_en5, reduceIte, ↓reduceIte] <;> first | rfl | ((repeat rw [if_neg (by omega)]) <;> rfl)) ?_ | refine HLe.skip hnm (by omega) ?_ | refine HLe.frz hnm (by omega) ?_ | refine HLe.del hnm (by omega) ?_)
  · exact hsp.elim
def WCCommit : Opts := mkWE 8 [] [0, 3, 4] [] 184 [0, 3, 4] []
def icCCommit : IC := (.seq (.seq (.ops [(.u (.box 1 0 (.s 0))), (.u (.alc 2 [(.int .i64 0), .nils, .nils])), (.u (.mov 3 (.c (.dat .iface .nil))))]) (.tr [1, 2])) (.seq (.seq (.ops [(.u (.ld 4 (.strct [(.int .i64), (.slice 3), (.slice 3)]) (.s 1))), (.u (.call 5 (.c (.clo 87 [])) [(.s 4), (.c (.bool true))] [none, none] true)), (.u (.ext 6 0 (.s 5))), (.u (.ext 7 1 (.s 5))), (.u (.st (.strct [(.int .i64), (.slice 3), (.slice 3)]) (.s 2) (.s 6))), (.u (.mov 3 (.s 7)))]) (.tr [2, 3])) .ret))
def rsCCommit : List RV := [(.c 2 (.strct [(.int .i64), (.slice 3), (.slice 3)])), (.t 3)]
theorem irCCommit : fnIR Tryd.prog WCCommit 47 = some (icCCommit, rsCCommit) := by kernel_rfl
def spCCommit : FSpec := fun args h nx K => match args with
  | [.agg [.int .i64 e, .dat (.slice t) o, .dat (.slice t') n]] => t = 3 ∧ t' = 3 ∧ K (.tup [endR e o.l n.l true, .dat .iface (endE e o.l n.l)]) h
  | _ => False
set_option maxHeartbeats 4000000 in
set_option maxRecDepth 8000 in
theorem vCCommit {E : Nat → Value} (hE : Errs2 Tryd.prog (some 184) E) : Valid Tryd.prog E (gs GCD) 47 spCCommit := by
  refine valid_go (W := WCCommit) hE (allValid_bot.add (up (vCEnd hE))) irCCommit (by decide) (fun args h nx K hsp hok hnm => ?_)
  unfold spCCommit at hsp
  split at hsp
  · rename_i e t o t' n
    obtain ⟨rfl, rfl, hK⟩ := hsp
    refine ⟨by simp [WCCommit, mkW, mkWE, mkWF], fun Q hQ => ?_⟩
    have hr : ∃ a b c, endR e o.l n.l true = cfgA a b c := by
      unfold endR
      split
      · exact ⟨_, _, _, rfl⟩
      · exact ⟨_, _, _, rfl⟩
    obtain ⟨a, b, c, hr⟩ := hr
    rw [hr] at hK
    simp (maxSteps := 4000000) only [icCCommit, go_sem, goD_calls, eq_self, implies_true, Int.reduceEq, Int.reduceBEq, Int.reduceBNe, Int.reduceLE, Int.reduceLT, Int.reduceAdd, Int.reduceSub, Int.reduceMul, Int.reduceNeg, Nat.reduceMul, Nat.reduceSub, Nat.reduceLeDiff, Nat.reduceLT, Nat.reduceEqDiff, Nat.reduceAdd, reduceCtorEq, ↓reduceIte, reduceIte, spCEnd, hr, cfgA]
    refine (hQ _ ?_).1
    refine fin_cfg2 ?_ hnm ?_ hK
    · simp only [rsCCommit, evRs, evR, go_sem, goD_calls, eq_self, implies_true, Int.reduceEq, Int.reduceBEq, Int.reduceBNe, Int.reduceLE, Int.reduceLT, Int.reduceAdd, Int.reduceSub, Int.reduceMul, Int.reduceNeg, Nat.reduceMul, Nat.reduceSub, Nat.reduceLeDiff, Nat.reduceLT, Nat.reduceEqDiff, Nat.reduceAdd, reduceCtorEq, ↓reduceIte, reduceIte] <;> rfl
    · ((try simp only []); repeat first | exact HLe.refl _ | refine HLe.cons (by simp only [hget, Nat.reduceEqDiff, Nat.left_eq_add, Nat.add_eq_left, nm_ne2, nm_en2, nm_ne3, nm_en3, nm_ne4, nm_en4, nm_ne5, nm_en5, reduceIte, ↓reduceIte] <;> first | rfl | ((repeat rw [if_neg (by omega)]) <;> rfl)) ?_ | refine HLe.skip hnm (by omega) ?_ | refine HLe.frz hnm (by omega) ?_ | refine HLe.del hnm (by omega) ?_)
  · exact hsp.elim
def WCRollback : Opts := mkWE 8 [] [0, 3, 4] [] 184 [0, 3, 4] []
def icCRollback : IC := (.seq (.seq (.ops [(.u (.box 1 0 (.s 0))), (.u (.alc 2 [(.int .i64 0), .nils, .nils])), (.u (.mov 3 (.c (.dat .iface .nil))))]) (.tr [1, 2])) (.seq (.seq (.ops [(.u (.ld 4 (.strct [(.int .i64), (.slice 3), (.slice 3)]) (.s 1))), (.u (.call 5 (.c (.clo 87 [])) [(.s 4), (.c (.bool false))] [none, none] true)), (.u (.ext 6 0 (.s 5))), (.u (.ext 7 1 (.s 5))), (.u (.st (.strct [(.int .i64), (.slice 3), (.slice 3)]) (.s 2) (.s 6))), (.u (.mov 3 (.s 7)))]) (.tr [2, 3])) .ret))
def rsCRollback : List RV := [(.c 2 (.strct [(.int .i64), (.slice 3), (.slice 3)])), (.t 3)]
theorem irCRollback : fnIR Tryd.prog WCRollback 48 = some (icCRollback, rsCRollback) := by kernel_rfl
def spCRollback : FSpec := fun args h nx K => match args with
  | [.agg [.int .i64 e, .dat (.slice t) o, .dat (.slice t') n]] => t = 3 ∧ t' = 3 ∧ K (.tup [endR e o.l n.l false, .dat .iface (endE e o.l n.l)]) h
  | _ => False
set_option maxHeartbeats 4000000 in
set_option maxRecDepth 8000 in
theorem vCRollback {E : Nat → Value} (hE : Errs2 Tryd.prog (some 184) E) : Valid Tryd.prog E (gs GCD) 48 spCRollback := by
  refine valid_go (W := WCRollback) hE (allValid_bot.add (up (vCEnd hE))) irCRollback (by decide) (fun args h nx K hsp hok hnm => ?_)
  unfold spCRollback at hsp
  split at hsp
  · rename_i e t o t' n
    obtain ⟨rfl, rfl, hK⟩ := hsp
    refine ⟨by simp [WCRollback, mkW, mkWE, mkWF], fun Q hQ => ?_⟩
    have hr : ∃ a b c, endR e o.l n.l false = cfgA a b c := by
      unfold endR
      split
      · exact ⟨_, _, _, rfl⟩
      · exact ⟨_, _, _, rfl⟩
    obtain ⟨a, b, c, hr⟩ := hr
    rw [hr] at hK
    simp (maxSteps := 4000000) only [icCRollback, go_sem, goD_calls, eq_self, implies_true, Int.reduceEq, Int.reduceBEq, Int.reduceBNe, Int.reduceLE, Int.reduceLT, Int.reduceAdd, Int.reduceSub, Int.reduceMul, Int.reduceNeg, Nat.reduceMul, Nat.reduceSub, Nat.reduceLeDiff, Nat.reduceLT, Nat.reduceEqDiff, Nat.reduceAdd, reduceCtorEq, ↓reduceIte, reduceIte, spCEnd, hr, cfgA]
    refine (hQ _ ?_).1
    refine fin_cfg2 ?_ hnm ?_ hK
    · simp only [rsCRollback, evRs, evR, go_sem, goD_calls, eq_self, implies_true, Int.reduceEq, Int.reduceBEq, Int.reduceBNe, Int.reduceLE, Int.reduceLT, Int.reduceAdd, Int.reduceSub, Int.reduceMul, Int.reduceNeg, Nat.reduceMul, Nat.reduceSub, Nat.reduceLeDiff, Nat.reduceLT, Nat.reduceEqDiff, Nat.reduceAdd, reduceCtorEq, ↓reduceIte, reduceIte] <;> rfl
    · ((try simp only []); repeat first | exact HLe.refl _ | refine HLe.cons (by simp only [hget, Nat.reduceEqDiff, Nat.left_eq_add, Nat.add_eq_left, nm_ne2, nm_en2, nm_ne3, nm_en3, nm_ne4, nm_en4, nm_ne5, nm_en5, reduceIte, ↓reduceIte] <;> first | rfl | ((repeat rw [if_neg (by omega)]) <;> rfl)) ?_ | refine HLe.skip hnm (by omega) ?_ | refine HLe.frz hnm (by omega) ?_ | refine HLe.del hnm (by omega) ?_)
  · exact hsp.elim
end Go.Proofs.YtkojpimkngmckaaDoor
