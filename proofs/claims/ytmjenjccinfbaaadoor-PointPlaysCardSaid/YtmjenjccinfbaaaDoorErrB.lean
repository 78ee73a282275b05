/- Errors as plain data: the number of an error; an error as a fault. -/
import Derived.Test.YtmjenjccinfbaaaDoorErr
namespace Go.Proofs.YtmjenjccinfbaaaDoor
set_option linter.unusedVariables false
set_option linter.unusedSimpArgs false
open Go Go.Fw
attribute [local go_sem] walkSet evMdl evMupD evMup evLkp frpL eltP eltV eltK preF preP prePt prePd frzP evNlq ev frOf oget ogets argSs argS evCat evMm frzL evBin evWrp evShf evCmp evUna evNil evBeq evLd evSt evFad evIad evAad evLen evSln evEls evApp evParts evSlc evNlc evMif evPck evFld evBld evTas evIfq evSeq evSl0 evBxf evAgl evAgq evBsf hget hset hdel cellAt arrAt setCellAt setArrAt takeC lenC svCells SV.okc SV.one ldSV Fw.isAgg explode explodeL toD toDL toD1 Ty.size Ty.sizeL frz1 Fr.sub Heap.sub Tok.sub SV.sub SV.subL

def WSent : Opts := mkWE 20 [] [0, 1, 2, 3, 4, 5, 6, 7, 8, 9, 10, 11, 12, 13, 14, 15, 16] [] 171 [0, 1, 2, 3, 4, 5, 6, 7, 8, 9, 10, 11, 12, 13, 14, 15, 16] []
def icSent : IC := (.seq (.seq (.ops [(.u (.mov 2 (.c (.int .i64 0))))]) (.tr [0])) (.seq (.seq (.ops [(.u (.call 5 (.c (.clo 113 [])) [] [] true)), (.u (.mov 3 (.s 5)))]) (.tr [0, 3])) (.seq (.seq (.seq (.ops [(.u (.mov 4 (.c (.int .i64 0))))]) (.tr [0, 3, 4])) (.block 0 (.loop (.seq (.seq (.seq (.ops [(.u (.mov 6 (.s 4))), (.u (.mov 7 (.s 3))), (.u (.len 8 false (.s 7))), (.u (.cmp 9 .lss (.s 6) (.s 8)))]) (.tr [9, 4, 0, 3])) (.cond (.s 9) .skip (.exit 0))) (.seq (.block 1 (.seq (.seq (.ops [(.u (.mov 12 (.s 0))), (.u (.mov 13 (.s 3))), (.u (.mov 14 (.s 4))), (.u (.iad 15 27 .iface (.s 13) (.s 14))), (.u (.ld 16 .iface (.s 15))), (.u (.call 17 (.c (.clo 114 [])) [(.s 12), (.s 16)] [none, none] true))]) (.tr [17, 4, 0, 3])) (.cond (.s 17) (.seq (.seq (.ops [(.u (.mov 18 (.s 4))), (.u (.bin 19 .add .i64 (.c (.int .i64 101)) (.s 18))), (.u (.mov 2 (.s 19)))]) (.tr [2])) .ret) .skip))) (.seq (.ops [(.u (.mov 10 (.s 4))), (.u (.bin 11 .add .i64 (.s 10) (.c (.int .i64 1)))), (.u (.mov 4 (.s 11)))]) (.tr [0, 3, 4]))))))) (.seq (.seq (.ops [(.u (.mov 2 (.c (.int .i64 (-1)))))]) (.tr [2])) .ret))))
def rsSent : List RV := [(.t 2)]
theorem irSent : fnIR Tryd.prog WSent 99 = some (icSent, rsSent) := by kernel_rfl
def spSent : FSpec := fun args h nx K => match args with
  | [.dat .iface (.err x)] => ∃ j, j < 17 ∧ x = errIds.getD j 0 ∧ K (.int .i64 (101 + j)) h
  | _ => False
theorem sentsD_get (i : Nat) (hi : i < 17) : sentsD.getD i .nil = .err (errIds.getD i 0) := by
  have h : i < errIds.length := hi
  simp [sentsD, List.getD_eq_getElem?_getD, List.getElem?_map, List.getElem?_eq_getElem h]
theorem sentsD_len : sentsD.length = 17 := rfl
set_option maxHeartbeats 400000 in
theorem vSent {E : Nat → Value} (hE : Errs2 Tryd.prog (some 171) E) : Valid Tryd.prog E G0 99 spSent := by
  refine valid_go (W := WSent) hE ((allValid_bot.add (vAlike hE)).add (vSents hE)) irSent (by decide) (fun args h nx K hsp hok hnm => ?_)
  unfold spSent at hsp
  split at hsp
  · rename_i x
    obtain ⟨j, hj, hx, hsp⟩ := hsp
    refine ⟨by simp [WSent, mkWE], fun Q hQ => ?_⟩
    simp only [icSent, go_sem, goD_calls, eq_self, implies_true, Int.reduceEq, Int.reduceBEq, Int.reduceBNe, Int.reduceLE, Int.reduceLT, Int.reduceAdd, Int.reduceSub, Int.reduceMul, Int.reduceNeg, Nat.reduceMul, Nat.reduceSub, Nat.reduceLeDiff, Nat.reduceLT, Nat.reduceEqDiff, Nat.reduceAdd, reduceCtorEq, ↓reduceIte, reduceIte, spSents]
    refine go_loop (α := { i : Nat // i ≤ j }) (I := fun i => { f := [(4, .int .i64 i.1), (3, .vec nx), (0, .dat .iface (.err x))], h := (nx, .arr 27 .iface sentsD) :: h, nx := nx + 64 }) (μ := fun i => j - i.1) _ _ _ ⟨0, by omega⟩ ?_ (fun i B hB => ?_)
    · refine leq_id ?_ (by (simp only [frLt_cons, frLt_nil, and_true, SV.lt, SV.ltL, true_and] <;> omega)) (by ((try simp only []); repeat first | exact HLe.refl _ | refine HLe.cons (by simp only [hget, Nat.reduceEqDiff, Nat.left_eq_add, Nat.add_eq_left, nm_ne2, nm_en2, nm_ne3, nm_en3, nm_ne4, nm_en4, nm_ne5, nm_en5, reduceIte, ↓reduceIte] <;> first | rfl | ((repeat rw [if_neg (by omega)]) <;> rfl)) ?_ | refine HLe.skip hnm (by omega) ?_ | refine HLe.frz hnm (by omega) ?_ | refine HLe.del hnm (by omega) ?_)) (by (repeat first | exact HLt.mono hnm (by simp only [] <;> omega) | refine HLt.cons (by simp only [] <;> omega) (by simp only [Tok.lt, SV.ltL, SV.lt, and_true, true_and] <;> omega) ?_)) (by simp only [] <;> omega)
      simp only [frEq_cons, frEq_nil, frIn_cons, frIn_nil, and_true, fget_cons, Nat.reduceEqDiff, reduceIte, ↓reduceIte, true_and, SV.ren, SV.renL, ren1]
      rfl
    · obtain ⟨i, hi⟩ := i
      have hi17 : i < 17 := by omega
      have hlen : ((sentsD.length : Nat) : Int) = 17 := by rw [sentsD_len]; rfl
      simp only [go_sem, goD_calls, eq_self, implies_true, Int.reduceEq, Int.reduceBEq, Int.reduceBNe, Int.reduceLE, Int.reduceLT, Int.reduceAdd, Int.reduceSub, Int.reduceMul, Int.reduceNeg, Nat.reduceMul, Nat.reduceSub, Nat.reduceLeDiff, Nat.reduceLT, Nat.reduceEqDiff, Nat.reduceAdd, reduceCtorEq, ↓reduceIte, reduceIte, hlen, Int.toNat_natCast, sentsD_get i hi17, spAlike]
      refine ⟨fun hc => ⟨⟨by omega, by omega⟩, ⟨by omega, by omega⟩, _, rfl, hx ▸ ids_le j hj, ids_le i hi17, ?_⟩, fun hc => ?_⟩
      · by_cases hij : i = j
        · subst hij
          refine ⟨fun _ => ⟨⟨by rw [min_i64]; omega, by rw [max_i64]; omega⟩, (hQ _ (fin_t (.int .i64 (101 + (i : Int))) rfl rfl hnm (by ((try simp only []); repeat first | exact HLe.refl _ | refine HLe.cons (by simp only [hget, Nat.reduceEqDiff, Nat.left_eq_add, Nat.add_eq_left, nm_ne2, nm_en2, nm_ne3, nm_en3, nm_ne4, nm_en4, nm_ne5, nm_en5, reduceIte, ↓reduceIte] <;> first | rfl | ((repeat rw [if_neg (by omega)]) <;> rfl)) ?_ | refine HLe.skip hnm (by omega) ?_ | refine HLe.frz hnm (by omega) ?_ | refine HLe.del hnm (by omega) ?_)) hsp)).1⟩, fun hc2 => ?_⟩
          rw [hx] at hc2; simp at hc2
        · refine ⟨fun hc2 => ?_, fun hc2 => ⟨⟨by rw [min_i64]; omega, by rw [max_i64]; omega⟩, hB _ ⟨i + 1, by omega⟩ (by simp only []; omega) ?_⟩⟩
          · exfalso
            have := ids_inj j hj i hi17 (by rw [← hx]; simpa using hc2)
            omega
          · refine leq_id ?_ (by (simp only [frLt_cons, frLt_nil, and_true, SV.lt, SV.ltL, true_and] <;> omega)) (by ((try simp only []); repeat first | exact HLe.refl _ | refine HLe.cons (by simp only [hget, Nat.reduceEqDiff, Nat.left_eq_add, Nat.add_eq_left, nm_ne2, nm_en2, nm_ne3, nm_en3, nm_ne4, nm_en4, nm_ne5, nm_en5, reduceIte, ↓reduceIte] <;> first | rfl | ((repeat rw [if_neg (by omega)]) <;> rfl)) ?_ | refine HLe.skip hnm (by omega) ?_ | refine HLe.frz hnm (by omega) ?_ | refine HLe.del hnm (by omega) ?_)) (by (repeat first | exact HLt.mono hnm (by simp only [] <;> omega) | refine HLt.cons (by simp only [] <;> omega) (by simp only [Tok.lt, SV.ltL, SV.lt, and_true, true_and] <;> omega) ?_)) (by simp only [] <;> omega)
            simp only [frEq_cons, frEq_nil, frIn_cons, frIn_nil, and_true, fget_cons, Nat.reduceEqDiff, reduceIte, ↓reduceIte, true_and, SV.ren, SV.renL, ren1]
            simp
      · have := of_decide_eq_false hc; omega
  · exact hsp.elim

def WFault : Opts := mkWE 38 [] [0, 1, 2, 3, 4, 5, 6, 7, 8, 9, 10, 11, 12, 13, 14, 15, 16] [] 171 [0, 1, 2, 3, 4, 5, 6, 7, 8, 9, 10, 11, 12, 13, 14, 15, 16] []
def icFault : IC := (.seq (.seq (.ops [(.u (.alc 2 [(.int .i64 0), (.bool false), (.int .i64 0)]))]) (.tr [0, 2])) (.seq (.seq (.seq (.ops [(.u (.mov 5 (.s 0))), (.u (.eqb 6 false 0 (.s 5)))]) (.tr [6, 0, 2])) (.cond (.s 6) (.seq (.seq (.ops [(.u (.call 7 (.c (.clo 67 [])) [] [] true)), (.u (.st (.strct [(.int .i64), .bool, (.int .i64)]) (.s 2) (.s 7)))]) (.tr [2])) .ret) .skip)) (.seq (.seq (.ops [(.u (.mov 9 (.s 0))), (.u (.tas 10 171 141 143 (.s 9))), (.u (.mov 8 (.s 10))), (.u (.ext 11 0 (.s 8))), (.u (.ext 12 1 (.s 8))), (.u (.mov 3 (.s 11))), (.u (.mov 4 (.s 12)))]) (.tr [4, 0, 3, 2])) (.seq (.seq (.seq (.ops [(.u (.mov 13 (.s 4))), (.u (.una 14 .not (.s 13)))]) (.tr [14, 0, 3, 2])) (.cond (.s 14) (.seq (.seq (.ops [(.u (.mov 15 (.s 0))), (.u (.call 16 (.c (.clo 99 [])) [(.s 15)] [none] true)), (.u (.call 17 (.c (.clo 65 [])) [(.s 16)] [none] true)), (.u (.st (.strct [(.int .i64), .bool, (.int .i64)]) (.s 2) (.s 17)))]) (.tr [2])) .ret) .skip)) (.seq (.seq (.seq (.ops [(.u (.mov 18 (.s 3))), (.u (.eqb 19 false 1 (.s 18))), (.u (.mov 20 (.s 19))), (.g 20 false (some 21) (.mov 21 (.s 3))), (.g 20 false (some 22) (.nlc 22 (.s 21))), (.g 20 false (some 23) (.fad 23 1 1 .iface 143 (.s 22))), (.g 20 false (some 24) (.ld 24 .iface (.s 23))), (.g 20 false (some 25) (.eqb 25 false 0 (.s 24))), (.u (.pck 26 (.s 20) (.c (.bool true)) (.s 25)))]) (.tr [26, 3, 2])) (.cond (.s 26) (.seq (.seq (.ops [(.u (.call 27 (.c (.clo 65 [])) [(.c (.int .i64 (-1)))] [none] true)), (.u (.st (.strct [(.int .i64), .bool, (.int .i64)]) (.s 2) (.s 27)))]) (.tr [2])) .ret) .skip)) (.seq (.seq (.rgn [] [(false, (.u (.mov 28 (.s 3)))), (false, (.u (.nlc 29 (.s 28)))), (false, (.u (.fad 30 1 1 .iface 143 (.s 29)))), (false, (.u (.ld 31 .iface (.s 30)))), (false, (.u (.mov 33 (.s 3)))), (false, (.u (.nlc 34 (.s 33)))), (false, (.u (.fad 35 0 0 (.int .i64) 143 (.s 34)))), (true, (.u (.ld 36 (.int .i64) (.s 35)))), (false, (.u (.call 32 (.c (.clo 99 [])) [(.s 31)] [none] true))), (false, (.u (.call 37 (.c (.clo 66 [])) [(.s 32), (.s 36)] [none, none] true))), (false, (.u (.st (.strct [(.int .i64), .bool, (.int .i64)]) (.s 2) (.s 37))))]) (.tr [2])) .ret))))))
def rsFault : List RV := [(.c 2 (.strct [(.int .i64), .bool, (.int .i64)]))]
theorem irFault : fnIR Tryd.prog WFault 69 = some (icFault, rsFault) := by kernel_rfl
/-- What an error is as plain data. -/
def faultOf : SV → Option (Int × Bool × Int)
  | .dat .iface .nil => some (0, false, 0)
  | .dat .iface (.err x) => if x ∈ errIds then some (101 + errIds.idxOf x, false, 0) else none
  | .dat .iface (.ifc t (.ptr (.node [.int p, .err x]))) => if t = 141 ∧ x ∈ errIds then some (101 + errIds.idxOf x, true, p) else none
  | _ => none
theorem idx_spec {x : Nat} (h : x ∈ errIds) : errIds.idxOf x < 17 ∧ x = errIds.getD (errIds.idxOf x) 0 := by
  have h1 := List.idxOf_lt_length_of_mem h
  refine ⟨h1, ?_⟩
  rw [List.getD_eq_getElem?_getD, List.getElem?_eq_getElem h1, Option.getD_some, List.getElem_idxOf]
def fOk (e : SV) : Prop := (faultOf e).isSome = true
def fC (e : SV) : Int := match faultOf e with | some (c, _, _) => c | none => 0
def fB (e : SV) : Bool := match faultOf e with | some (_, b, _) => b | none => false
def fP (e : SV) : Int := match faultOf e with | some (_, _, p) => p | none => 0
theorem fOk_spec {e : SV} (h : fOk e) : ∃ c b p, faultOf e = some (c, b, p) ∧ fC e = c ∧ fB e = b ∧ fP e = p := by
  unfold fOk at h
  unfold fC fB fP
  cases hf : faultOf e with
  | none => rw [hf] at h; cases h
  | some x => obtain ⟨c, b, p⟩ := x; exact ⟨c, b, p, rfl, rfl, rfl, rfl⟩
theorem fOk_of {e : SV} {c : Int} {b : Bool} {p : Int} (h : faultOf e = some (c, b, p)) : fOk e = True ∧ fC e = c ∧ fB e = b ∧ fP e = p := by
  unfold fOk fC fB fP
  rw [h]
  simp
def spFault : FSpec := fun args h nx K => match args with
  | [e] => fOk e ∧ K (fA (fC e) (fB e) (fP e)) h
  | _ => False
theorem at_ne : (171 : Nat) ≠ 141 := by decide
set_option maxHeartbeats 1000000 in
theorem vFault {E : Nat → Value} (hE : Errs2 Tryd.prog (some 171) E) : Valid Tryd.prog E G0 69 spFault := by
  refine valid_go (W := WFault) hE ((((allValid_bot.add (vBare hE)).add (vNone hE)).add (vPlaced hE)).add (vSent hE)) irFault (by decide) (fun args h nx K hsp hok hnm => ?_)
  unfold spFault at hsp
  split at hsp
  · rename_i e
    obtain ⟨hfo, hsp⟩ := hsp
    obtain ⟨c, b, p, hf, f1, f2, f3⟩ := fOk_spec hfo
    rw [f1, f2, f3] at hsp
    clear f1 f2 f3 hfo
    refine ⟨by simp [WFault, mkWE], fun Q hQ => ?_⟩
    unfold faultOf at hf
    split at hf
    · cases hf
      simp only [icFault, go_sem, goD_calls, eq_self, implies_true, Int.reduceEq, Int.reduceBEq, Int.reduceBNe, Int.reduceLE, Int.reduceLT, Int.reduceAdd, Int.reduceSub, Int.reduceMul, Int.reduceNeg, Nat.reduceMul, Nat.reduceSub, Nat.reduceLeDiff, Nat.reduceLT, Nat.reduceEqDiff, Nat.reduceAdd, reduceCtorEq, ↓reduceIte, reduceIte, spNone, fA]
      exact (hQ _ (fin_c (fA 0 false 0) (by simp only [go_sem, goD_calls, eq_self, implies_true, Int.reduceEq, Int.reduceBEq, Int.reduceBNe, Int.reduceLE, Int.reduceLT, Int.reduceAdd, Int.reduceSub, Int.reduceMul, Int.reduceNeg, Nat.reduceMul, Nat.reduceSub, Nat.reduceLeDiff, Nat.reduceLT, Nat.reduceEqDiff, Nat.reduceAdd, reduceCtorEq, ↓reduceIte, reduceIte, evR]; rfl) trivial rfl hnm (by ((try simp only []); repeat first | exact HLe.refl _ | refine HLe.cons (by simp only [hget, Nat.reduceEqDiff, Nat.left_eq_add, Nat.add_eq_left, nm_ne2, nm_en2, nm_ne3, nm_en3, nm_ne4, nm_en4, nm_ne5, nm_en5, reduceIte, ↓reduceIte] <;> first | rfl | ((repeat rw [if_neg (by omega)]) <;> rfl)) ?_ | refine HLe.skip hnm (by omega) ?_ | refine HLe.frz hnm (by omega) ?_ | refine HLe.del hnm (by omega) ?_)) hsp)).1
    · rename_i x
      split at hf
      · rename_i hx
        cases hf
        obtain ⟨h1, h2⟩ := idx_spec hx
        simp only [icFault, go_sem, goD_calls, eq_self, implies_true, Int.reduceEq, Int.reduceBEq, Int.reduceBNe, Int.reduceLE, Int.reduceLT, Int.reduceAdd, Int.reduceSub, Int.reduceMul, Int.reduceNeg, Nat.reduceMul, Nat.reduceSub, Nat.reduceLeDiff, Nat.reduceLT, Nat.reduceEqDiff, Nat.reduceAdd, reduceCtorEq, ↓reduceIte, reduceIte, spSent, spBare, fA, List.getElem?_cons_zero, List.getElem?_cons_succ]
        exact ⟨at_ne, _, h1, h2, (hQ _ (fin_c (fA (101 + (errIds.idxOf x : Int)) false 0) (by simp only [go_sem, goD_calls, eq_self, implies_true, Int.reduceEq, Int.reduceBEq, Int.reduceBNe, Int.reduceLE, Int.reduceLT, Int.reduceAdd, Int.reduceSub, Int.reduceMul, Int.reduceNeg, Nat.reduceMul, Nat.reduceSub, Nat.reduceLeDiff, Nat.reduceLT, Nat.reduceEqDiff, Nat.reduceAdd, reduceCtorEq, ↓reduceIte, reduceIte, evR]; rfl) trivial rfl hnm (by ((try simp only []); repeat first | exact HLe.refl _ | refine HLe.cons (by simp only [hget, Nat.reduceEqDiff, Nat.left_eq_add, Nat.add_eq_left, nm_ne2, nm_en2, nm_ne3, nm_en3, nm_ne4, nm_en4, nm_ne5, nm_en5, reduceIte, ↓reduceIte] <;> first | rfl | ((repeat rw [if_neg (by omega)]) <;> rfl)) ?_ | refine HLe.skip hnm (by omega) ?_ | refine HLe.frz hnm (by omega) ?_ | refine HLe.del hnm (by omega) ?_)) hsp)).1⟩
      · cases hf
    · rename_i t p' x
      split at hf
      · rename_i hx
        cases hf
        obtain ⟨rfl, hx⟩ := hx
        obtain ⟨h1, h2⟩ := idx_spec hx
        simp (maxSteps := 1000000) only [icFault, go_sem, goD_calls, eq_self, implies_true, Int.reduceEq, Int.reduceBEq, Int.reduceBNe, Int.reduceLE, Int.reduceLT, Int.reduceAdd, Int.reduceSub, Int.reduceMul, Int.reduceNeg, Nat.reduceMul, Nat.reduceSub, Nat.reduceLeDiff, Nat.reduceLT, Nat.reduceEqDiff, Nat.reduceAdd, reduceCtorEq, ↓reduceIte, reduceIte, spSent, spBare, spPlaced, fA, List.getElem?_cons_zero, List.getElem?_cons_succ, D.tgt, D.fld, D.fs, D.i]
        have hne : ((101 : Int) + (errIds.idxOf x : Int) = 0) = False := by apply eq_false; omega
        refine ⟨_, h1, h2, (hQ _ (fin_c (fA (101 + (errIds.idxOf x : Int)) true p) (by simp only [go_sem, goD_calls, eq_self, implies_true, Int.reduceEq, Int.reduceBEq, Int.reduceBNe, Int.reduceLE, Int.reduceLT, Int.reduceAdd, Int.reduceSub, Int.reduceMul, Int.reduceNeg, Nat.reduceMul, Nat.reduceSub, Nat.reduceLeDiff, Nat.reduceLT, Nat.reduceEqDiff, Nat.reduceAdd, reduceCtorEq, ↓reduceIte, reduceIte, evR, hne, decide_false]; rfl) trivial rfl hnm (by ((try simp only []); repeat first | exact HLe.refl _ | refine HLe.cons (by simp only [hget, Nat.reduceEqDiff, Nat.left_eq_add, Nat.add_eq_left, nm_ne2, nm_en2, nm_ne3, nm_en3, nm_ne4, nm_en4, nm_ne5, nm_en5, reduceIte, ↓reduceIte] <;> first | rfl | ((repeat rw [if_neg (by omega)]) <;> rfl)) ?_ | refine HLe.skip hnm (by omega) ?_ | refine HLe.frz hnm (by omega) ?_ | refine HLe.del hnm (by omega) ?_)) hsp)).1⟩
      · cases hf
    · cases hf
  · exact hsp.elim

def WSame : Opts := mkWE 9 [] [0, 1, 2, 3, 4, 5, 6, 7, 8, 9, 10, 11, 12, 13, 14, 15, 16] [] 171 [0, 1, 2, 3, 4, 5, 6, 7, 8, 9, 10, 11, 12, 13, 14, 15, 16] [3]
def icSame : IC := (.seq (.seq (.ops [(.u (.bxf 3 (.strct [(.int .i64), .bool, (.int .i64)]) none (.s 1))), (.u (.mov 4 (.c (.bool false))))]) (.tr [0, 3])) (.seq (.seq (.rgn [(.s 0)] [(false, (.u (.mov 5 (.s 0)))), (true, (.u (.ld 7 (.strct [(.int .i64), .bool, (.int .i64)]) (.s 3)))), (false, (.u (.call 6 (.c (.clo 69 [])) [(.s 5)] [none] true))), (false, (.u (.call 8 (.c (.clo 68 [])) [(.s 6), (.s 7)] [none, none] true))), (false, (.u (.mov 4 (.s 8))))]) (.tr [4])) .ret))
def rsSame : List RV := [(.t 4)]
theorem irSame : fnIR Tryd.prog WSame 28 = some (icSame, rsSame) := by kernel_rfl
def spSame : FSpec := fun args h nx K => match args with
  | [e, .agg [.int .i64 c, .bool b, .int .i64 p]] => fOk e ∧ K (.bool (fC e == c && fB e == b && fP e == p)) h
  | _ => False
set_option maxHeartbeats 1000000 in
theorem vSame {E : Nat → Value} (hE : Errs2 Tryd.prog (some 171) E) : Valid Tryd.prog E G0 28 spSame := by
  refine valid_go (W := WSame) hE ((allValid_bot.add (vFault hE)).add (vSameFault hE)) irSame (by decide) (fun args h nx K hsp hok hnm => ?_)
  unfold spSame at hsp
  split at hsp
  · rename_i e c b p
    obtain ⟨hfo, hsp⟩ := hsp
    obtain ⟨c', b', p', hf, f1, f2, f3⟩ := fOk_spec hfo
    rw [f1, f2, f3] at hsp
    refine ⟨by simp [WSame, mkWE], fun Q hQ => ?_⟩
    have hfz : ∀ S, frzL [e] S = S := by
      intro S
      unfold faultOf at hf
      split at hf <;> first | rfl | cases hf
    have hren : ∀ π, e.ren π = e := by
      intro π
      unfold faultOf at hf
      split at hf <;> first | (simp only [SV.ren]; done) | cases hf
    simp only [icSame, go_sem, goD_calls, eq_self, implies_true, Int.reduceEq, Int.reduceBEq, Int.reduceBNe, Int.reduceLE, Int.reduceLT, Int.reduceAdd, Int.reduceSub, Int.reduceMul, Int.reduceNeg, Nat.reduceMul, Nat.reduceSub, Nat.reduceLeDiff, Nat.reduceLT, Nat.reduceEqDiff, Nat.reduceAdd, reduceCtorEq, ↓reduceIte, reduceIte, hfz, spFault, spSameFault, fA, argS_none, f1, f2, f3]
    exact ⟨hfo, (hQ _ (fin_t (.bool (c' == c && b' == b && p' == p)) rfl rfl hnm (by ((try simp only []); repeat first | exact HLe.refl _ | refine HLe.cons (by simp only [hget, Nat.reduceEqDiff, Nat.left_eq_add, Nat.add_eq_left, nm_ne2, nm_en2, nm_ne3, nm_en3, nm_ne4, nm_en4, nm_ne5, nm_en5, reduceIte, ↓reduceIte] <;> first | rfl | ((repeat rw [if_neg (by omega)]) <;> rfl)) ?_ | refine HLe.skip hnm (by omega) ?_ | refine HLe.frz hnm (by omega) ?_ | refine HLe.del hnm (by omega) ?_)) hsp)).1⟩
  · exact hsp.elim

def WIs : Opts := mkWE 9 [] [0, 1, 2, 3, 4, 5, 6, 7, 8, 9, 10, 11, 12, 13, 14, 15, 16] [] 171 [0, 1, 2, 3, 4, 5, 6, 7, 8, 9, 10, 11, 12, 13, 14, 15, 16] []
def icIs : IC := (.seq (.seq (.ops [(.u (.mov 4 (.c (.bool false))))]) (.tr [0, 1])) (.seq (.seq (.ops [(.u (.mov 5 (.s 0))), (.u (.mov 6 (.s 1))), (.u (.call 7 (.c (.clo 65 [])) [(.s 6)] [none] true)), (.u (.call 8 (.c (.clo 28 [])) [(.s 5), (.s 7)] [none, none] true)), (.u (.mov 4 (.s 8)))]) (.tr [4])) .ret))
def rsIs : List RV := [(.t 4)]
theorem irIs : fnIR Tryd.prog WIs 23 = some (icIs, rsIs) := by kernel_rfl
def spIs : FSpec := fun args h nx K => match args with
  | [e, .int .i64 c] => fOk e ∧ K (.bool (fC e == c && fB e == false && fP e == 0)) h
  | _ => False
set_option maxHeartbeats 1000000 in
theorem vIs {E : Nat → Value} (hE : Errs2 Tryd.prog (some 171) E) : Valid Tryd.prog E G0 23 spIs := by
  refine valid_go (W := WIs) hE ((allValid_bot.add (vSame hE)).add (vBare hE)) irIs (by decide) (fun args h nx K hsp hok hnm => ?_)
  unfold spIs at hsp
  split at hsp
  · rename_i e c
    obtain ⟨hfo, hsp⟩ := hsp
    obtain ⟨c', b', p', hf, f1, f2, f3⟩ := fOk_spec hfo
    rw [f1, f2, f3] at hsp
    refine ⟨by simp [WIs, mkWE], fun Q hQ => ?_⟩
    have hfz : ∀ x S, frzL [e, x] S = frzL [x] S := by
      intro x S
      unfold faultOf at hf
      split at hf <;> first | rfl | cases hf
    simp only [icIs, go_sem, goD_calls, eq_self, implies_true, Int.reduceEq, Int.reduceBEq, Int.reduceBNe, Int.reduceLE, Int.reduceLT, Int.reduceAdd, Int.reduceSub, Int.reduceMul, Int.reduceNeg, Nat.reduceMul, Nat.reduceSub, Nat.reduceLeDiff, Nat.reduceLT, Nat.reduceEqDiff, Nat.reduceAdd, reduceCtorEq, ↓reduceIte, reduceIte, hfz, spSame, spBare, fA, argS_none, f1, f2, f3]
    exact ⟨hfo, (hQ _ (fin_t (.bool (c' == c && b' == false && p' == 0)) rfl rfl hnm (by ((try simp only []); repeat first | exact HLe.refl _ | refine HLe.cons (by simp only [hget, Nat.reduceEqDiff, Nat.left_eq_add, Nat.add_eq_left, nm_ne2, nm_en2, nm_ne3, nm_en3, nm_ne4, nm_en4, nm_ne5, nm_en5, reduceIte, ↓reduceIte] <;> first | rfl | ((repeat rw [if_neg (by omega)]) <;> rfl)) ?_ | refine HLe.skip hnm (by omega) ?_ | refine HLe.frz hnm (by omega) ?_ | refine HLe.del hnm (by omega) ?_)) hsp)).1⟩
  · exact hsp.elim
theorem fault_nil : fOk (.dat .iface .nil) = True ∧ fC (.dat .iface .nil) = 0 ∧ fB (.dat .iface .nil) = false ∧ fP (.dat .iface .nil) = 0 := fOk_of rfl
theorem fault_err {x : Nat} (h : x ∈ errIds) : fOk (.dat .iface (.err x)) = True ∧ fC (.dat .iface (.err x)) = 101 + errIds.idxOf x ∧ fB (.dat .iface (.err x)) = false ∧ fP (.dat .iface (.err x)) = 0 := fOk_of (by simp [faultOf, h])
theorem fault_at {x : Nat} (h : x ∈ errIds) (p : Int) : fOk (.dat .iface (.ifc 141 (.ptr (.node [.int p, .err x])))) = True ∧ fC (.dat .iface (.ifc 141 (.ptr (.node [.int p, .err x])))) = 101 + errIds.idxOf x ∧ fB (.dat .iface (.ifc 141 (.ptr (.node [.int p, .err x])))) = true ∧ fP (.dat .iface (.ifc 141 (.ptr (.node [.int p, .err x])))) = p := fOk_of (by simp [faultOf, h])
end Go.Proofs.YtmjenjccinfbaaaDoor
