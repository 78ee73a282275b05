/- Chapter 15: the document's points: what they are told. -/
import Derived.Test.YtmjenjccinfbaaaDoorPntQ
import Derived.Test.YtmjenjccinfbaaaDoorBytes
namespace Go.Proofs.YtmjenjccinfbaaaDoor
set_option linter.unusedVariables false
set_option linter.unusedSimpArgs false
open Go Go.Fw
attribute [local go_sem] walkSet evMdl evMupD evMup evLkp frpL eltP eltV eltK preF preP prePt prePd frzP evNlq ev frOf oget ogets argSs argS evCat evMm frzL evBin evWrp evShf evCmp evUna evNil evBeq evLd evSt evFad evIad evAad evLen evSln evEls evApp evParts evSlc evNlc evMif evPck evFld evBld evTas evIfq evSeq evSl0 evBxf evAgl evAgq evBsf hget hset hdel cellAt arrAt setCellAt setArrAt takeC lenC svCells SV.okc SV.one ldSV Fw.isAgg explode explodeL toD toDL toD1 Ty.size Ty.sizeL frz1 Fr.sub Heap.sub Tok.sub SV.sub SV.subL

def WWRedo : Opts := mkWE 13 [] [] [] 171 [] []
def icWRedo : IC := (.seq (.seq (.ops [(.u (.box 1 0 (.s 0))), (.u (.mov 2 (.c (.bool false))))]) (.tr [1])) (.seq (.seq (.ops [(.u (.fad 3 7 7 (.slice 5) 34 (.s 1))), (.u (.ld 4 (.slice 5) (.s 3))), (.u (.len 5 false (.s 4))), (.u (.cmp 6 .leq (.s 5) (.c (.int .i64 100)))), (.u (.mov 7 (.s 6))), (.g 7 true (some 8) (.fad 8 8 8 (.slice 5) 34 (.s 1))), (.g 7 true (some 9) (.ld 9 (.slice 5) (.s 8))), (.g 7 true (some 10) (.len 10 false (.s 9))), (.g 7 true (some 11) (.cmp 11 .leq (.s 10) (.c (.int .i64 150)))), (.u (.pck 12 (.s 7) (.s 11) (.c (.bool false)))), (.u (.mov 2 (.s 12)))]) (.tr [2])) .ret))
def rsWRedo : List RV := [(.t 2)]
theorem irWRedo : fnIR Tryd.prog WWRedo 38 = some (icWRedo, rsWRedo) := by kernel_rfl
def spWRedo : FSpec := fun args h nx K => match args with
  | [.agg [.int .i64 n, .int .i64 x1, .int .i64 x2, .int .i64 g, .int .i64 x4, .int .i64 x5, .int .i64 x6, .dat (.slice t) a, .dat (.slice t') b, .bool c]] => t = 5 ∧ t' = 5 ∧ K (.bool (decide (a.l.length ≤ 100) && decide (b.l.length ≤ 150))) h
  | _ => False
set_option maxHeartbeats 4000000 in
set_option maxRecDepth 8000 in
theorem vWRedo {E : Nat → Value} (hE : Errs2 Tryd.prog (some 171) E) : Valid Tryd.prog E (gs []) 38 spWRedo := by
  refine valid_go (W := WWRedo) hE allValid_bot irWRedo (by decide) (fun args h nx K hsp hok hnm => ?_)
  unfold spWRedo at hsp
  split at hsp
  · rename_i n x1 x2 g x4 x5 x6 t a t' b c
    obtain ⟨rfl, rfl, hK⟩ := hsp
    refine ⟨by simp [WWRedo, mkW, mkWE, mkWF], fun Q hQ => ?_⟩
    obtain ⟨⟨_, _, _, _, _, _, _, ha, hb, _⟩, _⟩ := hok
    simp only [SV.ok] at ha hb
    obtain ⟨ha1, ha2, ha3⟩ := Wt.slice ha; generalize a.l = al at *; subst ha1
    obtain ⟨hb1, hb2, hb3⟩ := Wt.slice hb; generalize b.l = bl at *; subst hb1
    have e1 : decide ((al.length : Int) ≤ 100) = decide (al.length ≤ 100) := by rw [decide_eq_decide]; omega
    have e2 : decide ((bl.length : Int) ≤ 150) = decide (bl.length ≤ 150) := by rw [decide_eq_decide]; omega
    have hK' : K (.bool (decide (al.length ≤ 100) && decide (bl.length ≤ 150))) h := hK
    by_cases h1 : al.length ≤ 100
    · rw [decide_eq_true h1, Bool.true_and] at hK'
      rw [decide_eq_true h1] at e1
      simp (maxSteps := 4000000) only [icWRedo, go_sem, goD_calls, eq_self, implies_true, Int.reduceEq, Int.reduceBEq, Int.reduceBNe, Int.reduceLE, Int.reduceLT, Int.reduceAdd, Int.reduceSub, Int.reduceMul, Int.reduceNeg, Nat.reduceMul, Nat.reduceSub, Nat.reduceLeDiff, Nat.reduceLT, Nat.reduceEqDiff, Nat.reduceAdd, reduceCtorEq, ↓reduceIte, reduceIte, e1, e2]
      refine (hQ _ ?_).1
      exact fin_t (.bool _) rfl rfl hnm (by ((try simp only []); repeat first | exact HLe.refl _ | refine HLe.cons (by simp only [hget, Nat.reduceEqDiff, Nat.left_eq_add, Nat.add_eq_left, nm_ne2, nm_en2, nm_ne3, nm_en3, nm_ne4, nm_en4, nm_ne5, nm_en5, reduceIte, ↓reduceIte] <;> first | rfl | ((repeat rw [if_neg (by omega)]) <;> rfl)) ?_ | refine HLe.skip hnm (by omega) ?_ | refine HLe.frz hnm (by omega) ?_ | refine HLe.del hnm (by omega) ?_)) hK'
    · rw [decide_eq_false h1, Bool.false_and] at hK'
      rw [decide_eq_false h1] at e1
      simp (maxSteps := 4000000) only [icWRedo, go_sem, goD_calls, eq_self, implies_true, Int.reduceEq, Int.reduceBEq, Int.reduceBNe, Int.reduceLE, Int.reduceLT, Int.reduceAdd, Int.reduceSub, Int.reduceMul, Int.reduceNeg, Nat.reduceMul, Nat.reduceSub, Nat.reduceLeDiff, Nat.reduceLT, Nat.reduceEqDiff, Nat.reduceAdd, reduceCtorEq, ↓reduceIte, reduceIte, e1, e2]
      refine (hQ _ ?_).1
      exact fin_t (.bool _) rfl rfl hnm (by ((try simp only []); repeat first | exact HLe.refl _ | refine HLe.cons (by simp only [hget, Nat.reduceEqDiff, Nat.left_eq_add, Nat.add_eq_left, nm_ne2, nm_en2, nm_ne3, nm_en3, nm_ne4, nm_en4, nm_ne5, nm_en5, reduceIte, ↓reduceIte] <;> first | rfl | ((repeat rw [if_neg (by omega)]) <;> rfl)) ?_ | refine HLe.skip hnm (by omega) ?_ | refine HLe.frz hnm (by omega) ?_ | refine HLe.del hnm (by omega) ?_)) hK'
  · exact hsp.elim
def WR1LSN : Opts := mkWE 9 [] [] [] 171 [] []
def icR1LSN : IC := (.seq (.seq (.ops [(.u (.mov 2 (.c (.bool false))))]) (.tr [0])) (.seq (.seq (.ops [(.u (.mov 3 (.s 0))), (.u (.cmp 4 .geq (.s 3) (.c (.int .i64 1)))), (.u (.mov 5 (.s 4))), (.g 5 true (some 6) (.mov 6 (.s 0))), (.g 5 true (some 7) (.cmp 7 .leq (.s 6) (.c (.int .i64 1099511627776)))), (.u (.pck 8 (.s 5) (.s 7) (.c (.bool false)))), (.u (.mov 2 (.s 8)))]) (.tr [2])) .ret))
def rsR1LSN : List RV := [(.t 2)]
theorem irR1LSN : fnIR Tryd.prog WR1LSN 75 = some (icR1LSN, rsR1LSN) := by kernel_rfl
def spR1LSN : FSpec := fun args h nx K => match args with
  | [.int .i64 n] => K (.bool (decide (1 ≤ n) && decide (n ≤ 1099511627776))) h
  | _ => False
set_option maxHeartbeats 4000000 in
set_option maxRecDepth 8000 in
theorem vR1LSN {E : Nat → Value} (hE : Errs2 Tryd.prog (some 171) E) : Valid Tryd.prog E (gs []) 75 spR1LSN := by
  refine valid_go (W := WR1LSN) hE allValid_bot irR1LSN (by decide) (fun args h nx K hsp hok hnm => ?_)
  unfold spR1LSN at hsp
  split at hsp
  · rename_i n
    have hK' := hsp
    refine ⟨by simp [WR1LSN, mkW, mkWE, mkWF], fun Q hQ => ?_⟩
    by_cases h1 : 1 ≤ n
    · rw [decide_eq_true h1, Bool.true_and] at hK'
      have e1 : decide (1 ≤ n) = true := decide_eq_true h1
      simp (maxSteps := 4000000) only [icR1LSN, go_sem, goD_calls, eq_self, implies_true, Int.reduceEq, Int.reduceBEq, Int.reduceBNe, Int.reduceLE, Int.reduceLT, Int.reduceAdd, Int.reduceSub, Int.reduceMul, Int.reduceNeg, Nat.reduceMul, Nat.reduceSub, Nat.reduceLeDiff, Nat.reduceLT, Nat.reduceEqDiff, Nat.reduceAdd, reduceCtorEq, ↓reduceIte, reduceIte, e1]
      refine (hQ _ ?_).1
      exact fin_t (.bool _) rfl rfl hnm (by ((try simp only []); repeat first | exact HLe.refl _ | refine HLe.cons (by simp only [hget, Nat.reduceEqDiff, Nat.left_eq_add, Nat.add_eq_left, nm_ne2, nm_en2, nm_ne3, nm_en3, nm_ne4, nm_en4, nm_ne5, nm_en5, reduceIte, ↓reduceIte] <;> first | rfl | ((repeat rw [if_neg (by omega)]) <;> rfl)) ?_ | refine HLe.skip hnm (by omega) ?_ | refine HLe.frz hnm (by omega) ?_ | refine HLe.del hnm (by omega) ?_)) hK'
    · rw [decide_eq_false h1, Bool.false_and] at hK'
      have e1 : decide (1 ≤ n) = false := decide_eq_false h1
      simp (maxSteps := 4000000) only [icR1LSN, go_sem, goD_calls, eq_self, implies_true, Int.reduceEq, Int.reduceBEq, Int.reduceBNe, Int.reduceLE, Int.reduceLT, Int.reduceAdd, Int.reduceSub, Int.reduceMul, Int.reduceNeg, Nat.reduceMul, Nat.reduceSub, Nat.reduceLeDiff, Nat.reduceLT, Nat.reduceEqDiff, Nat.reduceAdd, reduceCtorEq, ↓reduceIte, reduceIte, e1]
      refine (hQ _ ?_).1
      exact fin_t (.bool _) rfl rfl hnm (by ((try simp only []); repeat first | exact HLe.refl _ | refine HLe.cons (by simp only [hget, Nat.reduceEqDiff, Nat.left_eq_add, Nat.add_eq_left, nm_ne2, nm_en2, nm_ne3, nm_en3, nm_ne4, nm_en4, nm_ne5, nm_en5, reduceIte, ↓reduceIte] <;> first | rfl | ((repeat rw [if_neg (by omega)]) <;> rfl)) ?_ | refine HLe.skip hnm (by omega) ?_ | refine HLe.frz hnm (by omega) ?_ | refine HLe.del hnm (by omega) ?_)) hK'
  · exact hsp.elim
def redA (n x1 x2 g x4 x5 x6 : Int) (a b : List D) (c : Bool) : SV := .agg [.int .i64 n, .int .i64 x1, .int .i64 x2, .int .i64 g, .int .i64 x4, .int .i64 x5, .int .i64 x6, .dat (.slice 5) (.list a), .dat (.slice 5) (.list b), .bool c]
theorem redA_def (n x1 x2 g x4 x5 x6 : Int) (a b : List D) (c : Bool) : redA n x1 x2 g x4 x5 x6 a b c = .agg [.int .i64 n, .int .i64 x1, .int .i64 x2, .int .i64 g, .int .i64 x4, .int .i64 x5, .int .i64 x6, .dat (.slice 5) (.list a), .dat (.slice 5) (.list b), .bool c] := rfl
def WRRedo : Opts := mkWE 26 [] [] [] 171 [] [1]
def icRRedo : IC := (.seq (.seq (.ops [(.u (.bxf 1 (.strct [(.int .i64), (.int .i64), (.int .i64), (.int .i64), (.int .i64), (.int .i64), (.int .i64), (.slice 5), (.slice 5), .bool]) none (.s 0))), (.u (.alc 2 [(.int .i64 0), (.int .i64 0), (.int .i64 0), (.int .i64 0), (.int .i64 0), (.int .i64 0), (.int .i64 0), .nils, .nils, (.bool false)]))]) (.tr [1, 2])) (.seq (.seq (.rgn [] [(false, (.u (.fad 3 0 0 (.int .i64) 34 (.s 1)))), (true, (.u (.ld 4 (.int .i64) (.s 3)))), (false, (.u (.fad 5 1 1 (.int .i64) 34 (.s 1)))), (true, (.u (.ld 6 (.int .i64) (.s 5)))), (false, (.u (.fad 7 2 2 (.int .i64) 34 (.s 1)))), (true, (.u (.ld 8 (.int .i64) (.s 7)))), (false, (.u (.fad 9 3 3 (.int .i64) 34 (.s 1)))), (true, (.u (.ld 10 (.int .i64) (.s 9)))), (false, (.u (.fad 11 4 4 (.int .i64) 34 (.s 1)))), (true, (.u (.ld 12 (.int .i64) (.s 11)))), (false, (.u (.fad 13 5 5 (.int .i64) 34 (.s 1)))), (true, (.u (.ld 14 (.int .i64) (.s 13)))), (false, (.u (.fad 15 6 6 (.int .i64) 34 (.s 1)))), (true, (.u (.ld 16 (.int .i64) (.s 15)))), (false, (.u (.fad 17 7 7 (.slice 5) 34 (.s 1)))), (false, (.u (.ld 18 (.slice 5) (.s 17)))), (false, (.u (.fad 20 8 8 (.slice 5) 34 (.s 1)))), (true, (.u (.ld 21 (.slice 5) (.s 20)))), (false, (.u (.fad 23 9 9 .bool 34 (.s 1)))), (true, (.u (.ld 24 .bool (.s 23)))), (false, (.u (.call 19 (.c (.clo 74 [])) [(.s 18)] [(some 5)] true))), (false, (.u (.call 22 (.c (.clo 74 [])) [(.s 21)] [(some 5)] true))), (false, (.u (.bld 25 [[(.int .i64 0)], [(.int .i64 0)], [(.int .i64 0)], [(.int .i64 0)], [(.int .i64 0)], [(.int .i64 0)], [(.int .i64 0)], [.nils], [.nils], [(.bool false)]] [(0, (.s 4)), (1, (.s 6)), (2, (.s 8)), (3, (.s 10)), (4, (.s 12)), (5, (.s 14)), (6, (.s 16)), (7, (.s 19)), (8, (.s 22)), (9, (.s 24))]))), (false, (.u (.st (.strct [(.int .i64), (.int .i64), (.int .i64), (.int .i64), (.int .i64), (.int .i64), (.int .i64), (.slice 5), (.slice 5), .bool]) (.s 2) (.s 25))))]) (.tr [2])) .ret))
def rsRRedo : List RV := [(.c 2 (.strct [(.int .i64), (.int .i64), (.int .i64), (.int .i64), (.int .i64), (.int .i64), (.int .i64), (.slice 5), (.slice 5), .bool]))]
theorem irRRedo : fnIR Tryd.prog WRRedo 40 = some (icRRedo, rsRRedo) := by kernel_rfl
def spRRedo : FSpec := fun args h nx K => match args with
  | [.agg [.int .i64 n, .int .i64 x1, .int .i64 x2, .int .i64 g, .int .i64 x4, .int .i64 x5, .int .i64 x6, .dat (.slice t) a, .dat (.slice t') b, .bool c]] => t = 5 ∧ t' = 5 ∧ a.l.length ≤ 1000 ∧ b.l.length ≤ 1000 ∧ K (redA n x1 x2 g x4 x5 x6 a.l b.l c) h
  | _ => False
set_option maxHeartbeats 4000000 in
set_option maxRecDepth 8000 in
theorem vRRedo {E : Nat → Value} (hE : Errs2 Tryd.prog (some 171) E) : Valid Tryd.prog E (gs []) 40 spRRedo := by
  refine valid_go (W := WRRedo) hE (allValid_bot.add (up (vBytes hE))) irRRedo (by decide) (fun args h nx K hsp hok hnm => ?_)
  unfold spRRedo at hsp
  split at hsp
  · rename_i n x1 x2 g x4 x5 x6 t a t' b c
    obtain ⟨rfl, rfl, hla, hlb, hK⟩ := hsp
    rw [redA_def] at hK
    refine ⟨by simp [WRRedo, mkW, mkWE, mkWF], fun Q hQ => ?_⟩
    obtain ⟨⟨_, _, _, _, _, _, _, ha, hb, _⟩, _⟩ := hok
    simp only [SV.ok] at ha hb
    obtain ⟨ha1, ha2, ha3⟩ := Wt.slice ha; generalize a.l = al at *; subst ha1
    obtain ⟨hb1, hb2, hb3⟩ := Wt.slice hb; generalize b.l = bl at *; subst hb1
    simp (maxSteps := 4000000) only [icRRedo, go_sem, goD_calls, eq_self, implies_true, Int.reduceEq, Int.reduceBEq, Int.reduceBNe, Int.reduceLE, Int.reduceLT, Int.reduceAdd, Int.reduceSub, Int.reduceMul, Int.reduceNeg, Nat.reduceMul, Nat.reduceSub, Nat.reduceLeDiff, Nat.reduceLT, Nat.reduceEqDiff, Nat.reduceAdd, reduceCtorEq, ↓reduceIte, reduceIte, spBytes]
    repeat refine ⟨by first | rfl | omega, ?_⟩
    refine (hQ _ ?_).1
    refine fin_new (p := True) (xs := [.agg [.int .i64 n, .int .i64 x1, .int .i64 x2, .int .i64 g, .int .i64 x4, .int .i64 x5, .int .i64 x6, .vec (nx + 1), .vec (nx + 1 + 64), .bool c]]) ?_ trivial (.frz (nx + 1) (.frz (nx + 1 + 64) (.refl _))) [] (redA n x1 x2 g x4 x5 x6 al bl c) [] (by simp) (by simp) (by simp) ?_ ⟨trivial, trivial, trivial, trivial, trivial, trivial, trivial, trivial, trivial, trivial, trivial⟩ rfl (by simp) (by simp) hnm ?_ hK
    · simp only [rsRRedo, evRs, evR, go_sem, goD_calls, eq_self, implies_true, Int.reduceEq, Int.reduceBEq, Int.reduceBNe, Int.reduceLE, Int.reduceLT, Int.reduceAdd, Int.reduceSub, Int.reduceMul, Int.reduceNeg, Nat.reduceMul, Nat.reduceSub, Nat.reduceLeDiff, Nat.reduceLT, Nat.reduceEqDiff, Nat.reduceAdd, reduceCtorEq, ↓reduceIte, reduceIte]
    · simp only [mkR, redA_def, go_sem, goD_calls, eq_self, implies_true, Int.reduceEq, Int.reduceBEq, Int.reduceBNe, Int.reduceLE, Int.reduceLT, Int.reduceAdd, Int.reduceSub, Int.reduceMul, Int.reduceNeg, Nat.reduceMul, Nat.reduceSub, Nat.reduceLeDiff, Nat.reduceLT, Nat.reduceEqDiff, Nat.reduceAdd, reduceCtorEq, ↓reduceIte, reduceIte, SV.ren, SV.renL, rens]
    · simp only [mkR, go_sem, goD_calls, eq_self, implies_true, Int.reduceEq, Int.reduceBEq, Int.reduceBNe, Int.reduceLE, Int.reduceLT, Int.reduceAdd, Int.reduceSub, Int.reduceMul, Int.reduceNeg, Nat.reduceMul, Nat.reduceSub, Nat.reduceLeDiff, Nat.reduceLT, Nat.reduceEqDiff, Nat.reduceAdd, reduceCtorEq, ↓reduceIte, reduceIte] <;> ((try simp only []); repeat first | exact HLe.refl _ | refine HLe.cons (by simp only [hget, Nat.reduceEqDiff, Nat.left_eq_add, Nat.add_eq_left, nm_ne2, nm_en2, nm_ne3, nm_en3, nm_ne4, nm_en4, nm_ne5, nm_en5, reduceIte, ↓reduceIte] <;> first | rfl | ((repeat rw [if_neg (by omega)]) <;> rfl)) ?_ | refine HLe.skip hnm (by omega) ?_ | refine HLe.frz hnm (by omega) ?_ | refine HLe.del hnm (by omega) ?_)
  · exact hsp.elim
def lastR (s : Int) (l : List D) : Int := if l.length = 0 then s else ((l.getD (l.length - 1) .nil).fld 0).i
def WRlast : Opts := mkWE 26 [] [] [] 171 [] []
def icRlast : IC := (.seq (.seq (.ops [(.u (.mov 2 (.c (.int .i64 0))))]) (.tr [0])) (.seq (.seq (.seq (.ops [(.u (.mov 3 (.s 0))), (.u (.nlc 4 (.s 3))), (.u (.fad 5 3 3 (.slice 34) 82 (.s 4))), (.u (.ld 6 (.slice 34) (.s 5))), (.u (.len 7 false (.s 6))), (.u (.cmp 8 .eql (.s 7) (.c (.int .i64 0))))]) (.tr [8, 0])) (.cond (.s 8) (.seq (.seq (.ops [(.u (.mov 9 (.s 0))), (.u (.nlc 10 (.s 9))), (.u (.fad 11 1 1 (.int .i64) 82 (.s 10))), (.u (.ld 12 (.int .i64) (.s 11))), (.u (.mov 2 (.s 12)))]) (.tr [2])) .ret) .skip)) (.seq (.seq (.rgn [] [(false, (.u (.mov 13 (.s 0)))), (false, (.u (.nlc 14 (.s 13)))), (false, (.u (.fad 15 3 3 (.slice 34) 82 (.s 14)))), (false, (.u (.ld 16 (.slice 34) (.s 15)))), (false, (.u (.mov 17 (.s 0)))), (false, (.u (.nlc 18 (.s 17)))), (false, (.u (.fad 19 3 3 (.slice 34) 82 (.s 18)))), (false, (.u (.ld 20 (.slice 34) (.s 19)))), (false, (.u (.len 21 false (.s 20)))), (false, (.u (.bin 22 .sub .i64 (.s 21) (.c (.int .i64 1))))), (false, (.u (.iad 23 34 (.strct [(.int .i64), (.int .i64), (.int .i64), (.int .i64), (.int .i64), (.int .i64), (.int .i64), (.slice 5), (.slice 5), .bool]) (.s 16) (.s 22)))), (false, (.u (.fad 24 0 0 (.int .i64) 34 (.s 23)))), (false, (.u (.ld 25 (.int .i64) (.s 24)))), (false, (.u (.mov 2 (.s 25))))]) (.tr [2])) .ret)))
def rsRlast : List RV := [(.t 2)]
theorem irRlast : fnIR Tryd.prog WRlast 76 = some (icRlast, rsRlast) := by kernel_rfl
def spRlast : FSpec := fun args h nx K => match args with
  | [.ptr p 0] => qOk (hget h p) ∧ rrOk (hget h (qU (hget h p))) ∧ (aL (hget h (qU (hget h p)))).length ≤ 1000000 ∧ K (.int .i64 (lastR (qS (hget h p)) (aL (hget h (qU (hget h p)))))) h
  | _ => False
set_option maxHeartbeats 4000000 in
set_option maxRecDepth 8000 in
theorem vRlast {E : Nat → Value} (hE : Errs2 Tryd.prog (some 171) E) : Valid Tryd.prog E (gs []) 76 spRlast := by
  refine valid_go (W := WRlast) hE allValid_bot irRlast (by decide) (fun args h nx K hsp hok hnm => ?_)
  unfold spRlast at hsp
  split at hsp
  · rename_i p
    obtain ⟨⟨g0, s, sp, u, v, hp⟩, hs, hlen, hK⟩ := hsp
    rw [hp] at hs hlen hK
    rw [rpC_def] at hp hs hlen hK
    rw [qU_c] at hs
    obtain ⟨l, hu⟩ := hs
    rw [qU_c, hu, aL_c] at hlen
    rw [qU_c, qS_c, hu, aL_c] at hK
    have hpx := (hnm p _ hp).1
    have hux := (hnm u _ hu).1
    refine ⟨by simp [WRlast, mkW, mkWE, mkWF], fun Q hQ => ?_⟩
    have pn0p : (nx = p) = False := eq_false (by omega)
    have pn1p : ∀ a0 : Nat, (nx + a0 = p) = False := fun a0 => eq_false (by omega)
    have pn2p : ∀ a0 a1 : Nat, (nx + a0 + a1 = p) = False := fun a0 a1 => eq_false (by omega)
    have pn3p : ∀ a0 a1 a2 : Nat, (nx + a0 + a1 + a2 = p) = False := fun a0 a1 a2 => eq_false (by omega)
    have pn4p : ∀ a0 a1 a2 a3 : Nat, (nx + a0 + a1 + a2 + a3 = p) = False := fun a0 a1 a2 a3 => eq_false (by omega)
    have pn5p : ∀ a0 a1 a2 a3 a4 : Nat, (nx + a0 + a1 + a2 + a3 + a4 = p) = False := fun a0 a1 a2 a3 a4 => eq_false (by omega)
    have pn6p : ∀ a0 a1 a2 a3 a4 a5 : Nat, (nx + a0 + a1 + a2 + a3 + a4 + a5 = p) = False := fun a0 a1 a2 a3 a4 a5 => eq_false (by omega)
    have pn7p : ∀ a0 a1 a2 a3 a4 a5 a6 : Nat, (nx + a0 + a1 + a2 + a3 + a4 + a5 + a6 = p) = False := fun a0 a1 a2 a3 a4 a5 a6 => eq_false (by omega)
    have pn0u : (nx = u) = False := eq_false (by omega)
    have pn1u : ∀ a0 : Nat, (nx + a0 = u) = False := fun a0 => eq_false (by omega)
    have pn2u : ∀ a0 a1 : Nat, (nx + a0 + a1 = u) = False := fun a0 a1 => eq_false (by omega)
    have pn3u : ∀ a0 a1 a2 : Nat, (nx + a0 + a1 + a2 = u) = False := fun a0 a1 a2 => eq_false (by omega)
    have pn4u : ∀ a0 a1 a2 a3 : Nat, (nx + a0 + a1 + a2 + a3 = u) = False := fun a0 a1 a2 a3 => eq_false (by omega)
    have pn5u : ∀ a0 a1 a2 a3 a4 : Nat, (nx + a0 + a1 + a2 + a3 + a4 = u) = False := fun a0 a1 a2 a3 a4 => eq_false (by omega)
    have pn6u : ∀ a0 a1 a2 a3 a4 a5 : Nat, (nx + a0 + a1 + a2 + a3 + a4 + a5 = u) = False := fun a0 a1 a2 a3 a4 a5 => eq_false (by omega)
    have pn7u : ∀ a0 a1 a2 a3 a4 a5 a6 : Nat, (nx + a0 + a1 + a2 + a3 + a4 + a5 + a6 = u) = False := fun a0 a1 a2 a3 a4 a5 a6 => eq_false (by omega)
    unfold lastR at hK
    by_cases h0 : l.length = 0
    · rw [if_pos h0] at hK
      have d1 : ((l.length : Int) == 0) = true := by rw [h0]; rfl
      simp (maxSteps := 4000000) only [icRlast, go_sem, goD_calls, eq_self, implies_true, Int.reduceEq, Int.reduceBEq, Int.reduceBNe, Int.reduceLE, Int.reduceLT, Int.reduceAdd, Int.reduceSub, Int.reduceMul, Int.reduceNeg, Nat.reduceMul, Nat.reduceSub, Nat.reduceLeDiff, Nat.reduceLT, Nat.reduceEqDiff, Nat.reduceAdd, reduceCtorEq, ↓reduceIte, reduceIte, pn0p, pn1p, pn2p, pn3p, pn4p, pn5p, pn6p, pn7p, pn0u, pn1u, pn2u, pn3u, pn4u, pn5u, pn6u, pn7u, hp, hu, d1]
      refine (hQ _ ?_).1
      exact fin_t (.int .i64 _) rfl rfl hnm (by ((try simp only []); repeat first | exact HLe.refl _ | refine HLe.cons (by simp only [hget, Nat.reduceEqDiff, Nat.left_eq_add, Nat.add_eq_left, nm_ne2, nm_en2, nm_ne3, nm_en3, nm_ne4, nm_en4, nm_ne5, nm_en5, reduceIte, ↓reduceIte] <;> first | rfl | ((repeat rw [if_neg (by omega)]) <;> rfl)) ?_ | refine HLe.skip hnm (by omega) ?_ | refine HLe.frz hnm (by omega) ?_ | refine HLe.del hnm (by omega) ?_)) hK
    · rw [if_neg h0] at hK
      have d1 : ((l.length : Int) == 0) = false := beq_eq_false_iff_ne.2 (by omega)
      have ei : ((l.length : Int) - 1).toNat = l.length - 1 := by omega
      simp (maxSteps := 4000000) only [icRlast, go_sem, goD_calls, eq_self, implies_true, Int.reduceEq, Int.reduceBEq, Int.reduceBNe, Int.reduceLE, Int.reduceLT, Int.reduceAdd, Int.reduceSub, Int.reduceMul, Int.reduceNeg, Nat.reduceMul, Nat.reduceSub, Nat.reduceLeDiff, Nat.reduceLT, Nat.reduceEqDiff, Nat.reduceAdd, reduceCtorEq, ↓reduceIte, reduceIte, pn0p, pn1p, pn2p, pn3p, pn4p, pn5p, pn6p, pn7p, pn0u, pn1u, pn2u, pn3u, pn4u, pn5u, pn6u, pn7u, hp, hu, d1, ei, min_i64, max_i64]
      repeat refine ⟨by first | omega | rfl, ?_⟩
      refine (hQ _ ?_).1
      exact fin_t (.int .i64 _) rfl rfl hnm (by ((try simp only []); repeat first | exact HLe.refl _ | refine HLe.cons (by simp only [hget, Nat.reduceEqDiff, Nat.left_eq_add, Nat.add_eq_left, nm_ne2, nm_en2, nm_ne3, nm_en3, nm_ne4, nm_en4, nm_ne5, nm_en5, reduceIte, ↓reduceIte] <;> first | rfl | ((repeat rw [if_neg (by omega)]) <;> rfl)) ?_ | refine HLe.skip hnm (by omega) ?_ | refine HLe.frz hnm (by omega) ?_ | refine HLe.del hnm (by omega) ?_)) hK
  · exact hsp.elim
def redD (n x1 x2 g x4 x5 x6 : Int) (a b : List D) (c : Bool) : D := .node [.int n, .int x1, .int x2, .int g, .int x4, .int x5, .int x6, .list a, .list b, .bool c]
theorem redD_def (n x1 x2 g x4 x5 x6 : Int) (a b : List D) (c : Bool) : redD n x1 x2 g x4 x5 x6 a b c = .node [.int n, .int x1, .int x2, .int g, .int x4, .int x5, .int x6, .list a, .list b, .bool c] := rfl
def WRSent : Opts := mkWF 50 [] [] [] 171 [] [] [] [30, 31, 45]
def icRSent : IC := (.seq (.seq (.ops [(.u (.box 3 0 (.s 1))), (.u (.mov 4 (.c (.int .i64 0))))]) (.tr [0, 3])) (.seq (.seq (.seq (.rgn [] [(false, (.u (.fad 5 3 3 (.int .i64) 34 (.s 3)))), (false, (.u (.ld 6 (.int .i64) (.s 5)))), (false, (.u (.cmp 7 .lss (.s 6) (.c (.int .i64 0))))), (false, (.u (.mov 8 (.s 7)))), (false, (.g 8 false (some 9) (.fad 9 3 3 (.int .i64) 34 (.s 3)))), (false, (.g 8 false (some 10) (.ld 10 (.int .i64) (.s 9)))), (false, (.g 8 false (some 11) (.mov 11 (.s 0)))), (false, (.g 8 false (some 12) (.nlc 12 (.s 11)))), (false, (.g 8 false (some 13) (.fad 13 0 0 (.int .i64) 82 (.s 12)))), (false, (.g 8 false (some 14) (.ld 14 (.int .i64) (.s 13)))), (false, (.g 8 false (some 15) (.cmp 15 .geq (.s 10) (.s 14)))), (false, (.u (.pck 16 (.s 8) (.c (.bool true)) (.s 15)))), (false, (.u (.mov 17 (.s 16)))), (false, (.g 17 false (some 18) (.fad 18 0 0 (.int .i64) 34 (.s 3)))), (false, (.g 17 false (some 19) (.ld 19 (.int .i64) (.s 18)))), (false, (.g 17 false (some 20) (.call 20 (.c (.clo 75 [])) [(.s 19)] [none] true))), (false, (.g 17 false (some 21) (.una 21 .not (.s 20)))), (false, (.u (.pck 22 (.s 17) (.c (.bool true)) (.s 21))))]) (.tr [22, 0, 3])) (.cond (.s 22) (.seq (.seq (.ops [(.u (.mov 4 (.c (.int .i64 105))))]) (.tr [4])) .ret) .skip)) (.seq (.seq (.seq (.rgn [(.s 0)] [(false, (.u (.fad 23 0 0 (.int .i64) 34 (.s 3)))), (false, (.u (.ld 24 (.int .i64) (.s 23)))), (false, (.u (.mov 25 (.s 0)))), (false, (.u (.nlc 26 (.s 25)))), (false, (.u (.fad 27 2 2 (.slice 41) 82 (.s 26)))), (false, (.u (.ld 28 (.slice 41) (.s 27)))), (false, (.u (.mov 29 (.s 0)))), (true, (.u (.call 30 (.c (.clo 76 [])) [(.s 29)] [none] true))), (true, (.u (.call 31 (.c (.clo 24 [])) [(.s 28), (.s 30)] [(some 41), none] true))), (false, (.u (.cmp 32 .neq (.s 24) (.s 31))))]) (.tr [32, 0, 3])) (.cond (.s 32) (.seq (.seq (.ops [(.u (.mov 4 (.c (.int .i64 103))))]) (.tr [4])) .ret) .skip)) (.seq (.seq (.seq (.ops [(.u (.mov 33 (.s 0))), (.u (.nlc 34 (.s 33))), (.u (.fad 35 3 3 (.slice 34) 82 (.s 34))), (.u (.ld 36 (.slice 34) (.s 35))), (.u (.len 37 false (.s 36))), (.u (.cmp 38 .geq (.s 37) (.c (.int .i64 16384))))]) (.tr [38, 0, 3])) (.cond (.s 38) (.seq (.seq (.ops [(.u (.mov 4 (.c (.int .i64 104))))]) (.tr [4])) .ret) .skip)) (.seq (.seq (.rgn [] [(false, (.u (.mov 39 (.s 0)))), (false, (.u (.mov 40 (.s 0)))), (false, (.u (.nlc 41 (.s 40)))), (false, (.u (.fad 42 3 3 (.slice 34) 82 (.s 41)))), (false, (.u (.ld 43 (.slice 34) (.s 42)))), (false, (.u (.ld 44 (.strct [(.int .i64), (.int .i64), (.int .i64), (.int .i64), (.int .i64), (.int .i64), (.int .i64), (.slice 5), (.slice 5), .bool]) (.s 3)))), (true, (.u (.call 45 (.c (.clo 40 [])) [(.s 44)] [none] true))), (false, (.u (.bsl 46 34 (.strct [(.int .i64), (.int .i64), (.int .i64), (.int .i64), (.int .i64), (.int .i64), (.int .i64), (.slice 5), (.slice 5), .bool]) [(.s 45)]))), (false, (.u (.app 47 34 (.strct [(.int .i64), (.int .i64), (.int .i64), (.int .i64), (.int .i64), (.int .i64), (.int .i64), (.slice 5), (.slice 5), .bool]) 112 (.s 43) (.s 46)))), (false, (.u (.nlc 48 (.s 39)))), (false, (.u (.fad 49 3 3 (.slice 34) 82 (.s 48)))), (false, (.u (.st (.slice 34) (.s 49) (.s 47))))]) (.tr [])) (.seq (.seq (.ops [(.u (.mov 4 (.c (.int .i64 0))))]) (.tr [4])) .ret))))))
def rsRSent : List RV := [(.t 4)]
theorem irRSent : fnIR Tryd.prog WRSent 41 = some (icRSent, rsRSent) := by kernel_rfl
def spRSent : FSpec := fun args h nx K => match args with
  | [.ptr p 0, .agg [.int .i64 n, .int .i64 x1, .int .i64 x2, .int .i64 g, .int .i64 x4, .int .i64 x5, .int .i64 x6, .dat (.slice t) a, .dat (.slice t') b, .bool c]] =>
      ∃ G s sp u v l, hget h p = some (rpC G s sp u v) ∧ hget h u = some (.arr 34 redT l) ∧ t = 5 ∧ t' = 5 ∧ a.l.length ≤ 1000 ∧ b.l.length ≤ 1000 ∧ l.length ≤ 16384 ∧ goodS' sp ∧ lastR s l ≤ 1099511627776 ∧
      (¬ (0 ≤ g ∧ g < G ∧ 1 ≤ n ∧ n ≤ 1099511627776) → K (.int .i64 105) h) ∧
      ((0 ≤ g ∧ g < G ∧ 1 ≤ n ∧ n ≤ 1099511627776) → n ≠ nextF sp (lastR s l) → K (.int .i64 103) h) ∧
      ((0 ≤ g ∧ g < G ∧ 1 ≤ n ∧ n ≤ 1099511627776) → n = nextF sp (lastR s l) → 16384 ≤ l.length → K (.int .i64 104) h) ∧
      ((0 ≤ g ∧ g < G ∧ 1 ≤ n ∧ n ≤ 1099511627776) → n = nextF sp (lastR s l) → l.length < 16384 → K (.int .i64 0) ((nx, .arr 34 redT (l ++ [redD n x1 x2 g x4 x5 x6 a.l b.l c])) :: hset (hdel h u) p (rpC G s sp nx v)))
  | _ => False
set_option maxHeartbeats 4000000 in
set_option maxRecDepth 8000 in
theorem vRSent {E : Nat → Value} (hE : Errs2 Tryd.prog (some 171) E) : Valid Tryd.prog E (gs []) 41 spRSent := by
  refine valid_go (W := WRSent) hE ((((allValid_bot.add (up (vR1LSN hE))).add (up (vRlast hE))).add (up (vRNext hE))).add (up (vRRedo hE))) irRSent (by decide) (fun args h nx K hsp hok hnm => ?_)
  unfold spRSent at hsp
  split at hsp
  · rename_i p n x1 x2 g x4 x5 x6 t a t' b c
    obtain ⟨G, s, sp, u, v, l, hp, hu, rfl, rfl, hla, hlb, hlen, hgd, hlast, hrange, hshape, hmany, hgood⟩ := hsp
    rw [rpC_def] at hp
    obtain ⟨hlo, hrise, hsixty⟩ := hgd
    have hlow := loT_low hlo
    have hpx := (hnm p _ hp).1
    have hux := (hnm u _ hu).1
    have hpu : p ≠ u := fun e => by rw [e, hu] at hp; cases hp
    refine ⟨by simp [WRSent, mkW, mkWE, mkWF], fun Q hQ => ?_⟩
    obtain ⟨_, ⟨_, _, _, _, _, _, _, ha, hb, _⟩, _⟩ := hok
    simp only [SV.ok] at ha hb
    obtain ⟨ha1, ha2, ha3⟩ := Wt.slice ha; generalize a.l = al at *; subst ha1
    obtain ⟨hb1, hb2, hb3⟩ := Wt.slice hb; generalize b.l = bl at *; subst hb1
    have pn0p : (nx = p) = False := eq_false (by omega)
    have pn1p : ∀ a0 : Nat, (nx + a0 = p) = False := fun a0 => eq_false (by omega)
    have pn2p : ∀ a0 a1 : Nat, (nx + a0 + a1 = p) = False := fun a0 a1 => eq_false (by omega)
    have pn3p : ∀ a0 a1 a2 : Nat, (nx + a0 + a1 + a2 = p) = False := fun a0 a1 a2 => eq_false (by omega)
    have pn4p : ∀ a0 a1 a2 a3 : Nat, (nx + a0 + a1 + a2 + a3 = p) = False := fun a0 a1 a2 a3 => eq_false (by omega)
    have pn5p : ∀ a0 a1 a2 a3 a4 : Nat, (nx + a0 + a1 + a2 + a3 + a4 = p) = False := fun a0 a1 a2 a3 a4 => eq_false (by omega)
    have pn6p : ∀ a0 a1 a2 a3 a4 a5 : Nat, (nx + a0 + a1 + a2 + a3 + a4 + a5 = p) = False := fun a0 a1 a2 a3 a4 a5 => eq_false (by omega)
    have pn7p : ∀ a0 a1 a2 a3 a4 a5 a6 : Nat, (nx + a0 + a1 + a2 + a3 + a4 + a5 + a6 = p) = False := fun a0 a1 a2 a3 a4 a5 a6 => eq_false (by omega)
    have pn0u : (nx = u) = False := eq_false (by omega)
    have pn1u : ∀ a0 : Nat, (nx + a0 = u) = False := fun a0 => eq_false (by omega)
    have pn2u : ∀ a0 a1 : Nat, (nx + a0 + a1 = u) = False := fun a0 a1 => eq_false (by omega)
    have pn3u : ∀ a0 a1 a2 : Nat, (nx + a0 + a1 + a2 = u) = False := fun a0 a1 a2 => eq_false (by omega)
    have pn4u : ∀ a0 a1 a2 a3 : Nat, (nx + a0 + a1 + a2 + a3 = u) = False := fun a0 a1 a2 a3 => eq_false (by omega)
    have pn5u : ∀ a0 a1 a2 a3 a4 : Nat, (nx + a0 + a1 + a2 + a3 + a4 = u) = False := fun a0 a1 a2 a3 a4 => eq_false (by omega)
    have pn6u : ∀ a0 a1 a2 a3 a4 a5 : Nat, (nx + a0 + a1 + a2 + a3 + a4 + a5 = u) = False := fun a0 a1 a2 a3 a4 a5 => eq_false (by omega)
    have pn7u : ∀ a0 a1 a2 a3 a4 a5 a6 : Nat, (nx + a0 + a1 + a2 + a3 + a4 + a5 + a6 = u) = False := fun a0 a1 a2 a3 a4 a5 a6 => eq_false (by omega)
    have ret : ∀ k h' nx', HLe h h' → K (.int .i64 k) h → Q Ex.ret ⟨[(4, .int .i64 k)], h', nx'⟩ := fun k h' nx' hh hK => by
      refine (hQ _ ?_).1
      exact fin_t (.int .i64 _) rfl rfl hnm hh hK
    by_cases h1 : g < 0
    · have c1 : decide (g < 0) = true := decide_eq_true h1
      simp (maxSteps := 4000000) only [icRSent, go_sem, goD_calls, eq_self, implies_true, Int.reduceEq, Int.reduceBEq, Int.reduceBNe, Int.reduceLE, Int.reduceLT, Int.reduceAdd, Int.reduceSub, Int.reduceMul, Int.reduceNeg, Nat.reduceMul, Nat.reduceSub, Nat.reduceLeDiff, Nat.reduceLT, Nat.reduceEqDiff, Nat.reduceAdd, reduceCtorEq, ↓reduceIte, reduceIte, pn0p, pn1p, pn2p, pn3p, pn4p, pn5p, pn6p, pn7p, pn0u, pn1u, pn2u, pn3u, pn4u, pn5u, pn6u, pn7u, hp, hu, c1]
      exact ret _ _ _ (by ((try simp only []); repeat first | exact HLe.refl _ | refine HLe.cons (by simp only [hget, Nat.reduceEqDiff, Nat.left_eq_add, Nat.add_eq_left, nm_ne2, nm_en2, nm_ne3, nm_en3, nm_ne4, nm_en4, nm_ne5, nm_en5, reduceIte, ↓reduceIte] <;> first | rfl | ((repeat rw [if_neg (by omega)]) <;> rfl)) ?_ | refine HLe.skip hnm (by omega) ?_ | refine HLe.frz hnm (by omega) ?_ | refine HLe.del hnm (by omega) ?_)) (hrange (by omega))
    have c1 : decide (g < 0) = false := decide_eq_false h1
    by_cases h2 : G ≤ g
    · have c2 : decide (G ≤ g) = true := decide_eq_true h2
      simp (maxSteps := 4000000) only [icRSent, go_sem, goD_calls, eq_self, implies_true, Int.reduceEq, Int.reduceBEq, Int.reduceBNe, Int.reduceLE, Int.reduceLT, Int.reduceAdd, Int.reduceSub, Int.reduceMul, Int.reduceNeg, Nat.reduceMul, Nat.reduceSub, Nat.reduceLeDiff, Nat.reduceLT, Nat.reduceEqDiff, Nat.reduceAdd, reduceCtorEq, ↓reduceIte, reduceIte, pn0p, pn1p, pn2p, pn3p, pn4p, pn5p, pn6p, pn7p, pn0u, pn1u, pn2u, pn3u, pn4u, pn5u, pn6u, pn7u, hp, hu, c1, c2]
      repeat refine ⟨by first | omega | rfl, ?_⟩
      exact ret _ _ _ (by ((try simp only []); repeat first | exact HLe.refl _ | refine HLe.cons (by simp only [hget, Nat.reduceEqDiff, Nat.left_eq_add, Nat.add_eq_left, nm_ne2, nm_en2, nm_ne3, nm_en3, nm_ne4, nm_en4, nm_ne5, nm_en5, reduceIte, ↓reduceIte] <;> first | rfl | ((repeat rw [if_neg (by omega)]) <;> rfl)) ?_ | refine HLe.skip hnm (by omega) ?_ | refine HLe.frz hnm (by omega) ?_ | refine HLe.del hnm (by omega) ?_)) (hrange (by omega))
    have c2 : decide (G ≤ g) = false := decide_eq_false h2
    by_cases h3 : 1 ≤ n
    rotate_left
    · have c3 : decide (1 ≤ n) = false := decide_eq_false h3
      simp (maxSteps := 4000000) only [icRSent, go_sem, goD_calls, eq_self, implies_true, Int.reduceEq, Int.reduceBEq, Int.reduceBNe, Int.reduceLE, Int.reduceLT, Int.reduceAdd, Int.reduceSub, Int.reduceMul, Int.reduceNeg, Nat.reduceMul, Nat.reduceSub, Nat.reduceLeDiff, Nat.reduceLT, Nat.reduceEqDiff, Nat.reduceAdd, reduceCtorEq, ↓reduceIte, reduceIte, pn0p, pn1p, pn2p, pn3p, pn4p, pn5p, pn6p, pn7p, pn0u, pn1u, pn2u, pn3u, pn4u, pn5u, pn6u, pn7u, hp, hu, c1, c2, c3, spR1LSN]
      repeat refine ⟨by first | omega | rfl, ?_⟩
      exact ret _ _ _ (by ((try simp only []); repeat first | exact HLe.refl _ | refine HLe.cons (by simp only [hget, Nat.reduceEqDiff, Nat.left_eq_add, Nat.add_eq_left, nm_ne2, nm_en2, nm_ne3, nm_en3, nm_ne4, nm_en4, nm_ne5, nm_en5, reduceIte, ↓reduceIte] <;> first | rfl | ((repeat rw [if_neg (by omega)]) <;> rfl)) ?_ | refine HLe.skip hnm (by omega) ?_ | refine HLe.frz hnm (by omega) ?_ | refine HLe.del hnm (by omega) ?_)) (hrange (by omega))
    have c3 : decide (1 ≤ n) = true := decide_eq_true h3
    by_cases h4 : n ≤ 1099511627776
    rotate_left
    · have c4 : decide (n ≤ 1099511627776) = false := decide_eq_false h4
      simp (maxSteps := 4000000) only [icRSent, go_sem, goD_calls, eq_self, implies_true, Int.reduceEq, Int.reduceBEq, Int.reduceBNe, Int.reduceLE, Int.reduceLT, Int.reduceAdd, Int.reduceSub, Int.reduceMul, Int.reduceNeg, Nat.reduceMul, Nat.reduceSub, Nat.reduceLeDiff, Nat.reduceLT, Nat.reduceEqDiff, Nat.reduceAdd, reduceCtorEq, ↓reduceIte, reduceIte, pn0p, pn1p, pn2p, pn3p, pn4p, pn5p, pn6p, pn7p, pn0u, pn1u, pn2u, pn3u, pn4u, pn5u, pn6u, pn7u, hp, hu, c1, c2, c3, c4, spR1LSN]
      repeat refine ⟨by first | omega | rfl, ?_⟩
      exact ret _ _ _ (by ((try simp only []); repeat first | exact HLe.refl _ | refine HLe.cons (by simp only [hget, Nat.reduceEqDiff, Nat.left_eq_add, Nat.add_eq_left, nm_ne2, nm_en2, nm_ne3, nm_en3, nm_ne4, nm_en4, nm_ne5, nm_en5, reduceIte, ↓reduceIte] <;> first | rfl | ((repeat rw [if_neg (by omega)]) <;> rfl)) ?_ | refine HLe.skip hnm (by omega) ?_ | refine HLe.frz hnm (by omega) ?_ | refine HLe.del hnm (by omega) ?_)) (hrange (by omega))
    have c4 : decide (n ≤ 1099511627776) = true := decide_eq_true h4
    have h5 : 0 ≤ g ∧ g < G ∧ 1 ≤ n ∧ n ≤ 1099511627776 := by omega
    have g1 : lastR s l ≤ 9223372036854775806 := by omega
    have g2 : l.length ≤ 1000000 := by omega
    by_cases h6 : n = nextF sp (lastR s l)
    rotate_left
    · have c5 : (n != nextF sp (lastR s l)) = true := by rw [bne_iff_ne]; exact h6
      simp (maxSteps := 4000000) only [icRSent, go_sem, goD_calls, eq_self, implies_true, Int.reduceEq, Int.reduceBEq, Int.reduceBNe, Int.reduceLE, Int.reduceLT, Int.reduceAdd, Int.reduceSub, Int.reduceMul, Int.reduceNeg, Nat.reduceMul, Nat.reduceSub, Nat.reduceLeDiff, Nat.reduceLT, Nat.reduceEqDiff, Nat.reduceAdd, reduceCtorEq, ↓reduceIte, reduceIte, pn0p, pn1p, pn2p, pn3p, pn4p, pn5p, pn6p, pn7p, pn0u, pn1u, pn2u, pn3u, pn4u, pn5u, pn6u, pn7u, hp, hu, c1, c2, c3, c4, c5, spR1LSN, spRlast, spRNext, qOk_c, rrOk_c, qU_c, qS_c, aL_c, g1, g2, hlow, hrise, hsixty]
      exact ret _ _ _ (by ((try simp only []); repeat first | exact HLe.refl _ | refine HLe.cons (by simp only [hget, Nat.reduceEqDiff, Nat.left_eq_add, Nat.add_eq_left, nm_ne2, nm_en2, nm_ne3, nm_en3, nm_ne4, nm_en4, nm_ne5, nm_en5, reduceIte, ↓reduceIte] <;> first | rfl | ((repeat rw [if_neg (by omega)]) <;> rfl)) ?_ | refine HLe.skip hnm (by omega) ?_ | refine HLe.frz hnm (by omega) ?_ | refine HLe.del hnm (by omega) ?_)) (hshape h5 h6)
    have c5 : (n != nextF sp (lastR s l)) = false := by rw [bne_eq_false_iff_eq]; exact h6
    by_cases h7 : 16384 ≤ l.length
    · have c6 : decide (16384 ≤ (l.length : Int)) = true := decide_eq_true (by omega)
      simp (maxSteps := 4000000) only [icRSent, go_sem, goD_calls, eq_self, implies_true, Int.reduceEq, Int.reduceBEq, Int.reduceBNe, Int.reduceLE, Int.reduceLT, Int.reduceAdd, Int.reduceSub, Int.reduceMul, Int.reduceNeg, Nat.reduceMul, Nat.reduceSub, Nat.reduceLeDiff, Nat.reduceLT, Nat.reduceEqDiff, Nat.reduceAdd, reduceCtorEq, ↓reduceIte, reduceIte, pn0p, pn1p, pn2p, pn3p, pn4p, pn5p, pn6p, pn7p, pn0u, pn1u, pn2u, pn3u, pn4u, pn5u, pn6u, pn7u, hp, hu, c1, c2, c3, c4, c5, c6, spR1LSN, spRlast, spRNext, qOk_c, rrOk_c, qU_c, qS_c, aL_c, g1, g2, hlow, hrise, hsixty]
      exact ret _ _ _ (by ((try simp only []); repeat first | exact HLe.refl _ | refine HLe.cons (by simp only [hget, Nat.reduceEqDiff, Nat.left_eq_add, Nat.add_eq_left, nm_ne2, nm_en2, nm_ne3, nm_en3, nm_ne4, nm_en4, nm_ne5, nm_en5, reduceIte, ↓reduceIte] <;> first | rfl | ((repeat rw [if_neg (by omega)]) <;> rfl)) ?_ | refine HLe.skip hnm (by omega) ?_ | refine HLe.frz hnm (by omega) ?_ | refine HLe.del hnm (by omega) ?_)) (hmany h5 h6 h7)
    · have c6 : decide (16384 ≤ (l.length : Int)) = false := decide_eq_false (by omega)
      have hpd : hget (hdel h u) p = some (.cells [.int .i64 G, .int .i64 s, .dat (.slice 41) (.list sp), .vec u, .vec v]) := by rw [hget_hdelA, if_neg (fun e => hpu e.symm)]; exact hp
      simp (maxSteps := 4000000) only [icRSent, go_sem, goD_calls, eq_self, implies_true, Int.reduceEq, Int.reduceBEq, Int.reduceBNe, Int.reduceLE, Int.reduceLT, Int.reduceAdd, Int.reduceSub, Int.reduceMul, Int.reduceNeg, Nat.reduceMul, Nat.reduceSub, Nat.reduceLeDiff, Nat.reduceLT, Nat.reduceEqDiff, Nat.reduceAdd, reduceCtorEq, ↓reduceIte, reduceIte, pn0p, pn1p, pn2p, pn3p, pn4p, pn5p, pn6p, pn7p, pn0u, pn1u, pn2u, pn3u, pn4u, pn5u, pn6u, pn7u, hp, hu, hpd, c1, c2, c3, c4, c5, c6, spR1LSN, spRlast, spRNext, spRRedo, redA_def, qOk_c, rrOk_c, qU_c, qS_c, aL_c, g1, g2, hlow, hrise, hsixty]
      refine ⟨hla, hlb, by omega, ?_⟩
      have hvx : v < nx := (hnm p _ hp).2.2.2.2.2.1
      have hrr : ∀ m, m < nx → rens [(nx, nx + 1 + 64 + 64 + 64 + 64 + 1)] m = m := fun m hm => rens_lt (nb := nx) (by simp) m hm
      have hd1 : HLt (hdel h u) nx := HLt.hdelA hnm
      refine (hQ _ ?_).1
      refine fin_gen (p := True ∧ True) (xs := [.int .i64 0]) rfl ⟨trivial, trivial⟩ (.refl _) [(nx, nx + 1 + 64 + 64 + 64 + 64 + 1)] (.int .i64 0) _ (by simp) (by simp; omega) (by simp) rfl trivial ?_ ?_ ?_ (hgood h5 h6 (by omega))
      · intro m t hm
        rw [hget] at hm
        split at hm
        · rename_i e; subst e; exact .inr (by simp)
        · exact .inl ((HLt.hsetA (t := .arr 0 .bool []) hd1 trivial) m (t := if m = p then .arr 0 .bool [] else t) (by
            rw [hget_hsetA] at hm ⊢
            by_cases e : p = m
            · subst e; rw [if_pos rfl] at hm ⊢; rw [hpd] at hm ⊢; simp
            · rw [if_neg e] at hm ⊢; rw [hm, if_neg (fun e' => e e'.symm)])).1
      · refine HRen.cons ?_ (HRen.hset ?_ (fun m t hne hm => ?_))
        · simp [hget, rens, Tok.ren, redD_def]
        · rw [hrr p hpx, hget, if_neg (by omega), hget, if_neg (by omega), hget, if_neg (by omega), hget_hset' hpd]
          simp only [rpC_def, Tok.ren, SV.ren, SV.renL, rens, ↓reduceIte, if_neg (show ¬ v = nx by omega)]
        · have hm2 := hd1 m t hm
          rw [hrr m hm2.1, tok_ren_lt hrr hm2.2, hget, if_neg (by omega), hget, if_neg (by omega), hget, if_neg (by omega), hget_hset_ne (fun e => hne e.symm)]
          exact hm
      · refine HLt.cons (by omega) trivial (HLt.hsetA (hd1.mono (by omega)) ?_)
        exact ⟨trivial, trivial, trivial, by show nx < nx + 64; omega, by show v < nx + 64; omega, trivial⟩
  · exact hsp.elim
def WRSafe : Opts := mkWE 35 [] [] [] 171 [] []
def icRSafe : IC := (.seq (.seq (.ops [(.u (.mov 6 (.c (.bool false))))]) (.tr [0, 1, 2])) (.seq (.seq (.seq (.ops [(.u (.mov 7 (.s 1))), (.u (.cmp 8 .lss (.s 7) (.c (.int .i64 0)))), (.u (.mov 9 (.s 8))), (.g 9 false (some 10) (.mov 10 (.s 1))), (.g 9 false (some 11) (.mov 11 (.s 0))), (.g 9 false (some 12) (.nlc 12 (.s 11))), (.g 9 false (some 13) (.fad 13 0 0 (.int .i64) 82 (.s 12))), (.g 9 false (some 14) (.ld 14 (.int .i64) (.s 13))), (.g 9 false (some 15) (.cmp 15 .geq (.s 10) (.s 14))), (.u (.pck 16 (.s 9) (.c (.bool true)) (.s 15))), (.u (.mov 17 (.s 16))), (.g 17 false (some 18) (.mov 18 (.s 2))), (.g 17 false (some 19) (.mov 19 (.s 0))), (.g 17 false (some 20) (.nlc 20 (.s 19))), (.g 17 false (some 21) (.fad 21 4 4 (.slice 2) 82 (.s 20))), (.g 17 false (some 22) (.ld 22 (.slice 2) (.s 21))), (.g 17 false (some 23) (.mov 23 (.s 1))), (.g 17 false (some 24) (.iad 24 2 (.int .i64) (.s 22) (.s 23))), (.g 17 false (some 25) (.ld 25 (.int .i64) (.s 24))), (.g 17 false (some 26) (.cmp 26 .lss (.s 18) (.s 25))), (.u (.pck 27 (.s 17) (.c (.bool true)) (.s 26)))]) (.tr [27, 0, 1, 2])) (.cond (.s 27) (.seq (.seq (.ops [(.u (.mov 6 (.c (.bool false))))]) (.tr [6])) .ret) .skip)) (.seq (.seq (.ops [(.u (.mov 28 (.s 0))), (.u (.nlc 29 (.s 28))), (.u (.fad 30 4 4 (.slice 2) 82 (.s 29))), (.u (.ld 31 (.slice 2) (.s 30))), (.u (.mov 32 (.s 1))), (.u (.mov 33 (.s 2))), (.u (.iad 34 2 (.int .i64) (.s 31) (.s 32))), (.u (.st (.int .i64) (.s 34) (.s 33)))]) (.tr [])) (.seq (.seq (.ops [(.u (.mov 6 (.c (.bool true))))]) (.tr [6])) .ret))))
def rsRSafe : List RV := [(.t 6)]
theorem irRSafe : fnIR Tryd.prog WRSafe 39 = some (icRSafe, rsRSafe) := by kernel_rfl
def spRSafe : FSpec := fun args h nx K => match args with
  | [.ptr p 0, .int .i64 g, .int .i64 n] => ∃ G s sp u v sf, hget h p = some (rpC G s sp u v) ∧ hget h v = some (.arr 2 (.int .i64) sf) ∧ G = sf.length ∧
      (¬ (0 ≤ g ∧ g < sf.length ∧ (sf.getD g.toNat .nil).i ≤ n) → K (.bool false) h) ∧
      ((0 ≤ g ∧ g < sf.length ∧ (sf.getD g.toNat .nil).i ≤ n) → K (.bool true) (hset h v (.arr 2 (.int .i64) (setI sf g n))))
  | _ => False
set_option maxHeartbeats 4000000 in
set_option maxRecDepth 8000 in
theorem vRSafe {E : Nat → Value} (hE : Errs2 Tryd.prog (some 171) E) : Valid Tryd.prog E (gs []) 39 spRSafe := by
  refine valid_go (W := WRSafe) hE allValid_bot irRSafe (by decide) (fun args h nx K hsp hok hnm => ?_)
  unfold spRSafe at hsp
  split at hsp
  · rename_i p g n
    obtain ⟨G, s, sp, u, v, sf, hp, hv, rfl, hno, hyes⟩ := hsp
    rw [rpC_def] at hp
    have hpx := (hnm p _ hp).1
    have hvx := (hnm v _ hv).1
    refine ⟨by simp [WRSafe, mkW, mkWE, mkWF], fun Q hQ => ?_⟩
    have pn0p : (nx = p) = False := eq_false (by omega)
    have pn1p : ∀ a0 : Nat, (nx + a0 = p) = False := fun a0 => eq_false (by omega)
    have pn2p : ∀ a0 a1 : Nat, (nx + a0 + a1 = p) = False := fun a0 a1 => eq_false (by omega)
    have pn3p : ∀ a0 a1 a2 : Nat, (nx + a0 + a1 + a2 = p) = False := fun a0 a1 a2 => eq_false (by omega)
    have pn4p : ∀ a0 a1 a2 a3 : Nat, (nx + a0 + a1 + a2 + a3 = p) = False := fun a0 a1 a2 a3 => eq_false (by omega)
    have pn5p : ∀ a0 a1 a2 a3 a4 : Nat, (nx + a0 + a1 + a2 + a3 + a4 = p) = False := fun a0 a1 a2 a3 a4 => eq_false (by omega)
    have pn6p : ∀ a0 a1 a2 a3 a4 a5 : Nat, (nx + a0 + a1 + a2 + a3 + a4 + a5 = p) = False := fun a0 a1 a2 a3 a4 a5 => eq_false (by omega)
    have pn7p : ∀ a0 a1 a2 a3 a4 a5 a6 : Nat, (nx + a0 + a1 + a2 + a3 + a4 + a5 + a6 = p) = False := fun a0 a1 a2 a3 a4 a5 a6 => eq_false (by omega)
    have pn0v : (nx = v) = False := eq_false (by omega)
    have pn1v : ∀ a0 : Nat, (nx + a0 = v) = False := fun a0 => eq_false (by omega)
    have pn2v : ∀ a0 a1 : Nat, (nx + a0 + a1 = v) = False := fun a0 a1 => eq_false (by omega)
    have pn3v : ∀ a0 a1 a2 : Nat, (nx + a0 + a1 + a2 = v) = False := fun a0 a1 a2 => eq_false (by omega)
    have pn4v : ∀ a0 a1 a2 a3 : Nat, (nx + a0 + a1 + a2 + a3 = v) = False := fun a0 a1 a2 a3 => eq_false (by omega)
    have pn5v : ∀ a0 a1 a2 a3 a4 : Nat, (nx + a0 + a1 + a2 + a3 + a4 = v) = False := fun a0 a1 a2 a3 a4 => eq_false (by omega)
    have pn6v : ∀ a0 a1 a2 a3 a4 a5 : Nat, (nx + a0 + a1 + a2 + a3 + a4 + a5 = v) = False := fun a0 a1 a2 a3 a4 a5 => eq_false (by omega)
    have pn7v : ∀ a0 a1 a2 a3 a4 a5 a6 : Nat, (nx + a0 + a1 + a2 + a3 + a4 + a5 + a6 = v) = False := fun a0 a1 a2 a3 a4 a5 a6 => eq_false (by omega)
    have retN : ¬ (0 ≤ g ∧ g < sf.length ∧ (sf.getD g.toNat .nil).i ≤ n) → ∀ h' nx', HLe h h' → Q Ex.ret ⟨[(6, .bool false)], h', nx'⟩ := fun hc h' nx' hh => by
      refine (hQ _ ?_).1
      exact fin_t (.bool _) rfl rfl hnm hh (hno hc)
    by_cases h1 : g < 0
    · have c1 : decide (g < 0) = true := decide_eq_true h1
      simp (maxSteps := 4000000) only [icRSafe, go_sem, goD_calls, eq_self, implies_true, Int.reduceEq, Int.reduceBEq, Int.reduceBNe, Int.reduceLE, Int.reduceLT, Int.reduceAdd, Int.reduceSub, Int.reduceMul, Int.reduceNeg, Nat.reduceMul, Nat.reduceSub, Nat.reduceLeDiff, Nat.reduceLT, Nat.reduceEqDiff, Nat.reduceAdd, reduceCtorEq, ↓reduceIte, reduceIte, hp, hv, c1]
      exact retN (by omega) _ _ (by ((try simp only []); repeat first | exact HLe.refl _ | refine HLe.cons (by simp only [hget, Nat.reduceEqDiff, Nat.left_eq_add, Nat.add_eq_left, nm_ne2, nm_en2, nm_ne3, nm_en3, nm_ne4, nm_en4, nm_ne5, nm_en5, reduceIte, ↓reduceIte] <;> first | rfl | ((repeat rw [if_neg (by omega)]) <;> rfl)) ?_ | refine HLe.skip hnm (by omega) ?_ | refine HLe.frz hnm (by omega) ?_ | refine HLe.del hnm (by omega) ?_))
    have c1 : decide (g < 0) = false := decide_eq_false h1
    by_cases h2 : (sf.length : Int) ≤ g
    · have c2 : decide ((sf.length : Int) ≤ g) = true := decide_eq_true h2
      simp (maxSteps := 4000000) only [icRSafe, go_sem, goD_calls, eq_self, implies_true, Int.reduceEq, Int.reduceBEq, Int.reduceBNe, Int.reduceLE, Int.reduceLT, Int.reduceAdd, Int.reduceSub, Int.reduceMul, Int.reduceNeg, Nat.reduceMul, Nat.reduceSub, Nat.reduceLeDiff, Nat.reduceLT, Nat.reduceEqDiff, Nat.reduceAdd, reduceCtorEq, ↓reduceIte, reduceIte, hp, hv, c1, c2]
      exact retN (by omega) _ _ (by ((try simp only []); repeat first | exact HLe.refl _ | refine HLe.cons (by simp only [hget, Nat.reduceEqDiff, Nat.left_eq_add, Nat.add_eq_left, nm_ne2, nm_en2, nm_ne3, nm_en3, nm_ne4, nm_en4, nm_ne5, nm_en5, reduceIte, ↓reduceIte] <;> first | rfl | ((repeat rw [if_neg (by omega)]) <;> rfl)) ?_ | refine HLe.skip hnm (by omega) ?_ | refine HLe.frz hnm (by omega) ?_ | refine HLe.del hnm (by omega) ?_))
    have c2 : decide ((sf.length : Int) ≤ g) = false := decide_eq_false h2
    by_cases h3 : n < (sf.getD g.toNat .nil).i
    · have c3 : decide (n < (sf.getD g.toNat .nil).i) = true := decide_eq_true h3
      simp (maxSteps := 4000000) only [icRSafe, go_sem, goD_calls, eq_self, implies_true, Int.reduceEq, Int.reduceBEq, Int.reduceBNe, Int.reduceLE, Int.reduceLT, Int.reduceAdd, Int.reduceSub, Int.reduceMul, Int.reduceNeg, Nat.reduceMul, Nat.reduceSub, Nat.reduceLeDiff, Nat.reduceLT, Nat.reduceEqDiff, Nat.reduceAdd, reduceCtorEq, ↓reduceIte, reduceIte, hp, hv, c1, c2, c3]
      repeat refine ⟨by omega, ?_⟩
      exact retN (by omega) _ _ (by ((try simp only []); repeat first | exact HLe.refl _ | refine HLe.cons (by simp only [hget, Nat.reduceEqDiff, Nat.left_eq_add, Nat.add_eq_left, nm_ne2, nm_en2, nm_ne3, nm_en3, nm_ne4, nm_en4, nm_ne5, nm_en5, reduceIte, ↓reduceIte] <;> first | rfl | ((repeat rw [if_neg (by omega)]) <;> rfl)) ?_ | refine HLe.skip hnm (by omega) ?_ | refine HLe.frz hnm (by omega) ?_ | refine HLe.del hnm (by omega) ?_))
    have c3 : decide (n < (sf.getD g.toNat .nil).i) = false := decide_eq_false h3
    have hset' : sf.set g.toNat (.int n) = setI sf g n := rfl
    simp (maxSteps := 4000000) only [icRSafe, go_sem, goD_calls, eq_self, implies_true, Int.reduceEq, Int.reduceBEq, Int.reduceBNe, Int.reduceLE, Int.reduceLT, Int.reduceAdd, Int.reduceSub, Int.reduceMul, Int.reduceNeg, Nat.reduceMul, Nat.reduceSub, Nat.reduceLeDiff, Nat.reduceLT, Nat.reduceEqDiff, Nat.reduceAdd, reduceCtorEq, ↓reduceIte, reduceIte, hp, hv, hset', c1, c2, c3]
    repeat refine ⟨by omega, ?_⟩
    refine (hQ _ ?_).1
    exact fin_t (.bool _) rfl rfl (HLt.hset (t := .arr 2 (.int .i64) (setI sf g n)) hnm trivial) (HLe.refl _) (hyes (by omega))
  · exact hsp.elim
end Go.Proofs.YtmjenjccinfbaaaDoor
