/- Chapter 7: the document's: which configurations may be, who is in them. -/
import Derived.Test.YtkojpimkngmckaaDoorConfP
import Derived.Test.YtkojpimkngmckaaDoorRise
import Derived.Test.YtkojpimkngmckaaDoorNode
namespace Go.Proofs.YtkojpimkngmckaaDoor
set_option linter.unusedVariables false
set_option linter.unusedSimpArgs false
open Go Go.Fw
attribute [local go_sem] walkSet evMdl evMupD evMup evLkp frpL preF preP prePt prePd frzP evNlq ev frOf oget ogets argSs argS evMm frzL evBin evWrp evShf evCmp evUna evNil evBeq evLd evSt evFad evIad evAad evLen evSln evEls evApp evParts evSlc evNlc evMif evPck evFld evBld evTas evIfq evSeq evSl0 evBxf evAgl evAgq evBsf hget hset hdel cellAt arrAt setCellAt setArrAt takeC lenC svCells SV.okc SV.one ldSV Fw.isAgg explode explodeL toD toDL toD1 Ty.size Ty.sizeL frz1 Fr.sub Heap.sub Tok.sub SV.sub SV.subL

def epochB (e : Int) : Bool := decide (0 ≤ e) && decide (e ≤ 1073741824)
def WR1Epoch : Opts := mkWE 9 [] [] [] 184 [] []
def icR1Epoch : IC := (.seq (.seq (.ops [(.u (.mov 2 (.c (.bool false))))]) (.tr [0])) (.seq (.seq (.ops [(.u (.mov 3 (.s 0))), (.u (.cmp 4 .geq (.s 3) (.c (.int .i64 0)))), (.u (.mov 5 (.s 4))), (.g 5 true (some 6) (.mov 6 (.s 0))), (.g 5 true (some 7) (.cmp 7 .leq (.s 6) (.c (.int .i64 1073741824)))), (.u (.pck 8 (.s 5) (.s 7) (.c (.bool false)))), (.u (.mov 2 (.s 8)))]) (.tr [2])) .ret))
def rsR1Epoch : List RV := [(.t 2)]
theorem irR1Epoch : fnIR Tryd.prog WR1Epoch 76 = some (icR1Epoch, rsR1Epoch) := by kernel_rfl
def spR1Epoch : FSpec := fun args h nx K => match args with
  | [.int .i64 n] => K (.bool (epochB n)) h
  | _ => False
set_option maxHeartbeats 4000000 in
set_option maxRecDepth 8000 in
theorem vR1Epoch {E : Nat → Value} (hE : Errs2 Tryd.prog (some 184) E) : Valid Tryd.prog E (gs []) 76 spR1Epoch := by
  refine valid_go (W := WR1Epoch) hE allValid_bot irR1Epoch (by decide) (fun args h nx K hsp hok hnm => ?_)
  unfold spR1Epoch at hsp
  split at hsp
  · rename_i n
    refine ⟨by simp [WR1Epoch, mkW, mkWE, mkWF], fun Q hQ => ?_⟩
    have ret : ∀ v h' nx', HLe h h' → v = epochB n → Q Ex.ret ⟨[(2, .bool v)], h', nx'⟩ := fun v h' nx' hh hb => by
      refine (hQ _ ?_).1
      subst hb
      exact fin_t (.bool _) rfl rfl hnm hh hsp
    by_cases h0 : 0 ≤ n
    · have c0 : decide (0 ≤ n) = true := decide_eq_true h0
      simp (maxSteps := 4000000) only [icR1Epoch, go_sem, goD_calls, eq_self, implies_true, Int.reduceEq, Int.reduceBEq, Int.reduceBNe, Int.reduceLE, Int.reduceLT, Int.reduceAdd, Int.reduceSub, Int.reduceMul, Int.reduceNeg, Nat.reduceMul, Nat.reduceSub, Nat.reduceLeDiff, Nat.reduceLT, Nat.reduceEqDiff, Nat.reduceAdd, reduceCtorEq, ↓reduceIte, reduceIte, c0]
      exact ret _ _ _ (by ((try simp only []); repeat first | exact HLe.refl _ | refine HLe.cons (by simp only [hget, Nat.reduceEqDiff, Nat.left_eq_add, Nat.add_eq_left, nm_ne2, nm_en2, nm_ne3, nm_en3, nm_ne4, nm_en4, nm_ne5, nm_en5, reduceIte, ↓reduceIte] <;> first | rfl | ((repeat rw [if_neg (by omega)]) <;> rfl)) ?_ | refine HLe.skip hnm (by omega) ?_ | refine HLe.frz hnm (by omega) ?_ | refine HLe.del hnm (by omega) ?_)) (by unfold epochB; rw [c0, Bool.true_and])
    · have c0 : decide (0 ≤ n) = false := decide_eq_false h0
      simp (maxSteps := 4000000) only [icR1Epoch, go_sem, goD_calls, eq_self, implies_true, Int.reduceEq, Int.reduceBEq, Int.reduceBNe, Int.reduceLE, Int.reduceLT, Int.reduceAdd, Int.reduceSub, Int.reduceMul, Int.reduceNeg, Nat.reduceMul, Nat.reduceSub, Nat.reduceLeDiff, Nat.reduceLT, Nat.reduceEqDiff, Nat.reduceAdd, reduceCtorEq, ↓reduceIte, reduceIte, c0]
      exact ret _ _ _ (by ((try simp only []); repeat first | exact HLe.refl _ | refine HLe.cons (by simp only [hget, Nat.reduceEqDiff, Nat.left_eq_add, Nat.add_eq_left, nm_ne2, nm_en2, nm_ne3, nm_en3, nm_ne4, nm_en4, nm_ne5, nm_en5, reduceIte, ↓reduceIte] <;> first | rfl | ((repeat rw [if_neg (by omega)]) <;> rfl)) ?_ | refine HLe.skip hnm (by omega) ?_ | refine HLe.frz hnm (by omega) ?_ | refine HLe.del hnm (by omega) ?_)) (by unfold epochB; rw [c0, Bool.false_and])
  · exact hsp.elim

theorem riseI_compact (z : List Int) : Lib.compact (sortI z) = riseI z := compact_eq (rise_sorted z) (fun x => rise_mem.symm)
theorem joinL_rise (a b : List D) : joinL a b = riseL (a ++ b) := by
  unfold joinL riseL
  rw [compL_sortL, riseI_compact]
theorem sixB_rise (l : List D) : sixB l = (l.length == 6 && (riseL l).length == 6) := by
  unfold sixB riseL
  rw [compL_sortL, riseI_compact, iL_map, List.length_map]
def WR6six : Opts := mkWE 12 [] [] [] 184 [] []
def icR6six : IC := (.seq (.seq (.ops [(.u (.mov 2 (.c (.bool false))))]) (.tr [0])) (.seq (.seq (.ops [(.u (.mov 3 (.s 0))), (.u (.len 4 false (.s 3))), (.u (.cmp 5 .eql (.s 4) (.c (.int .i64 6)))), (.u (.mov 6 (.s 5))), (.g 6 true (some 7) (.mov 7 (.s 0))), (.g 6 true (some 8) (.call 8 (.c (.clo 30 [])) [(.s 7)] [(some 3)] true)), (.g 6 true (some 9) (.len 9 false (.s 8))), (.g 6 true (some 10) (.cmp 10 .eql (.s 9) (.c (.int .i64 6)))), (.u (.pck 11 (.s 6) (.s 10) (.c (.bool false)))), (.u (.mov 2 (.s 11)))]) (.tr [2])) .ret))
def rsR6six : List RV := [(.t 2)]
theorem irR6six : fnIR Tryd.prog WR6six 78 = some (icR6six, rsR6six) := by kernel_rfl
def spR6six : FSpec := fun args h nx K => match args with
  | [.dat (.slice t) d] => t = 3 ∧ d.l.length ≤ 1000000000 ∧ K (.bool (sixB d.l)) h
  | _ => False
set_option maxHeartbeats 4000000 in
set_option maxRecDepth 8000 in
theorem vR6six {E : Nat → Value} (hE : Errs2 Tryd.prog (some 184) E) : Valid Tryd.prog E (gs []) 78 spR6six := by
  refine valid_go (W := WR6six) hE (allValid_bot.add (up (vRRising hE))) irR6six (by decide) (fun args h nx K hsp hok hnm => ?_)
  unfold spR6six at hsp
  split at hsp
  · rename_i t d
    obtain ⟨rfl, hl9, hK⟩ := hsp
    refine ⟨by simp [WR6six, mkW, mkWE, mkWF], fun Q hQ => ?_⟩
    obtain ⟨hd, _⟩ := hok
    simp only [SV.ok] at hd
    obtain ⟨hd1, hd2, hd3⟩ := Wt.slice hd; generalize d.l = l at *; subst hd1
    have hl9 : l.length ≤ 1000000000 := hl9
    have hK : K (.bool (sixB l)) h := hK
    have ret : ∀ b h' nx', HLe h h' → b = sixB l → Q Ex.ret ⟨[(2, .bool b)], h', nx'⟩ := fun b h' nx' hh hb => by
      refine (hQ _ ?_).1
      subst hb
      exact fin_t (.bool _) rfl rfl hnm hh hK
    have hs := sixB_rise l
    by_cases h6 : l.length = 6
    · have c1 : ((l.length : Int) == 6) = true := beq_iff_eq.2 (by omega)
      have c2 : (l.length == 6) = true := beq_iff_eq.2 h6
      rw [c2, Bool.true_and] at hs
      simp (maxSteps := 4000000) only [icR6six, go_sem, goD_calls, eq_self, implies_true, Int.reduceEq, Int.reduceBEq, Int.reduceBNe, Int.reduceLE, Int.reduceLT, Int.reduceAdd, Int.reduceSub, Int.reduceMul, Int.reduceNeg, Nat.reduceMul, Nat.reduceSub, Nat.reduceLeDiff, Nat.reduceLT, Nat.reduceEqDiff, Nat.reduceAdd, reduceCtorEq, ↓reduceIte, reduceIte, c1, spRRising, hl9]
      refine ret _ _ _ (by ((try simp only []); repeat first | exact HLe.refl _ | refine HLe.cons (by simp only [hget, Nat.reduceEqDiff, Nat.left_eq_add, Nat.add_eq_left, nm_ne2, nm_en2, nm_ne3, nm_en3, nm_ne4, nm_en4, nm_ne5, nm_en5, reduceIte, ↓reduceIte] <;> first | rfl | ((repeat rw [if_neg (by omega)]) <;> rfl)) ?_ | refine HLe.skip hnm (by omega) ?_ | refine HLe.frz hnm (by omega) ?_ | refine HLe.del hnm (by omega) ?_)) ?_
      rw [hs]
      by_cases e : (riseL l).length = 6
      · rw [e]; rfl
      · rw [beq_eq_false_iff_ne.2 e, beq_eq_false_iff_ne]; omega
    · have c1 : ((l.length : Int) == 6) = false := beq_eq_false_iff_ne.2 (by omega)
      have c2 : (l.length == 6) = false := beq_eq_false_iff_ne.2 h6
      rw [c2, Bool.false_and] at hs
      simp (maxSteps := 4000000) only [icR6six, go_sem, goD_calls, eq_self, implies_true, Int.reduceEq, Int.reduceBEq, Int.reduceBNe, Int.reduceLE, Int.reduceLT, Int.reduceAdd, Int.reduceSub, Int.reduceMul, Int.reduceNeg, Nat.reduceMul, Nat.reduceSub, Nat.reduceLeDiff, Nat.reduceLT, Nat.reduceEqDiff, Nat.reduceAdd, reduceCtorEq, ↓reduceIte, reduceIte, c1]
      exact ret _ _ _ (by ((try simp only []); repeat first | exact HLe.refl _ | refine HLe.cons (by simp only [hget, Nat.reduceEqDiff, Nat.left_eq_add, Nat.add_eq_left, nm_ne2, nm_en2, nm_ne3, nm_en3, nm_ne4, nm_en4, nm_ne5, nm_en5, reduceIte, ↓reduceIte] <;> first | rfl | ((repeat rw [if_neg (by omega)]) <;> rfl)) ?_ | refine HLe.skip hnm (by omega) ?_ | refine HLe.frz hnm (by omega) ?_ | refine HLe.del hnm (by omega) ?_)) hs.symm
  · exact hsp.elim

def WR6Members : Opts := mkWE 11 [] [] [] 184 [] [1]
def icR6Members : IC := (.seq (.seq (.ops [(.u (.bxf 1 (.strct [(.int .i64), (.slice 3), (.slice 3)]) none (.s 0))), (.u (.mov 2 (.c .nils)))]) (.tr [1])) (.seq (.seq (.rgn [] [(false, (.u (.fad 4 1 1 (.slice 3) 25 (.s 1)))), (false, (.u (.ld 5 (.slice 3) (.s 4)))), (false, (.u (.fad 7 2 2 (.slice 3) 25 (.s 1)))), (true, (.u (.ld 8 (.slice 3) (.s 7)))), (false, (.u (.bsl 3 3 (.int .i64) []))), (false, (.u (.app 6 3 (.int .i64) 8 (.s 3) (.s 5)))), (false, (.u (.app 9 3 (.int .i64) 8 (.s 6) (.s 8)))), (false, (.u (.call 10 (.c (.clo 30 [])) [(.s 9)] [(some 3)] true))), (false, (.u (.mov 2 (.s 10))))]) (.tr [2])) .ret))
def rsR6Members : List RV := [(.t 2)]
theorem irR6Members : fnIR Tryd.prog WR6Members 81 = some (icR6Members, rsR6Members) := by kernel_rfl
def spR6Members : FSpec := fun args h nx K => match args with
  | [.agg [.int .i64 e, .dat (.slice t) o, .dat (.slice t') n]] => t = 3 ∧ t' = 3 ∧ o.l.length ≤ 1000 ∧ n.l.length ≤ 1000 ∧ K (.dat (.slice 3) (.list (joinL o.l n.l))) h
  | _ => False
set_option maxHeartbeats 4000000 in
set_option maxRecDepth 8000 in
theorem vR6Members {E : Nat → Value} (hE : Errs2 Tryd.prog (some 184) E) : Valid Tryd.prog E (gs []) 81 spR6Members := by
  refine valid_go (W := WR6Members) hE (allValid_bot.add (up (vRRising hE)).fz) irR6Members (by decide) (fun args h nx K hsp hok hnm => ?_)
  unfold spR6Members at hsp
  split at hsp
  · rename_i e t o t' n
    obtain ⟨rfl, rfl, ho9, hn9, hK⟩ := hsp
    refine ⟨by simp [WR6Members, mkW, mkWE, mkWF], fun Q hQ => ?_⟩
    obtain ⟨⟨_, ho, hn, _⟩, _⟩ := hok
    simp only [SV.ok] at ho hn
    obtain ⟨ho1, ho2, ho3⟩ := Wt.slice ho; generalize o.l = xs at *; subst ho1
    obtain ⟨hn1, hn2, hn3⟩ := Wt.slice hn; generalize n.l = ys at *; subst hn1
    have h9 : (xs ++ ys).length ≤ 1000000000 := by
      have a : xs.length ≤ 1000 := ho9
      have b : ys.length ≤ 1000 := hn9
      rw [List.length_append]; omega
    have hj := joinL_rise xs ys
    have h8 : (xs.length + ys.length) * 8 ≤ 140737488355328 := by rw [List.length_append] at h9; omega
    simp (maxSteps := 4000000) only [icR6Members, go_sem, goD_calls, eq_self, implies_true, Int.reduceEq, Int.reduceBEq, Int.reduceBNe, Int.reduceLE, Int.reduceLT, Int.reduceAdd, Int.reduceSub, Int.reduceMul, Int.reduceNeg, Nat.reduceMul, Nat.reduceSub, Nat.reduceLeDiff, Nat.reduceLT, Nat.reduceEqDiff, Nat.reduceAdd, reduceCtorEq, ↓reduceIte, reduceIte, spRRising, List.nil_append, h9, ← hj]
    refine ⟨rfl, rfl, by omega, h8, ?_⟩
    refine (hQ _ ?_).1
    exact fin_t (.dat (.slice 3) (.list _)) rfl rfl hnm (by ((try simp only []); repeat first | exact HLe.refl _ | refine HLe.cons (by simp only [hget, Nat.reduceEqDiff, Nat.left_eq_add, Nat.add_eq_left, nm_ne2, nm_en2, nm_ne3, nm_en3, nm_ne4, nm_en4, nm_ne5, nm_en5, reduceIte, ↓reduceIte] <;> first | rfl | ((repeat rw [if_neg (by omega)]) <;> rfl)) ?_ | refine HLe.skip hnm (by omega) ?_ | refine HLe.frz hnm (by omega) ?_ | refine HLe.del hnm (by omega) ?_)) hK
  · exact hsp.elim

theorem union_len {o n : List D} (ho : (o.map D.i).Nodup) (hn : (n.map D.i).Nodup) : (riseL (o ++ n)).length + commonN o n = o.length + n.length := by
  have e1 : commonN o n = (o.map D.i).countP (fun v => decide (v ∈ n.map D.i)) := by
    unfold commonN
    rw [List.countP_map]
    refine List.countP_congr (fun x _ => ?_)
    rw [hasI_iff]
    simp
  have e2 : (riseL (o ++ n)).length = (riseI (o.map D.i ++ n.map D.i)).length := by unfold riseL; rw [List.length_map, List.map_append]
  have e3 : o.length = (o.map D.i).length := by rw [List.length_map]
  have e4 : n.length = (n.map D.i).length := by rw [List.length_map]
  rw [e1, e2, e3, e4]
  generalize o.map D.i = A at ho ⊢
  generalize n.map D.i = B at hn ⊢
  have hW : (B ++ A.filter (fun v => !decide (v ∈ B))).Nodup := by
    rw [List.nodup_append]
    refine ⟨hn, ho.filter _, fun x hx y hy e => ?_⟩
    subst e
    have := (List.mem_filter.1 hy).2
    simp [hx] at this
  have hp := (List.perm_ext_iff_of_nodup (nodup_lt (rise_sorted (A ++ B))) hW).2 (fun x => by
    rw [rise_mem, List.mem_append, List.mem_append, List.mem_filter]
    by_cases h : x ∈ B
    · simp [h]
    · simp [h])
  have h1 := hp.length_eq
  rw [List.length_append, ← List.countP_eq_length_filter] at h1
  have h2 := List.length_eq_countP_add_countP (fun v => decide (v ∈ B)) (l := A)
  have h3 : A.countP (fun v => !decide (v ∈ B)) = A.countP (fun a => decide ¬ (decide (a ∈ B) = true)) := by
    refine List.countP_congr (fun x _ => ?_)
    by_cases h : x ∈ B <;> simp [h]
  omega
/-- The document's number of what is amiss. -/
def codeV (d : D) : Int := match d with | .err k => if k = 3 then 105 else 103 | _ => 0
def WR6Valid : Opts := mkWE 54 [] [] [] 184 [] [1]
def icR6Valid : IC := (.seq (.seq (.ops [(.u (.bxf 1 (.strct [(.int .i64), (.slice 3), (.slice 3)]) none (.s 0))), (.u (.mov 2 (.c (.int .i64 0))))]) (.tr [1])) (.seq (.seq (.seq (.ops [(.u (.fad 5 0 0 (.int .i64) 25 (.s 1))), (.u (.ld 6 (.int .i64) (.s 5))), (.u (.call 7 (.c (.clo 76 [])) [(.s 6)] [none] true)), (.u (.una 8 .not (.s 7)))]) (.tr [8, 1])) (.cond (.s 8) (.seq (.seq (.ops [(.u (.mov 2 (.c (.int .i64 105))))]) (.tr [2])) .ret) .skip)) (.seq (.seq (.rgn [] [(false, (.u (.fad 10 1 1 (.slice 3) 25 (.s 1)))), (false, (.u (.ld 11 (.slice 3) (.s 10)))), (false, (.u (.fad 13 2 2 (.slice 3) 25 (.s 1)))), (true, (.u (.ld 14 (.slice 3) (.s 13)))), (false, (.u (.bsl 9 3 (.int .i64) []))), (false, (.u (.app 12 3 (.int .i64) 8 (.s 9) (.s 11)))), (false, (.u (.app 15 3 (.int .i64) 8 (.s 12) (.s 14)))), (false, (.u (.mov 3 (.s 15))))]) (.tr [1, 3])) (.seq (.seq (.seq (.ops [(.u (.mov 4 (.c (.int .i64 0))))]) (.tr [4, 1, 3])) (.block 0 (.loop (.seq (.seq (.seq (.ops [(.u (.mov 16 (.s 4))), (.u (.mov 17 (.s 3))), (.u (.len 18 false (.s 17))), (.u (.cmp 19 .lss (.s 16) (.s 18)))]) (.tr [19, 4, 1, 3])) (.cond (.s 19) .skip (.exit 0))) (.seq (.block 1 (.seq (.seq (.ops [(.u (.mov 22 (.s 3))), (.u (.mov 23 (.s 4))), (.u (.iad 24 3 (.int .i64) (.s 22) (.s 23))), (.u (.ld 25 (.int .i64) (.s 24))), (.u (.call 26 (.c (.clo 77 [])) [(.s 25)] [none] true)), (.u (.una 27 .not (.s 26)))]) (.tr [27, 4, 1, 3])) (.cond (.s 27) (.seq (.seq (.ops [(.u (.mov 2 (.c (.int .i64 105))))]) (.tr [2])) .ret) .skip))) (.seq (.ops [(.u (.mov 20 (.s 4))), (.u (.bin 21 .add .i64 (.s 20) (.c (.int .i64 1)))), (.u (.mov 4 (.s 21)))]) (.tr [4, 1, 3]))))))) (.seq (.seq (.seq (.ops [(.u (.fad 28 1 1 (.slice 3) 25 (.s 1))), (.u (.ld 29 (.slice 3) (.s 28))), (.u (.call 30 (.c (.clo 78 [])) [(.s 29)] [(some 3)] true)), (.u (.una 31 .not (.s 30))), (.u (.mov 32 (.s 31))), (.g 32 false (some 33) (.fad 33 2 2 (.slice 3) 25 (.s 1))), (.g 32 false (some 34) (.ld 34 (.slice 3) (.s 33))), (.g 32 false (some 35) (.len 35 false (.s 34))), (.g 32 false (some 36) (.cmp 36 .gtr (.s 35) (.c (.int .i64 0)))), (.g 32 false (some 37) (.mov 37 (.s 36))), (.g 37 true (some 38) (.fad 38 2 2 (.slice 3) 25 (.s 1))), (.g 37 true (some 39) (.ld 39 (.slice 3) (.s 38))), (.g 37 true (some 40) (.call 40 (.c (.clo 78 [])) [(.s 39)] [(some 3)] true)), (.g 37 true (some 41) (.una 41 .not (.s 40))), (.g 32 false (some 42) (.pck 42 (.s 37) (.s 41) (.c (.bool false)))), (.u (.pck 43 (.s 32) (.c (.bool true)) (.s 42)))]) (.tr [43, 1, 3])) (.cond (.s 43) (.seq (.seq (.ops [(.u (.mov 2 (.c (.int .i64 103))))]) (.tr [2])) .ret) .skip)) (.seq (.seq (.seq (.ops [(.u (.fad 44 2 2 (.slice 3) 25 (.s 1))), (.u (.ld 45 (.slice 3) (.s 44))), (.u (.len 46 false (.s 45))), (.u (.cmp 47 .gtr (.s 46) (.c (.int .i64 0)))), (.u (.mov 48 (.s 47))), (.g 48 true (some 49) (.mov 49 (.s 3))), (.g 48 true (some 50) (.call 50 (.c (.clo 30 [])) [(.s 49)] [(some 3)] true)), (.g 48 true (some 51) (.len 51 false (.s 50))), (.g 48 true (some 52) (.cmp 52 .neq (.s 51) (.c (.int .i64 7)))), (.u (.pck 53 (.s 48) (.s 52) (.c (.bool false))))]) (.tr [53])) (.cond (.s 53) (.seq (.seq (.ops [(.u (.mov 2 (.c (.int .i64 103))))]) (.tr [2])) .ret) .skip)) (.seq (.seq (.ops [(.u (.mov 2 (.c (.int .i64 0))))]) (.tr [2])) .ret)))))))
def rsR6Valid : List RV := [(.t 2)]
theorem irR6Valid : fnIR Tryd.prog WR6Valid 34 = some (icR6Valid, rsR6Valid) := by kernel_rfl
def spR6Valid : FSpec := fun args h nx K => match args with
  | [.agg [.int .i64 e, .dat (.slice t) o, .dat (.slice t') n]] => t = 3 ∧ t' = 3 ∧ o.l.length ≤ 1000 ∧ n.l.length ≤ 1000 ∧ K (.int .i64 (codeV (validC e o.l n.l))) h
  | _ => False
set_option maxHeartbeats 4000000 in
set_option maxRecDepth 8000 in
theorem vR6Valid {E : Nat → Value} (hE : Errs2 Tryd.prog (some 184) E) : Valid Tryd.prog E (gs []) 34 spR6Valid := by
  refine valid_go (W := WR6Valid) hE ((((allValid_bot.add (up (vR1Epoch hE))).add (up (vR1Node hE))).add (up (vR6six hE))).add (up (vRRising hE))) irR6Valid (by decide) (fun args h nx K hsp hok hnm => ?_)
  unfold spR6Valid at hsp
  split at hsp
  · rename_i e t o t' n
    obtain ⟨rfl, rfl, ho9, hn9, hK⟩ := hsp
    refine ⟨by simp [WR6Valid, mkW, mkWE, mkWF], fun Q hQ => ?_⟩
    obtain ⟨⟨_, ho, hn, _⟩, _⟩ := hok
    simp only [SV.ok] at ho hn
    obtain ⟨ho1, ho2, ho3⟩ := Wt.slice ho; generalize o.l = xs at *; subst ho1
    obtain ⟨hn1, hn2, hn3⟩ := Wt.slice hn; generalize n.l = ys at *; subst hn1
    have ho9 : xs.length ≤ 1000 := ho9
    have hn9 : ys.length ≤ 1000 := hn9
    have ret : ∀ v h' nx', HLe h h' → v = codeV (validC e xs ys) → Q Ex.ret ⟨[(2, .int .i64 v)], h', nx'⟩ := fun v h' nx' hh hb => by
      refine (hQ _ ?_).1
      subst hb
      exact fin_t (.int .i64 _) rfl rfl hnm hh hK
    rcases bool_ft (epochB e) with he | he
    · simp (maxSteps := 4000000) only [icR6Valid, go_sem, goD_calls, eq_self, implies_true, Int.reduceEq, Int.reduceBEq, Int.reduceBNe, Int.reduceLE, Int.reduceLT, Int.reduceAdd, Int.reduceSub, Int.reduceMul, Int.reduceNeg, Nat.reduceMul, Nat.reduceSub, Nat.reduceLeDiff, Nat.reduceLT, Nat.reduceEqDiff, Nat.reduceAdd, reduceCtorEq, ↓reduceIte, reduceIte, spR1Epoch, he]
      refine ⟨rfl, ?_⟩
      refine ret _ _ _ (by ((try simp only []); repeat first | exact HLe.refl _ | refine HLe.cons (by simp only [hget, Nat.reduceEqDiff, Nat.left_eq_add, Nat.add_eq_left, nm_ne2, nm_en2, nm_ne3, nm_en3, nm_ne4, nm_en4, nm_ne5, nm_en5, reduceIte, ↓reduceIte] <;> first | rfl | ((repeat rw [if_neg (by omega)]) <;> rfl)) ?_ | refine HLe.skip hnm (by omega) ?_ | refine HLe.frz hnm (by omega) ?_ | refine HLe.del hnm (by omega) ?_)) ?_
      have : e < 0 ∨ 1073741824 < e := by
        unfold epochB at he
        simp only [Bool.and_eq_false_iff, decide_eq_false_iff_not] at he
        omega
      unfold validC
      rw [if_pos (by rcases this with h | h <;> simp [h])]
      rfl
    have he' : ¬ e < 0 ∧ ¬ 1073741824 < e := by
      unfold epochB at he
      simp only [Bool.and_eq_true, decide_eq_true_eq] at he
      omega
    have hV : badI xs = false → badI ys = false → validC e xs ys = if sixB xs = false ∨ 0 < ys.length ∧ (sixB ys = false ∨ commonN xs ys ≠ 5) then .err 4 else .nil := fun h1 h2 => by
      unfold validC
      rw [if_neg (by simp [he'.1, he'.2, h1, h2])]
    have hVb : (badI xs = true ∨ badI ys = true) → validC e xs ys = .err 3 := fun h => by
      unfold validC
      rw [if_pos (by rcases h with h | h <;> simp [h])]
    have hbad : ∀ i, i < (xs ++ ys).length → nodeB ((xs ++ ys).getD i .nil).i = false → badI xs = true ∨ badI ys = true := fun i hi hb => by
      have hm : (xs ++ ys).getD i .nil ∈ xs ++ ys := by rw [List.getD_eq_getElem?_getD, List.getElem?_eq_getElem hi]; exact List.getElem_mem hi
      rcases List.mem_append.1 hm with h | h
      · left
        unfold badI
        rw [List.any_eq_true]
        exact ⟨_, h, by rw [hb]; rfl⟩
      · right
        unfold badI
        rw [List.any_eq_true]
        exact ⟨_, h, by rw [hb]; rfl⟩
    simp (maxSteps := 4000000) only [icR6Valid, go_sem, goD_calls, eq_self, implies_true, Int.reduceEq, Int.reduceBEq, Int.reduceBNe, Int.reduceLE, Int.reduceLT, Int.reduceAdd, Int.reduceSub, Int.reduceMul, Int.reduceNeg, Nat.reduceMul, Nat.reduceSub, Nat.reduceLeDiff, Nat.reduceLT, Nat.reduceEqDiff, Nat.reduceAdd, reduceCtorEq, ↓reduceIte, reduceIte, spR1Epoch, he]
    refine ⟨rfl, rfl, rfl, by omega, by omega, ?_⟩
    have hln : (xs ++ ys).length = xs.length + ys.length := List.length_append
    refine go_loop (α := { i : Nat // i ≤ (xs ++ ys).length ∧ ∀ j, j < i → nodeB ((xs ++ ys).getD j .nil).i = true }) (I := fun i => { f := [(4, .int .i64 i.1), (1, .elt (.strct [.int .i64, .slice 3, .slice 3]) (.node [.int e, .list xs, .list ys])), (3, .vec nx)], h := (nx, .arr 3 (.int .i64) (xs ++ ys)) :: h, nx := nx + 1 }) (μ := fun i => (xs ++ ys).length - i.1) _ _ _ ⟨0, by omega, fun j hj => absurd hj (by omega)⟩ ?_ (fun i B hB => ?_)
    · refine leq_news [(nx, nx + 64 + 1 + 1)] [(nx, .arr 3 (.int .i64) (xs ++ ys))] (.refl _) (by simp) (by simp <;> omega) (by simp) rfl ?_ ?_ ?_ ?_ hnm ?_ (by omega)
      · simp [frIn_cons, frIn_nil, fget_cons, fget_nil, SV.ren, SV.renL, rens]
      · (simp only [frLt_cons, frLt_nil, and_true, SV.lt, SV.ltL, true_and] <;> omega)
      · (simp only [List.mem_cons, List.not_mem_nil, or_false, forall_eq_or_imp, forall_eq]; simp [hget, rens, Tok.ren, SV.ren, SV.renL])
      · (simp only [List.mem_cons, List.not_mem_nil, or_false, forall_eq_or_imp, forall_eq, Tok.lt, SV.lt, SV.ltL, and_true, true_and] <;> omega)
      · ((try simp only []); repeat first | exact HLe.refl _ | refine HLe.cons (by simp only [hget, Nat.reduceEqDiff, Nat.left_eq_add, Nat.add_eq_left, nm_ne2, nm_en2, nm_ne3, nm_en3, nm_ne4, nm_en4, nm_ne5, nm_en5, reduceIte, ↓reduceIte] <;> first | rfl | ((repeat rw [if_neg (by omega)]) <;> rfl)) ?_ | refine HLe.skip hnm (by omega) ?_ | refine HLe.frz hnm (by omega) ?_ | refine HLe.del hnm (by omega) ?_)
    · obtain ⟨i, hi, hgood⟩ := i
      simp only at hB
      by_cases hil : i < (xs ++ ys).length
      · have c1 : decide ((i : Int) < ((xs ++ ys).length : Int)) = true := decide_eq_true (by omega)
        have hni : nodeI ((xs ++ ys).getD i .nil).i = nodeB ((xs ++ ys).getD i .nil).i := rfl
        rcases bool_ft (nodeB ((xs ++ ys).getD i .nil).i) with hn | hn
        · simp (maxSteps := 4000000) only [go_sem, goD_calls, eq_self, implies_true, Int.reduceEq, Int.reduceBEq, Int.reduceBNe, Int.reduceLE, Int.reduceLT, Int.reduceAdd, Int.reduceSub, Int.reduceMul, Int.reduceNeg, Nat.reduceMul, Nat.reduceSub, Nat.reduceLeDiff, Nat.reduceLT, Nat.reduceEqDiff, Nat.reduceAdd, reduceCtorEq, ↓reduceIte, reduceIte, c1, spR1Node, hni, hn, Int.toNat_natCast, min_i64, max_i64]
          repeat refine ⟨by omega, ?_⟩
          refine ret _ _ _ (by ((try simp only []); repeat first | exact HLe.refl _ | refine HLe.cons (by simp only [hget, Nat.reduceEqDiff, Nat.left_eq_add, Nat.add_eq_left, nm_ne2, nm_en2, nm_ne3, nm_en3, nm_ne4, nm_en4, nm_ne5, nm_en5, reduceIte, ↓reduceIte] <;> first | rfl | ((repeat rw [if_neg (by omega)]) <;> rfl)) ?_ | refine HLe.skip hnm (by omega) ?_ | refine HLe.frz hnm (by omega) ?_ | refine HLe.del hnm (by omega) ?_)) ?_
          rw [hVb (hbad i hil hn)]
          rfl
        · simp (maxSteps := 4000000) only [go_sem, goD_calls, eq_self, implies_true, Int.reduceEq, Int.reduceBEq, Int.reduceBNe, Int.reduceLE, Int.reduceLT, Int.reduceAdd, Int.reduceSub, Int.reduceMul, Int.reduceNeg, Nat.reduceMul, Nat.reduceSub, Nat.reduceLeDiff, Nat.reduceLT, Nat.reduceEqDiff, Nat.reduceAdd, reduceCtorEq, ↓reduceIte, reduceIte, c1, spR1Node, hni, hn, Int.toNat_natCast, min_i64, max_i64]
          repeat refine ⟨by omega, ?_⟩
          refine hB _ ⟨i + 1, by omega, fun j hj => by
            by_cases e : j = i
            · exact e ▸ hn
            · exact hgood j (by omega)⟩ (by simp only []; omega) ?_
          refine leq_id ?_ (by (simp only [frLt_cons, frLt_nil, and_true, SV.lt, SV.ltL, true_and] <;> omega)) (by ((try simp only []); repeat first | exact HLe.refl _ | refine HLe.cons (by simp only [hget, Nat.reduceEqDiff, Nat.left_eq_add, Nat.add_eq_left, nm_ne2, nm_en2, nm_ne3, nm_en3, nm_ne4, nm_en4, nm_ne5, nm_en5, reduceIte, ↓reduceIte] <;> first | rfl | ((repeat rw [if_neg (by omega)]) <;> rfl)) ?_ | refine HLe.skip hnm (by omega) ?_ | refine HLe.frz hnm (by omega) ?_ | refine HLe.del hnm (by omega) ?_)) (by (repeat first | exact HLt.mono hnm (by simp only [] <;> omega) | refine HLt.cons (by simp only [] <;> omega) (by simp only [Tok.lt, SV.ltL, SV.lt, and_true, true_and] <;> omega) ?_)) (by simp only [] <;> omega)
          simp only [frEq_cons, frEq_nil, frIn_cons, frIn_nil, and_true, fget_cons, Nat.reduceEqDiff, reduceIte, ↓reduceIte, true_and, SV.ren, SV.renL, ren1]
          simp
      · obtain rfl : i = (xs ++ ys).length := by omega
        have c1 : decide (((xs ++ ys).length : Int) < ((xs ++ ys).length : Int)) = false := decide_eq_false (by omega)
        have hall : ∀ x ∈ xs ++ ys, 0 ≤ x.i ∧ x.i < 64 := fun x hx => by
          obtain ⟨j, hj, rfl⟩ := List.mem_iff_getElem.1 hx
          have := hgood j hj
          rw [List.getD_eq_getElem?_getD, List.getElem?_eq_getElem hj] at this
          unfold nodeB at this
          simpa using this
        have hb1 : badI xs = false := badI_of (fun x hx => hall x (List.mem_append.2 (.inl hx)))
        have hb2 : badI ys = false := badI_of (fun x hx => hall x (List.mem_append.2 (.inr hx)))
        have hV := hV hb1 hb2
        have ox9 : xs.length ≤ 1000000000 := by omega
        have oy9 : ys.length ≤ 1000000000 := by omega
        have oxy : (xs ++ ys).length ≤ 1000000000 := by omega
        rcases bool_ft (sixB xs) with h6 | h6
        · rw [if_pos (.inl h6)] at hV
          simp (maxSteps := 4000000) only [go_sem, goD_calls, eq_self, implies_true, Int.reduceEq, Int.reduceBEq, Int.reduceBNe, Int.reduceLE, Int.reduceLT, Int.reduceAdd, Int.reduceSub, Int.reduceMul, Int.reduceNeg, Nat.reduceMul, Nat.reduceSub, Nat.reduceLeDiff, Nat.reduceLT, Nat.reduceEqDiff, Nat.reduceAdd, reduceCtorEq, ↓reduceIte, reduceIte, c1, spR6six, ox9, h6]
          refine ⟨rfl, ?_⟩
          exact ret _ _ _ (by ((try simp only []); repeat first | exact HLe.refl _ | refine HLe.cons (by simp only [hget, Nat.reduceEqDiff, Nat.left_eq_add, Nat.add_eq_left, nm_ne2, nm_en2, nm_ne3, nm_en3, nm_ne4, nm_en4, nm_ne5, nm_en5, reduceIte, ↓reduceIte] <;> first | rfl | ((repeat rw [if_neg (by omega)]) <;> rfl)) ?_ | refine HLe.skip hnm (by omega) ?_ | refine HLe.frz hnm (by omega) ?_ | refine HLe.del hnm (by omega) ?_)) (by rw [hV]; rfl)
        by_cases hy : 0 < ys.length
        · have c2 : decide (0 < (ys.length : Int)) = true := decide_eq_true (by omega)
          rcases bool_ft (sixB ys) with h7 | h7
          · rw [if_pos (.inr ⟨hy, .inl h7⟩)] at hV
            simp (maxSteps := 4000000) only [go_sem, goD_calls, eq_self, implies_true, Int.reduceEq, Int.reduceBEq, Int.reduceBNe, Int.reduceLE, Int.reduceLT, Int.reduceAdd, Int.reduceSub, Int.reduceMul, Int.reduceNeg, Nat.reduceMul, Nat.reduceSub, Nat.reduceLeDiff, Nat.reduceLT, Nat.reduceEqDiff, Nat.reduceAdd, reduceCtorEq, ↓reduceIte, reduceIte, c1, spR6six, ox9, oy9, h6, h7, c2]
            refine ⟨rfl, rfl, rfl, ?_⟩
            exact ret _ _ _ (by ((try simp only []); repeat first | exact HLe.refl _ | refine HLe.cons (by simp only [hget, Nat.reduceEqDiff, Nat.left_eq_add, Nat.add_eq_left, nm_ne2, nm_en2, nm_ne3, nm_en3, nm_ne4, nm_en4, nm_ne5, nm_en5, reduceIte, ↓reduceIte] <;> first | rfl | ((repeat rw [if_neg (by omega)]) <;> rfl)) ?_ | refine HLe.skip hnm (by omega) ?_ | refine HLe.frz hnm (by omega) ?_ | refine HLe.del hnm (by omega) ?_)) (by rw [hV]; rfl)
          · have hu := union_len (sixB_nodup h6).2 (sixB_nodup h7).2
            rw [(sixB_nodup h6).1, (sixB_nodup h7).1] at hu
            by_cases h8 : (riseL (xs ++ ys)).length = 7
            · have c3 : (((riseL (xs ++ ys)).length : Int) != 7) = false := by rw [bne_eq_false_iff_eq]; omega
              rw [if_neg (by rw [h6, h7]; simp; omega)] at hV
              simp (maxSteps := 4000000) only [go_sem, goD_calls, eq_self, implies_true, Int.reduceEq, Int.reduceBEq, Int.reduceBNe, Int.reduceLE, Int.reduceLT, Int.reduceAdd, Int.reduceSub, Int.reduceMul, Int.reduceNeg, Nat.reduceMul, Nat.reduceSub, Nat.reduceLeDiff, Nat.reduceLT, Nat.reduceEqDiff, Nat.reduceAdd, reduceCtorEq, ↓reduceIte, reduceIte, c1, spR6six, spRRising, ox9, oy9, oxy, h6, h7, c2, c3]
              refine ⟨rfl, rfl, rfl, rfl, ?_⟩
              exact ret _ _ _ (by ((try simp only []); repeat first | exact HLe.refl _ | refine HLe.cons (by simp only [hget, Nat.reduceEqDiff, Nat.left_eq_add, Nat.add_eq_left, nm_ne2, nm_en2, nm_ne3, nm_en3, nm_ne4, nm_en4, nm_ne5, nm_en5, reduceIte, ↓reduceIte] <;> first | rfl | ((repeat rw [if_neg (by omega)]) <;> rfl)) ?_ | refine HLe.skip hnm (by omega) ?_ | refine HLe.frz hnm (by omega) ?_ | refine HLe.del hnm (by omega) ?_)) (by rw [hV]; rfl)
            · have c3 : (((riseL (xs ++ ys)).length : Int) != 7) = true := by rw [bne_iff_ne]; omega
              rw [if_pos (.inr ⟨hy, .inr (by omega)⟩)] at hV
              simp (maxSteps := 4000000) only [go_sem, goD_calls, eq_self, implies_true, Int.reduceEq, Int.reduceBEq, Int.reduceBNe, Int.reduceLE, Int.reduceLT, Int.reduceAdd, Int.reduceSub, Int.reduceMul, Int.reduceNeg, Nat.reduceMul, Nat.reduceSub, Nat.reduceLeDiff, Nat.reduceLT, Nat.reduceEqDiff, Nat.reduceAdd, reduceCtorEq, ↓reduceIte, reduceIte, c1, spR6six, spRRising, ox9, oy9, oxy, h6, h7, c2, c3]
              refine ⟨rfl, rfl, rfl, rfl, ?_⟩
              exact ret _ _ _ (by ((try simp only []); repeat first | exact HLe.refl _ | refine HLe.cons (by simp only [hget, Nat.reduceEqDiff, Nat.left_eq_add, Nat.add_eq_left, nm_ne2, nm_en2, nm_ne3, nm_en3, nm_ne4, nm_en4, nm_ne5, nm_en5, reduceIte, ↓reduceIte] <;> first | rfl | ((repeat rw [if_neg (by omega)]) <;> rfl)) ?_ | refine HLe.skip hnm (by omega) ?_ | refine HLe.frz hnm (by omega) ?_ | refine HLe.del hnm (by omega) ?_)) (by rw [hV]; rfl)
        · have c2 : decide (0 < (ys.length : Int)) = false := decide_eq_false (by omega)
          rw [if_neg (by rw [h6]; simp; omega)] at hV
          simp (maxSteps := 4000000) only [go_sem, goD_calls, eq_self, implies_true, Int.reduceEq, Int.reduceBEq, Int.reduceBNe, Int.reduceLE, Int.reduceLT, Int.reduceAdd, Int.reduceSub, Int.reduceMul, Int.reduceNeg, Nat.reduceMul, Nat.reduceSub, Nat.reduceLeDiff, Nat.reduceLT, Nat.reduceEqDiff, Nat.reduceAdd, reduceCtorEq, ↓reduceIte, reduceIte, c1, spR6six, ox9, h6, c2]
          refine ⟨rfl, rfl, rfl, ?_⟩
          exact ret _ _ _ (by ((try simp only []); repeat first | exact HLe.refl _ | refine HLe.cons (by simp only [hget, Nat.reduceEqDiff, Nat.left_eq_add, Nat.add_eq_left, nm_ne2, nm_en2, nm_ne3, nm_en3, nm_ne4, nm_en4, nm_ne5, nm_en5, reduceIte, ↓reduceIte] <;> first | rfl | ((repeat rw [if_neg (by omega)]) <;> rfl)) ?_ | refine HLe.skip hnm (by omega) ?_ | refine HLe.frz hnm (by omega) ?_ | refine HLe.del hnm (by omega) ?_)) (by rw [hV]; rfl)
  · exact hsp.elim
end Go.Proofs.YtkojpimkngmckaaDoor
