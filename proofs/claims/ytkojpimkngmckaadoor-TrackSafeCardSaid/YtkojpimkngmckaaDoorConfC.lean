/- Chapter 7: copies, members, what is enough. -/
import Derived.Test.YtkojpimkngmckaaDoorConfB
namespace Go.Proofs.YtkojpimkngmckaaDoor
set_option linter.unusedVariables false
set_option linter.unusedSimpArgs false
open Go Go.Fw
attribute [local go_sem] walkSet evMdl evMupD evMup evLkp frpL preF preP prePt prePd frzP evNlq ev frOf oget ogets argSs argS evMm frzL evBin evWrp evShf evCmp evUna evNil evBeq evLd evSt evFad evIad evAad evLen evSln evEls evApp evParts evSlc evNlc evMif evPck evFld evBld evTas evIfq evSeq evSl0 evBxf evAgl evAgq evBsf hget hset hdel cellAt arrAt setCellAt setArrAt takeC lenC svCells SV.okc SV.one ldSV Fw.isAgg explode explodeL toD toDL toD1 Ty.size Ty.sizeL frz1 Fr.sub Heap.sub Tok.sub SV.sub SV.subL

def spSCloneI : FSpec := fun args h nx K => match args with
  | [.dat (.slice t) d] => t = 3 ∧ d.l.length ≤ 1000000000 ∧ K (.dat (.slice 3) (.list d.l)) h
  | _ => False
def WSCloneI : Opts := mkWE 8 [] [] [] 184 [] []
def icSCloneI : IC := (.seq (.seq (.ops [(.u (.mov 2 (.c .nils)))]) (.tr [0])) (.seq (.seq (.seq (.ops [(.u (.mov 3 (.s 0))), (.u (.nlq 4 false (.s 3)))]) (.tr [4, 0])) (.cond (.s 4) (.seq (.seq (.ops [(.u (.mov 2 (.c .nils)))]) (.tr [2])) .ret) .skip)) (.seq (.seq (.ops [(.u (.bsl 5 3 (.int .i64) [])), (.u (.mov 6 (.s 0))), (.u (.app 7 3 (.int .i64) 8 (.s 5) (.s 6))), (.u (.mov 2 (.s 7)))]) (.tr [2])) .ret)))
def rsSCloneI : List RV := [(.t 2)]
theorem irSCloneI : fnIR Tryd.prog WSCloneI 72 = some (icSCloneI, rsSCloneI) := by kernel_rfl
set_option maxHeartbeats 4000000 in
set_option maxRecDepth 8000 in
theorem vSCloneI {E : Nat → Value} (hE : Errs2 Tryd.prog (some 184) E) : Valid Tryd.prog E (gs []) 72 spSCloneI := by
  refine valid_go (W := WSCloneI) hE allValid_bot irSCloneI (by decide) (fun args h nx K hsp hok hnm => ?_)
  unfold spSCloneI at hsp
  split at hsp
  · rename_i t d
    obtain ⟨rfl, hlen, hsp⟩ := hsp
    refine ⟨by simp [WSCloneI, mkW, mkWE, mkWF], fun Q hQ => ?_⟩
    simp (maxSteps := 4000000) only [icSCloneI, go_sem, goD_calls, eq_self, implies_true, Int.reduceEq, Int.reduceBEq, Int.reduceBNe, Int.reduceLE, Int.reduceLT, Int.reduceAdd, Int.reduceSub, Int.reduceMul, Int.reduceNeg, Nat.reduceMul, Nat.reduceSub, Nat.reduceLeDiff, Nat.reduceLT, Nat.reduceEqDiff, Nat.reduceAdd, reduceCtorEq, ↓reduceIte, reduceIte]
    intro b hb
    refine ⟨fun hc => ?_, fun hc => ⟨by (try simp only [List.length_nil]) <;> omega, ?_⟩⟩
    · have hl : d.l = [] := hb hc
      rw [hl] at hsp
      refine (hQ _ ?_).1
      refine fin_new (p := True ∧ True) (xs := [.nils]) rfl ⟨trivial, trivial⟩ (.slot 0 3 (.int .i64) rfl (.frz nx (.refl _))) [] (.dat (.slice 3) (.list [])) [] (by simp) (by simp) (by simp) ?_ trivial rfl (by simp) (by simp) hnm ?_ hsp
      · simp only [mkR, go_sem, goD_calls, eq_self, implies_true, Int.reduceEq, Int.reduceBEq, Int.reduceBNe, Int.reduceLE, Int.reduceLT, Int.reduceAdd, Int.reduceSub, Int.reduceMul, Int.reduceNeg, Nat.reduceMul, Nat.reduceSub, Nat.reduceLeDiff, Nat.reduceLT, Nat.reduceEqDiff, Nat.reduceAdd, reduceCtorEq, ↓reduceIte, reduceIte, SV.ren, SV.renL, rens]
      · simp only [mkR, go_sem, goD_calls, eq_self, implies_true, Int.reduceEq, Int.reduceBEq, Int.reduceBNe, Int.reduceLE, Int.reduceLT, Int.reduceAdd, Int.reduceSub, Int.reduceMul, Int.reduceNeg, Nat.reduceMul, Nat.reduceSub, Nat.reduceLeDiff, Nat.reduceLT, Nat.reduceEqDiff, Nat.reduceAdd, reduceCtorEq, ↓reduceIte, reduceIte] <;> ((try simp only []); repeat first | exact HLe.refl _ | refine HLe.cons (by simp only [hget, Nat.reduceEqDiff, Nat.left_eq_add, Nat.add_eq_left, nm_ne2, nm_en2, nm_ne3, nm_en3, nm_ne4, nm_en4, nm_ne5, nm_en5, reduceIte, ↓reduceIte] <;> first | rfl | ((repeat rw [if_neg (by omega)]) <;> rfl)) ?_ | refine HLe.skip hnm (by omega) ?_ | refine HLe.frz hnm (by omega) ?_ | refine HLe.del hnm (by omega) ?_)
    · refine (hQ _ ?_).1
      refine fin_new (p := True ∧ True) (xs := [.vec (nx + 1)]) rfl ⟨trivial, trivial⟩ (.frz (nx + 1) (.refl _)) [] (.dat (.slice 3) (.list d.l)) [] (by simp) (by simp) (by simp) ?_ trivial rfl (by simp) (by simp) hnm ?_ hsp
      · simp only [mkR, go_sem, goD_calls, eq_self, implies_true, Int.reduceEq, Int.reduceBEq, Int.reduceBNe, Int.reduceLE, Int.reduceLT, Int.reduceAdd, Int.reduceSub, Int.reduceMul, Int.reduceNeg, Nat.reduceMul, Nat.reduceSub, Nat.reduceLeDiff, Nat.reduceLT, Nat.reduceEqDiff, Nat.reduceAdd, reduceCtorEq, ↓reduceIte, reduceIte, SV.ren, SV.renL, rens]
      · simp only [mkR, go_sem, goD_calls, eq_self, implies_true, Int.reduceEq, Int.reduceBEq, Int.reduceBNe, Int.reduceLE, Int.reduceLT, Int.reduceAdd, Int.reduceSub, Int.reduceMul, Int.reduceNeg, Nat.reduceMul, Nat.reduceSub, Nat.reduceLeDiff, Nat.reduceLT, Nat.reduceEqDiff, Nat.reduceAdd, reduceCtorEq, ↓reduceIte, reduceIte] <;> ((try simp only []); repeat first | exact HLe.refl _ | refine HLe.cons (by simp only [hget, Nat.reduceEqDiff, Nat.left_eq_add, Nat.add_eq_left, nm_ne2, nm_en2, nm_ne3, nm_en3, nm_ne4, nm_en4, nm_ne5, nm_en5, reduceIte, ↓reduceIte] <;> first | rfl | ((repeat rw [if_neg (by omega)]) <;> rfl)) ?_ | refine HLe.skip hnm (by omega) ?_ | refine HLe.frz hnm (by omega) ?_ | refine HLe.del hnm (by omega) ?_)
  · exact hsp.elim
def spSCloneV : FSpec := fun args h nx K => match args with
  | [.dat (.slice t) d] => t = 3 ∧ d.l.length ≤ 1000000000 ∧ K (.vec nx) ((nx, .arr 3 (.int .i64) d.l) :: h)
  | _ => False
def WSCloneV : Opts := mkWE 8 [] [] [] 184 [] []
def icSCloneV : IC := (.seq (.seq (.ops [(.u (.mov 2 (.c .nils)))]) (.tr [0])) (.seq (.seq (.seq (.ops [(.u (.mov 3 (.s 0))), (.u (.nlq 4 false (.s 3)))]) (.tr [4, 0])) (.cond (.s 4) (.seq (.seq (.ops [(.u (.mov 2 (.c .nils)))]) (.tr [2])) .ret) .skip)) (.seq (.seq (.ops [(.u (.bsl 5 3 (.int .i64) [])), (.u (.mov 6 (.s 0))), (.u (.app 7 3 (.int .i64) 8 (.s 5) (.s 6))), (.u (.mov 2 (.s 7)))]) (.tr [2])) .ret)))
def rsSCloneV : List RV := [(.t 2)]
theorem irSCloneV : fnIR Tryd.prog WSCloneV 72 = some (icSCloneV, rsSCloneV) := by kernel_rfl
set_option maxHeartbeats 4000000 in
set_option maxRecDepth 8000 in
theorem vSCloneV {E : Nat → Value} (hE : Errs2 Tryd.prog (some 184) E) : Valid Tryd.prog E (gs []) 72 spSCloneV := by
  refine valid_go (W := WSCloneV) hE allValid_bot irSCloneV (by decide) (fun args h nx K hsp hok hnm => ?_)
  unfold spSCloneV at hsp
  split at hsp
  · rename_i t d
    obtain ⟨rfl, hlen, hsp⟩ := hsp
    refine ⟨by simp [WSCloneV, mkW, mkWE, mkWF], fun Q hQ => ?_⟩
    simp (maxSteps := 4000000) only [icSCloneV, go_sem, goD_calls, eq_self, implies_true, Int.reduceEq, Int.reduceBEq, Int.reduceBNe, Int.reduceLE, Int.reduceLT, Int.reduceAdd, Int.reduceSub, Int.reduceMul, Int.reduceNeg, Nat.reduceMul, Nat.reduceSub, Nat.reduceLeDiff, Nat.reduceLT, Nat.reduceEqDiff, Nat.reduceAdd, reduceCtorEq, ↓reduceIte, reduceIte]
    intro b hb
    refine ⟨fun hc => ?_, fun hc => ⟨by (try simp only [List.length_nil]) <;> omega, ?_⟩⟩
    · have hl : d.l = [] := hb hc
      rw [hl] at hsp
      refine (hQ _ ?_).1
      exact fin_nils 3 (.int .i64) rfl (by simp only [] <;> omega) hnm (by ((try simp only []); repeat first | exact HLe.refl _ | refine HLe.cons (by simp only [hget, Nat.reduceEqDiff, Nat.left_eq_add, Nat.add_eq_left, nm_ne2, nm_en2, nm_ne3, nm_en3, nm_ne4, nm_en4, nm_ne5, nm_en5, reduceIte, ↓reduceIte] <;> first | rfl | ((repeat rw [if_neg (by omega)]) <;> rfl)) ?_ | refine HLe.skip hnm (by omega) ?_ | refine HLe.frz hnm (by omega) ?_ | refine HLe.del hnm (by omega) ?_)) hsp
    · refine (hQ _ ?_).1
      exact fin_vec (m := nx + 1) rfl (by simp only [hget, ↓reduceIte]) (by omega) hnm (by ((try simp only []); repeat first | exact HLe.refl _ | refine HLe.cons (by simp only [hget, Nat.reduceEqDiff, Nat.left_eq_add, Nat.add_eq_left, nm_ne2, nm_en2, nm_ne3, nm_en3, nm_ne4, nm_en4, nm_ne5, nm_en5, reduceIte, ↓reduceIte] <;> first | rfl | ((repeat rw [if_neg (by omega)]) <;> rfl)) ?_ | refine HLe.skip hnm (by omega) ?_ | refine HLe.frz hnm (by omega) ?_ | refine HLe.del hnm (by omega) ?_)) hsp
  · exact hsp.elim

def WCClone : Opts := mkWF 12 [] [] [5, 8] 184 [] [] [] [5, 8]
def icCClone : IC := (.seq (.seq (.ops [(.u (.box 1 0 (.s 0))), (.u (.alc 2 [(.int .i64 0), .nils, .nils]))]) (.tr [1, 2])) (.seq (.seq (.rgn [] [(false, (.u (.fad 3 1 1 (.slice 3) 25 (.s 1)))), (false, (.u (.ld 4 (.slice 3) (.s 3)))), (false, (.u (.fad 6 2 2 (.slice 3) 25 (.s 1)))), (false, (.u (.ld 7 (.slice 3) (.s 6)))), (true, (.u (.call 5 (.c (.clo 72 [])) [(.s 4)] [(some 3)] false))), (false, (.u (.fad 9 1 1 (.slice 3) 25 (.s 1)))), (true, (.u (.call 8 (.c (.clo 72 [])) [(.s 7)] [(some 3)] false))), (false, (.u (.st (.slice 3) (.s 9) (.s 5)))), (false, (.u (.fad 10 2 2 (.slice 3) 25 (.s 1)))), (false, (.u (.st (.slice 3) (.s 10) (.s 8))))]) (.tr [1, 2])) (.seq (.seq (.ops [(.u (.ld 11 (.strct [(.int .i64), (.slice 3), (.slice 3)]) (.s 1))), (.u (.st (.strct [(.int .i64), (.slice 3), (.slice 3)]) (.s 2) (.s 11)))]) (.tr [2])) .ret)))
def rsCClone : List RV := [(.c 2 (.strct [(.int .i64), (.slice 3), (.slice 3)]))]
theorem irCClone : fnIR Tryd.prog WCClone 71 = some (icCClone, rsCClone) := by kernel_rfl
def spCClone : FSpec := fun args h nx K => match args with
  | [.agg [.int .i64 e, .dat (.slice t) o, .dat (.slice t') n]] => t = 3 ∧ t' = 3 ∧ o.l.length ≤ 1000000000 ∧ n.l.length ≤ 1000000000 ∧ K (cfgA e o.l n.l) h
  | _ => False
set_option maxHeartbeats 4000000 in
set_option maxRecDepth 8000 in
theorem vCClone {E : Nat → Value} (hE : Errs2 Tryd.prog (some 184) E) : Valid Tryd.prog E (gs []) 71 spCClone := by
  refine valid_go (W := WCClone) hE (allValid_bot.add (up (vSCloneI hE))) irCClone (by decide) (fun args h nx K hsp hok hnm => ?_)
  unfold spCClone at hsp
  split at hsp
  · rename_i e t o t' n
    obtain ⟨rfl, rfl, ho9, hn9, hK⟩ := hsp
    refine ⟨by simp [WCClone, mkW, mkWE, mkWF], fun Q hQ => ?_⟩
    simp (maxSteps := 4000000) only [icCClone, go_sem, goD_calls, eq_self, implies_true, Int.reduceEq, Int.reduceBEq, Int.reduceBNe, Int.reduceLE, Int.reduceLT, Int.reduceAdd, Int.reduceSub, Int.reduceMul, Int.reduceNeg, Nat.reduceMul, Nat.reduceSub, Nat.reduceLeDiff, Nat.reduceLT, Nat.reduceEqDiff, Nat.reduceAdd, reduceCtorEq, ↓reduceIte, reduceIte, spSCloneI, ho9, hn9]
    refine ⟨.dat (.slice 3) (.list o.l), fun nx' => ⟨rfl, rfl⟩, trivial, ?_⟩
    refine ⟨.dat (.slice 3) (.list n.l), fun nx' => ⟨rfl, rfl⟩, trivial, ?_⟩
    simp (maxSteps := 4000000) only [go_sem, goD_calls, eq_self, implies_true, Int.reduceEq, Int.reduceBEq, Int.reduceBNe, Int.reduceLE, Int.reduceLT, Int.reduceAdd, Int.reduceSub, Int.reduceMul, Int.reduceNeg, Nat.reduceMul, Nat.reduceSub, Nat.reduceLeDiff, Nat.reduceLT, Nat.reduceEqDiff, Nat.reduceAdd, reduceCtorEq, ↓reduceIte, reduceIte]
    refine (hQ _ ?_).1
    refine fin_same (p := True) (xs := [cfgA e o.l n.l]) ?_ trivial (fun π => rfl) ?_ hnm (by ((try simp only []); repeat first | exact HLe.refl _ | refine HLe.cons (by simp only [hget, Nat.reduceEqDiff, Nat.left_eq_add, Nat.add_eq_left, nm_ne2, nm_en2, nm_ne3, nm_en3, nm_ne4, nm_en4, nm_ne5, nm_en5, reduceIte, ↓reduceIte] <;> first | rfl | ((repeat rw [if_neg (by omega)]) <;> rfl)) ?_ | refine HLe.skip hnm (by omega) ?_ | refine HLe.frz hnm (by omega) ?_ | refine HLe.del hnm (by omega) ?_)) hK
    · simp only [rsCClone, evRs, evR, go_sem, goD_calls, eq_self, implies_true, Int.reduceEq, Int.reduceBEq, Int.reduceBNe, Int.reduceLE, Int.reduceLT, Int.reduceAdd, Int.reduceSub, Int.reduceMul, Int.reduceNeg, Nat.reduceMul, Nat.reduceSub, Nat.reduceLeDiff, Nat.reduceLT, Nat.reduceEqDiff, Nat.reduceAdd, reduceCtorEq, ↓reduceIte, reduceIte, cfgA]
    · exact ⟨trivial, trivial, trivial, trivial⟩
  · exact hsp.elim

def WCMembers : Opts := mkWE 14 [] [] [11, 13] 184 [] []
def icCMembers : IC := (.seq (.seq (.ops [(.u (.box 1 0 (.s 0))), (.u (.mov 2 (.c .nils)))]) (.tr [1])) (.seq (.seq (.ops [(.u (.fad 4 1 1 (.slice 3) 25 (.s 1))), (.u (.ld 5 (.slice 3) (.s 4))), (.u (.fad 6 2 2 (.slice 3) 25 (.s 1))), (.u (.ld 7 (.slice 3) (.s 6))), (.u (.bsl 8 23 (.slice 3) [(.s 5), (.s 7)])), (.u (.call 9 (.c (.clo 84 [])) [(.s 8)] [(some 23)] true)), (.u (.mov 3 (.s 9)))]) (.tr [3])) (.seq (.seq (.ops [(.u (.mov 10 (.s 3))), (.u (.call 11 (.c (.clo 85 [])) [(.s 10)] [(some 3)] false))]) (.tr [3])) (.seq (.seq (.ops [(.u (.mov 12 (.s 3))), (.u (.call 13 (.c (.clo 86 [])) [(.s 12)] [(some 3)] false)), (.u (.mov 2 (.s 13)))]) (.tr [2])) .ret))))
def rsCMembers : List RV := [(.t 2)]
theorem irCMembers : fnIR Tryd.prog WCMembers 46 = some (icCMembers, rsCMembers) := by kernel_rfl
def spCMembers : FSpec := fun args h nx K => match args with
  | [.agg [.int .i64 e, .dat (.slice t) o, .dat (.slice t') n]] => t = 3 ∧ t' = 3 ∧ o.l.length ≤ 1000 ∧ n.l.length ≤ 1000 ∧ K (.dat (.slice 3) (.list (joinL o.l n.l))) h
  | _ => False
set_option maxHeartbeats 4000000 in
set_option maxRecDepth 8000 in
theorem vCMembers {E : Nat → Value} (hE : Errs2 Tryd.prog (some 184) E) : Valid Tryd.prog E (gs []) 46 spCMembers := by
  refine valid_go (W := WCMembers) hE (((allValid_bot.add (up (vConcat hE))).add (up (vSort hE))).add (up (vCompact hE))) irCMembers (by decide) (fun args h nx K hsp hok hnm => ?_)
  unfold spCMembers at hsp
  split at hsp
  · rename_i e t o t' n
    obtain ⟨rfl, rfl, ho9, hn9, hK⟩ := hsp
    refine ⟨by simp [WCMembers, mkW, mkWE, mkWF], fun Q hQ => ?_⟩
    obtain ⟨⟨_, ho, hn, _⟩, _⟩ := hok
    simp only [SV.ok] at ho hn
    obtain ⟨ho1, ho2, ho3⟩ := Wt.slice ho; generalize o.l = xs at *; subst ho1
    obtain ⟨hn1, hn2, hn3⟩ := Wt.slice hn; generalize n.l = ys at *; subst hn1
    have ec : catL [D.list xs, D.list ys] = xs ++ ys := by simp [catL, D.l]
    have hj := joinL_len xs ys
    have hsl : (sortL (xs ++ ys)).length = xs.length + ys.length := by rw [sortL_len, List.length_append]
    have hxy : (xs ++ ys).length = xs.length + ys.length := List.length_append
    simp (maxSteps := 4000000) only [icCMembers, go_sem, goD_calls, eq_self, implies_true, Int.reduceEq, Int.reduceBEq, Int.reduceBNe, Int.reduceLE, Int.reduceLT, Int.reduceAdd, Int.reduceSub, Int.reduceMul, Int.reduceNeg, Nat.reduceMul, Nat.reduceSub, Nat.reduceLeDiff, Nat.reduceLT, Nat.reduceEqDiff, Nat.reduceAdd, reduceCtorEq, ↓reduceIte, reduceIte, spConcat, spSort, spCompact, ec, nOk_c, nL_c, hsl, hxy]
    have ej : compL (sortL (xs ++ ys)) = joinL xs ys := rfl
    simp only [ej]
    refine ⟨by omega, by omega, by omega, ?_⟩
    refine (hQ _ ?_).1
    refine fin_new (p := True ∧ True) (xs := [.vec (nx + 1 + 1 + 64 + 64)]) rfl ⟨trivial, trivial⟩ (.frz (nx + 1 + 1 + 64 + 64) (.refl _)) [] (.dat (.slice 3) (.list (joinL xs ys))) [] (by simp) (by simp) (by simp) ?_ trivial rfl (by simp) (by simp) hnm ?_ hK
    · simp only [mkR, go_sem, goD_calls, eq_self, implies_true, Int.reduceEq, Int.reduceBEq, Int.reduceBNe, Int.reduceLE, Int.reduceLT, Int.reduceAdd, Int.reduceSub, Int.reduceMul, Int.reduceNeg, Nat.reduceMul, Nat.reduceSub, Nat.reduceLeDiff, Nat.reduceLT, Nat.reduceEqDiff, Nat.reduceAdd, reduceCtorEq, ↓reduceIte, reduceIte, SV.ren, SV.renL, rens]
    · simp only [mkR, go_sem, goD_calls, eq_self, implies_true, Int.reduceEq, Int.reduceBEq, Int.reduceBNe, Int.reduceLE, Int.reduceLT, Int.reduceAdd, Int.reduceSub, Int.reduceMul, Int.reduceNeg, Nat.reduceMul, Nat.reduceSub, Nat.reduceLeDiff, Nat.reduceLT, Nat.reduceEqDiff, Nat.reduceAdd, reduceCtorEq, ↓reduceIte, reduceIte] <;> ((try simp only []); repeat first | exact HLe.refl _ | refine HLe.cons (by simp only [hget, Nat.reduceEqDiff, Nat.left_eq_add, Nat.add_eq_left, nm_ne2, nm_en2, nm_ne3, nm_en3, nm_ne4, nm_en4, nm_ne5, nm_en5, reduceIte, ↓reduceIte] <;> first | rfl | ((repeat rw [if_neg (by omega)]) <;> rfl)) ?_ | refine HLe.skip hnm (by omega) ?_ | refine HLe.frz hnm (by omega) ?_ | refine HLe.del hnm (by omega) ?_)
  · exact hsp.elim

/-- Which nodes are enough: nothing, or so many of the old ones, and of the new. -/
def enoughQ (e : Int) (o n : List D) (k : Int) (both : Bool) : Option (QP × List D × Int) :=
  if (validC e o n).isNil = false then none
  else if n.length = 0 ∨ both = false then some (QP.of k (sD o), (sD o).map D.int, 1)
  else some (QP.an (QP.of k (sD o)) (QP.of k (sD n)), joinL ((sD o).map D.int) ((sD n).map D.int), 2)
def setV : Option (QP × List D × Int) → SV
  | none => qNone
  | some (q, l, n) => setOf q.enc l n
theorem joinL_int (a b : List D) : ∃ l : List Int, joinL a b = l.map D.int := ⟨_, rfl⟩
theorem compact_full {z : List Int} (h : (Lib.compact z).length = z.length) : ∀ i, 0 < i → i < z.length → z.getD i 0 ≠ z.getD (i - 1) 0 := by
  intro i h0 hi
  unfold Lib.compact Lib.compactUpTo at h
  rw [List.length_map] at h
  have h2 := List.length_filter_eq_length_iff (l := List.range z.length) (p := Lib.keeps z.toArray)
  rw [List.length_range] at h2
  have h3 := h2.1 h i (List.mem_range.2 hi)
  intro he
  have hk := Lib.keeps_neg (d := z.toArray) (m := i) h0 (by
    rw [List.getD_eq_getElem?_getD, List.getD_eq_getElem?_getD, List.getElem?_eq_getElem hi, List.getElem?_eq_getElem (by omega)] at he
    simp only [Option.getD_some] at he
    rw [getElem!_pos z.toArray i (by simpa using hi), getElem!_pos z.toArray (i - 1) (by simp; omega)]
    simpa using he)
  rw [hk] at h3
  cases h3
theorem badI_false {l : List D} (h : badI l = false) : ∀ x ∈ l, 0 ≤ x.i ∧ x.i < 64 := by
  intro x hx
  unfold badI at h
  rw [List.any_eq_false] at h
  have := h x hx
  unfold nodeB at this
  simp at this
  exact this
theorem six_good {l : List D} (h : badI l = false) (h6 : sixB l = true) : l.length = 6 ∧ goodN (sD l) := by
  unfold sixB at h6
  rw [Bool.and_eq_true, beq_iff_eq, beq_iff_eq] at h6
  refine ⟨h6.1, fun i hi => ?_⟩
  rw [sD_len] at hi
  have hm : (sD l).getD i 0 ∈ l.map D.i := by
    have : (sD l).getD i 0 ∈ sD l := by
      rw [List.getD_eq_getElem?_getD, List.getElem?_eq_getElem (by rw [sD_len]; exact hi)]
      exact List.getElem_mem _
    exact (sortI_perm _).mem_iff.1 this
  obtain ⟨x, hx, hxe⟩ := List.mem_map.1 hm
  have hr := badI_false h x hx
  rw [hxe] at hr
  refine ⟨hr.1, hr.2, fun h0 => ?_⟩
  have hc : (Lib.compact (sD l)).length = (sD l).length := by
    have h7 := h6.2
    unfold compL at h7
    rw [sortL_iL, List.length_map, List.map_map] at h7
    have : (D.i ∘ D.int : Int → Int) = id := rfl
    rw [this, List.map_id] at h7
    rw [h7, sD_len, h6.1]
  exact compact_full hc i h0 (by rw [sD_len]; exact hi)
theorem valid_good {e : Int} {o n : List D} (h : (validC e o n).isNil = true) : badI o = false ∧ badI n = false ∧ sixB o = true ∧ (0 < n.length → sixB n = true) ∧ 0 ≤ e ∧ e ≤ 1073741824 := by
  unfold validC at h
  split at h
  · cases h
  · rename_i h1
    split at h
    · cases h
    · rename_i h2
      refine ⟨by rcases bool_ft (badI o) with h | h; exact h; exact absurd (.inr (.inr (.inl h))) h1, by rcases bool_ft (badI n) with h | h; exact h; exact absurd (.inr (.inr (.inr h))) h1, by rcases bool_ft (sixB o) with h | h; exact absurd (.inl h) h2; exact h, fun hn => by rcases bool_ft (sixB n) with h | h; exact absurd (.inr ⟨hn, .inl h⟩) h2; exact h, ?_, ?_⟩
      · apply Int.not_lt.1; intro h; exact h1 (.inl h)
      · apply Int.not_lt.1; intro h; exact h1 (.inr (.inl h))
end Go.Proofs.YtkojpimkngmckaaDoor
