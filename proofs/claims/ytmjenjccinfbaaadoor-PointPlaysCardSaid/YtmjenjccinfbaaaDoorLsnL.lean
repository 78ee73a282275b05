/- Chapter 16: LsnLimit, LsnSpans, LsnEnd. -/
import Derived.Test.YtmjenjccinfbaaaDoorLsnA
import Derived.Test.YtmjenjccinfbaaaDoorInts
import Derived.Test.YtmjenjccinfbaaaDoorNum
namespace Go.Proofs.YtmjenjccinfbaaaDoor
set_option linter.unusedVariables false
set_option linter.unusedSimpArgs false
open Go Go.Fw
attribute [local go_sem] walkSet evMdl evMupD evMup evLkp frpL eltP eltV eltK preF preP prePt prePd frzP evNlq ev frOf oget ogets argSs argS evCat evMm frzL evBin evWrp evShf evCmp evUna evNil evBeq evLd evSt evFad evIad evAad evLen evSln evEls evApp evParts evSlc evNlc evMif evPck evFld evBld evTas evIfq evSeq evSl0 evBxf evAgl evAgq evBsf hget hset hdel cellAt arrAt setCellAt setArrAt takeC lenC svCells SV.okc SV.one ldSV Fw.isAgg explode explodeL toD toDL toD1 Ty.size Ty.sizeL frz1 Fr.sub Heap.sub Tok.sub SV.sub SV.subL

theorem nextF_none (n : Int) : nextF [] n = n + 1 := nextF_eq ⟨by omega, by simp, fun k h1 h2 => by omega⟩
theorem seqN_none (a : Int) : ∀ k : Nat, seqN [] a k = a + k
  | 0 => by simp [seqN]
  | k + 1 => by rw [seqN_succ, seqN_none a k, nextF_none]; omega
theorem validD_none : validD [] = .nil := validD_nil (by simp) (by simp)
theorem topF_none : topF [] = 0 := rfl
theorem loT_none : loT [] = True := eq_true (by intro s hs; simp at hs)
/-- What may be given, and how many could be. -/
theorem roomF_spec (l : List D) (a vdl : Int) : roomF l a vdl ≤ 512 ∧ (∀ j, j < roomF l a vdl → (fitsD l (seqN l a (j + 1)) vdl).isNil = true) ∧ (roomF l a vdl = 512 ∨ (fitsD l (seqN l a (roomF l a vdl + 1)) vdl).isNil = false) := by
  unfold roomF
  cases h : (List.range 512).find? fun k => !(fitsD l (seqN l a (k + 1)) vdl).isNil with
  | none =>
    rw [List.find?_eq_none] at h
    refine ⟨Nat.le_refl _, fun j hj => ?_, .inl rfl⟩
    have := h j (List.mem_range.2 hj)
    simpa using this
  | some k =>
    rw [List.find?_eq_some_iff_getElem] at h
    obtain ⟨h1, i, hi, h2, h3⟩ := h
    rw [List.getElem_range] at h2
    subst h2
    simp only [List.length_range] at hi
    refine ⟨by simp only [Option.getD_some]; omega, fun j hj => ?_, .inr (by simpa using h1)⟩
    have := h3 j hj
    rw [List.getElem_range] at this
    simpa using this
theorem seqN_mono (l : List D) (a : Int) {i j : Nat} (h : i ≤ j) : seqN l a i ≤ seqN l a j := by
  induction j with
  | zero => obtain rfl : i = 0 := by omega
            exact Int.le_refl _
  | succ j ih =>
    by_cases e : i = j + 1
    · subst e; exact Int.le_refl _
    · have := ih (by omega); have := seqN_lt l a j; omega
theorem give_room {l : List D} {a vdl : Int} {n : Nat} (h1 : 1 ≤ n) (h2 : n ≤ 512) : (fitsD l (seqN l a n) vdl).isNil = decide ((n : Int) ≤ (roomF l a vdl : Int)) := by
  obtain ⟨k1, k2, k3⟩ := roomF_spec l a vdl
  by_cases h : n ≤ roomF l a vdl
  · have := k2 (n - 1) (by omega)
    rw [show n - 1 + 1 = n from by omega] at this
    rw [this, eq_comm, decide_eq_true_eq]; omega
  · rw [show decide ((n : Int) ≤ (roomF l a vdl : Int)) = false from decide_eq_false (by omega)]
    rcases k3 with k3 | k3
    · omega
    · rw [fits_not] at k3 ⊢
      have := seqN_mono l a (i := roomF l a vdl + 1) (j := n) (by omega)
      omega
theorem fits_lim {l : List D} {n vdl : Int} (h : n ≤ 1099511627776) (h2 : (fitsD l n vdl).isNil = false) : fitsD l n vdl = .err 4 := by
  rw [fits_not] at h2
  unfold fitsD
  rw [if_neg (by omega), if_pos (by omega)]
theorem nil_eq {e : D} (h : e.isNil = true) : e = .nil := by cases e <;> simp_all [D.isNil]

def WFirst16 : Opts := mkWE 32 [] [0, 1, 2, 3, 4] [] 171 [0, 1, 2, 3, 4] []
def icFirst16 : IC := (.seq (.seq (.ops [(.u (.mov 0 (.c (.bool false))))]) (.tr [])) (.seq (.seq (.ops [(.u (.call 6 (.c (.clo 26 [])) [(.c (.int .i64 0)), (.c .nils)] [none, (some 41)] true)), (.u (.mov 5 (.s 6))), (.u (.ext 7 0 (.s 5))), (.u (.ext 8 1 (.s 5))), (.u (.mov 1 (.s 7))), (.u (.mov 2 (.s 8)))]) (.tr [2, 1])) (.seq (.seq (.seq (.ops [(.u (.mov 9 (.s 1))), (.u (.eqb 10 false 1 (.s 9))), (.u (.mov 11 (.s 10))), (.g 11 false (some 12) (.mov 12 (.s 2))), (.g 11 false (some 13) (.eqb 13 true 0 (.s 12))), (.u (.pck 14 (.s 11) (.c (.bool true)) (.s 13)))]) (.tr [14, 1])) (.cond (.s 14) (.seq (.seq (.ops [(.u (.mov 0 (.c (.bool false))))]) (.tr [0])) .ret) .skip)) (.seq (.seq (.ops [(.u (.mov 16 (.s 1))), (.u (.call 17 (.c (.clo 32 [])) [(.s 16), (.c (.int .i64 2)), (.c (.int .i64 0))] [none, none, none] true)), (.u (.mov 15 (.s 17))), (.u (.ext 18 0 (.s 15))), (.u (.ext 19 1 (.s 15))), (.u (.mov 3 (.s 18))), (.u (.mov 4 (.s 19)))]) (.tr [4, 3, 1])) (.seq (.seq (.ops [(.u (.mov 20 (.s 4))), (.u (.eqb 21 false 0 (.s 20))), (.u (.mov 22 (.s 21))), (.g 22 true (some 23) (.mov 23 (.s 3))), (.g 22 true (some 24) (.bsl 24 2 (.int .i64) [(.c (.int .i64 1)), (.c (.int .i64 2))])), (.g 22 true (some 25) (.call 25 (.c (.clo 34 [])) [(.s 23), (.s 24)] [(some 2), (some 2)] true)), (.u (.pck 26 (.s 22) (.s 25) (.c (.bool false)))), (.u (.mov 27 (.s 26))), (.g 27 true (some 28) (.mov 28 (.s 1))), (.g 27 true (some 29) (.call 29 (.c (.clo 35 [])) [(.s 28)] [none] true)), (.g 27 true (some 30) (.cmp 30 .eql (.s 29) (.c (.int .i64 2)))), (.u (.pck 31 (.s 27) (.s 30) (.c (.bool false)))), (.u (.mov 0 (.s 31)))]) (.tr [0])) .ret)))))
def rsFirst16 : List RV := [(.t 0)]
theorem irFirst16 : fnIR Tryd.prog WFirst16 25 = some (icFirst16, rsFirst16) := by kernel_rfl
abbrev GL6 : List Nat := [0, 1, 2, 3, 4]
def spFirst16 : FSpec := fun args h nx K => match args with
  | [] => K (.bool true) h
  | _ => False
set_option maxHeartbeats 4000000 in
set_option maxRecDepth 8000 in
theorem vFirst16 {E : Nat → Value} (hE : Errs2 Tryd.prog (some 171) E) : Valid Tryd.prog E (gs GL6) 25 spFirst16 := by
  refine valid_go (W := WFirst16) hE ((((allValid_bot.add (up (vLNew hE))).add (up (vLGive hE))).add (up (vSameLongs hE))).add (up (vLLast hE))) irFirst16 (by decide) (fun args h nx K hsp hok hnm => ?_)
  unfold spFirst16 at hsp
  split at hsp
  · refine ⟨by simp [WFirst16, mkW, mkWE, mkWF], fun Q hQ => ?_⟩
    have e1 : seqN [] 0 2 = 2 := by rw [seqN_none]; rfl
    have e2 : (fitsD [] 2 0).isNil = true := by rw [fits_nil]; exact ⟨by omega, by rw [topF_none]; omega⟩
    have e3 : seqL [] 0 2 = [.int 1, .int 2] := by
      simp [seqL, seqN_none, List.range_succ]
    have e4 : (Int.toNat 2) = 2 := rfl
    simp (maxSteps := 4000000) only [icFirst16, go_sem, goD_calls, eq_self, implies_true, Int.reduceEq, Int.reduceBEq, Int.reduceBNe, Int.reduceLE, Int.reduceLT, Int.reduceAdd, Int.reduceSub, Int.reduceMul, Int.reduceNeg, Nat.reduceMul, Nat.reduceSub, Nat.reduceLeDiff, Nat.reduceLT, Nat.reduceEqDiff, Nat.reduceAdd, reduceCtorEq, ↓reduceIte, reduceIte, spLNew, spLGive, spLLast, spSameLongs, gTok_def, gOk_c, gS_c, gL_c, validD_none, loT_none, e1, e2, e3, e4, sameD_refl, List.getElem?_cons_zero, List.getElem?_cons_succ]
    refine (hQ _ ?_).1
    exact fin_t (.bool _) rfl rfl hnm (by ((try simp only []); repeat first | exact HLe.refl _ | refine HLe.cons (by simp only [hget, Nat.reduceEqDiff, Nat.left_eq_add, Nat.add_eq_left, nm_ne2, nm_en2, nm_ne3, nm_en3, nm_ne4, nm_en4, nm_ne5, nm_en5, reduceIte, ↓reduceIte] <;> first | rfl | ((repeat rw [if_neg (by omega)]) <;> rfl)) ?_ | refine HLe.skip hnm (by omega) ?_ | refine HLe.frz hnm (by omega) ?_ | refine HLe.del hnm (by omega) ?_)) hsp
  · exact hsp.elim
end Go.Proofs.YtmjenjccinfbaaaDoor
