/- Chapter 15: New. -/
import Derived.Test.YtmjenjccinfbaaaDoorPntB
namespace Go.Proofs.YtmjenjccinfbaaaDoor
set_option linter.unusedVariables false
set_option linter.unusedSimpArgs false
open Go Go.Fw
attribute [local go_sem] walkSet evMdl evMupD evMup evLkp frpL eltP eltV eltK preF preP prePt prePd frzP evNlq ev frOf oget ogets argSs argS evCat evMm frzL evBin evWrp evShf evCmp evUna evNil evBeq evLd evSt evFad evIad evAad evLen evSln evEls evApp evParts evSlc evNlc evMif evPck evFld evBld evTas evIfq evSeq evSl0 evBxf evAgl evAgq evBsf hget hset hdel cellAt arrAt setCellAt setArrAt takeC lenC svCells SV.okc SV.one ldSV Fw.isAgg explode explodeL toD toDL toD1 Ty.size Ty.sizeL frz1 Fr.sub Heap.sub Tok.sub SV.sub SV.subL

def spSCloneF : FSpec := fun args h nx K => match args with
  | [.dat (.slice 41) d] => d.l.length ≤ 1000000000 ∧ K (.dat (.slice 41) (.list d.l)) h
  | _ => False
def WSCloneF : Opts := mkWE 8 [] [] [] 171 [] []
def icSCloneF : IC := (.seq (.seq (.ops [(.u (.mov 2 (.c .nils)))]) (.tr [0])) (.seq (.seq (.seq (.ops [(.u (.mov 3 (.s 0))), (.u (.nlq 4 false (.s 3)))]) (.tr [4, 0])) (.cond (.s 4) (.seq (.seq (.ops [(.u (.mov 2 (.c .nils)))]) (.tr [2])) .ret) .skip)) (.seq (.seq (.ops [(.u (.bsl 5 41 (.strct [(.int .i64), (.int .i64), (.int .i64)]) [])), (.u (.mov 6 (.s 0))), (.u (.app 7 41 (.strct [(.int .i64), (.int .i64), (.int .i64)]) 24 (.s 5) (.s 6))), (.u (.mov 2 (.s 7)))]) (.tr [2])) .ret)))
def rsSCloneF : List RV := [(.t 2)]
theorem irSCloneF : fnIR Tryd.prog WSCloneF 62 = some (icSCloneF, rsSCloneF) := by kernel_rfl
set_option maxHeartbeats 4000000 in
set_option maxRecDepth 8000 in
theorem vSCloneF {E : Nat → Value} (hE : Errs2 Tryd.prog (some 171) E) : Valid Tryd.prog E (gs []) 62 spSCloneF := by
  refine valid_go (W := WSCloneF) hE allValid_bot irSCloneF (by decide) (fun args h nx K hsp hok hnm => ?_)
  unfold spSCloneF at hsp
  split at hsp
  · rename_i d
    obtain ⟨hlen, hsp⟩ := hsp
    refine ⟨by simp [WSCloneF, mkW, mkWE, mkWF], fun Q hQ => ?_⟩
    simp (maxSteps := 4000000) only [icSCloneF, go_sem, goD_calls, eq_self, implies_true, Int.reduceEq, Int.reduceBEq, Int.reduceBNe, Int.reduceLE, Int.reduceLT, Int.reduceAdd, Int.reduceSub, Int.reduceMul, Int.reduceNeg, Nat.reduceMul, Nat.reduceSub, Nat.reduceLeDiff, Nat.reduceLT, Nat.reduceEqDiff, Nat.reduceAdd, reduceCtorEq, ↓reduceIte, reduceIte]
    intro b hb
    refine ⟨fun hc => ?_, fun hc => ⟨by (try simp only [List.length_nil]) <;> omega, ?_⟩⟩
    · have hl : d.l = [] := hb hc
      rw [hl] at hsp
      refine (hQ _ ?_).1
      refine fin_new (p := True ∧ True) (xs := [.nils]) rfl ⟨trivial, trivial⟩ (.slot 0 41 spanT rfl (.frz nx (.refl _))) [] (.dat (.slice 41) (.list [])) [] (by simp) (by simp) (by simp) ?_ trivial rfl (by simp) (by simp) hnm ?_ hsp
      · simp only [mkR, go_sem, goD_calls, eq_self, implies_true, Int.reduceEq, Int.reduceBEq, Int.reduceBNe, Int.reduceLE, Int.reduceLT, Int.reduceAdd, Int.reduceSub, Int.reduceMul, Int.reduceNeg, Nat.reduceMul, Nat.reduceSub, Nat.reduceLeDiff, Nat.reduceLT, Nat.reduceEqDiff, Nat.reduceAdd, reduceCtorEq, ↓reduceIte, reduceIte, SV.ren, SV.renL, rens]
      · simp only [mkR, go_sem, goD_calls, eq_self, implies_true, Int.reduceEq, Int.reduceBEq, Int.reduceBNe, Int.reduceLE, Int.reduceLT, Int.reduceAdd, Int.reduceSub, Int.reduceMul, Int.reduceNeg, Nat.reduceMul, Nat.reduceSub, Nat.reduceLeDiff, Nat.reduceLT, Nat.reduceEqDiff, Nat.reduceAdd, reduceCtorEq, ↓reduceIte, reduceIte] <;> ((try simp only []); repeat first | exact HLe.refl _ | refine HLe.cons (by simp only [hget, Nat.reduceEqDiff, Nat.left_eq_add, Nat.add_eq_left, nm_ne2, nm_en2, nm_ne3, nm_en3, nm_ne4, nm_en4, nm_ne5, nm_en5, reduceIte, ↓reduceIte] <;> first | rfl | ((repeat rw [if_neg (by omega)]) <;> rfl)) ?_ | refine HLe.skip hnm (by omega) ?_ | refine HLe.frz hnm (by omega) ?_ | refine HLe.del hnm (by omega) ?_)
    · refine (hQ _ ?_).1
      refine fin_new (p := True ∧ True) (xs := [.vec (nx + 1)]) rfl ⟨trivial, trivial⟩ (.frz (nx + 1) (.refl _)) [] (.dat (.slice 41) (.list d.l)) [] (by simp) (by simp) (by simp) ?_ trivial rfl (by simp) (by simp) hnm ?_ hsp
      · simp only [mkR, go_sem, goD_calls, eq_self, implies_true, Int.reduceEq, Int.reduceBEq, Int.reduceBNe, Int.reduceLE, Int.reduceLT, Int.reduceAdd, Int.reduceSub, Int.reduceMul, Int.reduceNeg, Nat.reduceMul, Nat.reduceSub, Nat.reduceLeDiff, Nat.reduceLT, Nat.reduceEqDiff, Nat.reduceAdd, reduceCtorEq, ↓reduceIte, reduceIte, SV.ren, SV.renL, rens]
      · simp only [mkR, go_sem, goD_calls, eq_self, implies_true, Int.reduceEq, Int.reduceBEq, Int.reduceBNe, Int.reduceLE, Int.reduceLT, Int.reduceAdd, Int.reduceSub, Int.reduceMul, Int.reduceNeg, Nat.reduceMul, Nat.reduceSub, Nat.reduceLeDiff, Nat.reduceLT, Nat.reduceEqDiff, Nat.reduceAdd, reduceCtorEq, ↓reduceIte, reduceIte] <;> ((try simp only []); repeat first | exact HLe.refl _ | refine HLe.cons (by simp only [hget, Nat.reduceEqDiff, Nat.left_eq_add, Nat.add_eq_left, nm_ne2, nm_en2, nm_ne3, nm_en3, nm_ne4, nm_en4, nm_ne5, nm_en5, reduceIte, ↓reduceIte] <;> first | rfl | ((repeat rw [if_neg (by omega)]) <;> rfl)) ?_ | refine HLe.skip hnm (by omega) ?_ | refine HLe.frz hnm (by omega) ?_ | refine HLe.del hnm (by omega) ?_)
  · exact hsp.elim

theorem valid_len {l : List D} (h : (validD l).isNil = true) : l.length ≤ 64 := by
  apply Nat.not_lt.1
  intro hlt
  rw [validD_many hlt] at h
  simp [D.isNil] at h
abbrev GPN : List Nat := [0, 1, 2]
def WPNew : Opts := mkWF 38 [] [0, 1, 2] [30] 171 [0, 1, 2] [] [] [30]
def icPNew : IC := (.seq (.seq (.ops [(.u (.mov 6 (.c (.raw (.pointer none))))), (.u (.mov 7 (.c (.dat .iface .nil))))]) (.tr [2, 0, 1])) (.seq (.seq (.seq (.ops [(.u (.mov 9 (.s 0))), (.u (.cmp 10 .lss (.s 9) (.c (.int .i64 1)))), (.u (.mov 11 (.s 10))), (.g 11 false (some 12) (.mov 12 (.s 0))), (.g 11 false (some 13) (.cmp 13 .gtr (.s 12) (.c (.int .i64 4)))), (.u (.pck 14 (.s 11) (.c (.bool true)) (.s 13))), (.u (.mov 15 (.s 14))), (.g 15 false (some 16) (.mov 16 (.s 1))), (.g 15 false (some 17) (.cmp 17 .lss (.s 16) (.c (.int .i64 0)))), (.u (.pck 18 (.s 15) (.c (.bool true)) (.s 17))), (.u (.mov 19 (.s 18))), (.g 19 false (some 20) (.mov 20 (.s 1))), (.g 19 false (some 21) (.cmp 21 .gtr (.s 20) (.c (.int .i64 1099511627776)))), (.u (.pck 22 (.s 19) (.c (.bool true)) (.s 21)))]) (.tr [22, 2, 0, 1])) (.cond (.s 22) (.seq (.seq (.rgn [] [(false, (.u (.gld 23 0))), (false, (.u (.mov 6 (.c (.raw (.pointer none)))))), (false, (.u (.mov 7 (.s 23))))]) (.tr [6, 7])) .ret) .skip)) (.seq (.seq (.seq (.ops [(.u (.mov 24 (.s 2))), (.u (.call 25 (.c (.clo 61 [])) [(.s 24)] [(some 41)] true)), (.u (.mov 8 (.s 25)))]) (.tr [8, 2, 0, 1])) (.seq (.seq (.ops [(.u (.mov 26 (.s 8))), (.u (.eqb 27 true 0 (.s 26)))]) (.tr [27, 8, 2, 0, 1])) (.cond (.s 27) (.seq (.seq (.ops [(.u (.mov 28 (.s 8))), (.u (.mov 6 (.c (.raw (.pointer none))))), (.u (.mov 7 (.s 28)))]) (.tr [6, 7])) .ret) .skip))) (.seq (.seq (.rgn [] [(false, (.u (.mov 29 (.s 2)))), (false, (.u (.mov 31 (.s 1)))), (false, (.u (.mov 32 (.s 0)))), (false, (.u (.mov 34 (.s 1)))), (false, (.u (.mov 35 (.s 1)))), (true, (.u (.call 30 (.c (.clo 62 [])) [(.s 29)] [(some 41)] false))), (false, (.u (.mk 33 2 (.int .i64) 8 (.int 0) (.s 32) (.s 32)))), (false, (.u (.bld 36 [[.nils], [.nils], [(.int .i64 0)], [.nils], [(.int .i64 0)], [(.int .i64 0)], [(.int .i64 0)]] [(0, (.s 30)), (2, (.s 31)), (3, (.s 33)), (5, (.s 34)), (6, (.s 35))]))), (false, (.u (.box 37 0 (.s 36)))), (false, (.u (.mov 6 (.s 37)))), (false, (.u (.mov 7 (.c (.dat .iface .nil)))))]) (.tr [6, 7])) .ret))))
def rsPNew : List RV := [(.t 6), (.t 7)]
theorem irPNew : fnIR Tryd.prog WPNew 16 = some (icPNew, rsPNew) := by kernel_rfl
def zeros (n : Nat) : List D := List.replicate n (.int 0)
def spPNew : FSpec := fun args h nx K => match args with
  | [.int .i64 g, .int .i64 a, .dat (.slice 41) d] =>
      (¬ ((1 ≤ g ∧ g ≤ 4) ∧ (0 ≤ a ∧ a ≤ 1099511627776)) → K (.tup [.raw (.pointer none), .dat .iface (.err 0)]) h) ∧
      ((1 ≤ g ∧ g ≤ 4) ∧ (0 ≤ a ∧ a ≤ 1099511627776) → (validD d.l).isNil = false → K (.tup [.raw (.pointer none), .dat .iface (validD d.l)]) h) ∧
      ((1 ≤ g ∧ g ≤ 4) ∧ (0 ≤ a ∧ a ≤ 1099511627776) → (validD d.l).isNil = true → K (.tup [.ptr nx 0, .dat .iface .nil]) ((nx, ptC d.l (nx + 1) a (nx + 2) 0 a a) :: (nx + 1, .arr 112 sentT []) :: (nx + 2, .arr 2 (.int .i64) (zeros g.toNat)) :: h))
  | _ => False
set_option maxHeartbeats 4000000 in
set_option maxRecDepth 8000 in
theorem vPNew {E : Nat → Value} (hE : Errs2 Tryd.prog (some 171) E) : Valid Tryd.prog E (gs GPN) 16 spPNew := by
  refine valid_go (W := WPNew) hE ((allValid_bot.add (up (vSValid hE))).add (up (vSCloneF hE))) irPNew (by decide) (fun args h nx K hsp hok hnm => ?_)
  unfold spPNew at hsp
  split at hsp
  · rename_i g a d
    obtain ⟨hrange, hbad, hok1⟩ := hsp
    refine ⟨by simp [WPNew, mkW, mkWE, mkWF], fun Q hQ => ?_⟩
    obtain ⟨_, _, hd, _⟩ := hok
    simp only [SV.ok] at hd
    obtain ⟨hd1, hd2, hd3⟩ := Wt.slice hd; generalize d.l = l at *; subst hd1
    have hml : maxLen ≤ 9223372036854775807 := by decide
    by_cases hr : (1 ≤ g ∧ g ≤ 4) ∧ (0 ≤ a ∧ a ≤ 1099511627776)
    · have c1 : decide (g < 1) = false := decide_eq_false (by omega)
      have c2 : decide (4 < g) = false := decide_eq_false (by omega)
      have c3 : decide (a < 0) = false := decide_eq_false (by omega)
      have c4 : decide (1099511627776 < a) = false := decide_eq_false (by omega)
      cases hv : (validD l).isNil with
      | false =>
        simp (maxSteps := 4000000) only [icPNew, go_sem, goD_calls, eq_self, implies_true, Int.reduceEq, Int.reduceBEq, Int.reduceBNe, Int.reduceLE, Int.reduceLT, Int.reduceAdd, Int.reduceSub, Int.reduceMul, Int.reduceNeg, Nat.reduceMul, Nat.reduceSub, Nat.reduceLeDiff, Nat.reduceLT, Nat.reduceEqDiff, Nat.reduceAdd, reduceCtorEq, ↓reduceIte, reduceIte, spSValid, c1, c2, c3, c4, hv]
        refine (hQ _ ?_).1
        exact fin_t2 _ _ rfl rfl rfl rfl hnm (by ((try simp only []); repeat first | exact HLe.refl _ | refine HLe.cons (by simp only [hget, Nat.reduceEqDiff, Nat.left_eq_add, Nat.add_eq_left, nm_ne2, nm_en2, nm_ne3, nm_en3, nm_ne4, nm_en4, nm_ne5, nm_en5, reduceIte, ↓reduceIte] <;> first | rfl | ((repeat rw [if_neg (by omega)]) <;> rfl)) ?_ | refine HLe.skip hnm (by omega) ?_ | refine HLe.frz hnm (by omega) ?_ | refine HLe.del hnm (by omega) ?_)) (hbad hr hv)
      | true =>
        have g1 : l.length ≤ 1000000000 := by have := valid_len hv; omega
        simp (maxSteps := 4000000) only [icPNew, go_sem, goD_calls, eq_self, implies_true, Int.reduceEq, Int.reduceBEq, Int.reduceBNe, Int.reduceLE, Int.reduceLT, Int.reduceAdd, Int.reduceSub, Int.reduceMul, Int.reduceNeg, Nat.reduceMul, Nat.reduceSub, Nat.reduceLeDiff, Nat.reduceLT, Nat.reduceEqDiff, Nat.reduceAdd, reduceCtorEq, ↓reduceIte, reduceIte, spSValid, c1, c2, c3, c4, hv]
        refine ⟨.dat (.slice 41) (.list l), fun nx' => ⟨g1, rfl, rfl⟩, trivial, ?_⟩
        simp (maxSteps := 4000000) only [go_sem, goD_calls, eq_self, implies_true, Int.reduceEq, Int.reduceBEq, Int.reduceBNe, Int.reduceLE, Int.reduceLT, Int.reduceAdd, Int.reduceSub, Int.reduceMul, Int.reduceNeg, Nat.reduceMul, Nat.reduceSub, Nat.reduceLeDiff, Nat.reduceLT, Nat.reduceEqDiff, Nat.reduceAdd, reduceCtorEq, ↓reduceIte, reduceIte]
        refine ⟨by omega, ?_⟩
        refine (hQ _ (fin_new (p := True ∧ True ∧ True) (xs := [.ptr (nx + 64 + 1) 0, .dat .iface .nil]) rfl ⟨trivial, trivial, trivial⟩ (.cell (nx + 64 + 1) 1 112 sentT (by simp only [hget, ↓reduceIte]; rfl) rfl rfl (.refl _)) [(nx, nx + 64 + 1), (nx + 1, nx + 64 + 1 + 1), (nx + 2, nx + 64)] (.tup [.ptr nx 0, .dat .iface .nil]) [(nx, ptC l (nx + 1) a (nx + 2) 0 a a), (nx + 1, .arr 112 sentT []), (nx + 2, .arr 2 (.int .i64) (zeros g.toNat))] (by simp) (by simp; omega) (by simp <;> omega) ?_ ?_ rfl ?_ ?_ hnm ?_ (hok1 hr hv))).1
        · simp only [mkR, go_sem, goD_calls, eq_self, implies_true, Int.reduceEq, Int.reduceBEq, Int.reduceBNe, Int.reduceLE, Int.reduceLT, Int.reduceAdd, Int.reduceSub, Int.reduceMul, Int.reduceNeg, Nat.reduceMul, Nat.reduceSub, Nat.reduceLeDiff, Nat.reduceLT, Nat.reduceEqDiff, Nat.reduceAdd, reduceCtorEq, ↓reduceIte, reduceIte, SV.ren, SV.renL, rens]
        · exact ⟨show nx < nx + 64 by omega, trivial, trivial⟩
        · simp only [ptC, List.mem_cons, List.mem_singleton, List.not_mem_nil, or_false, forall_eq_or_imp, forall_eq, Tok.lt, SV.ltL, SV.lt, and_true, true_and]; omega
        · simp only [mkR, go_sem, goD_calls, eq_self, implies_true, Int.reduceEq, Int.reduceBEq, Int.reduceBNe, Int.reduceLE, Int.reduceLT, Int.reduceAdd, Int.reduceSub, Int.reduceMul, Int.reduceNeg, Nat.reduceMul, Nat.reduceSub, Nat.reduceLeDiff, Nat.reduceLT, Nat.reduceEqDiff, Nat.reduceAdd, reduceCtorEq, ↓reduceIte, reduceIte, rens, ptC, zeros, List.mem_cons, List.mem_singleton, List.not_mem_nil, or_false, forall_eq_or_imp, forall_eq, Tok.ren, SV.ren, SV.renL]
        · simp only [mkR, go_sem, goD_calls, eq_self, implies_true, Int.reduceEq, Int.reduceBEq, Int.reduceBNe, Int.reduceLE, Int.reduceLT, Int.reduceAdd, Int.reduceSub, Int.reduceMul, Int.reduceNeg, Nat.reduceMul, Nat.reduceSub, Nat.reduceLeDiff, Nat.reduceLT, Nat.reduceEqDiff, Nat.reduceAdd, reduceCtorEq, ↓reduceIte, reduceIte] <;> ((try simp only []); repeat first | exact HLe.refl _ | refine HLe.cons (by simp only [hget, Nat.reduceEqDiff, Nat.left_eq_add, Nat.add_eq_left, nm_ne2, nm_en2, nm_ne3, nm_en3, nm_ne4, nm_en4, nm_ne5, nm_en5, reduceIte, ↓reduceIte] <;> first | rfl | ((repeat rw [if_neg (by omega)]) <;> rfl)) ?_ | refine HLe.skip hnm (by omega) ?_ | refine HLe.frz hnm (by omega) ?_ | refine HLe.del hnm (by omega) ?_)
    · have retE : ∀ h' nx', HLe h h' → Q Ex.ret ⟨[(6, .raw (.pointer none)), (7, .dat .iface (.err 0))], h', nx'⟩ := fun h' nx' hh => by
        refine (hQ _ ?_).1
        exact fin_t2 _ _ rfl rfl rfl rfl hnm hh (hrange hr)
      by_cases h1 : g < 1
      · have c1 : decide (g < 1) = true := decide_eq_true h1
        simp (maxSteps := 4000000) only [icPNew, go_sem, goD_calls, eq_self, implies_true, Int.reduceEq, Int.reduceBEq, Int.reduceBNe, Int.reduceLE, Int.reduceLT, Int.reduceAdd, Int.reduceSub, Int.reduceMul, Int.reduceNeg, Nat.reduceMul, Nat.reduceSub, Nat.reduceLeDiff, Nat.reduceLT, Nat.reduceEqDiff, Nat.reduceAdd, reduceCtorEq, ↓reduceIte, reduceIte, c1]
        exact retE _ _ (by ((try simp only []); repeat first | exact HLe.refl _ | refine HLe.cons (by simp only [hget, Nat.reduceEqDiff, Nat.left_eq_add, Nat.add_eq_left, nm_ne2, nm_en2, nm_ne3, nm_en3, nm_ne4, nm_en4, nm_ne5, nm_en5, reduceIte, ↓reduceIte] <;> first | rfl | ((repeat rw [if_neg (by omega)]) <;> rfl)) ?_ | refine HLe.skip hnm (by omega) ?_ | refine HLe.frz hnm (by omega) ?_ | refine HLe.del hnm (by omega) ?_))
      have c1 : decide (g < 1) = false := decide_eq_false h1
      by_cases h2 : 4 < g
      · have c2 : decide (4 < g) = true := decide_eq_true h2
        simp (maxSteps := 4000000) only [icPNew, go_sem, goD_calls, eq_self, implies_true, Int.reduceEq, Int.reduceBEq, Int.reduceBNe, Int.reduceLE, Int.reduceLT, Int.reduceAdd, Int.reduceSub, Int.reduceMul, Int.reduceNeg, Nat.reduceMul, Nat.reduceSub, Nat.reduceLeDiff, Nat.reduceLT, Nat.reduceEqDiff, Nat.reduceAdd, reduceCtorEq, ↓reduceIte, reduceIte, c1, c2]
        exact retE _ _ (by ((try simp only []); repeat first | exact HLe.refl _ | refine HLe.cons (by simp only [hget, Nat.reduceEqDiff, Nat.left_eq_add, Nat.add_eq_left, nm_ne2, nm_en2, nm_ne3, nm_en3, nm_ne4, nm_en4, nm_ne5, nm_en5, reduceIte, ↓reduceIte] <;> first | rfl | ((repeat rw [if_neg (by omega)]) <;> rfl)) ?_ | refine HLe.skip hnm (by omega) ?_ | refine HLe.frz hnm (by omega) ?_ | refine HLe.del hnm (by omega) ?_))
      have c2 : decide (4 < g) = false := decide_eq_false h2
      by_cases h3 : a < 0
      · have c3 : decide (a < 0) = true := decide_eq_true h3
        simp (maxSteps := 4000000) only [icPNew, go_sem, goD_calls, eq_self, implies_true, Int.reduceEq, Int.reduceBEq, Int.reduceBNe, Int.reduceLE, Int.reduceLT, Int.reduceAdd, Int.reduceSub, Int.reduceMul, Int.reduceNeg, Nat.reduceMul, Nat.reduceSub, Nat.reduceLeDiff, Nat.reduceLT, Nat.reduceEqDiff, Nat.reduceAdd, reduceCtorEq, ↓reduceIte, reduceIte, c1, c2, c3]
        exact retE _ _ (by ((try simp only []); repeat first | exact HLe.refl _ | refine HLe.cons (by simp only [hget, Nat.reduceEqDiff, Nat.left_eq_add, Nat.add_eq_left, nm_ne2, nm_en2, nm_ne3, nm_en3, nm_ne4, nm_en4, nm_ne5, nm_en5, reduceIte, ↓reduceIte] <;> first | rfl | ((repeat rw [if_neg (by omega)]) <;> rfl)) ?_ | refine HLe.skip hnm (by omega) ?_ | refine HLe.frz hnm (by omega) ?_ | refine HLe.del hnm (by omega) ?_))
      have c3 : decide (a < 0) = false := decide_eq_false h3
      have c4 : decide (1099511627776 < a) = true := decide_eq_true (by omega)
      simp (maxSteps := 4000000) only [icPNew, go_sem, goD_calls, eq_self, implies_true, Int.reduceEq, Int.reduceBEq, Int.reduceBNe, Int.reduceLE, Int.reduceLT, Int.reduceAdd, Int.reduceSub, Int.reduceMul, Int.reduceNeg, Nat.reduceMul, Nat.reduceSub, Nat.reduceLeDiff, Nat.reduceLT, Nat.reduceEqDiff, Nat.reduceAdd, reduceCtorEq, ↓reduceIte, reduceIte, c1, c2, c3, c4]
      exact retE _ _ (by ((try simp only []); repeat first | exact HLe.refl _ | refine HLe.cons (by simp only [hget, Nat.reduceEqDiff, Nat.left_eq_add, Nat.add_eq_left, nm_ne2, nm_en2, nm_ne3, nm_en3, nm_ne4, nm_en4, nm_ne5, nm_en5, reduceIte, ↓reduceIte] <;> first | rfl | ((repeat rw [if_neg (by omega)]) <;> rfl)) ?_ | refine HLe.skip hnm (by omega) ?_ | refine HLe.frz hnm (by omega) ?_ | refine HLe.del hnm (by omega) ?_))
  · exact hsp.elim
end Go.Proofs.YtmjenjccinfbaaaDoor
