/- Chapter 16's functions. -/
import Derived.Test.YtmjenjccinfbaaaDoorLsnP
namespace Go.Proofs.YtmjenjccinfbaaaDoor
set_option linter.unusedVariables false
set_option linter.unusedSimpArgs false
open Go Go.Fw
attribute [local go_sem] walkSet evMdl evMupD evMup evLkp frpL eltP eltV eltK preF preP prePt prePd frzP evNlq ev frOf oget ogets argSs argS evCat evMm frzL evBin evWrp evShf evCmp evUna evNil evBeq evLd evSt evFad evIad evAad evLen evSln evEls evApp evParts evSlc evNlc evMif evPck evFld evBld evTas evIfq evSeq evSl0 evBxf evAgl evAgq evBsf hget hset hdel cellAt arrAt setCellAt setArrAt takeC lenC svCells SV.okc SV.one ldSV Fw.isAgg explode explodeL toD toDL toD1 Ty.size Ty.sizeL frz1 Fr.sub Heap.sub Tok.sub SV.sub SV.subL

/-- A giver's memory. -/
def gTok (s : List D) (a : Int) : Tok := .cells [.dat (.slice 41) (.list s), .int .i64 a]
theorem gTok_def (s : List D) (a : Int) : gTok s a = .cells [.dat (.slice 41) (.list s), .int .i64 a] := rfl
def gOk (r : Option Tok) : Prop := ∃ s a, r = some (gTok s a)
def gS (r : Option Tok) : List D := match r with | some (.cells [.dat _ (.list s), _]) => s | _ => []
def gL (r : Option Tok) : Int := match r with | some (.cells [_, .int _ a]) => a | _ => 0
theorem gOk_c (s : List D) (a : Int) : gOk (some (.cells [.dat (.slice 41) (.list s), .int .i64 a])) = True := eq_true ⟨s, a, rfl⟩
theorem gS_c (t : Ty) (s : List D) (y : SV) : gS (some (.cells [.dat t (.list s), y])) = s := rfl
theorem gL_c (x : SV) (k : IntKind) (a : Int) : gL (some (.cells [x, .int k a])) = a := rfl
theorem g_lt {nx : Nat} (s : List D) (a : Int) : (gTok s a).lt nx := ⟨trivial, trivial, trivial⟩
def loT (l : List D) : Prop := ∀ s ∈ l, spT s ≤ 1099511627776
theorem loT_low {l : List D} (h : loT l) : lowT l := fun s hs => by have := h s hs; omega

abbrev GL2 : List Nat := [3, 4]
def WLFits : Opts := mkWE 23 [] [3, 4] [] 171 [3, 4] []
def icLFits : IC := (.seq (.seq (.ops [(.u (.mov 6 (.c (.dat .iface .nil))))]) (.tr [1, 2, 0])) (.seq (.block 0 (.seq (.seq (.ops [(.u (.mov 8 (.s 1))), (.u (.cmp 9 .gtr (.s 8) (.c (.int .i64 1099511627776)))), (.u (.mov 7 (.s 9)))]) (.tr [7, 1, 2, 0])) (.cond (.s 7) (.seq (.seq (.ops [(.u (.gld 10 3)), (.u (.mov 6 (.s 10)))]) (.tr [6])) .ret) (.seq (.seq (.ops [(.u (.mov 12 (.s 1))), (.u (.bin 13 .sub .i64 (.s 12) (.c (.int .i64 512)))), (.u (.mov 14 (.s 2))), (.u (.mov 15 (.s 0))), (.u (.nlc 16 (.s 15))), (.u (.fad 17 0 0 (.slice 41) 115 (.s 16))), (.u (.ld 18 (.slice 41) (.s 17))), (.u (.call 19 (.c (.clo 100 [])) [(.s 18)] [(some 41)] true)), (.u (.mmx 20 true [(.s 14), (.s 19)])), (.u (.cmp 21 .gtr (.s 13) (.s 20))), (.u (.mov 11 (.s 21)))]) (.tr [11])) (.cond (.s 11) (.seq (.seq (.ops [(.u (.gld 22 4)), (.u (.mov 6 (.s 22)))]) (.tr [6])) .ret) .skip))))) (.seq (.seq (.ops [(.u (.mov 6 (.c (.dat .iface .nil))))]) (.tr [6])) .ret)))
def rsLFits : List RV := [(.t 6)]
theorem irLFits : fnIR Tryd.prog WLFits 71 = some (icLFits, rsLFits) := by kernel_rfl
def spLFits : FSpec := fun args h nx K => match args with
  | [.ptr p 0, .int .i64 n, .int .i64 vdl] => gOk (hget h p) ∧ -9223372036854770000 ≤ n ∧ K (.dat .iface (fitsD (gS (hget h p)) n vdl)) h
  | _ => False
set_option maxHeartbeats 4000000 in
set_option maxRecDepth 8000 in
theorem vLFits {E : Nat → Value} (hE : Errs2 Tryd.prog (some 171) E) : Valid Tryd.prog E (gs GL2) 71 spLFits := by
  refine valid_go (W := WLFits) hE (allValid_bot.add (up (vSTop hE))) irLFits (by decide) (fun args h nx K hsp hok hnm => ?_)
  unfold spLFits at hsp
  split at hsp
  · rename_i p n vdl
    obtain ⟨⟨s, a, hp⟩, hn, hK⟩ := hsp
    rw [gTok_def] at hp
    rw [hp, gS_c] at hK
    refine ⟨by simp [WLFits, mkW, mkWE, mkWF], fun Q hQ => ?_⟩
    obtain ⟨_, hn', _⟩ := hok
    simp only [SV.ok, min_i64, max_i64] at hn'
    have ret : ∀ e h' nx', HLe h h' → e = fitsD s n vdl → Q Ex.ret ⟨[(6, .dat .iface e)], h', nx'⟩ := fun e h' nx' hh he => by
      subst he
      refine (hQ _ ?_).1
      exact fin_t (.dat .iface _) rfl rfl hnm hh hK
    have e1 : ∀ h1 : 1099511627776 < n, fitsD s n vdl = .err 3 := fun h1 => by unfold fitsD; rw [if_pos h1]
    have e2 : ∀ (h1 : ¬ 1099511627776 < n) (h2 : max vdl (topF s) < n - 512), fitsD s n vdl = .err 4 := fun h1 h2 => by unfold fitsD; rw [if_neg h1, if_pos h2]
    have e3 : ∀ (h1 : ¬ 1099511627776 < n) (h2 : ¬ max vdl (topF s) < n - 512), fitsD s n vdl = .nil := fun h1 h2 => by unfold fitsD; rw [if_neg h1, if_neg h2]
    simp (maxSteps := 4000000) only [icLFits, go_sem, goD_calls, eq_self, implies_true, Int.reduceEq, Int.reduceBEq, Int.reduceBNe, Int.reduceLE, Int.reduceLT, Int.reduceAdd, Int.reduceSub, Int.reduceMul, Int.reduceNeg, Nat.reduceMul, Nat.reduceSub, Nat.reduceLeDiff, Nat.reduceLT, Nat.reduceEqDiff, Nat.reduceAdd, reduceCtorEq, ↓reduceIte, reduceIte, spSTop, hp, min_i64, max_i64]
    (try simp only [decide_eq_true_eq, decide_eq_false_iff_not, beq_iff_eq, bne_iff_ne, ne_eq, beq_eq_false_iff_ne, bne_eq_false_iff_eq]) <;> repeat' (first | refine ⟨?_, ?_⟩ | intro _)
    all_goals first
      | omega
      | exact ret _ _ _ (by ((try simp only []); repeat first | exact HLe.refl _ | refine HLe.cons (by simp only [hget, Nat.reduceEqDiff, Nat.left_eq_add, Nat.add_eq_left, nm_ne2, nm_en2, nm_ne3, nm_en3, nm_ne4, nm_en4, nm_ne5, nm_en5, reduceIte, ↓reduceIte] <;> first | rfl | ((repeat rw [if_neg (by omega)]) <;> rfl)) ?_ | refine HLe.skip hnm (by omega) ?_ | refine HLe.frz hnm (by omega) ?_ | refine HLe.del hnm (by omega) ?_)) (e1 (by omega)).symm
      | exact ret _ _ _ (by ((try simp only []); repeat first | exact HLe.refl _ | refine HLe.cons (by simp only [hget, Nat.reduceEqDiff, Nat.left_eq_add, Nat.add_eq_left, nm_ne2, nm_en2, nm_ne3, nm_en3, nm_ne4, nm_en4, nm_ne5, nm_en5, reduceIte, ↓reduceIte] <;> first | rfl | ((repeat rw [if_neg (by omega)]) <;> rfl)) ?_ | refine HLe.skip hnm (by omega) ?_ | refine HLe.frz hnm (by omega) ?_ | refine HLe.del hnm (by omega) ?_)) (e2 (by omega) (by omega)).symm
      | exact ret _ _ _ (by ((try simp only []); repeat first | exact HLe.refl _ | refine HLe.cons (by simp only [hget, Nat.reduceEqDiff, Nat.left_eq_add, Nat.add_eq_left, nm_ne2, nm_en2, nm_ne3, nm_en3, nm_ne4, nm_en4, nm_ne5, nm_en5, reduceIte, ↓reduceIte] <;> first | rfl | ((repeat rw [if_neg (by omega)]) <;> rfl)) ?_ | refine HLe.skip hnm (by omega) ?_ | refine HLe.frz hnm (by omega) ?_ | refine HLe.del hnm (by omega) ?_)) (e3 (by omega) (by omega)).symm
  · exact hsp.elim

def WLLast : Opts := mkWE 7 [] [] [] 171 [] []
def icLLast : IC := (.seq (.seq (.ops [(.u (.mov 2 (.c (.int .i64 0))))]) (.tr [0])) (.seq (.seq (.ops [(.u (.mov 3 (.s 0))), (.u (.nlc 4 (.s 3))), (.u (.fad 5 1 1 (.int .i64) 115 (.s 4))), (.u (.ld 6 (.int .i64) (.s 5))), (.u (.mov 2 (.s 6)))]) (.tr [2])) .ret))
def rsLLast : List RV := [(.t 2)]
theorem irLLast : fnIR Tryd.prog WLLast 35 = some (icLLast, rsLLast) := by kernel_rfl
def spLLast : FSpec := fun args h nx K => match args with
  | [.ptr p 0] => gOk (hget h p) ∧ K (.int .i64 (gL (hget h p))) h
  | _ => False
set_option maxHeartbeats 4000000 in
set_option maxRecDepth 8000 in
theorem vLLast {E : Nat → Value} (hE : Errs2 Tryd.prog (some 171) E) : Valid Tryd.prog E (gs []) 35 spLLast := by
  refine valid_go (W := WLLast) hE allValid_bot irLLast (by decide) (fun args h nx K hsp hok hnm => ?_)
  unfold spLLast at hsp
  split at hsp
  · rename_i p
    obtain ⟨⟨s, a, hp⟩, hK⟩ := hsp
    rw [gTok_def] at hp
    rw [hp, gL_c] at hK
    refine ⟨by simp [WLLast, mkW, mkWE, mkWF], fun Q hQ => ?_⟩
    simp (maxSteps := 4000000) only [icLLast, go_sem, goD_calls, eq_self, implies_true, Int.reduceEq, Int.reduceBEq, Int.reduceBNe, Int.reduceLE, Int.reduceLT, Int.reduceAdd, Int.reduceSub, Int.reduceMul, Int.reduceNeg, Nat.reduceMul, Nat.reduceSub, Nat.reduceLeDiff, Nat.reduceLT, Nat.reduceEqDiff, Nat.reduceAdd, reduceCtorEq, ↓reduceIte, reduceIte, hp]
    refine (hQ _ ?_).1
    exact fin_t (.int .i64 _) rfl rfl hnm (by ((try simp only []); repeat first | exact HLe.refl _ | refine HLe.cons (by simp only [hget, Nat.reduceEqDiff, Nat.left_eq_add, Nat.add_eq_left, nm_ne2, nm_en2, nm_ne3, nm_en3, nm_ne4, nm_en4, nm_ne5, nm_en5, reduceIte, ↓reduceIte] <;> first | rfl | ((repeat rw [if_neg (by omega)]) <;> rfl)) ?_ | refine HLe.skip hnm (by omega) ?_ | refine HLe.frz hnm (by omega) ?_ | refine HLe.del hnm (by omega) ?_)) hK
  · exact hsp.elim

abbrev GLN : List Nat := [0, 1, 2]
def WLNew : Opts := mkWE 24 [] [0, 1, 2] [] 171 [0, 1, 2] []
def icLNew : IC := (.seq (.seq (.ops [(.u (.mov 4 (.c (.raw (.pointer none))))), (.u (.mov 5 (.c (.dat .iface .nil))))]) (.tr [1, 0])) (.seq (.seq (.seq (.ops [(.u (.mov 7 (.s 0))), (.u (.cmp 8 .lss (.s 7) (.c (.int .i64 0)))), (.u (.mov 9 (.s 8))), (.g 9 false (some 10) (.mov 10 (.s 0))), (.g 9 false (some 11) (.cmp 11 .gtr (.s 10) (.c (.int .i64 1099511627776)))), (.u (.pck 12 (.s 9) (.c (.bool true)) (.s 11)))]) (.tr [12, 1, 0])) (.cond (.s 12) (.seq (.seq (.rgn [] [(false, (.u (.gld 13 0))), (false, (.u (.mov 4 (.c (.raw (.pointer none)))))), (false, (.u (.mov 5 (.s 13))))]) (.tr [4, 5])) .ret) .skip)) (.seq (.seq (.seq (.ops [(.u (.mov 14 (.s 1))), (.u (.call 15 (.c (.clo 61 [])) [(.s 14)] [(some 41)] true)), (.u (.mov 6 (.s 15)))]) (.tr [6, 1, 0])) (.seq (.seq (.ops [(.u (.mov 16 (.s 6))), (.u (.eqb 17 true 0 (.s 16)))]) (.tr [17, 6, 1, 0])) (.cond (.s 17) (.seq (.seq (.ops [(.u (.mov 18 (.s 6))), (.u (.mov 4 (.c (.raw (.pointer none))))), (.u (.mov 5 (.s 18)))]) (.tr [4, 5])) .ret) .skip))) (.seq (.seq (.ops [(.u (.mov 19 (.s 1))), (.u (.call 20 (.c (.clo 62 [])) [(.s 19)] [(some 41)] true)), (.u (.mov 21 (.s 0))), (.u (.bld 22 [[.nils], [(.int .i64 0)]] [(0, (.s 20)), (1, (.s 21))])), (.u (.box 23 0 (.s 22))), (.u (.mov 4 (.s 23))), (.u (.mov 5 (.c (.dat .iface .nil))))]) (.tr [4, 5])) .ret))))
def rsLNew : List RV := [(.t 4), (.t 5)]
theorem irLNew : fnIR Tryd.prog WLNew 26 = some (icLNew, rsLNew) := by kernel_rfl
def spLNew : FSpec := fun args h nx K => match args with
  | [.int .i64 a, .dat (.slice 41) d] =>
      (¬ (0 ≤ a ∧ a ≤ 1099511627776) → K (.tup [.raw (.pointer none), .dat .iface (.err 0)]) h) ∧
      ((0 ≤ a ∧ a ≤ 1099511627776) → (validD d.l).isNil = false → K (.tup [.raw (.pointer none), .dat .iface (validD d.l)]) h) ∧
      ((0 ≤ a ∧ a ≤ 1099511627776) → (validD d.l).isNil = true → K (.tup [.ptr nx 0, .dat .iface .nil]) ((nx, gTok d.l a) :: h))
  | _ => False
theorem valid_len {l : List D} (h : (validD l).isNil = true) : l.length ≤ 64 := by
  apply Nat.not_lt.1
  intro hlt
  rw [validD_many hlt] at h
  simp [D.isNil] at h
set_option maxHeartbeats 4000000 in
set_option maxRecDepth 8000 in
theorem vLNew {E : Nat → Value} (hE : Errs2 Tryd.prog (some 171) E) : Valid Tryd.prog E (gs GLN) 26 spLNew := by
  refine valid_go (W := WLNew) hE ((allValid_bot.add (up (vSValid hE))).add (up (vSClone hE))) irLNew (by decide) (fun args h nx K hsp hok hnm => ?_)
  unfold spLNew at hsp
  split at hsp
  · rename_i a d
    obtain ⟨hrange, hbad, hok1⟩ := hsp
    refine ⟨by simp [WLNew, mkW, mkWE, mkWF], fun Q hQ => ?_⟩
    obtain ⟨_, hd, _⟩ := hok
    simp only [SV.ok] at hd
    obtain ⟨hd1, hd2, hd3⟩ := Wt.slice hd; generalize d.l = l at *; subst hd1
    have retE : ∀ e h' nx', HLe h h' → K (.tup [.raw (.pointer none), .dat .iface e]) h → Q Ex.ret ⟨[(4, .raw (.pointer none)), (5, .dat .iface e)], h', nx'⟩ := fun e h' nx' hh hk => by
      refine (hQ _ ?_).1
      exact fin_t2 _ _ rfl rfl rfl rfl hnm hh hk
    by_cases hr : 0 ≤ a ∧ a ≤ 1099511627776
    · have c1 : decide (a < 0) = false := decide_eq_false (by omega)
      have c2 : decide (1099511627776 < a) = false := decide_eq_false (by omega)
      cases hv : (validD l).isNil with
      | false =>
        simp (maxSteps := 4000000) only [icLNew, go_sem, goD_calls, eq_self, implies_true, Int.reduceEq, Int.reduceBEq, Int.reduceBNe, Int.reduceLE, Int.reduceLT, Int.reduceAdd, Int.reduceSub, Int.reduceMul, Int.reduceNeg, Nat.reduceMul, Nat.reduceSub, Nat.reduceLeDiff, Nat.reduceLT, Nat.reduceEqDiff, Nat.reduceAdd, reduceCtorEq, ↓reduceIte, reduceIte, spSValid, c1, c2, hv]
        exact retE _ _ _ (by ((try simp only []); repeat first | exact HLe.refl _ | refine HLe.cons (by simp only [hget, Nat.reduceEqDiff, Nat.left_eq_add, Nat.add_eq_left, nm_ne2, nm_en2, nm_ne3, nm_en3, nm_ne4, nm_en4, nm_ne5, nm_en5, reduceIte, ↓reduceIte] <;> first | rfl | ((repeat rw [if_neg (by omega)]) <;> rfl)) ?_ | refine HLe.skip hnm (by omega) ?_ | refine HLe.frz hnm (by omega) ?_ | refine HLe.del hnm (by omega) ?_)) (hbad hr hv)
      | true =>
        have hl64 := valid_len hv
        have g1 : l.length ≤ 1000000000 := by omega
        simp (maxSteps := 4000000) only [icLNew, go_sem, goD_calls, eq_self, implies_true, Int.reduceEq, Int.reduceBEq, Int.reduceBNe, Int.reduceLE, Int.reduceLT, Int.reduceAdd, Int.reduceSub, Int.reduceMul, Int.reduceNeg, Nat.reduceMul, Nat.reduceSub, Nat.reduceLeDiff, Nat.reduceLT, Nat.reduceEqDiff, Nat.reduceAdd, reduceCtorEq, ↓reduceIte, reduceIte, spSValid, spSClone, c1, c2, hv, g1]
        refine (hQ _ (fin_new (p := True ∧ True ∧ True) (xs := [.ptr (nx + 64 + 64) 0, .dat .iface .nil]) rfl ⟨trivial, trivial, trivial⟩ (.frz (nx + 64) (.refl _)) [(nx, nx + 64 + 64)] (.tup [.ptr nx 0, .dat .iface .nil]) [(nx, gTok l a)] (by simp) (by simp; omega) (by simp) ?_ ?_ rfl ?_ ?_ hnm ?_ (hok1 hr hv))).1
        · simp only [mkR, go_sem, goD_calls, eq_self, implies_true, Int.reduceEq, Int.reduceBEq, Int.reduceBNe, Int.reduceLE, Int.reduceLT, Int.reduceAdd, Int.reduceSub, Int.reduceMul, Int.reduceNeg, Nat.reduceMul, Nat.reduceSub, Nat.reduceLeDiff, Nat.reduceLT, Nat.reduceEqDiff, Nat.reduceAdd, reduceCtorEq, ↓reduceIte, reduceIte, SV.ren, SV.renL, rens]
        · exact ⟨show nx < nx + 64 by omega, trivial, trivial⟩
        · simp only [gTok, List.mem_singleton, forall_eq, Tok.lt, SV.ltL, SV.lt, and_true, true_and]; omega
        · simp only [mkR, go_sem, goD_calls, eq_self, implies_true, Int.reduceEq, Int.reduceBEq, Int.reduceBNe, Int.reduceLE, Int.reduceLT, Int.reduceAdd, Int.reduceSub, Int.reduceMul, Int.reduceNeg, Nat.reduceMul, Nat.reduceSub, Nat.reduceLeDiff, Nat.reduceLT, Nat.reduceEqDiff, Nat.reduceAdd, reduceCtorEq, ↓reduceIte, reduceIte, rens, gTok, List.mem_singleton, forall_eq, Tok.ren, SV.ren, SV.renL] <;> rfl
        · simp only [mkR, go_sem, goD_calls, eq_self, implies_true, Int.reduceEq, Int.reduceBEq, Int.reduceBNe, Int.reduceLE, Int.reduceLT, Int.reduceAdd, Int.reduceSub, Int.reduceMul, Int.reduceNeg, Nat.reduceMul, Nat.reduceSub, Nat.reduceLeDiff, Nat.reduceLT, Nat.reduceEqDiff, Nat.reduceAdd, reduceCtorEq, ↓reduceIte, reduceIte] <;> ((try simp only []); repeat first | exact HLe.refl _ | refine HLe.cons (by simp only [hget, Nat.reduceEqDiff, Nat.left_eq_add, Nat.add_eq_left, nm_ne2, nm_en2, nm_ne3, nm_en3, nm_ne4, nm_en4, nm_ne5, nm_en5, reduceIte, ↓reduceIte] <;> first | rfl | ((repeat rw [if_neg (by omega)]) <;> rfl)) ?_ | refine HLe.skip hnm (by omega) ?_ | refine HLe.frz hnm (by omega) ?_ | refine HLe.del hnm (by omega) ?_)
    · by_cases c1 : a < 0
      · have c1 : decide (a < 0) = true := decide_eq_true c1
        simp (maxSteps := 4000000) only [icLNew, go_sem, goD_calls, eq_self, implies_true, Int.reduceEq, Int.reduceBEq, Int.reduceBNe, Int.reduceLE, Int.reduceLT, Int.reduceAdd, Int.reduceSub, Int.reduceMul, Int.reduceNeg, Nat.reduceMul, Nat.reduceSub, Nat.reduceLeDiff, Nat.reduceLT, Nat.reduceEqDiff, Nat.reduceAdd, reduceCtorEq, ↓reduceIte, reduceIte, c1]
        exact retE _ _ _ (by ((try simp only []); repeat first | exact HLe.refl _ | refine HLe.cons (by simp only [hget, Nat.reduceEqDiff, Nat.left_eq_add, Nat.add_eq_left, nm_ne2, nm_en2, nm_ne3, nm_en3, nm_ne4, nm_en4, nm_ne5, nm_en5, reduceIte, ↓reduceIte] <;> first | rfl | ((repeat rw [if_neg (by omega)]) <;> rfl)) ?_ | refine HLe.skip hnm (by omega) ?_ | refine HLe.frz hnm (by omega) ?_ | refine HLe.del hnm (by omega) ?_)) (hrange hr)
      · have c1' : decide (a < 0) = false := decide_eq_false c1
        have c2 : decide (1099511627776 < a) = true := decide_eq_true (by omega)
        simp (maxSteps := 4000000) only [icLNew, go_sem, goD_calls, eq_self, implies_true, Int.reduceEq, Int.reduceBEq, Int.reduceBNe, Int.reduceLE, Int.reduceLT, Int.reduceAdd, Int.reduceSub, Int.reduceMul, Int.reduceNeg, Nat.reduceMul, Nat.reduceSub, Nat.reduceLeDiff, Nat.reduceLT, Nat.reduceEqDiff, Nat.reduceAdd, reduceCtorEq, ↓reduceIte, reduceIte, c1', c2]
        exact retE _ _ _ (by ((try simp only []); repeat first | exact HLe.refl _ | refine HLe.cons (by simp only [hget, Nat.reduceEqDiff, Nat.left_eq_add, Nat.add_eq_left, nm_ne2, nm_en2, nm_ne3, nm_en3, nm_ne4, nm_en4, nm_ne5, nm_en5, reduceIte, ↓reduceIte] <;> first | rfl | ((repeat rw [if_neg (by omega)]) <;> rfl)) ?_ | refine HLe.skip hnm (by omega) ?_ | refine HLe.frz hnm (by omega) ?_ | refine HLe.del hnm (by omega) ?_)) (hrange hr)
  · exact hsp.elim

def WLRoom : Opts := mkWE 27 [] [3, 4] [] 171 [3, 4] []
def icLRoom : IC := (.seq (.seq (.ops [(.u (.mov 4 (.c (.int .i64 0))))]) (.tr [0, 1])) (.seq (.seq (.ops [(.u (.mov 7 (.s 0))), (.u (.nlc 8 (.s 7))), (.u (.fad 9 1 1 (.int .i64) 115 (.s 8))), (.u (.ld 10 (.int .i64) (.s 9))), (.u (.mov 5 (.s 10)))]) (.tr [5, 0, 1])) (.seq (.seq (.seq (.ops [(.u (.mov 11 (.c (.int .i64 0))))]) (.tr [5, 0, 1, 11])) (.block 0 (.loop (.seq (.seq (.ops [(.u (.cmp 12 .lss (.s 11) (.c (.int .i64 512))))]) (.tr [12, 5, 11, 0, 1])) (.seq (.cond (.s 12) .skip (.exit 0)) (.seq (.block 1 (.seq (.seq (.ops [(.u (.mov 13 (.s 11))), (.u (.mov 6 (.s 13)))]) (.tr [5, 6, 11, 0, 1])) (.seq (.seq (.ops [(.u (.mov 14 (.s 0))), (.u (.nlc 15 (.s 14))), (.u (.fad 16 0 0 (.slice 41) 115 (.s 15))), (.u (.ld 17 (.slice 41) (.s 16))), (.u (.mov 18 (.s 5))), (.u (.call 19 (.c (.clo 63 [])) [(.s 17), (.s 18)] [(some 41), none] true)), (.u (.mov 5 (.s 19)))]) (.tr [6, 11, 5, 0, 1])) (.seq (.seq (.ops [(.u (.mov 20 (.s 0))), (.u (.mov 21 (.s 5))), (.u (.mov 22 (.s 1))), (.u (.call 23 (.c (.clo 71 [])) [(.s 20), (.s 21), (.s 22)] [none, none, none] true)), (.u (.eqb 24 true 0 (.s 23)))]) (.tr [24, 6, 11, 5, 0, 1])) (.cond (.s 24) (.seq (.seq (.ops [(.u (.mov 25 (.s 6))), (.u (.mov 4 (.s 25)))]) (.tr [4])) .ret) .skip))))) (.seq (.ops [(.u (.bin 26 .add .i64 (.s 11) (.c (.int .i64 1)))), (.u (.mov 11 (.s 26)))]) (.tr [5, 0, 1, 11])))))))) (.seq (.seq (.ops [(.u (.mov 4 (.c (.int .i64 512))))]) (.tr [4])) .ret))))
def rsLRoom : List RV := [(.t 4)]
theorem irLRoom : fnIR Tryd.prog WLRoom 30 = some (icLRoom, rsLRoom) := by kernel_rfl
def spLRoom : FSpec := fun args h nx K => match args with
  | [.ptr p 0, .int .i64 vdl] => gOk (hget h p) ∧ loT (gS (hget h p)) ∧ (0 ≤ gL (hget h p) ∧ gL (hget h p) ≤ 1099511627776) ∧ K (.int .i64 (roomF (gS (hget h p)) (gL (hget h p)) vdl)) h
  | _ => False
set_option maxHeartbeats 4000000 in
set_option maxRecDepth 8000 in
theorem vLRoom {E : Nat → Value} (hE : Errs2 Tryd.prog (some 171) E) : Valid Tryd.prog E (gs GL2) 30 spLRoom := by
  refine valid_go (W := WLRoom) hE ((allValid_bot.add (up (vLFits hE))).add (up (vSNext hE))) irLRoom (by decide) (fun args h nx K hsp hok hnm => ?_)
  unfold spLRoom at hsp
  split at hsp
  · rename_i p vdl
    obtain ⟨⟨s, a, hp⟩, hlo, ha, hK⟩ := hsp
    have hgo : gOk (hget h p) = True := eq_true ⟨s, a, hp⟩
    rw [gTok_def] at hp
    rw [hp, gS_c] at hlo
    rw [hp, gL_c] at ha
    rw [hp, gS_c, gL_c] at hK
    refine ⟨by simp [WLRoom, mkW, mkWE, mkWF], fun Q hQ => ?_⟩
    have hlow := loT_low hlo
    simp (maxSteps := 4000000) only [icLRoom, go_sem, goD_calls, eq_self, implies_true, Int.reduceEq, Int.reduceBEq, Int.reduceBNe, Int.reduceLE, Int.reduceLT, Int.reduceAdd, Int.reduceSub, Int.reduceMul, Int.reduceNeg, Nat.reduceMul, Nat.reduceSub, Nat.reduceLeDiff, Nat.reduceLT, Nat.reduceEqDiff, Nat.reduceAdd, reduceCtorEq, ↓reduceIte, reduceIte, hp]
    refine go_loop (α := { k : Nat // k ≤ 512 ∧ ∀ j, j < k → (fitsD s (seqN s a (j + 1)) vdl).isNil = true }) (I := fun k => { f := [(5, .int .i64 (seqN s a k.1)), (0, .ptr p 0), (1, .int .i64 vdl), (11, .int .i64 k.1)], h := h, nx := nx + 64 }) (μ := fun k => 512 - k.1) _ _ _ ⟨0, by omega, fun j hj => by omega⟩ ?_ (fun k B hB => ?_)
    · refine leq_id ?_ ?_ (by ((try simp only []); repeat first | exact HLe.refl _ | refine HLe.cons (by simp only [hget, Nat.reduceEqDiff, Nat.left_eq_add, Nat.add_eq_left, nm_ne2, nm_en2, nm_ne3, nm_en3, nm_ne4, nm_en4, nm_ne5, nm_en5, reduceIte, ↓reduceIte] <;> first | rfl | ((repeat rw [if_neg (by omega)]) <;> rfl)) ?_ | refine HLe.skip hnm (by omega) ?_ | refine HLe.frz hnm (by omega) ?_ | refine HLe.del hnm (by omega) ?_)) (by (repeat first | exact HLt.mono hnm (by simp only [] <;> omega) | refine HLt.cons (by simp only [] <;> omega) (by simp only [Tok.lt, SV.ltL, SV.lt, and_true, true_and] <;> omega) ?_)) (by simp only [] <;> omega)
      · simp only [frEq_cons, frEq_nil, frIn_cons, frIn_nil, and_true, fget_cons, Nat.reduceEqDiff, reduceIte, ↓reduceIte, true_and, SV.ren, SV.renL, ren1]
        exact ⟨rfl, rfl⟩
      · exact ⟨trivial, by have := (hnm p _ hp).1; show p < nx + 64; omega, trivial, trivial, trivial⟩
    · obtain ⟨k, hk, hno⟩ := k
      simp only at hB
      have hb := seqN_bd hlo a k
      have hb2 := seqN_bd hlo a (k + 1)
      by_cases hk5 : k < 512
      · have c1 : decide ((k : Int) < 512) = true := decide_eq_true (by omega)
        have e1 : nextF s (seqN s a k) = seqN s a (k + 1) := rfl
        have g1 : seqN s a k ≤ 9223372036854775806 := by omega
        have g2 : -9223372036854770000 ≤ seqN s a (k + 1) := by omega
        simp (maxSteps := 4000000) only [go_sem, goD_calls, eq_self, implies_true, Int.reduceEq, Int.reduceBEq, Int.reduceBNe, Int.reduceLE, Int.reduceLT, Int.reduceAdd, Int.reduceSub, Int.reduceMul, Int.reduceNeg, Nat.reduceMul, Nat.reduceSub, Nat.reduceLeDiff, Nat.reduceLT, Nat.reduceEqDiff, Nat.reduceAdd, reduceCtorEq, ↓reduceIte, reduceIte, hp, gOk_c, gS_c, gL_c, spSNext, spLFits, c1, e1, g1, g2, hlow, min_i64, max_i64]
        refine ⟨fun c => ?_, fun c => ⟨by omega, hB _ ⟨k + 1, by omega, fun j hj => ?_⟩ (by simp only []; omega) ?_⟩⟩
        · have c' : (fitsD s (seqN s a (k + 1)) vdl).isNil = false := by simpa using c
          rw [roomF_eq (by omega) hno (.inr c')] at hK
          refine (hQ _ ?_).1
          exact fin_t (.int .i64 _) rfl rfl hnm (by ((try simp only []); repeat first | exact HLe.refl _ | refine HLe.cons (by simp only [hget, Nat.reduceEqDiff, Nat.left_eq_add, Nat.add_eq_left, nm_ne2, nm_en2, nm_ne3, nm_en3, nm_ne4, nm_en4, nm_ne5, nm_en5, reduceIte, ↓reduceIte] <;> first | rfl | ((repeat rw [if_neg (by omega)]) <;> rfl)) ?_ | refine HLe.skip hnm (by omega) ?_ | refine HLe.frz hnm (by omega) ?_ | refine HLe.del hnm (by omega) ?_)) hK
        · have c' : (fitsD s (seqN s a (k + 1)) vdl).isNil = true := by simpa using c
          by_cases e : j = k
          · subst e; exact c'
          · exact hno j (by omega)
        · refine leq_id ?_ ?_ (by ((try simp only []); repeat first | exact HLe.refl _ | refine HLe.cons (by simp only [hget, Nat.reduceEqDiff, Nat.left_eq_add, Nat.add_eq_left, nm_ne2, nm_en2, nm_ne3, nm_en3, nm_ne4, nm_en4, nm_ne5, nm_en5, reduceIte, ↓reduceIte] <;> first | rfl | ((repeat rw [if_neg (by omega)]) <;> rfl)) ?_ | refine HLe.skip hnm (by omega) ?_ | refine HLe.frz hnm (by omega) ?_ | refine HLe.del hnm (by omega) ?_)) (by (repeat first | exact HLt.mono hnm (by simp only [] <;> omega) | refine HLt.cons (by simp only [] <;> omega) (by simp only [Tok.lt, SV.ltL, SV.lt, and_true, true_and] <;> omega) ?_)) (by simp only [] <;> omega)
          · simp only [frEq_cons, frEq_nil, frIn_cons, frIn_nil, and_true, fget_cons, Nat.reduceEqDiff, reduceIte, ↓reduceIte, true_and, SV.ren, SV.renL, ren1]
            simp
          · exact ⟨trivial, by have := (hnm p _ hp).1; show p < nx + 64; omega, trivial, trivial, trivial⟩
      · obtain rfl : k = 512 := by omega
        have c1 : decide (((512 : Nat) : Int) < 512) = false := by decide
        simp (maxSteps := 4000000) only [go_sem, goD_calls, eq_self, implies_true, Int.reduceEq, Int.reduceBEq, Int.reduceBNe, Int.reduceLE, Int.reduceLT, Int.reduceAdd, Int.reduceSub, Int.reduceMul, Int.reduceNeg, Nat.reduceMul, Nat.reduceSub, Nat.reduceLeDiff, Nat.reduceLT, Nat.reduceEqDiff, Nat.reduceAdd, reduceCtorEq, ↓reduceIte, reduceIte, c1]
        rw [roomF_eq (k := 512) (by omega) hno (.inl rfl)] at hK
        refine (hQ _ ?_).1
        exact fin_t (.int .i64 _) rfl rfl hnm (by ((try simp only []); repeat first | exact HLe.refl _ | refine HLe.cons (by simp only [hget, Nat.reduceEqDiff, Nat.left_eq_add, Nat.add_eq_left, nm_ne2, nm_en2, nm_ne3, nm_en3, nm_ne4, nm_en4, nm_ne5, nm_en5, reduceIte, ↓reduceIte] <;> first | rfl | ((repeat rw [if_neg (by omega)]) <;> rfl)) ?_ | refine HLe.skip hnm (by omega) ?_ | refine HLe.frz hnm (by omega) ?_ | refine HLe.del hnm (by omega) ?_)) hK
  · exact hsp.elim

abbrev GLG : List Nat := [0, 3, 4]
def WLGive : Opts := mkWE 48 [] [0, 3, 4] [] 171 [0, 3, 4] []
def icLGive : IC := (.seq (.seq (.ops [(.u (.mov 6 (.c .nils))), (.u (.mov 7 (.c (.dat .iface .nil))))]) (.tr [1, 2, 0])) (.seq (.seq (.seq (.ops [(.u (.mov 11 (.s 1))), (.u (.cmp 12 .lss (.s 11) (.c (.int .i64 1)))), (.u (.mov 13 (.s 12))), (.g 13 false (some 14) (.mov 14 (.s 1))), (.g 13 false (some 15) (.cmp 15 .gtr (.s 14) (.c (.int .i64 512)))), (.u (.pck 16 (.s 13) (.c (.bool true)) (.s 15)))]) (.tr [16, 1, 2, 0])) (.cond (.s 16) (.seq (.seq (.rgn [] [(false, (.u (.gld 17 0))), (false, (.u (.mov 6 (.c .nils)))), (false, (.u (.mov 7 (.s 17))))]) (.tr [6, 7])) .ret) .skip)) (.seq (.seq (.ops [(.u (.mov 8 (.c .nils)))]) (.tr [1, 2, 0, 8])) (.seq (.seq (.ops [(.u (.mov 18 (.s 0))), (.u (.nlc 19 (.s 18))), (.u (.fad 20 1 1 (.int .i64) 115 (.s 19))), (.u (.ld 21 (.int .i64) (.s 20))), (.u (.mov 9 (.s 21)))]) (.tr [1, 2, 0, 9, 8])) (.seq (.seq (.seq (.ops [(.u (.mov 22 (.s 1))), (.u (.mov 23 (.c (.int .i64 0))))]) (.tr [22, 23, 2, 0, 9, 8])) (.block 0 (.loop (.seq (.seq (.ops [(.u (.cmp 24 .lss (.s 23) (.s 22)))]) (.tr [24, 23, 22, 2, 0, 9, 8])) (.seq (.cond (.s 24) .skip (.exit 0)) (.seq (.block 1 (.seq (.seq (.ops [(.u (.mov 25 (.s 0))), (.u (.nlc 26 (.s 25))), (.u (.fad 27 0 0 (.slice 41) 115 (.s 26))), (.u (.ld 28 (.slice 41) (.s 27))), (.u (.mov 29 (.s 9))), (.u (.call 30 (.c (.clo 63 [])) [(.s 28), (.s 29)] [(some 41), none] true)), (.u (.mov 9 (.s 30)))]) (.tr [8, 23, 22, 2, 0, 9])) (.seq (.ops [(.u (.mov 31 (.s 8))), (.u (.mov 32 (.s 9))), (.u (.bsl 33 2 (.int .i64) [(.s 32)])), (.u (.app 34 2 (.int .i64) 8 (.s 31) (.s 33))), (.u (.mov 8 (.s 34)))]) (.tr [23, 22, 2, 0, 9, 8])))) (.seq (.ops [(.u (.bin 35 .add .i64 (.s 23) (.c (.int .i64 1)))), (.u (.mov 23 (.s 35)))]) (.tr [22, 23, 2, 0, 9, 8])))))))) (.seq (.seq (.seq (.ops [(.u (.mov 36 (.s 0))), (.u (.mov 37 (.s 9))), (.u (.mov 38 (.s 2))), (.u (.call 39 (.c (.clo 71 [])) [(.s 36), (.s 37), (.s 38)] [none, none, none] true)), (.u (.mov 10 (.s 39)))]) (.tr [10, 0, 9, 8])) (.seq (.seq (.ops [(.u (.mov 40 (.s 10))), (.u (.eqb 41 true 0 (.s 40)))]) (.tr [41, 10, 0, 9, 8])) (.cond (.s 41) (.seq (.seq (.ops [(.u (.mov 42 (.s 10))), (.u (.mov 6 (.c .nils))), (.u (.mov 7 (.s 42)))]) (.tr [6, 7])) .ret) .skip))) (.seq (.seq (.ops [(.u (.mov 43 (.s 0))), (.u (.mov 44 (.s 9))), (.u (.nlc 45 (.s 43))), (.u (.fad 46 1 1 (.int .i64) 115 (.s 45))), (.u (.st (.int .i64) (.s 46) (.s 44)))]) (.tr [8])) (.seq (.seq (.ops [(.u (.mov 47 (.s 8))), (.u (.mov 6 (.s 47))), (.u (.mov 7 (.c (.dat .iface .nil))))]) (.tr [6, 7])) .ret))))))))
def rsLGive : List RV := [(.t 6), (.t 7)]
theorem irLGive : fnIR Tryd.prog WLGive 32 = some (icLGive, rsLGive) := by kernel_rfl
def spLGive : FSpec := fun args h nx K => match args with
  | [.ptr p 0, .int .i64 n, .int .i64 vdl] => gOk (hget h p) ∧ loT (gS (hget h p)) ∧ (0 ≤ gL (hget h p) ∧ gL (hget h p) ≤ 1099511627776) ∧
      (¬ (1 ≤ n ∧ n ≤ 512) → K (.tup [.nils, .dat .iface (.err 0)]) h) ∧
      ((1 ≤ n ∧ n ≤ 512) → (fitsD (gS (hget h p)) (seqN (gS (hget h p)) (gL (hget h p)) n.toNat) vdl).isNil = false → K (.tup [.nils, .dat .iface (fitsD (gS (hget h p)) (seqN (gS (hget h p)) (gL (hget h p)) n.toNat) vdl)]) h) ∧
      ((1 ≤ n ∧ n ≤ 512) → (fitsD (gS (hget h p)) (seqN (gS (hget h p)) (gL (hget h p)) n.toNat) vdl).isNil = true → K (.tup [.vec nx, .dat .iface .nil]) ((nx, .arr 2 (.int .i64) (seqL (gS (hget h p)) (gL (hget h p)) n.toNat)) :: hset h p (gTok (gS (hget h p)) (seqN (gS (hget h p)) (gL (hget h p)) n.toNat))))
  | _ => False
set_option maxHeartbeats 4000000 in
set_option maxRecDepth 8000 in
theorem vLGive {E : Nat → Value} (hE : Errs2 Tryd.prog (some 171) E) : Valid Tryd.prog E (gs GLG) 32 spLGive := by
  refine valid_go (W := WLGive) hE ((allValid_bot.add (up (vLFits hE))).add (up (vSNext hE))) irLGive (by decide) (fun args h nx K hsp hok hnm => ?_)
  unfold spLGive at hsp
  split at hsp
  · rename_i p n vdl
    obtain ⟨⟨s, a, hp⟩, hlo, ha, hrange, hbad, hgood⟩ := hsp
    have hpx := (hnm p _ hp).1
    have hst : ∀ a', HLt (hset h p (gTok s a')) nx := fun a' => HLt.hset hnm (g_lt s a')
    rw [gTok_def] at hp
    rw [hp, gS_c] at hlo
    rw [hp, gL_c] at ha
    rw [hp, gS_c, gL_c] at hbad hgood
    refine ⟨by simp [WLGive, mkW, mkWE, mkWF], fun Q hQ => ?_⟩
    have hlow := loT_low hlo
    have pn0p : (nx = p) = False := eq_false (by omega)
    have pn1p : ∀ a0 : Nat, (nx + a0 = p) = False := fun a0 => eq_false (by omega)
    have pn2p : ∀ a0 a1 : Nat, (nx + a0 + a1 = p) = False := fun a0 a1 => eq_false (by omega)
    have pn3p : ∀ a0 a1 a2 : Nat, (nx + a0 + a1 + a2 = p) = False := fun a0 a1 a2 => eq_false (by omega)
    have pn4p : ∀ a0 a1 a2 a3 : Nat, (nx + a0 + a1 + a2 + a3 = p) = False := fun a0 a1 a2 a3 => eq_false (by omega)
    have pn5p : ∀ a0 a1 a2 a3 a4 : Nat, (nx + a0 + a1 + a2 + a3 + a4 = p) = False := fun a0 a1 a2 a3 a4 => eq_false (by omega)
    have pn6p : ∀ a0 a1 a2 a3 a4 a5 : Nat, (nx + a0 + a1 + a2 + a3 + a4 + a5 = p) = False := fun a0 a1 a2 a3 a4 a5 => eq_false (by omega)
    have pn7p : ∀ a0 a1 a2 a3 a4 a5 a6 : Nat, (nx + a0 + a1 + a2 + a3 + a4 + a5 + a6 = p) = False := fun a0 a1 a2 a3 a4 a5 a6 => eq_false (by omega)
    by_cases hn : 1 ≤ n ∧ n ≤ 512
    · obtain ⟨N, rfl⟩ := Int.eq_ofNat_of_zero_le (show 0 ≤ n by omega)
      rw [Int.toNat_natCast] at hbad hgood
      have c1 : decide ((N : Int) < 1) = false := decide_eq_false (by omega)
      have c2 : decide (512 < (N : Int)) = false := decide_eq_false (by omega)
      simp (maxSteps := 4000000) only [icLGive, go_sem, goD_calls, eq_self, implies_true, Int.reduceEq, Int.reduceBEq, Int.reduceBNe, Int.reduceLE, Int.reduceLT, Int.reduceAdd, Int.reduceSub, Int.reduceMul, Int.reduceNeg, Nat.reduceMul, Nat.reduceSub, Nat.reduceLeDiff, Nat.reduceLT, Nat.reduceEqDiff, Nat.reduceAdd, reduceCtorEq, ↓reduceIte, reduceIte, hp, c1, c2]
      refine go_loop (α := { k : Nat // k ≤ N }) (I := fun k => { f := [(22, .int .i64 N), (23, .int .i64 k.1), (2, .int .i64 vdl), (0, .ptr p 0), (9, .int .i64 (seqN s a k.1)), (8, .vec nx)], h := (nx, .arr 2 (.int .i64) (seqL s a k.1)) :: h, nx := nx + 1 }) (μ := fun k => N - k.1) _ _ _ ⟨0, by omega⟩ ?_ (fun k B hB => ?_)
      · refine leq_nil (.slot 8 2 (.int .i64) rfl (.refl _)) ?_
        simp only [go_sem, goD_calls, eq_self, implies_true, Int.reduceEq, Int.reduceBEq, Int.reduceBNe, Int.reduceLE, Int.reduceLT, Int.reduceAdd, Int.reduceSub, Int.reduceMul, Int.reduceNeg, Nat.reduceMul, Nat.reduceSub, Nat.reduceLeDiff, Nat.reduceLT, Nat.reduceEqDiff, Nat.reduceAdd, reduceCtorEq, ↓reduceIte, reduceIte]
        refine leq_id ?_ ?_ (by ((try simp only []); repeat first | exact HLe.refl _ | refine HLe.cons (by simp only [hget, Nat.reduceEqDiff, Nat.left_eq_add, Nat.add_eq_left, nm_ne2, nm_en2, nm_ne3, nm_en3, nm_ne4, nm_en4, nm_ne5, nm_en5, reduceIte, ↓reduceIte] <;> first | rfl | ((repeat rw [if_neg (by omega)]) <;> rfl)) ?_ | refine HLe.skip hnm (by omega) ?_ | refine HLe.frz hnm (by omega) ?_ | refine HLe.del hnm (by omega) ?_)) (by (repeat first | exact HLt.mono hnm (by simp only [] <;> omega) | refine HLt.cons (by simp only [] <;> omega) (by simp only [Tok.lt, SV.ltL, SV.lt, and_true, true_and] <;> omega) ?_)) (by simp only [] <;> omega)
        · simp only [frEq_cons, frEq_nil, frIn_cons, frIn_nil, and_true, fget_cons, Nat.reduceEqDiff, reduceIte, ↓reduceIte, true_and, SV.ren, SV.renL, ren1]
          exact ⟨rfl, rfl⟩
        · exact ⟨trivial, trivial, trivial, by show p < nx + 1; omega, trivial, by show nx < nx + 1; omega, trivial⟩
      · obtain ⟨k, hk⟩ := k
        simp only at hB
        have hb := seqN_bd hlo a k
        have hb2 := seqN_bd hlo a (k + 1)
        by_cases hkN : k < N
        · have c3 : decide ((k : Int) < (N : Int)) = true := decide_eq_true (by omega)
          have e1 : nextF s (seqN s a k) = seqN s a (k + 1) := rfl
          have g1 : seqN s a k ≤ 9223372036854775806 := by omega
          have hs := seqL_succ s a k
          simp (maxSteps := 4000000) only [go_sem, goD_calls, eq_self, implies_true, Int.reduceEq, Int.reduceBEq, Int.reduceBNe, Int.reduceLE, Int.reduceLT, Int.reduceAdd, Int.reduceSub, Int.reduceMul, Int.reduceNeg, Nat.reduceMul, Nat.reduceSub, Nat.reduceLeDiff, Nat.reduceLT, Nat.reduceEqDiff, Nat.reduceAdd, reduceCtorEq, ↓reduceIte, reduceIte, pn0p, pn1p, pn2p, pn3p, pn4p, pn5p, pn6p, pn7p, hp, spSNext, c3, e1, g1, hlow, hs, seqL_len, min_i64, max_i64]
          refine ⟨by omega, by omega, hB _ ⟨k + 1, by omega⟩ (by simp only []; omega) ?_⟩
          refine leq_ren1 nx (nx + 1 + 64 + 1) (by omega) (by simp only []; omega) ?_ ?_ ?_ (by (repeat first | exact HLt.mono hnm (by simp only [] <;> omega) | refine HLt.cons (by simp only [] <;> omega) (by simp only [Tok.lt, SV.ltL, SV.lt, and_true, true_and] <;> omega) ?_)) (by simp only [] <;> omega)
          · simp only [frEq_cons, frEq_nil, frIn_cons, frIn_nil, and_true, fget_cons, Nat.reduceEqDiff, reduceIte, ↓reduceIte, true_and, SV.ren, SV.renL, ren1]
            rw [if_neg (by omega)]
            simp
          · exact ⟨trivial, trivial, trivial, by show p < nx + 1; omega, trivial, by show nx < nx + 1; omega, trivial⟩
          · exact HRen.cons (by rw [ren1_eq]; simp [hget, Tok.ren]) (HRen.base hnm (Nat.le_refl _) (by ((try simp only []); repeat first | exact HLe.refl _ | refine HLe.cons (by simp only [hget, Nat.reduceEqDiff, Nat.left_eq_add, Nat.add_eq_left, nm_ne2, nm_en2, nm_ne3, nm_en3, nm_ne4, nm_en4, nm_ne5, nm_en5, reduceIte, ↓reduceIte] <;> first | rfl | ((repeat rw [if_neg (by omega)]) <;> rfl)) ?_ | refine HLe.skip hnm (by omega) ?_ | refine HLe.frz hnm (by omega) ?_ | refine HLe.del hnm (by omega) ?_)))
        · obtain rfl : k = N := by omega
          have c3 : decide ((k : Int) < (k : Int)) = false := decide_eq_false (by omega)
          have g2 : -9223372036854770000 ≤ seqN s a k := by omega
          simp (maxSteps := 4000000) only [go_sem, goD_calls, eq_self, implies_true, Int.reduceEq, Int.reduceBEq, Int.reduceBNe, Int.reduceLE, Int.reduceLT, Int.reduceAdd, Int.reduceSub, Int.reduceMul, Int.reduceNeg, Nat.reduceMul, Nat.reduceSub, Nat.reduceLeDiff, Nat.reduceLT, Nat.reduceEqDiff, Nat.reduceAdd, reduceCtorEq, ↓reduceIte, reduceIte, pn0p, pn1p, pn2p, pn3p, pn4p, pn5p, pn6p, pn7p, hp, gOk_c, gS_c, gL_c, spLFits, c3, g2]
          refine ⟨fun c => ?_, fun c => ?_⟩
          · have c' : (fitsD s (seqN s a k) vdl).isNil = false := by simpa using c
            refine (hQ _ ?_).1
            exact fin_t2 _ _ rfl rfl rfl rfl hnm (by ((try simp only []); repeat first | exact HLe.refl _ | refine HLe.cons (by simp only [hget, Nat.reduceEqDiff, Nat.left_eq_add, Nat.add_eq_left, nm_ne2, nm_en2, nm_ne3, nm_en3, nm_ne4, nm_en4, nm_ne5, nm_en5, reduceIte, ↓reduceIte] <;> first | rfl | ((repeat rw [if_neg (by omega)]) <;> rfl)) ?_ | refine HLe.skip hnm (by omega) ?_ | refine HLe.frz hnm (by omega) ?_ | refine HLe.del hnm (by omega) ?_)) (hbad hn c')
          · have c' : (fitsD s (seqN s a k) vdl).isNil = true := by simpa using c
            refine (hQ _ ?_).1
            exact fin_vecT _ rfl rfl rfl (by simp only [hget, ↓reduceIte]) (Nat.le_refl _) (hst _) (HLe.skip (hst _) (Nat.le_refl _) (HLe.refl _)) (hgood hn c')
    · by_cases c1 : n < 1
      · have c1 : decide (n < 1) = true := decide_eq_true c1
        simp (maxSteps := 4000000) only [icLGive, go_sem, goD_calls, eq_self, implies_true, Int.reduceEq, Int.reduceBEq, Int.reduceBNe, Int.reduceLE, Int.reduceLT, Int.reduceAdd, Int.reduceSub, Int.reduceMul, Int.reduceNeg, Nat.reduceMul, Nat.reduceSub, Nat.reduceLeDiff, Nat.reduceLT, Nat.reduceEqDiff, Nat.reduceAdd, reduceCtorEq, ↓reduceIte, reduceIte, c1]
        refine (hQ _ ?_).1
        exact fin_t2 _ _ rfl rfl rfl rfl hnm (by ((try simp only []); repeat first | exact HLe.refl _ | refine HLe.cons (by simp only [hget, Nat.reduceEqDiff, Nat.left_eq_add, Nat.add_eq_left, nm_ne2, nm_en2, nm_ne3, nm_en3, nm_ne4, nm_en4, nm_ne5, nm_en5, reduceIte, ↓reduceIte] <;> first | rfl | ((repeat rw [if_neg (by omega)]) <;> rfl)) ?_ | refine HLe.skip hnm (by omega) ?_ | refine HLe.frz hnm (by omega) ?_ | refine HLe.del hnm (by omega) ?_)) (hrange hn)
      · have c1' : decide (n < 1) = false := decide_eq_false c1
        have c2 : decide (512 < n) = true := decide_eq_true (by omega)
        simp (maxSteps := 4000000) only [icLGive, go_sem, goD_calls, eq_self, implies_true, Int.reduceEq, Int.reduceBEq, Int.reduceBNe, Int.reduceLE, Int.reduceLT, Int.reduceAdd, Int.reduceSub, Int.reduceMul, Int.reduceNeg, Nat.reduceMul, Nat.reduceSub, Nat.reduceLeDiff, Nat.reduceLT, Nat.reduceEqDiff, Nat.reduceAdd, reduceCtorEq, ↓reduceIte, reduceIte, c1', c2]
        refine (hQ _ ?_).1
        exact fin_t2 _ _ rfl rfl rfl rfl hnm (by ((try simp only []); repeat first | exact HLe.refl _ | refine HLe.cons (by simp only [hget, Nat.reduceEqDiff, Nat.left_eq_add, Nat.add_eq_left, nm_ne2, nm_en2, nm_ne3, nm_en3, nm_ne4, nm_en4, nm_ne5, nm_en5, reduceIte, ↓reduceIte] <;> first | rfl | ((repeat rw [if_neg (by omega)]) <;> rfl)) ?_ | refine HLe.skip hnm (by omega) ?_ | refine HLe.frz hnm (by omega) ?_ | refine HLe.del hnm (by omega) ?_)) (hrange hn)
  · exact hsp.elim
end Go.Proofs.YtmjenjccinfbaaaDoor
