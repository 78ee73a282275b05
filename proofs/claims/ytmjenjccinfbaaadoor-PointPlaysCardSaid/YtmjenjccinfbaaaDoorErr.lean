/- Errors as plain data: what each function of package sextetsee comes to. -/
import Derived.Test.YtmjenjccinfbaaaDoorProg
import Derived.Test.YtmjenjccinfbaaaDoorFwZ
import Derived.KernelRfl
namespace Go.Proofs.YtmjenjccinfbaaaDoor
set_option linter.unusedVariables false
set_option linter.unusedSimpArgs false
open Go Go.Fw
attribute [local go_sem] walkSet evMdl evMupD evMup evLkp frpL eltP eltV eltK preF preP prePt prePd frzP evNlq ev frOf oget ogets argSs argS evCat evMm frzL evBin evWrp evShf evCmp evUna evNil evBeq evLd evSt evFad evIad evAad evLen evSln evEls evApp evParts evSlc evNlc evMif evPck evFld evBld evTas evIfq evSeq evSl0 evBxf evAgl evAgq evBsf hget hset hdel cellAt arrAt setCellAt setArrAt takeC lenC svCells SV.okc SV.one ldSV Fw.isAgg explode explodeL toD toDL toD1 Ty.size Ty.sizeL frz1 Fr.sub Heap.sub Tok.sub SV.sub SV.subL
/-- The variables that are known. -/
def gs (l : List Nat) : Nat → Bool := fun d => l.contains d
abbrev G0 : Nat → Bool := gs [0, 1, 2, 3, 4, 5, 6, 7, 8, 9, 10, 11, 12, 13, 14, 15, 16]
theorem up {E : Nat → Value} {l m : List Nat} {f : FuncId} {sp : FSpec} (h : Valid Tryd.prog E (gs l) f sp) (hs : l.all (m.contains ·) = true := by decide) : Valid Tryd.prog E (gs m) f sp := by
  have hm : ∀ g, gs l g = true → gs m g = true := by
    intro g hg
    simp only [gs, List.contains_iff_mem] at hg ⊢
    have := List.all_eq_true.1 hs g hg
    simpa using this
  intro args h0 o nx K ρ H w vs h1 h2 h3 h4 h5 h6 h7 h8 h9
  exact h args h0 o nx K ρ H w vs h1 h2 h3 h4 h5 h6 h7 (fun g hg => h8 g (hm g hg)) (fun g a T hg => h9 g a T (hm g hg))
theorem argS_none (x : SV) : argS none x = x := by cases x <;> rfl
/-- The errors of package api, in the document's order. -/
def errIds : List Nat := [6, 7, 1, 2, 0, 5, 8, 9, 3, 10, 11, 12, 13, 4, 14, 15, 16]
theorem ids_le : ∀ i, i < 17 → errIds.getD i 0 ∈ [0, 1, 2, 3, 4, 5, 6, 7, 8, 9, 10, 11, 12, 13, 14, 15, 16] := by decide
theorem ids_inj : ∀ i, i < 17 → ∀ j, j < 17 → errIds.getD i 0 = errIds.getD j 0 → i = j := by decide

def WBare : Opts := mkWE 5 [] [0, 1, 2, 3, 4, 5, 6, 7, 8, 9, 10, 11, 12, 13, 14, 15, 16] [] 171 [0, 1, 2, 3, 4, 5, 6, 7, 8, 9, 10, 11, 12, 13, 14, 15, 16] []
def icBare : IC := (.seq (.seq (.ops [(.u (.alc 2 [(.int .i64 0), (.bool false), (.int .i64 0)]))]) (.tr [0, 2])) (.seq (.seq (.ops [(.u (.mov 3 (.s 0))), (.u (.bld 4 [[(.int .i64 0)], [(.bool false)], [(.int .i64 0)]] [(0, (.s 3))])), (.u (.st (.strct [(.int .i64), .bool, (.int .i64)]) (.s 2) (.s 4)))]) (.tr [2])) .ret))
def rsBare : List RV := [(.c 2 (.strct [(.int .i64), .bool, (.int .i64)]))]
theorem irBare : fnIR Tryd.prog WBare 65 = some (icBare, rsBare) := by kernel_rfl
def fA (c : Int) (b : Bool) (p : Int) : SV := .agg [.int .i64 c, .bool b, .int .i64 p]
def spBare : FSpec := fun args h nx K => match args with
  | [.int .i64 c] => K (fA c false 0) h
  | _ => False
theorem vBare {E : Nat → Value} (hE : Errs2 Tryd.prog (some 171) E) : Valid Tryd.prog E G0 65 spBare := by
  refine valid_go (W := WBare) hE allValid_bot irBare (by decide) (fun args h nx K hsp hok hnm => ?_)
  unfold spBare at hsp
  split at hsp
  · rename_i c
    refine ⟨by simp [WBare, mkWE], fun Q hQ => ?_⟩
    simp only [icBare, go_sem, goD_calls, eq_self, implies_true, Int.reduceEq, Int.reduceBEq, Int.reduceBNe, Int.reduceLE, Int.reduceLT, Int.reduceAdd, Int.reduceSub, Int.reduceMul, Int.reduceNeg, Nat.reduceMul, Nat.reduceSub, Nat.reduceLeDiff, Nat.reduceLT, Nat.reduceEqDiff, Nat.reduceAdd, reduceCtorEq, ↓reduceIte, reduceIte]
    exact (hQ _ (fin_c (fA c false 0) (by simp only [go_sem, goD_calls, eq_self, implies_true, Int.reduceEq, Int.reduceBEq, Int.reduceBNe, Int.reduceLE, Int.reduceLT, Int.reduceAdd, Int.reduceSub, Int.reduceMul, Int.reduceNeg, Nat.reduceMul, Nat.reduceSub, Nat.reduceLeDiff, Nat.reduceLT, Nat.reduceEqDiff, Nat.reduceAdd, reduceCtorEq, ↓reduceIte, reduceIte, evR]; rfl) trivial rfl hnm (by ((try simp only []); repeat first | exact HLe.refl _ | refine HLe.cons (by simp only [hget, Nat.reduceEqDiff, Nat.left_eq_add, Nat.add_eq_left, nm_ne2, nm_en2, nm_ne3, nm_en3, nm_ne4, nm_en4, nm_ne5, nm_en5, reduceIte, ↓reduceIte] <;> first | rfl | ((repeat rw [if_neg (by omega)]) <;> rfl)) ?_ | refine HLe.skip hnm (by omega) ?_ | refine HLe.frz hnm (by omega) ?_ | refine HLe.del hnm (by omega) ?_)) hsp)).1
  · exact hsp.elim

def WNone : Opts := mkWE 2 [] [0, 1, 2, 3, 4, 5, 6, 7, 8, 9, 10, 11, 12, 13, 14, 15, 16] [] 171 [0, 1, 2, 3, 4, 5, 6, 7, 8, 9, 10, 11, 12, 13, 14, 15, 16] []
def icNone : IC := (.seq (.seq (.ops [(.u (.alc 0 [(.int .i64 0), (.bool false), (.int .i64 0)]))]) (.tr [0])) (.seq (.seq (.ops [(.u (.bld 1 [[(.int .i64 0)], [(.bool false)], [(.int .i64 0)]] [])), (.u (.st (.strct [(.int .i64), .bool, (.int .i64)]) (.s 0) (.s 1)))]) (.tr [0])) .ret))
def rsNone : List RV := [(.c 0 (.strct [(.int .i64), .bool, (.int .i64)]))]
theorem irNone : fnIR Tryd.prog WNone 67 = some (icNone, rsNone) := by kernel_rfl
def spNone : FSpec := fun args h nx K => match args with
  | [] => K (fA 0 false 0) h
  | _ => False
theorem vNone {E : Nat → Value} (hE : Errs2 Tryd.prog (some 171) E) : Valid Tryd.prog E G0 67 spNone := by
  refine valid_go (W := WNone) hE allValid_bot irNone (by decide) (fun args h nx K hsp hok hnm => ?_)
  unfold spNone at hsp
  split at hsp
  · refine ⟨by simp [WNone, mkWE], fun Q hQ => ?_⟩
    simp only [icNone, go_sem, goD_calls, eq_self, implies_true, Int.reduceEq, Int.reduceBEq, Int.reduceBNe, Int.reduceLE, Int.reduceLT, Int.reduceAdd, Int.reduceSub, Int.reduceMul, Int.reduceNeg, Nat.reduceMul, Nat.reduceSub, Nat.reduceLeDiff, Nat.reduceLT, Nat.reduceEqDiff, Nat.reduceAdd, reduceCtorEq, ↓reduceIte, reduceIte]
    exact (hQ _ (fin_c (fA 0 false 0) (by simp only [go_sem, goD_calls, eq_self, implies_true, Int.reduceEq, Int.reduceBEq, Int.reduceBNe, Int.reduceLE, Int.reduceLT, Int.reduceAdd, Int.reduceSub, Int.reduceMul, Int.reduceNeg, Nat.reduceMul, Nat.reduceSub, Nat.reduceLeDiff, Nat.reduceLT, Nat.reduceEqDiff, Nat.reduceAdd, reduceCtorEq, ↓reduceIte, reduceIte, evR]; rfl) trivial rfl hnm (by ((try simp only []); repeat first | exact HLe.refl _ | refine HLe.cons (by simp only [hget, Nat.reduceEqDiff, Nat.left_eq_add, Nat.add_eq_left, nm_ne2, nm_en2, nm_ne3, nm_en3, nm_ne4, nm_en4, nm_ne5, nm_en5, reduceIte, ↓reduceIte] <;> first | rfl | ((repeat rw [if_neg (by omega)]) <;> rfl)) ?_ | refine HLe.skip hnm (by omega) ?_ | refine HLe.frz hnm (by omega) ?_ | refine HLe.del hnm (by omega) ?_)) hsp)).1
  · exact hsp.elim

def WPlaced : Opts := mkWE 11 [] [0, 1, 2, 3, 4, 5, 6, 7, 8, 9, 10, 11, 12, 13, 14, 15, 16] [] 171 [0, 1, 2, 3, 4, 5, 6, 7, 8, 9, 10, 11, 12, 13, 14, 15, 16] []
def icPlaced : IC := (.seq (.seq (.ops [(.u (.alc 4 [(.int .i64 0), (.bool false), (.int .i64 0)]))]) (.tr [0, 1, 4])) (.seq (.seq (.seq (.ops [(.u (.mov 5 (.s 0))), (.u (.cmp 6 .eql (.s 5) (.c (.int .i64 0))))]) (.tr [6, 0, 1, 4])) (.cond (.s 6) (.seq (.seq (.ops [(.u (.call 7 (.c (.clo 67 [])) [] [] true)), (.u (.st (.strct [(.int .i64), .bool, (.int .i64)]) (.s 4) (.s 7)))]) (.tr [4])) .ret) .skip)) (.seq (.seq (.ops [(.u (.mov 8 (.s 0))), (.u (.mov 9 (.s 1))), (.u (.bld 10 [[(.int .i64 0)], [(.bool false)], [(.int .i64 0)]] [(0, (.s 8)), (1, (.c (.bool true))), (2, (.s 9))])), (.u (.st (.strct [(.int .i64), .bool, (.int .i64)]) (.s 4) (.s 10)))]) (.tr [4])) .ret)))
def rsPlaced : List RV := [(.c 4 (.strct [(.int .i64), .bool, (.int .i64)]))]
theorem irPlaced : fnIR Tryd.prog WPlaced 66 = some (icPlaced, rsPlaced) := by kernel_rfl
def spPlaced : FSpec := fun args h nx K => match args with
  | [.int .i64 c, .int .i64 p] => K (fA c (!decide (c = 0)) (if c = 0 then 0 else p)) h
  | _ => False
theorem vPlaced {E : Nat → Value} (hE : Errs2 Tryd.prog (some 171) E) : Valid Tryd.prog E G0 66 spPlaced := by
  refine valid_go (W := WPlaced) hE (allValid_bot.add (vNone hE)) irPlaced (by decide) (fun args h nx K hsp hok hnm => ?_)
  unfold spPlaced at hsp
  split at hsp
  · rename_i c p
    refine ⟨by simp [WPlaced, mkWE], fun Q hQ => ?_⟩
    simp only [icPlaced, go_sem, goD_calls, eq_self, implies_true, Int.reduceEq, Int.reduceBEq, Int.reduceBNe, Int.reduceLE, Int.reduceLT, Int.reduceAdd, Int.reduceSub, Int.reduceMul, Int.reduceNeg, Nat.reduceMul, Nat.reduceSub, Nat.reduceLeDiff, Nat.reduceLT, Nat.reduceEqDiff, Nat.reduceAdd, reduceCtorEq, ↓reduceIte, reduceIte, spNone, fA]
    refine ⟨fun hc => ?_, fun hc => ?_⟩
    · have hc' : c = 0 := by simpa using hc
      subst hc'
      exact (hQ _ (fin_c (fA 0 false 0) (by simp only [go_sem, goD_calls, eq_self, implies_true, Int.reduceEq, Int.reduceBEq, Int.reduceBNe, Int.reduceLE, Int.reduceLT, Int.reduceAdd, Int.reduceSub, Int.reduceMul, Int.reduceNeg, Nat.reduceMul, Nat.reduceSub, Nat.reduceLeDiff, Nat.reduceLT, Nat.reduceEqDiff, Nat.reduceAdd, reduceCtorEq, ↓reduceIte, reduceIte, evR]; rfl) trivial rfl hnm (by ((try simp only []); repeat first | exact HLe.refl _ | refine HLe.cons (by simp only [hget, Nat.reduceEqDiff, Nat.left_eq_add, Nat.add_eq_left, nm_ne2, nm_en2, nm_ne3, nm_en3, nm_ne4, nm_en4, nm_ne5, nm_en5, reduceIte, ↓reduceIte] <;> first | rfl | ((repeat rw [if_neg (by omega)]) <;> rfl)) ?_ | refine HLe.skip hnm (by omega) ?_ | refine HLe.frz hnm (by omega) ?_ | refine HLe.del hnm (by omega) ?_)) (by simpa using hsp))).1
    · have hc' : c ≠ 0 := by simpa using hc
      exact (hQ _ (fin_c (fA c true p) (by simp only [go_sem, goD_calls, eq_self, implies_true, Int.reduceEq, Int.reduceBEq, Int.reduceBNe, Int.reduceLE, Int.reduceLT, Int.reduceAdd, Int.reduceSub, Int.reduceMul, Int.reduceNeg, Nat.reduceMul, Nat.reduceSub, Nat.reduceLeDiff, Nat.reduceLT, Nat.reduceEqDiff, Nat.reduceAdd, reduceCtorEq, ↓reduceIte, reduceIte, evR]; rfl) trivial rfl hnm (by ((try simp only []); repeat first | exact HLe.refl _ | refine HLe.cons (by simp only [hget, Nat.reduceEqDiff, Nat.left_eq_add, Nat.add_eq_left, nm_ne2, nm_en2, nm_ne3, nm_en3, nm_ne4, nm_en4, nm_ne5, nm_en5, reduceIte, ↓reduceIte] <;> first | rfl | ((repeat rw [if_neg (by omega)]) <;> rfl)) ?_ | refine HLe.skip hnm (by omega) ?_ | refine HLe.frz hnm (by omega) ?_ | refine HLe.del hnm (by omega) ?_)) (by simpa [hc'] using hsp))).1
  · exact hsp.elim

def WSameFault : Opts := mkWE 24 [] [0, 1, 2, 3, 4, 5, 6, 7, 8, 9, 10, 11, 12, 13, 14, 15, 16] [] 171 [0, 1, 2, 3, 4, 5, 6, 7, 8, 9, 10, 11, 12, 13, 14, 15, 16] []
def icSameFault : IC := (.seq (.seq (.ops [(.u (.box 2 0 (.s 0))), (.u (.box 3 0 (.s 1))), (.u (.mov 4 (.c (.bool false))))]) (.tr [2, 3])) (.seq (.seq (.ops [(.u (.fad 5 0 0 (.int .i64) 51 (.s 2))), (.u (.ld 6 (.int .i64) (.s 5))), (.u (.fad 7 0 0 (.int .i64) 51 (.s 3))), (.u (.ld 8 (.int .i64) (.s 7))), (.u (.cmp 9 .eql (.s 6) (.s 8))), (.u (.mov 10 (.s 9))), (.g 10 true (some 11) (.fad 11 1 1 .bool 51 (.s 2))), (.g 10 true (some 12) (.ld 12 .bool (.s 11))), (.g 10 true (some 13) (.fad 13 1 1 .bool 51 (.s 3))), (.g 10 true (some 14) (.ld 14 .bool (.s 13))), (.g 10 true (some 15) (.beq 15 false (.s 12) (.s 14))), (.u (.pck 16 (.s 10) (.s 15) (.c (.bool false)))), (.u (.mov 17 (.s 16))), (.g 17 true (some 18) (.fad 18 2 2 (.int .i64) 51 (.s 2))), (.g 17 true (some 19) (.ld 19 (.int .i64) (.s 18))), (.g 17 true (some 20) (.fad 20 2 2 (.int .i64) 51 (.s 3))), (.g 17 true (some 21) (.ld 21 (.int .i64) (.s 20))), (.g 17 true (some 22) (.cmp 22 .eql (.s 19) (.s 21))), (.u (.pck 23 (.s 17) (.s 22) (.c (.bool false)))), (.u (.mov 4 (.s 23)))]) (.tr [4])) .ret))
def rsSameFault : List RV := [(.t 4)]
theorem irSameFault : fnIR Tryd.prog WSameFault 68 = some (icSameFault, rsSameFault) := by kernel_rfl
def spSameFault : FSpec := fun args h nx K => match args with
  | [.agg [.int .i64 a, .bool b, .int .i64 c], .agg [.int .i64 a', .bool b', .int .i64 c']] => K (.bool (a == a' && b == b' && c == c')) h
  | _ => False
theorem vSameFault {E : Nat → Value} (hE : Errs2 Tryd.prog (some 171) E) : Valid Tryd.prog E G0 68 spSameFault := by
  refine valid_go (W := WSameFault) hE allValid_bot irSameFault (by decide) (fun args h nx K hsp hok hnm => ?_)
  unfold spSameFault at hsp
  split at hsp
  · rename_i a b c a' b' c'
    refine ⟨by simp [WSameFault, mkWE], fun Q hQ => ?_⟩
    simp only [icSameFault, go_sem, goD_calls, eq_self, implies_true, Int.reduceEq, Int.reduceBEq, Int.reduceBNe, Int.reduceLE, Int.reduceLT, Int.reduceAdd, Int.reduceSub, Int.reduceMul, Int.reduceNeg, Nat.reduceMul, Nat.reduceSub, Nat.reduceLeDiff, Nat.reduceLT, Nat.reduceEqDiff, Nat.reduceAdd, reduceCtorEq, ↓reduceIte, reduceIte]
    refine ⟨fun h1 => ⟨fun h2 => ?_, fun h2 => ?_⟩, fun h1 => ?_⟩
    all_goals first
      | exact (hQ _ (fin_t (.bool (a == a' && b == b' && c == c')) (by simp_all [fget]) rfl hnm (by ((try simp only []); repeat first | exact HLe.refl _ | refine HLe.cons (by simp only [hget, Nat.reduceEqDiff, Nat.left_eq_add, Nat.add_eq_left, nm_ne2, nm_en2, nm_ne3, nm_en3, nm_ne4, nm_en4, nm_ne5, nm_en5, reduceIte, ↓reduceIte] <;> first | rfl | ((repeat rw [if_neg (by omega)]) <;> rfl)) ?_ | refine HLe.skip hnm (by omega) ?_ | refine HLe.frz hnm (by omega) ?_ | refine HLe.del hnm (by omega) ?_)) hsp)).1
      | skip
  · exact hsp.elim

def WAlike : Opts := mkWE 20 [] [0, 1, 2, 3, 4, 5, 6, 7, 8, 9, 10, 11, 12, 13, 14, 15, 16] [] 171 [0, 1, 2, 3, 4, 5, 6, 7, 8, 9, 10, 11, 12, 13, 14, 15, 16] []
def icAlike : IC := (.seq (.seq (.ops [(.u (.mov 4 (.c (.bool false))))]) (.tr [0, 1])) (.seq (.seq (.seq (.ops [(.u (.mov 5 (.s 0))), (.u (.eqb 6 false 0 (.s 5))), (.u (.mov 7 (.s 6))), (.g 7 false (some 8) (.mov 8 (.s 1))), (.g 7 false (some 9) (.eqb 9 false 0 (.s 8))), (.u (.pck 10 (.s 7) (.c (.bool true)) (.s 9)))]) (.tr [10, 0, 1])) (.cond (.s 10) (.seq (.seq (.ops [(.u (.mov 11 (.s 0))), (.u (.eqb 12 false 0 (.s 11))), (.u (.mov 13 (.s 12))), (.g 13 true (some 14) (.mov 14 (.s 1))), (.g 13 true (some 15) (.eqb 15 false 0 (.s 14))), (.u (.pck 16 (.s 13) (.s 15) (.c (.bool false)))), (.u (.mov 4 (.s 16)))]) (.tr [4])) .ret) .skip)) (.seq (.seq (.ops [(.u (.mov 17 (.s 0))), (.u (.mov 18 (.s 1))), (.u (.ifq 19 false 171 [0, 1, 2, 3, 4, 5, 6, 7, 8, 9, 10, 11, 12, 13, 14, 15, 16] (.s 17) (.s 18))), (.u (.mov 4 (.s 19)))]) (.tr [4])) .ret)))
def rsAlike : List RV := [(.t 4)]
theorem irAlike : fnIR Tryd.prog WAlike 114 = some (icAlike, rsAlike) := by kernel_rfl
def spAlike : FSpec := fun args h nx K => match args with
  | [.dat .iface (.err x), .dat .iface d] => ∃ y, d = .err y ∧ x ∈ [0, 1, 2, 3, 4, 5, 6, 7, 8, 9, 10, 11, 12, 13, 14, 15, 16] ∧ y ∈ [0, 1, 2, 3, 4, 5, 6, 7, 8, 9, 10, 11, 12, 13, 14, 15, 16] ∧ K (.bool (x == y)) h
  | _ => False
theorem vAlike {E : Nat → Value} (hE : Errs2 Tryd.prog (some 171) E) : Valid Tryd.prog E G0 114 spAlike := by
  refine valid_go (W := WAlike) hE allValid_bot irAlike (by decide) (fun args h nx K hsp hok hnm => ?_)
  unfold spAlike at hsp
  split at hsp
  · rename_i x d
    obtain ⟨y, rfl, hx, hy, hsp⟩ := hsp
    refine ⟨by simp [WAlike, mkWE], fun Q hQ => ?_⟩
    simp only [icAlike, go_sem, goD_calls, eq_self, implies_true, Int.reduceEq, Int.reduceBEq, Int.reduceBNe, Int.reduceLE, Int.reduceLT, Int.reduceAdd, Int.reduceSub, Int.reduceMul, Int.reduceNeg, Nat.reduceMul, Nat.reduceSub, Nat.reduceLeDiff, Nat.reduceLT, Nat.reduceEqDiff, Nat.reduceAdd, reduceCtorEq, ↓reduceIte, reduceIte]
    exact ⟨⟨hx, hy⟩, (hQ _ (fin_t (.bool (x == y)) (by simp [fget]) rfl hnm (by ((try simp only []); repeat first | exact HLe.refl _ | refine HLe.cons (by simp only [hget, Nat.reduceEqDiff, Nat.left_eq_add, Nat.add_eq_left, nm_ne2, nm_en2, nm_ne3, nm_en3, nm_ne4, nm_en4, nm_ne5, nm_en5, reduceIte, ↓reduceIte] <;> first | rfl | ((repeat rw [if_neg (by omega)]) <;> rfl)) ?_ | refine HLe.skip hnm (by omega) ?_ | refine HLe.frz hnm (by omega) ?_ | refine HLe.del hnm (by omega) ?_)) hsp)).1⟩
  · exact hsp.elim

def WSents : Opts := mkWE 19 [] [0, 1, 2, 3, 4, 5, 6, 7, 8, 9, 10, 11, 12, 13, 14, 15, 16] [] 171 [0, 1, 2, 3, 4, 5, 6, 7, 8, 9, 10, 11, 12, 13, 14, 15, 16] []
def icSents : IC := (.seq (.seq (.ops [(.u (.mov 0 (.c .nils)))]) (.tr [])) (.seq (.seq (.ops [(.u (.gld 1 6)), (.u (.gld 2 7)), (.u (.gld 3 1)), (.u (.gld 4 2)), (.u (.gld 5 0)), (.u (.gld 6 5)), (.u (.gld 7 8)), (.u (.gld 8 9)), (.u (.gld 9 3)), (.u (.gld 10 10)), (.u (.gld 11 11)), (.u (.gld 12 12)), (.u (.gld 13 13)), (.u (.gld 14 4)), (.u (.gld 15 14)), (.u (.gld 16 15)), (.u (.gld 17 16)), (.u (.bsl 18 27 .iface [(.s 1), (.s 2), (.s 3), (.s 4), (.s 5), (.s 6), (.s 7), (.s 8), (.s 9), (.s 10), (.s 11), (.s 12), (.s 13), (.s 14), (.s 15), (.s 16), (.s 17)])), (.u (.mov 0 (.s 18)))]) (.tr [0])) .ret))
def rsSents : List RV := [(.t 0)]
theorem irSents : fnIR Tryd.prog WSents 113 = some (icSents, rsSents) := by kernel_rfl
def sentsD : List D := errIds.map D.err
def spSents : FSpec := fun args h nx K => match args with
  | [] => K (.vec nx) ((nx, .arr 27 .iface sentsD) :: h)
  | _ => False
theorem vSents {E : Nat → Value} (hE : Errs2 Tryd.prog (some 171) E) : Valid Tryd.prog E G0 113 spSents := by
  refine valid_go (W := WSents) hE allValid_bot irSents (by decide) (fun args h nx K hsp hok hnm => ?_)
  unfold spSents at hsp
  split at hsp
  · refine ⟨by simp [WSents, mkWE], fun Q hQ => ?_⟩
    simp only [icSents, go_sem, goD_calls, eq_self, implies_true, Int.reduceEq, Int.reduceBEq, Int.reduceBNe, Int.reduceLE, Int.reduceLT, Int.reduceAdd, Int.reduceSub, Int.reduceMul, Int.reduceNeg, Nat.reduceMul, Nat.reduceSub, Nat.reduceLeDiff, Nat.reduceLT, Nat.reduceEqDiff, Nat.reduceAdd, reduceCtorEq, ↓reduceIte, reduceIte]
    exact (hQ _ (fin_vec rfl (by simp only [hget, ↓reduceIte]; rfl) (Nat.le_refl _) hnm (by ((try simp only []); repeat first | exact HLe.refl _ | refine HLe.cons (by simp only [hget, Nat.reduceEqDiff, Nat.left_eq_add, Nat.add_eq_left, nm_ne2, nm_en2, nm_ne3, nm_en3, nm_ne4, nm_en4, nm_ne5, nm_en5, reduceIte, ↓reduceIte] <;> first | rfl | ((repeat rw [if_neg (by omega)]) <;> rfl)) ?_ | refine HLe.skip hnm (by omega) ?_ | refine HLe.frz hnm (by omega) ?_ | refine HLe.del hnm (by omega) ?_)) hsp)).1
  · exact hsp.elim
end Go.Proofs.YtmjenjccinfbaaaDoor
