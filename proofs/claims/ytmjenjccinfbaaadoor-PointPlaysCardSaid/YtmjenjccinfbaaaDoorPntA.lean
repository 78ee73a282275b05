/- Chapter 15: what is sent, and how far it is safe. -/
import Derived.Test.YtmjenjccinfbaaaDoorSpanC
import Derived.Test.YtmjenjccinfbaaaDoorAt
import Derived.Test.YtmjenjccinfbaaaDoorNum
namespace Go.Proofs.YtmjenjccinfbaaaDoor
set_option linter.unusedVariables false
set_option linter.unusedSimpArgs false
open Go Go.Fw
attribute [local go_sem] walkSet evMdl evMupD evMup evLkp frpL eltP eltV eltK preF preP prePt prePd frzP evNlq ev frOf oget ogets argSs argS evCat evMm frzL evBin evWrp evShf evCmp evUna evNil evBeq evLd evSt evFad evIad evAad evLen evSln evEls evApp evParts evSlc evNlc evMif evPck evFld evBld evTas evIfq evSeq evSl0 evBxf evAgl evAgq evBsf hget hset hdel cellAt arrAt setCellAt setArrAt takeC lenC svCells SV.okc SV.one ldSV Fw.isAgg explode explodeL toD toDL toD1 Ty.size Ty.sizeL frz1 Fr.sub Heap.sub Tok.sub SV.sub SV.subL

abbrev sentT : Ty := .strct [.int .i64, .int .i64, .bool]
def ptC (sp : List D) (u : Nat) (a : Int) (v : Nat) (k c d : Int) : Tok := .cells [.dat (.slice 41) (.list sp), .vec u, .int .i64 a, .vec v, .int .i64 k, .int .i64 c, .int .i64 d]
theorem ptC_def (sp : List D) (u : Nat) (a : Int) (v : Nat) (k c d : Int) : ptC sp u a v k c d = .cells [.dat (.slice 41) (.list sp), .vec u, .int .i64 a, .vec v, .int .i64 k, .int .i64 c, .int .i64 d] := rfl
def pOk (r : Option Tok) : Prop := ∃ sp u a v k c d, r = some (ptC sp u a v k c d)
def pS (r : Option Tok) : List D := match r with | some (.cells [.dat _ (.list s), _, _, _, _, _, _]) => s | _ => []
def pU (r : Option Tok) : Nat := match r with | some (.cells [_, .vec u, _, _, _, _, _]) => u | _ => 0
def pA (r : Option Tok) : Int := match r with | some (.cells [_, _, .int _ a, _, _, _, _]) => a | _ => 0
def pV (r : Option Tok) : Nat := match r with | some (.cells [_, _, _, .vec v, _, _, _]) => v | _ => 0
def pK (r : Option Tok) : Int := match r with | some (.cells [_, _, _, _, .int _ a, _, _]) => a | _ => 0
def pC (r : Option Tok) : Int := match r with | some (.cells [_, _, _, _, _, .int _ a, _]) => a | _ => 0
def pD (r : Option Tok) : Int := match r with | some (.cells [_, _, _, _, _, _, .int _ a]) => a | _ => 0
section
variable (t : Ty) (sp : List D) (u : Nat) (a : Int) (v : Nat) (k c d : Int)
theorem pOk_c : pOk (some (.cells [.dat (.slice 41) (.list sp), .vec u, .int .i64 a, .vec v, .int .i64 k, .int .i64 c, .int .i64 d])) = True := eq_true ⟨sp, u, a, v, k, c, d, rfl⟩
theorem pS_c (x1 x2 x3 x4 x5 x6 : SV) : pS (some (.cells [.dat t (.list sp), x1, x2, x3, x4, x5, x6])) = sp := rfl
theorem pU_c (x1 x2 x3 x4 x5 x6 : SV) : pU (some (.cells [x1, .vec u, x2, x3, x4, x5, x6])) = u := rfl
theorem pA_c (x1 x2 x3 x4 x5 x6 : SV) : pA (some (.cells [x1, x2, .int .i64 a, x3, x4, x5, x6])) = a := rfl
theorem pV_c (x1 x2 x3 x4 x5 x6 : SV) : pV (some (.cells [x1, x2, x3, .vec v, x4, x5, x6])) = v := rfl
theorem pK_c (x1 x2 x3 x4 x5 x6 : SV) : pK (some (.cells [x1, x2, x3, x4, .int .i64 a, x5, x6])) = a := rfl
theorem pC_c (x1 x2 x3 x4 x5 x6 : SV) : pC (some (.cells [x1, x2, x3, x4, x5, .int .i64 a, x6])) = a := rfl
theorem pD_c (x1 x2 x3 x4 x5 x6 : SV) : pD (some (.cells [x1, x2, x3, x4, x5, x6, .int .i64 a])) = a := rfl
end
def sOk (r : Option Tok) : Prop := ∃ l, r = some (.arr 112 sentT l)
def iOk (r : Option Tok) : Prop := ∃ l, r = some (.arr 2 (.int .i64) l)
def aL (r : Option Tok) : List D := match r with | some (.arr _ _ l) => l | _ => []
theorem sOk_c (l : List D) : sOk (some (.arr 112 (.strct [.int .i64, .int .i64, .bool]) l)) = True := eq_true ⟨l, rfl⟩
theorem iOk_c (l : List D) : iOk (some (.arr 2 (.int .i64) l)) = True := eq_true ⟨l, rfl⟩
theorem aL_c (e : TypeId) (t : Ty) (l : List D) : aL (some (.arr e t l)) = l := rfl

def WPVCL : Opts := mkWE 7 [] [] [] 171 [] []
def icPVCL : IC := (.seq (.seq (.ops [(.u (.mov 2 (.c (.int .i64 0))))]) (.tr [0])) (.seq (.seq (.ops [(.u (.mov 3 (.s 0))), (.u (.nlc 4 (.s 3))), (.u (.fad 5 5 5 (.int .i64) 110 (.s 4))), (.u (.ld 6 (.int .i64) (.s 5))), (.u (.mov 2 (.s 6)))]) (.tr [2])) .ret))
def rsPVCL : List RV := [(.t 2)]
theorem irPVCL : fnIR Tryd.prog WPVCL 21 = some (icPVCL, rsPVCL) := by kernel_rfl
def spPVCL : FSpec := fun args h nx K => match args with
  | [.ptr p 0] => pOk (hget h p) ∧ K (.int .i64 (pC (hget h p))) h
  | _ => False
set_option maxHeartbeats 4000000 in
set_option maxRecDepth 8000 in
theorem vPVCL {E : Nat → Value} (hE : Errs2 Tryd.prog (some 171) E) : Valid Tryd.prog E (gs []) 21 spPVCL := by
  refine valid_go (W := WPVCL) hE allValid_bot irPVCL (by decide) (fun args h nx K hsp hok hnm => ?_)
  unfold spPVCL at hsp
  split at hsp
  · rename_i p
    obtain ⟨⟨sp, u, a, v, k, c, d, hp⟩, hK⟩ := hsp
    rw [ptC_def] at hp
    rw [hp, pC_c] at hK
    refine ⟨by simp [WPVCL, mkW, mkWE, mkWF], fun Q hQ => ?_⟩
    simp (maxSteps := 4000000) only [icPVCL, go_sem, goD_calls, eq_self, implies_true, Int.reduceEq, Int.reduceBEq, Int.reduceBNe, Int.reduceLE, Int.reduceLT, Int.reduceAdd, Int.reduceSub, Int.reduceMul, Int.reduceNeg, Nat.reduceMul, Nat.reduceSub, Nat.reduceLeDiff, Nat.reduceLT, Nat.reduceEqDiff, Nat.reduceAdd, reduceCtorEq, ↓reduceIte, reduceIte, hp]
    refine (hQ _ ?_).1
    exact fin_t (.int .i64 _) rfl rfl hnm (by ((try simp only []); repeat first | exact HLe.refl _ | refine HLe.cons (by simp only [hget, Nat.reduceEqDiff, Nat.left_eq_add, Nat.add_eq_left, nm_ne2, nm_en2, nm_ne3, nm_en3, nm_ne4, nm_en4, nm_ne5, nm_en5, reduceIte, ↓reduceIte] <;> first | rfl | ((repeat rw [if_neg (by omega)]) <;> rfl)) ?_ | refine HLe.skip hnm (by omega) ?_ | refine HLe.frz hnm (by omega) ?_ | refine HLe.del hnm (by omega) ?_)) hK
  · exact hsp.elim
def WPVDL : Opts := mkWE 7 [] [] [] 171 [] []
def icPVDL : IC := (.seq (.seq (.ops [(.u (.mov 2 (.c (.int .i64 0))))]) (.tr [0])) (.seq (.seq (.ops [(.u (.mov 3 (.s 0))), (.u (.nlc 4 (.s 3))), (.u (.fad 5 6 6 (.int .i64) 110 (.s 4))), (.u (.ld 6 (.int .i64) (.s 5))), (.u (.mov 2 (.s 6)))]) (.tr [2])) .ret))
def rsPVDL : List RV := [(.t 2)]
theorem irPVDL : fnIR Tryd.prog WPVDL 20 = some (icPVDL, rsPVDL) := by kernel_rfl
def spPVDL : FSpec := fun args h nx K => match args with
  | [.ptr p 0] => pOk (hget h p) ∧ K (.int .i64 (pD (hget h p))) h
  | _ => False
set_option maxHeartbeats 4000000 in
set_option maxRecDepth 8000 in
theorem vPVDL {E : Nat → Value} (hE : Errs2 Tryd.prog (some 171) E) : Valid Tryd.prog E (gs []) 20 spPVDL := by
  refine valid_go (W := WPVDL) hE allValid_bot irPVDL (by decide) (fun args h nx K hsp hok hnm => ?_)
  unfold spPVDL at hsp
  split at hsp
  · rename_i p
    obtain ⟨⟨sp, u, a, v, k, c, d, hp⟩, hK⟩ := hsp
    rw [ptC_def] at hp
    rw [hp, pD_c] at hK
    refine ⟨by simp [WPVDL, mkW, mkWE, mkWF], fun Q hQ => ?_⟩
    simp (maxSteps := 4000000) only [icPVDL, go_sem, goD_calls, eq_self, implies_true, Int.reduceEq, Int.reduceBEq, Int.reduceBNe, Int.reduceLE, Int.reduceLT, Int.reduceAdd, Int.reduceSub, Int.reduceMul, Int.reduceNeg, Nat.reduceMul, Nat.reduceSub, Nat.reduceLeDiff, Nat.reduceLT, Nat.reduceEqDiff, Nat.reduceAdd, reduceCtorEq, ↓reduceIte, reduceIte, hp]
    refine (hQ _ ?_).1
    exact fin_t (.int .i64 _) rfl rfl hnm (by ((try simp only []); repeat first | exact HLe.refl _ | refine HLe.cons (by simp only [hget, Nat.reduceEqDiff, Nat.left_eq_add, Nat.add_eq_left, nm_ne2, nm_en2, nm_ne3, nm_en3, nm_ne4, nm_en4, nm_ne5, nm_en5, reduceIte, ↓reduceIte] <;> first | rfl | ((repeat rw [if_neg (by omega)]) <;> rfl)) ?_ | refine HLe.skip hnm (by omega) ?_ | refine HLe.frz hnm (by omega) ?_ | refine HLe.del hnm (by omega) ?_)) hK
  · exact hsp.elim
def WPLeft : Opts := mkWE 13 [] [] [] 171 [] []
def icPLeft : IC := (.seq (.seq (.ops [(.u (.mov 2 (.c (.int .i64 0))))]) (.tr [0])) (.seq (.seq (.rgn [] [(false, (.u (.mov 3 (.s 0)))), (false, (.u (.nlc 4 (.s 3)))), (false, (.u (.fad 5 1 1 (.slice 112) 110 (.s 4)))), (false, (.u (.ld 6 (.slice 112) (.s 5)))), (false, (.u (.len 7 false (.s 6)))), (false, (.u (.mov 8 (.s 0)))), (false, (.u (.nlc 9 (.s 8)))), (false, (.u (.fad 10 4 4 (.int .i64) 110 (.s 9)))), (false, (.u (.ld 11 (.int .i64) (.s 10)))), (false, (.u (.bin 12 .sub .i64 (.s 7) (.s 11)))), (false, (.u (.mov 2 (.s 12))))]) (.tr [2])) .ret))
def rsPLeft : List RV := [(.t 2)]
theorem irPLeft : fnIR Tryd.prog WPLeft 22 = some (icPLeft, rsPLeft) := by kernel_rfl
def spPLeft : FSpec := fun args h nx K => match args with
  | [.ptr p 0] => pOk (hget h p) ∧ sOk (hget h (pU (hget h p))) ∧ (0 ≤ pK (hget h p) ∧ pK (hget h p) ≤ (aL (hget h (pU (hget h p)))).length) ∧ (aL (hget h (pU (hget h p)))).length ≤ 1000000 ∧ K (.int .i64 ((aL (hget h (pU (hget h p)))).length - pK (hget h p))) h
  | _ => False
set_option maxHeartbeats 4000000 in
set_option maxRecDepth 8000 in
theorem vPLeft {E : Nat → Value} (hE : Errs2 Tryd.prog (some 171) E) : Valid Tryd.prog E (gs []) 22 spPLeft := by
  refine valid_go (W := WPLeft) hE allValid_bot irPLeft (by decide) (fun args h nx K hsp hok hnm => ?_)
  unfold spPLeft at hsp
  split at hsp
  · rename_i p
    obtain ⟨⟨sp, u, a, v, k, c, d, hp⟩, hs, hk, hlen, hK⟩ := hsp
    rw [ptC_def] at hp
    rw [hp, pU_c] at hs
    obtain ⟨l, hu⟩ := hs
    rw [hp, pU_c, hu, aL_c] at hK hk hlen
    rw [pK_c] at hK hk
    refine ⟨by simp [WPLeft, mkW, mkWE, mkWF], fun Q hQ => ?_⟩
    simp (maxSteps := 4000000) only [icPLeft, go_sem, goD_calls, eq_self, implies_true, Int.reduceEq, Int.reduceBEq, Int.reduceBNe, Int.reduceLE, Int.reduceLT, Int.reduceAdd, Int.reduceSub, Int.reduceMul, Int.reduceNeg, Nat.reduceMul, Nat.reduceSub, Nat.reduceLeDiff, Nat.reduceLT, Nat.reduceEqDiff, Nat.reduceAdd, reduceCtorEq, ↓reduceIte, reduceIte, hp, hu, min_i64, max_i64]
    refine ⟨by omega, ?_⟩
    refine (hQ _ ?_).1
    exact fin_t (.int .i64 _) rfl rfl hnm (by ((try simp only []); repeat first | exact HLe.refl _ | refine HLe.cons (by simp only [hget, Nat.reduceEqDiff, Nat.left_eq_add, Nat.add_eq_left, nm_ne2, nm_en2, nm_ne3, nm_en3, nm_ne4, nm_en4, nm_ne5, nm_en5, reduceIte, ↓reduceIte] <;> first | rfl | ((repeat rw [if_neg (by omega)]) <;> rfl)) ?_ | refine HLe.skip hnm (by omega) ?_ | refine HLe.frz hnm (by omega) ?_ | refine HLe.del hnm (by omega) ?_)) hK
  · exact hsp.elim

/-- How far all is safe. -/
def lookF (l sf : List D) : Nat → Nat → Int → Int → Nat × Int × Int
  | 0, k, c, d => (k, c, d)
  | n + 1, k, c, d =>
    if k < l.length ∧ ((l.getD k .nil).fld 0).i ≤ (sf.getD ((l.getD k .nil).fld 1).i.toNat .nil).i then lookF l sf n (k + 1) ((l.getD k .nil).fld 0).i (if ((l.getD k .nil).fld 2).b then ((l.getD k .nil).fld 0).i else d)
    else (k, c, d)
def grOk (l sf : List D) : Prop := ∀ i, i < l.length → 0 ≤ ((l.getD i .nil).fld 1).i ∧ ((l.getD i .nil).fld 1).i < sf.length
end Go.Proofs.YtmjenjccinfbaaaDoor
