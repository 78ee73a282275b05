/- Chapter 7: rows of whole numbers: where one is, which are within. -/
import Derived.Test.YtkojpimkngmckaaDoorQuorC
namespace Go.Proofs.YtkojpimkngmckaaDoor
set_option linter.unusedVariables false
set_option linter.unusedSimpArgs false
open Go Go.Fw
attribute [local go_sem] walkSet evMdl evMupD evMup evLkp frpL preF preP prePt prePd frzP evNlq ev frOf oget ogets argSs argS evMm frzL evBin evWrp evShf evCmp evUna evNil evBeq evLd evSt evFad evIad evAad evLen evSln evEls evApp evParts evSlc evNlc evMif evPck evFld evBld evTas evIfq evSeq evSl0 evBxf evAgl evAgq evBsf hget hset hdel cellAt arrAt setCellAt setArrAt takeC lenC svCells SV.okc SV.one ldSV Fw.isAgg explode explodeL toD toDL toD1 Ty.size Ty.sizeL frz1 Fr.sub Heap.sub Tok.sub SV.sub SV.subL

/-- Where the first one is that is so; else -1. -/
def idxI (p : Int → Bool) (l : List D) : Int := match l.findIdx? (fun x => p x.i) with | some i => (i : Int) | none => -1
theorem idx_at {p : Int → Bool} {l : List D} {i : Nat} (hi : i < l.length) (h : ∀ j, j < i → p (l.getD j .nil).i = false) (hp : p (l.getD i .nil).i = true) : idxI p l = i := by
  have e : l.findIdx? (fun x => p x.i) = some i := by
    rw [List.findIdx?_eq_some_iff_getElem]
    refine ⟨hi, ?_, fun j hj => ?_⟩
    · rw [List.getD_eq_getElem?_getD, List.getElem?_eq_getElem hi] at hp
      exact hp
    · have := h j hj
      rw [List.getD_eq_getElem?_getD, List.getElem?_eq_getElem (by omega)] at this
      simp only [Option.getD_some] at this
      rw [this]; decide
  unfold idxI
  rw [e]
theorem idx_none {p : Int → Bool} {l : List D} (h : ∀ j, j < l.length → p (l.getD j .nil).i = false) : idxI p l = -1 := by
  have e : l.findIdx? (fun x => p x.i) = none := by
    rw [List.findIdx?_eq_none_iff]
    intro x hx
    obtain ⟨j, hj, rfl⟩ := List.mem_iff_getElem.1 hx
    have := h j hj
    rw [List.getD_eq_getElem?_getD, List.getElem?_eq_getElem hj] at this
    exact this
  unfold idxI
  rw [e]
theorem idx_any (p : Int → Bool) (l : List D) : decide (0 ≤ idxI p l) = l.any (fun x => p x.i) := by
  unfold idxI
  cases h : l.findIdx? (fun x => p x.i) with
  | none =>
    have : l.any (fun x => p x.i) = false := by
      rw [List.any_eq_false]
      intro x hx
      rw [List.findIdx?_eq_none_iff] at h
      rw [h x hx]; decide
    rw [this]; rfl
  | some i =>
    obtain ⟨hi, hp, _⟩ := List.findIdx?_eq_some_iff_getElem.1 h
    have : l.any (fun x => p x.i) = true := List.any_eq_true.2 ⟨_, List.getElem_mem hi, hp⟩
    rw [this]
    exact decide_eq_true (by simp only; omega)
theorem idx_range (p : Int → Bool) (l : List D) : -1 ≤ idxI p l ∧ idxI p l < l.length := by
  unfold idxI
  cases h : l.findIdx? (fun x => p x.i) with
  | none => simp only; omega
  | some i =>
    obtain ⟨hi, hp, _⟩ := List.findIdx?_eq_some_iff_getElem.1 h
    simp only; omega

def WSIndex : Opts := mkWE 19 [] [] [] 184 [] []
def icSIndex : IC := (.seq (.seq (.ops [(.u (.mov 4 (.c (.int .i64 0))))]) (.tr [1, 0])) (.seq (.seq (.seq (.ops [(.u (.mov 6 (.s 0))), (.u (.len 7 false (.s 6))), (.u (.mov 8 (.c (.int .i64 0))))]) (.tr [7, 1, 0, 8])) (.block 0 (.loop (.seq (.seq (.ops [(.u (.cmp 9 .lss (.s 8) (.s 7)))]) (.tr [9, 8, 7, 1, 0])) (.seq (.cond (.s 9) .skip (.exit 0)) (.seq (.block 1 (.seq (.seq (.ops [(.u (.mov 10 (.s 8))), (.u (.mov 5 (.s 10)))]) (.tr [5, 8, 7, 1, 0])) (.seq (.seq (.ops [(.u (.mov 11 (.s 1))), (.u (.mov 12 (.s 0))), (.u (.mov 13 (.s 5))), (.u (.iad 14 3 (.int .i64) (.s 12) (.s 13))), (.u (.ld 15 (.int .i64) (.s 14))), (.u (.cmp 16 .eql (.s 11) (.s 15)))]) (.tr [16, 5, 8, 7, 1, 0])) (.cond (.s 16) (.seq (.seq (.ops [(.u (.mov 17 (.s 5))), (.u (.mov 4 (.s 17)))]) (.tr [4])) .ret) .skip)))) (.seq (.ops [(.u (.bin 18 .add .i64 (.s 8) (.c (.int .i64 1)))), (.u (.mov 8 (.s 18)))]) (.tr [7, 1, 0, 8])))))))) (.seq (.seq (.ops [(.u (.mov 4 (.c (.int .i64 (-1)))))]) (.tr [4])) .ret)))
def rsSIndex : List RV := [(.t 4)]
theorem irSIndex : fnIR Tryd.prog WSIndex 68 = some (icSIndex, rsSIndex) := by kernel_rfl
def spSIndex : FSpec := fun args h nx K => match args with
  | [.dat (.slice t) d, .int .i64 v] => t = 3 ∧ K (.int .i64 (idxI (fun x => v == x) d.l)) h
  | _ => False
set_option maxHeartbeats 4000000 in
set_option maxRecDepth 8000 in
theorem vSIndex {E : Nat → Value} (hE : Errs2 Tryd.prog (some 184) E) : Valid Tryd.prog E (gs []) 68 spSIndex := by
  refine valid_go (W := WSIndex) hE allValid_bot irSIndex (by decide) (fun args h nx K hsp hok hnm => ?_)
  unfold spSIndex at hsp
  split at hsp
  · rename_i t d v
    obtain ⟨rfl, hK⟩ := hsp
    refine ⟨by simp [WSIndex, mkW, mkWE, mkWF], fun Q hQ => ?_⟩
    obtain ⟨hd, _⟩ := hok
    simp only [SV.ok] at hd
    obtain ⟨hd1, hd2, hd3⟩ := Wt.slice hd; generalize d.l = l at *; subst hd1
    have hml : maxLen ≤ 9223372036854775807 := by decide
    have ret : ∀ n h' nx', HLe h h' → n = idxI (fun x => v == x) l → Q Ex.ret ⟨[(4, .int .i64 n)], h', nx'⟩ := fun n h' nx' hh hn => by
      refine (hQ _ ?_).1
      subst hn
      exact fin_t (.int .i64 _) rfl rfl hnm hh hK
    simp (maxSteps := 4000000) only [icSIndex, go_sem, goD_calls, eq_self, implies_true, Int.reduceEq, Int.reduceBEq, Int.reduceBNe, Int.reduceLE, Int.reduceLT, Int.reduceAdd, Int.reduceSub, Int.reduceMul, Int.reduceNeg, Nat.reduceMul, Nat.reduceSub, Nat.reduceLeDiff, Nat.reduceLT, Nat.reduceEqDiff, Nat.reduceAdd, reduceCtorEq, ↓reduceIte, reduceIte]
    refine go_loop (α := { i : Nat // i ≤ l.length ∧ ∀ j, j < i → (v == (l.getD j .nil).i) = false }) (I := fun i => { f := [(7, .int .i64 l.length), (1, .int .i64 v), (0, .dat (.slice 3) (.list l)), (8, .int .i64 i.1)], h := h, nx := nx }) (μ := fun i => l.length - i.1) _ _ _ ⟨0, by omega, fun j hj => absurd hj (by omega)⟩ ?_ (fun i B hB => ?_)
    · refine leq_id ?_ (by (simp only [frLt_cons, frLt_nil, and_true, SV.lt, SV.ltL, true_and] <;> omega)) (by ((try simp only []); repeat first | exact HLe.refl _ | refine HLe.cons (by simp only [hget, Nat.reduceEqDiff, Nat.left_eq_add, Nat.add_eq_left, nm_ne2, nm_en2, nm_ne3, nm_en3, nm_ne4, nm_en4, nm_ne5, nm_en5, reduceIte, ↓reduceIte] <;> first | rfl | ((repeat rw [if_neg (by omega)]) <;> rfl)) ?_ | refine HLe.skip hnm (by omega) ?_ | refine HLe.frz hnm (by omega) ?_ | refine HLe.del hnm (by omega) ?_)) (by (repeat first | exact HLt.mono hnm (by simp only [] <;> omega) | refine HLt.cons (by simp only [] <;> omega) (by simp only [Tok.lt, SV.ltL, SV.lt, and_true, true_and] <;> omega) ?_)) (by simp only [] <;> omega)
      simp only [frEq_cons, frEq_nil, frIn_cons, frIn_nil, and_true, fget_cons, Nat.reduceEqDiff, reduceIte, ↓reduceIte, true_and, SV.ren, SV.renL, ren1]
      simp
    · obtain ⟨i, hi, hgi⟩ := i
      simp only at hB
      by_cases hil : i < l.length
      · have c1 : decide ((i : Int) < (l.length : Int)) = true := decide_eq_true (by omega)
        by_cases e : (v == (l.getD i .nil).i) = true
        · simp (maxSteps := 4000000) only [go_sem, goD_calls, eq_self, implies_true, Int.reduceEq, Int.reduceBEq, Int.reduceBNe, Int.reduceLE, Int.reduceLT, Int.reduceAdd, Int.reduceSub, Int.reduceMul, Int.reduceNeg, Nat.reduceMul, Nat.reduceSub, Nat.reduceLeDiff, Nat.reduceLT, Nat.reduceEqDiff, Nat.reduceAdd, reduceCtorEq, ↓reduceIte, reduceIte, c1, e, Int.toNat_natCast]
          repeat refine ⟨by omega, ?_⟩
          exact ret _ _ _ (by ((try simp only []); repeat first | exact HLe.refl _ | refine HLe.cons (by simp only [hget, Nat.reduceEqDiff, Nat.left_eq_add, Nat.add_eq_left, nm_ne2, nm_en2, nm_ne3, nm_en3, nm_ne4, nm_en4, nm_ne5, nm_en5, reduceIte, ↓reduceIte] <;> first | rfl | ((repeat rw [if_neg (by omega)]) <;> rfl)) ?_ | refine HLe.skip hnm (by omega) ?_ | refine HLe.frz hnm (by omega) ?_ | refine HLe.del hnm (by omega) ?_)) (idx_at (p := fun x => v == x) hil hgi e).symm
        · have e' : (v == (l.getD i .nil).i) = false := by simpa using e
          simp (maxSteps := 4000000) only [go_sem, goD_calls, eq_self, implies_true, Int.reduceEq, Int.reduceBEq, Int.reduceBNe, Int.reduceLE, Int.reduceLT, Int.reduceAdd, Int.reduceSub, Int.reduceMul, Int.reduceNeg, Nat.reduceMul, Nat.reduceSub, Nat.reduceLeDiff, Nat.reduceLT, Nat.reduceEqDiff, Nat.reduceAdd, reduceCtorEq, ↓reduceIte, reduceIte, c1, e', Int.toNat_natCast, min_i64, max_i64]
          repeat refine ⟨by omega, ?_⟩
          refine hB _ ⟨i + 1, by omega, fun j hj => by
            by_cases e : j = i
            · exact e ▸ e'
            · exact hgi j (by omega)⟩ (by simp only []; omega) ?_
          refine leq_id ?_ (by (simp only [frLt_cons, frLt_nil, and_true, SV.lt, SV.ltL, true_and] <;> omega)) (by ((try simp only []); repeat first | exact HLe.refl _ | refine HLe.cons (by simp only [hget, Nat.reduceEqDiff, Nat.left_eq_add, Nat.add_eq_left, nm_ne2, nm_en2, nm_ne3, nm_en3, nm_ne4, nm_en4, nm_ne5, nm_en5, reduceIte, ↓reduceIte] <;> first | rfl | ((repeat rw [if_neg (by omega)]) <;> rfl)) ?_ | refine HLe.skip hnm (by omega) ?_ | refine HLe.frz hnm (by omega) ?_ | refine HLe.del hnm (by omega) ?_)) (by (repeat first | exact HLt.mono hnm (by simp only [] <;> omega) | refine HLt.cons (by simp only [] <;> omega) (by simp only [Tok.lt, SV.ltL, SV.lt, and_true, true_and] <;> omega) ?_)) (by simp only [] <;> omega)
          simp only [frEq_cons, frEq_nil, frIn_cons, frIn_nil, and_true, fget_cons, Nat.reduceEqDiff, reduceIte, ↓reduceIte, true_and, SV.ren, SV.renL, ren1]
          simp
      · obtain rfl : i = l.length := by omega
        have c1 : decide ((l.length : Int) < (l.length : Int)) = false := decide_eq_false (by omega)
        simp (maxSteps := 4000000) only [go_sem, goD_calls, eq_self, implies_true, Int.reduceEq, Int.reduceBEq, Int.reduceBNe, Int.reduceLE, Int.reduceLT, Int.reduceAdd, Int.reduceSub, Int.reduceMul, Int.reduceNeg, Nat.reduceMul, Nat.reduceSub, Nat.reduceLeDiff, Nat.reduceLT, Nat.reduceEqDiff, Nat.reduceAdd, reduceCtorEq, ↓reduceIte, reduceIte, c1]
        exact ret _ _ _ (by ((try simp only []); repeat first | exact HLe.refl _ | refine HLe.cons (by simp only [hget, Nat.reduceEqDiff, Nat.left_eq_add, Nat.add_eq_left, nm_ne2, nm_en2, nm_ne3, nm_en3, nm_ne4, nm_en4, nm_ne5, nm_en5, reduceIte, ↓reduceIte] <;> first | rfl | ((repeat rw [if_neg (by omega)]) <;> rfl)) ?_ | refine HLe.skip hnm (by omega) ?_ | refine HLe.frz hnm (by omega) ?_ | refine HLe.del hnm (by omega) ?_)) (idx_none (p := fun x => v == x) hgi).symm
  · exact hsp.elim

def WSContains : Opts := mkWE 9 [] [] [] 184 [] []
def icSContains : IC := (.seq (.seq (.ops [(.u (.mov 4 (.c (.bool false))))]) (.tr [0, 1])) (.seq (.seq (.ops [(.u (.mov 5 (.s 0))), (.u (.mov 6 (.s 1))), (.u (.call 7 (.c (.clo 68 [])) [(.s 5), (.s 6)] [(some 3), none] true)), (.u (.cmp 8 .geq (.s 7) (.c (.int .i64 0)))), (.u (.mov 4 (.s 8)))]) (.tr [4])) .ret))
def rsSContains : List RV := [(.t 4)]
theorem irSContains : fnIR Tryd.prog WSContains 69 = some (icSContains, rsSContains) := by kernel_rfl
def hasI (l : List D) (v : Int) : Bool := l.any (fun x => v == x.i)
def spSContains : FSpec := fun args h nx K => match args with
  | [.dat (.slice t) d, .int .i64 v] => t = 3 ∧ K (.bool (hasI d.l v)) h
  | _ => False
set_option maxHeartbeats 4000000 in
set_option maxRecDepth 8000 in
theorem vSContains {E : Nat → Value} (hE : Errs2 Tryd.prog (some 184) E) : Valid Tryd.prog E (gs []) 69 spSContains := by
  refine valid_go (W := WSContains) hE (allValid_bot.add (up (vSIndex hE))) irSContains (by decide) (fun args h nx K hsp hok hnm => ?_)
  unfold spSContains at hsp
  split at hsp
  · rename_i t d v
    obtain ⟨rfl, hK⟩ := hsp
    refine ⟨by simp [WSContains, mkW, mkWE, mkWF], fun Q hQ => ?_⟩
    simp (maxSteps := 4000000) only [icSContains, go_sem, goD_calls, eq_self, implies_true, Int.reduceEq, Int.reduceBEq, Int.reduceBNe, Int.reduceLE, Int.reduceLT, Int.reduceAdd, Int.reduceSub, Int.reduceMul, Int.reduceNeg, Nat.reduceMul, Nat.reduceSub, Nat.reduceLeDiff, Nat.reduceLT, Nat.reduceEqDiff, Nat.reduceAdd, reduceCtorEq, ↓reduceIte, reduceIte, spSIndex]
    refine (hQ _ ?_).1
    refine fin_t (.bool _) rfl rfl hnm (by ((try simp only []); repeat first | exact HLe.refl _ | refine HLe.cons (by simp only [hget, Nat.reduceEqDiff, Nat.left_eq_add, Nat.add_eq_left, nm_ne2, nm_en2, nm_ne3, nm_en3, nm_ne4, nm_en4, nm_ne5, nm_en5, reduceIte, ↓reduceIte] <;> first | rfl | ((repeat rw [if_neg (by omega)]) <;> rfl)) ?_ | refine HLe.skip hnm (by omega) ?_ | refine HLe.frz hnm (by omega) ?_ | refine HLe.del hnm (by omega) ?_)) ?_
    rw [idx_any (fun x => v == x) d.l]
    exact hK
  · exact hsp.elim

def nodeB (n : Int) : Bool := decide (0 ≤ n) && decide (n < 64)
def WCNode : Opts := mkWE 9 [] [] [] 184 [] []
def icCNode : IC := (.seq (.seq (.ops [(.u (.mov 2 (.c (.bool false))))]) (.tr [0])) (.seq (.seq (.ops [(.u (.mov 3 (.s 0))), (.u (.cmp 4 .geq (.s 3) (.c (.int .i64 0)))), (.u (.mov 5 (.s 4))), (.g 5 true (some 6) (.mov 6 (.s 0))), (.g 5 true (some 7) (.cmp 7 .lss (.s 6) (.c (.int .i64 64)))), (.u (.pck 8 (.s 5) (.s 7) (.c (.bool false)))), (.u (.mov 2 (.s 8)))]) (.tr [2])) .ret))
def rsCNode : List RV := [(.t 2)]
theorem irCNode : fnIR Tryd.prog WCNode 70 = some (icCNode, rsCNode) := by kernel_rfl
def spCNode : FSpec := fun args h nx K => match args with
  | [.int .i64 n] => K (.bool (nodeB n)) h
  | _ => False
set_option maxHeartbeats 4000000 in
set_option maxRecDepth 8000 in
theorem vCNode {E : Nat → Value} (hE : Errs2 Tryd.prog (some 184) E) : Valid Tryd.prog E (gs []) 70 spCNode := by
  refine valid_go (W := WCNode) hE allValid_bot irCNode (by decide) (fun args h nx K hsp hok hnm => ?_)
  unfold spCNode at hsp
  split at hsp
  · rename_i n
    refine ⟨by simp [WCNode, mkW, mkWE, mkWF], fun Q hQ => ?_⟩
    have ret : ∀ b h' nx', HLe h h' → b = nodeB n → Q Ex.ret ⟨[(2, .bool b)], h', nx'⟩ := fun b h' nx' hh hb => by
      refine (hQ _ ?_).1
      subst hb
      exact fin_t (.bool _) rfl rfl hnm hh hsp
    by_cases h0 : 0 ≤ n
    · have c0 : decide (0 ≤ n) = true := decide_eq_true h0
      simp (maxSteps := 4000000) only [icCNode, go_sem, goD_calls, eq_self, implies_true, Int.reduceEq, Int.reduceBEq, Int.reduceBNe, Int.reduceLE, Int.reduceLT, Int.reduceAdd, Int.reduceSub, Int.reduceMul, Int.reduceNeg, Nat.reduceMul, Nat.reduceSub, Nat.reduceLeDiff, Nat.reduceLT, Nat.reduceEqDiff, Nat.reduceAdd, reduceCtorEq, ↓reduceIte, reduceIte, c0]
      exact ret _ _ _ (by ((try simp only []); repeat first | exact HLe.refl _ | refine HLe.cons (by simp only [hget, Nat.reduceEqDiff, Nat.left_eq_add, Nat.add_eq_left, nm_ne2, nm_en2, nm_ne3, nm_en3, nm_ne4, nm_en4, nm_ne5, nm_en5, reduceIte, ↓reduceIte] <;> first | rfl | ((repeat rw [if_neg (by omega)]) <;> rfl)) ?_ | refine HLe.skip hnm (by omega) ?_ | refine HLe.frz hnm (by omega) ?_ | refine HLe.del hnm (by omega) ?_)) (by unfold nodeB; rw [c0, Bool.true_and])
    · have c0 : decide (0 ≤ n) = false := decide_eq_false h0
      simp (maxSteps := 4000000) only [icCNode, go_sem, goD_calls, eq_self, implies_true, Int.reduceEq, Int.reduceBEq, Int.reduceBNe, Int.reduceLE, Int.reduceLT, Int.reduceAdd, Int.reduceSub, Int.reduceMul, Int.reduceNeg, Nat.reduceMul, Nat.reduceSub, Nat.reduceLeDiff, Nat.reduceLT, Nat.reduceEqDiff, Nat.reduceAdd, reduceCtorEq, ↓reduceIte, reduceIte, c0]
      exact ret _ _ _ (by ((try simp only []); repeat first | exact HLe.refl _ | refine HLe.cons (by simp only [hget, Nat.reduceEqDiff, Nat.left_eq_add, Nat.add_eq_left, nm_ne2, nm_en2, nm_ne3, nm_en3, nm_ne4, nm_en4, nm_ne5, nm_en5, reduceIte, ↓reduceIte] <;> first | rfl | ((repeat rw [if_neg (by omega)]) <;> rfl)) ?_ | refine HLe.skip hnm (by omega) ?_ | refine HLe.frz hnm (by omega) ?_ | refine HLe.del hnm (by omega) ?_)) (by unfold nodeB; rw [c0, Bool.false_and])
  · exact hsp.elim
def WCValid1 : Opts := mkWE 6 [] [] [] 184 [] []
def icCValid1 : IC := (.seq (.seq (.ops [(.u (.mov 2 (.c (.bool false))))]) (.tr [0])) (.seq (.seq (.ops [(.u (.mov 3 (.s 0))), (.u (.call 4 (.c (.clo 70 [])) [(.s 3)] [none] true)), (.u (.una 5 .not (.s 4))), (.u (.mov 2 (.s 5)))]) (.tr [2])) .ret))
def rsCValid1 : List RV := [(.t 2)]
theorem irCValid1 : fnIR Tryd.prog WCValid1 89 = some (icCValid1, rsCValid1) := by kernel_rfl
def spCValid1 : FSpec := fun args h nx K => match args with
  | [.int .i64 n] => K (.bool (!nodeB n)) h
  | _ => False
set_option maxHeartbeats 4000000 in
set_option maxRecDepth 8000 in
theorem vCValid1 {E : Nat → Value} (hE : Errs2 Tryd.prog (some 184) E) : Valid Tryd.prog E (gs []) 89 spCValid1 := by
  refine valid_go (W := WCValid1) hE (allValid_bot.add (up (vCNode hE))) irCValid1 (by decide) (fun args h nx K hsp hok hnm => ?_)
  unfold spCValid1 at hsp
  split at hsp
  · rename_i n
    refine ⟨by simp [WCValid1, mkW, mkWE, mkWF], fun Q hQ => ?_⟩
    simp (maxSteps := 4000000) only [icCValid1, go_sem, goD_calls, eq_self, implies_true, Int.reduceEq, Int.reduceBEq, Int.reduceBNe, Int.reduceLE, Int.reduceLT, Int.reduceAdd, Int.reduceSub, Int.reduceMul, Int.reduceNeg, Nat.reduceMul, Nat.reduceSub, Nat.reduceLeDiff, Nat.reduceLT, Nat.reduceEqDiff, Nat.reduceAdd, reduceCtorEq, ↓reduceIte, reduceIte, spCNode]
    refine (hQ _ ?_).1
    exact fin_t (.bool _) rfl rfl hnm (by ((try simp only []); repeat first | exact HLe.refl _ | refine HLe.cons (by simp only [hget, Nat.reduceEqDiff, Nat.left_eq_add, Nat.add_eq_left, nm_ne2, nm_en2, nm_ne3, nm_en3, nm_ne4, nm_en4, nm_ne5, nm_en5, reduceIte, ↓reduceIte] <;> first | rfl | ((repeat rw [if_neg (by omega)]) <;> rfl)) ?_ | refine HLe.skip hnm (by omega) ?_ | refine HLe.frz hnm (by omega) ?_ | refine HLe.del hnm (by omega) ?_)) hsp
  · exact hsp.elim

def WSIndexF : Opts := mkWE 19 [] [] [] 184 [] []
def icSIndexF : IC := (.seq (.seq (.ops [(.u (.mov 4 (.c (.int .i64 0))))]) (.tr [1, 0])) (.seq (.seq (.seq (.ops [(.u (.mov 6 (.s 0))), (.u (.len 7 false (.s 6))), (.u (.mov 8 (.c (.int .i64 0))))]) (.tr [7, 1, 0, 8])) (.block 0 (.loop (.seq (.seq (.ops [(.u (.cmp 9 .lss (.s 8) (.s 7)))]) (.tr [9, 8, 7, 1, 0])) (.seq (.cond (.s 9) .skip (.exit 0)) (.seq (.block 1 (.seq (.seq (.ops [(.u (.mov 10 (.s 8))), (.u (.mov 5 (.s 10)))]) (.tr [5, 8, 7, 1, 0])) (.seq (.seq (.ops [(.u (.mov 11 (.s 1))), (.u (.mov 12 (.s 0))), (.u (.mov 13 (.s 5))), (.u (.iad 14 3 (.int .i64) (.s 12) (.s 13))), (.u (.ld 15 (.int .i64) (.s 14))), (.u (.call 16 (.s 11) [(.s 15)] [none] true))]) (.tr [16, 5, 8, 7, 1, 0])) (.cond (.s 16) (.seq (.seq (.ops [(.u (.mov 17 (.s 5))), (.u (.mov 4 (.s 17)))]) (.tr [4])) .ret) .skip)))) (.seq (.ops [(.u (.bin 18 .add .i64 (.s 8) (.c (.int .i64 1)))), (.u (.mov 8 (.s 18)))]) (.tr [7, 1, 0, 8])))))))) (.seq (.seq (.ops [(.u (.mov 4 (.c (.int .i64 (-1)))))]) (.tr [4])) .ret)))
def rsSIndexF : List RV := [(.t 4)]
theorem irSIndexF : fnIR Tryd.prog WSIndexF 107 = some (icSIndexF, rsSIndexF) := by kernel_rfl
def spSIndexF : FSpec := fun args h nx K => match args with
  | [.dat (.slice t) d, .clo f []] => t = 3 ∧ f = 89 ∧ K (.int .i64 (idxI (fun x => !nodeB x) d.l)) h
  | _ => False
set_option maxHeartbeats 4000000 in
set_option maxRecDepth 8000 in
theorem vSIndexF {E : Nat → Value} (hE : Errs2 Tryd.prog (some 184) E) : Valid Tryd.prog E (gs []) 107 spSIndexF := by
  refine valid_go (W := WSIndexF) hE (allValid_bot.add (up (vCValid1 hE))) irSIndexF (by decide) (fun args h nx K hsp hok hnm => ?_)
  unfold spSIndexF at hsp
  split at hsp
  · rename_i t d f
    obtain ⟨rfl, rfl, hK⟩ := hsp
    refine ⟨by simp [WSIndexF, mkW, mkWE, mkWF], fun Q hQ => ?_⟩
    obtain ⟨hd, _⟩ := hok
    simp only [SV.ok] at hd
    obtain ⟨hd1, hd2, hd3⟩ := Wt.slice hd; generalize d.l = l at *; subst hd1
    have hml : maxLen ≤ 9223372036854775807 := by decide
    have ret : ∀ n h' nx', HLe h h' → n = idxI (fun x => !nodeB x) l → Q Ex.ret ⟨[(4, .int .i64 n)], h', nx'⟩ := fun n h' nx' hh hn => by
      refine (hQ _ ?_).1
      subst hn
      exact fin_t (.int .i64 _) rfl rfl hnm hh hK
    simp (maxSteps := 4000000) only [icSIndexF, go_sem, goD_calls, eq_self, implies_true, Int.reduceEq, Int.reduceBEq, Int.reduceBNe, Int.reduceLE, Int.reduceLT, Int.reduceAdd, Int.reduceSub, Int.reduceMul, Int.reduceNeg, Nat.reduceMul, Nat.reduceSub, Nat.reduceLeDiff, Nat.reduceLT, Nat.reduceEqDiff, Nat.reduceAdd, reduceCtorEq, ↓reduceIte, reduceIte]
    refine go_loop (α := { i : Nat // i ≤ l.length ∧ ∀ j, j < i → (!nodeB (l.getD j .nil).i) = false }) (I := fun i => { f := [(7, .int .i64 l.length), (1, .clo 89 []), (0, .dat (.slice 3) (.list l)), (8, .int .i64 i.1)], h := h, nx := nx }) (μ := fun i => l.length - i.1) _ _ _ ⟨0, by omega, fun j hj => absurd hj (by omega)⟩ ?_ (fun i B hB => ?_)
    · refine leq_id ?_ (by (simp only [frLt_cons, frLt_nil, and_true, SV.lt, SV.ltL, true_and] <;> omega)) (by ((try simp only []); repeat first | exact HLe.refl _ | refine HLe.cons (by simp only [hget, Nat.reduceEqDiff, Nat.left_eq_add, Nat.add_eq_left, nm_ne2, nm_en2, nm_ne3, nm_en3, nm_ne4, nm_en4, nm_ne5, nm_en5, reduceIte, ↓reduceIte] <;> first | rfl | ((repeat rw [if_neg (by omega)]) <;> rfl)) ?_ | refine HLe.skip hnm (by omega) ?_ | refine HLe.frz hnm (by omega) ?_ | refine HLe.del hnm (by omega) ?_)) (by (repeat first | exact HLt.mono hnm (by simp only [] <;> omega) | refine HLt.cons (by simp only [] <;> omega) (by simp only [Tok.lt, SV.ltL, SV.lt, and_true, true_and] <;> omega) ?_)) (by simp only [] <;> omega)
      simp only [frEq_cons, frEq_nil, frIn_cons, frIn_nil, and_true, fget_cons, Nat.reduceEqDiff, reduceIte, ↓reduceIte, true_and, SV.ren, SV.renL, ren1]
      simp
    · obtain ⟨i, hi, hgi⟩ := i
      simp only at hB
      by_cases hil : i < l.length
      · have c1 : decide ((i : Int) < (l.length : Int)) = true := decide_eq_true (by omega)
        cases e : (nodeB (l.getD i .nil).i)
        · simp (maxSteps := 4000000) only [go_sem, goD_calls, eq_self, implies_true, Int.reduceEq, Int.reduceBEq, Int.reduceBNe, Int.reduceLE, Int.reduceLT, Int.reduceAdd, Int.reduceSub, Int.reduceMul, Int.reduceNeg, Nat.reduceMul, Nat.reduceSub, Nat.reduceLeDiff, Nat.reduceLT, Nat.reduceEqDiff, Nat.reduceAdd, reduceCtorEq, ↓reduceIte, reduceIte, c1, e, spCValid1, Int.toNat_natCast]
          repeat refine ⟨by omega, ?_⟩
          exact ret _ _ _ (by ((try simp only []); repeat first | exact HLe.refl _ | refine HLe.cons (by simp only [hget, Nat.reduceEqDiff, Nat.left_eq_add, Nat.add_eq_left, nm_ne2, nm_en2, nm_ne3, nm_en3, nm_ne4, nm_en4, nm_ne5, nm_en5, reduceIte, ↓reduceIte] <;> first | rfl | ((repeat rw [if_neg (by omega)]) <;> rfl)) ?_ | refine HLe.skip hnm (by omega) ?_ | refine HLe.frz hnm (by omega) ?_ | refine HLe.del hnm (by omega) ?_)) (idx_at (p := fun x => !nodeB x) hil hgi (by simp only [e]; rfl)).symm
        · simp (maxSteps := 4000000) only [go_sem, goD_calls, eq_self, implies_true, Int.reduceEq, Int.reduceBEq, Int.reduceBNe, Int.reduceLE, Int.reduceLT, Int.reduceAdd, Int.reduceSub, Int.reduceMul, Int.reduceNeg, Nat.reduceMul, Nat.reduceSub, Nat.reduceLeDiff, Nat.reduceLT, Nat.reduceEqDiff, Nat.reduceAdd, reduceCtorEq, ↓reduceIte, reduceIte, c1, e, spCValid1, Int.toNat_natCast, min_i64, max_i64]
          repeat refine ⟨by omega, ?_⟩
          refine hB _ ⟨i + 1, by omega, fun j hj => by
            by_cases e2 : j = i
            · subst e2; rw [e]; rfl
            · exact hgi j (by omega)⟩ (by simp only []; omega) ?_
          refine leq_id ?_ (by (simp only [frLt_cons, frLt_nil, and_true, SV.lt, SV.ltL, true_and] <;> omega)) (by ((try simp only []); repeat first | exact HLe.refl _ | refine HLe.cons (by simp only [hget, Nat.reduceEqDiff, Nat.left_eq_add, Nat.add_eq_left, nm_ne2, nm_en2, nm_ne3, nm_en3, nm_ne4, nm_en4, nm_ne5, nm_en5, reduceIte, ↓reduceIte] <;> first | rfl | ((repeat rw [if_neg (by omega)]) <;> rfl)) ?_ | refine HLe.skip hnm (by omega) ?_ | refine HLe.frz hnm (by omega) ?_ | refine HLe.del hnm (by omega) ?_)) (by (repeat first | exact HLt.mono hnm (by simp only [] <;> omega) | refine HLt.cons (by simp only [] <;> omega) (by simp only [Tok.lt, SV.ltL, SV.lt, and_true, true_and] <;> omega) ?_)) (by simp only [] <;> omega)
          simp only [frEq_cons, frEq_nil, frIn_cons, frIn_nil, and_true, fget_cons, Nat.reduceEqDiff, reduceIte, ↓reduceIte, true_and, SV.ren, SV.renL, ren1]
          simp
      · obtain rfl : i = l.length := by omega
        have c1 : decide ((l.length : Int) < (l.length : Int)) = false := decide_eq_false (by omega)
        simp (maxSteps := 4000000) only [go_sem, goD_calls, eq_self, implies_true, Int.reduceEq, Int.reduceBEq, Int.reduceBNe, Int.reduceLE, Int.reduceLT, Int.reduceAdd, Int.reduceSub, Int.reduceMul, Int.reduceNeg, Nat.reduceMul, Nat.reduceSub, Nat.reduceLeDiff, Nat.reduceLT, Nat.reduceEqDiff, Nat.reduceAdd, reduceCtorEq, ↓reduceIte, reduceIte, c1]
        exact ret _ _ _ (by ((try simp only []); repeat first | exact HLe.refl _ | refine HLe.cons (by simp only [hget, Nat.reduceEqDiff, Nat.left_eq_add, Nat.add_eq_left, nm_ne2, nm_en2, nm_ne3, nm_en3, nm_ne4, nm_en4, nm_ne5, nm_en5, reduceIte, ↓reduceIte] <;> first | rfl | ((repeat rw [if_neg (by omega)]) <;> rfl)) ?_ | refine HLe.skip hnm (by omega) ?_ | refine HLe.frz hnm (by omega) ?_ | refine HLe.del hnm (by omega) ?_)) (idx_none (p := fun x => !nodeB x) hgi).symm
  · exact hsp.elim
def WSContainsF : Opts := mkWE 9 [] [] [] 184 [] []
def icSContainsF : IC := (.seq (.seq (.ops [(.u (.mov 4 (.c (.bool false))))]) (.tr [0, 1])) (.seq (.seq (.ops [(.u (.mov 5 (.s 0))), (.u (.mov 6 (.s 1))), (.u (.call 7 (.c (.clo 107 [])) [(.s 5), (.s 6)] [(some 3), none] true)), (.u (.cmp 8 .geq (.s 7) (.c (.int .i64 0)))), (.u (.mov 4 (.s 8)))]) (.tr [4])) .ret))
def rsSContainsF : List RV := [(.t 4)]
theorem irSContainsF : fnIR Tryd.prog WSContainsF 88 = some (icSContainsF, rsSContainsF) := by kernel_rfl
def badI (l : List D) : Bool := l.any (fun x => !nodeB x.i)
def spSContainsF : FSpec := fun args h nx K => match args with
  | [.dat (.slice t) d, .clo f []] => t = 3 ∧ f = 89 ∧ K (.bool (badI d.l)) h
  | _ => False
set_option maxHeartbeats 4000000 in
set_option maxRecDepth 8000 in
theorem vSContainsF {E : Nat → Value} (hE : Errs2 Tryd.prog (some 184) E) : Valid Tryd.prog E (gs []) 88 spSContainsF := by
  refine valid_go (W := WSContainsF) hE (allValid_bot.add (up (vSIndexF hE))) irSContainsF (by decide) (fun args h nx K hsp hok hnm => ?_)
  unfold spSContainsF at hsp
  split at hsp
  · rename_i t d f
    obtain ⟨rfl, rfl, hK⟩ := hsp
    refine ⟨by simp [WSContainsF, mkW, mkWE, mkWF], fun Q hQ => ?_⟩
    simp (maxSteps := 4000000) only [icSContainsF, go_sem, goD_calls, eq_self, implies_true, Int.reduceEq, Int.reduceBEq, Int.reduceBNe, Int.reduceLE, Int.reduceLT, Int.reduceAdd, Int.reduceSub, Int.reduceMul, Int.reduceNeg, Nat.reduceMul, Nat.reduceSub, Nat.reduceLeDiff, Nat.reduceLT, Nat.reduceEqDiff, Nat.reduceAdd, reduceCtorEq, ↓reduceIte, reduceIte, spSIndexF]
    refine (hQ _ ?_).1
    refine fin_t (.bool _) rfl rfl hnm (by ((try simp only []); repeat first | exact HLe.refl _ | refine HLe.cons (by simp only [hget, Nat.reduceEqDiff, Nat.left_eq_add, Nat.add_eq_left, nm_ne2, nm_en2, nm_ne3, nm_en3, nm_ne4, nm_en4, nm_ne5, nm_en5, reduceIte, ↓reduceIte] <;> first | rfl | ((repeat rw [if_neg (by omega)]) <;> rfl)) ?_ | refine HLe.skip hnm (by omega) ?_ | refine HLe.frz hnm (by omega) ?_ | refine HLe.del hnm (by omega) ?_)) ?_
    rw [idx_any (fun x => !nodeB x) d.l]
    exact hK
  · exact hsp.elim
end Go.Proofs.YtkojpimkngmckaaDoor
