/- Chapter 14: what each node told: Born, Ack, SCL, Drop. -/
import Derived.Test.YtkojpimkngmckaaDoorConfQ
import Derived.Test.YtkojpimkngmckaaDoorAt
namespace Go.Proofs.YtkojpimkngmckaaDoor
set_option linter.unusedVariables false
set_option linter.unusedSimpArgs false
open Go Go.Fw
attribute [local go_sem] walkSet evMdl evMupD evMup evLkp frpL preF preP prePt prePd frzP evNlq ev frOf oget ogets argSs argS evMm frzL evBin evWrp evShf evCmp evUna evNil evBeq evLd evSt evFad evIad evAad evLen evSln evEls evApp evParts evSlc evNlc evMif evPck evFld evBld evTas evIfq evSeq evSl0 evBxf evAgl evAgq evBsf hget hset hdel cellAt arrAt setCellAt setArrAt takeC lenC svCells SV.okc SV.one ldSV Fw.isAgg explode explodeL toD toDL toD1 Ty.size Ty.sizeL frz1 Fr.sub Heap.sub Tok.sub SV.sub SV.subL

def tTok (m : List D) (p : D) (w : List D) (n : Int) (a b : Nat) : Tok := .cells [.dat (.slice 3) (.list m), .dat (.ptr 139) p, .dat (.slice 3) (.list w), .int .i64 n, .vec a, .vec b]
def tOk (r : Option Tok) : Prop := ∃ m p w n a b, r = some (.cells [.dat (.slice 3) (.list m), .dat (.ptr 139) p, .dat (.slice 3) (.list w), .int .i64 n, .vec a, .vec b])
def tM (r : Option Tok) : List D := match r with | some (.cells (.dat _ d :: _)) => d.l | _ => []
def tP (r : Option Tok) : D := match r with | some (.cells (_ :: .dat _ p :: _)) => p | _ => .nil
def tA (r : Option Tok) : Nat := match r with | some (.cells [_, _, _, _, .vec a, _]) => a | _ => 0
def tB (r : Option Tok) : Nat := match r with | some (.cells [_, _, _, _, _, .vec b]) => b | _ => 0
def sOk (r : Option Tok) : Prop := ∃ f, r = some (.map 3 2 f)
def iOk (r : Option Tok) : Prop := ∃ f, r = some (.map 3 3 f)
def mF (r : Option Tok) : Int → Option D := match r with | some (.map _ _ f) => f | _ => mEmpty
section
variable (m w : List D) (p : D) (n : Int) (a b : Nat) (f : Int → Option D) (x1 x2 x3 x4 x5 x6 : SV) (l : List SV) (t u : TypeId)
theorem tOk_c : tOk (some (.cells [.dat (.slice 3) (.list m), .dat (.ptr 139) p, .dat (.slice 3) (.list w), .int .i64 n, .vec a, .vec b])) = True := eq_true ⟨m, p, w, n, a, b, rfl⟩
theorem tM_c (q : Ty) : tM (some (.cells (.dat q (.list m) :: l))) = m := rfl
theorem tP_c (q : Ty) : tP (some (.cells (x1 :: .dat q p :: l))) = p := rfl
theorem tA_c : tA (some (.cells [x1, x2, x3, x4, .vec a, x6])) = a := rfl
theorem tB_c : tB (some (.cells [x1, x2, x3, x4, x5, .vec b])) = b := rfl
theorem sOk_c : sOk (some (.map 3 2 f)) = True := eq_true ⟨f, rfl⟩
theorem iOk_c : iOk (some (.map 3 3 f)) = True := eq_true ⟨f, rfl⟩
theorem mF_c : mF (some (.map t u f)) = f := rfl
end
/-- What a map has for a key; none: 0. -/
def atI (f : Int → Option D) (n : Int) : Int := (mGet f (.int 0) n).i
theorem atI_def (f : Int → Option D) (n : Int) : (mGet f (.int 0) n).i = atI f n := rfl
theorem atI_empty (n : Int) : atI mEmpty n = 0 := rfl
theorem atI_set (f : Int → Option D) (i v n : Int) : atI (mSet f i (.int v)) n = if n = i then v else atI f n := by
  unfold atI mGet mSet
  split <;> rfl
theorem atI_del (f : Int → Option D) (i n : Int) : atI (mDel f i) n = if n = i then 0 else atI f n := by
  unfold atI mGet mDel
  split <;> rfl

def WTScl : Opts := mkWE 11 [] [] [] 184 [] []
def icTScl : IC := (.seq (.seq (.ops [(.u (.mov 4 (.c (.int .i64 0))))]) (.tr [0, 1])) (.seq (.seq (.ops [(.u (.mov 5 (.s 0))), (.u (.nlc 6 (.s 5))), (.u (.fad 7 2 4 (.map 3 2) 109 (.s 6))), (.u (.ld 8 (.map 3 2) (.s 7))), (.u (.mov 9 (.s 1))), (.u (.lkp 10 3 2 .i64 (.int .i64) (.int 0) false (.s 8) (.s 9))), (.u (.mov 4 (.s 10)))]) (.tr [4])) .ret))
def rsTScl : List RV := [(.t 4)]
theorem irTScl : fnIR Tryd.prog WTScl 28 = some (icTScl, rsTScl) := by kernel_rfl
def spTScl : FSpec := fun args h nx K => match args with
  | [.ptr r 0, .int .i64 n] => tOk (hget h r) ∧ sOk (hget h (tA (hget h r))) ∧ K (.int .i64 (atI (mF (hget h (tA (hget h r)))) n)) h
  | _ => False
set_option maxHeartbeats 4000000 in
set_option maxRecDepth 8000 in
theorem vTScl {E : Nat → Value} (hE : Errs2 Tryd.prog (some 184) E) : Valid Tryd.prog E (gs []) 28 spTScl := by
  refine valid_go (W := WTScl) hE allValid_bot irTScl (by decide) (fun args h nx K hsp hok hnm => ?_)
  unfold spTScl at hsp
  split at hsp
  · rename_i r n
    obtain ⟨⟨m, p, w, k, a, b, hr⟩, hs, hK⟩ := hsp
    rw [hr, tA_c] at hs hK
    obtain ⟨f, ha⟩ := hs
    rw [ha, mF_c] at hK
    refine ⟨by simp [WTScl, mkW, mkWE, mkWF], fun Q hQ => ?_⟩
    simp (maxSteps := 4000000) only [icTScl, go_sem, goD_calls, eq_self, implies_true, Int.reduceEq, Int.reduceBEq, Int.reduceBNe, Int.reduceLE, Int.reduceLT, Int.reduceAdd, Int.reduceSub, Int.reduceMul, Int.reduceNeg, Nat.reduceMul, Nat.reduceSub, Nat.reduceLeDiff, Nat.reduceLT, Nat.reduceEqDiff, Nat.reduceAdd, reduceCtorEq, ↓reduceIte, reduceIte, hr, ha]
    refine (hQ _ ?_).1
    exact fin_t (.int .i64 _) rfl rfl hnm (by ((try simp only []); repeat first | exact HLe.refl _ | refine HLe.cons (by simp only [hget, Nat.reduceEqDiff, Nat.left_eq_add, Nat.add_eq_left, nm_ne2, nm_en2, nm_ne3, nm_en3, nm_ne4, nm_en4, nm_ne5, nm_en5, reduceIte, ↓reduceIte] <;> first | rfl | ((repeat rw [if_neg (by omega)]) <;> rfl)) ?_ | refine HLe.skip hnm (by omega) ?_ | refine HLe.frz hnm (by omega) ?_ | refine HLe.del hnm (by omega) ?_)) hK
  · exact hsp.elim

def WTDrop : Opts := mkWE 9 [] [] [] 184 [] []
def icTDrop : IC := (.seq (.ops [(.u (.mov 4 (.s 0))), (.u (.nlc 5 (.s 4))), (.u (.fad 6 2 4 (.map 3 2) 109 (.s 5))), (.u (.ld 7 (.map 3 2) (.s 6))), (.u (.mov 8 (.s 1))), (.u (.mdn 3 2 .i64 (.s 7) (.s 8)))]) (.tr []))
def rsTDrop : List RV := []
theorem irTDrop : fnIR Tryd.prog WTDrop 29 = some (icTDrop, rsTDrop) := by kernel_rfl
def spTDrop : FSpec := fun args h nx K => match args with
  | [.ptr r 0, .int .i64 n] => tOk (hget h r) ∧ sOk (hget h (tA (hget h r))) ∧ K (.tup []) (hset h (tA (hget h r)) (.map 3 2 (mDel (mF (hget h (tA (hget h r)))) n)))
  | _ => False
set_option maxHeartbeats 4000000 in
set_option maxRecDepth 8000 in
theorem vTDrop {E : Nat → Value} (hE : Errs2 Tryd.prog (some 184) E) : Valid Tryd.prog E (gs []) 29 spTDrop := by
  refine valid_go (W := WTDrop) hE allValid_bot irTDrop (by decide) (fun args h nx K hsp hok hnm => ?_)
  unfold spTDrop at hsp
  split at hsp
  · rename_i r n
    obtain ⟨⟨m, p, w, k, a, b, hr⟩, hs, hK⟩ := hsp
    rw [hr, tA_c] at hs hK
    obtain ⟨f, ha⟩ := hs
    rw [ha, mF_c] at hK
    refine ⟨by simp [WTDrop, mkW, mkWE, mkWF], fun Q hQ => ?_⟩
    simp (maxSteps := 4000000) only [icTDrop, go_sem, goD_calls, eq_self, implies_true, Int.reduceEq, Int.reduceBEq, Int.reduceBNe, Int.reduceLE, Int.reduceLT, Int.reduceAdd, Int.reduceSub, Int.reduceMul, Int.reduceNeg, Nat.reduceMul, Nat.reduceSub, Nat.reduceLeDiff, Nat.reduceLT, Nat.reduceEqDiff, Nat.reduceAdd, reduceCtorEq, ↓reduceIte, reduceIte, hr, ha]
    refine (hQ _ ?_).2
    exact fin_0 (HLt.hset hnm (by exact trivial)) (HLe.refl _) hK
  · exact hsp.elim

def WTBorn : Opts := mkWE 25 [] [] [] 184 [] []
def icTBorn : IC := (.seq (.seq (.ops [(.u (.mov 6 (.s 0))), (.u (.nlc 7 (.s 6))), (.u (.fad 8 3 5 (.map 3 3) 109 (.s 7))), (.u (.ld 9 (.map 3 3) (.s 8))), (.u (.mov 10 (.s 1))), (.u (.lkp 11 3 3 .i64 (.int .i64) (.int 0) false (.s 9) (.s 10))), (.u (.mov 12 (.s 2))), (.u (.cmp 13 .neq (.s 11) (.s 12)))]) (.tr [13, 2, 0, 1])) (.cond (.s 13) (.seq (.seq (.ops [(.u (.mov 14 (.s 0))), (.u (.nlc 15 (.s 14))), (.u (.fad 16 3 5 (.map 3 3) 109 (.s 15))), (.u (.ld 17 (.map 3 3) (.s 16))), (.u (.mov 18 (.s 1))), (.u (.mov 19 (.s 2))), (.u (.mup 3 3 .i64 (.int .i64) (.s 17) (.s 18) (.s 19)))]) (.tr [0, 1])) (.seq (.ops [(.u (.mov 20 (.s 0))), (.u (.nlc 21 (.s 20))), (.u (.fad 22 2 4 (.map 3 2) 109 (.s 21))), (.u (.ld 23 (.map 3 2) (.s 22))), (.u (.mov 24 (.s 1))), (.u (.mdn 3 2 .i64 (.s 23) (.s 24)))]) (.tr []))) .skip))
def rsTBorn : List RV := []
theorem irTBorn : fnIR Tryd.prog WTBorn 32 = some (icTBorn, rsTBorn) := by kernel_rfl
def spTBorn : FSpec := fun args h nx K => match args with
  | [.ptr r 0, .int .i64 n, .int .i64 inc] => tOk (hget h r) ∧ sOk (hget h (tA (hget h r))) ∧ iOk (hget h (tB (hget h r))) ∧
      (atI (mF (hget h (tB (hget h r)))) n = inc → K (.tup []) h) ∧
      (atI (mF (hget h (tB (hget h r)))) n ≠ inc → K (.tup []) (hset (hset h (tB (hget h r)) (.map 3 3 (mSet (mF (hget h (tB (hget h r)))) n (.int inc)))) (tA (hget h r)) (.map 3 2 (mDel (mF (hget h (tA (hget h r)))) n))))
  | _ => False
theorem tok_names {h : Heap} {a b : Nat} {f g : Int → Option D} (ha : hget h a = some (.map 3 2 f)) (hb : hget h b = some (.map 3 3 g)) : b ≠ a := by
  intro e
  subst e
  rw [ha] at hb
  simp at hb
theorem tok_ne {h : Heap} {r a : Nat} {t u : TypeId} {f : Int → Option D} {l : List SV} (hr : hget h r = some (.cells l)) (ha : hget h a = some (.map t u f)) : a ≠ r := by
  intro e
  subst e
  rw [ha] at hr
  simp at hr
theorem hget_ne {h : Heap} {n m : Nat} {t u : Tok} (hn : hget h n = some u) (hm : n ≠ m) : hget (hset h n t) m = hget h m := by rw [hget_hset hn, if_neg hm]
theorem hget_eq {h : Heap} {n : Nat} {t u : Tok} (hn : hget h n = some u) : hget (hset h n t) n = some t := by rw [hget_hset hn, if_pos rfl]
set_option maxHeartbeats 4000000 in
set_option maxRecDepth 8000 in
theorem vTBorn {E : Nat → Value} (hE : Errs2 Tryd.prog (some 184) E) : Valid Tryd.prog E (gs []) 32 spTBorn := by
  refine valid_go (W := WTBorn) hE allValid_bot irTBorn (by decide) (fun args h nx K hsp hok hnm => ?_)
  unfold spTBorn at hsp
  split at hsp
  · rename_i r n inc
    obtain ⟨⟨m, p, w, k, a, b, hr⟩, hs, hi, hsame, hnew⟩ := hsp
    rw [hr, tA_c] at hs
    rw [hr, tB_c] at hi hsame hnew
    rw [tA_c] at hnew
    obtain ⟨f, ha⟩ := hs
    obtain ⟨g, hb⟩ := hi
    rw [hb, mF_c] at hsame hnew
    rw [ha, mF_c] at hnew
    have e1 := tok_names ha hb
    have e2 := tok_ne hr hb
    have e3 := tok_ne hr ha
    refine ⟨by simp [WTBorn, mkW, mkWE, mkWF], fun Q hQ => ?_⟩
    have s1 := fun t : Tok => hget_ne (t := t) hb e1
    have s2 := fun t : Tok => hget_ne (t := t) hb e2
    by_cases h1 : atI g n = inc
    · have c1 : (atI g n != inc) = false := by rw [bne_eq_false_iff_eq]; exact h1
      simp (maxSteps := 4000000) only [icTBorn, go_sem, goD_calls, eq_self, implies_true, Int.reduceEq, Int.reduceBEq, Int.reduceBNe, Int.reduceLE, Int.reduceLT, Int.reduceAdd, Int.reduceSub, Int.reduceMul, Int.reduceNeg, Nat.reduceMul, Nat.reduceSub, Nat.reduceLeDiff, Nat.reduceLT, Nat.reduceEqDiff, Nat.reduceAdd, reduceCtorEq, ↓reduceIte, reduceIte, hr, hb, atI_def, c1]
      refine (hQ _ ?_).2
      exact fin_0 hnm (HLe.refl _) (hsame h1)
    · have c1 : (atI g n != inc) = true := by rw [bne_iff_ne]; exact h1
      simp (maxSteps := 4000000) only [icTBorn, go_sem, goD_calls, eq_self, implies_true, Int.reduceEq, Int.reduceBEq, Int.reduceBNe, Int.reduceLE, Int.reduceLT, Int.reduceAdd, Int.reduceSub, Int.reduceMul, Int.reduceNeg, Nat.reduceMul, Nat.reduceSub, Nat.reduceLeDiff, Nat.reduceLT, Nat.reduceEqDiff, Nat.reduceAdd, reduceCtorEq, ↓reduceIte, reduceIte, hr, hb, ha, s1, s2, atI_def, c1]
      refine (hQ _ ?_).2
      exact fin_0 (HLt.hset (HLt.hset hnm (by exact trivial)) (by exact trivial)) (HLe.refl _) (hnew h1)
  · exact hsp.elim

def WTAck : Opts := mkWE 47 [] [] [] 184 [] []
def icTAck : IC := (.seq (.seq (.ops [(.u (.mov 8 (.c (.bool false))))]) (.tr [2, 0, 1, 3])) (.seq (.seq (.seq (.ops [(.u (.mov 9 (.s 0))), (.u (.nlc 10 (.s 9))), (.u (.fad 11 0 0 (.slice 3) 109 (.s 10))), (.u (.ld 12 (.slice 3) (.s 11))), (.u (.mov 13 (.s 1))), (.u (.call 14 (.c (.clo 69 [])) [(.s 12), (.s 13)] [(some 3), none] true)), (.u (.una 15 .not (.s 14))), (.u (.mov 16 (.s 15))), (.g 16 false (some 17) (.mov 17 (.s 0))), (.g 16 false (some 18) (.nlc 18 (.s 17))), (.g 16 false (some 19) (.fad 19 3 5 (.map 3 3) 109 (.s 18))), (.g 16 false (some 20) (.ld 20 (.map 3 3) (.s 19))), (.g 16 false (some 21) (.mov 21 (.s 1))), (.g 16 false (some 22) (.lkp 22 3 3 .i64 (.int .i64) (.int 0) false (.s 20) (.s 21))), (.g 16 false (some 23) (.mov 23 (.s 2))), (.g 16 false (some 24) (.cmp 24 .neq (.s 22) (.s 23))), (.u (.pck 25 (.s 16) (.c (.bool true)) (.s 24))), (.u (.mov 26 (.s 25))), (.g 26 false (some 27) (.mov 27 (.s 3))), (.g 26 false (some 28) (.cmp 28 .lss (.s 27) (.c (.int .i64 0)))), (.u (.pck 29 (.s 26) (.c (.bool true)) (.s 28))), (.u (.mov 30 (.s 29))), (.g 30 false (some 31) (.mov 31 (.s 3))), (.g 30 false (some 32) (.cmp 32 .gtr (.s 31) (.c (.int .i64 1099511627776)))), (.u (.pck 33 (.s 30) (.c (.bool true)) (.s 32)))]) (.tr [33, 0, 1, 3])) (.cond (.s 33) (.seq (.seq (.ops [(.u (.mov 8 (.c (.bool false))))]) (.tr [8])) .ret) .skip)) (.seq (.seq (.rgn [] [(false, (.u (.mov 34 (.s 0)))), (false, (.u (.nlc 35 (.s 34)))), (false, (.u (.fad 36 2 4 (.map 3 2) 109 (.s 35)))), (false, (.u (.ld 37 (.map 3 2) (.s 36)))), (false, (.u (.mov 38 (.s 1)))), (false, (.u (.mov 39 (.s 0)))), (false, (.u (.nlc 40 (.s 39)))), (false, (.u (.fad 41 2 4 (.map 3 2) 109 (.s 40)))), (false, (.u (.ld 42 (.map 3 2) (.s 41)))), (false, (.u (.mov 43 (.s 1)))), (false, (.u (.lkp 44 3 2 .i64 (.int .i64) (.int 0) false (.s 42) (.s 43)))), (false, (.u (.mov 45 (.s 3)))), (false, (.u (.mmx 46 true [(.s 44), (.s 45)]))), (false, (.u (.mup 3 2 .i64 (.int .i64) (.s 37) (.s 38) (.s 46))))]) (.tr [])) (.seq (.seq (.ops [(.u (.mov 8 (.c (.bool true))))]) (.tr [8])) .ret))))
def rsTAck : List RV := [(.t 8)]
theorem irTAck : fnIR Tryd.prog WTAck 26 = some (icTAck, rsTAck) := by kernel_rfl
def ackB (m : List D) (g : Int → Option D) (n inc scl : Int) : Bool := hasI m n && (atI g n == inc) && decide (0 ≤ scl) && decide (scl ≤ 1099511627776)
def spTAck : FSpec := fun args h nx K => match args with
  | [.ptr r 0, .int .i64 n, .int .i64 inc, .int .i64 scl] => tOk (hget h r) ∧ sOk (hget h (tA (hget h r))) ∧ iOk (hget h (tB (hget h r))) ∧
      (ackB (tM (hget h r)) (mF (hget h (tB (hget h r)))) n inc scl = false → K (.bool false) h) ∧
      (ackB (tM (hget h r)) (mF (hget h (tB (hget h r)))) n inc scl = true → K (.bool true) (hset h (tA (hget h r)) (.map 3 2 (mSet (mF (hget h (tA (hget h r)))) n (.int (max (atI (mF (hget h (tA (hget h r)))) n) scl))))))
  | _ => False
set_option maxHeartbeats 4000000 in
set_option maxRecDepth 8000 in
theorem vTAck {E : Nat → Value} (hE : Errs2 Tryd.prog (some 184) E) : Valid Tryd.prog E (gs []) 26 spTAck := by
  refine valid_go (W := WTAck) hE (allValid_bot.add (up (vSContains hE))) irTAck (by decide) (fun args h nx K hsp hok hnm => ?_)
  unfold spTAck at hsp
  split at hsp
  · rename_i r n inc scl
    obtain ⟨⟨m, p, w, k, a, b, hr⟩, hs, hi, hbad, hgood⟩ := hsp
    rw [hr, tA_c] at hs
    rw [hr, tB_c] at hi
    rw [hr, tB_c, tM_c] at hbad hgood
    rw [tA_c] at hgood
    obtain ⟨f, ha⟩ := hs
    obtain ⟨g, hb⟩ := hi
    rw [hb, mF_c] at hbad hgood
    rw [ha, mF_c] at hgood
    have hrx := (hnm r _ hr).1
    refine ⟨by simp [WTAck, mkW, mkWE, mkWF], fun Q hQ => ?_⟩
    have ret : ∀ h' nx', ackB m g n inc scl = false → HLe h h' → Q Ex.ret ⟨[(8, .bool false)], h', nx'⟩ := fun h' nx' hb hh => by
      refine (hQ _ ?_).1
      exact fin_t (.bool false) rfl rfl hnm hh (hbad hb)
    rcases bool_ft (hasI m n) with h1 | h1
    · simp (maxSteps := 4000000) only [icTAck, go_sem, goD_calls, eq_self, implies_true, Int.reduceEq, Int.reduceBEq, Int.reduceBNe, Int.reduceLE, Int.reduceLT, Int.reduceAdd, Int.reduceSub, Int.reduceMul, Int.reduceNeg, Nat.reduceMul, Nat.reduceSub, Nat.reduceLeDiff, Nat.reduceLT, Nat.reduceEqDiff, Nat.reduceAdd, reduceCtorEq, ↓reduceIte, reduceIte, hr, spSContains, h1]
      exact ret _ _ (by unfold ackB; rw [h1]; rfl) (by ((try simp only []); repeat first | exact HLe.refl _ | refine HLe.cons (by simp only [hget, Nat.reduceEqDiff, Nat.left_eq_add, Nat.add_eq_left, nm_ne2, nm_en2, nm_ne3, nm_en3, nm_ne4, nm_en4, nm_ne5, nm_en5, reduceIte, ↓reduceIte] <;> first | rfl | ((repeat rw [if_neg (by omega)]) <;> rfl)) ?_ | refine HLe.skip hnm (by omega) ?_ | refine HLe.frz hnm (by omega) ?_ | refine HLe.del hnm (by omega) ?_))
    rcases bool_ft (atI g n == inc) with h2 | h2
    · have c2 : (atI g n != inc) = true := by rw [bne, h2]; rfl
      simp (maxSteps := 4000000) only [icTAck, go_sem, goD_calls, eq_self, implies_true, Int.reduceEq, Int.reduceBEq, Int.reduceBNe, Int.reduceLE, Int.reduceLT, Int.reduceAdd, Int.reduceSub, Int.reduceMul, Int.reduceNeg, Nat.reduceMul, Nat.reduceSub, Nat.reduceLeDiff, Nat.reduceLT, Nat.reduceEqDiff, Nat.reduceAdd, reduceCtorEq, ↓reduceIte, reduceIte, hr, spSContains, h1, hb, atI_def, c2]
      exact ret _ _ (by unfold ackB; rw [h1, h2]; rfl) (by ((try simp only []); repeat first | exact HLe.refl _ | refine HLe.cons (by simp only [hget, Nat.reduceEqDiff, Nat.left_eq_add, Nat.add_eq_left, nm_ne2, nm_en2, nm_ne3, nm_en3, nm_ne4, nm_en4, nm_ne5, nm_en5, reduceIte, ↓reduceIte] <;> first | rfl | ((repeat rw [if_neg (by omega)]) <;> rfl)) ?_ | refine HLe.skip hnm (by omega) ?_ | refine HLe.frz hnm (by omega) ?_ | refine HLe.del hnm (by omega) ?_))
    have c2 : (atI g n != inc) = false := by rw [bne, h2]; rfl
    by_cases h3 : scl < 0
    · have c3 : decide (scl < 0) = true := decide_eq_true h3
      simp (maxSteps := 4000000) only [icTAck, go_sem, goD_calls, eq_self, implies_true, Int.reduceEq, Int.reduceBEq, Int.reduceBNe, Int.reduceLE, Int.reduceLT, Int.reduceAdd, Int.reduceSub, Int.reduceMul, Int.reduceNeg, Nat.reduceMul, Nat.reduceSub, Nat.reduceLeDiff, Nat.reduceLT, Nat.reduceEqDiff, Nat.reduceAdd, reduceCtorEq, ↓reduceIte, reduceIte, hr, spSContains, h1, hb, atI_def, c2, c3]
      exact ret _ _ (by unfold ackB; rw [h1, h2, decide_eq_false (show ¬ 0 ≤ scl by omega)]; rfl) (by ((try simp only []); repeat first | exact HLe.refl _ | refine HLe.cons (by simp only [hget, Nat.reduceEqDiff, Nat.left_eq_add, Nat.add_eq_left, nm_ne2, nm_en2, nm_ne3, nm_en3, nm_ne4, nm_en4, nm_ne5, nm_en5, reduceIte, ↓reduceIte] <;> first | rfl | ((repeat rw [if_neg (by omega)]) <;> rfl)) ?_ | refine HLe.skip hnm (by omega) ?_ | refine HLe.frz hnm (by omega) ?_ | refine HLe.del hnm (by omega) ?_))
    have c3 : decide (scl < 0) = false := decide_eq_false h3
    by_cases h4 : 1099511627776 < scl
    · have c4 : decide (1099511627776 < scl) = true := decide_eq_true h4
      simp (maxSteps := 4000000) only [icTAck, go_sem, goD_calls, eq_self, implies_true, Int.reduceEq, Int.reduceBEq, Int.reduceBNe, Int.reduceLE, Int.reduceLT, Int.reduceAdd, Int.reduceSub, Int.reduceMul, Int.reduceNeg, Nat.reduceMul, Nat.reduceSub, Nat.reduceLeDiff, Nat.reduceLT, Nat.reduceEqDiff, Nat.reduceAdd, reduceCtorEq, ↓reduceIte, reduceIte, hr, spSContains, h1, hb, atI_def, c2, c3, c4]
      exact ret _ _ (by unfold ackB; rw [h1, h2, decide_eq_false (show ¬ scl ≤ 1099511627776 by omega), Bool.and_false]) (by ((try simp only []); repeat first | exact HLe.refl _ | refine HLe.cons (by simp only [hget, Nat.reduceEqDiff, Nat.left_eq_add, Nat.add_eq_left, nm_ne2, nm_en2, nm_ne3, nm_en3, nm_ne4, nm_en4, nm_ne5, nm_en5, reduceIte, ↓reduceIte] <;> first | rfl | ((repeat rw [if_neg (by omega)]) <;> rfl)) ?_ | refine HLe.skip hnm (by omega) ?_ | refine HLe.frz hnm (by omega) ?_ | refine HLe.del hnm (by omega) ?_))
    have c4 : decide (1099511627776 < scl) = false := decide_eq_false h4
    simp (maxSteps := 4000000) only [icTAck, go_sem, goD_calls, eq_self, implies_true, Int.reduceEq, Int.reduceBEq, Int.reduceBNe, Int.reduceLE, Int.reduceLT, Int.reduceAdd, Int.reduceSub, Int.reduceMul, Int.reduceNeg, Nat.reduceMul, Nat.reduceSub, Nat.reduceLeDiff, Nat.reduceLT, Nat.reduceEqDiff, Nat.reduceAdd, reduceCtorEq, ↓reduceIte, reduceIte, hr, spSContains, h1, hb, ha, atI_def, c2, c3, c4]
    refine (hQ _ ?_).1
    exact fin_t (.bool true) rfl rfl (HLt.hset hnm (by exact trivial)) (HLe.refl _) (hgood (by unfold ackB; rw [h1, h2, decide_eq_true (show 0 ≤ scl by omega), decide_eq_true (show scl ≤ 1099511627776 by omega)]; rfl))
  · exact hsp.elim
end Go.Proofs.YtkojpimkngmckaaDoor
