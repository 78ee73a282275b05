/- Chapter 7: six, first. -/
import Derived.Test.YtkojpimkngmckaaDoorConfP
import Derived.Test.YtkojpimkngmckaaDoorInts
namespace Go.Proofs.YtkojpimkngmckaaDoor
set_option linter.unusedVariables false
set_option linter.unusedSimpArgs false
open Go Go.Fw
attribute [local go_sem] walkSet evMdl evMupD evMup evLkp frpL preF preP prePt prePd frzP evNlq ev frOf oget ogets argSs argS evMm frzL evBin evWrp evShf evCmp evUna evNil evBeq evLd evSt evFad evIad evAad evLen evSln evEls evApp evParts evSlc evNlc evMif evPck evFld evBld evTas evIfq evSeq evSl0 evBxf evAgl evAgq evBsf hget hset hdel cellAt arrAt setCellAt setArrAt takeC lenC svCells SV.okc SV.one ldSV Fw.isAgg explode explodeL toD toDL toD1 Ty.size Ty.sizeL frz1 Fr.sub Heap.sub Tok.sub SV.sub SV.subL

/-! ### Which nodes are enough, out of what is in memory -/
theorem QP.enc_inj : ∀ {a b : QP}, a.enc = b.enc → a = b
  | .of k l, .of k' l', h => by
    simp only [QP.enc, D.ptr.injEq, D.node.injEq, List.cons.injEq, D.int.injEq, D.list.injEq, and_true, true_and] at h
    obtain ⟨h1, h2⟩ := h
    rw [h1, (List.map_inj_right (fun a b h => by cases h; rfl)).1 h2]
  | .an a b, .an a' b', h => by
    simp only [QP.enc, D.ptr.injEq, D.node.injEq, List.cons.injEq, and_true, true_and] at h
    rw [QP.enc_inj h.1, QP.enc_inj h.2]
  | .or a b, .or a' b', h => by
    simp only [QP.enc, D.ptr.injEq, D.node.injEq, List.cons.injEq, and_true, true_and] at h
    rw [QP.enc_inj h.1, QP.enc_inj h.2]
  | .of _ _, .an _ _, h => by simp [QP.enc] at h
  | .of _ _, .or _ _, h => by simp [QP.enc] at h
  | .an _ _, .of _ _, h => by simp [QP.enc] at h
  | .an _ _, .or _ _, h => by simp [QP.enc] at h
  | .or _ _, .of _ _, h => by simp [QP.enc] at h
  | .or _ _, .an _ _, h => by simp [QP.enc] at h
def okD (p : D) : Prop := p = .nil ∨ ∃ q : QP, p = q.enc ∧ q.ok
theorem okD_nil : okD .nil := .inl rfl
theorem okD_enc {q : QP} (h : q.ok) : okD q.enc := .inr ⟨q, rfl, h⟩
open Classical in
noncomputable def hasD (p : D) (S : Int → Bool) : Bool := if h : ∃ q : QP, p = q.enc then (Classical.choose h).has S else false
theorem hasD_enc (q : QP) (S : Int → Bool) : hasD q.enc S = q.has S := by
  unfold hasD
  have h : ∃ q' : QP, q.enc = q'.enc := ⟨q, rfl⟩
  rw [dif_pos h]
  rw [← QP.enc_inj (Classical.choose_spec h)]
theorem hasD_nil (S : Int → Bool) : hasD .nil S = false := by
  unfold hasD
  rw [dif_neg]
  rintro ⟨q, h⟩
  cases q <;> cases h
def inL (l : List D) (n : Int) : Bool := (l.map D.i).contains n
def spQHasD : FSpec := fun args h nx K => match args with
  | [.agg [.dat (.ptr t) p, x, y], .dat (.slice t') d] => t = 139 ∧ t' = 3 ∧ x.one = true ∧ y.one = true ∧ okD p ∧ K (.bool (hasD p (inL d.l))) h
  | _ => False
theorem vQHasD {E : Nat → Value} (hE : Errs2 Tryd.prog (some 184) E) : Valid Tryd.prog E (gs []) 19 spQHasD := by
  intro args h o nx K ρ H w vs hsp
  unfold spQHasD at hsp
  split at hsp
  · rename_i t p x y t' d
    obtain ⟨rfl, rfl, hx, hy, hp, hK⟩ := hsp
    refine vQHas hE _ _ _ _ _ _ _ _ _ ⟨rfl, rfl, hx, hy, ?_⟩
    rcases hp with rfl | ⟨q, rfl, hq⟩
    · exact .inl ⟨rfl, by rw [hasD_nil] at hK; exact hK⟩
    · exact .inr ⟨q, rfl, hq, by rw [hasD_enc] at hK; exact hK⟩
  · exact hsp.elim

/-! ### The law's six -/
def sixL (n : Int) : List D := [.int n, .int (n + 1), .int (n + 2), .int (n + 3), .int (n + 4), .int (n + 5)]
def WL7six : Opts := mkWE 16 [] [] [] 184 [] []
def icL7six : IC := (.seq (.seq (.ops [(.u (.alc 2 [(.int .i64 0), .nils, .nils]))]) (.tr [0, 2])) (.seq (.seq (.ops [(.u (.mov 3 (.s 0))), (.u (.mov 4 (.s 0))), (.u (.bin 5 .add .i64 (.s 4) (.c (.int .i64 1)))), (.u (.mov 6 (.s 0))), (.u (.bin 7 .add .i64 (.s 6) (.c (.int .i64 2)))), (.u (.mov 8 (.s 0))), (.u (.bin 9 .add .i64 (.s 8) (.c (.int .i64 3)))), (.u (.mov 10 (.s 0))), (.u (.bin 11 .add .i64 (.s 10) (.c (.int .i64 4)))), (.u (.mov 12 (.s 0))), (.u (.bin 13 .add .i64 (.s 12) (.c (.int .i64 5)))), (.u (.bsl 14 3 (.int .i64) [(.s 3), (.s 5), (.s 7), (.s 9), (.s 11), (.s 13)])), (.u (.bld 15 [[(.int .i64 0)], [.nils], [.nils]] [(1, (.s 14))])), (.u (.st (.strct [(.int .i64), (.slice 3), (.slice 3)]) (.s 2) (.s 15)))]) (.tr [2])) .ret))
def rsL7six : List RV := [(.c 2 (.strct [(.int .i64), (.slice 3), (.slice 3)]))]
theorem irL7six : fnIR Tryd.prog WL7six 16 = some (icL7six, rsL7six) := by kernel_rfl
def spL7six : FSpec := fun args h nx K => match args with
  | [.int .i64 n] => 0 ≤ n ∧ n ≤ 1000000 ∧ K (cfgA 0 (sixL n) []) h
  | _ => False
set_option maxHeartbeats 4000000 in
set_option maxRecDepth 8000 in
theorem vL7six {E : Nat → Value} (hE : Errs2 Tryd.prog (some 184) E) : Valid Tryd.prog E (gs []) 16 spL7six := by
  refine valid_go (W := WL7six) hE allValid_bot irL7six (by decide) (fun args h nx K hsp hok hnm => ?_)
  unfold spL7six at hsp
  split at hsp
  · rename_i n
    obtain ⟨h0, h1, hK⟩ := hsp
    refine ⟨by simp [WL7six, mkW, mkWE, mkWF], fun Q hQ => ?_⟩
    simp (maxSteps := 4000000) only [icL7six, go_sem, goD_calls, eq_self, implies_true, Int.reduceEq, Int.reduceBEq, Int.reduceBNe, Int.reduceLE, Int.reduceLT, Int.reduceAdd, Int.reduceSub, Int.reduceMul, Int.reduceNeg, Nat.reduceMul, Nat.reduceSub, Nat.reduceLeDiff, Nat.reduceLT, Nat.reduceEqDiff, Nat.reduceAdd, reduceCtorEq, ↓reduceIte, reduceIte]
    repeat refine ⟨⟨by rw [min_i64]; omega, by rw [max_i64]; omega⟩, ?_⟩
    refine (hQ _ ?_).1
    refine fin_new (p := True) (xs := [.agg [.int .i64 0, .vec (nx + 1), .nils]]) ?_ trivial (.dagg 0 2 3 rfl rfl rfl (.frz (nx + 1) (.refl _))) [] (cfgA 0 (sixL n) []) [] (by simp) (by simp) (by simp) ?_ ?_ rfl (by simp) (by simp) hnm ?_ hK
    · simp only [rsL7six, evRs, evR, go_sem, goD_calls, eq_self, implies_true, Int.reduceEq, Int.reduceBEq, Int.reduceBNe, Int.reduceLE, Int.reduceLT, Int.reduceAdd, Int.reduceSub, Int.reduceMul, Int.reduceNeg, Nat.reduceMul, Nat.reduceSub, Nat.reduceLeDiff, Nat.reduceLT, Nat.reduceEqDiff, Nat.reduceAdd, reduceCtorEq, ↓reduceIte, reduceIte]
    · simp only [mkR, go_sem, goD_calls, eq_self, implies_true, Int.reduceEq, Int.reduceBEq, Int.reduceBNe, Int.reduceLE, Int.reduceLT, Int.reduceAdd, Int.reduceSub, Int.reduceMul, Int.reduceNeg, Nat.reduceMul, Nat.reduceSub, Nat.reduceLeDiff, Nat.reduceLT, Nat.reduceEqDiff, Nat.reduceAdd, reduceCtorEq, ↓reduceIte, reduceIte, SV.ren, SV.renL, rens, cfgA, sixL]
    · exact ⟨trivial, trivial, trivial, trivial⟩
    · simp only [mkR, go_sem, goD_calls, eq_self, implies_true, Int.reduceEq, Int.reduceBEq, Int.reduceBNe, Int.reduceLE, Int.reduceLT, Int.reduceAdd, Int.reduceSub, Int.reduceMul, Int.reduceNeg, Nat.reduceMul, Nat.reduceSub, Nat.reduceLeDiff, Nat.reduceLT, Nat.reduceEqDiff, Nat.reduceAdd, reduceCtorEq, ↓reduceIte, reduceIte] <;> ((try simp only []); repeat first | exact HLe.refl _ | refine HLe.cons (by simp only [hget, Nat.reduceEqDiff, Nat.left_eq_add, Nat.add_eq_left, nm_ne2, nm_en2, nm_ne3, nm_en3, nm_ne4, nm_en4, nm_ne5, nm_en5, reduceIte, ↓reduceIte] <;> first | rfl | ((repeat rw [if_neg (by omega)]) <;> rfl)) ?_ | refine HLe.skip hnm (by omega) ?_ | refine HLe.frz hnm (by omega) ?_ | refine HLe.del hnm (by omega) ?_)
  · exact hsp.elim

theorem sixL_len (n : Int) : (sixL n).length = 6 := rfl
theorem sixL_i (n : Int) : (sixL n).map D.i = [n, n + 1, n + 2, n + 3, n + 4, n + 5] := rfl
theorem sixL_six (n : Int) : sixB (sixL n) = true := sixB_of rfl (by rw [sixL_i]; simp; omega)
theorem sixL_bad {n : Int} (h0 : 0 ≤ n) (h1 : n ≤ 58) : badI (sixL n) = false := badI_of (by
  intro x hx
  simp only [sixL, List.mem_cons, List.not_mem_nil, or_false] at hx
  rcases hx with rfl | rfl | rfl | rfl | rfl | rfl <;> simp only [D.i] <;> omega)
theorem sixL_valid {e n : Int} (he : 0 ≤ e ∧ e ≤ 1073741824) (h0 : 0 ≤ n) (h1 : n ≤ 58) : validC e (sixL n) [] = .nil :=
  valid_of he (sixL_bad h0 h1) rfl (sixL_six n) (fun h => absurd h (by simp))
/-- One is to be replaced. -/
theorem begin_ok {e : Int} {o : List D} {x y : Int} (hv : validC e o [] = .nil) (hx : 0 ≤ idxI (fun z => x == z) o) (hy : hasI o y = false) (hn : nodeB y = true) (he : e ≠ 1073741824) : beginE e o [] x y = .nil := by
  unfold beginE
  rw [if_neg (by rw [hv]; decide), if_neg (by simp), if_neg (by omega), if_neg (by rw [hy]; decide), if_neg (by rw [hn]; simp [he])]
theorem beginR_ok {e : Int} {o : List D} {x y : Int} (h : beginE e o [] x y = .nil) : beginR e o [] x y = cfgA (e + 1) o (o.set (idxI (fun z => x == z) o).toNat (.int y)) := by
  unfold beginR
  rw [h, if_pos (show (D.nil).isNil = true from rfl)]

/-! ### The chapter's examples -/
def sevenD : List D := [.int 0, .int 1, .int 2, .int 3, .int 4, .int 6]
theorem first_begin : beginE 0 (sixL 0) [] 5 6 = .nil := begin_ok (sixL_valid (by decide) (by decide) (by decide)) (by decide) (by decide) (by decide) (by decide)
theorem first_beginR : beginR 0 (sixL 0) [] 5 6 = cfgA 1 (sixL 0) sevenD := by rw [beginR_ok first_begin]; rfl
theorem first_valid : validC 1 (sixL 0) sevenD = .nil := valid_of (by decide) (by decide) (by decide) (sixL_six 0) (fun _ => ⟨sixB_of rfl (by decide), by decide⟩)
theorem first_members : joinL (sixL 0) sevenD = [.int 0, .int 1, .int 2, .int 3, .int 4, .int 5, .int 6] := by
  unfold joinL
  rw [compL_sortL, compact_eq (w := [0, 1, 2, 3, 4, 5, 6]) (by decide) (fun x => by simp [sixL, sevenD, D.i]; omega)]
  rfl
def q7 : QP := .an (.of 4 (sD (sixL 0))) (.of 4 (sD sevenD))
theorem first_enough : enoughQ 1 (sixL 0) sevenD 4 true = some (q7, joinL ((sD (sixL 0)).map D.int) ((sD sevenD).map D.int), 2) := enough_two (by rw [first_valid]; rfl) (by decide)
theorem q7_ok : q7.ok := ⟨of_ok (by decide) (by decide), of_ok (by decide) (by decide)⟩
theorem q7_has (S : Int → Bool) : hasD q7.enc S = (decide (4 ≤ (((sixL 0).map D.i).countP S : Int)) && decide (4 ≤ ((sevenD.map D.i).countP S : Int))) := by
  rw [hasD_enc, q7, QP.has, of_has, of_has]
theorem q7_a : hasD q7.enc (inL [.int 0, .int 1, .int 2, .int 3]) = true := by rw [q7_has]; decide
theorem q7_b : hasD q7.enc (inL [.int 0, .int 1, .int 2, .int 5]) = false := by rw [q7_has]; decide
theorem first_same : sameD [.int 0, .int 1, .int 2, .int 3, .int 4, .int 5, .int 6] [.int 0, .int 1, .int 2, .int 3, .int 4, .int 5, .int 6] = true := by decide
def WL7first : Opts := mkWE 29 [] [0, 1, 2, 3, 4, 5] [] 184 [0, 1, 2, 3, 4, 5] []
def icL7first : IC := (.seq (.seq (.ops [(.u (.mov 0 (.c (.bool false))))]) (.tr [])) (.seq (.seq (.ops [(.u (.call 4 (.c (.clo 16 [])) [(.c (.int .i64 0))] [none] true)), (.u (.call 5 (.c (.clo 17 [])) [(.s 4), (.c (.int .i64 5)), (.c (.int .i64 6))] [none, none, none] true)), (.u (.mov 3 (.s 5))), (.u (.ext 6 0 (.s 3))), (.u (.ext 7 1 (.s 3))), (.u (.alc 1 [(.int .i64 0), .nils, .nils])), (.u (.st (.strct [(.int .i64), (.slice 3), (.slice 3)]) (.s 1) (.s 6))), (.u (.mov 2 (.s 7)))]) (.tr [2, 1])) (.seq (.seq (.ops [(.u (.mov 8 (.s 2))), (.u (.eqb 9 false 0 (.s 8))), (.u (.mov 10 (.s 9))), (.g 10 true (some 11) (.ld 11 (.strct [(.int .i64), (.slice 3), (.slice 3)]) (.s 1))), (.g 10 true (some 12) (.call 12 (.c (.clo 46 [])) [(.s 11)] [none] true)), (.g 10 true (some 13) (.bsl 13 3 (.int .i64) [(.c (.int .i64 0)), (.c (.int .i64 1)), (.c (.int .i64 2)), (.c (.int .i64 3)), (.c (.int .i64 4)), (.c (.int .i64 5)), (.c (.int .i64 6))])), (.g 10 true (some 14) (.call 14 (.c (.clo 44 [])) [(.s 12), (.s 13)] [(some 3), (some 3)] true)), (.u (.pck 15 (.s 10) (.s 14) (.c (.bool false)))), (.u (.mov 16 (.s 15))), (.g 16 true (some 17) (.ld 17 (.strct [(.int .i64), (.slice 3), (.slice 3)]) (.s 1))), (.g 16 true (some 18) (.call 18 (.c (.clo 18 [])) [(.s 17)] [none] true)), (.g 16 true (some 19) (.bsl 19 3 (.int .i64) [(.c (.int .i64 0)), (.c (.int .i64 1)), (.c (.int .i64 2)), (.c (.int .i64 3))])), (.g 16 true (some 20) (.call 20 (.c (.clo 19 [])) [(.s 18), (.s 19)] [none, (some 3)] true)), (.u (.pck 21 (.s 16) (.s 20) (.c (.bool false)))), (.u (.mov 22 (.s 21))), (.g 22 true (some 23) (.ld 23 (.strct [(.int .i64), (.slice 3), (.slice 3)]) (.s 1))), (.g 22 true (some 24) (.call 24 (.c (.clo 18 [])) [(.s 23)] [none] true)), (.g 22 true (some 25) (.bsl 25 3 (.int .i64) [(.c (.int .i64 0)), (.c (.int .i64 1)), (.c (.int .i64 2)), (.c (.int .i64 5))])), (.g 22 true (some 26) (.call 26 (.c (.clo 19 [])) [(.s 24), (.s 25)] [none, (some 3)] true)), (.g 22 true (some 27) (.una 27 .not (.s 26))), (.u (.pck 28 (.s 22) (.s 27) (.c (.bool false)))), (.u (.mov 0 (.s 28)))]) (.tr [0])) .ret)))
def rsL7first : List RV := [(.t 0)]
theorem irL7first : fnIR Tryd.prog WL7first 15 = some (icL7first, rsL7first) := by kernel_rfl
abbrev GC7 : List Nat := [0, 1, 2, 3, 4, 5]
def spL7first : FSpec := fun args h nx K => match args with
  | [] => K (.bool true) h
  | _ => False
set_option maxHeartbeats 4000000 in
set_option maxRecDepth 8000 in
theorem vL7first {E : Nat → Value} (hE : Errs2 Tryd.prog (some 184) E) : Valid Tryd.prog E (gs GC7) 15 spL7first := by
  refine valid_go (W := WL7first) hE ((((((allValid_bot.add (up (vL7six hE))).add (up (vCBegin hE))).add (up (vCMembers hE))).add (up (vSameInts hE))).add (up (vCWrite hE))).add (up (vQHasD hE))) irL7first (by decide) (fun args h nx K hsp hok hnm => ?_)
  unfold spL7first at hsp
  split at hsp
  · refine ⟨by simp [WL7first, mkW, mkWE, mkWF], fun Q hQ => ?_⟩
    have g0 : (0 : Int) ≤ 0 := by decide
    have g1 : (0 : Int) ≤ 1000000 := by decide
    have g2 : (sixL 0).length ≤ 1000 := by decide
    have g3 : sevenD.length ≤ 1000 := by decide
    have g4 := okD_enc q7_ok
    simp (maxSteps := 4000000) only [icL7first, go_sem, goD_calls, eq_self, implies_true, Int.reduceEq, Int.reduceBEq, Int.reduceBNe, Int.reduceLE, Int.reduceLT, Int.reduceAdd, Int.reduceSub, Int.reduceMul, Int.reduceNeg, Nat.reduceMul, Nat.reduceSub, Nat.reduceLeDiff, Nat.reduceLT, Nat.reduceEqDiff, Nat.reduceAdd, reduceCtorEq, ↓reduceIte, reduceIte, spL7six, spCBegin, spCMembers, spSameInts, spCWrite, spQHasD, g0, g1, g2, g3, g4, cfgA, first_begin, first_beginR, first_members, first_same, first_enough, setV_some, q7_a, q7_b, SV.one]
    refine (hQ _ ?_).1
    exact fin_t (.bool _) rfl rfl hnm (by ((try simp only []); repeat first | exact HLe.refl _ | refine HLe.cons (by simp only [hget, Nat.reduceEqDiff, Nat.left_eq_add, Nat.add_eq_left, nm_ne2, nm_en2, nm_ne3, nm_en3, nm_ne4, nm_en4, nm_ne5, nm_en5, reduceIte, ↓reduceIte] <;> first | rfl | ((repeat rw [if_neg (by omega)]) <;> rfl)) ?_ | refine HLe.skip hnm (by omega) ?_ | refine HLe.frz hnm (by omega) ?_ | refine HLe.del hnm (by omega) ?_)) hsp
  · exact hsp.elim
end Go.Proofs.YtkojpimkngmckaaDoor
