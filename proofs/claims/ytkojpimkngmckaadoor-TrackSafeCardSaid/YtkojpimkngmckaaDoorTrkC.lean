/- Chapter 14: another configuration; a new one. -/
import Derived.Test.YtkojpimkngmckaaDoorTrkB
import Derived.Test.YtkojpimkngmckaaDoorConfL
namespace Go.Proofs.YtkojpimkngmckaaDoor
set_option linter.unusedVariables false
set_option linter.unusedSimpArgs false
open Go Go.Fw
attribute [local go_sem] walkSet evMdl evMupD evMup evLkp frpL preF preP prePt prePd frzP evNlq ev frOf oget ogets argSs argS evMm frzL evBin evWrp evShf evCmp evUna evNil evBeq evLd evSt evFad evIad evAad evLen evSln evEls evApp evParts evSlc evNlc evMif evPck evFld evBld evTas evIfq evSeq evSl0 evBxf evAgl evAgq evBsf hget hset hdel cellAt arrAt setCellAt setArrAt takeC lenC svCells SV.okc SV.one ldSV Fw.isAgg explode explodeL toD toDL toD1 Ty.size Ty.sizeL frz1 Fr.sub Heap.sub Tok.sub SV.sub SV.subL

def t0Ok (r : Option Tok) : Prop := tOk r ∨ ∃ a b, r = some (.cells [.nils, .dat (.ptr 139) .nil, .nils, .int .i64 0, .vec a, .vec b])
theorem t0Ok_d (m w : List D) (p : D) (n : Int) (a b : Nat) : t0Ok (some (.cells [.dat (.slice 3) (.list m), .dat (.ptr 139) p, .dat (.slice 3) (.list w), .int .i64 n, .vec a, .vec b])) = True := eq_true (.inl ⟨m, p, w, n, a, b, rfl⟩)
theorem t0Ok_n (a b : Nat) : t0Ok (some (.cells [.nils, .dat (.ptr 139) .nil, .nils, .int .i64 0, .vec a, .vec b])) = True := eq_true (.inr ⟨a, b, rfl⟩)
/-- As another configuration leaves it. -/
def tNew (e : Int) (o n : List D) (a b : Nat) : Tok := .cells [.dat (.slice 3) (.list (joinL o n)), .dat (.ptr 139) (wQ o n 4).enc, .dat (.slice 3) (.list (wL o n)), .int .i64 (wN n), .vec a, .vec b]
def WTChange : Opts := mkWF 21 [] [3, 4, 5] [] 184 [3, 4, 5] [] [] [14, 16]
def icTChange : IC := (.seq (.seq (.ops [(.u (.box 3 0 (.s 1))), (.u (.mov 4 (.c (.dat .iface .nil))))]) (.tr [0, 3])) (.seq (.seq (.seq (.ops [(.u (.ld 6 (.strct [(.int .i64), (.slice 3), (.slice 3)]) (.s 3))), (.u (.call 7 (.c (.clo 49 [])) [(.s 6)] [none] true)), (.u (.mov 5 (.s 7)))]) (.tr [5, 0, 3])) (.seq (.seq (.ops [(.u (.mov 8 (.s 5))), (.u (.eqb 9 true 0 (.s 8)))]) (.tr [9, 5, 0, 3])) (.cond (.s 9) (.seq (.seq (.ops [(.u (.mov 10 (.s 5))), (.u (.mov 4 (.s 10)))]) (.tr [4])) .ret) .skip))) (.seq (.seq (.rgn [] [(false, (.u (.mov 11 (.s 0)))), (false, (.u (.mov 12 (.s 0)))), (false, (.u (.ld 13 (.strct [(.int .i64), (.slice 3), (.slice 3)]) (.s 3)))), (false, (.u (.ld 15 (.strct [(.int .i64), (.slice 3), (.slice 3)]) (.s 3)))), (true, (.u (.call 14 (.c (.clo 46 [])) [(.s 13)] [none] true))), (true, (.u (.call 16 (.c (.clo 18 [])) [(.s 15)] [none] true))), (false, (.u (.nlc 17 (.s 11)))), (false, (.u (.fad 18 0 0 (.slice 3) 109 (.s 17)))), (false, (.u (.st (.slice 3) (.s 18) (.s 14)))), (false, (.u (.nlc 19 (.s 12)))), (false, (.u (.fad 20 1 1 (.strct [(.ptr 139), (.slice 3), (.int .i64)]) 109 (.s 19)))), (false, (.u (.st (.strct [(.ptr 139), (.slice 3), (.int .i64)]) (.s 20) (.s 16))))]) (.tr [])) (.seq (.seq (.ops [(.u (.mov 4 (.c (.dat .iface .nil))))]) (.tr [4])) .ret))))
def rsTChange : List RV := [(.t 4)]
theorem irTChange : fnIR Tryd.prog WTChange 41 = some (icTChange, rsTChange) := by kernel_rfl
def spTChange : FSpec := fun args h nx K => match args with
  | [.ptr r 0, .agg [.int .i64 e, .dat (.slice t) o, .dat (.slice t') n]] => t = 3 ∧ t' = 3 ∧ t0Ok (hget h r) ∧
      ((validC e o.l n.l).isNil = false → K (.dat .iface (validC e o.l n.l)) h) ∧
      ((validC e o.l n.l).isNil = true → K (.dat .iface .nil) (hset h r (tNew e o.l n.l (tA (hget h r)) (tB (hget h r)))))
  | _ => False
set_option maxHeartbeats 4000000 in
set_option maxRecDepth 8000 in
theorem vTChange {E : Nat → Value} (hE : Errs2 Tryd.prog (some 184) E) : Valid Tryd.prog E (gs GCE) 41 spTChange := by
  refine valid_go (W := WTChange) hE (((allValid_bot.add (up (vCValid hE))).add (up (vCMembers hE))).add (up (vCWrite hE))) irTChange (by decide) (fun args h nx K hsp hok hnm => ?_)
  unfold spTChange at hsp
  split at hsp
  · rename_i r e t o t' n
    obtain ⟨rfl, rfl, ht, hbad, hgood⟩ := hsp
    obtain ⟨cs, hr⟩ : ∃ cs, hget h r = some cs := by rcases ht with ⟨_, _, _, _, _, _, hr⟩ | ⟨_, _, hr⟩ <;> exact ⟨_, hr⟩
    have hrx := (hnm r _ hr).1
    have hrt := (hnm r _ hr).2
    refine ⟨by simp [WTChange, mkW, mkWE, mkWF], fun Q hQ => ?_⟩
    have pn0r : (nx = r) = False := eq_false (by omega)
    have pn1r : ∀ a0 : Nat, (nx + a0 = r) = False := fun a0 => eq_false (by omega)
    have pn2r : ∀ a0 a1 : Nat, (nx + a0 + a1 = r) = False := fun a0 a1 => eq_false (by omega)
    have pn3r : ∀ a0 a1 a2 : Nat, (nx + a0 + a1 + a2 = r) = False := fun a0 a1 a2 => eq_false (by omega)
    have pn4r : ∀ a0 a1 a2 a3 : Nat, (nx + a0 + a1 + a2 + a3 = r) = False := fun a0 a1 a2 a3 => eq_false (by omega)
    have pn5r : ∀ a0 a1 a2 a3 a4 : Nat, (nx + a0 + a1 + a2 + a3 + a4 = r) = False := fun a0 a1 a2 a3 a4 => eq_false (by omega)
    have pn6r : ∀ a0 a1 a2 a3 a4 a5 : Nat, (nx + a0 + a1 + a2 + a3 + a4 + a5 = r) = False := fun a0 a1 a2 a3 a4 a5 => eq_false (by omega)
    have pn7r : ∀ a0 a1 a2 a3 a4 a5 a6 : Nat, (nx + a0 + a1 + a2 + a3 + a4 + a5 + a6 = r) = False := fun a0 a1 a2 a3 a4 a5 a6 => eq_false (by omega)
    rcases bool_ft (validC e o.l n.l).isNil with hv | hv
    · simp (maxSteps := 4000000) only [icTChange, go_sem, goD_calls, eq_self, implies_true, Int.reduceEq, Int.reduceBEq, Int.reduceBNe, Int.reduceLE, Int.reduceLT, Int.reduceAdd, Int.reduceSub, Int.reduceMul, Int.reduceNeg, Nat.reduceMul, Nat.reduceSub, Nat.reduceLeDiff, Nat.reduceLT, Nat.reduceEqDiff, Nat.reduceAdd, reduceCtorEq, ↓reduceIte, reduceIte, spCValid, hv]
      refine (hQ _ ?_).1
      exact fin_t (.dat .iface _) rfl rfl hnm (by ((try simp only []); repeat first | exact HLe.refl _ | refine HLe.cons (by simp only [hget, Nat.reduceEqDiff, Nat.left_eq_add, Nat.add_eq_left, nm_ne2, nm_en2, nm_ne3, nm_en3, nm_ne4, nm_en4, nm_ne5, nm_en5, reduceIte, ↓reduceIte] <;> first | rfl | ((repeat rw [if_neg (by omega)]) <;> rfl)) ?_ | refine HLe.skip hnm (by omega) ?_ | refine HLe.frz hnm (by omega) ?_ | refine HLe.del hnm (by omega) ?_)) (hbad hv)
    obtain ⟨b0, b1, s0, s1, e0, e1⟩ := valid_good hv
    obtain ⟨l6, g6⟩ := six_good b0 s0
    have n6 : n.l.length ≤ 1000 := by
      by_cases hz : 0 < n.l.length
      · have := (six_good b1 (s1 hz)).1; omega
      · omega
    have o6 : o.l.length ≤ 1000 := by omega
    have w1 := enough_w (k := 4) hv
    rw [hr] at ht hgood
    rcases ht with ⟨m, p, w, k, a, b, h1⟩ | ⟨a, b, h1⟩
    all_goals
      cases h1
      rw [tA_c, tB_c] at hgood
      have g1 := fun t : Tok => hget_eq (t := t) hr
      simp (maxSteps := 4000000) only [icTChange, go_sem, goD_calls, eq_self, implies_true, Int.reduceEq, Int.reduceBEq, Int.reduceBNe, Int.reduceLE, Int.reduceLT, Int.reduceAdd, Int.reduceSub, Int.reduceMul, Int.reduceNeg, Nat.reduceMul, Nat.reduceSub, Nat.reduceLeDiff, Nat.reduceLT, Nat.reduceEqDiff, Nat.reduceAdd, reduceCtorEq, ↓reduceIte, reduceIte, pn0r, pn1r, pn2r, pn3r, pn4r, pn5r, pn6r, pn7r, hr, g1, hset_hset, spCValid, hv, spCMembers, spCWrite, o6, n6, w1, setV_some]
      refine (hQ _ ?_).1
      have hl1 : HLt (hset h r (tNew e o.l n.l a b)) nx := HLt.hset hnm ⟨trivial, trivial, trivial, trivial, hrt.2.2.2.2⟩
      exact fin_t (.dat .iface .nil) rfl rfl hl1 (HLe.skip hl1 (Nat.le_refl _) (HLe.refl _)) (hgood hv)
  · exact hsp.elim

def WTNew : Opts := mkWE 17 [] [3, 4, 5] [] 184 [3, 4, 5] []
def icTNew : IC := (.seq (.seq (.ops [(.u (.box 1 0 (.s 0))), (.u (.mov 2 (.c (.raw (.pointer none))))), (.u (.mov 3 (.c (.dat .iface .nil))))]) (.tr [1])) (.seq (.seq (.ops [(.u (.mkm 6 3 2)), (.u (.mkm 7 3 3)), (.u (.bld 8 [[.nils], [(.dat (.ptr 139) .nil), .nils, (.int .i64 0)], [(.raw (.map none))], [(.raw (.map none))]] [(2, (.s 6)), (3, (.s 7))])), (.u (.box 9 0 (.s 8))), (.u (.mov 4 (.s 9)))]) (.tr [1, 4])) (.seq (.seq (.seq (.ops [(.u (.mov 10 (.s 4))), (.u (.ld 11 (.strct [(.int .i64), (.slice 3), (.slice 3)]) (.s 1))), (.u (.call 12 (.c (.clo 41 [])) [(.s 10), (.s 11)] [none, none] true)), (.u (.mov 5 (.s 12)))]) (.tr [5, 4])) (.seq (.seq (.ops [(.u (.mov 13 (.s 5))), (.u (.eqb 14 true 0 (.s 13)))]) (.tr [14, 5, 4])) (.cond (.s 14) (.seq (.seq (.ops [(.u (.mov 15 (.s 5))), (.u (.mov 2 (.c (.raw (.pointer none))))), (.u (.mov 3 (.s 15)))]) (.tr [2, 3])) .ret) .skip))) (.seq (.seq (.ops [(.u (.mov 16 (.s 4))), (.u (.mov 2 (.s 16))), (.u (.mov 3 (.c (.dat .iface .nil))))]) (.tr [2, 3])) .ret))))
def rsTNew : List RV := [(.t 2), (.t 3)]
theorem irTNew : fnIR Tryd.prog WTNew 23 = some (icTNew, rsTNew) := by kernel_rfl
def spTNew : FSpec := fun args h nx K => match args with
  | [.agg [.int .i64 e, .dat (.slice t) o, .dat (.slice t') n]] => t = 3 ∧ t' = 3 ∧
      ((validC e o.l n.l).isNil = false → K (.tup [.raw (.pointer none), .dat .iface (validC e o.l n.l)]) h) ∧
      ((validC e o.l n.l).isNil = true → K (.tup [.ptr nx 0, .dat .iface .nil]) ((nx, tNew e o.l n.l (nx + 1) (nx + 2)) :: (nx + 1, .map 3 2 mEmpty) :: (nx + 2, .map 3 3 mEmpty) :: h))
  | _ => False
set_option maxHeartbeats 4000000 in
set_option maxRecDepth 8000 in
theorem vTNew {E : Nat → Value} (hE : Errs2 Tryd.prog (some 184) E) : Valid Tryd.prog E (gs GCE) 23 spTNew := by
  refine valid_go (W := WTNew) hE (allValid_bot.add (up (vTChange hE))) irTNew (by decide) (fun args h nx K hsp hok hnm => ?_)
  unfold spTNew at hsp
  split at hsp
  · rename_i e t o t' n
    obtain ⟨rfl, rfl, hbad, hgood⟩ := hsp
    refine ⟨by simp [WTNew, mkW, mkWE, mkWF], fun Q hQ => ?_⟩
    simp (maxSteps := 4000000) only [icTNew, go_sem, goD_calls, eq_self, implies_true, Int.reduceEq, Int.reduceBEq, Int.reduceBNe, Int.reduceLE, Int.reduceLT, Int.reduceAdd, Int.reduceSub, Int.reduceMul, Int.reduceNeg, Nat.reduceMul, Nat.reduceSub, Nat.reduceLeDiff, Nat.reduceLT, Nat.reduceEqDiff, Nat.reduceAdd, reduceCtorEq, ↓reduceIte, reduceIte, spTChange, t0Ok_n]
    refine ⟨fun hv => ⟨fun _ => ?_, fun h2 => by rw [hv] at h2; cases h2⟩, fun hv => ?_⟩
    · refine (hQ _ ?_).1
      exact fin_t2 _ _ rfl rfl rfl rfl hnm (by ((try simp only []); repeat first | exact HLe.refl _ | refine HLe.cons (by simp only [hget, Nat.reduceEqDiff, Nat.left_eq_add, Nat.add_eq_left, nm_ne2, nm_en2, nm_ne3, nm_en3, nm_ne4, nm_en4, nm_ne5, nm_en5, reduceIte, ↓reduceIte] <;> first | rfl | ((repeat rw [if_neg (by omega)]) <;> rfl)) ?_ | refine HLe.skip hnm (by omega) ?_ | refine HLe.frz hnm (by omega) ?_ | refine HLe.del hnm (by omega) ?_)) (hbad hv)
    · refine (hQ _ (fin_new (p := True ∧ True ∧ True) (xs := [.ptr (nx + 1 + 1 + 1) 0, .dat .iface .nil]) rfl ⟨trivial, trivial, trivial⟩ (.refl _) [(nx, nx + 1 + 1 + 1), (nx + 1, nx + 1), (nx + 2, nx + 1 + 1)] (.tup [.ptr nx 0, .dat .iface .nil]) [(nx, tNew e o.l n.l (nx + 1) (nx + 2)), (nx + 1, .map 3 2 mEmpty), (nx + 2, .map 3 3 mEmpty)] (by simp) (by simp <;> omega) (by simp <;> omega) ?_ ?_ rfl ?_ ?_ hnm ?_ (hgood hv))).1
      · simp only [mkR, go_sem, goD_calls, eq_self, implies_true, Int.reduceEq, Int.reduceBEq, Int.reduceBNe, Int.reduceLE, Int.reduceLT, Int.reduceAdd, Int.reduceSub, Int.reduceMul, Int.reduceNeg, Nat.reduceMul, Nat.reduceSub, Nat.reduceLeDiff, Nat.reduceLT, Nat.reduceEqDiff, Nat.reduceAdd, reduceCtorEq, ↓reduceIte, reduceIte, SV.ren, SV.renL, rens]
      · exact ⟨show nx < nx + 64 by omega, trivial, trivial⟩
      · simp only [List.mem_cons, List.mem_singleton, List.not_mem_nil, or_false, forall_eq_or_imp, forall_eq, tNew, Tok.lt, SV.ltL, SV.lt, and_true, true_and]; omega
      · simp only [mkR, go_sem, goD_calls, eq_self, implies_true, Int.reduceEq, Int.reduceBEq, Int.reduceBNe, Int.reduceLE, Int.reduceLT, Int.reduceAdd, Int.reduceSub, Int.reduceMul, Int.reduceNeg, Nat.reduceMul, Nat.reduceSub, Nat.reduceLeDiff, Nat.reduceLT, Nat.reduceEqDiff, Nat.reduceAdd, reduceCtorEq, ↓reduceIte, reduceIte, rens, List.mem_cons, List.mem_singleton, List.not_mem_nil, or_false, forall_eq_or_imp, forall_eq, tNew, tA_c, tB_c, Tok.ren, SV.ren, SV.renL] <;> simp
      · simp only [mkR, go_sem, goD_calls, eq_self, implies_true, Int.reduceEq, Int.reduceBEq, Int.reduceBNe, Int.reduceLE, Int.reduceLT, Int.reduceAdd, Int.reduceSub, Int.reduceMul, Int.reduceNeg, Nat.reduceMul, Nat.reduceSub, Nat.reduceLeDiff, Nat.reduceLT, Nat.reduceEqDiff, Nat.reduceAdd, reduceCtorEq, ↓reduceIte, reduceIte] <;> ((try simp only []); repeat first | exact HLe.refl _ | refine HLe.cons (by simp only [hget, Nat.reduceEqDiff, Nat.left_eq_add, Nat.add_eq_left, nm_ne2, nm_en2, nm_ne3, nm_en3, nm_ne4, nm_en4, nm_ne5, nm_en5, reduceIte, ↓reduceIte] <;> first | rfl | ((repeat rw [if_neg (by omega)]) <;> rfl)) ?_ | refine HLe.skip hnm (by omega) ?_ | refine HLe.frz hnm (by omega) ?_ | refine HLe.del hnm (by omega) ?_)
  · exact hsp.elim

def WL14six : Opts := mkWE 3 [] [] [] 184 [] []
def icL14six : IC := (.seq (.seq (.ops [(.u (.alc 0 [(.int .i64 0), .nils, .nils]))]) (.tr [0])) (.seq (.seq (.ops [(.u (.bsl 1 3 (.int .i64) [(.c (.int .i64 0)), (.c (.int .i64 1)), (.c (.int .i64 2)), (.c (.int .i64 3)), (.c (.int .i64 4)), (.c (.int .i64 5))])), (.u (.bld 2 [[(.int .i64 0)], [.nils], [.nils]] [(1, (.s 1))])), (.u (.st (.strct [(.int .i64), (.slice 3), (.slice 3)]) (.s 0) (.s 2)))]) (.tr [0])) .ret))
def rsL14six : List RV := [(.c 0 (.strct [(.int .i64), (.slice 3), (.slice 3)]))]
theorem irL14six : fnIR Tryd.prog WL14six 24 = some (icL14six, rsL14six) := by kernel_rfl
def spL14six : FSpec := fun args h nx K => match args with
  | [] => K (cfgA 0 (sixL 0) []) h
  | _ => False
set_option maxHeartbeats 4000000 in
set_option maxRecDepth 8000 in
theorem vL14six {E : Nat → Value} (hE : Errs2 Tryd.prog (some 184) E) : Valid Tryd.prog E (gs []) 24 spL14six := by
  refine valid_go (W := WL14six) hE allValid_bot irL14six (by decide) (fun args h nx K hsp hok hnm => ?_)
  unfold spL14six at hsp
  split at hsp
  · refine ⟨by simp [WL14six, mkW, mkWE, mkWF], fun Q hQ => ?_⟩
    simp (maxSteps := 4000000) only [icL14six, go_sem, goD_calls, eq_self, implies_true, Int.reduceEq, Int.reduceBEq, Int.reduceBNe, Int.reduceLE, Int.reduceLT, Int.reduceAdd, Int.reduceSub, Int.reduceMul, Int.reduceNeg, Nat.reduceMul, Nat.reduceSub, Nat.reduceLeDiff, Nat.reduceLT, Nat.reduceEqDiff, Nat.reduceAdd, reduceCtorEq, ↓reduceIte, reduceIte]
    refine (hQ _ ?_).1
    refine fin_new (p := True) (xs := [.agg [.int .i64 0, .vec (nx + 1), .nils]]) ?_ trivial (.dagg 0 2 3 rfl rfl rfl (.frz (nx + 1) (.refl _))) [] (cfgA 0 (sixL 0) []) [] (by simp) (by simp) (by simp) ?_ ?_ rfl (by simp) (by simp) hnm ?_ hsp
    · simp only [rsL14six, evRs, evR, go_sem, goD_calls, eq_self, implies_true, Int.reduceEq, Int.reduceBEq, Int.reduceBNe, Int.reduceLE, Int.reduceLT, Int.reduceAdd, Int.reduceSub, Int.reduceMul, Int.reduceNeg, Nat.reduceMul, Nat.reduceSub, Nat.reduceLeDiff, Nat.reduceLT, Nat.reduceEqDiff, Nat.reduceAdd, reduceCtorEq, ↓reduceIte, reduceIte]
    · simp only [mkR, go_sem, goD_calls, eq_self, implies_true, Int.reduceEq, Int.reduceBEq, Int.reduceBNe, Int.reduceLE, Int.reduceLT, Int.reduceAdd, Int.reduceSub, Int.reduceMul, Int.reduceNeg, Nat.reduceMul, Nat.reduceSub, Nat.reduceLeDiff, Nat.reduceLT, Nat.reduceEqDiff, Nat.reduceAdd, reduceCtorEq, ↓reduceIte, reduceIte, SV.ren, SV.renL, rens, cfgA, sixL] <;> rfl
    · exact ⟨trivial, trivial, trivial, trivial⟩
    · simp only [mkR, go_sem, goD_calls, eq_self, implies_true, Int.reduceEq, Int.reduceBEq, Int.reduceBNe, Int.reduceLE, Int.reduceLT, Int.reduceAdd, Int.reduceSub, Int.reduceMul, Int.reduceNeg, Nat.reduceMul, Nat.reduceSub, Nat.reduceLeDiff, Nat.reduceLT, Nat.reduceEqDiff, Nat.reduceAdd, reduceCtorEq, ↓reduceIte, reduceIte] <;> ((try simp only []); repeat first | exact HLe.refl _ | refine HLe.cons (by simp only [hget, Nat.reduceEqDiff, Nat.left_eq_add, Nat.add_eq_left, nm_ne2, nm_en2, nm_ne3, nm_en3, nm_ne4, nm_en4, nm_ne5, nm_en5, reduceIte, ↓reduceIte] <;> first | rfl | ((repeat rw [if_neg (by omega)]) <;> rfl)) ?_ | refine HLe.skip hnm (by omega) ?_ | refine HLe.frz hnm (by omega) ?_ | refine HLe.del hnm (by omega) ?_)
  · exact hsp.elim
end Go.Proofs.YtkojpimkngmckaaDoor
