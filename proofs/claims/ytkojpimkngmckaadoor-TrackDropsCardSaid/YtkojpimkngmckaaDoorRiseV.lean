/- Numbers rising, each once: the document's Rising, its result the caller's own. -/
import Derived.Test.YtkojpimkngmckaaDoorRise
namespace Go.Proofs.YtkojpimkngmckaaDoor
set_option linter.unusedVariables false
set_option linter.unusedSimpArgs false
open Go Go.Fw
attribute [local go_sem] walkSet evMdl evMupD evMup evLkp frpL preF preP prePt prePd frzP evNlq ev frOf oget ogets argSs argS evMm frzL evBin evWrp evShf evCmp evUna evNil evBeq evLd evSt evFad evIad evAad evLen evSln evEls evApp evParts evSlc evNlc evMif evPck evFld evBld evTas evIfq evSeq evSl0 evBxf evAgl evAgq evBsf hget hset hdel cellAt arrAt setCellAt setArrAt takeC lenC svCells SV.okc SV.one ldSV Fw.isAgg explode explodeL toD toDL toD1 Ty.size Ty.sizeL frz1 Fr.sub Heap.sub Tok.sub SV.sub SV.subL

def WRRisingV : Opts := mkWE 66 [] [] [] 184 [] []
def icRRisingV : IC := (.seq (.seq (.ops [(.u (.mov 2 (.c .nils)))]) (.tr [0])) (.seq (.seq (.ops [(.u (.mov 3 (.c .nils)))]) (.tr [0, 3])) (.seq (.seq (.seq (.ops [(.u (.mov 4 (.c (.int .i64 0))))]) (.tr [0, 4, 3])) (.block 0 (.loop (.seq (.seq (.seq (.ops [(.u (.mov 7 (.s 4))), (.u (.mov 8 (.s 0))), (.u (.len 9 false (.s 8))), (.u (.cmp 10 .lss (.s 7) (.s 9)))]) (.tr [10, 4, 0, 3])) (.cond (.s 10) .skip (.exit 0))) (.seq (.block 1 (.seq (.seq (.ops [(.u (.mov 5 (.c (.int .i64 0))))]) (.tr [5, 4, 0, 3])) (.seq (.block 2 (.loop (.seq (.seq (.seq (.rgn [] [(false, (.u (.mov 13 (.s 5)))), (false, (.u (.mov 14 (.s 3)))), (false, (.u (.len 15 false (.s 14)))), (false, (.u (.cmp 16 .lss (.s 13) (.s 15)))), (false, (.u (.mov 17 (.s 16)))), (false, (.g 17 true (some 18) (.mov 18 (.s 3)))), (false, (.g 17 true (some 19) (.mov 19 (.s 5)))), (false, (.g 17 true (some 20) (.iad 20 3 (.int .i64) (.s 18) (.s 19)))), (false, (.g 17 true (some 21) (.ld 21 (.int .i64) (.s 20)))), (false, (.g 17 true (some 22) (.mov 22 (.s 0)))), (false, (.g 17 true (some 23) (.mov 23 (.s 4)))), (false, (.g 17 true (some 24) (.iad 24 3 (.int .i64) (.s 22) (.s 23)))), (false, (.g 17 true (some 25) (.ld 25 (.int .i64) (.s 24)))), (false, (.g 17 true (some 26) (.cmp 26 .lss (.s 21) (.s 25)))), (false, (.u (.pck 27 (.s 17) (.s 26) (.c (.bool false)))))]) (.tr [27, 5, 4, 0, 3])) (.cond (.s 27) .skip (.exit 2))) (.block 3 (.seq (.ops [(.u (.mov 28 (.s 5))), (.u (.bin 29 .add .i64 (.s 28) (.c (.int .i64 1)))), (.u (.mov 5 (.s 29)))]) (.tr [5, 4, 0, 3])))))) (.seq (.seq (.seq (.rgn [] [(false, (.u (.mov 30 (.s 5)))), (false, (.u (.mov 31 (.s 3)))), (false, (.u (.len 32 false (.s 31)))), (false, (.u (.cmp 33 .lss (.s 30) (.s 32)))), (false, (.u (.mov 34 (.s 33)))), (false, (.g 34 true (some 35) (.mov 35 (.s 3)))), (false, (.g 34 true (some 36) (.mov 36 (.s 5)))), (false, (.g 34 true (some 37) (.iad 37 3 (.int .i64) (.s 35) (.s 36)))), (false, (.g 34 true (some 38) (.ld 38 (.int .i64) (.s 37)))), (false, (.g 34 true (some 39) (.mov 39 (.s 0)))), (false, (.g 34 true (some 40) (.mov 40 (.s 4)))), (false, (.g 34 true (some 41) (.iad 41 3 (.int .i64) (.s 39) (.s 40)))), (false, (.g 34 true (some 42) (.ld 42 (.int .i64) (.s 41)))), (false, (.g 34 true (some 43) (.cmp 43 .eql (.s 38) (.s 42)))), (false, (.u (.pck 44 (.s 34) (.s 43) (.c (.bool false)))))]) (.tr [44, 3, 5, 4, 0])) (.cond (.s 44) (.exit 1) .skip)) (.seq (.seq (.rgn [(.s 3)] [(false, (.u (.mov 45 (.s 3)))), (false, (.u (.len 46 false (.s 45)))), (false, (.u (.bin 47 .add .i64 (.s 46) (.c (.int .i64 1))))), (false, (.u (.mov 49 (.s 3)))), (false, (.u (.mov 50 (.s 5)))), (false, (.u (.slc 51 3 (.s 49) none (some (.s 50))))), (false, (.u (.mk 48 3 (.int .i64) 8 (.int 0) (.c (.int .i64 0)) (.s 47)))), (false, (.u (.app 52 3 (.int .i64) 8 (.s 48) (.s 51)))), (false, (.u (.mov 6 (.s 52))))]) (.tr [6, 3, 5, 4, 0])) (.seq (.seq (.ops [(.u (.mov 53 (.s 6))), (.u (.mov 54 (.s 0))), (.u (.mov 55 (.s 4))), (.u (.iad 56 3 (.int .i64) (.s 54) (.s 55))), (.u (.ld 57 (.int .i64) (.s 56))), (.u (.bsl 58 3 (.int .i64) [(.s 57)])), (.u (.app 59 3 (.int .i64) 8 (.s 53) (.s 58))), (.u (.mov 6 (.s 59)))]) (.tr [6, 3, 5, 4, 0])) (.seq (.ops [(.u (.mov 60 (.s 6))), (.u (.mov 61 (.s 3))), (.u (.mov 62 (.s 5))), (.u (.slc 63 3 (.s 61) (some (.s 62)) none)), (.u (.app 64 3 (.int .i64) 8 (.s 60) (.s 63))), (.u (.mov 3 (.s 64)))]) (.tr [4, 0, 3])))))))) (.seq (.ops [(.u (.mov 11 (.s 4))), (.u (.bin 12 .add .i64 (.s 11) (.c (.int .i64 1)))), (.u (.mov 4 (.s 12)))]) (.tr [0, 4, 3]))))))) (.seq (.seq (.ops [(.u (.mov 65 (.s 3))), (.u (.mov 2 (.s 65)))]) (.tr [2])) .ret))))
def rsRRisingV : List RV := [(.t 2)]
theorem irRRisingV : fnIR Tryd.prog WRRisingV 30 = some (icRRisingV, rsRRisingV) := by kernel_rfl
def spRRisingV : FSpec := fun args h nx K => match args with
  | [.dat (.slice t) d] => t = 3 ∧ d.l.length ≤ 1000000000 ∧ K (.vec nx) ((nx, .arr 3 (.int .i64) (riseL d.l)) :: h)
  | _ => False
set_option maxHeartbeats 4000000 in
set_option maxRecDepth 8000 in
theorem vRRisingV {E : Nat → Value} (hE : Errs2 Tryd.prog (some 184) E) : Valid Tryd.prog E (gs []) 30 spRRisingV := by
  refine valid_go (W := WRRisingV) hE allValid_bot irRRisingV (by decide) (fun args h nx K hsp hok hnm => ?_)
  unfold spRRisingV at hsp
  split at hsp
  · rename_i t d
    obtain ⟨rfl, hlen, hK⟩ := hsp
    refine ⟨by simp [WRRisingV, mkW, mkWE, mkWF], fun Q hQ => ?_⟩
    obtain ⟨hd, _⟩ := hok
    simp only [SV.ok] at hd
    obtain ⟨hd1, hd2, hd3⟩ := Wt.slice hd; generalize d.l = l at *; subst hd1
    have z0 : List.replicate (Int.toNat 0) (D.int 0) = [] := rfl
    simp (maxSteps := 4000000) only [icRRisingV, go_sem, goD_calls, eq_self, implies_true, Int.reduceEq, Int.reduceBEq, Int.reduceBNe, Int.reduceLE, Int.reduceLT, Int.reduceAdd, Int.reduceSub, Int.reduceMul, Int.reduceNeg, Nat.reduceMul, Nat.reduceSub, Nat.reduceLeDiff, Nat.reduceLT, Nat.reduceEqDiff, Nat.reduceAdd, reduceCtorEq, ↓reduceIte, reduceIte]
    refine go_loop (α := { i : Nat // i ≤ l.length }) (I := fun i => { f := [(4, .int .i64 i.1), (0, .dat (.slice 3) (.list l)), (3, .vec nx)], h := (nx, .arr 3 (.int .i64) (riseL (l.take i.1))) :: h, nx := nx + 1 }) (μ := fun i => l.length - i.1) _ _ _ ⟨0, by omega⟩ ?_ (fun i B hB => ?_)
    · refine leq_nil (.slot 3 3 (.int .i64) rfl (.refl _)) ?_
      refine leq_id ?_ (by (simp only [frLt_cons, frLt_nil, and_true, SV.lt, SV.ltL, true_and] <;> omega)) (by ((try simp only []); repeat first | exact HLe.refl _ | refine HLe.cons (by simp only [hget, Nat.reduceEqDiff, Nat.left_eq_add, Nat.add_eq_left, nm_ne2, nm_en2, nm_ne3, nm_en3, nm_ne4, nm_en4, nm_ne5, nm_en5, reduceIte, ↓reduceIte] <;> first | rfl | ((repeat rw [if_neg (by omega)]) <;> rfl)) ?_ | refine HLe.skip hnm (by omega) ?_ | refine HLe.frz hnm (by omega) ?_ | refine HLe.del hnm (by omega) ?_)) (by (repeat first | exact HLt.mono hnm (by simp only [] <;> omega) | refine HLt.cons (by simp only [] <;> omega) (by simp only [Tok.lt, SV.ltL, SV.lt, and_true, true_and] <;> omega) ?_)) (by simp only [] <;> omega)
      simp only [frEq_cons, frEq_nil, frIn_cons, frIn_nil, and_true, fget_cons, Nat.reduceEqDiff, reduceIte, ↓reduceIte, true_and, SV.ren, SV.renL, ren1]
      rfl
    · obtain ⟨i, hi⟩ := i
      simp only at hB
      by_cases hil : i < l.length
      · have c1 : decide ((i : Int) < (l.length : Int)) = true := decide_eq_true (by omega)
        have hst := riseL_step hil
        obtain ⟨x, hx⟩ : ∃ x, (l.getD i .nil).i = x := ⟨_, rfl⟩
        have hRl : (riseI ((l.take i).map D.i)).length ≤ 1000000000 := Nat.le_trans (rise_len _) (by rw [List.length_map, List.length_take]; omega)
        have hRs := rise_sorted ((l.take i).map D.i)
        have e0 : riseL (l.take i) = (riseI ((l.take i).map D.i)).map D.int := rfl
        have e1 : riseL (l.take (i + 1)) = (insI (riseI ((l.take i).map D.i)) x).map D.int := by unfold riseL; rw [hst, hx]
        rw [e0]
        generalize riseI ((l.take i).map D.i) = R at hRl hRs e1
        have hgt : ∀ j, ((R.map D.int).getD j .nil).i = R.getD j 0 := getD_int R
        simp (maxSteps := 4000000) only [go_sem, goD_calls, eq_self, implies_true, Int.reduceEq, Int.reduceBEq, Int.reduceBNe, Int.reduceLE, Int.reduceLT, Int.reduceAdd, Int.reduceSub, Int.reduceMul, Int.reduceNeg, Nat.reduceMul, Nat.reduceSub, Nat.reduceLeDiff, Nat.reduceLT, Nat.reduceEqDiff, Nat.reduceAdd, reduceCtorEq, ↓reduceIte, reduceIte, c1]
        refine go_loop (α := { k : Nat // k ≤ R.length ∧ ∀ j, j < k → R.getD j 0 < x }) (I := fun k => { f := [(5, .int .i64 k.1), (4, .int .i64 i), (0, .dat (.slice 3) (.list l)), (3, .vec nx)], h := (nx, .arr 3 (.int .i64) (R.map D.int)) :: h, nx := nx + 1 }) (μ := fun k => R.length - k.1) _ _ _ ⟨0, by omega, fun j hj => absurd hj (by omega)⟩ ?_ (fun k B2 hB2 => ?_)
        · refine leq_id ?_ (by (simp only [frLt_cons, frLt_nil, and_true, SV.lt, SV.ltL, true_and] <;> omega)) (by ((try simp only []); repeat first | exact HLe.refl _ | refine HLe.cons (by simp only [hget, Nat.reduceEqDiff, Nat.left_eq_add, Nat.add_eq_left, nm_ne2, nm_en2, nm_ne3, nm_en3, nm_ne4, nm_en4, nm_ne5, nm_en5, reduceIte, ↓reduceIte] <;> first | rfl | ((repeat rw [if_neg (by omega)]) <;> rfl)) ?_ | refine HLe.skip hnm (by omega) ?_ | refine HLe.frz hnm (by omega) ?_ | refine HLe.del hnm (by omega) ?_)) (by (repeat first | exact HLt.mono hnm (by simp only [] <;> omega) | refine HLt.cons (by simp only [] <;> omega) (by simp only [Tok.lt, SV.ltL, SV.lt, and_true, true_and] <;> omega) ?_)) (by simp only [] <;> omega)
          simp only [frEq_cons, frEq_nil, frIn_cons, frIn_nil, and_true, fget_cons, Nat.reduceEqDiff, reduceIte, ↓reduceIte, true_and, SV.ren, SV.renL, ren1]
          rfl
        · obtain ⟨k, hk, hlow⟩ := k
          simp only at hB2
          have next : ∀ S', Leq nx S' { f := [(4, .int .i64 ((i + 1 : Nat) : Int)), (0, .dat (.slice 3) (.list l)), (3, .vec nx)], h := (nx, .arr 3 (.int .i64) ((insI R x).map D.int)) :: h, nx := nx + 1 } → B S' := fun S' hl => by
            refine hB _ ⟨i + 1, by omega⟩ (by simp only []; omega) ?_
            simp only [e1]
            exact hl
          by_cases hkl : k < R.length
          · have c2 : decide ((k : Int) < (R.length : Int)) = true := decide_eq_true (by omega)
            by_cases h1 : R.getD k 0 < x
            · have c3 : decide (R.getD k 0 < x) = true := decide_eq_true h1
              simp (maxSteps := 4000000) only [go_sem, goD_calls, eq_self, implies_true, Int.reduceEq, Int.reduceBEq, Int.reduceBNe, Int.reduceLE, Int.reduceLT, Int.reduceAdd, Int.reduceSub, Int.reduceMul, Int.reduceNeg, Nat.reduceMul, Nat.reduceSub, Nat.reduceLeDiff, Nat.reduceLT, Nat.reduceEqDiff, Nat.reduceAdd, reduceCtorEq, ↓reduceIte, reduceIte, c1, c2, c3, hx, hgt, List.length_map, Int.toNat_natCast, min_i64, max_i64]
              repeat refine ⟨by omega, ?_⟩
              refine hB2 _ ⟨k + 1, by omega, fun j hj => by
                by_cases e : j = k
                · exact e ▸ h1
                · exact hlow j (by omega)⟩ (by simp only []; omega) ?_
              refine leq_id ?_ (by (simp only [frLt_cons, frLt_nil, and_true, SV.lt, SV.ltL, true_and] <;> omega)) (by ((try simp only []); repeat first | exact HLe.refl _ | refine HLe.cons (by simp only [hget, Nat.reduceEqDiff, Nat.left_eq_add, Nat.add_eq_left, nm_ne2, nm_en2, nm_ne3, nm_en3, nm_ne4, nm_en4, nm_ne5, nm_en5, reduceIte, ↓reduceIte] <;> first | rfl | ((repeat rw [if_neg (by omega)]) <;> rfl)) ?_ | refine HLe.skip hnm (by omega) ?_ | refine HLe.frz hnm (by omega) ?_ | refine HLe.del hnm (by omega) ?_)) (by (repeat first | exact HLt.mono hnm (by simp only [] <;> omega) | refine HLt.cons (by simp only [] <;> omega) (by simp only [Tok.lt, SV.ltL, SV.lt, and_true, true_and] <;> omega) ?_)) (by simp only [] <;> omega)
              simp only [frEq_cons, frEq_nil, frIn_cons, frIn_nil, and_true, fget_cons, Nat.reduceEqDiff, reduceIte, ↓reduceIte, true_and, SV.ren, SV.renL, ren1]
              simp
            · have c3 : decide (R.getD k 0 < x) = false := decide_eq_false h1
              have hat := ins_at hRs hk hlow (fun _ => h1)
              by_cases h2 : R.getD k 0 = x
              · have c4 : (R.getD k 0 == x) = true := beq_iff_eq.2 h2
                rw [if_pos ⟨hkl, h2⟩] at hat
                rw [hat] at next
                simp (maxSteps := 4000000) only [go_sem, goD_calls, eq_self, implies_true, Int.reduceEq, Int.reduceBEq, Int.reduceBNe, Int.reduceLE, Int.reduceLT, Int.reduceAdd, Int.reduceSub, Int.reduceMul, Int.reduceNeg, Nat.reduceMul, Nat.reduceSub, Nat.reduceLeDiff, Nat.reduceLT, Nat.reduceEqDiff, Nat.reduceAdd, reduceCtorEq, ↓reduceIte, reduceIte, c1, c2, c3, c4, hx, hgt, List.length_map, Int.toNat_natCast, min_i64, max_i64]
                repeat refine ⟨by omega, ?_⟩
                refine next _ ?_
                refine leq_id ?_ (by (simp only [frLt_cons, frLt_nil, and_true, SV.lt, SV.ltL, true_and] <;> omega)) (by ((try simp only []); repeat first | exact HLe.refl _ | refine HLe.cons (by simp only [hget, Nat.reduceEqDiff, Nat.left_eq_add, Nat.add_eq_left, nm_ne2, nm_en2, nm_ne3, nm_en3, nm_ne4, nm_en4, nm_ne5, nm_en5, reduceIte, ↓reduceIte] <;> first | rfl | ((repeat rw [if_neg (by omega)]) <;> rfl)) ?_ | refine HLe.skip hnm (by omega) ?_ | refine HLe.frz hnm (by omega) ?_ | refine HLe.del hnm (by omega) ?_)) (by (repeat first | exact HLt.mono hnm (by simp only [] <;> omega) | refine HLt.cons (by simp only [] <;> omega) (by simp only [Tok.lt, SV.ltL, SV.lt, and_true, true_and] <;> omega) ?_)) (by simp only [] <;> omega)
                simp only [frEq_cons, frEq_nil, frIn_cons, frIn_nil, and_true, fget_cons, Nat.reduceEqDiff, reduceIte, ↓reduceIte, true_and, SV.ren, SV.renL, ren1]
                simp
              · have c4 : (R.getD k 0 == x) = false := beq_eq_false_iff_ne.2 h2
                rw [if_neg (fun h => h2 h.2)] at hat
                rw [hat] at next
                simp (maxSteps := 4000000) only [go_sem, goD_calls, eq_self, implies_true, Int.reduceEq, Int.reduceBEq, Int.reduceBNe, Int.reduceLE, Int.reduceLT, Int.reduceAdd, Int.reduceSub, Int.reduceMul, Int.reduceNeg, Nat.reduceMul, Nat.reduceSub, Nat.reduceLeDiff, Nat.reduceLT, Nat.reduceEqDiff, Nat.reduceAdd, reduceCtorEq, ↓reduceIte, reduceIte, c1, c2, c3, c4, hx, hgt, z0, List.nil_append, List.length_append, List.length_cons, List.length_nil, List.length_take, List.length_drop, List.length_map, Int.toNat_natCast, min_i64, max_i64]
                repeat refine ⟨by omega, ?_⟩
                refine next _ ?_
                refine leq_news [(nx, nx + 1 + 1 + 1 + 1 + 1)] [(nx, .arr 3 (.int .i64) ((R.take k ++ x :: R.drop k).map D.int))] (.refl _) (by simp) (by simp <;> omega) (by simp) rfl ?_ ?_ ?_ ?_ hnm ?_ (by omega)
                · simp [frIn_cons, frIn_nil, fget_cons, fget_nil, SV.ren, SV.renL, rens]
                · (simp only [frLt_cons, frLt_nil, and_true, SV.lt, SV.ltL, true_and] <;> omega)
                · (simp only [List.mem_cons, List.not_mem_nil, or_false, forall_eq_or_imp, forall_eq]; simp [hget, rens, Tok.ren, SV.ren, SV.renL])
                · (simp only [List.mem_cons, List.not_mem_nil, or_false, forall_eq_or_imp, forall_eq, Tok.lt, SV.lt, SV.ltL, and_true, true_and] <;> omega)
                · ((try simp only []); repeat first | exact HLe.refl _ | refine HLe.cons (by simp only [hget, Nat.reduceEqDiff, Nat.left_eq_add, Nat.add_eq_left, nm_ne2, nm_en2, nm_ne3, nm_en3, nm_ne4, nm_en4, nm_ne5, nm_en5, reduceIte, ↓reduceIte] <;> first | rfl | ((repeat rw [if_neg (by omega)]) <;> rfl)) ?_ | refine HLe.skip hnm (by omega) ?_ | refine HLe.frz hnm (by omega) ?_ | refine HLe.del hnm (by omega) ?_)
          · obtain rfl : k = R.length := by omega
            have c2 : decide ((R.length : Int) < (R.length : Int)) = false := decide_eq_false (by omega)
            have hat := ins_at hRs hk hlow (fun h => absurd h (by omega))
            rw [if_neg (fun h => absurd h.1 (by omega))] at hat
            rw [hat] at next
            simp (maxSteps := 4000000) only [go_sem, goD_calls, eq_self, implies_true, Int.reduceEq, Int.reduceBEq, Int.reduceBNe, Int.reduceLE, Int.reduceLT, Int.reduceAdd, Int.reduceSub, Int.reduceMul, Int.reduceNeg, Nat.reduceMul, Nat.reduceSub, Nat.reduceLeDiff, Nat.reduceLT, Nat.reduceEqDiff, Nat.reduceAdd, reduceCtorEq, ↓reduceIte, reduceIte, c1, c2, hx, hgt, z0, List.nil_append, List.length_append, List.length_cons, List.length_nil, List.length_take, List.length_drop, List.length_map, Int.toNat_natCast, min_i64, max_i64]
            repeat refine ⟨by omega, ?_⟩
            refine next _ ?_
            refine leq_news [(nx, nx + 1 + 1 + 1 + 1 + 1)] [(nx, .arr 3 (.int .i64) ((R.take R.length ++ x :: R.drop R.length).map D.int))] (.refl _) (by simp) (by simp <;> omega) (by simp) rfl ?_ ?_ ?_ ?_ hnm ?_ (by omega)
            · simp [frIn_cons, frIn_nil, fget_cons, fget_nil, SV.ren, SV.renL, rens]
            · (simp only [frLt_cons, frLt_nil, and_true, SV.lt, SV.ltL, true_and] <;> omega)
            · (simp only [List.mem_cons, List.not_mem_nil, or_false, forall_eq_or_imp, forall_eq]; simp [hget, rens, Tok.ren, SV.ren, SV.renL])
              rw [List.take_of_length_le (by simp), List.drop_eq_nil_of_le (by simp)]
            · (simp only [List.mem_cons, List.not_mem_nil, or_false, forall_eq_or_imp, forall_eq, Tok.lt, SV.lt, SV.ltL, and_true, true_and] <;> omega)
            · ((try simp only []); repeat first | exact HLe.refl _ | refine HLe.cons (by simp only [hget, Nat.reduceEqDiff, Nat.left_eq_add, Nat.add_eq_left, nm_ne2, nm_en2, nm_ne3, nm_en3, nm_ne4, nm_en4, nm_ne5, nm_en5, reduceIte, ↓reduceIte] <;> first | rfl | ((repeat rw [if_neg (by omega)]) <;> rfl)) ?_ | refine HLe.skip hnm (by omega) ?_ | refine HLe.frz hnm (by omega) ?_ | refine HLe.del hnm (by omega) ?_)
      · obtain rfl : i = l.length := by omega
        have c1 : decide ((l.length : Int) < (l.length : Int)) = false := decide_eq_false (by omega)
        rw [List.take_of_length_le (Nat.le_refl _)]
        simp (maxSteps := 4000000) only [go_sem, goD_calls, eq_self, implies_true, Int.reduceEq, Int.reduceBEq, Int.reduceBNe, Int.reduceLE, Int.reduceLT, Int.reduceAdd, Int.reduceSub, Int.reduceMul, Int.reduceNeg, Nat.reduceMul, Nat.reduceSub, Nat.reduceLeDiff, Nat.reduceLT, Nat.reduceEqDiff, Nat.reduceAdd, reduceCtorEq, ↓reduceIte, reduceIte, c1]
        refine (hQ _ ?_).1
        exact fin_vec rfl (by simp only [hget, if_true]) (Nat.le_refl _) hnm (HLe.skip hnm (Nat.le_refl _) (HLe.refl _)) hK
  · exact hsp.elim
end Go.Proofs.YtkojpimkngmckaaDoor
