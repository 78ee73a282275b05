/- Chapter 8's functions: which spans may be. -/
import Derived.Test.YtmjenjccinfbaaaDoorSpanP
import Derived.Test.YtmjenjccinfbaaaDoorBytes
namespace Go.Proofs.YtmjenjccinfbaaaDoor
set_option linter.unusedVariables false
set_option linter.unusedSimpArgs false
open Go Go.Fw
attribute [local go_sem] walkSet evMdl evMupD evMup evLkp frpL eltP eltV eltK preF preP prePt prePd frzP evNlq ev frOf oget ogets argSs argS evCat evMm frzL evBin evWrp evShf evCmp evUna evNil evBeq evLd evSt evFad evIad evAad evLen evSln evEls evApp evParts evSlc evNlc evMif evPck evFld evBld evTas evIfq evSeq evSl0 evBxf evAgl evAgq evBsf hget hset hdel cellAt arrAt setCellAt setArrAt takeC lenC svCells SV.okc SV.one ldSV Fw.isAgg explode explodeL toD toDL toD1 Ty.size Ty.sizeL frz1 Fr.sub Heap.sub Tok.sub SV.sub SV.subL

abbrev GS : List Nat := [0, 1, 2]
def WSValid : Opts := mkWE 78 [] [0, 1, 2] [] 171 [0, 1, 2] []
def icSValid : IC := (.seq (.seq (.ops [(.u (.mov 2 (.c (.dat .iface .nil))))]) (.tr [0])) (.seq (.seq (.seq (.ops [(.u (.mov 6 (.s 0))), (.u (.len 7 false (.s 6))), (.u (.cmp 8 .gtr (.s 7) (.c (.int .i64 64))))]) (.tr [8, 0])) (.cond (.s 8) (.seq (.seq (.ops [(.u (.gld 9 2)), (.u (.mov 2 (.s 9)))]) (.tr [2])) .ret) .skip)) (.seq (.seq (.seq (.ops [(.u (.mov 10 (.s 0))), (.u (.len 11 false (.s 10))), (.u (.mov 12 (.c (.int .i64 0))))]) (.tr [11, 10, 0, 12])) (.block 0 (.loop (.seq (.seq (.ops [(.u (.cmp 13 .lss (.s 12) (.s 11)))]) (.tr [13, 12, 11, 10, 0])) (.seq (.cond (.s 13) .skip (.exit 0)) (.seq (.block 1 (.seq (.seq (.ops [(.u (.mov 14 (.s 12))), (.u (.iad 15 41 (.strct [(.int .i64), (.int .i64), (.int .i64)]) (.s 10) (.s 12))), (.u (.ld 16 (.strct [(.int .i64), (.int .i64), (.int .i64)]) (.s 15))), (.u (.alc 4 [(.int .i64 0), (.int .i64 0), (.int .i64 0)])), (.u (.mov 3 (.s 14))), (.u (.st (.strct [(.int .i64), (.int .i64), (.int .i64)]) (.s 4) (.s 16)))]) (.tr [4, 3, 12, 11, 10, 0])) (.seq (.seq (.ops [(.u (.mov 5 (.c (.dat .iface .nil))))]) (.tr [4, 3, 5, 12, 11, 10, 0])) (.seq (.block 2 (.seq (.seq (.ops [(.u (.fad 18 0 0 (.int .i64) 41 (.s 4))), (.u (.ld 19 (.int .i64) (.s 18))), (.u (.cmp 20 .lss (.s 19) (.c (.int .i64 1)))), (.u (.mov 21 (.s 20))), (.g 21 false (some 22) (.fad 22 0 0 (.int .i64) 41 (.s 4))), (.g 21 false (some 23) (.ld 23 (.int .i64) (.s 22))), (.g 21 false (some 24) (.cmp 24 .gtr (.s 23) (.c (.int .i64 1073741824)))), (.u (.pck 25 (.s 21) (.c (.bool true)) (.s 24))), (.u (.mov 26 (.s 25))), (.g 26 false (some 27) (.fad 27 1 1 (.int .i64) 41 (.s 4))), (.g 26 false (some 28) (.ld 28 (.int .i64) (.s 27))), (.g 26 false (some 29) (.cmp 29 .lss (.s 28) (.c (.int .i64 0)))), (.u (.pck 30 (.s 26) (.c (.bool true)) (.s 29))), (.u (.mov 31 (.s 30))), (.g 31 false (some 32) (.fad 32 2 2 (.int .i64) 41 (.s 4))), (.g 31 false (some 33) (.ld 33 (.int .i64) (.s 32))), (.g 31 false (some 34) (.fad 34 1 1 (.int .i64) 41 (.s 4))), (.g 31 false (some 35) (.ld 35 (.int .i64) (.s 34))), (.g 31 false (some 36) (.cmp 36 .leq (.s 33) (.s 35))), (.u (.pck 37 (.s 31) (.c (.bool true)) (.s 36))), (.u (.mov 38 (.s 37))), (.g 38 false (some 39) (.fad 39 2 2 (.int .i64) 41 (.s 4))), (.g 38 false (some 40) (.ld 40 (.int .i64) (.s 39))), (.g 38 false (some 41) (.cmp 41 .gtr (.s 40) (.c (.int .i64 1099511627776)))), (.u (.pck 42 (.s 38) (.c (.bool true)) (.s 41))), (.u (.mov 17 (.s 42)))]) (.tr [17, 4, 3, 5, 12, 11, 10, 0])) (.cond (.s 17) (.seq (.ops [(.u (.gld 43 0)), (.u (.mov 5 (.s 43)))]) (.tr [3, 5, 12, 11, 10, 0])) (.seq (.seq (.rgn [] [(false, (.u (.mov 45 (.s 3)))), (false, (.u (.cmp 46 .gtr (.s 45) (.c (.int .i64 0))))), (false, (.u (.mov 47 (.s 46)))), (false, (.g 47 true (some 48) (.fad 48 0 0 (.int .i64) 41 (.s 4)))), (false, (.g 47 true (some 49) (.ld 49 (.int .i64) (.s 48)))), (false, (.g 47 true (some 50) (.mov 50 (.s 0)))), (false, (.g 47 true (some 51) (.mov 51 (.s 3)))), (false, (.g 47 true (some 52) (.bin 52 .sub .i64 (.s 51) (.c (.int .i64 1))))), (false, (.g 47 true (some 53) (.iad 53 41 (.strct [(.int .i64), (.int .i64), (.int .i64)]) (.s 50) (.s 52)))), (false, (.g 47 true (some 54) (.fad 54 0 0 (.int .i64) 41 (.s 53)))), (false, (.g 47 true (some 55) (.ld 55 (.int .i64) (.s 54)))), (false, (.g 47 true (some 56) (.cmp 56 .leq (.s 49) (.s 55)))), (false, (.g 47 true (some 57) (.mov 57 (.s 56)))), (false, (.g 57 false (some 58) (.fad 58 2 2 (.int .i64) 41 (.s 4)))), (false, (.g 57 false (some 59) (.ld 59 (.int .i64) (.s 58)))), (false, (.g 57 false (some 60) (.mov 60 (.s 0)))), (false, (.g 57 false (some 61) (.mov 61 (.s 3)))), (false, (.g 57 false (some 62) (.bin 62 .sub .i64 (.s 61) (.c (.int .i64 1))))), (false, (.g 57 false (some 63) (.iad 63 41 (.strct [(.int .i64), (.int .i64), (.int .i64)]) (.s 60) (.s 62)))), (false, (.g 57 false (some 64) (.fad 64 2 2 (.int .i64) 41 (.s 63)))), (false, (.g 57 false (some 65) (.ld 65 (.int .i64) (.s 64)))), (false, (.g 57 false (some 66) (.cmp 66 .leq (.s 59) (.s 65)))), (false, (.g 47 true (some 67) (.pck 67 (.s 57) (.c (.bool true)) (.s 66)))), (false, (.u (.pck 68 (.s 47) (.s 67) (.c (.bool false))))), (false, (.u (.mov 44 (.s 68))))]) (.tr [44, 3, 5, 12, 11, 10, 0])) (.cond (.s 44) (.seq (.ops [(.u (.gld 69 1)), (.u (.mov 5 (.s 69)))]) (.tr [3, 5, 12, 11, 10, 0])) .skip))))) (.seq (.seq (.ops [(.u (.mov 70 (.s 5))), (.u (.eqb 71 true 0 (.s 70)))]) (.tr [71, 3, 5, 12, 11, 10, 0])) (.cond (.s 71) (.seq (.seq (.ops [(.u (.mov 72 (.s 3))), (.u (.mov 73 (.s 5))), (.u (.bld 74 [[(.int .i64 0)], [(.dat .iface .nil)]] [(0, (.s 72)), (1, (.s 73))])), (.u (.box 75 0 (.s 74))), (.u (.mif 76 141 (.ptr 143) (.strct [(.int .i64), .iface]) (.s 75))), (.u (.mov 2 (.s 76)))]) (.tr [2])) .ret) .skip)))))) (.seq (.ops [(.u (.bin 77 .add .i64 (.s 12) (.c (.int .i64 1)))), (.u (.mov 12 (.s 77)))]) (.tr [11, 10, 0, 12])))))))) (.seq (.seq (.ops [(.u (.mov 2 (.c (.dat .iface .nil))))]) (.tr [2])) .ret))))
def rsSValid : List RV := [(.t 2)]
theorem irSValid : fnIR Tryd.prog WSValid 61 = some (icSValid, rsSValid) := by kernel_rfl
def spSValid : FSpec := fun args h nx K => match args with
  | [.dat (.slice 41) d] => K (.dat .iface (validD d.l)) h
  | _ => False
set_option maxHeartbeats 4000000 in
set_option maxRecDepth 8000 in
theorem vSValid {E : Nat → Value} (hE : Errs2 Tryd.prog (some 171) E) : Valid Tryd.prog E (gs GS) 61 spSValid := by
  refine valid_go (W := WSValid) hE allValid_bot irSValid (by decide) (fun args h nx K hsp hok hnm => ?_)
  unfold spSValid at hsp
  split at hsp
  · rename_i d
    refine ⟨by simp [WSValid, mkW, mkWE], fun Q hQ => ?_⟩
    obtain ⟨hd, _⟩ := hok
    simp only [SV.ok] at hd
    obtain ⟨hd1, hd2, hd3⟩ := Wt.slice hd
    generalize d.l = l at hsp hd1 hd2 hd3
    subst hd1
    have hml : maxLen ≤ 9223372036854775807 := by decide
    have ret : ∀ e h' nx', HLe h h' → e = validD l → Q Ex.ret ⟨[(2, .dat .iface e)], h', nx'⟩ := fun e h' nx' hh he => by
      refine (hQ _ ?_).1
      subst he
      exact fin_t (.dat .iface (validD l)) rfl rfl hnm hh hsp
    by_cases hmany : 64 < l.length
    · have c1 : decide (64 < (l.length : Int)) = true := decide_eq_true (by omega)
      simp only [icSValid, go_sem, goD_calls, eq_self, implies_true, Int.reduceEq, Int.reduceBEq, Int.reduceBNe, Int.reduceLE, Int.reduceLT, Int.reduceAdd, Int.reduceSub, Int.reduceMul, Int.reduceNeg, Nat.reduceMul, Nat.reduceSub, Nat.reduceLeDiff, Nat.reduceLT, Nat.reduceEqDiff, Nat.reduceAdd, reduceCtorEq, ↓reduceIte, reduceIte, list_l, c1]
      exact ret _ _ _ (by ((try simp only []); repeat first | exact HLe.refl _ | refine HLe.cons (by simp only [hget, Nat.reduceEqDiff, Nat.left_eq_add, Nat.add_eq_left, nm_ne2, nm_en2, nm_ne3, nm_en3, nm_ne4, nm_en4, nm_ne5, nm_en5, reduceIte, ↓reduceIte] <;> first | rfl | ((repeat rw [if_neg (by omega)]) <;> rfl)) ?_ | refine HLe.skip hnm (by omega) ?_ | refine HLe.frz hnm (by omega) ?_ | refine HLe.del hnm (by omega) ?_)) (validD_many hmany).symm
    have c1 : decide (64 < (l.length : Int)) = false := decide_eq_false (by omega)
    simp only [icSValid, go_sem, goD_calls, eq_self, implies_true, Int.reduceEq, Int.reduceBEq, Int.reduceBNe, Int.reduceLE, Int.reduceLT, Int.reduceAdd, Int.reduceSub, Int.reduceMul, Int.reduceNeg, Nat.reduceMul, Nat.reduceSub, Nat.reduceLeDiff, Nat.reduceLT, Nat.reduceEqDiff, Nat.reduceAdd, reduceCtorEq, ↓reduceIte, reduceIte, list_l, c1]
    refine go_loop (α := { i : Nat // i ≤ l.length ∧ ∀ j, j < i → okAt l j = .nil }) (I := fun i => { f := [(11, .int .i64 l.length), (10, .dat (.slice 41) (.list l)), (0, .dat (.slice 41) (.list l)), (12, .int .i64 i.1)], h := h, nx := nx }) (μ := fun i => l.length - i.1) _ _ _ ⟨0, by omega, fun j hj => by omega⟩ ?_ (fun i B hB => ?_)
    · refine leq_id ?_ (by (simp only [frLt_cons, frLt_nil, and_true, SV.lt, SV.ltL, true_and] <;> omega)) (by ((try simp only []); repeat first | exact HLe.refl _ | refine HLe.cons (by simp only [hget, Nat.reduceEqDiff, Nat.left_eq_add, Nat.add_eq_left, nm_ne2, nm_en2, nm_ne3, nm_en3, nm_ne4, nm_en4, nm_ne5, nm_en5, reduceIte, ↓reduceIte] <;> first | rfl | ((repeat rw [if_neg (by omega)]) <;> rfl)) ?_ | refine HLe.skip hnm (by omega) ?_ | refine HLe.frz hnm (by omega) ?_ | refine HLe.del hnm (by omega) ?_)) (by (repeat first | exact HLt.mono hnm (by simp only [] <;> omega) | refine HLt.cons (by simp only [] <;> omega) (by simp only [Tok.lt, SV.ltL, SV.lt, and_true, true_and] <;> omega) ?_)) (by simp only [] <;> omega)
      simp only [frEq_cons, frEq_nil, frIn_cons, frIn_nil, and_true, fget_cons, Nat.reduceEqDiff, reduceIte, ↓reduceIte, true_and, SV.ren, SV.renL, ren1]
      rfl
    · obtain ⟨i, hi, hok⟩ := i
      by_cases hil : i < l.length
      · have c2 : decide ((i : Int) < (l.length : Int)) = true := decide_eq_true (by omega)
        have ei : ((i : Int) - 1).toNat = i - 1 := by omega
        have rR : (spE (l.getD i .nil) < 1 ∨ 1073741824 < spE (l.getD i .nil) ∨ spF (l.getD i .nil) < 0 ∨ spT (l.getD i .nil) ≤ spF (l.getD i .nil) ∨ 1099511627776 < spT (l.getD i .nil)) → ∀ h' nx', HLe h h' → Q Ex.ret ⟨[(2, .dat .iface (atD i 0))], h', nx'⟩ := fun hr h' nx' hh => by
          refine ret _ h' nx' hh ?_
          rw [validD_at (i := i) (by omega) hil hok (by rw [okAt_range hr]; rfl), okAt_range hr]
        have rS : ¬ (spE (l.getD i .nil) < 1 ∨ 1073741824 < spE (l.getD i .nil) ∨ spF (l.getD i .nil) < 0 ∨ spT (l.getD i .nil) ≤ spF (l.getD i .nil) ∨ 1099511627776 < spT (l.getD i .nil)) → (0 < i ∧ (spE (l.getD i .nil) ≤ spE (l.getD (i - 1) .nil) ∨ spT (l.getD i .nil) ≤ spT (l.getD (i - 1) .nil))) → ∀ h' nx', HLe h h' → Q Ex.ret ⟨[(2, .dat .iface (atD i 1))], h', nx'⟩ := fun hr hs h' nx' hh => by
          refine ret _ h' nx' hh ?_
          rw [validD_at (i := i) (by omega) hil hok (by rw [okAt_shape hr hs]; rfl), okAt_shape hr hs]
        have rB : ¬ (spE (l.getD i .nil) < 1 ∨ 1073741824 < spE (l.getD i .nil) ∨ spF (l.getD i .nil) < 0 ∨ spT (l.getD i .nil) ≤ spF (l.getD i .nil) ∨ 1099511627776 < spT (l.getD i .nil)) → ¬ (0 < i ∧ (spE (l.getD i .nil) ≤ spE (l.getD (i - 1) .nil) ∨ spT (l.getD i .nil) ≤ spT (l.getD (i - 1) .nil))) → ∀ h' nx', HLe h h' → B ⟨[(11, .int .i64 l.length), (10, .dat (.slice 41) (.list l)), (0, .dat (.slice 41) (.list l)), (12, .int .i64 ((i : Int) + 1))], h', nx'⟩ := fun hr hs h' nx' hh => by
          refine hB _ ⟨i + 1, by omega, fun j hj => ?_⟩ (by simp only []; omega) ?_
          · by_cases e : j = i
            · subst e; exact okAt_ok hr hs
            · exact hok j (by omega)
          · refine leq_id ?_ (by (simp only [frLt_cons, frLt_nil, and_true, SV.lt, SV.ltL, true_and] <;> omega)) hh (by (repeat first | exact HLt.mono hnm (by simp only [] <;> omega) | refine HLt.cons (by simp only [] <;> omega) (by simp only [Tok.lt, SV.ltL, SV.lt, and_true, true_and] <;> omega) ?_)) (by simp only [] <;> omega)
            simp only [frEq_cons, frEq_nil, frIn_cons, frIn_nil, and_true, fget_cons, Nat.reduceEqDiff, reduceIte, ↓reduceIte, true_and, SV.ren, SV.renL, ren1]
            simp
        unfold spE spF spT at rR rS rB
        simp (maxSteps := 4000000) only [go_sem, goD_calls, eq_self, implies_true, Int.reduceEq, Int.reduceBEq, Int.reduceBNe, Int.reduceLE, Int.reduceLT, Int.reduceAdd, Int.reduceSub, Int.reduceMul, Int.reduceNeg, Nat.reduceMul, Nat.reduceSub, Nat.reduceLeDiff, Nat.reduceLT, Nat.reduceEqDiff, Nat.reduceAdd, reduceCtorEq, ↓reduceIte, reduceIte, list_l, c2, Int.toNat_natCast, ei, min_i64, max_i64]
        (try simp only [decide_eq_true_eq, decide_eq_false_iff_not, beq_iff_eq, bne_iff_ne, ne_eq, beq_eq_false_iff_ne, bne_eq_false_iff_eq]) <;> repeat' (first | refine ⟨?_, ?_⟩ | intro _)
        all_goals first
          | omega
          | rfl
          | exact rR (by omega) _ _ (by ((try simp only []); repeat first | exact HLe.refl _ | refine HLe.cons (by simp only [hget, Nat.reduceEqDiff, Nat.left_eq_add, Nat.add_eq_left, nm_ne2, nm_en2, nm_ne3, nm_en3, nm_ne4, nm_en4, nm_ne5, nm_en5, reduceIte, ↓reduceIte] <;> first | rfl | ((repeat rw [if_neg (by omega)]) <;> rfl)) ?_ | refine HLe.skip hnm (by omega) ?_ | refine HLe.frz hnm (by omega) ?_ | refine HLe.del hnm (by omega) ?_))
          | exact rS (by omega) (by omega) _ _ (by ((try simp only []); repeat first | exact HLe.refl _ | refine HLe.cons (by simp only [hget, Nat.reduceEqDiff, Nat.left_eq_add, Nat.add_eq_left, nm_ne2, nm_en2, nm_ne3, nm_en3, nm_ne4, nm_en4, nm_ne5, nm_en5, reduceIte, ↓reduceIte] <;> first | rfl | ((repeat rw [if_neg (by omega)]) <;> rfl)) ?_ | refine HLe.skip hnm (by omega) ?_ | refine HLe.frz hnm (by omega) ?_ | refine HLe.del hnm (by omega) ?_))
          | exact rB (by omega) (by omega) _ _ (by ((try simp only []); repeat first | exact HLe.refl _ | refine HLe.cons (by simp only [hget, Nat.reduceEqDiff, Nat.left_eq_add, Nat.add_eq_left, nm_ne2, nm_en2, nm_ne3, nm_en3, nm_ne4, nm_en4, nm_ne5, nm_en5, reduceIte, ↓reduceIte] <;> first | rfl | ((repeat rw [if_neg (by omega)]) <;> rfl)) ?_ | refine HLe.skip hnm (by omega) ?_ | refine HLe.frz hnm (by omega) ?_ | refine HLe.del hnm (by omega) ?_))
      · have c2 : decide ((i : Int) < (l.length : Int)) = false := decide_eq_false (by omega)
        simp (maxSteps := 4000000) only [go_sem, goD_calls, eq_self, implies_true, Int.reduceEq, Int.reduceBEq, Int.reduceBNe, Int.reduceLE, Int.reduceLT, Int.reduceAdd, Int.reduceSub, Int.reduceMul, Int.reduceNeg, Nat.reduceMul, Nat.reduceSub, Nat.reduceLeDiff, Nat.reduceLT, Nat.reduceEqDiff, Nat.reduceAdd, reduceCtorEq, ↓reduceIte, reduceIte, list_l, c2]
        exact ret _ _ _ (by ((try simp only []); repeat first | exact HLe.refl _ | refine HLe.cons (by simp only [hget, Nat.reduceEqDiff, Nat.left_eq_add, Nat.add_eq_left, nm_ne2, nm_en2, nm_ne3, nm_en3, nm_ne4, nm_en4, nm_ne5, nm_en5, reduceIte, ↓reduceIte] <;> first | rfl | ((repeat rw [if_neg (by omega)]) <;> rfl)) ?_ | refine HLe.skip hnm (by omega) ?_ | refine HLe.frz hnm (by omega) ?_ | refine HLe.del hnm (by omega) ?_)) (validD_nil (by omega) (fun j hj => hok j (by omega))).symm
  · exact hsp.elim
end Go.Proofs.YtmjenjccinfbaaaDoor
