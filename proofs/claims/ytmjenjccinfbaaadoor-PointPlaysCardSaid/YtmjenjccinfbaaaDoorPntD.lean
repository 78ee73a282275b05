/- Chapter 15: Safe. -/
import Derived.Test.YtmjenjccinfbaaaDoorPntC
namespace Go.Proofs.YtmjenjccinfbaaaDoor
set_option linter.unusedVariables false
set_option linter.unusedSimpArgs false
open Go Go.Fw
attribute [local go_sem] walkSet evMdl evMupD evMup evLkp frpL eltP eltV eltK preF preP prePt prePd frzP evNlq ev frOf oget ogets argSs argS evCat evMm frzL evBin evWrp evShf evCmp evUna evNil evBeq evLd evSt evFad evIad evAad evLen evSln evEls evApp evParts evSlc evNlc evMif evPck evFld evBld evTas evIfq evSeq evSl0 evBxf evAgl evAgq evBsf hget hset hdel cellAt arrAt setCellAt setArrAt takeC lenC svCells SV.okc SV.one ldSV Fw.isAgg explode explodeL toD toDL toD1 Ty.size Ty.sizeL frz1 Fr.sub Heap.sub Tok.sub SV.sub SV.subL

/-- A row with one number in its place. -/
def setI (l : List D) (g n : Int) : List D := l.set g.toNat (.int n)
def WPSafe : Opts := mkWE 38 [] [] [] 171 [] []
def icPSafe : IC := (.seq (.seq (.ops [(.u (.mov 6 (.c (.bool false))))]) (.tr [1, 2, 0])) (.seq (.seq (.seq (.ops [(.u (.mov 7 (.s 1))), (.u (.cmp 8 .lss (.s 7) (.c (.int .i64 0)))), (.u (.mov 9 (.s 8))), (.g 9 false (some 10) (.mov 10 (.s 1))), (.g 9 false (some 11) (.mov 11 (.s 0))), (.g 9 false (some 12) (.nlc 12 (.s 11))), (.g 9 false (some 13) (.fad 13 3 3 (.slice 2) 110 (.s 12))), (.g 9 false (some 14) (.ld 14 (.slice 2) (.s 13))), (.g 9 false (some 15) (.len 15 false (.s 14))), (.g 9 false (some 16) (.cmp 16 .geq (.s 10) (.s 15))), (.u (.pck 17 (.s 9) (.c (.bool true)) (.s 16))), (.u (.mov 18 (.s 17))), (.g 18 false (some 19) (.mov 19 (.s 2))), (.g 18 false (some 20) (.mov 20 (.s 0))), (.g 18 false (some 21) (.nlc 21 (.s 20))), (.g 18 false (some 22) (.fad 22 3 3 (.slice 2) 110 (.s 21))), (.g 18 false (some 23) (.ld 23 (.slice 2) (.s 22))), (.g 18 false (some 24) (.mov 24 (.s 1))), (.g 18 false (some 25) (.iad 25 2 (.int .i64) (.s 23) (.s 24))), (.g 18 false (some 26) (.ld 26 (.int .i64) (.s 25))), (.g 18 false (some 27) (.cmp 27 .lss (.s 19) (.s 26))), (.u (.pck 28 (.s 18) (.c (.bool true)) (.s 27)))]) (.tr [28, 1, 2, 0])) (.cond (.s 28) (.seq (.seq (.ops [(.u (.mov 6 (.c (.bool false))))]) (.tr [6])) .ret) .skip)) (.seq (.seq (.ops [(.u (.mov 29 (.s 0))), (.u (.nlc 30 (.s 29))), (.u (.fad 31 3 3 (.slice 2) 110 (.s 30))), (.u (.ld 32 (.slice 2) (.s 31))), (.u (.mov 33 (.s 1))), (.u (.mov 34 (.s 2))), (.u (.iad 35 2 (.int .i64) (.s 32) (.s 33))), (.u (.st (.int .i64) (.s 35) (.s 34)))]) (.tr [0])) (.seq (.seq (.ops [(.u (.mov 36 (.s 0))), (.u (.call 37 (.c (.clo 64 [])) [(.s 36)] [none] true))]) (.tr [])) (.seq (.seq (.ops [(.u (.mov 6 (.c (.bool true))))]) (.tr [6])) .ret)))))
def rsPSafe : List RV := [(.t 6)]
theorem irPSafe : fnIR Tryd.prog WPSafe 19 = some (icPSafe, rsPSafe) := by kernel_rfl
def spPSafe : FSpec := fun args h nx K => match args with
  | [.ptr p 0, .int .i64 g, .int .i64 n] => pOk (hget h p) ∧ sOk (hget h (pU (hget h p))) ∧ iOk (hget h (pV (hget h p))) ∧ (0 ≤ pK (hget h p) ∧ pK (hget h p) ≤ (aL (hget h (pU (hget h p)))).length) ∧ (aL (hget h (pU (hget h p)))).length ≤ 1000000 ∧ grOk (aL (hget h (pU (hget h p)))) (aL (hget h (pV (hget h p)))) ∧
      (¬ (0 ≤ g ∧ g < (aL (hget h (pV (hget h p)))).length ∧ ((aL (hget h (pV (hget h p)))).getD g.toNat .nil).i ≤ n) → K (.bool false) h) ∧
      (0 ≤ g ∧ g < (aL (hget h (pV (hget h p)))).length ∧ ((aL (hget h (pV (hget h p)))).getD g.toNat .nil).i ≤ n → K (.bool true) (hset (hset h (pV (hget h p)) (.arr 2 (.int .i64) (setI (aL (hget h (pV (hget h p)))) g n))) p (ptG (hget h p) (goF (hset h (pV (hget h p)) (.arr 2 (.int .i64) (setI (aL (hget h (pV (hget h p)))) g n))) (hget h p)))))
  | _ => False
set_option maxHeartbeats 4000000 in
set_option maxRecDepth 8000 in
theorem vPSafe {E : Nat → Value} (hE : Errs2 Tryd.prog (some 171) E) : Valid Tryd.prog E (gs []) 19 spPSafe := by
  refine valid_go (W := WPSafe) hE (allValid_bot.add (up (vPLook hE))) irPSafe (by decide) (fun args h nx K hsp hok hnm => ?_)
  unfold spPSafe at hsp
  split at hsp
  · rename_i p g n
    obtain ⟨⟨sp, u, a, v, k0, c0, d0, hp⟩, hs, hi, hk, hlen, hgr, hno, hyes⟩ := hsp
    rw [hp] at hs hi hk hlen hgr hno hyes
    rw [ptC_def] at hp hs hi hk hlen hgr hno
    rw [pU_c] at hs
    rw [pV_c] at hi hno
    obtain ⟨l, hu⟩ := hs
    obtain ⟨sf, hv⟩ := hi
    rw [pU_c, hu, aL_c] at hk hlen hgr
    rw [pK_c] at hk
    rw [pV_c, hv, aL_c] at hgr
    rw [hv, aL_c] at hno
    have hpx := (hnm p _ hp).1
    have hux := (hnm u _ hu).1
    have hvx := (hnm v _ hv).1
    have hvp : v ≠ p := fun e => by rw [← e, hv] at hp; cases hp
    have hvu : v ≠ u := fun e => by rw [← e, hv] at hu; cases hu
    refine ⟨by simp [WPSafe, mkW, mkWE, mkWF], fun Q hQ => ?_⟩
    have pn0p : (nx = p) = False := eq_false (by omega)
    have pn1p : ∀ a0 : Nat, (nx + a0 = p) = False := fun a0 => eq_false (by omega)
    have pn2p : ∀ a0 a1 : Nat, (nx + a0 + a1 = p) = False := fun a0 a1 => eq_false (by omega)
    have pn3p : ∀ a0 a1 a2 : Nat, (nx + a0 + a1 + a2 = p) = False := fun a0 a1 a2 => eq_false (by omega)
    have pn4p : ∀ a0 a1 a2 a3 : Nat, (nx + a0 + a1 + a2 + a3 = p) = False := fun a0 a1 a2 a3 => eq_false (by omega)
    have pn5p : ∀ a0 a1 a2 a3 a4 : Nat, (nx + a0 + a1 + a2 + a3 + a4 = p) = False := fun a0 a1 a2 a3 a4 => eq_false (by omega)
    have pn6p : ∀ a0 a1 a2 a3 a4 a5 : Nat, (nx + a0 + a1 + a2 + a3 + a4 + a5 = p) = False := fun a0 a1 a2 a3 a4 a5 => eq_false (by omega)
    have pn7p : ∀ a0 a1 a2 a3 a4 a5 a6 : Nat, (nx + a0 + a1 + a2 + a3 + a4 + a5 + a6 = p) = False := fun a0 a1 a2 a3 a4 a5 a6 => eq_false (by omega)
    have pn0u : (nx = u) = False := eq_false (by omega)
    have pn1u : ∀ a0 : Nat, (nx + a0 = u) = False := fun a0 => eq_false (by omega)
    have pn2u : ∀ a0 a1 : Nat, (nx + a0 + a1 = u) = False := fun a0 a1 => eq_false (by omega)
    have pn3u : ∀ a0 a1 a2 : Nat, (nx + a0 + a1 + a2 = u) = False := fun a0 a1 a2 => eq_false (by omega)
    have pn4u : ∀ a0 a1 a2 a3 : Nat, (nx + a0 + a1 + a2 + a3 = u) = False := fun a0 a1 a2 a3 => eq_false (by omega)
    have pn5u : ∀ a0 a1 a2 a3 a4 : Nat, (nx + a0 + a1 + a2 + a3 + a4 = u) = False := fun a0 a1 a2 a3 a4 => eq_false (by omega)
    have pn6u : ∀ a0 a1 a2 a3 a4 a5 : Nat, (nx + a0 + a1 + a2 + a3 + a4 + a5 = u) = False := fun a0 a1 a2 a3 a4 a5 => eq_false (by omega)
    have pn7u : ∀ a0 a1 a2 a3 a4 a5 a6 : Nat, (nx + a0 + a1 + a2 + a3 + a4 + a5 + a6 = u) = False := fun a0 a1 a2 a3 a4 a5 a6 => eq_false (by omega)
    have pn0v : (nx = v) = False := eq_false (by omega)
    have pn1v : ∀ a0 : Nat, (nx + a0 = v) = False := fun a0 => eq_false (by omega)
    have pn2v : ∀ a0 a1 : Nat, (nx + a0 + a1 = v) = False := fun a0 a1 => eq_false (by omega)
    have pn3v : ∀ a0 a1 a2 : Nat, (nx + a0 + a1 + a2 = v) = False := fun a0 a1 a2 => eq_false (by omega)
    have pn4v : ∀ a0 a1 a2 a3 : Nat, (nx + a0 + a1 + a2 + a3 = v) = False := fun a0 a1 a2 a3 => eq_false (by omega)
    have pn5v : ∀ a0 a1 a2 a3 a4 : Nat, (nx + a0 + a1 + a2 + a3 + a4 = v) = False := fun a0 a1 a2 a3 a4 => eq_false (by omega)
    have pn6v : ∀ a0 a1 a2 a3 a4 a5 : Nat, (nx + a0 + a1 + a2 + a3 + a4 + a5 = v) = False := fun a0 a1 a2 a3 a4 a5 => eq_false (by omega)
    have pn7v : ∀ a0 a1 a2 a3 a4 a5 a6 : Nat, (nx + a0 + a1 + a2 + a3 + a4 + a5 + a6 = v) = False := fun a0 a1 a2 a3 a4 a5 a6 => eq_false (by omega)
    have retN : ¬ (0 ≤ g ∧ g < sf.length ∧ (sf.getD g.toNat .nil).i ≤ n) → ∀ h' nx', HLe h h' → Q Ex.ret ⟨[(6, .bool false)], h', nx'⟩ := fun hc h' nx' hh => by
      refine (hQ _ ?_).1
      exact fin_t (.bool _) rfl rfl hnm hh (hno hc)
    by_cases h1 : g < 0
    · have c1 : decide (g < 0) = true := decide_eq_true h1
      simp (maxSteps := 4000000) only [icPSafe, go_sem, goD_calls, eq_self, implies_true, Int.reduceEq, Int.reduceBEq, Int.reduceBNe, Int.reduceLE, Int.reduceLT, Int.reduceAdd, Int.reduceSub, Int.reduceMul, Int.reduceNeg, Nat.reduceMul, Nat.reduceSub, Nat.reduceLeDiff, Nat.reduceLT, Nat.reduceEqDiff, Nat.reduceAdd, reduceCtorEq, ↓reduceIte, reduceIte, hp, hv, c1]
      exact retN (by omega) _ _ (by ((try simp only []); repeat first | exact HLe.refl _ | refine HLe.cons (by simp only [hget, Nat.reduceEqDiff, Nat.left_eq_add, Nat.add_eq_left, nm_ne2, nm_en2, nm_ne3, nm_en3, nm_ne4, nm_en4, nm_ne5, nm_en5, reduceIte, ↓reduceIte] <;> first | rfl | ((repeat rw [if_neg (by omega)]) <;> rfl)) ?_ | refine HLe.skip hnm (by omega) ?_ | refine HLe.frz hnm (by omega) ?_ | refine HLe.del hnm (by omega) ?_))
    have c1 : decide (g < 0) = false := decide_eq_false h1
    by_cases h2 : (sf.length : Int) ≤ g
    · have c2 : decide ((sf.length : Int) ≤ g) = true := decide_eq_true h2
      simp (maxSteps := 4000000) only [icPSafe, go_sem, goD_calls, eq_self, implies_true, Int.reduceEq, Int.reduceBEq, Int.reduceBNe, Int.reduceLE, Int.reduceLT, Int.reduceAdd, Int.reduceSub, Int.reduceMul, Int.reduceNeg, Nat.reduceMul, Nat.reduceSub, Nat.reduceLeDiff, Nat.reduceLT, Nat.reduceEqDiff, Nat.reduceAdd, reduceCtorEq, ↓reduceIte, reduceIte, hp, hv, c1, c2]
      exact retN (by omega) _ _ (by ((try simp only []); repeat first | exact HLe.refl _ | refine HLe.cons (by simp only [hget, Nat.reduceEqDiff, Nat.left_eq_add, Nat.add_eq_left, nm_ne2, nm_en2, nm_ne3, nm_en3, nm_ne4, nm_en4, nm_ne5, nm_en5, reduceIte, ↓reduceIte] <;> first | rfl | ((repeat rw [if_neg (by omega)]) <;> rfl)) ?_ | refine HLe.skip hnm (by omega) ?_ | refine HLe.frz hnm (by omega) ?_ | refine HLe.del hnm (by omega) ?_))
    have c2 : decide ((sf.length : Int) ≤ g) = false := decide_eq_false h2
    by_cases h3 : n < (sf.getD g.toNat .nil).i
    · have c3 : decide (n < (sf.getD g.toNat .nil).i) = true := decide_eq_true h3
      simp (maxSteps := 4000000) only [icPSafe, go_sem, goD_calls, eq_self, implies_true, Int.reduceEq, Int.reduceBEq, Int.reduceBNe, Int.reduceLE, Int.reduceLT, Int.reduceAdd, Int.reduceSub, Int.reduceMul, Int.reduceNeg, Nat.reduceMul, Nat.reduceSub, Nat.reduceLeDiff, Nat.reduceLT, Nat.reduceEqDiff, Nat.reduceAdd, reduceCtorEq, ↓reduceIte, reduceIte, hp, hv, c1, c2, c3]
      repeat refine ⟨by omega, ?_⟩
      exact retN (by omega) _ _ (by ((try simp only []); repeat first | exact HLe.refl _ | refine HLe.cons (by simp only [hget, Nat.reduceEqDiff, Nat.left_eq_add, Nat.add_eq_left, nm_ne2, nm_en2, nm_ne3, nm_en3, nm_ne4, nm_en4, nm_ne5, nm_en5, reduceIte, ↓reduceIte] <;> first | rfl | ((repeat rw [if_neg (by omega)]) <;> rfl)) ?_ | refine HLe.skip hnm (by omega) ?_ | refine HLe.frz hnm (by omega) ?_ | refine HLe.del hnm (by omega) ?_))
    have c3 : decide (n < (sf.getD g.toNat .nil).i) = false := decide_eq_false h3
    have hpg : ∀ t, hget (hset h v t) p = some (.cells [.dat (.slice 41) (.list sp), .vec u, .int .i64 a, .vec v, .int .i64 k0, .int .i64 c0, .int .i64 d0]) := fun t => by rw [hget_hset_ne hvp]; exact hp
    have hug : ∀ t, hget (hset h v t) u = some (.arr 112 sentT l) := fun t => by rw [hget_hset_ne hvu]; exact hu
    have hvg : ∀ t, hget (hset h v t) v = some t := fun t => hget_hset' hv
    have hset' : sf.set g.toNat (.int n) = setI sf g n := rfl
    have hgr' : grOk l (setI sf g n) := fun i hi => by have := hgr i hi; unfold setI; rw [List.length_set]; exact this
    have hK := hyes ⟨by omega, by rw [ptC_def, pV_c, hv, aL_c]; omega, by rw [ptC_def, pV_c, hv, aL_c]; omega⟩
    rw [ptC_def, pV_c, hv, aL_c] at hK
    simp (maxSteps := 4000000) only [icPSafe, go_sem, goD_calls, eq_self, implies_true, Int.reduceEq, Int.reduceBEq, Int.reduceBNe, Int.reduceLE, Int.reduceLT, Int.reduceAdd, Int.reduceSub, Int.reduceMul, Int.reduceNeg, Nat.reduceMul, Nat.reduceSub, Nat.reduceLeDiff, Nat.reduceLT, Nat.reduceEqDiff, Nat.reduceAdd, reduceCtorEq, ↓reduceIte, reduceIte, spPLook, hp, hv, hpg, hug, hvg, hset', pOk_c, sOk_c, iOk_c, pU_c, pV_c, pK_c, aL_c, c1, c2, c3]
    repeat refine ⟨by omega, ?_⟩
    have hl1 : HLt (hset h v (.arr 2 (.int .i64) (setI sf g n))) nx := HLt.hset hnm trivial
    have hl2 : ∀ x, (ptG (some (.cells [.dat (.slice 41) (.list sp), .vec u, .int .i64 a, .vec v, .int .i64 k0, .int .i64 c0, .int .i64 d0])) x).lt nx := fun x => ⟨trivial, hux, trivial, hvx, trivial, trivial, trivial, trivial⟩
    refine (hQ _ ?_).1
    exact fin_t (.bool _) rfl rfl (HLt.hset hl1 (hl2 _)) (HLe.refl _) hK
  · exact hsp.elim
end Go.Proofs.YtmjenjccinfbaaaDoor
