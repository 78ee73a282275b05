/- Chapter 6: are parts few? -/
import Derived.Test.YtkmilijehekdoaaDoorQuorX
namespace Go.Proofs.YtkmilijehekdoaaDoor
set_option linter.unusedVariables false
set_option linter.unusedSimpArgs false
open Go Go.Fw
attribute [local go_sem] walkSet evMdl evMupD evMup evLkp frpL eltP eltV eltK preF preP prePt prePd frzP evNlq ev frOf oget ogets argSs argS evCat evMm frzL evBin evWrp evShf evCmp evUna evNil evBeq evLd evSt evFad evIad evAad evLen evSln evEls evApp evParts evSlc evNlc evMif evPck evFld evBld evTas evIfq evSeq evSl0 evBxf evAgl evAgq evBsf hget hset hdel cellAt arrAt setCellAt setArrAt takeC lenC svCells SV.okc SV.one ldSV Fw.isAgg explode explodeL toD toDL toD1 Ty.size Ty.sizeL frz1 Fr.sub Heap.sub Tok.sub SV.sub SV.subL

def lN (d : D) : Nat := (d.fld 4).l.length
def sumN (L : List D) : Nat := (L.map lN).sum
def lightL (L : List D) : Bool := decide (L.length ≤ 7) && L.all (fun d => decide (lN d ≤ 20)) && decide (sumN L ≤ 40)
theorem sumN_step {L : List D} {i : Nat} (hi : i < L.length) : sumN (L.take (i + 1)) = sumN (L.take i) + lN (L.getD i .nil) := by
  unfold sumN
  rw [List.take_add_one, List.getElem?_eq_getElem hi, List.getD_eq_getElem?_getD, List.getElem?_eq_getElem hi, List.map_append, List.sum_append]
  simp
theorem sumN_le {L : List D} (h : ∀ d ∈ L, lN d ≤ 20) : sumN L ≤ 20 * L.length := by
  unfold sumN
  induction L with
  | nil => simp
  | cons d L ih =>
    have h1 := h d (List.mem_cons_self ..)
    have h2 := ih (fun e he => h e (List.mem_cons_of_mem _ he))
    simp only [List.map_cons, List.sum_cons, List.length_cons]
    omega
theorem light_len {L : List D} (h : lightL L = true) : L.length ≤ 7 := by
  unfold lightL at h
  simp only [Bool.and_eq_true, decide_eq_true_eq] at h
  exact h.1.1
theorem light_20 {L : List D} (h : lightL L = true) : ∀ d ∈ L, lN d ≤ 20 := by
  unfold lightL at h
  simp only [Bool.and_eq_true, decide_eq_true_eq, List.all_eq_true] at h
  exact h.1.2
theorem ty_part6 : tyOf Tryd.prog 8 72 = .strct [.int .i64, .int .i64, .int .i64, .int .i64, .slice 3] := by kernel_rfl
def WQLight : Opts := mkWE 31 [21] [] [] 152 [] []
def icQLight : IC := (.seq (.seq (.ops [(.u (.mov 2 (.c (.bool false))))]) (.tr [0])) (.seq (.seq (.seq (.ops [(.u (.mov 5 (.s 0))), (.u (.len 6 false (.s 5))), (.u (.cmp 7 .gtr (.s 6) (.c (.int .i64 7))))]) (.tr [7, 0])) (.cond (.s 7) (.seq (.seq (.ops [(.u (.mov 2 (.c (.bool false))))]) (.tr [2])) .ret) .skip)) (.seq (.seq (.ops [(.u (.mov 3 (.c (.int .i64 0))))]) (.tr [0, 3])) (.seq (.seq (.seq (.ops [(.u (.mov 4 (.c (.int .i64 0))))]) (.tr [0, 4, 3])) (.block 0 (.loop (.seq (.seq (.seq (.ops [(.u (.mov 8 (.s 4))), (.u (.mov 9 (.s 0))), (.u (.len 10 false (.s 9))), (.u (.cmp 11 .lss (.s 8) (.s 10)))]) (.tr [11, 4, 0, 3])) (.cond (.s 11) .skip (.exit 0))) (.seq (.block 1 (.seq (.seq (.ops [(.u (.mov 14 (.s 3))), (.u (.mov 15 (.s 0))), (.u (.mov 16 (.s 4))), (.u (.iad 17 72 (.strct [(.int .i64), (.int .i64), (.int .i64), (.int .i64), (.slice 3)]) (.s 15) (.s 16))), (.u (.fad 18 4 4 (.slice 3) 72 (.s 17))), (.u (.ld 19 (.slice 3) (.s 18))), (.u (.len 20 false (.s 19))), (.u (.wrp 21 .add .i64 (.s 14) (.s 20))), (.u (.mov 3 (.s 21)))]) (.tr [4, 0, 3])) (.seq (.seq (.ops [(.u (.mov 22 (.s 0))), (.u (.mov 23 (.s 4))), (.u (.iad 24 72 (.strct [(.int .i64), (.int .i64), (.int .i64), (.int .i64), (.slice 3)]) (.s 22) (.s 23))), (.u (.fad 25 4 4 (.slice 3) 72 (.s 24))), (.u (.ld 26 (.slice 3) (.s 25))), (.u (.len 27 false (.s 26))), (.u (.cmp 28 .gtr (.s 27) (.c (.int .i64 20))))]) (.tr [28, 4, 0, 3])) (.cond (.s 28) (.seq (.seq (.ops [(.u (.mov 2 (.c (.bool false))))]) (.tr [2])) .ret) .skip)))) (.seq (.ops [(.u (.mov 12 (.s 4))), (.u (.bin 13 .add .i64 (.s 12) (.c (.int .i64 1)))), (.u (.mov 4 (.s 13)))]) (.tr [0, 4, 3]))))))) (.seq (.seq (.ops [(.u (.mov 29 (.s 3))), (.u (.cmp 30 .leq (.s 29) (.c (.int .i64 40)))), (.u (.mov 2 (.s 30)))]) (.tr [2])) .ret)))))
def rsQLight : List RV := [(.t 2)]
theorem irQLight : fnIR Tryd.prog WQLight 17 = some (icQLight, rsQLight) := by kernel_rfl
def spQLight : FSpec := fun args h nx K => match args with
  | [.dat (.slice t) d] => t = 72 ∧ K (.bool (lightL d.l)) h
  | _ => False
set_option maxHeartbeats 4000000 in
set_option maxRecDepth 8000 in
theorem vQLight {E : Nat → Value} (hE : Errs2 Tryd.prog (some 152) E) : Valid Tryd.prog E (gs []) 17 spQLight := by
  refine valid_go (W := WQLight) hE allValid_bot irQLight (by decide) (fun args h nx K hsp hok hnm => ?_)
  unfold spQLight at hsp
  split at hsp
  · rename_i t d
    obtain ⟨rfl, hK⟩ := hsp
    refine ⟨by simp [WQLight, mkW, mkWE, mkWF], fun Q hQ => ?_⟩
    obtain ⟨hd, _⟩ := hok
    simp only [SV.ok] at hd
    obtain ⟨hd1, hd2, hd3⟩ := Wt.slice hd; generalize d.l = L at *; subst hd1
    have hK : K (.bool (lightL L)) h := hK
    have ret : ∀ b h' nx', lightL L = b → HLe h h' → Q Ex.ret ⟨[(2, .bool b)], h', nx'⟩ := fun b h' nx' e hh => by
      rw [e] at hK
      refine (hQ _ ?_).1
      exact fin_t (.bool b) rfl rfl hnm hh hK
    by_cases h7 : 7 < L.length
    · have c1 : decide (7 < (L.length : Int)) = true := decide_eq_true (by omega)
      simp only [icQLight, go_sem, goD_calls, eq_self, implies_true, Int.reduceEq, Int.reduceBEq, Int.reduceBNe, Int.reduceLE, Int.reduceLT, Int.reduceAdd, Int.reduceSub, Int.reduceMul, Int.reduceNeg, Nat.reduceMul, Nat.reduceSub, Nat.reduceLeDiff, Nat.reduceLT, Nat.reduceEqDiff, Nat.reduceAdd, reduceCtorEq, ↓reduceIte, reduceIte, c1]
      exact ret false _ _ (by unfold lightL; rw [decide_eq_false (by omega : ¬ L.length ≤ 7)]; rfl) (by ((try simp only []); repeat first | exact HLe.refl _ | refine HLe.cons (by simp only [hget, Nat.reduceEqDiff, Nat.left_eq_add, Nat.add_eq_left, nm_ne2, nm_en2, nm_ne3, nm_en3, nm_ne4, nm_en4, nm_ne5, nm_en5, reduceIte, ↓reduceIte] <;> first | rfl | ((repeat rw [if_neg (by omega)]) <;> rfl)) ?_ | refine HLe.skip hnm (by omega) ?_ | refine HLe.frz hnm (by omega) ?_ | refine HLe.del hnm (by omega) ?_))
    have c1 : decide (7 < (L.length : Int)) = false := decide_eq_false (by omega)
    simp only [icQLight, go_sem, goD_calls, eq_self, implies_true, Int.reduceEq, Int.reduceBEq, Int.reduceBNe, Int.reduceLE, Int.reduceLT, Int.reduceAdd, Int.reduceSub, Int.reduceMul, Int.reduceNeg, Nat.reduceMul, Nat.reduceSub, Nat.reduceLeDiff, Nat.reduceLT, Nat.reduceEqDiff, Nat.reduceAdd, reduceCtorEq, ↓reduceIte, reduceIte, c1]
    refine go_loop (α := { i : Nat // i ≤ L.length ∧ ∀ d ∈ L.take i, lN d ≤ 20 }) (I := fun i => { f := [(0, .dat (.slice 72) (.list L)), (4, .int .i64 i.1), (3, .int .i64 (sumN (L.take i.1)))], h := h, nx := nx }) (μ := fun i => L.length - i.1) _ _ _ ⟨0, by omega, by simp⟩ ?_ (fun i B hB => ?_)
    · refine leq_id ?_ (by (simp only [frLt_cons, frLt_nil, and_true, SV.lt, SV.ltL, true_and] <;> omega)) (by ((try simp only []); repeat first | exact HLe.refl _ | refine HLe.cons (by simp only [hget, Nat.reduceEqDiff, Nat.left_eq_add, Nat.add_eq_left, nm_ne2, nm_en2, nm_ne3, nm_en3, nm_ne4, nm_en4, nm_ne5, nm_en5, reduceIte, ↓reduceIte] <;> first | rfl | ((repeat rw [if_neg (by omega)]) <;> rfl)) ?_ | refine HLe.skip hnm (by omega) ?_ | refine HLe.frz hnm (by omega) ?_ | refine HLe.del hnm (by omega) ?_)) (by (repeat first | exact HLt.mono hnm (by simp only [] <;> omega) | refine HLt.cons (by simp only [] <;> omega) (by simp only [Tok.lt, SV.ltL, SV.lt, and_true, true_and] <;> omega) ?_)) (by simp only [] <;> omega)
      simp only [frEq_cons, frEq_nil, frIn_cons, frIn_nil, and_true, fget_cons, Nat.reduceEqDiff, reduceIte, ↓reduceIte, true_and, SV.ren, SV.renL, ren1]
      simp [sumN]
    · obtain ⟨i, hi, h20⟩ := i
      simp only at hB
      have hs1 := sumN_le h20
      rw [List.length_take] at hs1
      by_cases hil : i < L.length
      · have c2 : decide ((i : Int) < (L.length : Int)) = true := decide_eq_true (by omega)
        obtain ⟨m, hm⟩ : ∃ m, ((L.getD i .nil).fld 4).l = m := ⟨_, rfl⟩
        have hm' : lN (L.getD i .nil) = m.length := by unfold lN; rw [hm]
        have hst := sumN_step hil
        rw [hm'] at hst
        have hx := hd3 _ (show L.getD i .nil ∈ L by rw [List.getD_eq_getElem?_getD, List.getElem?_eq_getElem hil]; exact List.getElem_mem hil)
        rw [ty_part6] at hx
        have hm9 := (Wt.slice (hx.fld 4 (.slice 3) rfl)).2.1
        rw [hm] at hm9
        by_cases h2 : 20 < m.length
        · have c3 : decide (20 < (m.length : Int)) = true := decide_eq_true (by omega)
          simp only [go_sem, goD_calls, eq_self, implies_true, Int.reduceEq, Int.reduceBEq, Int.reduceBNe, Int.reduceLE, Int.reduceLT, Int.reduceAdd, Int.reduceSub, Int.reduceMul, Int.reduceNeg, Nat.reduceMul, Nat.reduceSub, Nat.reduceLeDiff, Nat.reduceLT, Nat.reduceEqDiff, Nat.reduceAdd, reduceCtorEq, ↓reduceIte, reduceIte, c2, c3, hm, Int.toNat_natCast, min_i64, max_i64]
          refine ⟨⟨by omega, by omega⟩, rfl, ⟨by omega, by omega⟩, rfl, ?_⟩
          refine ret false _ _ ?_ (by ((try simp only []); repeat first | exact HLe.refl _ | refine HLe.cons (by simp only [hget, Nat.reduceEqDiff, Nat.left_eq_add, Nat.add_eq_left, nm_ne2, nm_en2, nm_ne3, nm_en3, nm_ne4, nm_en4, nm_ne5, nm_en5, reduceIte, ↓reduceIte] <;> first | rfl | ((repeat rw [if_neg (by omega)]) <;> rfl)) ?_ | refine HLe.skip hnm (by omega) ?_ | refine HLe.frz hnm (by omega) ?_ | refine HLe.del hnm (by omega) ?_))
          unfold lightL
          have : L.all (fun d => decide (lN d ≤ 20)) = false := by
            rw [List.all_eq_false]
            refine ⟨L.getD i .nil, by rw [List.getD_eq_getElem?_getD, List.getElem?_eq_getElem hil]; exact List.getElem_mem hil, ?_⟩
            rw [decide_eq_true_eq, hm']
            omega
          rw [this, Bool.and_false, Bool.false_and]
        · have c3 : decide (20 < (m.length : Int)) = false := decide_eq_false (by omega)
          have hw : IntKind.i64.wrap ((sumN (L.take i) : Int) + (m.length : Int)) = (sumN (L.take i) : Int) + (m.length : Int) := wrap_self _ ⟨by rw [min_i64]; omega, by rw [max_i64]; omega⟩
          simp only [go_sem, goD_calls, eq_self, implies_true, Int.reduceEq, Int.reduceBEq, Int.reduceBNe, Int.reduceLE, Int.reduceLT, Int.reduceAdd, Int.reduceSub, Int.reduceMul, Int.reduceNeg, Nat.reduceMul, Nat.reduceSub, Nat.reduceLeDiff, Nat.reduceLT, Nat.reduceEqDiff, Nat.reduceAdd, reduceCtorEq, ↓reduceIte, reduceIte, c2, c3, hm, hw, Int.toNat_natCast, min_i64, max_i64]
          refine ⟨⟨by omega, by omega⟩, rfl, ⟨by omega, by omega⟩, rfl, ⟨by omega, by omega⟩, ?_⟩
          refine hB _ ⟨i + 1, by omega, fun d hd => ?_⟩ (by simp only []; omega) ?_
          · rw [List.take_add_one, List.getElem?_eq_getElem hil, List.mem_append] at hd
            rcases hd with hd | hd
            · exact h20 d hd
            · simp only [Option.toList_some, List.mem_singleton] at hd
              subst hd
              have e : L.getD i .nil = L[i] := by rw [List.getD_eq_getElem?_getD, List.getElem?_eq_getElem hil]; rfl
              rw [e] at hm'
              omega
          · simp only [hst, Int.natCast_add]
            refine leq_id ?_ (by (simp only [frLt_cons, frLt_nil, and_true, SV.lt, SV.ltL, true_and] <;> omega)) (by ((try simp only []); repeat first | exact HLe.refl _ | refine HLe.cons (by simp only [hget, Nat.reduceEqDiff, Nat.left_eq_add, Nat.add_eq_left, nm_ne2, nm_en2, nm_ne3, nm_en3, nm_ne4, nm_en4, nm_ne5, nm_en5, reduceIte, ↓reduceIte] <;> first | rfl | ((repeat rw [if_neg (by omega)]) <;> rfl)) ?_ | refine HLe.skip hnm (by omega) ?_ | refine HLe.frz hnm (by omega) ?_ | refine HLe.del hnm (by omega) ?_)) (by (repeat first | exact HLt.mono hnm (by simp only [] <;> omega) | refine HLt.cons (by simp only [] <;> omega) (by simp only [Tok.lt, SV.ltL, SV.lt, and_true, true_and] <;> omega) ?_)) (by simp only [] <;> omega)
            simp only [frEq_cons, frEq_nil, frIn_cons, frIn_nil, and_true, fget_cons, Nat.reduceEqDiff, reduceIte, ↓reduceIte, true_and, SV.ren, SV.renL, ren1]
            simp
      · obtain rfl : i = L.length := by omega
        have c2 : decide ((L.length : Int) < (L.length : Int)) = false := decide_eq_false (by omega)
        have h20' : ∀ d ∈ L, lN d ≤ 20 := by rw [List.take_length] at h20; exact h20
        have es : sumN (L.take L.length) = sumN L := by rw [List.take_length]
        clear hs1
        have hl : lightL L = decide ((sumN L : Int) ≤ 40) := by
          unfold lightL
          rw [decide_eq_true (by omega : L.length ≤ 7), List.all_eq_true.2 (fun d hd => decide_eq_true (h20' d hd))]
          simp only [Bool.true_and, decide_eq_decide]
          omega
        simp only [go_sem, goD_calls, eq_self, implies_true, Int.reduceEq, Int.reduceBEq, Int.reduceBNe, Int.reduceLE, Int.reduceLT, Int.reduceAdd, Int.reduceSub, Int.reduceMul, Int.reduceNeg, Nat.reduceMul, Nat.reduceSub, Nat.reduceLeDiff, Nat.reduceLT, Nat.reduceEqDiff, Nat.reduceAdd, reduceCtorEq, ↓reduceIte, reduceIte, c2, es]
        exact ret _ _ _ hl (by ((try simp only []); repeat first | exact HLe.refl _ | refine HLe.cons (by simp only [hget, Nat.reduceEqDiff, Nat.left_eq_add, Nat.add_eq_left, nm_ne2, nm_en2, nm_ne3, nm_en3, nm_ne4, nm_en4, nm_ne5, nm_en5, reduceIte, ↓reduceIte] <;> first | rfl | ((repeat rw [if_neg (by omega)]) <;> rfl)) ?_ | refine HLe.skip hnm (by omega) ?_ | refine HLe.frz hnm (by omega) ?_ | refine HLe.del hnm (by omega) ?_))
  · exact hsp.elim
end Go.Proofs.YtkmilijehekdoaaDoor
