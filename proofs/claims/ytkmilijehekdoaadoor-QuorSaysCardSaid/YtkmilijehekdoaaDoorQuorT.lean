/- Chapter 6: the document's sets: Nodes, Of. -/
import Derived.Test.YtkmilijehekdoaaDoorQuorS
import Derived.Test.YtkmilijehekdoaaDoorNode
namespace Go.Proofs.YtkmilijehekdoaaDoor
set_option linter.unusedVariables false
set_option linter.unusedSimpArgs false
open Go Go.Fw
attribute [local go_sem] walkSet evMdl evMupD evMup evLkp frpL eltP eltV eltK preF preP prePt prePd frzP evNlq ev frOf oget ogets argSs argS evCat evMm frzL evBin evWrp evShf evCmp evUna evNil evBeq evLd evSt evFad evIad evAad evLen evSln evEls evApp evParts evSlc evNlc evMif evPck evFld evBld evTas evIfq evSeq evSl0 evBxf evAgl evAgq evBsf hget hset hdel cellAt arrAt setCellAt setArrAt takeC lenC svCells SV.okc SV.one ldSV Fw.isAgg explode explodeL toD toDL toD1 Ty.size Ty.sizeL frz1 Fr.sub Heap.sub Tok.sub SV.sub SV.subL

def refV (L : List D) : SV := .agg [.dat (.slice 79) (.list L)]
def allL (L : List D) : List D := L.flatMap rL
theorem allL_step {L : List D} {i : Nat} (hi : i < L.length) : allL (L.take (i + 1)) = allL (L.take i) ++ rL (L.getD i .nil) := by
  unfold allL
  rw [List.take_add_one, List.getElem?_eq_getElem hi, List.getD_eq_getElem?_getD, List.getElem?_eq_getElem hi, List.flatMap_append]
  simp
theorem allL_le {L : List D} : ∀ {i : Nat}, i ≤ L.length → (allL (L.take i)).length ≤ (allL L).length := by
  intro i hi
  have : L = L.take i ++ L.drop i := (List.take_append_drop i L).symm
  conv => rhs; rw [this]
  unfold allL
  rw [List.flatMap_append, List.length_append]
  omega
def WR6Nodes : Opts := mkWE 22 [] [] [] 152 [] []
def icR6Nodes : IC := (.seq (.seq (.ops [(.u (.box 1 0 (.s 0))), (.u (.mov 2 (.c .nils)))]) (.tr [1])) (.seq (.seq (.ops [(.u (.mov 3 (.c .nils)))]) (.tr [1, 3])) (.seq (.seq (.seq (.ops [(.u (.mov 4 (.c (.int .i64 0))))]) (.tr [1, 4, 3])) (.block 0 (.loop (.seq (.seq (.seq (.ops [(.u (.mov 5 (.s 4))), (.u (.fad 6 0 0 (.slice 79) 42 (.s 1))), (.u (.ld 7 (.slice 79) (.s 6))), (.u (.len 8 false (.s 7))), (.u (.cmp 9 .lss (.s 5) (.s 8)))]) (.tr [9, 4, 1, 3])) (.cond (.s 9) .skip (.exit 0))) (.seq (.block 1 (.seq (.ops [(.u (.mov 12 (.s 3))), (.u (.fad 13 0 0 (.slice 79) 42 (.s 1))), (.u (.ld 14 (.slice 79) (.s 13))), (.u (.mov 15 (.s 4))), (.u (.iad 16 79 (.strct [(.int .i64), (.int .i64), (.int .i64), (.int .i64), (.slice 3)]) (.s 14) (.s 15))), (.u (.fad 17 4 4 (.slice 3) 79 (.s 16))), (.u (.ld 18 (.slice 3) (.s 17))), (.u (.app 19 3 (.int .i64) 8 (.s 12) (.s 18))), (.u (.mov 3 (.s 19)))]) (.tr [4, 1, 3]))) (.seq (.ops [(.u (.mov 10 (.s 4))), (.u (.bin 11 .add .i64 (.s 10) (.c (.int .i64 1)))), (.u (.mov 4 (.s 11)))]) (.tr [1, 4, 3]))))))) (.seq (.seq (.ops [(.u (.mov 20 (.s 3))), (.u (.call 21 (.c (.clo 42 [])) [(.s 20)] [(some 3)] true)), (.u (.mov 2 (.s 21)))]) (.tr [2])) .ret))))
def rsR6Nodes : List RV := [(.t 2)]
theorem irR6Nodes : fnIR Tryd.prog WR6Nodes 19 = some (icR6Nodes, rsR6Nodes) := by kernel_rfl
def spR6Nodes : FSpec := fun args h nx K => match args with
  | [.agg [.dat (.slice t) d]] => t = 79 ∧ (allL d.l).length ≤ 100000 ∧ K (.dat (.slice 3) (.list (riseL (allL d.l)))) h
  | _ => False
set_option maxHeartbeats 4000000 in
set_option maxRecDepth 8000 in
theorem vR6Nodes {E : Nat → Value} (hE : Errs2 Tryd.prog (some 152) E) : Valid Tryd.prog E (gs []) 19 spR6Nodes := by
  refine valid_go (W := WR6Nodes) hE (allValid_bot.add (up (vRRising hE))) irR6Nodes (by decide) (fun args h nx K hsp hok hnm => ?_)
  unfold spR6Nodes at hsp
  split at hsp
  · rename_i t d
    obtain ⟨rfl, hlen, hK⟩ := hsp
    refine ⟨by simp [WR6Nodes, mkW, mkWE, mkWF], fun Q hQ => ?_⟩
    obtain ⟨⟨hd, _⟩, _⟩ := hok
    simp only [SV.ok] at hd
    obtain ⟨hd1, hd2, hd3⟩ := Wt.slice hd; generalize d.l = L at *; subst hd1
    have hlen : (allL L).length ≤ 100000 := hlen
    have hml : maxLen ≤ 9223372036854775807 := by decide
    simp (maxSteps := 4000000) only [icR6Nodes, go_sem, goD_calls, eq_self, implies_true, Int.reduceEq, Int.reduceBEq, Int.reduceBNe, Int.reduceLE, Int.reduceLT, Int.reduceAdd, Int.reduceSub, Int.reduceMul, Int.reduceNeg, Nat.reduceMul, Nat.reduceSub, Nat.reduceLeDiff, Nat.reduceLT, Nat.reduceEqDiff, Nat.reduceAdd, reduceCtorEq, ↓reduceIte, reduceIte]
    refine go_loop (α := { i : Nat // i ≤ L.length }) (I := fun i => { f := [(1, .ptr nx 0), (4, .int .i64 i.1), (3, .vec (nx + 1))], h := [(nx, .cells [.dat (.slice 79) (.list L)]), (nx + 1, .arr 3 (.int .i64) (allL (L.take i.1)))] ++ h, nx := nx + 2 }) (μ := fun i => L.length - i.1) _ _ _ ⟨0, by omega⟩ ?_ (fun i B hB => ?_)
    · refine leq_news [(nx, nx), (nx + 1, nx + 1)] [(nx, .cells [.dat (.slice 79) (.list L)]), (nx + 1, .arr 3 (.int .i64) [])] (.slot 3 3 (.int .i64) rfl (.refl _)) (by simp) (by simp <;> omega) (by simp <;> omega) rfl ?_ ?_ ?_ ?_ hnm ?_ (by omega)
      · simp [frIn_cons, frIn_nil, fget_cons, fget_nil, SV.ren, SV.renL, rens]
      · (simp only [frLt_cons, frLt_nil, and_true, SV.lt, SV.ltL, true_and] <;> omega)
      · (simp only [List.mem_cons, List.not_mem_nil, or_false, forall_eq_or_imp, forall_eq]; simp [hget, rens, Tok.ren, SV.ren, SV.renL])
      · (simp only [List.mem_cons, List.not_mem_nil, or_false, forall_eq_or_imp, forall_eq, Tok.lt, SV.lt, SV.ltL, and_true, true_and] <;> omega)
      · ((try simp only []); repeat first | exact HLe.refl _ | refine HLe.cons (by simp only [hget, Nat.reduceEqDiff, Nat.left_eq_add, Nat.add_eq_left, nm_ne2, nm_en2, nm_ne3, nm_en3, nm_ne4, nm_en4, nm_ne5, nm_en5, reduceIte, ↓reduceIte] <;> first | rfl | ((repeat rw [if_neg (by omega)]) <;> rfl)) ?_ | refine HLe.skip hnm (by omega) ?_ | refine HLe.frz hnm (by omega) ?_ | refine HLe.del hnm (by omega) ?_)
    · obtain ⟨i, hi⟩ := i
      simp only at hB
      by_cases hil : i < L.length
      · have c1 : decide ((i : Int) < (L.length : Int)) = true := decide_eq_true (by omega)
        have hst := allL_step hil
        have h1 := allL_le (L := L) (i := i + 1) (by omega)
        rw [hst, List.length_append] at h1
        obtain ⟨x, hx⟩ : ∃ x, L.getD i .nil = x := ⟨_, rfl⟩
        rw [hx] at hst h1
        obtain ⟨M, hM⟩ : ∃ M, (x.fld 4).l = M := ⟨_, rfl⟩
        have hM' : rL x = M := hM
        rw [hM'] at hst h1
        simp (maxSteps := 4000000) only [go_sem, goD_calls, eq_self, implies_true, Int.reduceEq, Int.reduceBEq, Int.reduceBNe, Int.reduceLE, Int.reduceLT, Int.reduceAdd, Int.reduceSub, Int.reduceMul, Int.reduceNeg, Nat.reduceMul, Nat.reduceSub, Nat.reduceLeDiff, Nat.reduceLT, Nat.reduceEqDiff, Nat.reduceAdd, reduceCtorEq, ↓reduceIte, reduceIte, c1, hx, hM, Int.toNat_natCast, min_i64, max_i64]
        refine ⟨by omega, rfl, by omega, by omega, ?_⟩
        refine hB _ ⟨i + 1, by omega⟩ (by simp only []; omega) ?_
        simp only [hst]
        refine leq_news [(nx, nx), (nx + 1, nx + 2)] [(nx, .cells [.dat (.slice 79) (.list L)]), (nx + 1, .arr 3 (.int .i64) (allL (L.take i) ++ M))] (.refl _) (by simp) (by simp <;> omega) (by simp <;> omega) rfl ?_ ?_ ?_ ?_ hnm ?_ (by omega)
        · simp [frIn_cons, frIn_nil, fget_cons, fget_nil, SV.ren, SV.renL, rens]
        · (simp only [frLt_cons, frLt_nil, and_true, SV.lt, SV.ltL, true_and] <;> omega)
        · (simp only [List.mem_cons, List.not_mem_nil, or_false, forall_eq_or_imp, forall_eq]; simp [hget, rens, Tok.ren, SV.ren, SV.renL])
        · (simp only [List.mem_cons, List.not_mem_nil, or_false, forall_eq_or_imp, forall_eq, Tok.lt, SV.lt, SV.ltL, and_true, true_and] <;> omega)
        · ((try simp only []); repeat first | exact HLe.refl _ | refine HLe.cons (by simp only [hget, Nat.reduceEqDiff, Nat.left_eq_add, Nat.add_eq_left, nm_ne2, nm_en2, nm_ne3, nm_en3, nm_ne4, nm_en4, nm_ne5, nm_en5, reduceIte, ↓reduceIte] <;> first | rfl | ((repeat rw [if_neg (by omega)]) <;> rfl)) ?_ | refine HLe.skip hnm (by omega) ?_ | refine HLe.frz hnm (by omega) ?_ | refine HLe.del hnm (by omega) ?_)
      · obtain rfl : i = L.length := by omega
        have c1 : decide ((L.length : Int) < (L.length : Int)) = false := decide_eq_false (by omega)
        rw [List.take_of_length_le (Nat.le_refl _)]
        have h9 : (allL L).length ≤ 1000000000 := by omega
        simp (maxSteps := 4000000) only [go_sem, goD_calls, eq_self, implies_true, Int.reduceEq, Int.reduceBEq, Int.reduceBNe, Int.reduceLE, Int.reduceLT, Int.reduceAdd, Int.reduceSub, Int.reduceMul, Int.reduceNeg, Nat.reduceMul, Nat.reduceSub, Nat.reduceLeDiff, Nat.reduceLT, Nat.reduceEqDiff, Nat.reduceAdd, reduceCtorEq, ↓reduceIte, reduceIte, c1, spRRising, h9]
        refine (hQ _ ?_).1
        exact fin_t (.dat (.slice 3) (.list _)) rfl rfl hnm (by ((try simp only []); repeat first | exact HLe.refl _ | refine HLe.cons (by simp only [hget, Nat.reduceEqDiff, Nat.left_eq_add, Nat.add_eq_left, nm_ne2, nm_en2, nm_ne3, nm_en3, nm_ne4, nm_en4, nm_ne5, nm_en5, reduceIte, ↓reduceIte] <;> first | rfl | ((repeat rw [if_neg (by omega)]) <;> rfl)) ?_ | refine HLe.skip hnm (by omega) ?_ | refine HLe.frz hnm (by omega) ?_ | refine HLe.del hnm (by omega) ?_)) hK
  · exact hsp.elim

def ofOk (k : Int) (l : List D) : Bool := (riseL l).length == l.length && decide (1 ≤ k) && decide (k ≤ (l.length : Int)) && (riseL l).all (fun x => nodeI x.i)
theorem fin_ref0 {nb : Nat} {h : Heap} {K : SV → Heap → Prop} {rs : List RV} {S : SSt} {c : Int} (he : evRs rs S = some (True, [.agg [.nils], .int .i64 c])) (hl : HLt h nb) (hs : HLe h S.h) (hk : K (.tup [refV [], .int .i64 c]) h) : Fin nb K rs S := by
  refine fin_new (p := True) he trivial (.dtag 0 0 0 79 rfl rfl rfl rfl (.refl _)) [] (.tup [refV [], .int .i64 c]) [] (by simp) (by simp) (by simp) ?_ ?_ rfl (by simp) (by simp) hl hs hk
  · rfl
  · exact ⟨⟨trivial, trivial⟩, trivial, trivial⟩
def WR6Of : Opts := mkWE 57 [] [] [] 152 [] []
def icR6Of : IC := (.seq (.seq (.ops [(.u (.alc 4 [.nils])), (.u (.mov 5 (.c (.int .i64 0))))]) (.tr [1, 0, 4])) (.seq (.seq (.seq (.ops [(.u (.mov 9 (.s 1))), (.u (.len 10 false (.s 9))), (.u (.cmp 11 .lss (.s 10) (.c (.int .i64 1)))), (.u (.mov 12 (.s 11))), (.g 12 false (some 13) (.mov 13 (.s 1))), (.g 12 false (some 14) (.len 14 false (.s 13))), (.g 12 false (some 15) (.cmp 15 .gtr (.s 14) (.c (.int .i64 16)))), (.u (.pck 16 (.s 12) (.c (.bool true)) (.s 15)))]) (.tr [16, 1, 0, 4])) (.cond (.s 16) (.seq (.seq (.ops [(.u (.bld 17 [[.nils]] [])), (.u (.st (.strct [(.slice 79)]) (.s 4) (.s 17))), (.u (.mov 5 (.c (.int .i64 104))))]) (.tr [4, 5])) .ret) .skip)) (.seq (.seq (.ops [(.u (.mov 18 (.s 1))), (.u (.call 19 (.c (.clo 42 [])) [(.s 18)] [(some 3)] true)), (.u (.mov 6 (.s 19)))]) (.tr [1, 0, 6, 4])) (.seq (.seq (.ops [(.u (.mov 20 (.s 6))), (.u (.len 21 false (.s 20))), (.u (.mov 22 (.s 1))), (.u (.len 23 false (.s 22))), (.u (.cmp 24 .eql (.s 21) (.s 23))), (.u (.mov 25 (.s 24))), (.g 25 true (some 26) (.mov 26 (.s 0))), (.g 25 true (some 27) (.cmp 27 .geq (.s 26) (.c (.int .i64 1)))), (.u (.pck 28 (.s 25) (.s 27) (.c (.bool false)))), (.u (.mov 29 (.s 28))), (.g 29 true (some 30) (.mov 30 (.s 0))), (.g 29 true (some 31) (.mov 31 (.s 1))), (.g 29 true (some 32) (.len 32 false (.s 31))), (.g 29 true (some 33) (.cmp 33 .leq (.s 30) (.s 32))), (.u (.pck 34 (.s 29) (.s 33) (.c (.bool false)))), (.u (.mov 7 (.s 34)))]) (.tr [7, 0, 6, 4])) (.seq (.seq (.seq (.ops [(.u (.mov 8 (.c (.int .i64 0))))]) (.tr [8, 7, 0, 6, 4])) (.block 0 (.loop (.seq (.seq (.seq (.ops [(.u (.mov 35 (.s 8))), (.u (.mov 36 (.s 6))), (.u (.len 37 false (.s 36))), (.u (.cmp 38 .lss (.s 35) (.s 37)))]) (.tr [38, 8, 7, 0, 6, 4])) (.cond (.s 38) .skip (.exit 0))) (.seq (.block 1 (.seq (.ops [(.u (.mov 41 (.s 7))), (.u (.mov 42 (.s 41))), (.g 42 true (some 43) (.mov 43 (.s 6))), (.g 42 true (some 44) (.mov 44 (.s 8))), (.g 42 true (some 45) (.iad 45 3 (.int .i64) (.s 43) (.s 44))), (.g 42 true (some 46) (.ld 46 (.int .i64) (.s 45))), (.g 42 true (some 47) (.call 47 (.c (.clo 51 [])) [(.s 46)] [none] true)), (.u (.pck 48 (.s 42) (.s 47) (.c (.bool false)))), (.u (.mov 7 (.s 48)))]) (.tr [8, 7, 0, 6, 4]))) (.seq (.ops [(.u (.mov 39 (.s 8))), (.u (.bin 40 .add .i64 (.s 39) (.c (.int .i64 1)))), (.u (.mov 8 (.s 40)))]) (.tr [8, 7, 0, 6, 4]))))))) (.seq (.seq (.seq (.ops [(.u (.mov 49 (.s 7))), (.u (.una 50 .not (.s 49)))]) (.tr [50, 0, 6, 4])) (.cond (.s 50) (.seq (.seq (.ops [(.u (.bld 51 [[.nils]] [])), (.u (.st (.strct [(.slice 79)]) (.s 4) (.s 51))), (.u (.mov 5 (.c (.int .i64 105))))]) (.tr [4, 5])) .ret) .skip)) (.seq (.seq (.ops [(.u (.mov 52 (.s 0))), (.u (.mov 53 (.s 6))), (.u (.bld 54 [[(.int .i64 0)], [(.int .i64 0)], [(.int .i64 0)], [(.int .i64 0)], [.nils]] [(1, (.s 52)), (4, (.s 53))])), (.u (.bsl 55 79 (.strct [(.int .i64), (.int .i64), (.int .i64), (.int .i64), (.slice 3)]) [(.s 54)])), (.u (.bld 56 [[.nils]] [(0, (.s 55))])), (.u (.st (.strct [(.slice 79)]) (.s 4) (.s 56))), (.u (.mov 5 (.c (.int .i64 0))))]) (.tr [4, 5])) .ret)))))))
def rsR6Of : List RV := [(.c 4 (.strct [(.slice 79)])), (.t 5)]
theorem irR6Of : fnIR Tryd.prog WR6Of 38 = some (icR6Of, rsR6Of) := by kernel_rfl
def spR6Of : FSpec := fun args h nx K => match args with
  | [.int .i64 k, .dat (.slice t) d] => t = 3 ∧ d.l.length ≤ 1000 ∧
      ((d.l.length < 1 ∨ 16 < d.l.length) → K (.tup [refV [], .int .i64 104]) h) ∧
      (¬ (d.l.length < 1 ∨ 16 < d.l.length) → ofOk k d.l = false → K (.tup [refV [], .int .i64 105]) h) ∧
      (¬ (d.l.length < 1 ∨ 16 < d.l.length) → ofOk k d.l = true → K (.tup [refV [rPart 0 k 0 0 (riseL d.l)], .int .i64 0]) h)
  | _ => False
set_option maxHeartbeats 4000000 in
set_option maxRecDepth 8000 in
theorem vR6Of {E : Nat → Value} (hE : Errs2 Tryd.prog (some 152) E) : Valid Tryd.prog E (gs []) 38 spR6Of := by
  refine valid_go (W := WR6Of) hE ((allValid_bot.add (up (vRRising hE))).add (up (vR1Node hE))) irR6Of (by decide) (fun args h nx K hsp hok hnm => ?_)
  unfold spR6Of at hsp
  split at hsp
  · rename_i k t d
    obtain ⟨rfl, hlen, hmany, hbad, hgood⟩ := hsp
    refine ⟨by simp [WR6Of, mkW, mkWE, mkWF], fun Q hQ => ?_⟩
    obtain ⟨_, hd, _⟩ := hok
    simp only [SV.ok] at hd
    obtain ⟨hd1, hd2, hd3⟩ := Wt.slice hd; generalize d.l = l at *; subst hd1
    have hlen : l.length ≤ 1000 := hlen
    have retN : ∀ c h' nx', K (.tup [refV [], .int .i64 c]) h → HLe h h' → hget h' nx = some (.cells [.nils]) → Q Ex.ret ⟨[(4, .ptr nx 0), (5, .int .i64 c)], h', nx'⟩ := fun c h' nx' hK hh hg => by
      refine (hQ _ ?_).1
      refine fin_ref0 ?_ hnm hh hK
      simp only [rsR6Of, evRs, evR, go_sem, goD_calls, eq_self, implies_true, Int.reduceEq, Int.reduceBEq, Int.reduceBNe, Int.reduceLE, Int.reduceLT, Int.reduceAdd, Int.reduceSub, Int.reduceMul, Int.reduceNeg, Nat.reduceMul, Nat.reduceSub, Nat.reduceLeDiff, Nat.reduceLT, Nat.reduceEqDiff, Nat.reduceAdd, reduceCtorEq, ↓reduceIte, reduceIte, hg]
    by_cases h1 : l.length < 1
    · have c1 : decide ((l.length : Int) < 1) = true := decide_eq_true (by omega)
      simp (maxSteps := 4000000) only [icR6Of, go_sem, goD_calls, eq_self, implies_true, Int.reduceEq, Int.reduceBEq, Int.reduceBNe, Int.reduceLE, Int.reduceLT, Int.reduceAdd, Int.reduceSub, Int.reduceMul, Int.reduceNeg, Nat.reduceMul, Nat.reduceSub, Nat.reduceLeDiff, Nat.reduceLT, Nat.reduceEqDiff, Nat.reduceAdd, reduceCtorEq, ↓reduceIte, reduceIte, c1]
      exact retN _ _ _ (hmany (.inl h1)) (by ((try simp only []); repeat first | exact HLe.refl _ | refine HLe.cons (by simp only [hget, Nat.reduceEqDiff, Nat.left_eq_add, Nat.add_eq_left, nm_ne2, nm_en2, nm_ne3, nm_en3, nm_ne4, nm_en4, nm_ne5, nm_en5, reduceIte, ↓reduceIte] <;> first | rfl | ((repeat rw [if_neg (by omega)]) <;> rfl)) ?_ | refine HLe.skip hnm (by omega) ?_ | refine HLe.frz hnm (by omega) ?_ | refine HLe.del hnm (by omega) ?_)) (by simp only [hget, ↓reduceIte])
    have c1 : decide ((l.length : Int) < 1) = false := decide_eq_false (by omega)
    by_cases h2 : 16 < l.length
    · have c2 : decide (16 < (l.length : Int)) = true := decide_eq_true (by omega)
      simp (maxSteps := 4000000) only [icR6Of, go_sem, goD_calls, eq_self, implies_true, Int.reduceEq, Int.reduceBEq, Int.reduceBNe, Int.reduceLE, Int.reduceLT, Int.reduceAdd, Int.reduceSub, Int.reduceMul, Int.reduceNeg, Nat.reduceMul, Nat.reduceSub, Nat.reduceLeDiff, Nat.reduceLT, Nat.reduceEqDiff, Nat.reduceAdd, reduceCtorEq, ↓reduceIte, reduceIte, c1, c2]
      exact retN _ _ _ (hmany (.inr h2)) (by ((try simp only []); repeat first | exact HLe.refl _ | refine HLe.cons (by simp only [hget, Nat.reduceEqDiff, Nat.left_eq_add, Nat.add_eq_left, nm_ne2, nm_en2, nm_ne3, nm_en3, nm_ne4, nm_en4, nm_ne5, nm_en5, reduceIte, ↓reduceIte] <;> first | rfl | ((repeat rw [if_neg (by omega)]) <;> rfl)) ?_ | refine HLe.skip hnm (by omega) ?_ | refine HLe.frz hnm (by omega) ?_ | refine HLe.del hnm (by omega) ?_)) (by simp only [hget, ↓reduceIte])
    have c2 : decide (16 < (l.length : Int)) = false := decide_eq_false (by omega)
    have hno : ¬ (l.length < 1 ∨ 16 < l.length) := by omega
    have h9 : l.length ≤ 1000000000 := by omega
    have hRl := riseL_len l
    obtain ⟨R, hR⟩ : ∃ R, riseL l = R := ⟨_, rfl⟩
    obtain ⟨r0, hr0⟩ : ∃ r0, r0 = (R.length == l.length && decide (1 ≤ k) && decide (k ≤ (l.length : Int))) := ⟨_, rfl⟩
    have hokr : ofOk k l = (r0 && R.all (fun x => nodeI x.i)) := by unfold ofOk; rw [hR, ← hr0]
    have eqR : ((R.length : Int) == (l.length : Int)) = (R.length == l.length) := by
      by_cases e : R.length = l.length
      · rw [e]; simp
      · rw [beq_eq_false_iff_ne.2 e, beq_eq_false_iff_ne]; omega
    rw [hR] at hRl
    have hstep : ∀ i, i < R.length → (R.take (i + 1)).all (fun x => nodeI x.i) = ((R.take i).all (fun x => nodeI x.i) && nodeI (R.getD i .nil).i) := fun i h => by
      rw [List.take_add_one, List.getElem?_eq_getElem h, List.all_append, List.getD_eq_getElem?_getD, List.getElem?_eq_getElem h]
      simp
    obtain ⟨a, ha⟩ : ∃ a, (R.length == l.length) = a := ⟨_, rfl⟩
    obtain ⟨b, hb⟩ : ∃ b, decide (1 ≤ k) = b := ⟨_, rfl⟩
    obtain ⟨c, hc⟩ : ∃ c, decide (k ≤ (l.length : Int)) = c := ⟨_, rfl⟩
    rw [ha] at eqR
    rw [ha, hb, hc] at hr0
    rcases bool_ftS a with rfl | rfl <;> rcases bool_ftS b with rfl | rfl <;> rcases bool_ftS c with rfl | rfl
    all_goals
      simp (maxSteps := 4000000) only [icR6Of, go_sem, goD_calls, eq_self, implies_true, Int.reduceEq, Int.reduceBEq, Int.reduceBNe, Int.reduceLE, Int.reduceLT, Int.reduceAdd, Int.reduceSub, Int.reduceMul, Int.reduceNeg, Nat.reduceMul, Nat.reduceSub, Nat.reduceLeDiff, Nat.reduceLT, Nat.reduceEqDiff, Nat.reduceAdd, reduceCtorEq, ↓reduceIte, reduceIte, c1, c2, spRRising, h9, hR, eqR, hb, hc]
      refine go_loop (α := { i : Nat // i ≤ R.length }) (I := fun i => { f := [(8, .int .i64 i.1), (7, .bool (r0 && (R.take i.1).all (fun x => nodeI x.i))), (0, .int .i64 k), (6, .dat (.slice 3) (.list R)), (4, .ptr nx 0)], h := (nx, .cells [.nils]) :: h, nx := nx + 1 }) (μ := fun i => R.length - i.1) _ _ _ ⟨0, by omega⟩ ?_ (fun i B hB => ?_)
      · refine leq_id ?_ (by (simp only [frLt_cons, frLt_nil, and_true, SV.lt, SV.ltL, true_and] <;> omega)) (by ((try simp only []); repeat first | exact HLe.refl _ | refine HLe.cons (by simp only [hget, Nat.reduceEqDiff, Nat.left_eq_add, Nat.add_eq_left, nm_ne2, nm_en2, nm_ne3, nm_en3, nm_ne4, nm_en4, nm_ne5, nm_en5, reduceIte, ↓reduceIte] <;> first | rfl | ((repeat rw [if_neg (by omega)]) <;> rfl)) ?_ | refine HLe.skip hnm (by omega) ?_ | refine HLe.frz hnm (by omega) ?_ | refine HLe.del hnm (by omega) ?_)) (by (repeat first | exact HLt.mono hnm (by simp only [] <;> omega) | refine HLt.cons (by simp only [] <;> omega) (by simp only [Tok.lt, SV.ltL, SV.lt, and_true, true_and] <;> omega) ?_)) (by simp only [] <;> omega)
        simp only [frEq_cons, frEq_nil, frIn_cons, frIn_nil, and_true, fget_cons, Nat.reduceEqDiff, reduceIte, ↓reduceIte, true_and, SV.ren, SV.renL, ren1]
        simp [hr0]
      · obtain ⟨i, hi⟩ := i
        simp only at hB
        by_cases hil : i < R.length
        · have c3 : decide ((i : Int) < (R.length : Int)) = true := decide_eq_true (by omega)
          have hst := hstep i hil
          have next : ∀ v S', v = (r0 && (R.take (i + 1)).all (fun x => nodeI x.i)) → Leq nx S' { f := [(8, .int .i64 ((i + 1 : Nat) : Int)), (7, .bool v), (0, .int .i64 k), (6, .dat (.slice 3) (.list R)), (4, .ptr nx 0)], h := (nx, .cells [.nils]) :: h, nx := nx + 1 } → B S' := fun v S' e hl => by
            subst e
            exact hB _ ⟨i + 1, by omega⟩ (by simp only []; omega) hl
          rw [hst, ← Bool.and_assoc] at next
          generalize (r0 && (R.take i).all (fun x => nodeI x.i)) = v at next ⊢
          rcases bool_ftS v with rfl | rfl
          · simp (maxSteps := 4000000) only [go_sem, goD_calls, eq_self, implies_true, Int.reduceEq, Int.reduceBEq, Int.reduceBNe, Int.reduceLE, Int.reduceLT, Int.reduceAdd, Int.reduceSub, Int.reduceMul, Int.reduceNeg, Nat.reduceMul, Nat.reduceSub, Nat.reduceLeDiff, Nat.reduceLT, Nat.reduceEqDiff, Nat.reduceAdd, reduceCtorEq, ↓reduceIte, reduceIte, c3, Int.toNat_natCast, min_i64, max_i64]
            repeat refine ⟨by omega, ?_⟩
            refine next false _ (by simp) ?_
            refine leq_id ?_ (by (simp only [frLt_cons, frLt_nil, and_true, SV.lt, SV.ltL, true_and] <;> omega)) (by ((try simp only []); repeat first | exact HLe.refl _ | refine HLe.cons (by simp only [hget, Nat.reduceEqDiff, Nat.left_eq_add, Nat.add_eq_left, nm_ne2, nm_en2, nm_ne3, nm_en3, nm_ne4, nm_en4, nm_ne5, nm_en5, reduceIte, ↓reduceIte] <;> first | rfl | ((repeat rw [if_neg (by omega)]) <;> rfl)) ?_ | refine HLe.skip hnm (by omega) ?_ | refine HLe.frz hnm (by omega) ?_ | refine HLe.del hnm (by omega) ?_)) (by (repeat first | exact HLt.mono hnm (by simp only [] <;> omega) | refine HLt.cons (by simp only [] <;> omega) (by simp only [Tok.lt, SV.ltL, SV.lt, and_true, true_and] <;> omega) ?_)) (by simp only [] <;> omega)
            simp only [frEq_cons, frEq_nil, frIn_cons, frIn_nil, and_true, fget_cons, Nat.reduceEqDiff, reduceIte, ↓reduceIte, true_and, SV.ren, SV.renL, ren1]
            simp
          · simp (maxSteps := 4000000) only [go_sem, goD_calls, eq_self, implies_true, Int.reduceEq, Int.reduceBEq, Int.reduceBNe, Int.reduceLE, Int.reduceLT, Int.reduceAdd, Int.reduceSub, Int.reduceMul, Int.reduceNeg, Nat.reduceMul, Nat.reduceSub, Nat.reduceLeDiff, Nat.reduceLT, Nat.reduceEqDiff, Nat.reduceAdd, reduceCtorEq, ↓reduceIte, reduceIte, c3, spR1Node, Int.toNat_natCast, min_i64, max_i64]
            repeat refine ⟨by omega, ?_⟩
            refine next (nodeI (R.getD i .nil).i) _ (by simp) ?_
            refine leq_id ?_ (by (simp only [frLt_cons, frLt_nil, and_true, SV.lt, SV.ltL, true_and] <;> omega)) (by ((try simp only []); repeat first | exact HLe.refl _ | refine HLe.cons (by simp only [hget, Nat.reduceEqDiff, Nat.left_eq_add, Nat.add_eq_left, nm_ne2, nm_en2, nm_ne3, nm_en3, nm_ne4, nm_en4, nm_ne5, nm_en5, reduceIte, ↓reduceIte] <;> first | rfl | ((repeat rw [if_neg (by omega)]) <;> rfl)) ?_ | refine HLe.skip hnm (by omega) ?_ | refine HLe.frz hnm (by omega) ?_ | refine HLe.del hnm (by omega) ?_)) (by (repeat first | exact HLt.mono hnm (by simp only [] <;> omega) | refine HLt.cons (by simp only [] <;> omega) (by simp only [Tok.lt, SV.ltL, SV.lt, and_true, true_and] <;> omega) ?_)) (by simp only [] <;> omega)
            simp only [frEq_cons, frEq_nil, frIn_cons, frIn_nil, and_true, fget_cons, Nat.reduceEqDiff, reduceIte, ↓reduceIte, true_and, SV.ren, SV.renL, ren1]
            simp
        · obtain rfl : i = R.length := by omega
          have c3 : decide ((R.length : Int) < (R.length : Int)) = false := decide_eq_false (by omega)
          rw [List.take_of_length_le (Nat.le_refl _), ← hokr]
          rcases bool_ftS (ofOk k l) with ho | ho
          · rw [ho]
            simp (maxSteps := 4000000) only [go_sem, goD_calls, eq_self, implies_true, Int.reduceEq, Int.reduceBEq, Int.reduceBNe, Int.reduceLE, Int.reduceLT, Int.reduceAdd, Int.reduceSub, Int.reduceMul, Int.reduceNeg, Nat.reduceMul, Nat.reduceSub, Nat.reduceLeDiff, Nat.reduceLT, Nat.reduceEqDiff, Nat.reduceAdd, reduceCtorEq, ↓reduceIte, reduceIte, c3]
            exact retN _ _ _ (hbad hno ho) (by ((try simp only []); repeat first | exact HLe.refl _ | refine HLe.cons (by simp only [hget, Nat.reduceEqDiff, Nat.left_eq_add, Nat.add_eq_left, nm_ne2, nm_en2, nm_ne3, nm_en3, nm_ne4, nm_en4, nm_ne5, nm_en5, reduceIte, ↓reduceIte] <;> first | rfl | ((repeat rw [if_neg (by omega)]) <;> rfl)) ?_ | refine HLe.skip hnm (by omega) ?_ | refine HLe.frz hnm (by omega) ?_ | refine HLe.del hnm (by omega) ?_)) (by simp only [hget, ↓reduceIte])
          · rw [ho]
            simp (maxSteps := 4000000) only [go_sem, goD_calls, eq_self, implies_true, Int.reduceEq, Int.reduceBEq, Int.reduceBNe, Int.reduceLE, Int.reduceLT, Int.reduceAdd, Int.reduceSub, Int.reduceMul, Int.reduceNeg, Nat.reduceMul, Nat.reduceSub, Nat.reduceLeDiff, Nat.reduceLT, Nat.reduceEqDiff, Nat.reduceAdd, reduceCtorEq, ↓reduceIte, reduceIte, c3]
            have hg := hgood hno ho
            rw [hR] at hg
            refine (hQ _ ?_).1
            refine fin_new (p := True) (xs := [.agg [.vec (nx + 1)], .int .i64 0]) ?_ trivial (.frz (nx + 1) (.refl _)) [] (.tup [refV [rPart 0 k 0 0 R], .int .i64 0]) [] (by simp) (by simp) (by simp) ?_ ?_ rfl (by simp) (by simp) hnm ?_ hg
            · simp only [rsR6Of, evRs, evR, go_sem, goD_calls, eq_self, implies_true, Int.reduceEq, Int.reduceBEq, Int.reduceBNe, Int.reduceLE, Int.reduceLT, Int.reduceAdd, Int.reduceSub, Int.reduceMul, Int.reduceNeg, Nat.reduceMul, Nat.reduceSub, Nat.reduceLeDiff, Nat.reduceLT, Nat.reduceEqDiff, Nat.reduceAdd, reduceCtorEq, ↓reduceIte, reduceIte]
            · simp only [mkR, go_sem, goD_calls, eq_self, implies_true, Int.reduceEq, Int.reduceBEq, Int.reduceBNe, Int.reduceLE, Int.reduceLT, Int.reduceAdd, Int.reduceSub, Int.reduceMul, Int.reduceNeg, Nat.reduceMul, Nat.reduceSub, Nat.reduceLeDiff, Nat.reduceLT, Nat.reduceEqDiff, Nat.reduceAdd, reduceCtorEq, ↓reduceIte, reduceIte, SV.ren, SV.renL, rens, refV, rPart]
            · exact ⟨⟨trivial, trivial⟩, trivial, trivial⟩
            · simp only [mkR, go_sem, goD_calls, eq_self, implies_true, Int.reduceEq, Int.reduceBEq, Int.reduceBNe, Int.reduceLE, Int.reduceLT, Int.reduceAdd, Int.reduceSub, Int.reduceMul, Int.reduceNeg, Nat.reduceMul, Nat.reduceSub, Nat.reduceLeDiff, Nat.reduceLT, Nat.reduceEqDiff, Nat.reduceAdd, reduceCtorEq, ↓reduceIte, reduceIte] <;> ((try simp only []); repeat first | exact HLe.refl _ | refine HLe.cons (by simp only [hget, Nat.reduceEqDiff, Nat.left_eq_add, Nat.add_eq_left, nm_ne2, nm_en2, nm_ne3, nm_en3, nm_ne4, nm_en4, nm_ne5, nm_en5, reduceIte, ↓reduceIte] <;> first | rfl | ((repeat rw [if_neg (by omega)]) <;> rfl)) ?_ | refine HLe.skip hnm (by omega) ?_ | refine HLe.frz hnm (by omega) ?_ | refine HLe.del hnm (by omega) ?_)
  · exact hsp.elim
end Go.Proofs.YtkmilijehekdoaaDoor
