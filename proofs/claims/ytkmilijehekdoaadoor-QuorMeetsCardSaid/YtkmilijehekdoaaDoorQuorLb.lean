/- Chapter 6: the document's Meets: the walk; QuorMeets. -/
import Derived.Test.YtkmilijehekdoaaDoorQuorLa
import Derived.Test.YtkmilijehekdoaaDoorQuorG
namespace Go.Proofs.YtkmilijehekdoaaDoor
set_option linter.unusedVariables false
set_option linter.unusedSimpArgs false
open Go Go.Fw
attribute [local go_sem] walkSet evMdl evMupD evMup evLkp frpL preF preP prePt prePd frzP evNlq ev frOf oget ogets argSs argS evMm frzL evBin evWrp evShf evCmp evUna evNil evBeq evLd evSt evFad evIad evAad evLen evSln evEls evApp evParts evSlc evNlc evMif evPck evFld evBld evTas evIfq evSeq evSl0 evBxf evAgl evAgq evBsf hget hset hdel cellAt arrAt setCellAt setArrAt takeC lenC svCells SV.okc SV.one ldSV Fw.isAgg explode explodeL toD toDL toD1 Ty.size Ty.sizeL frz1 Fr.sub Heap.sub Tok.sub SV.sub SV.subL

def WR6Meets : Opts := mkWE 46 [] [] [] 152 [] []
def icR6Meets : IC := (.seq (.seq (.ops [(.u (.box 2 0 (.s 0))), (.u (.box 3 0 (.s 1))), (.u (.mov 4 (.c (.bool false))))]) (.tr [2, 3])) (.seq (.seq (.ops [(.u (.ld 10 (.strct [(.slice 79)]) (.s 2))), (.u (.call 11 (.c (.clo 25 [])) [(.s 10)] [none] true)), (.u (.mov 5 (.s 11)))]) (.tr [5, 3])) (.seq (.seq (.ops [(.u (.ld 12 (.strct [(.slice 79)]) (.s 3))), (.u (.call 13 (.c (.clo 19 [])) [(.s 12)] [none] true)), (.u (.mov 6 (.s 13)))]) (.tr [5, 6, 3])) (.seq (.seq (.seq (.ops [(.u (.mov 7 (.c (.int .i64 0))))]) (.tr [5, 6, 3, 7])) (.block 0 (.loop (.seq (.seq (.seq (.ops [(.u (.mov 14 (.s 7))), (.u (.mov 15 (.s 5))), (.u (.len 16 false (.s 15))), (.u (.cmp 17 .lss (.s 14) (.s 16)))]) (.tr [17, 7, 5, 6, 3])) (.cond (.s 17) .skip (.exit 0))) (.seq (.block 1 (.seq (.seq (.ops [(.u (.mov 8 (.c .nils)))]) (.tr [8, 7, 5, 6, 3])) (.seq (.seq (.seq (.ops [(.u (.mov 9 (.c (.int .i64 0))))]) (.tr [9, 8, 7, 5, 6, 3])) (.block 2 (.loop (.seq (.seq (.seq (.ops [(.u (.mov 20 (.s 9))), (.u (.mov 21 (.s 6))), (.u (.len 22 false (.s 21))), (.u (.cmp 23 .lss (.s 20) (.s 22)))]) (.tr [23, 9, 8, 7, 5, 6, 3])) (.cond (.s 23) .skip (.exit 2))) (.seq (.block 3 (.seq (.seq (.rgn [] [(false, (.u (.mov 26 (.s 5)))), (false, (.u (.mov 27 (.s 7)))), (false, (.u (.iad 28 24 (.slice 3) (.s 26) (.s 27)))), (false, (.u (.ld 29 (.slice 3) (.s 28)))), (false, (.u (.mov 30 (.s 6)))), (false, (.u (.mov 31 (.s 9)))), (false, (.u (.iad 32 3 (.int .i64) (.s 30) (.s 31)))), (false, (.u (.ld 33 (.int .i64) (.s 32)))), (false, (.u (.call 34 (.c (.clo 27 [])) [(.s 29), (.s 33)] [(some 3), none] true))), (false, (.u (.una 35 .not (.s 34))))]) (.tr [35, 9, 8, 7, 5, 6, 3])) (.cond (.s 35) (.seq (.ops [(.u (.mov 36 (.s 8))), (.u (.mov 37 (.s 6))), (.u (.mov 38 (.s 9))), (.u (.iad 39 3 (.int .i64) (.s 37) (.s 38))), (.u (.ld 40 (.int .i64) (.s 39))), (.u (.bsl 41 3 (.int .i64) [(.s 40)])), (.u (.app 42 3 (.int .i64) 8 (.s 36) (.s 41))), (.u (.mov 8 (.s 42)))]) (.tr [9, 8, 7, 5, 6, 3])) .skip))) (.seq (.ops [(.u (.mov 24 (.s 9))), (.u (.bin 25 .add .i64 (.s 24) (.c (.int .i64 1)))), (.u (.mov 9 (.s 25)))]) (.tr [9, 8, 7, 5, 6, 3]))))))) (.seq (.seq (.ops [(.u (.ld 43 (.strct [(.slice 79)]) (.s 3))), (.u (.mov 44 (.s 8))), (.u (.call 45 (.c (.clo 28 [])) [(.s 43), (.s 44)] [none, (some 3)] true))]) (.tr [45, 7, 5, 6, 3])) (.cond (.s 45) (.seq (.seq (.ops [(.u (.mov 4 (.c (.bool false))))]) (.tr [4])) .ret) .skip))))) (.seq (.ops [(.u (.mov 18 (.s 7))), (.u (.bin 19 .add .i64 (.s 18) (.c (.int .i64 1)))), (.u (.mov 7 (.s 19)))]) (.tr [5, 6, 3, 7]))))))) (.seq (.seq (.ops [(.u (.mov 4 (.c (.bool true))))]) (.tr [4])) .ret)))))
def rsR6Meets : List RV := [(.t 4)]
theorem irR6Meets : fnIR Tryd.prog WR6Meets 20 = some (icR6Meets, rsR6Meets) := by kernel_rfl
def refOk (L : List D) : Prop := wfP 0 L ∧ L.length ≤ 1000 ∧ (∀ x ∈ L, (rL x).length ≤ 1000) ∧ (allL L).length ≤ 100000 ∧ (riseL (allL L)).length ≤ 9
def hasL (L s : List D) : Bool := hasP (amI s) L
def meetsL (L M : List D) : Bool := !(leastL (hasL L) (riseL (allL L))).any fun d => hasL M (leftL d.l (riseL (allL M)))
def spR6Meets : FSpec := fun args h nx K => match args with
  | [.agg [.dat (.slice t) d], .agg [.dat (.slice t') e]] => t = 79 ∧ t' = 79 ∧ refOk d.l ∧ refOk e.l ∧ K (.bool (meetsL d.l e.l)) h
  | _ => False
set_option maxHeartbeats 4000000 in
set_option maxRecDepth 8000 in
theorem vR6Meets {E : Nat → Value} (hE : Errs2 Tryd.prog (some 152) E) : Valid Tryd.prog E (gs []) 20 spR6Meets := by
  refine valid_go (W := WR6Meets) hE ((((allValid_bot.add (up (vR6Nodes hE))).add (up (vR6Least hE))).add (up (vR6Has hE))).add (up (vRAmong hE))) irR6Meets (by decide) (fun args h nx K hsp hok hnm => ?_)
  unfold spR6Meets at hsp
  split at hsp
  · rename_i t d t' e
    obtain ⟨rfl, rfl, ⟨hwf, hlen, hnl, hal, h9⟩, ⟨hwf', hlen', hnl', hal', h9'⟩, hK⟩ := hsp
    refine ⟨by simp [WR6Meets, mkW, mkWE, mkWF], fun Q hQ => ?_⟩
    obtain ⟨⟨hd, _⟩, ⟨he, _⟩, _⟩ := hok
    simp only [SV.ok] at hd he
    obtain ⟨hd1, hd2, hd3⟩ := Wt.slice hd; generalize d.l = L at *; subst hd1
    obtain ⟨he1, he2, he3⟩ := Wt.slice he; generalize e.l = M at *; subst he1
    have hwf : wfP 0 L := hwf
    have hlen : L.length ≤ 1000 := hlen
    have hnl : ∀ x ∈ L, (rL x).length ≤ 1000 := hnl
    have hal : (allL L).length ≤ 100000 := hal
    have h9 : (riseL (allL L)).length ≤ 9 := h9
    have hwf' : wfP 0 M := hwf'
    have hlen' : M.length ≤ 1000 := hlen'
    have hnl' : ∀ x ∈ M, (rL x).length ≤ 1000 := hnl'
    have hal' : (allL M).length ≤ 100000 := hal'
    have h9' : (riseL (allL M)).length ≤ 9 := h9'
    have hK : K (.bool (meetsL L M)) h := hK
    have ew := eq_true hwf
    have en := eq_true hnl
    have ew' := eq_true hwf'
    have en' := eq_true hnl'
    have ret : ∀ b h' nx', HLe h h' → meetsL L M = b → Q Ex.ret ⟨[(4, .bool b)], h', nx'⟩ := fun b h' nx' hh hb => by
      rw [hb] at hK
      refine (hQ _ ?_).1
      exact fin_t (.bool b) rfl rfl hnm hh hK
    unfold meetsL at ret
    have el : leastL (fun s => hasP (amI s) L) (riseL (allL L)) = leastL (hasL L) (riseL (allL L)) := rfl
    have hLL : (leastL (hasL L) (riseL (allL L))).length ≤ 512 := Nat.le_trans (leastUp_len _ _ _) (Nat.pow_le_pow_right (by omega) h9)
    have hLs : ∀ d ∈ leastL (hasL L) (riseL (allL L)), ∃ m, d = .list m := fun d hd => by obtain ⟨x, _, _, e⟩ := leastL_mem.1 hd; exact ⟨_, e⟩
    simp (maxSteps := 4000000) only [icR6Meets, go_sem, goD_calls, eq_self, implies_true, Int.reduceEq, Int.reduceBEq, Int.reduceBNe, Int.reduceLE, Int.reduceLT, Int.reduceAdd, Int.reduceSub, Int.reduceMul, Int.reduceNeg, Nat.reduceMul, Nat.reduceSub, Nat.reduceLeDiff, Nat.reduceLT, Nat.reduceEqDiff, Nat.reduceAdd, reduceCtorEq, ↓reduceIte, reduceIte, spR6Least, spR6Nodes, hal, hal', ew, en, hlen, h9, el]
    generalize leastL (hasL L) (riseL (allL L)) = W at ret hLL hLs ⊢
    have hS' : ∀ s, hasP (amI s) M = hasL M s := fun s => rfl
    generalize riseL (allL M) = A at ret h9' ⊢
    refine go_loop (α := { i : Nat // i ≤ W.length ∧ ∀ j, j < i → hasL M (leftL (W.getD j .nil).l A) = false }) (I := fun i => { f := [(5, .dat (.slice 24) (.list W)), (6, .dat (.slice 3) (.list A)), (7, .int .i64 i.1), (3, .ptr (nx + 1) 0)], h := [(nx, .cells [.dat (.slice 79) (.list L)]), (nx + 1, .cells [.dat (.slice 79) (.list M)])] ++ h, nx := nx + 2 }) (μ := fun i => W.length - i.1) _ _ _ ⟨0, by omega, fun j hj => absurd hj (by omega)⟩ ?_ (fun i B hB => ?_)
    · refine leq_news [(nx, nx), (nx + 1, nx + 1)] [(nx, .cells [.dat (.slice 79) (.list L)]), (nx + 1, .cells [.dat (.slice 79) (.list M)])] (.refl _) (by simp) (by simp <;> omega) (by simp <;> omega) rfl ?_ ?_ ?_ ?_ hnm ?_ (by omega)
      · simp [frIn_cons, frIn_nil, fget_cons, fget_nil, SV.ren, SV.renL, rens]
      · (simp only [frLt_cons, frLt_nil, and_true, SV.lt, SV.ltL, true_and] <;> omega)
      · (simp only [List.mem_cons, List.not_mem_nil, or_false, forall_eq_or_imp, forall_eq]; simp [hget, rens, Tok.ren, SV.ren, SV.renL])
      · (simp only [List.mem_cons, List.not_mem_nil, or_false, forall_eq_or_imp, forall_eq, Tok.lt, SV.lt, SV.ltL, and_true, true_and] <;> omega)
      · ((try simp only []); repeat first | exact HLe.refl _ | refine HLe.cons (by simp only [hget, Nat.reduceEqDiff, Nat.left_eq_add, Nat.add_eq_left, nm_ne2, nm_en2, nm_ne3, nm_en3, nm_ne4, nm_en4, nm_ne5, nm_en5, reduceIte, ↓reduceIte] <;> first | rfl | ((repeat rw [if_neg (by omega)]) <;> rfl)) ?_ | refine HLe.skip hnm (by omega) ?_ | refine HLe.frz hnm (by omega) ?_ | refine HLe.del hnm (by omega) ?_)
    · obtain ⟨i, hi, hno⟩ := i
      simp only at hB
      by_cases hil : i < W.length
      · have c1 : decide ((i : Int) < (W.length : Int)) = true := decide_eq_true (by omega)
        obtain ⟨m, hm⟩ : ∃ m, W.getD i .nil = .list m := by
          rw [List.getD_eq_getElem?_getD, List.getElem?_eq_getElem hil]
          exact hLs _ (List.getElem_mem hil)
        have next : hasL M (leftL m A) = false → ∀ S', Leq nx S' { f := [(5, .dat (.slice 24) (.list W)), (6, .dat (.slice 3) (.list A)), (7, .int .i64 ((i : Int) + 1)), (3, .ptr (nx + 1) 0)], h := [(nx, .cells [.dat (.slice 79) (.list L)]), (nx + 1, .cells [.dat (.slice 79) (.list M)])] ++ h, nx := nx + 2 } → B S' := fun hn S' hl =>
          hB _ ⟨i + 1, by omega, fun j hj => by
            by_cases e : j = i
            · rw [e, hm]; exact hn
            · exact hno j (by omega)⟩ (by simp only []; omega) hl
        simp (maxSteps := 4000000) only [go_sem, goD_calls, eq_self, implies_true, Int.reduceEq, Int.reduceBEq, Int.reduceBNe, Int.reduceLE, Int.reduceLT, Int.reduceAdd, Int.reduceSub, Int.reduceMul, Int.reduceNeg, Nat.reduceMul, Nat.reduceSub, Nat.reduceLeDiff, Nat.reduceLT, Nat.reduceEqDiff, Nat.reduceAdd, reduceCtorEq, ↓reduceIte, reduceIte, c1]
        refine go_loop (α := { k : Nat // k ≤ A.length }) (I := fun k => { f := [(5, .dat (.slice 24) (.list W)), (6, .dat (.slice 3) (.list A)), (7, .int .i64 i), (9, .int .i64 k.1), (8, .vec (nx + 2)), (3, .ptr (nx + 1) 0)], h := [(nx, .cells [.dat (.slice 79) (.list L)]), (nx + 1, .cells [.dat (.slice 79) (.list M)]), (nx + 2, .arr 3 (.int .i64) (leftU m A k.1))] ++ h, nx := nx + 3 }) (μ := fun k => A.length - k.1) _ _ _ ⟨0, by omega⟩ ?_ (fun k B2 hB2 => ?_)
        · refine leq_news [(nx, nx), (nx + 1, nx + 1), (nx + 2, nx + 2)] [(nx, .cells [.dat (.slice 79) (.list L)]), (nx + 1, .cells [.dat (.slice 79) (.list M)]), (nx + 2, .arr 3 (.int .i64) (leftU m A 0))] (.slot 8 3 (.int .i64) rfl (.refl _)) (by simp) (by simp <;> omega) (by simp <;> omega) rfl ?_ ?_ ?_ ?_ hnm ?_ (by omega)
          · simp [frIn_cons, frIn_nil, fget_cons, fget_nil, SV.ren, SV.renL, rens]
          · (simp only [frLt_cons, frLt_nil, and_true, SV.lt, SV.ltL, true_and] <;> omega)
          · (simp only [List.mem_cons, List.not_mem_nil, or_false, forall_eq_or_imp, forall_eq]; simp [hget, rens, Tok.ren, SV.ren, SV.renL])
            try simp [leftU]
          · (simp only [List.mem_cons, List.not_mem_nil, or_false, forall_eq_or_imp, forall_eq, Tok.lt, SV.lt, SV.ltL, and_true, true_and] <;> omega)
          · ((try simp only []); repeat first | exact HLe.refl _ | refine HLe.cons (by simp only [hget, Nat.reduceEqDiff, Nat.left_eq_add, Nat.add_eq_left, nm_ne2, nm_en2, nm_ne3, nm_en3, nm_ne4, nm_en4, nm_ne5, nm_en5, reduceIte, ↓reduceIte] <;> first | rfl | ((repeat rw [if_neg (by omega)]) <;> rfl)) ?_ | refine HLe.skip hnm (by omega) ?_ | refine HLe.frz hnm (by omega) ?_ | refine HLe.del hnm (by omega) ?_)
        · obtain ⟨k, hk⟩ := k
          simp only at hB2
          by_cases hkl : k < A.length
          · have c2 : decide ((k : Int) < (A.length : Int)) = true := decide_eq_true (by omega)
            have hst := leftU_step (s := m) hkl
            have hl2 := leftU_len m A k
            have next2 : ∀ S', Leq nx S' { f := [(5, .dat (.slice 24) (.list W)), (6, .dat (.slice 3) (.list A)), (7, .int .i64 i), (9, .int .i64 ((k : Int) + 1)), (8, .vec (nx + 2)), (3, .ptr (nx + 1) 0)], h := [(nx, .cells [.dat (.slice 79) (.list L)]), (nx + 1, .cells [.dat (.slice 79) (.list M)]), (nx + 2, .arr 3 (.int .i64) (leftU m A (k + 1)))] ++ h, nx := nx + 3 } → B2 S' := fun S' hl => hB2 _ ⟨k + 1, by omega⟩ (by simp only []; omega) hl
            obtain ⟨v, hv⟩ : ∃ v, (A.getD k .nil).i = v := ⟨_, rfl⟩
            rw [hv] at hst
            obtain ⟨b, hb⟩ : ∃ b, amI m v = b := ⟨_, rfl⟩
            rw [hb] at hst
            cases b with
            | true =>
              rw [if_pos rfl, List.append_nil] at hst
              rw [hst] at next2
              simp (maxSteps := 4000000) only [go_sem, goD_calls, eq_self, implies_true, Int.reduceEq, Int.reduceBEq, Int.reduceBNe, Int.reduceLE, Int.reduceLT, Int.reduceAdd, Int.reduceSub, Int.reduceMul, Int.reduceNeg, Nat.reduceMul, Nat.reduceSub, Nat.reduceLeDiff, Nat.reduceLT, Nat.reduceEqDiff, Nat.reduceAdd, reduceCtorEq, ↓reduceIte, reduceIte, c2, hm, hv, hb, spRAmong, Int.toNat_natCast, min_i64, max_i64]
              repeat refine ⟨by omega, ?_⟩
              refine next2 _ ?_
              refine leq_id (by simp only [frEq_cons, frEq_nil, frIn_cons, frIn_nil, and_true, fget_cons, Nat.reduceEqDiff, reduceIte, ↓reduceIte, true_and, SV.ren, SV.renL, ren1] <;> (try rfl) <;> (try simp)) (by (simp only [frLt_cons, frLt_nil, and_true, SV.lt, SV.ltL, true_and] <;> omega)) (by ((try simp only []); repeat first | exact HLe.refl _ | refine HLe.cons (by simp only [hget, Nat.reduceEqDiff, Nat.left_eq_add, Nat.add_eq_left, nm_ne2, nm_en2, nm_ne3, nm_en3, nm_ne4, nm_en4, nm_ne5, nm_en5, reduceIte, ↓reduceIte] <;> first | rfl | ((repeat rw [if_neg (by omega)]) <;> rfl)) ?_ | refine HLe.skip hnm (by omega) ?_ | refine HLe.frz hnm (by omega) ?_ | refine HLe.del hnm (by omega) ?_)) (by (repeat first | exact HLt.mono hnm (by simp only [] <;> omega) | refine HLt.cons (by simp only [] <;> omega) (by simp only [Tok.lt, SV.ltL, SV.lt, and_true, true_and] <;> omega) ?_)) (by simp only [] <;> omega)
            | false =>
              rw [if_neg (by decide)] at hst
              rw [hst] at next2
              simp (maxSteps := 4000000) only [go_sem, goD_calls, eq_self, implies_true, Int.reduceEq, Int.reduceBEq, Int.reduceBNe, Int.reduceLE, Int.reduceLT, Int.reduceAdd, Int.reduceSub, Int.reduceMul, Int.reduceNeg, Nat.reduceMul, Nat.reduceSub, Nat.reduceLeDiff, Nat.reduceLT, Nat.reduceEqDiff, Nat.reduceAdd, reduceCtorEq, ↓reduceIte, reduceIte, c2, hm, hv, hb, spRAmong, Int.toNat_natCast, min_i64, max_i64]
              repeat refine ⟨by omega, ?_⟩
              refine next2 _ ?_
              refine leq_news [(nx, nx), (nx + 1, nx + 1), (nx + 2, nx + 3 + 64 + 1)] [(nx, .cells [.dat (.slice 79) (.list L)]), (nx + 1, .cells [.dat (.slice 79) (.list M)]), (nx + 2, .arr 3 (.int .i64) (leftU m A k ++ [.int v]))] (.refl _) (by simp) (by simp <;> omega) (by simp <;> omega) rfl ?_ ?_ ?_ ?_ hnm ?_ ?_
              · simp [frIn_cons, frIn_nil, fget_cons, fget_nil, SV.ren, SV.renL, rens]
              · (simp only [frLt_cons, frLt_nil, and_true, SV.lt, SV.ltL, true_and] <;> omega)
              · (simp only [List.mem_cons, List.not_mem_nil, or_false, forall_eq_or_imp, forall_eq]; simp [hget, rens, Tok.ren, SV.ren, SV.renL])
                all_goals try (refine ⟨?_, ?_⟩ <;> first | omega | (repeat rw [if_neg (by omega)]))
                all_goals try omega
              · (simp only [List.mem_cons, List.not_mem_nil, or_false, forall_eq_or_imp, forall_eq, Tok.lt, SV.lt, SV.ltL, and_true, true_and] <;> omega)
              · ((try simp only []); repeat first | exact HLe.refl _ | refine HLe.cons (by simp only [hget, Nat.reduceEqDiff, Nat.left_eq_add, Nat.add_eq_left, nm_ne2, nm_en2, nm_ne3, nm_en3, nm_ne4, nm_en4, nm_ne5, nm_en5, reduceIte, ↓reduceIte] <;> first | rfl | ((repeat rw [if_neg (by omega)]) <;> rfl)) ?_ | refine HLe.skip hnm (by omega) ?_ | refine HLe.frz hnm (by omega) ?_ | refine HLe.del hnm (by omega) ?_)
              · omega
          · obtain rfl : k = A.length := by omega
            have c2 : decide ((A.length : Int) < (A.length : Int)) = false := decide_eq_false (by omega)
            have e3 : leftU m A A.length = leftL m A := rfl
            obtain ⟨b, hb⟩ : ∃ b, hasL M (leftL m A) = b := ⟨_, rfl⟩
            cases b with
            | true =>
              simp (maxSteps := 4000000) only [go_sem, goD_calls, eq_self, implies_true, Int.reduceEq, Int.reduceBEq, Int.reduceBNe, Int.reduceLE, Int.reduceLT, Int.reduceAdd, Int.reduceSub, Int.reduceMul, Int.reduceNeg, Nat.reduceMul, Nat.reduceSub, Nat.reduceLeDiff, Nat.reduceLT, Nat.reduceEqDiff, Nat.reduceAdd, reduceCtorEq, ↓reduceIte, reduceIte, c2, spR6Has, ew', en', hlen', hS', e3, hb]
              refine ret _ _ _ (by ((try simp only []); repeat first | exact HLe.refl _ | refine HLe.cons (by simp only [hget, Nat.reduceEqDiff, Nat.left_eq_add, Nat.add_eq_left, nm_ne2, nm_en2, nm_ne3, nm_en3, nm_ne4, nm_en4, nm_ne5, nm_en5, reduceIte, ↓reduceIte] <;> first | rfl | ((repeat rw [if_neg (by omega)]) <;> rfl)) ?_ | refine HLe.skip hnm (by omega) ?_ | refine HLe.frz hnm (by omega) ?_ | refine HLe.del hnm (by omega) ?_)) ?_
              rw [Bool.not_eq_false', List.any_eq_true]
              refine ⟨W.getD i .nil, ?_, by rw [hm]; exact hb⟩
              rw [List.getD_eq_getElem?_getD, List.getElem?_eq_getElem hil]
              exact List.getElem_mem hil
            | false =>
              simp (maxSteps := 4000000) only [go_sem, goD_calls, eq_self, implies_true, Int.reduceEq, Int.reduceBEq, Int.reduceBNe, Int.reduceLE, Int.reduceLT, Int.reduceAdd, Int.reduceSub, Int.reduceMul, Int.reduceNeg, Nat.reduceMul, Nat.reduceSub, Nat.reduceLeDiff, Nat.reduceLT, Nat.reduceEqDiff, Nat.reduceAdd, reduceCtorEq, ↓reduceIte, reduceIte, c2, spR6Has, ew', en', hlen', hS', e3, hb, min_i64, max_i64]
              repeat refine ⟨by omega, ?_⟩
              refine next hb _ ?_
              refine leq_news [(nx, nx), (nx + 1, nx + 1)] [(nx, .cells [.dat (.slice 79) (.list L)]), (nx + 1, .cells [.dat (.slice 79) (.list M)])] (.refl _) (by simp) (by simp <;> omega) (by simp <;> omega) rfl ?_ ?_ ?_ ?_ hnm ?_ ?_
              · simp [frIn_cons, frIn_nil, fget_cons, fget_nil, SV.ren, SV.renL, rens]
              · (simp only [frLt_cons, frLt_nil, and_true, SV.lt, SV.ltL, true_and] <;> omega)
              · (simp only [List.mem_cons, List.not_mem_nil, or_false, forall_eq_or_imp, forall_eq]; simp [hget, rens, Tok.ren, SV.ren, SV.renL])
              · (simp only [List.mem_cons, List.not_mem_nil, or_false, forall_eq_or_imp, forall_eq, Tok.lt, SV.lt, SV.ltL, and_true, true_and] <;> omega)
              · ((try simp only []); repeat first | exact HLe.refl _ | refine HLe.cons (by simp only [hget, Nat.reduceEqDiff, Nat.left_eq_add, Nat.add_eq_left, nm_ne2, nm_en2, nm_ne3, nm_en3, nm_ne4, nm_en4, nm_ne5, nm_en5, reduceIte, ↓reduceIte] <;> first | rfl | ((repeat rw [if_neg (by omega)]) <;> rfl)) ?_ | refine HLe.skip hnm (by omega) ?_ | refine HLe.frz hnm (by omega) ?_ | refine HLe.del hnm (by omega) ?_)
              · omega
      · obtain rfl : i = W.length := by omega
        have c1 : decide ((W.length : Int) < (W.length : Int)) = false := decide_eq_false (by omega)
        simp (maxSteps := 4000000) only [go_sem, goD_calls, eq_self, implies_true, Int.reduceEq, Int.reduceBEq, Int.reduceBNe, Int.reduceLE, Int.reduceLT, Int.reduceAdd, Int.reduceSub, Int.reduceMul, Int.reduceNeg, Nat.reduceMul, Nat.reduceSub, Nat.reduceLeDiff, Nat.reduceLT, Nat.reduceEqDiff, Nat.reduceAdd, reduceCtorEq, ↓reduceIte, reduceIte, c1]
        refine ret _ _ _ (by ((try simp only []); repeat first | exact HLe.refl _ | refine HLe.cons (by simp only [hget, Nat.reduceEqDiff, Nat.left_eq_add, Nat.add_eq_left, nm_ne2, nm_en2, nm_ne3, nm_en3, nm_ne4, nm_en4, nm_ne5, nm_en5, reduceIte, ↓reduceIte] <;> first | rfl | ((repeat rw [if_neg (by omega)]) <;> rfl)) ?_ | refine HLe.skip hnm (by omega) ?_ | refine HLe.frz hnm (by omega) ?_ | refine HLe.del hnm (by omega) ?_)) ?_
        rw [Bool.not_eq_true', List.any_eq_false]
        intro d hd
        obtain ⟨j, hj, rfl⟩ := List.mem_iff_getElem.1 hd
        have := hno j hj
        rw [List.getD_eq_getElem?_getD, List.getElem?_eq_getElem hj, Option.getD_some] at this
        rw [this]
        simp
  · exact hsp.elim

def neQ : Option QP → Prop
  | none => True
  | some q => q.all ≠ []
theorem ofQ_ne (k : Int) (l : List D) : neQ (ofQ k l) := by
  unfold ofQ
  split
  · exact trivial
  · split
    · rename_i h _
      intro e
      have : l.map D.i = [] := by
        apply List.eq_nil_iff_forall_not_mem.2
        intro x hx
        have : x ∈ riseI (l.map D.i) := rise_mem.2 hx
        have e : riseI (l.map D.i) = [] := e
        rw [e] at this
        cases this
      rw [List.map_eq_nil_iff] at this
      rw [this] at h
      exact h (.inl (by decide))
    · exact trivial
theorem two_ne {kind : Int} {x y : Option QP} (hx : neQ x) (hy : neQ y) : neQ (twoQ kind x y) := by
  cases x with
  | none => simp only [twoQ]; split; exact trivial; exact hy
  | some x =>
    cases y with
    | none => simp only [twoQ]; split; exact trivial; exact hx
    | some y =>
      simp only [twoQ]
      split
      · exact trivial
      · show (kindQ kind x y).all ≠ []
        rw [kind_all]
        intro e
        exact hx (List.append_eq_nil_iff.1 e).1
theorem madeL_ne (L : List D) : ∀ o ∈ madeL L, neQ o := by
  unfold madeL
  have gd : ∀ (A : List (Option QP)), (∀ o ∈ A, neQ o) → ∀ i, neQ (A.getD i none) := fun A h i => by
    rw [List.getD_eq_getElem?_getD]
    cases e : A[i]? with
    | none => exact trivial
    | some o => exact h o (List.mem_of_getElem? e)
  suffices H : ∀ (A : List (Option QP)), (∀ o ∈ A, neQ o) → ∀ o ∈ L.foldl stepM A, neQ o from H [] (by simp)
  induction L with
  | nil => intro A h; exact h
  | cons d L ih =>
    intro A h
    refine ih _ (fun o ho => ?_)
    unfold stepM at ho
    rw [List.mem_append, List.mem_singleton] at ho
    rcases ho with ho | rfl
    · exact h o ho
    · split
      · exact ofQ_ne _ _
      · exact two_ne (gd A h _) (gd A h _)
theorem lastQ_ne (L : List D) : neQ (lastQ (madeL L)) := by
  unfold lastQ
  cases e : (madeL L).getLast? with
  | none => exact trivial
  | some o => exact madeL_ne L o (List.mem_of_getLast? e)
theorem prog_ne {o : Option QP} (h : neQ o) {p : D} {n : Int} (hP : progD o = .node [p, .list [], .int n]) : o = none := by
  rcases prog_inv hP with ⟨rfl, _⟩ | ⟨q, rfl, _, e, _⟩
  · rfl
  · exfalso
    apply h
    simp only [D.list.injEq] at e
    apply List.eq_nil_iff_forall_not_mem.2
    intro x hx
    have := nodesL_mem.2 hx
    rw [← e] at this
    cases this
theorem prog_len2 {o : Option QP} {p : D} {l : List D} {n : Int} (ho : okQ o) (h : progD o = .node [p, .list l, .int n]) : l.length ≤ 16 := by
  rcases prog_inv h with ⟨rfl, _, e, _⟩ | ⟨q, rfl, _, e, _⟩
  · simp only [D.list.injEq] at e
    rw [e]
    exact Nat.zero_le _
  · simp only [D.list.injEq] at e
    rw [e]
    exact ho.2.2.2.2.1
/-! ### Meets, of what may be no set -/
def spQMeetsW : FSpec := fun args h nx K => match args with
  | [a, b] => ∃ x y, okQ x ∧ okQ y ∧ neQ x ∧ neQ y ∧ isProg x a ∧ isProg y b ∧ K (.bool (meetsQ x y)) h
  | _ => False
theorem vQMeetsW {E : Nat → Value} (hE : Errs2 Tryd.prog (some 152) E) : Valid Tryd.prog E (gs []) 15 spQMeetsW := by
  intro args h o nx K ρ H w vs hsp
  unfold spQMeetsW at hsp
  split at hsp
  · rename_i a b
    obtain ⟨x, y, hx, hy, nx', ny', ⟨pa, la, na, hPa, ha⟩, ⟨pb, lb, nb, hPb, hb⟩, hK⟩ := hsp
    have shape : ∀ {p : D} {l : List D} {n : Int} {r : SV}, (r = setOf p l n ∨ (l = [] ∧ r = setA p .nils n)) → ∃ z, r = .agg [.dat (.ptr 65) p, z, .int .i64 n] ∧ (z = .dat (.slice 3) (.list l) ∨ l = []) := fun h => by
      rcases h with rfl | ⟨rfl, rfl⟩
      · exact ⟨_, rfl, .inl rfl⟩
      · exact ⟨_, rfl, .inr rfl⟩
    obtain ⟨za, rfl, hza⟩ := shape ha
    obtain ⟨zb, rfl, hzb⟩ := shape hb
    refine vQMeets hE _ _ _ _ _ _ _ _ _ ⟨rfl, rfl, ?_⟩
    rcases prog_inv hPa with ⟨rfl, rfl, _, _⟩ | ⟨qa, rfl, rfl, ea, _⟩
    · exact .inl ⟨rfl, hK⟩
    rcases prog_inv hPb with ⟨rfl, rfl, _, _⟩ | ⟨qb, rfl, rfl, eb, _⟩
    · exact .inr (.inl ⟨rfl, hK⟩)
    refine .inr (.inr ⟨qa, qb, la, lb, rfl, rfl, ?_, ?_, hx.1, hy.1, prog_len2 hx hPa, ?_⟩)
    · rcases hza with h | rfl
      · exact h
      · cases prog_ne nx' hPa
    · rcases hzb with h | rfl
      · exact h
      · cases prog_ne ny' hPb
    · simp only [D.list.injEq] at ea eb
      rw [ea, eb]
      exact hK
  · exact hsp.elim
theorem ref_all1 {x : Option QP} (h : okQ x) : (allL (refQ x)).length ≤ 1000 := by
    cases x with
    | none => exact Nat.zero_le _
    | some q =>
      have := parts_i q
      have e : (allL q.parts).length = q.all.length := by rw [← this, List.length_map]
      show (allL q.parts).length ≤ 1000
      rw [e]
      have h6 := h.2.2.2.2.2
      have h4 := h.2.2.2.1
      omega
theorem ref_all {x : Option QP} (h : okQ x) : ((allL (refQ x)).length ≤ 100000) = True := eq_true (by have := ref_all1 h; omega)
theorem ref_ok {x : Option QP} (h : okQ x) (h9 : (riseL (allL (refQ x))).length ≤ 9) : refOk (refQ x) := by
  have h1 := ref_len h
  have ha := ref_all1 h
  refine ⟨?_, by omega, fun d hd => ?_, by omega, h9⟩
  · cases x with
    | none => intro i hi; exact absurd hi (by simp [refQ])
    | some q => exact q.parts_wf0
  · refine Nat.le_trans ?_ ha
    obtain ⟨s, t, e⟩ := List.append_of_mem hd
    unfold allL
    rw [e, List.flatMap_append, List.flatMap_cons, List.length_append, List.length_append]
    omega
def WQuorMeets : Opts := mkWF 78 [] [0, 1, 3, 4, 5, 6, 7, 8, 9, 10, 11, 12, 13, 14, 15, 16, 17] [64, 67, 72, 75] 152 [0, 1, 3, 4, 5, 6, 7, 8, 9, 10, 11, 12, 13, 14, 15, 16, 17] [] [] [64, 67, 72, 75]
def icQuorMeets : IC := (.seq (.seq (.ops [(.u (.mov 4 (.c (.bool false))))]) (.tr [0, 1])) (.seq (.seq (.ops [(.u (.call 12 (.c (.clo 11 [])) [] [] true)), (.u (.mov 5 (.s 12)))]) (.tr [5, 0, 1])) (.seq (.seq (.seq (.ops [(.u (.mov 13 (.s 5))), (.u (.una 14 .not (.s 13)))]) (.tr [14, 5, 0, 1])) (.cond (.s 14) (.seq (.seq (.ops [(.u (.mov 4 (.c (.bool false))))]) (.tr [4])) .ret) .skip)) (.seq (.seq (.seq (.ops [(.u (.mov 15 (.s 0))), (.u (.call 16 (.c (.clo 17 [])) [(.s 15)] [(some 72)] true)), (.u (.una 17 .not (.s 16))), (.u (.mov 18 (.s 17))), (.g 18 false (some 19) (.mov 19 (.s 1))), (.g 18 false (some 20) (.call 20 (.c (.clo 17 [])) [(.s 19)] [(some 72)] true)), (.g 18 false (some 21) (.una 21 .not (.s 20))), (.u (.pck 22 (.s 18) (.c (.bool true)) (.s 21))), (.u (.mov 23 (.s 22))), (.g 23 false (some 24) (.mov 24 (.s 5))), (.g 23 false (some 25) (.una 25 .not (.s 24))), (.u (.pck 26 (.s 23) (.c (.bool true)) (.s 25)))]) (.tr [26, 5, 0, 1])) (.cond (.s 26) (.seq (.seq (.ops [(.u (.mov 27 (.s 5))), (.u (.mov 4 (.s 27)))]) (.tr [4])) .ret) .skip)) (.seq (.seq (.ops [(.u (.mov 29 (.s 0))), (.u (.call 30 (.c (.clo 18 [])) [(.s 29)] [(some 72)] true)), (.u (.mov 28 (.s 30))), (.u (.ext 31 0 (.s 28))), (.u (.ext 32 1 (.s 28))), (.u (.ext 33 2 (.s 28))), (.u (.alc 6 [(.dat (.ptr 65) .nil), .nils, (.int .i64 0)])), (.u (.alc 7 [.nils])), (.u (.st (.strct [(.ptr 65), (.slice 3), (.int .i64)]) (.s 6) (.s 31))), (.u (.st (.strct [(.slice 79)]) (.s 7) (.s 32))), (.u (.mov 8 (.s 33)))]) (.tr [1, 8, 7, 6])) (.seq (.seq (.ops [(.u (.mov 35 (.s 1))), (.u (.call 36 (.c (.clo 18 [])) [(.s 35)] [(some 72)] true)), (.u (.mov 34 (.s 36))), (.u (.ext 37 0 (.s 34))), (.u (.ext 38 1 (.s 34))), (.u (.ext 39 2 (.s 34))), (.u (.alc 9 [(.dat (.ptr 65) .nil), .nils, (.int .i64 0)])), (.u (.alc 10 [.nils])), (.u (.st (.strct [(.ptr 65), (.slice 3), (.int .i64)]) (.s 9) (.s 37))), (.u (.st (.strct [(.slice 79)]) (.s 10) (.s 38))), (.u (.mov 11 (.s 39)))]) (.tr [8, 11, 7, 10, 9, 6])) (.seq (.seq (.seq (.ops [(.u (.mov 40 (.s 8))), (.u (.una 41 .not (.s 40))), (.u (.mov 42 (.s 41))), (.g 42 false (some 43) (.mov 43 (.s 11))), (.g 42 false (some 44) (.una 44 .not (.s 43))), (.u (.pck 45 (.s 42) (.c (.bool true)) (.s 44))), (.u (.mov 46 (.s 45))), (.g 46 false (some 47) (.ld 47 (.strct [(.slice 79)]) (.s 7))), (.g 46 false (some 48) (.call 48 (.c (.clo 19 [])) [(.s 47)] [none] true)), (.g 46 false (some 49) (.len 49 false (.s 48))), (.g 46 false (some 50) (.cmp 50 .gtr (.s 49) (.c (.int .i64 9)))), (.u (.pck 51 (.s 46) (.c (.bool true)) (.s 50))), (.u (.mov 52 (.s 51))), (.g 52 false (some 53) (.ld 53 (.strct [(.slice 79)]) (.s 10))), (.g 52 false (some 54) (.call 54 (.c (.clo 19 [])) [(.s 53)] [none] true)), (.g 52 false (some 55) (.len 55 false (.s 54))), (.g 52 false (some 56) (.cmp 56 .gtr (.s 55) (.c (.int .i64 9)))), (.u (.pck 57 (.s 52) (.c (.bool true)) (.s 56)))]) (.tr [57, 8, 11, 7, 10, 9, 6])) (.cond (.s 57) (.seq (.seq (.ops [(.u (.mov 58 (.s 8))), (.u (.mov 59 (.s 58))), (.g 59 true (some 60) (.mov 60 (.s 11))), (.u (.pck 61 (.s 59) (.s 60) (.c (.bool false)))), (.u (.mov 4 (.s 61)))]) (.tr [4])) .ret) .skip)) (.seq (.seq (.rgn [] [(false, (.u (.ld 62 (.strct [(.ptr 65), (.slice 3), (.int .i64)]) (.s 6)))), (false, (.u (.ld 63 (.strct [(.ptr 65), (.slice 3), (.int .i64)]) (.s 9)))), (false, (.u (.ld 65 (.strct [(.slice 79)]) (.s 7)))), (false, (.u (.ld 66 (.strct [(.slice 79)]) (.s 10)))), (true, (.u (.call 64 (.c (.clo 15 [])) [(.s 62), (.s 63)] [none, none] false))), (true, (.u (.call 67 (.c (.clo 20 [])) [(.s 65), (.s 66)] [none, none] false))), (false, (.u (.beq 68 false (.s 64) (.s 67)))), (false, (.u (.mov 69 (.s 68)))), (false, (.g 69 true (some 70) (.ld 70 (.strct [(.ptr 65), (.slice 3), (.int .i64)]) (.s 6)))), (false, (.g 69 true (some 71) (.ld 71 (.strct [(.ptr 65), (.slice 3), (.int .i64)]) (.s 9)))), (false, (.g 69 true (some 73) (.ld 73 (.strct [(.ptr 65), (.slice 3), (.int .i64)]) (.s 9)))), (false, (.g 69 true (some 74) (.ld 74 (.strct [(.ptr 65), (.slice 3), (.int .i64)]) (.s 6)))), (true, (.g 69 true (some 72) (.call 72 (.c (.clo 15 [])) [(.s 70), (.s 71)] [none, none] false))), (true, (.g 69 true (some 75) (.call 75 (.c (.clo 15 [])) [(.s 73), (.s 74)] [none, none] false))), (false, (.g 69 true (some 76) (.beq 76 false (.s 72) (.s 75)))), (false, (.u (.pck 77 (.s 69) (.s 76) (.c (.bool false))))), (false, (.u (.mov 4 (.s 77))))]) (.tr [4])) .ret))))))))
def rsQuorMeets : List RV := [(.t 4)]
theorem irQuorMeets : fnIR Tryd.prog WQuorMeets 4 = some (icQuorMeets, rsQuorMeets) := by kernel_rfl
def spQuorMeets : FSpec := fun args h nx K => match args with
  | [.dat (.slice t) l, .dat (.slice t') m] => t = 72 ∧ t' = 72 ∧ K (.bool true) h
  | _ => False

set_option maxHeartbeats 4000000 in
set_option maxRecDepth 8000 in
theorem vQuorMeets {E : Nat → Value} (hE : Errs2 Tryd.prog (some 152) E) : Valid Tryd.prog E G0 4 spQuorMeets := by
  refine valid_go (W := WQuorMeets) hE ((((((allValid_bot.add (up (vL6first hE))).add (up (vQLight hE))).add (up (vQMade hE))).add (up (vR6Nodes hE))).add (up (vR6Meets hE))).add (up (vQMeetsW hE))) irQuorMeets (by decide) (fun args h nx K hsp hok hnm => ?_)
  unfold spQuorMeets at hsp
  split at hsp
  · rename_i t l t' m
    obtain ⟨rfl, rfl, hK⟩ := hsp
    refine ⟨by simp [WQuorMeets, mkW, mkWE, mkWF], fun Q hQ => ?_⟩
    have ret : ∀ h' nx', HLe h h' → Q Ex.ret ⟨[(4, .bool true)], h', nx'⟩ := fun h' nx' hh => by
      refine (hQ _ ?_).1
      exact fin_t (.bool true) rfl rfl hnm hh hK
    simp (maxSteps := 4000000) only [icQuorMeets, go_sem, goD_calls, eq_self, implies_true, Int.reduceEq, Int.reduceBEq, Int.reduceBNe, Int.reduceLE, Int.reduceLT, Int.reduceAdd, Int.reduceSub, Int.reduceMul, Int.reduceNeg, Nat.reduceMul, Nat.reduceSub, Nat.reduceLeDiff, Nat.reduceLT, Nat.reduceEqDiff, Nat.reduceAdd, reduceCtorEq, ↓reduceIte, reduceIte, spL6first, spQLight]
    cases e1 : lightL l.l with
    | false =>
      simp (maxSteps := 4000000) only [go_sem, goD_calls, eq_self, implies_true, Int.reduceEq, Int.reduceBEq, Int.reduceBNe, Int.reduceLE, Int.reduceLT, Int.reduceAdd, Int.reduceSub, Int.reduceMul, Int.reduceNeg, Nat.reduceMul, Nat.reduceSub, Nat.reduceLeDiff, Nat.reduceLT, Nat.reduceEqDiff, Nat.reduceAdd, reduceCtorEq, ↓reduceIte, reduceIte, e1, spQLight]
      exact ret _ _ (by ((try simp only []); repeat first | exact HLe.refl _ | refine HLe.cons (by simp only [hget, Nat.reduceEqDiff, Nat.left_eq_add, Nat.add_eq_left, nm_ne2, nm_en2, nm_ne3, nm_en3, nm_ne4, nm_en4, nm_ne5, nm_en5, reduceIte, ↓reduceIte] <;> first | rfl | ((repeat rw [if_neg (by omega)]) <;> rfl)) ?_ | refine HLe.skip hnm (by omega) ?_ | refine HLe.frz hnm (by omega) ?_ | refine HLe.del hnm (by omega) ?_))
    | true =>
    cases e2 : lightL m.l with
    | false =>
      simp (maxSteps := 4000000) only [go_sem, goD_calls, eq_self, implies_true, Int.reduceEq, Int.reduceBEq, Int.reduceBNe, Int.reduceLE, Int.reduceLT, Int.reduceAdd, Int.reduceSub, Int.reduceMul, Int.reduceNeg, Nat.reduceMul, Nat.reduceSub, Nat.reduceLeDiff, Nat.reduceLT, Nat.reduceEqDiff, Nat.reduceAdd, reduceCtorEq, ↓reduceIte, reduceIte, e1, e2, spQLight]
      exact ret _ _ (by ((try simp only []); repeat first | exact HLe.refl _ | refine HLe.cons (by simp only [hget, Nat.reduceEqDiff, Nat.left_eq_add, Nat.add_eq_left, nm_ne2, nm_en2, nm_ne3, nm_en3, nm_ne4, nm_en4, nm_ne5, nm_en5, reduceIte, ↓reduceIte] <;> first | rfl | ((repeat rw [if_neg (by omega)]) <;> rfl)) ?_ | refine HLe.skip hnm (by omega) ?_ | refine HLe.frz hnm (by omega) ?_ | refine HLe.del hnm (by omega) ?_))
    | true =>
    obtain ⟨X, hX⟩ : ∃ X, lastQ (madeL l.l) = X := ⟨_, rfl⟩
    have oX : okQ X := hX ▸ lastQ_ok _
    have nX : neQ X := hX ▸ lastQ_ne _
    obtain ⟨Y, hY⟩ : ∃ Y, lastQ (madeL m.l) = Y := ⟨_, rfl⟩
    have oY : okQ Y := hY ▸ lastQ_ok _
    have nY : neQ Y := hY ▸ lastQ_ne _
    simp (maxSteps := 4000000) only [go_sem, goD_calls, eq_self, implies_true, Int.reduceEq, Int.reduceBEq, Int.reduceBNe, Int.reduceLE, Int.reduceLT, Int.reduceAdd, Int.reduceSub, Int.reduceMul, Int.reduceNeg, Nat.reduceMul, Nat.reduceSub, Nat.reduceLeDiff, Nat.reduceLT, Nat.reduceEqDiff, Nat.reduceAdd, reduceCtorEq, ↓reduceIte, reduceIte, e1, e2, spQLight, spQMade, hX]
    refine ⟨light_len e1, light_20 e1, fun r hra => ?_⟩
    have hr := hra
    obtain ⟨pa, la, na, hPa, hr⟩ := hr
    have aX := ref_all oX
    have aY := ref_all oY
    obtain ⟨m1, hm1⟩ : ∃ b, meetsQ X Y = b := ⟨_, rfl⟩
    have hm2 : meetsQ Y X = m1 := by rw [meetsQ_symm oY oX, hm1]
    have hm3 : meetsL (refQ X) (refQ Y) = m1 := (meetsR_eq oX oY).trans hm1
    rcases hr with rfl | ⟨rfl, rfl⟩
    all_goals
      simp (maxSteps := 4000000) only [go_sem, goD_calls, eq_self, implies_true, Int.reduceEq, Int.reduceBEq, Int.reduceBNe, Int.reduceLE, Int.reduceLT, Int.reduceAdd, Int.reduceSub, Int.reduceMul, Int.reduceNeg, Nat.reduceMul, Nat.reduceSub, Nat.reduceLeDiff, Nat.reduceLT, Nat.reduceEqDiff, Nat.reduceAdd, reduceCtorEq, ↓reduceIte, reduceIte, setOf, setA, refV, spQMade, hY]
      refine ⟨light_len e2, light_20 e2, fun r hrb => ?_⟩
      have hr := hrb
      obtain ⟨pb, lb, nb, hPb, hr⟩ := hr
      rcases hr with rfl | ⟨rfl, rfl⟩
      all_goals
        by_cases h9 : 9 < (riseL (allL (refQ X))).length
        · have c1 : decide (9 < ((riseL (allL (refQ X))).length : Int)) = true := decide_eq_true (by omega)
          simp (maxSteps := 4000000) only [go_sem, goD_calls, eq_self, implies_true, Int.reduceEq, Int.reduceBEq, Int.reduceBNe, Int.reduceLE, Int.reduceLT, Int.reduceAdd, Int.reduceSub, Int.reduceMul, Int.reduceNeg, Nat.reduceMul, Nat.reduceSub, Nat.reduceLeDiff, Nat.reduceLT, Nat.reduceEqDiff, Nat.reduceAdd, reduceCtorEq, ↓reduceIte, reduceIte, setOf, setA, refV, spR6Nodes, aX, aY, c1]
          exact ret _ _ (by ((try simp only []); repeat first | exact HLe.refl _ | refine HLe.cons (by simp only [hget, Nat.reduceEqDiff, Nat.left_eq_add, Nat.add_eq_left, nm_ne2, nm_en2, nm_ne3, nm_en3, nm_ne4, nm_en4, nm_ne5, nm_en5, reduceIte, ↓reduceIte] <;> first | rfl | ((repeat rw [if_neg (by omega)]) <;> rfl)) ?_ | refine HLe.skip hnm (by omega) ?_ | refine HLe.frz hnm (by omega) ?_ | refine HLe.del hnm (by omega) ?_))
        have c1 : decide (9 < ((riseL (allL (refQ X))).length : Int)) = false := decide_eq_false (by omega)
        by_cases h9' : 9 < (riseL (allL (refQ Y))).length
        · have c2 : decide (9 < ((riseL (allL (refQ Y))).length : Int)) = true := decide_eq_true (by omega)
          simp (maxSteps := 4000000) only [go_sem, goD_calls, eq_self, implies_true, Int.reduceEq, Int.reduceBEq, Int.reduceBNe, Int.reduceLE, Int.reduceLT, Int.reduceAdd, Int.reduceSub, Int.reduceMul, Int.reduceNeg, Nat.reduceMul, Nat.reduceSub, Nat.reduceLeDiff, Nat.reduceLT, Nat.reduceEqDiff, Nat.reduceAdd, reduceCtorEq, ↓reduceIte, reduceIte, setOf, setA, refV, spR6Nodes, aX, aY, c1, c2]
          exact ret _ _ (by ((try simp only []); repeat first | exact HLe.refl _ | refine HLe.cons (by simp only [hget, Nat.reduceEqDiff, Nat.left_eq_add, Nat.add_eq_left, nm_ne2, nm_en2, nm_ne3, nm_en3, nm_ne4, nm_en4, nm_ne5, nm_en5, reduceIte, ↓reduceIte] <;> first | rfl | ((repeat rw [if_neg (by omega)]) <;> rfl)) ?_ | refine HLe.skip hnm (by omega) ?_ | refine HLe.frz hnm (by omega) ?_ | refine HLe.del hnm (by omega) ?_))
        have c2 : decide (9 < ((riseL (allL (refQ Y))).length : Int)) = false := decide_eq_false (by omega)
        have rX := ref_ok oX (by omega)
        have rY := ref_ok oY (by omega)
        simp (maxSteps := 4000000) only [go_sem, goD_calls, eq_self, implies_true, Int.reduceEq, Int.reduceBEq, Int.reduceBNe, Int.reduceLE, Int.reduceLT, Int.reduceAdd, Int.reduceSub, Int.reduceMul, Int.reduceNeg, Nat.reduceMul, Nat.reduceSub, Nat.reduceLeDiff, Nat.reduceLT, Nat.reduceEqDiff, Nat.reduceAdd, reduceCtorEq, ↓reduceIte, reduceIte, setOf, setA, refV, spR6Nodes, spR6Meets, spQMeetsW, aX, aY, c1, c2]
        refine ⟨.bool m1, fun nx' => ⟨X, Y, oX, oY, nX, nY, hra, hrb, by rw [hm1], rfl⟩, trivial, .bool m1, fun nx' => ⟨rX, rY, by rw [hm3], rfl⟩, trivial, ?_⟩
        rcases bool_ftS m1 with rfl | rfl
        all_goals
          simp (maxSteps := 4000000) only [go_sem, goD_calls, eq_self, implies_true, Int.reduceEq, Int.reduceBEq, Int.reduceBNe, Int.reduceLE, Int.reduceLT, Int.reduceAdd, Int.reduceSub, Int.reduceMul, Int.reduceNeg, Nat.reduceMul, Nat.reduceSub, Nat.reduceLeDiff, Nat.reduceLT, Nat.reduceEqDiff, Nat.reduceAdd, reduceCtorEq, ↓reduceIte, reduceIte, setOf, setA, refV, spQMeetsW]
          refine ⟨.bool _, fun nx' => ⟨X, Y, oX, oY, nX, nY, hra, hrb, by rw [hm1], rfl⟩, trivial, .bool _, fun nx' => ⟨Y, X, oY, oX, nY, nX, hrb, hra, by rw [hm2], rfl⟩, trivial, ?_⟩
          simp (maxSteps := 4000000) only [go_sem, goD_calls, eq_self, implies_true, Int.reduceEq, Int.reduceBEq, Int.reduceBNe, Int.reduceLE, Int.reduceLT, Int.reduceAdd, Int.reduceSub, Int.reduceMul, Int.reduceNeg, Nat.reduceMul, Nat.reduceSub, Nat.reduceLeDiff, Nat.reduceLT, Nat.reduceEqDiff, Nat.reduceAdd, reduceCtorEq, ↓reduceIte, reduceIte]
          exact ret _ _ (by ((try simp only []); repeat first | exact HLe.refl _ | refine HLe.cons (by simp only [hget, Nat.reduceEqDiff, Nat.left_eq_add, Nat.add_eq_left, nm_ne2, nm_en2, nm_ne3, nm_en3, nm_ne4, nm_en4, nm_ne5, nm_en5, reduceIte, ↓reduceIte] <;> first | rfl | ((repeat rw [if_neg (by omega)]) <;> rfl)) ?_ | refine HLe.skip hnm (by omega) ?_ | refine HLe.frz hnm (by omega) ?_ | refine HLe.del hnm (by omega) ?_))
  · exact hsp.elim
end Go.Proofs.YtkmilijehekdoaaDoor
