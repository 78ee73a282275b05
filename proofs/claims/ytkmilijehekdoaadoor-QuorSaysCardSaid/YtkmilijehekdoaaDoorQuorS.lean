/- Chapter 6: the document's sets: Has, Nodes. -/
import Derived.Test.YtkmilijehekdoaaDoorQuorR
import Derived.Test.YtkmilijehekdoaaDoorAt
namespace Go.Proofs.YtkmilijehekdoaaDoor
set_option linter.unusedVariables false
set_option linter.unusedSimpArgs false
open Go Go.Fw
attribute [local go_sem] walkSet evMdl evMupD evMup evLkp frpL eltP eltV eltK preF preP prePt prePd frzP evNlq ev frOf oget ogets argSs argS evCat evMm frzL evBin evWrp evShf evCmp evUna evNil evBeq evLd evSt evFad evIad evAad evLen evSln evEls evApp evParts evSlc evNlc evMif evPck evFld evBld evTas evIfq evSeq evSl0 evBxf evAgl evAgq evBsf hget hset hdel cellAt arrAt setCellAt setArrAt takeC lenC svCells SV.okc SV.one ldSV Fw.isAgg explode explodeL toD toDL toD1 Ty.size Ty.sizeL frz1 Fr.sub Heap.sub Tok.sub SV.sub SV.subL

theorem bool_ftS (b : Bool) : b = false ∨ b = true := by cases b <;> simp
abbrev partT : Ty := .strct [.int .i64, .int .i64, .int .i64, .int .i64, .slice 3]
theorem getD_bool (vs : List Bool) (i : Nat) : ((vs.map D.bool).getD i .nil).b = vs.getD i false := by
  rw [List.getD_eq_getElem?_getD, List.getElem?_map, List.getD_eq_getElem?_getD]
  cases vs[i]? <;> rfl
theorem stepP_len (S : Int → Bool) (vs : List Bool) (d : D) : (stepP S vs d).length = vs.length + 1 := by unfold stepP; simp
theorem stepP_1 {S : Int → Bool} {vs : List Bool} {d : D} (h : rK d = 1) : stepP S vs d = vs ++ [vs.getD (rA d).toNat false && vs.getD (rB d).toNat false] := by unfold stepP; rw [if_pos h]
theorem stepP_2 {S : Int → Bool} {vs : List Bool} {d : D} (h1 : ¬ rK d = 1) (h : rK d = 2) : stepP S vs d = vs ++ [vs.getD (rA d).toNat false || vs.getD (rB d).toNat false] := by unfold stepP; rw [if_neg h1, if_pos h]
theorem stepP_0 {S : Int → Bool} {vs : List Bool} {d : D} (h1 : ¬ rK d = 1) (h2 : ¬ rK d = 2) : stepP S vs d = vs ++ [decide (rN d ≤ (((rL d).map D.i).countP S : Int))] := by unfold stepP; rw [if_neg h1, if_neg h2]
theorem evalP_step (S : Int → Bool) {L : List D} {i : Nat} (hi : i < L.length) : (L.take (i + 1)).foldl (stepP S) [] = stepP S ((L.take i).foldl (stepP S) []) (L.getD i .nil) := by
  rw [List.take_add_one, List.getElem?_eq_getElem hi, List.getD_eq_getElem?_getD, List.getElem?_eq_getElem hi, List.foldl_append]
  rfl
theorem evalP_len (S : Int → Bool) {L : List D} : ∀ {i : Nat}, i ≤ L.length → ((L.take i).foldl (stepP S) []).length = i
  | 0, _ => by simp
  | i + 1, h => by rw [evalP_step S (by omega), stepP_len, evalP_len S (by omega)]
theorem countS_step {l : List D} {S : Int → Bool} {i : Nat} (hi : i < l.length) : (((l.take (i + 1)).map D.i).countP S : Int) = (((l.take i).map D.i).countP S : Int) + (if S (l.getD i .nil).i = true then 1 else 0) := by
  rw [List.take_add_one, List.getElem?_eq_getElem hi, List.map_append, List.countP_append, List.getD_eq_getElem?_getD, List.getElem?_eq_getElem hi]
  simp only [Option.toList_some, List.map_cons, List.map_nil, List.countP_cons, List.countP_nil, Option.getD_some, Nat.zero_add]
  split <;> simp
/-- What a row of parts is worth. -/
def hasP (S : Int → Bool) (L : List D) : Bool := (L.foldl (stepP S) []).getLast?.getD false
theorem hasP_parts (S : Int → Bool) (q : QP) : hasP S q.parts = q.has S := by unfold hasP; rw [q.eval0, q.vals_last]; rfl
theorem hasP_nil (S : Int → Bool) : hasP S [] = false := rfl
def WR6Has : Opts := mkWE 92 [] [] [] 152 [] []
def icR6Has : IC := (.seq (.seq (.ops [(.u (.box 2 0 (.s 0))), (.u (.mov 4 (.c (.bool false))))]) (.tr [2, 1])) (.seq (.seq (.ops [(.u (.mov 5 (.c .nils)))]) (.tr [2, 1, 5])) (.seq (.seq (.seq (.ops [(.u (.mov 6 (.c (.int .i64 0))))]) (.tr [2, 1, 6, 5])) (.block 0 (.loop (.seq (.seq (.seq (.ops [(.u (.mov 10 (.s 6))), (.u (.fad 11 0 0 (.slice 79) 42 (.s 2))), (.u (.ld 12 (.slice 79) (.s 11))), (.u (.len 13 false (.s 12))), (.u (.cmp 14 .lss (.s 10) (.s 13)))]) (.tr [14, 6, 2, 1, 5])) (.cond (.s 14) .skip (.exit 0))) (.seq (.block 1 (.seq (.seq (.ops [(.u (.fad 17 0 0 (.slice 79) 42 (.s 2))), (.u (.ld 18 (.slice 79) (.s 17))), (.u (.mov 19 (.s 6))), (.u (.iad 20 79 (.strct [(.int .i64), (.int .i64), (.int .i64), (.int .i64), (.slice 3)]) (.s 18) (.s 19))), (.u (.ld 21 (.strct [(.int .i64), (.int .i64), (.int .i64), (.int .i64), (.slice 3)]) (.s 20))), (.u (.alc 7 [(.int .i64 0), (.int .i64 0), (.int .i64 0), (.int .i64 0), .nils])), (.u (.st (.strct [(.int .i64), (.int .i64), (.int .i64), (.int .i64), (.slice 3)]) (.s 7) (.s 21)))]) (.tr [7, 6, 2, 1, 5])) (.seq (.seq (.ops [(.u (.fad 22 0 0 (.int .i64) 79 (.s 7))), (.u (.ld 23 (.int .i64) (.s 22)))]) (.tr [23, 7, 6, 2, 1, 5])) (.block 2 (.seq (.seq (.ops [(.u (.cmp 48 .eql (.s 23) (.c (.int .i64 1)))), (.u (.mov 47 (.s 48)))]) (.tr [47, 23, 7, 6, 2, 1, 5])) (.cond (.s 47) (.seq (.ops [(.u (.mov 49 (.s 5))), (.u (.mov 50 (.s 5))), (.u (.fad 51 2 2 (.int .i64) 79 (.s 7))), (.u (.ld 52 (.int .i64) (.s 51))), (.u (.iad 53 4 .bool (.s 50) (.s 52))), (.u (.ld 54 .bool (.s 53))), (.u (.mov 55 (.s 54))), (.g 55 true (some 56) (.mov 56 (.s 5))), (.g 55 true (some 57) (.fad 57 3 3 (.int .i64) 79 (.s 7))), (.g 55 true (some 58) (.ld 58 (.int .i64) (.s 57))), (.g 55 true (some 59) (.iad 59 4 .bool (.s 56) (.s 58))), (.g 55 true (some 60) (.ld 60 .bool (.s 59))), (.u (.pck 61 (.s 55) (.s 60) (.c (.bool false)))), (.u (.bsl 62 4 .bool [(.s 61)])), (.u (.app 63 4 .bool 1 (.s 49) (.s 62))), (.u (.mov 5 (.s 63)))]) (.tr [6, 2, 1, 5])) (.seq (.seq (.ops [(.u (.cmp 65 .eql (.s 23) (.c (.int .i64 2)))), (.u (.mov 64 (.s 65)))]) (.tr [64, 7, 6, 2, 1, 5])) (.cond (.s 64) (.seq (.ops [(.u (.mov 66 (.s 5))), (.u (.mov 67 (.s 5))), (.u (.fad 68 2 2 (.int .i64) 79 (.s 7))), (.u (.ld 69 (.int .i64) (.s 68))), (.u (.iad 70 4 .bool (.s 67) (.s 69))), (.u (.ld 71 .bool (.s 70))), (.u (.mov 72 (.s 71))), (.g 72 false (some 73) (.mov 73 (.s 5))), (.g 72 false (some 74) (.fad 74 3 3 (.int .i64) 79 (.s 7))), (.g 72 false (some 75) (.ld 75 (.int .i64) (.s 74))), (.g 72 false (some 76) (.iad 76 4 .bool (.s 73) (.s 75))), (.g 72 false (some 77) (.ld 77 .bool (.s 76))), (.u (.pck 78 (.s 72) (.c (.bool true)) (.s 77))), (.u (.bsl 79 4 .bool [(.s 78)])), (.u (.app 80 4 .bool 1 (.s 66) (.s 79))), (.u (.mov 5 (.s 80)))]) (.tr [6, 2, 1, 5])) (.seq (.seq (.ops [(.u (.mov 8 (.c (.int .i64 0))))]) (.tr [8, 7, 6, 2, 1, 5])) (.seq (.seq (.seq (.ops [(.u (.mov 9 (.c (.int .i64 0))))]) (.tr [9, 8, 7, 6, 2, 1, 5])) (.block 3 (.loop (.seq (.seq (.seq (.ops [(.u (.mov 24 (.s 9))), (.u (.fad 25 4 4 (.slice 3) 79 (.s 7))), (.u (.ld 26 (.slice 3) (.s 25))), (.u (.len 27 false (.s 26))), (.u (.cmp 28 .lss (.s 24) (.s 27)))]) (.tr [28, 9, 8, 7, 6, 2, 1, 5])) (.cond (.s 28) .skip (.exit 3))) (.seq (.block 4 (.seq (.seq (.ops [(.u (.mov 31 (.s 1))), (.u (.fad 32 4 4 (.slice 3) 79 (.s 7))), (.u (.ld 33 (.slice 3) (.s 32))), (.u (.mov 34 (.s 9))), (.u (.iad 35 3 (.int .i64) (.s 33) (.s 34))), (.u (.ld 36 (.int .i64) (.s 35))), (.u (.call 37 (.c (.clo 27 [])) [(.s 31), (.s 36)] [(some 3), none] true))]) (.tr [37, 9, 8, 7, 6, 2, 1, 5])) (.cond (.s 37) (.seq (.ops [(.u (.mov 38 (.s 8))), (.u (.bin 39 .add .i64 (.s 38) (.c (.int .i64 1)))), (.u (.mov 8 (.s 39)))]) (.tr [9, 8, 7, 6, 2, 1, 5])) .skip))) (.seq (.ops [(.u (.mov 29 (.s 9))), (.u (.bin 30 .add .i64 (.s 29) (.c (.int .i64 1)))), (.u (.mov 9 (.s 30)))]) (.tr [9, 8, 7, 6, 2, 1, 5]))))))) (.seq (.ops [(.u (.mov 40 (.s 5))), (.u (.mov 41 (.s 8))), (.u (.fad 42 1 1 (.int .i64) 79 (.s 7))), (.u (.ld 43 (.int .i64) (.s 42))), (.u (.cmp 44 .geq (.s 41) (.s 43))), (.u (.bsl 45 4 .bool [(.s 44)])), (.u (.app 46 4 .bool 1 (.s 40) (.s 45))), (.u (.mov 5 (.s 46)))]) (.tr [6, 2, 1, 5])))))))))))) (.seq (.ops [(.u (.mov 15 (.s 6))), (.u (.bin 16 .add .i64 (.s 15) (.c (.int .i64 1)))), (.u (.mov 6 (.s 16)))]) (.tr [2, 1, 6, 5]))))))) (.seq (.seq (.ops [(.u (.mov 81 (.s 5))), (.u (.len 82 false (.s 81))), (.u (.cmp 83 .gtr (.s 82) (.c (.int .i64 0)))), (.u (.mov 84 (.s 83))), (.g 84 true (some 85) (.mov 85 (.s 5))), (.g 84 true (some 86) (.mov 86 (.s 5))), (.g 84 true (some 87) (.len 87 false (.s 86))), (.g 84 true (some 88) (.bin 88 .sub .i64 (.s 87) (.c (.int .i64 1)))), (.g 84 true (some 89) (.iad 89 4 .bool (.s 85) (.s 88))), (.g 84 true (some 90) (.ld 90 .bool (.s 89))), (.u (.pck 91 (.s 84) (.s 90) (.c (.bool false)))), (.u (.mov 4 (.s 91)))]) (.tr [4])) .ret))))
def rsR6Has : List RV := [(.t 4)]
theorem irR6Has : fnIR Tryd.prog WR6Has 28 = some (icR6Has, rsR6Has) := by kernel_rfl
def spR6Has : FSpec := fun args h nx K => match args with
  | [.agg [.dat (.slice t) d], .dat (.slice t') n] => t = 79 ∧ t' = 3 ∧ wfP 0 d.l ∧ d.l.length ≤ 1000 ∧ (∀ x ∈ d.l, (rL x).length ≤ 1000) ∧ K (.bool (hasP (amI n.l) d.l)) h
  | _ => False
set_option maxHeartbeats 4000000 in
set_option maxRecDepth 8000 in
theorem vR6Has {E : Nat → Value} (hE : Errs2 Tryd.prog (some 152) E) : Valid Tryd.prog E (gs []) 28 spR6Has := by
  refine valid_go (W := WR6Has) hE (allValid_bot.add (up (vRAmong hE))) irR6Has (by decide) (fun args h nx K hsp hok hnm => ?_)
  unfold spR6Has at hsp
  split at hsp
  · rename_i t d t' n
    obtain ⟨rfl, rfl, hwf, hlen, hnl, hK⟩ := hsp
    refine ⟨by simp [WR6Has, mkW, mkWE, mkWF], fun Q hQ => ?_⟩
    obtain ⟨⟨hd, _⟩, hn, _⟩ := hok
    simp only [SV.ok] at hd hn
    obtain ⟨hd1, hd2, hd3⟩ := Wt.slice hd; generalize d.l = L at *; subst hd1
    obtain ⟨hn1, hn2, hn3⟩ := Wt.slice hn; generalize n.l = N at *; subst hn1
    have hwf : wfP 0 L := hwf
    have hlen : L.length ≤ 1000 := hlen
    have hnl : ∀ x ∈ L, (rL x).length ≤ 1000 := hnl
    have hK : K (.bool (hasP (amI N) L)) h := hK
    have ret : ∀ b h' nx', HLe h h' → b = hasP (amI N) L → Q Ex.ret ⟨[(4, .bool b)], h', nx'⟩ := fun b h' nx' hh hb => by
      refine (hQ _ ?_).1
      subst hb
      exact fin_t (.bool _) rfl rfl hnm hh hK
    simp (maxSteps := 4000000) only [icR6Has, go_sem, goD_calls, eq_self, implies_true, Int.reduceEq, Int.reduceBEq, Int.reduceBNe, Int.reduceLE, Int.reduceLT, Int.reduceAdd, Int.reduceSub, Int.reduceMul, Int.reduceNeg, Nat.reduceMul, Nat.reduceSub, Nat.reduceLeDiff, Nat.reduceLT, Nat.reduceEqDiff, Nat.reduceAdd, reduceCtorEq, ↓reduceIte, reduceIte]
    refine go_loop (α := { i : Nat // i ≤ L.length }) (I := fun i => { f := [(2, .ptr nx 0), (1, .dat (.slice 3) (.list N)), (6, .int .i64 i.1), (5, .vec (nx + 1))], h := [(nx, .cells [.dat (.slice 79) (.list L)]), (nx + 1, .arr 4 .bool (((L.take i.1).foldl (stepP (amI N)) []).map D.bool))] ++ h, nx := nx + 2 }) (μ := fun i => L.length - i.1) _ _ _ ⟨0, by omega⟩ ?_ (fun i B hB => ?_)
    · refine leq_news [(nx, nx), (nx + 1, nx + 1)] [(nx, .cells [.dat (.slice 79) (.list L)]), (nx + 1, .arr 4 .bool [])] (.slot 5 4 .bool rfl (.refl _)) (by simp) (by simp <;> omega) (by simp <;> omega) rfl ?_ ?_ ?_ ?_ hnm ?_ (by omega)
      · simp [frIn_cons, frIn_nil, fget_cons, fget_nil, SV.ren, SV.renL, rens]
      · (simp only [frLt_cons, frLt_nil, and_true, SV.lt, SV.ltL, true_and] <;> omega)
      · (simp only [List.mem_cons, List.not_mem_nil, or_false, forall_eq_or_imp, forall_eq]; simp [hget, rens, Tok.ren, SV.ren, SV.renL])
      · (simp only [List.mem_cons, List.not_mem_nil, or_false, forall_eq_or_imp, forall_eq, Tok.lt, SV.lt, SV.ltL, and_true, true_and] <;> omega)
      · ((try simp only []); repeat first | exact HLe.refl _ | refine HLe.cons (by simp only [hget, Nat.reduceEqDiff, Nat.left_eq_add, Nat.add_eq_left, nm_ne2, nm_en2, nm_ne3, nm_en3, nm_ne4, nm_en4, nm_ne5, nm_en5, reduceIte, ↓reduceIte] <;> first | rfl | ((repeat rw [if_neg (by omega)]) <;> rfl)) ?_ | refine HLe.skip hnm (by omega) ?_ | refine HLe.frz hnm (by omega) ?_ | refine HLe.del hnm (by omega) ?_)
    · obtain ⟨i, hi⟩ := i
      simp only at hB
      have hvl := evalP_len (amI N) hi
      by_cases hil : i < L.length
      · have c1 : decide ((i : Int) < (L.length : Int)) = true := decide_eq_true (by omega)
        have hst := evalP_step (amI N) hil
        have hw := hwf i hil
        have hdl : (rL (L.getD i .nil)).length ≤ 1000 := hnl _ (by rw [List.getD_eq_getElem?_getD, List.getElem?_eq_getElem hil]; exact List.getElem_mem hil)
        have next : ∀ vs S', vs = (L.take (i + 1)).foldl (stepP (amI N)) [] → Leq nx S' { f := [(2, .ptr nx 0), (1, .dat (.slice 3) (.list N)), (6, .int .i64 ((i + 1 : Nat) : Int)), (5, .vec (nx + 1))], h := [(nx, .cells [.dat (.slice 79) (.list L)]), (nx + 1, .arr 4 .bool (vs.map D.bool))] ++ h, nx := nx + 2 } → B S' := fun vs S' e hl => by
          subst e
          exact hB _ ⟨i + 1, by omega⟩ (by simp only []; omega) hl
        generalize hvs : (L.take i).foldl (stepP (amI N)) [] = vs at hvl hst ⊢
        have hvml : (vs.map D.bool).length = i := by rw [List.length_map]; exact hvl
        obtain ⟨x, hx⟩ : ∃ x, L.getD i .nil = x := ⟨_, rfl⟩
        rw [hx] at hw hdl hst
        have hgb := getD_bool vs
        by_cases h1 : rK x = 1
        · have c2 : ((x.fld 0).i == 1) = true := beq_iff_eq.2 h1
          obtain ⟨a0, a1, b0, b1⟩ := hw.resolve_left (fun h => h (.inl h1))
          have a1 : (x.fld 2).i < (i : Int) := by
            have h : (x.fld 2).i < ((0 : Nat) : Int) + (i : Int) := a1
            omega
          have b1 : (x.fld 3).i < (i : Int) := by
            have h : (x.fld 3).i < ((0 : Nat) : Int) + (i : Int) := b1
            omega
          rw [stepP_1 h1] at hst
          rcases bool_ftS (vs.getD (rA x).toNat false) with hv | hv
          · have hv' : vs.getD ((x.fld 2).i).toNat false = false := hv
            rw [hv, Bool.false_and] at hst
            simp (maxSteps := 4000000) only [go_sem, goD_calls, eq_self, implies_true, Int.reduceEq, Int.reduceBEq, Int.reduceBNe, Int.reduceLE, Int.reduceLT, Int.reduceAdd, Int.reduceSub, Int.reduceMul, Int.reduceNeg, Nat.reduceMul, Nat.reduceSub, Nat.reduceLeDiff, Nat.reduceLT, Nat.reduceEqDiff, Nat.reduceAdd, reduceCtorEq, ↓reduceIte, reduceIte, c1, c2, hx, hgb, hv', hvml, Int.toNat_natCast, min_i64, max_i64]
            refine ⟨by omega, ⟨a0, by omega⟩, ⟨a0, by omega⟩, by omega, by omega, ?_⟩
            refine next _ _ hst.symm ?_
            refine leq_news [(nx, nx), (nx + 1, nx + 2 + 1 + 1)] [(nx, .cells [.dat (.slice 79) (.list L)]), (nx + 1, .arr 4 .bool ((vs ++ [false]).map D.bool))] (.refl _) (by simp) (by simp <;> omega) (by simp <;> omega) rfl ?_ ?_ ?_ ?_ hnm ?_ (by omega)
            · simp [frIn_cons, frIn_nil, fget_cons, fget_nil, SV.ren, SV.renL, rens]
            · (simp only [frLt_cons, frLt_nil, and_true, SV.lt, SV.ltL, true_and] <;> omega)
            · (simp only [List.mem_cons, List.not_mem_nil, or_false, forall_eq_or_imp, forall_eq]; simp [hget, rens, Tok.ren, SV.ren, SV.renL])
              all_goals try (rw [if_neg (by omega), if_neg (by omega)])
              all_goals try omega
            · (simp only [List.mem_cons, List.not_mem_nil, or_false, forall_eq_or_imp, forall_eq, Tok.lt, SV.lt, SV.ltL, and_true, true_and] <;> omega)
            · ((try simp only []); repeat first | exact HLe.refl _ | refine HLe.cons (by simp only [hget, Nat.reduceEqDiff, Nat.left_eq_add, Nat.add_eq_left, nm_ne2, nm_en2, nm_ne3, nm_en3, nm_ne4, nm_en4, nm_ne5, nm_en5, reduceIte, ↓reduceIte] <;> first | rfl | ((repeat rw [if_neg (by omega)]) <;> rfl)) ?_ | refine HLe.skip hnm (by omega) ?_ | refine HLe.frz hnm (by omega) ?_ | refine HLe.del hnm (by omega) ?_)
          · have hv' : vs.getD ((x.fld 2).i).toNat false = true := hv
            rw [hv, Bool.true_and] at hst
            obtain ⟨v2, hv2⟩ : ∃ v2, vs.getD ((x.fld 3).i).toNat false = v2 := ⟨_, rfl⟩
            have hst : (L.take (i + 1)).foldl (stepP (amI N)) [] = vs ++ [v2] := by rw [hst, ← hv2]; rfl
            simp (maxSteps := 4000000) only [go_sem, goD_calls, eq_self, implies_true, Int.reduceEq, Int.reduceBEq, Int.reduceBNe, Int.reduceLE, Int.reduceLT, Int.reduceAdd, Int.reduceSub, Int.reduceMul, Int.reduceNeg, Nat.reduceMul, Nat.reduceSub, Nat.reduceLeDiff, Nat.reduceLT, Nat.reduceEqDiff, Nat.reduceAdd, reduceCtorEq, ↓reduceIte, reduceIte, c1, c2, hx, hgb, hv', hv2, hvml, Int.toNat_natCast, min_i64, max_i64]
            refine ⟨by omega, ⟨a0, by omega⟩, ⟨a0, by omega⟩, ⟨b0, by omega⟩, ⟨b0, by omega⟩, by omega, by omega, ?_⟩
            refine next _ _ hst.symm ?_
            refine leq_news [(nx, nx), (nx + 1, nx + 2 + 1 + 1)] [(nx, .cells [.dat (.slice 79) (.list L)]), (nx + 1, .arr 4 .bool ((vs ++ [v2]).map D.bool))] (.refl _) (by simp) (by simp <;> omega) (by simp <;> omega) rfl ?_ ?_ ?_ ?_ hnm ?_ (by omega)
            · simp [frIn_cons, frIn_nil, fget_cons, fget_nil, SV.ren, SV.renL, rens]
            · (simp only [frLt_cons, frLt_nil, and_true, SV.lt, SV.ltL, true_and] <;> omega)
            · (simp only [List.mem_cons, List.not_mem_nil, or_false, forall_eq_or_imp, forall_eq]; simp [hget, rens, Tok.ren, SV.ren, SV.renL])
              all_goals try (rw [if_neg (by omega), if_neg (by omega)])
              all_goals try omega
            · (simp only [List.mem_cons, List.not_mem_nil, or_false, forall_eq_or_imp, forall_eq, Tok.lt, SV.lt, SV.ltL, and_true, true_and] <;> omega)
            · ((try simp only []); repeat first | exact HLe.refl _ | refine HLe.cons (by simp only [hget, Nat.reduceEqDiff, Nat.left_eq_add, Nat.add_eq_left, nm_ne2, nm_en2, nm_ne3, nm_en3, nm_ne4, nm_en4, nm_ne5, nm_en5, reduceIte, ↓reduceIte] <;> first | rfl | ((repeat rw [if_neg (by omega)]) <;> rfl)) ?_ | refine HLe.skip hnm (by omega) ?_ | refine HLe.frz hnm (by omega) ?_ | refine HLe.del hnm (by omega) ?_)
        by_cases h2 : rK x = 2
        · have c2 : ((x.fld 0).i == 1) = false := beq_eq_false_iff_ne.2 h1
          have c3 : ((x.fld 0).i == 2) = true := beq_iff_eq.2 h2
          obtain ⟨a0, a1, b0, b1⟩ := hw.resolve_left (fun h => h (.inr h2))
          have a1 : (x.fld 2).i < (i : Int) := by
            have h : (x.fld 2).i < ((0 : Nat) : Int) + (i : Int) := a1
            omega
          have b1 : (x.fld 3).i < (i : Int) := by
            have h : (x.fld 3).i < ((0 : Nat) : Int) + (i : Int) := b1
            omega
          rw [stepP_2 h1 h2] at hst
          rcases bool_ftS (vs.getD (rA x).toNat false) with hv | hv
          · have hv' : vs.getD ((x.fld 2).i).toNat false = false := hv
            rw [hv, Bool.false_or] at hst
            obtain ⟨v2, hv2⟩ : ∃ v2, vs.getD ((x.fld 3).i).toNat false = v2 := ⟨_, rfl⟩
            have hst : (L.take (i + 1)).foldl (stepP (amI N)) [] = vs ++ [v2] := by rw [hst, ← hv2]; rfl
            simp (maxSteps := 4000000) only [go_sem, goD_calls, eq_self, implies_true, Int.reduceEq, Int.reduceBEq, Int.reduceBNe, Int.reduceLE, Int.reduceLT, Int.reduceAdd, Int.reduceSub, Int.reduceMul, Int.reduceNeg, Nat.reduceMul, Nat.reduceSub, Nat.reduceLeDiff, Nat.reduceLT, Nat.reduceEqDiff, Nat.reduceAdd, reduceCtorEq, ↓reduceIte, reduceIte, c1, c2, c3, hx, hgb, hv', hv2, hvml, Int.toNat_natCast, min_i64, max_i64]
            refine ⟨by omega, ⟨a0, by omega⟩, ⟨a0, by omega⟩, ⟨b0, by omega⟩, ⟨b0, by omega⟩, by omega, by omega, ?_⟩
            refine next _ _ hst.symm ?_
            refine leq_news [(nx, nx), (nx + 1, nx + 2 + 1 + 1)] [(nx, .cells [.dat (.slice 79) (.list L)]), (nx + 1, .arr 4 .bool ((vs ++ [v2]).map D.bool))] (.refl _) (by simp) (by simp <;> omega) (by simp <;> omega) rfl ?_ ?_ ?_ ?_ hnm ?_ (by omega)
            · simp [frIn_cons, frIn_nil, fget_cons, fget_nil, SV.ren, SV.renL, rens]
            · (simp only [frLt_cons, frLt_nil, and_true, SV.lt, SV.ltL, true_and] <;> omega)
            · (simp only [List.mem_cons, List.not_mem_nil, or_false, forall_eq_or_imp, forall_eq]; simp [hget, rens, Tok.ren, SV.ren, SV.renL])
              all_goals try (rw [if_neg (by omega), if_neg (by omega)])
              all_goals try omega
            · (simp only [List.mem_cons, List.not_mem_nil, or_false, forall_eq_or_imp, forall_eq, Tok.lt, SV.lt, SV.ltL, and_true, true_and] <;> omega)
            · ((try simp only []); repeat first | exact HLe.refl _ | refine HLe.cons (by simp only [hget, Nat.reduceEqDiff, Nat.left_eq_add, Nat.add_eq_left, nm_ne2, nm_en2, nm_ne3, nm_en3, nm_ne4, nm_en4, nm_ne5, nm_en5, reduceIte, ↓reduceIte] <;> first | rfl | ((repeat rw [if_neg (by omega)]) <;> rfl)) ?_ | refine HLe.skip hnm (by omega) ?_ | refine HLe.frz hnm (by omega) ?_ | refine HLe.del hnm (by omega) ?_)
          · have hv' : vs.getD ((x.fld 2).i).toNat false = true := hv
            rw [hv, Bool.true_or] at hst
            simp (maxSteps := 4000000) only [go_sem, goD_calls, eq_self, implies_true, Int.reduceEq, Int.reduceBEq, Int.reduceBNe, Int.reduceLE, Int.reduceLT, Int.reduceAdd, Int.reduceSub, Int.reduceMul, Int.reduceNeg, Nat.reduceMul, Nat.reduceSub, Nat.reduceLeDiff, Nat.reduceLT, Nat.reduceEqDiff, Nat.reduceAdd, reduceCtorEq, ↓reduceIte, reduceIte, c1, c2, c3, hx, hgb, hv', hvml, Int.toNat_natCast, min_i64, max_i64]
            refine ⟨by omega, ⟨a0, by omega⟩, ⟨a0, by omega⟩, by omega, by omega, ?_⟩
            refine next _ _ hst.symm ?_
            refine leq_news [(nx, nx), (nx + 1, nx + 2 + 1 + 1)] [(nx, .cells [.dat (.slice 79) (.list L)]), (nx + 1, .arr 4 .bool ((vs ++ [true]).map D.bool))] (.refl _) (by simp) (by simp <;> omega) (by simp <;> omega) rfl ?_ ?_ ?_ ?_ hnm ?_ (by omega)
            · simp [frIn_cons, frIn_nil, fget_cons, fget_nil, SV.ren, SV.renL, rens]
            · (simp only [frLt_cons, frLt_nil, and_true, SV.lt, SV.ltL, true_and] <;> omega)
            · (simp only [List.mem_cons, List.not_mem_nil, or_false, forall_eq_or_imp, forall_eq]; simp [hget, rens, Tok.ren, SV.ren, SV.renL])
              all_goals try (rw [if_neg (by omega), if_neg (by omega)])
              all_goals try omega
            · (simp only [List.mem_cons, List.not_mem_nil, or_false, forall_eq_or_imp, forall_eq, Tok.lt, SV.lt, SV.ltL, and_true, true_and] <;> omega)
            · ((try simp only []); repeat first | exact HLe.refl _ | refine HLe.cons (by simp only [hget, Nat.reduceEqDiff, Nat.left_eq_add, Nat.add_eq_left, nm_ne2, nm_en2, nm_ne3, nm_en3, nm_ne4, nm_en4, nm_ne5, nm_en5, reduceIte, ↓reduceIte] <;> first | rfl | ((repeat rw [if_neg (by omega)]) <;> rfl)) ?_ | refine HLe.skip hnm (by omega) ?_ | refine HLe.frz hnm (by omega) ?_ | refine HLe.del hnm (by omega) ?_)
        have c2 : ((x.fld 0).i == 1) = false := beq_eq_false_iff_ne.2 h1
        have c3 : ((x.fld 0).i == 2) = false := beq_eq_false_iff_ne.2 h2
        rw [stepP_0 h1 h2] at hst
        obtain ⟨M, hM⟩ : ∃ M, (x.fld 4).l = M := ⟨_, rfl⟩
        have hM' : rL x = M := hM
        rw [hM'] at hst hdl
        simp (maxSteps := 4000000) only [go_sem, goD_calls, eq_self, implies_true, Int.reduceEq, Int.reduceBEq, Int.reduceBNe, Int.reduceLE, Int.reduceLT, Int.reduceAdd, Int.reduceSub, Int.reduceMul, Int.reduceNeg, Nat.reduceMul, Nat.reduceSub, Nat.reduceLeDiff, Nat.reduceLT, Nat.reduceEqDiff, Nat.reduceAdd, reduceCtorEq, ↓reduceIte, reduceIte, c1, c2, c3, hx, Int.toNat_natCast, min_i64, max_i64]
        refine ⟨by omega, ?_⟩
        refine go_loop (α := { k : Nat // k ≤ M.length }) (I := fun k => { f := [(9, .int .i64 k.1), (8, .int .i64 (((M.take k.1).map D.i).countP (amI N))), (7, .ptr (nx + 2) 0), (6, .int .i64 i), (2, .ptr nx 0), (1, .dat (.slice 3) (.list N)), (5, .vec (nx + 1))], h := [(nx, .cells [.dat (.slice 79) (.list L)]), (nx + 1, .arr 4 .bool (vs.map D.bool)), (nx + 2, .cells [.int .i64 (x.fld 0).i, .int .i64 (x.fld 1).i, .int .i64 (x.fld 2).i, .int .i64 (x.fld 3).i, .dat (.slice 3) (x.fld 4)])] ++ h, nx := nx + 3 }) (μ := fun k => M.length - k.1) _ _ _ ⟨0, by omega⟩ ?_ (fun k B2 hB2 => ?_)
        · refine leq_news [(nx, nx), (nx + 1, nx + 1), (nx + 2, nx + 2)] [(nx, .cells [.dat (.slice 79) (.list L)]), (nx + 1, .arr 4 .bool (vs.map D.bool)), (nx + 2, .cells [.int .i64 (x.fld 0).i, .int .i64 (x.fld 1).i, .int .i64 (x.fld 2).i, .int .i64 (x.fld 3).i, .dat (.slice 3) (x.fld 4)])] (.refl _) (by simp) (by simp <;> omega) (by simp <;> omega) rfl ?_ ?_ ?_ ?_ hnm ?_ (by omega)
          · simp [frIn_cons, frIn_nil, fget_cons, fget_nil, SV.ren, SV.renL, rens]
          · (simp only [frLt_cons, frLt_nil, and_true, SV.lt, SV.ltL, true_and] <;> omega)
          · (simp only [List.mem_cons, List.not_mem_nil, or_false, forall_eq_or_imp, forall_eq]; simp [hget, rens, Tok.ren, SV.ren, SV.renL])
          · (simp only [List.mem_cons, List.not_mem_nil, or_false, forall_eq_or_imp, forall_eq, Tok.lt, SV.lt, SV.ltL, and_true, true_and] <;> omega)
          · ((try simp only []); repeat first | exact HLe.refl _ | refine HLe.cons (by simp only [hget, Nat.reduceEqDiff, Nat.left_eq_add, Nat.add_eq_left, nm_ne2, nm_en2, nm_ne3, nm_en3, nm_ne4, nm_en4, nm_ne5, nm_en5, reduceIte, ↓reduceIte] <;> first | rfl | ((repeat rw [if_neg (by omega)]) <;> rfl)) ?_ | refine HLe.skip hnm (by omega) ?_ | refine HLe.frz hnm (by omega) ?_ | refine HLe.del hnm (by omega) ?_)
        · obtain ⟨k, hk⟩ := k
          simp only at hB2
          have hcl : ((M.take k).map D.i).countP (amI N) ≤ k := Nat.le_trans List.countP_le_length (by rw [List.length_map, List.length_take]; omega)
          by_cases hkl : k < M.length
          · have c4 : decide ((k : Int) < (M.length : Int)) = true := decide_eq_true (by omega)
            have hcs := countS_step (S := amI N) hkl
            have next2 : ∀ c S', c = (((M.take (k + 1)).map D.i).countP (amI N) : Int) → Leq nx S' { f := [(9, .int .i64 ((k + 1 : Nat) : Int)), (8, .int .i64 c), (7, .ptr (nx + 2) 0), (6, .int .i64 i), (2, .ptr nx 0), (1, .dat (.slice 3) (.list N)), (5, .vec (nx + 1))], h := [(nx, .cells [.dat (.slice 79) (.list L)]), (nx + 1, .arr 4 .bool (vs.map D.bool)), (nx + 2, .cells [.int .i64 (x.fld 0).i, .int .i64 (x.fld 1).i, .int .i64 (x.fld 2).i, .int .i64 (x.fld 3).i, .dat (.slice 3) (x.fld 4)])] ++ h, nx := nx + 3 } → B2 S' := fun c S' e hl => by
              subst e
              exact hB2 _ ⟨k + 1, by omega⟩ (by simp only []; omega) hl
            rcases bool_ftS (amI N (M.getD k .nil).i) with hv | hv
            · rw [hv, if_neg (by decide), Int.add_zero] at hcs
              simp (maxSteps := 4000000) only [go_sem, goD_calls, eq_self, implies_true, Int.reduceEq, Int.reduceBEq, Int.reduceBNe, Int.reduceLE, Int.reduceLT, Int.reduceAdd, Int.reduceSub, Int.reduceMul, Int.reduceNeg, Nat.reduceMul, Nat.reduceSub, Nat.reduceLeDiff, Nat.reduceLT, Nat.reduceEqDiff, Nat.reduceAdd, reduceCtorEq, ↓reduceIte, reduceIte, c4, hM, spRAmong, hv, Int.toNat_natCast, min_i64, max_i64]
              repeat refine ⟨by omega, ?_⟩
              refine next2 _ _ hcs.symm ?_
              refine leq_id ?_ (by (simp only [frLt_cons, frLt_nil, and_true, SV.lt, SV.ltL, true_and] <;> omega)) (by ((try simp only []); repeat first | exact HLe.refl _ | refine HLe.cons (by simp only [hget, Nat.reduceEqDiff, Nat.left_eq_add, Nat.add_eq_left, nm_ne2, nm_en2, nm_ne3, nm_en3, nm_ne4, nm_en4, nm_ne5, nm_en5, reduceIte, ↓reduceIte] <;> first | rfl | ((repeat rw [if_neg (by omega)]) <;> rfl)) ?_ | refine HLe.skip hnm (by omega) ?_ | refine HLe.frz hnm (by omega) ?_ | refine HLe.del hnm (by omega) ?_)) (by (repeat first | exact HLt.mono hnm (by simp only [] <;> omega) | refine HLt.cons (by simp only [] <;> omega) (by simp only [Tok.lt, SV.ltL, SV.lt, and_true, true_and] <;> omega) ?_)) (by simp only [] <;> omega)
              simp only [frEq_cons, frEq_nil, frIn_cons, frIn_nil, and_true, fget_cons, Nat.reduceEqDiff, reduceIte, ↓reduceIte, true_and, SV.ren, SV.renL, ren1]
              simp
            · rw [hv, if_pos rfl] at hcs
              simp (maxSteps := 4000000) only [go_sem, goD_calls, eq_self, implies_true, Int.reduceEq, Int.reduceBEq, Int.reduceBNe, Int.reduceLE, Int.reduceLT, Int.reduceAdd, Int.reduceSub, Int.reduceMul, Int.reduceNeg, Nat.reduceMul, Nat.reduceSub, Nat.reduceLeDiff, Nat.reduceLT, Nat.reduceEqDiff, Nat.reduceAdd, reduceCtorEq, ↓reduceIte, reduceIte, c4, hM, spRAmong, hv, Int.toNat_natCast, min_i64, max_i64]
              repeat refine ⟨by omega, ?_⟩
              refine next2 _ _ hcs.symm ?_
              refine leq_id ?_ (by (simp only [frLt_cons, frLt_nil, and_true, SV.lt, SV.ltL, true_and] <;> omega)) (by ((try simp only []); repeat first | exact HLe.refl _ | refine HLe.cons (by simp only [hget, Nat.reduceEqDiff, Nat.left_eq_add, Nat.add_eq_left, nm_ne2, nm_en2, nm_ne3, nm_en3, nm_ne4, nm_en4, nm_ne5, nm_en5, reduceIte, ↓reduceIte] <;> first | rfl | ((repeat rw [if_neg (by omega)]) <;> rfl)) ?_ | refine HLe.skip hnm (by omega) ?_ | refine HLe.frz hnm (by omega) ?_ | refine HLe.del hnm (by omega) ?_)) (by (repeat first | exact HLt.mono hnm (by simp only [] <;> omega) | refine HLt.cons (by simp only [] <;> omega) (by simp only [Tok.lt, SV.ltL, SV.lt, and_true, true_and] <;> omega) ?_)) (by simp only [] <;> omega)
              simp only [frEq_cons, frEq_nil, frIn_cons, frIn_nil, and_true, fget_cons, Nat.reduceEqDiff, reduceIte, ↓reduceIte, true_and, SV.ren, SV.renL, ren1]
              simp
          · obtain rfl : k = M.length := by omega
            have c4 : decide ((M.length : Int) < (M.length : Int)) = false := decide_eq_false (by omega)
            rw [List.take_of_length_le (Nat.le_refl _)]
            obtain ⟨b, hb⟩ : ∃ b, decide ((x.fld 1).i ≤ ((M.map D.i).countP (amI N) : Int)) = b := ⟨_, rfl⟩
            have hst : (L.take (i + 1)).foldl (stepP (amI N)) [] = vs ++ [b] := by rw [hst, ← hb]; rfl
            simp (maxSteps := 4000000) only [go_sem, goD_calls, eq_self, implies_true, Int.reduceEq, Int.reduceBEq, Int.reduceBNe, Int.reduceLE, Int.reduceLT, Int.reduceAdd, Int.reduceSub, Int.reduceMul, Int.reduceNeg, Nat.reduceMul, Nat.reduceSub, Nat.reduceLeDiff, Nat.reduceLT, Nat.reduceEqDiff, Nat.reduceAdd, reduceCtorEq, ↓reduceIte, reduceIte, c4, hM, hb, hvml, Int.toNat_natCast, min_i64, max_i64]
            refine ⟨by omega, by omega, ?_⟩
            refine next _ _ hst.symm ?_
            refine leq_news [(nx, nx), (nx + 1, nx + 3 + 1)] [(nx, .cells [.dat (.slice 79) (.list L)]), (nx + 1, .arr 4 .bool ((vs ++ [b]).map D.bool))] (.refl _) (by simp) (by simp <;> omega) (by simp <;> omega) rfl ?_ ?_ ?_ ?_ hnm ?_ (by omega)
            · simp [frIn_cons, frIn_nil, fget_cons, fget_nil, SV.ren, SV.renL, rens]
            · (simp only [frLt_cons, frLt_nil, and_true, SV.lt, SV.ltL, true_and] <;> omega)
            · (simp only [List.mem_cons, List.not_mem_nil, or_false, forall_eq_or_imp, forall_eq]; simp [hget, rens, Tok.ren, SV.ren, SV.renL])
              all_goals try (rw [if_neg (by omega), if_neg (by omega)])
              all_goals try omega
            · (simp only [List.mem_cons, List.not_mem_nil, or_false, forall_eq_or_imp, forall_eq, Tok.lt, SV.lt, SV.ltL, and_true, true_and] <;> omega)
            · ((try simp only []); repeat first | exact HLe.refl _ | refine HLe.cons (by simp only [hget, Nat.reduceEqDiff, Nat.left_eq_add, Nat.add_eq_left, nm_ne2, nm_en2, nm_ne3, nm_en3, nm_ne4, nm_en4, nm_ne5, nm_en5, reduceIte, ↓reduceIte] <;> first | rfl | ((repeat rw [if_neg (by omega)]) <;> rfl)) ?_ | refine HLe.skip hnm (by omega) ?_ | refine HLe.frz hnm (by omega) ?_ | refine HLe.del hnm (by omega) ?_)
      · obtain rfl : i = L.length := by omega
        have c1 : decide ((L.length : Int) < (L.length : Int)) = false := decide_eq_false (by omega)
        have hK2 : hasP (amI N) L = (((L.take L.length).foldl (stepP (amI N)) []).getLast?).getD false := by rw [List.take_of_length_le (Nat.le_refl _)]; rfl
        generalize (L.take L.length).foldl (stepP (amI N)) [] = vs at hvl hK2 ⊢
        have hvml : (vs.map D.bool).length = L.length := by rw [List.length_map]; exact hvl
        by_cases h0 : 0 < L.length
        · have c2 : decide (0 < (L.length : Int)) = true := decide_eq_true (by omega)
          have e1 : ((L.length : Int) - 1).toNat = L.length - 1 := by omega
          have hgb := getD_bool vs
          simp (maxSteps := 4000000) only [go_sem, goD_calls, eq_self, implies_true, Int.reduceEq, Int.reduceBEq, Int.reduceBNe, Int.reduceLE, Int.reduceLT, Int.reduceAdd, Int.reduceSub, Int.reduceMul, Int.reduceNeg, Nat.reduceMul, Nat.reduceSub, Nat.reduceLeDiff, Nat.reduceLT, Nat.reduceEqDiff, Nat.reduceAdd, reduceCtorEq, ↓reduceIte, reduceIte, c1, c2, hvml, e1, hgb, Int.toNat_natCast, min_i64, max_i64]
          repeat refine ⟨by omega, ?_⟩
          refine ret _ _ _ (by ((try simp only []); repeat first | exact HLe.refl _ | refine HLe.cons (by simp only [hget, Nat.reduceEqDiff, Nat.left_eq_add, Nat.add_eq_left, nm_ne2, nm_en2, nm_ne3, nm_en3, nm_ne4, nm_en4, nm_ne5, nm_en5, reduceIte, ↓reduceIte] <;> first | rfl | ((repeat rw [if_neg (by omega)]) <;> rfl)) ?_ | refine HLe.skip hnm (by omega) ?_ | refine HLe.frz hnm (by omega) ?_ | refine HLe.del hnm (by omega) ?_)) ?_
          rw [hK2, List.getLast?_eq_getElem?, hvl, List.getD_eq_getElem?_getD]
        · have c2 : decide (0 < (L.length : Int)) = false := decide_eq_false (by omega)
          simp (maxSteps := 4000000) only [go_sem, goD_calls, eq_self, implies_true, Int.reduceEq, Int.reduceBEq, Int.reduceBNe, Int.reduceLE, Int.reduceLT, Int.reduceAdd, Int.reduceSub, Int.reduceMul, Int.reduceNeg, Nat.reduceMul, Nat.reduceSub, Nat.reduceLeDiff, Nat.reduceLT, Nat.reduceEqDiff, Nat.reduceAdd, reduceCtorEq, ↓reduceIte, reduceIte, c1, c2, hvml, Int.toNat_natCast, min_i64, max_i64]
          refine ret _ _ _ (by ((try simp only []); repeat first | exact HLe.refl _ | refine HLe.cons (by simp only [hget, Nat.reduceEqDiff, Nat.left_eq_add, Nat.add_eq_left, nm_ne2, nm_en2, nm_ne3, nm_en3, nm_ne4, nm_en4, nm_ne5, nm_en5, reduceIte, ↓reduceIte] <;> first | rfl | ((repeat rw [if_neg (by omega)]) <;> rfl)) ?_ | refine HLe.skip hnm (by omega) ?_ | refine HLe.frz hnm (by omega) ?_ | refine HLe.del hnm (by omega) ?_)) ?_
          have : vs = [] := List.eq_nil_of_length_eq_zero (by omega)
          rw [hK2, this]
          rfl
  · exact hsp.elim
end Go.Proofs.YtkmilijehekdoaaDoor
