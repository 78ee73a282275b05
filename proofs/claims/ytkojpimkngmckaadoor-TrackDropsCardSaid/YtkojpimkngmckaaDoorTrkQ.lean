/- Chapter 14: TrackDrops. -/
import Derived.Test.YtkojpimkngmckaaDoorTrkM
import Derived.Test.YtkojpimkngmckaaDoorTrkK
import Derived.Test.YtkojpimkngmckaaDoorNum
import Derived.Test.YtkojpimkngmckaaDoorRiseV
namespace Go.Proofs.YtkojpimkngmckaaDoor
set_option linter.unusedVariables false
set_option linter.unusedSimpArgs false
open Go Go.Fw
attribute [local go_sem] walkSet evMdl evMupD evMup evLkp frpL preF preP prePt prePd frzP evNlq ev frOf oget ogets argSs argS evMm frzL evBin evWrp evShf evCmp evUna evNil evBeq evLd evSt evFad evIad evAad evLen evSln evEls evApp evParts evSlc evNlc evMif evPck evFld evBld evTas evIfq evSeq evSl0 evBxf evAgl evAgq evBsf hget hset hdel cellAt arrAt setCellAt setArrAt takeC lenC svCells SV.okc SV.one ldSV Fw.isAgg explode explodeL toD toDL toD1 Ty.size Ty.sizeL frz1 Fr.sub Heap.sub Tok.sub SV.sub SV.subL

theorem six0_mem {m : Int} : m ∈ six0 ↔ 0 ≤ m ∧ m < 6 := by
  unfold six0
  simp
  omega
theorem cnt_gone {f : Int → Option D} {n v : Int} {G : List Int} (hn : G.Nodup) (hG : ∀ x ∈ G, 0 ≤ x ∧ x < 6) (hf : ∀ m, atI f m = if m ∈ G then 0 else if 0 ≤ m ∧ m < 6 then n else 0) (h0 : 0 < v) (h1 : v ≤ n) : cnt f v + G.length = 6 := by
  unfold cnt
  have e1 : six0.countP (fun m => decide (v ≤ atI f m)) = six0.countP (fun m => !decide (m ∈ G)) := List.countP_congr (fun m hm => by
    rw [hf]
    have := six0_mem.1 hm
    by_cases h : m ∈ G
    · have : ¬ v ≤ 0 := by omega
      simp [h, this]
    · simp [h, this, h1])
  have e2 := List.length_eq_countP_add_countP (fun m => decide (m ∈ G)) (l := six0)
  have e3 : six0.countP (fun m => !decide (m ∈ G)) = six0.countP (fun a => decide ¬ (decide (a ∈ G) = true)) := List.countP_congr (fun x _ => by by_cases h : x ∈ G <;> simp [h])
  have e4 : six0.countP (fun m => decide (m ∈ G)) = G.length := by
    rw [List.countP_eq_length_filter]
    refine ((List.perm_ext_iff_of_nodup ((show six0.Nodup by decide).filter _) hn).2 (fun x => ?_)).length_eq
    rw [List.mem_filter, six0_mem]
    simp only [decide_eq_true_eq]
    exact ⟨fun h => h.2, fun h => ⟨hG x h, h⟩⟩
  have e5 : six0.length = 6 := rfl
  omega
theorem ins_rise {G : List Int} (h : G.Pairwise (· < ·)) (k : Int) : riseL (G.map D.int ++ [D.int k]) = (insI G k).map D.int := by
  unfold riseL
  rw [List.map_append, List.map_map]
  have : (D.i ∘ D.int : Int → Int) = id := rfl
  rw [this, List.map_id]
  show (riseI (G ++ [k])).map D.int = _
  rw [rise_snoc, rise_id h]
def WTrackDrops : Opts := mkWE 101 [] [3, 4, 5] [] 184 [3, 4, 5] []
def icTrackDrops : IC := (.seq (.seq (.ops [(.u (.mov 4 (.c (.bool false))))]) (.tr [0, 1])) (.seq (.seq (.ops [(.u (.call 14 (.c (.clo 22 [])) [] [] true)), (.u (.mov 5 (.s 14)))]) (.tr [0, 5, 1])) (.seq (.seq (.seq (.ops [(.u (.mov 15 (.s 5))), (.u (.una 16 .not (.s 15)))]) (.tr [16, 0, 5, 1])) (.cond (.s 16) (.seq (.seq (.ops [(.u (.mov 4 (.c (.bool false))))]) (.tr [4])) .ret) .skip)) (.seq (.seq (.ops [(.u (.mov 17 (.s 0))), (.u (.bin 18 .and .i64 (.s 17) (.c (.int .i64 1023)))), (.u (.bin 19 .add .i64 (.s 18) (.c (.int .i64 1)))), (.u (.mov 0 (.s 19)))]) (.tr [5, 1, 0])) (.seq (.seq (.seq (.ops [(.u (.mov 20 (.s 1))), (.u (.len 21 false (.s 20))), (.u (.cmp 22 .gtr (.s 21) (.c (.int .i64 6)))), (.u (.mov 23 (.s 22))), (.g 23 false (some 24) (.mov 24 (.s 5))), (.g 23 false (some 25) (.una 25 .not (.s 24))), (.u (.pck 26 (.s 23) (.c (.bool true)) (.s 25)))]) (.tr [26, 5, 1, 0])) (.cond (.s 26) (.seq (.seq (.ops [(.u (.mov 27 (.s 5))), (.u (.mov 4 (.s 27)))]) (.tr [4])) .ret) .skip)) (.seq (.seq (.ops [(.u (.call 29 (.c (.clo 24 [])) [] [] true)), (.u (.call 30 (.c (.clo 23 [])) [(.s 29)] [none] true)), (.u (.mov 28 (.s 30))), (.u (.ext 31 0 (.s 28))), (.u (.ext 32 1 (.s 28))), (.u (.mov 6 (.s 31))), (.u (.mov 7 (.s 32)))]) (.tr [7, 1, 6, 0])) (.seq (.seq (.seq (.ops [(.u (.mov 33 (.s 6))), (.u (.eqb 34 false 1 (.s 33))), (.u (.mov 35 (.s 34))), (.g 35 false (some 36) (.mov 36 (.s 7))), (.g 35 false (some 37) (.eqb 37 true 0 (.s 36))), (.u (.pck 38 (.s 35) (.c (.bool true)) (.s 37)))]) (.tr [38, 1, 6, 0])) (.cond (.s 38) (.seq (.seq (.ops [(.u (.mov 4 (.c (.bool false))))]) (.tr [4])) .ret) .skip)) (.seq (.seq (.seq (.ops [(.u (.mov 8 (.c (.int .i64 0))))]) (.tr [8, 1, 6, 0])) (.block 0 (.loop (.seq (.seq (.seq (.ops [(.u (.mov 39 (.s 8))), (.u (.cmp 40 .lss (.s 39) (.c (.int .i64 6))))]) (.tr [40, 8, 1, 6, 0])) (.cond (.s 40) .skip (.exit 0))) (.seq (.block 1 (.seq (.ops [(.u (.mov 43 (.s 6))), (.u (.mov 44 (.s 8))), (.u (.mov 45 (.s 0))), (.u (.call 46 (.c (.clo 26 [])) [(.s 43), (.s 44), (.c (.int .i64 0)), (.s 45)] [none, none, none, none] true))]) (.tr [8, 1, 6, 0]))) (.seq (.ops [(.u (.mov 41 (.s 8))), (.u (.bin 42 .add .i64 (.s 41) (.c (.int .i64 1)))), (.u (.mov 8 (.s 42)))]) (.tr [8, 1, 6, 0]))))))) (.seq (.seq (.ops [(.u (.mov 9 (.c .nils)))]) (.tr [1, 9, 6, 0])) (.seq (.seq (.seq (.ops [(.u (.mov 10 (.c (.int .i64 0))))]) (.tr [1, 10, 9, 6, 0])) (.block 2 (.loop (.seq (.seq (.seq (.ops [(.u (.mov 47 (.s 10))), (.u (.mov 48 (.s 1))), (.u (.len 49 false (.s 48))), (.u (.cmp 50 .lss (.s 47) (.s 49)))]) (.tr [50, 10, 1, 9, 6, 0])) (.cond (.s 50) .skip (.exit 2))) (.seq (.block 3 (.seq (.seq (.ops [(.u (.mov 53 (.s 1))), (.u (.mov 54 (.s 10))), (.u (.iad 55 3 (.int .i64) (.s 53) (.s 54))), (.u (.ld 56 (.int .i64) (.s 55))), (.u (.call 57 (.c (.clo 25 [])) [(.s 56), (.c (.int .i64 6))] [none, none] true)), (.u (.mov 11 (.s 57)))]) (.tr [9, 11, 10, 1, 6, 0])) (.seq (.seq (.ops [(.u (.mov 58 (.s 6))), (.u (.mov 59 (.s 11))), (.u (.call 60 (.c (.clo 29 [])) [(.s 58), (.s 59)] [none, none] true))]) (.tr [9, 11, 10, 1, 6, 0])) (.seq (.ops [(.u (.mov 61 (.s 9))), (.u (.mov 62 (.s 11))), (.u (.bsl 63 3 (.int .i64) [(.s 62)])), (.u (.app 64 3 (.int .i64) 8 (.s 61) (.s 63))), (.u (.call 65 (.c (.clo 30 [])) [(.s 64)] [(some 3)] true)), (.u (.mov 9 (.s 65)))]) (.tr [10, 1, 9, 6, 0]))))) (.seq (.ops [(.u (.mov 51 (.s 10))), (.u (.bin 52 .add .i64 (.s 51) (.c (.int .i64 1)))), (.u (.mov 10 (.s 52)))]) (.tr [1, 10, 9, 6, 0]))))))) (.seq (.seq (.ops [(.u (.mov 66 (.s 0))), (.u (.mov 12 (.s 66)))]) (.tr [12, 9, 6, 0])) (.seq (.seq (.seq (.ops [(.u (.mov 67 (.s 9))), (.u (.len 68 false (.s 67))), (.u (.cmp 69 .gtr (.s 68) (.c (.int .i64 2))))]) (.tr [69, 12, 9, 6, 0])) (.cond (.s 69) (.seq (.ops [(.u (.mov 12 (.c (.int .i64 0))))]) (.tr [12, 9, 6, 0])) .skip)) (.seq (.seq (.seq (.ops [(.u (.mov 70 (.s 6))), (.u (.call 71 (.c (.clo 27 [])) [(.s 70)] [none] true)), (.u (.mov 72 (.s 12))), (.u (.cmp 73 .neq (.s 71) (.s 72))), (.u (.mov 74 (.s 73))), (.g 74 false (some 75) (.mov 75 (.s 6))), (.g 74 false (some 76) (.call 76 (.c (.clo 31 [])) [(.s 75), (.c (.int .i64 1))] [none, none] true)), (.g 74 false (some 77) (.len 77 false (.s 76))), (.g 74 false (some 78) (.mov 78 (.s 9))), (.g 74 false (some 79) (.len 79 false (.s 78))), (.g 74 false (some 80) (.bin 80 .sub .i64 (.c (.int .i64 6)) (.s 79))), (.g 74 false (some 81) (.cmp 81 .neq (.s 77) (.s 80))), (.u (.pck 82 (.s 74) (.c (.bool true)) (.s 81)))]) (.tr [82, 9, 6, 0])) (.cond (.s 82) (.seq (.seq (.ops [(.u (.mov 4 (.c (.bool false))))]) (.tr [4])) .ret) .skip)) (.seq (.seq (.seq (.ops [(.u (.mov 13 (.c (.int .i64 0))))]) (.tr [9, 13, 6, 0])) (.block 4 (.loop (.seq (.seq (.seq (.ops [(.u (.mov 83 (.s 13))), (.u (.mov 84 (.s 9))), (.u (.len 85 false (.s 84))), (.u (.cmp 86 .lss (.s 83) (.s 85)))]) (.tr [86, 13, 9, 6, 0])) (.cond (.s 86) .skip (.exit 4))) (.seq (.block 5 (.seq (.seq (.ops [(.u (.mov 89 (.s 6))), (.u (.mov 90 (.s 9))), (.u (.mov 91 (.s 13))), (.u (.iad 92 3 (.int .i64) (.s 90) (.s 91))), (.u (.ld 93 (.int .i64) (.s 92))), (.u (.mov 94 (.s 0))), (.u (.call 95 (.c (.clo 26 [])) [(.s 89), (.s 93), (.c (.int .i64 0)), (.s 94)] [none, none, none, none] true)), (.u (.una 96 .not (.s 95)))]) (.tr [96, 13, 9, 6, 0])) (.cond (.s 96) (.seq (.seq (.ops [(.u (.mov 4 (.c (.bool false))))]) (.tr [4])) .ret) .skip))) (.seq (.ops [(.u (.mov 87 (.s 13))), (.u (.bin 88 .add .i64 (.s 87) (.c (.int .i64 1)))), (.u (.mov 13 (.s 88)))]) (.tr [9, 13, 6, 0]))))))) (.seq (.seq (.ops [(.u (.mov 97 (.s 6))), (.u (.call 98 (.c (.clo 27 [])) [(.s 97)] [none] true)), (.u (.mov 99 (.s 0))), (.u (.cmp 100 .eql (.s 98) (.s 99))), (.u (.mov 4 (.s 100)))]) (.tr [4])) .ret)))))))))))))))
def rsTrackDrops : List RV := [(.t 4)]
theorem irTrackDrops : fnIR Tryd.prog WTrackDrops 5 = some (icTrackDrops, rsTrackDrops) := by kernel_rfl
def spTrackDrops : FSpec := fun args h nx K => match args with
  | [.int .i64 n, .dat (.slice 3) d] => K (.bool true) h
  | _ => False
set_option maxHeartbeats 4000000 in
set_option maxRecDepth 8000 in
theorem vTrackDrops {E : Nat → Value} (hE : Errs2 Tryd.prog (some 184) E) : Valid Tryd.prog E (gs GCE) 5 spTrackDrops := by
  refine valid_go (W := WTrackDrops) hE (((((((((allValid_bot.add (up (vL14first hE))).add (up (vNumber hE))).add (up (vL14six hE))).add (up (vTNew hE))).add (up (vTAck hE))).add (up (vTPgcl hE))).add (up (vTDrop hE))).add (up (vTHas hE))).add (up (vRRisingV hE))) irTrackDrops (by decide) (fun args h nx K hsp hok hnm => ?_)
  unfold spTrackDrops at hsp
  split at hsp
  · rename_i n0 d
    have hK := hsp
    refine ⟨by simp [WTrackDrops, mkW, mkWE, mkWF], fun Q hQ => ?_⟩
    obtain ⟨_, hd, _⟩ := hok
    simp only [SV.ok] at hd
    obtain ⟨hd1, hd2, hd3⟩ := Wt.slice hd; generalize d.l = l at *; subst hd1
    have hs6 : (sixL 0).length ≤ 1000 := by decide
    have hp6 := p6_ok
    have ret : ∀ h' nx', HLe h h' → Q Ex.ret ⟨[(4, .bool true)], h', nx'⟩ := fun h' nx' hh => by
      refine (hQ _ ?_).1
      exact fin_t (.bool true) rfl rfl hnm hh hK
    obtain ⟨n', hn0⟩ : ∃ x, n0 % 1024 = x := ⟨_, rfl⟩
    have rw3 : 0 ≤ n' ∧ n' < 1024 := by rw [← hn0]; exact ⟨Int.emod_nonneg _ (by decide), Int.emod_lt_of_pos _ (by decide)⟩
    obtain ⟨n, hn1⟩ : ∃ x, n' + 1 = x := ⟨_, rfl⟩
    have rn : (IntKind.i64.min ≤ n' + 1 ∧ n' + 1 ≤ IntKind.i64.max) := ⟨by rw [min_i64]; omega, by rw [max_i64]; omega⟩
    have n1 : 1 ≤ n ∧ n ≤ 1024 := by omega
    by_cases h6 : 6 < l.length
    · have c1 : decide (6 < (l.length : Int)) = true := decide_eq_true (by omega)
      simp (maxSteps := 4000000) only [icTrackDrops, go_sem, goD_calls, eq_self, implies_true, Int.reduceEq, Int.reduceBEq, Int.reduceBNe, Int.reduceLE, Int.reduceLT, Int.reduceAdd, Int.reduceSub, Int.reduceMul, Int.reduceNeg, Nat.reduceMul, Nat.reduceSub, Nat.reduceLeDiff, Nat.reduceLT, Nat.reduceEqDiff, Nat.reduceAdd, reduceCtorEq, ↓reduceIte, reduceIte, spL14first, and1023, hn0, c1]
      exact ⟨rn, ret _ _ (by ((try simp only []); repeat first | exact HLe.refl _ | refine HLe.cons (by simp only [hget, Nat.reduceEqDiff, Nat.left_eq_add, Nat.add_eq_left, nm_ne2, nm_en2, nm_ne3, nm_en3, nm_ne4, nm_en4, nm_ne5, nm_en5, reduceIte, ↓reduceIte] <;> first | rfl | ((repeat rw [if_neg (by omega)]) <;> rfl)) ?_ | refine HLe.skip hnm (by omega) ?_ | refine HLe.frz hnm (by omega) ?_ | refine HLe.del hnm (by omega) ?_))⟩
    have c1 : decide (6 < (l.length : Int)) = false := decide_eq_false (by omega)
    have g6 : (0 : Int) < 6 := by decide
    simp (maxSteps := 4000000) only [icTrackDrops, go_sem, goD_calls, eq_self, implies_true, Int.reduceEq, Int.reduceBEq, Int.reduceBNe, Int.reduceLE, Int.reduceLT, Int.reduceAdd, Int.reduceSub, Int.reduceMul, Int.reduceNeg, Nat.reduceMul, Nat.reduceSub, Nat.reduceLeDiff, Nat.reduceLT, Nat.reduceEqDiff, Nat.reduceAdd, reduceCtorEq, ↓reduceIte, reduceIte, spL14first, and1023, hn0, hn1, c1, spL14six, spTNew, cfgA, six_nil, tNew_six]
    rw [hn1] at rn
    refine ⟨rn, ?_⟩
    refine go_loop (α := { x : Nat × (Int → Option D) // x.1 ≤ 6 ∧ ∀ m, atI x.2 m = if 0 ≤ m ∧ m < x.1 then n else 0 }) (I := fun x => { f := [(8, .int .i64 x.1.1), (1, .dat (.slice 3) (.list l)), (6, .ptr nx 0), (0, .int .i64 n)], h := [(nx, tCells (nx + 1) (nx + 2)), (nx + 1, .map 3 2 x.1.2), (nx + 2, .map 3 3 mEmpty)] ++ h, nx := nx + 3 }) (μ := fun x => 6 - x.1.1) _ _ _ ⟨(0, mEmpty), by omega, fun m => by rw [if_neg (by simp only []; omega)]; rfl⟩ ?_ (fun x B hB => ?_)
    · refine leq_news [(nx, nx + 64 + 64), (nx + 1, nx + 64 + 64 + 1), (nx + 2, nx + 64 + 64 + 2)] [(nx, tCells (nx + 1) (nx + 2)), (nx + 1, .map 3 2 mEmpty), (nx + 2, .map 3 3 mEmpty)] (.refl _) (by simp) (by simp <;> omega) (by simp <;> omega) rfl ?_ ?_ ?_ ?_ hnm ?_ (by omega)
      · simp [frIn_cons, frIn_nil, fget_cons, fget_nil, SV.ren, SV.renL, rens]
      · (simp only [frLt_cons, frLt_nil, and_true, SV.lt, SV.ltL, true_and] <;> omega)
      · simp only [tCells]
        (simp only [List.mem_cons, List.not_mem_nil, or_false, forall_eq_or_imp, forall_eq]; simp [hget, rens, Tok.ren, SV.ren, SV.renL])
      · simp only [tCells]
        (simp only [List.mem_cons, List.not_mem_nil, or_false, forall_eq_or_imp, forall_eq, Tok.lt, SV.lt, SV.ltL, and_true, true_and] <;> omega)
      · ((try simp only []); repeat first | exact HLe.refl _ | refine HLe.cons (by simp only [hget, Nat.reduceEqDiff, Nat.left_eq_add, Nat.add_eq_left, nm_ne2, nm_en2, nm_ne3, nm_en3, nm_ne4, nm_en4, nm_ne5, nm_en5, reduceIte, ↓reduceIte] <;> first | rfl | ((repeat rw [if_neg (by omega)]) <;> rfl)) ?_ | refine HLe.skip hnm (by omega) ?_ | refine HLe.frz hnm (by omega) ?_ | refine HLe.del hnm (by omega) ?_)
    · obtain ⟨⟨i, f⟩, hi, hf⟩ := x
      simp only at hi hf hB
      by_cases hil : i < 6
      · have c2 : decide ((i : Int) < 6) = true := decide_eq_true (by omega)
        have ha := ack6 (g := mEmpty) (n := i) (inc := 0) (scl := n) (by omega) (by omega) rfl (by omega) (by omega)
        have hm : max (atI f i) n = n := by rw [hf, if_neg (by omega)]; omega
        simp (maxSteps := 4000000) only [go_sem, goD_calls, eq_self, implies_true, Int.reduceEq, Int.reduceBEq, Int.reduceBNe, Int.reduceLE, Int.reduceLT, Int.reduceAdd, Int.reduceSub, Int.reduceMul, Int.reduceNeg, Nat.reduceMul, Nat.reduceSub, Nat.reduceLeDiff, Nat.reduceLT, Nat.reduceEqDiff, Nat.reduceAdd, reduceCtorEq, ↓reduceIte, reduceIte, c2, tCells, spTAck, spTPgcl, spTScl, spTBorn, spTDrop, spTHas, tOk_c, tA_c, tB_c, tM_c, tP_c, sOk_c, iOk_c, mF_c, hs6, hp6, ha, hm]
        refine ⟨⟨by rw [min_i64]; omega, by rw [max_i64]; omega⟩, ?_⟩
        refine hB _ ⟨(i + 1, mSet f i (.int n)), by simp only []; omega, fun m => ?_⟩ (by simp only []; omega) ?_
        · rw [atI_set, hf]
          simp only []
          by_cases h1 : m = i
          · rw [if_pos h1, if_pos (by omega)]
          · rw [if_neg h1]
            by_cases h2 : 0 ≤ m ∧ m < i
            · rw [if_pos h2, if_pos (by omega)]
            · rw [if_neg h2, if_neg (by omega)]
        · refine leq_id ?_ (by (simp only [frLt_cons, frLt_nil, and_true, SV.lt, SV.ltL, true_and] <;> omega)) (by simp only [tCells]; ((try simp only []); repeat first | exact HLe.refl _ | refine HLe.cons (by simp only [hget, Nat.reduceEqDiff, Nat.left_eq_add, Nat.add_eq_left, nm_ne2, nm_en2, nm_ne3, nm_en3, nm_ne4, nm_en4, nm_ne5, nm_en5, reduceIte, ↓reduceIte] <;> first | rfl | ((repeat rw [if_neg (by omega)]) <;> rfl)) ?_ | refine HLe.skip hnm (by omega) ?_ | refine HLe.frz hnm (by omega) ?_ | refine HLe.del hnm (by omega) ?_)) (by unfold tCells; (repeat first | exact HLt.mono hnm (by simp only [] <;> omega) | refine HLt.cons (by simp only [] <;> omega) (by simp only [Tok.lt, SV.ltL, SV.lt, and_true, true_and] <;> omega) ?_)) (by simp only [] <;> omega)
          simp only [frEq_cons, frEq_nil, frIn_cons, frIn_nil, and_true, fget_cons, Nat.reduceEqDiff, reduceIte, ↓reduceIte, true_and, SV.ren, SV.renL, ren1]
          simp
      · obtain rfl : i = 6 := by omega
        have c2 : decide (((6 : Nat) : Int) < 6) = false := rfl
        simp (maxSteps := 4000000) only [go_sem, goD_calls, eq_self, implies_true, Int.reduceEq, Int.reduceBEq, Int.reduceBNe, Int.reduceLE, Int.reduceLT, Int.reduceAdd, Int.reduceSub, Int.reduceMul, Int.reduceNeg, Nat.reduceMul, Nat.reduceSub, Nat.reduceLeDiff, Nat.reduceLT, Nat.reduceEqDiff, Nat.reduceAdd, reduceCtorEq, ↓reduceIte, reduceIte, c2]
        refine go_loop (α := { x : Nat × (Int → Option D) × List Int // x.1 ≤ l.length ∧ x.2.2.Pairwise (· < ·) ∧ (∀ y ∈ x.2.2, 0 ≤ y ∧ y < 6) ∧ x.2.2.length ≤ x.1 ∧ ∀ m, atI x.2.1 m = if m ∈ x.2.2 then 0 else if 0 ≤ m ∧ m < 6 then n else 0 }) (I := fun x => { f := [(10, .int .i64 x.1.1), (1, .dat (.slice 3) (.list l)), (9, .vec (nx + 3)), (6, .ptr nx 0), (0, .int .i64 n)], h := [(nx, tCells (nx + 1) (nx + 2)), (nx + 1, .map 3 2 x.1.2.1), (nx + 2, .map 3 3 mEmpty), (nx + 3, .arr 3 (.int .i64) (x.1.2.2.map D.int))] ++ h, nx := nx + 4 }) (μ := fun x => l.length - x.1.1) _ _ _ ⟨(0, f, []), by simp, List.Pairwise.nil, by simp, by simp, fun m => by rw [hf]; simp⟩ ?_ (fun x B2 hB2 => ?_)
        · refine leq_news [(nx, nx), (nx + 1, nx + 1), (nx + 2, nx + 2), (nx + 3, nx + 3)] [(nx, tCells (nx + 1) (nx + 2)), (nx + 1, .map 3 2 f), (nx + 2, .map 3 3 mEmpty), (nx + 3, .arr 3 (.int .i64) [])] (.slot 9 3 (.int .i64) rfl (.refl _)) (by simp) (by simp <;> omega) (by simp <;> omega) rfl ?_ ?_ ?_ ?_ hnm ?_ (by omega)
          · simp [frIn_cons, frIn_nil, fget_cons, fget_nil, SV.ren, SV.renL, rens]
          · (simp only [frLt_cons, frLt_nil, and_true, SV.lt, SV.ltL, true_and] <;> omega)
          · simp only [tCells]
            (simp only [List.mem_cons, List.not_mem_nil, or_false, forall_eq_or_imp, forall_eq]; simp [hget, rens, Tok.ren, SV.ren, SV.renL])
          · simp only [tCells]
            (simp only [List.mem_cons, List.not_mem_nil, or_false, forall_eq_or_imp, forall_eq, Tok.lt, SV.lt, SV.ltL, and_true, true_and] <;> omega)
          · simp only [tCells]
            ((try simp only []); repeat first | exact HLe.refl _ | refine HLe.cons (by simp only [hget, Nat.reduceEqDiff, Nat.left_eq_add, Nat.add_eq_left, nm_ne2, nm_en2, nm_ne3, nm_en3, nm_ne4, nm_en4, nm_ne5, nm_en5, reduceIte, ↓reduceIte] <;> first | rfl | ((repeat rw [if_neg (by omega)]) <;> rfl)) ?_ | refine HLe.skip hnm (by omega) ?_ | refine HLe.frz hnm (by omega) ?_ | refine HLe.del hnm (by omega) ?_)
        · obtain ⟨⟨j, f2, G⟩, hj, hGs, hG6, hGl, hf2⟩ := x
          simp only at hj hGs hG6 hGl hf2 hB2
          by_cases hjl : j < l.length
          · have c3 : decide ((j : Int) < (l.length : Int)) = true := decide_eq_true (by omega)
            obtain ⟨k, hk⟩ : ∃ k, (l.getD j .nil).i % 6 = k := ⟨_, rfl⟩
            have hkr : 0 ≤ k ∧ k < 6 := by rw [← hk]; exact ⟨Int.emod_nonneg _ (by decide), Int.emod_lt_of_pos _ (by decide)⟩
            have hr := ins_rise hGs k
            have h9 : (G.map D.int ++ [D.int k]).length ≤ 1000000000 := by rw [List.length_append, List.length_map]; simp; omega
            simp (maxSteps := 4000000) only [go_sem, goD_calls, eq_self, implies_true, Int.reduceEq, Int.reduceBEq, Int.reduceBNe, Int.reduceLE, Int.reduceLT, Int.reduceAdd, Int.reduceSub, Int.reduceMul, Int.reduceNeg, Nat.reduceMul, Nat.reduceSub, Nat.reduceLeDiff, Nat.reduceLT, Nat.reduceEqDiff, Nat.reduceAdd, reduceCtorEq, ↓reduceIte, reduceIte, c3, tCells, spTAck, spTPgcl, spTScl, spTBorn, spTDrop, spTHas, tOk_c, tA_c, tB_c, tM_c, tP_c, sOk_c, iOk_c, mF_c, hs6, hp6, spNumber, g6, hk, spRRisingV, h9, hr, List.length_map, Int.toNat_natCast, min_i64, max_i64]
            refine ⟨by omega, by omega, by omega, ?_⟩
            have hl2 := ins_len G k
            refine hB2 _ ⟨(j + 1, mDel f2 k, insI G k), by simp only []; omega, ins_sorted hGs k, fun v hv => ?_, by simp only []; omega, fun m => ?_⟩ (by simp only []; omega) ?_
            · rcases ins_mem.1 hv with h | rfl
              · exact hG6 v h
              · exact hkr
            · rw [atI_del, hf2]
              simp only [ins_mem]
              by_cases h1 : m = k
              · simp [h1]
              · simp [h1]
            · refine leq_news [(nx, nx), (nx + 1, nx + 1), (nx + 2, nx + 2), (nx + 3, nx + 4 + 64 + 64 + 1 + 1)] [(nx, tCells (nx + 1) (nx + 2)), (nx + 1, .map 3 2 (mDel f2 k)), (nx + 2, .map 3 3 mEmpty), (nx + 3, .arr 3 (.int .i64) ((insI G k).map D.int))] (.refl _) (by simp) (by simp <;> omega) (by simp <;> omega) rfl ?_ ?_ ?_ ?_ hnm ?_ (by omega)
              · simp [frIn_cons, frIn_nil, fget_cons, fget_nil, SV.ren, SV.renL, rens]
              · (simp only [frLt_cons, frLt_nil, and_true, SV.lt, SV.ltL, true_and] <;> omega)
              · simp only [tCells]
                (simp only [List.mem_cons, List.not_mem_nil, or_false, forall_eq_or_imp, forall_eq]; simp [hget, rens, Tok.ren, SV.ren, SV.renL])
                rw [if_neg (by omega), if_neg (by omega)]
                exact ⟨rfl, by omega, by omega⟩
              · simp only [tCells]
                (simp only [List.mem_cons, List.not_mem_nil, or_false, forall_eq_or_imp, forall_eq, Tok.lt, SV.lt, SV.ltL, and_true, true_and] <;> omega)
              · simp only [tCells]
                ((try simp only []); repeat first | exact HLe.refl _ | refine HLe.cons (by simp only [hget, Nat.reduceEqDiff, Nat.left_eq_add, Nat.add_eq_left, nm_ne2, nm_en2, nm_ne3, nm_en3, nm_ne4, nm_en4, nm_ne5, nm_en5, reduceIte, ↓reduceIte] <;> first | rfl | ((repeat rw [if_neg (by omega)]) <;> rfl)) ?_ | refine HLe.skip hnm (by omega) ?_ | refine HLe.frz hnm (by omega) ?_ | refine HLe.del hnm (by omega) ?_)
          · obtain rfl : j = l.length := by omega
            have c3 : decide ((l.length : Int) < (l.length : Int)) = false := decide_eq_false (by omega)
            have hGn := nodup_lt hGs
            have hcv : ∀ v, 0 < v → v ≤ n → cnt f2 v + G.length = 6 := fun v h0 h1 => cnt_gone hGn hG6 hf2 h0 h1
            have hcb : ∀ v, n < v → cnt f2 v = 0 := fun v hv => by
              have : ∀ m, ¬ v ≤ atI f2 m := fun m => by rw [hf2]; split <;> (try split) <;> omega
              rw [cnt_eq]
              simp [this]
            have hl1 : ((hasL (sixL 0) f2 1).length : Int) = 6 - (G.length : Int) := by
              rw [has6_len]
              have := hcv 1 (by omega) (by omega)
              omega
            have hGle : G.length ≤ 6 := by have := hcv 1 (by omega) (by omega); omega
            have q1 : ((6 - (G.length : Int)) != (6 - (G.length : Int))) = false := by simp
            obtain ⟨W, hW, hp, c4⟩ : ∃ W, (W = 0 ∨ W = n) ∧ pgcl (sixL 0) p6 f2 = W ∧ ((2 < G.length ∧ W = 0) ∨ (G.length ≤ 2 ∧ W = n)) := by
              by_cases h2 : 2 < G.length
              · refine ⟨0, .inl rfl, pg6_eq (by omega) (.inl rfl) (fun v hv => ?_), .inl ⟨h2, rfl⟩⟩
                by_cases h3 : v ≤ n
                · have := hcv v hv h3; omega
                · have := hcb v (by omega); omega
              · refine ⟨n, .inr rfl, pg6_eq (by omega) (.inr ?_) (fun v hv => ?_), .inr ⟨by omega, rfl⟩⟩
                · have := hcv n (by omega) (by omega); omega
                · have := hcb v hv; omega
            rcases c4 with ⟨h2, hWn⟩ | ⟨h2, hWn⟩
            · rw [hWn] at hp
              have c4 : decide (2 < (G.length : Int)) = true := decide_eq_true (by omega)
              have q0 : ((0 : Int) != 0) = false := rfl
              simp (maxSteps := 4000000) only [go_sem, goD_calls, eq_self, implies_true, Int.reduceEq, Int.reduceBEq, Int.reduceBNe, Int.reduceLE, Int.reduceLT, Int.reduceAdd, Int.reduceSub, Int.reduceMul, Int.reduceNeg, Nat.reduceMul, Nat.reduceSub, Nat.reduceLeDiff, Nat.reduceLT, Nat.reduceEqDiff, Nat.reduceAdd, reduceCtorEq, ↓reduceIte, reduceIte, c3, tCells, spTAck, spTPgcl, spTScl, spTBorn, spTDrop, spTHas, tOk_c, tA_c, tB_c, tM_c, tP_c, sOk_c, iOk_c, mF_c, hs6, hp6, hp, hl1, q1, q0, c4, List.length_map]
              refine ⟨⟨by rw [min_i64]; omega, by rw [max_i64]; omega⟩, ?_⟩
              refine go_loop (α := { x : Nat × (Int → Option D) // x.1 ≤ G.length ∧ (∀ m, 0 ≤ m → m < 6 → m ∉ G.drop x.1 → atI x.2 m = n) ∧ ∀ m, atI x.2 m ≤ n }) (I := fun x => { f := [(9, .vec (nx + 3)), (13, .int .i64 x.1.1), (6, .ptr nx 0), (0, .int .i64 n)], h := [(nx, tCells (nx + 1) (nx + 2)), (nx + 1, .map 3 2 x.1.2), (nx + 2, .map 3 3 mEmpty), (nx + 3, .arr 3 (.int .i64) (G.map D.int))] ++ h, nx := nx + 4 }) (μ := fun x => G.length - x.1.1) _ _ _ ⟨(0, f2), by simp, fun m h0 h1 hm => by rw [hf2, if_neg (by simpa using hm), if_pos ⟨h0, h1⟩], fun m => by rw [hf2]; split <;> (try split) <;> omega⟩ ?_ (fun x B3 hB3 => ?_)
              · refine leq_id ?_ (by (simp only [frLt_cons, frLt_nil, and_true, SV.lt, SV.ltL, true_and] <;> omega)) (by simp only [tCells]; ((try simp only []); repeat first | exact HLe.refl _ | refine HLe.cons (by simp only [hget, Nat.reduceEqDiff, Nat.left_eq_add, Nat.add_eq_left, nm_ne2, nm_en2, nm_ne3, nm_en3, nm_ne4, nm_en4, nm_ne5, nm_en5, reduceIte, ↓reduceIte] <;> first | rfl | ((repeat rw [if_neg (by omega)]) <;> rfl)) ?_ | refine HLe.skip hnm (by omega) ?_ | refine HLe.frz hnm (by omega) ?_ | refine HLe.del hnm (by omega) ?_)) (by unfold tCells; (repeat first | exact HLt.mono hnm (by simp only [] <;> omega) | refine HLt.cons (by simp only [] <;> omega) (by simp only [Tok.lt, SV.ltL, SV.lt, and_true, true_and] <;> omega) ?_)) (by simp only [] <;> omega)
                simp only [frEq_cons, frEq_nil, frIn_cons, frIn_nil, and_true, fget_cons, Nat.reduceEqDiff, reduceIte, ↓reduceIte, true_and, SV.ren, SV.renL, ren1]
                rfl
              · obtain ⟨⟨i, f3⟩, hi3, hf3, hm3⟩ := x
                simp only at hi3 hf3 hm3 hB3
                by_cases hil3 : i < G.length
                · have c5 : decide ((i : Int) < (G.length : Int)) = true := decide_eq_true (by omega)
                  obtain ⟨g, hg⟩ : ∃ g, G.getD i 0 = g := ⟨_, rfl⟩
                  have hgt : ((G.map D.int).getD i .nil).i = g := by rw [getD_int, hg]
                  have hgm : g ∈ G := by rw [← hg, List.getD_eq_getElem?_getD, List.getElem?_eq_getElem hil3]; exact List.getElem_mem hil3
                  have hg6 := hG6 g hgm
                  have ha := ack6 (g := mEmpty) (n := g) (inc := 0) (scl := n) (by omega) (by omega) rfl (by omega) (by omega)
                  have hm : max (atI f3 g) n = n := by have := hm3 g; omega
                  have hdr : G.drop i = g :: G.drop (i + 1) := by
                    rw [List.drop_eq_getElem_cons hil3, ← hg, List.getD_eq_getElem?_getD, List.getElem?_eq_getElem hil3]
                    rfl
                  simp (maxSteps := 4000000) only [go_sem, goD_calls, eq_self, implies_true, Int.reduceEq, Int.reduceBEq, Int.reduceBNe, Int.reduceLE, Int.reduceLT, Int.reduceAdd, Int.reduceSub, Int.reduceMul, Int.reduceNeg, Nat.reduceMul, Nat.reduceSub, Nat.reduceLeDiff, Nat.reduceLT, Nat.reduceEqDiff, Nat.reduceAdd, reduceCtorEq, ↓reduceIte, reduceIte, c5, tCells, spTAck, spTPgcl, spTScl, spTBorn, spTDrop, spTHas, tOk_c, tA_c, tB_c, tM_c, tP_c, sOk_c, iOk_c, mF_c, hs6, hp6, ha, hm, hgt, List.length_map, Int.toNat_natCast, min_i64, max_i64]
                  repeat refine ⟨by omega, ?_⟩
                  refine hB3 _ ⟨(i + 1, mSet f3 g (.int n)), by simp only []; omega, fun m h0 h1 hmd => ?_, fun m => ?_⟩ (by simp only []; omega) ?_
                  · rw [atI_set]
                    by_cases e : m = g
                    · rw [if_pos e]
                    · rw [if_neg e]
                      exact hf3 m h0 h1 (by rw [hdr]; simp [e]; exact hmd)
                  · rw [atI_set]
                    have := hm3 m
                    split <;> omega
                  · refine leq_id ?_ (by (simp only [frLt_cons, frLt_nil, and_true, SV.lt, SV.ltL, true_and] <;> omega)) (by simp only [tCells]; ((try simp only []); repeat first | exact HLe.refl _ | refine HLe.cons (by simp only [hget, Nat.reduceEqDiff, Nat.left_eq_add, Nat.add_eq_left, nm_ne2, nm_en2, nm_ne3, nm_en3, nm_ne4, nm_en4, nm_ne5, nm_en5, reduceIte, ↓reduceIte] <;> first | rfl | ((repeat rw [if_neg (by omega)]) <;> rfl)) ?_ | refine HLe.skip hnm (by omega) ?_ | refine HLe.frz hnm (by omega) ?_ | refine HLe.del hnm (by omega) ?_)) (by unfold tCells; (repeat first | exact HLt.mono hnm (by simp only [] <;> omega) | refine HLt.cons (by simp only [] <;> omega) (by simp only [Tok.lt, SV.ltL, SV.lt, and_true, true_and] <;> omega) ?_)) (by simp only [] <;> omega)
                    simp only [frEq_cons, frEq_nil, frIn_cons, frIn_nil, and_true, fget_cons, Nat.reduceEqDiff, reduceIte, ↓reduceIte, true_and, SV.ren, SV.renL, ren1]
                    simp
                · obtain rfl : i = G.length := by omega
                  have c5 : decide ((G.length : Int) < (G.length : Int)) = false := decide_eq_false (by omega)
                  have hf4 : ∀ m, 0 ≤ m → m < 6 → atI f3 m = n := fun m h0 h1 => hf3 m h0 h1 (by rw [List.drop_eq_nil_of_le (Nat.le_refl _)]; simp)
                  have hp3 : pgcl (sixL 0) p6 f3 = n := pg6_eq (by omega) (.inr (by
                    rw [cnt_eq, hf4 0 (by decide) (by decide), hf4 1 (by decide) (by decide), hf4 2 (by decide) (by decide), hf4 3 (by decide) (by decide), hf4 4 (by decide) (by decide), hf4 5 (by decide) (by decide)]
                    simp)) (fun v hv => by
                    have : ∀ m, ¬ v ≤ atI f3 m := fun m => by have := hm3 m; omega
                    rw [cnt_eq]
                    simp [this])
                  have q2 : (n == n) = true := by simp
                  simp (maxSteps := 4000000) only [go_sem, goD_calls, eq_self, implies_true, Int.reduceEq, Int.reduceBEq, Int.reduceBNe, Int.reduceLE, Int.reduceLT, Int.reduceAdd, Int.reduceSub, Int.reduceMul, Int.reduceNeg, Nat.reduceMul, Nat.reduceSub, Nat.reduceLeDiff, Nat.reduceLT, Nat.reduceEqDiff, Nat.reduceAdd, reduceCtorEq, ↓reduceIte, reduceIte, c5, tCells, spTAck, spTPgcl, spTScl, spTBorn, spTDrop, spTHas, tOk_c, tA_c, tB_c, tM_c, tP_c, sOk_c, iOk_c, mF_c, hs6, hp6, hp3, q2, List.length_map]
                  exact ret _ _ (by ((try simp only []); repeat first | exact HLe.refl _ | refine HLe.cons (by simp only [hget, Nat.reduceEqDiff, Nat.left_eq_add, Nat.add_eq_left, nm_ne2, nm_en2, nm_ne3, nm_en3, nm_ne4, nm_en4, nm_ne5, nm_en5, reduceIte, ↓reduceIte] <;> first | rfl | ((repeat rw [if_neg (by omega)]) <;> rfl)) ?_ | refine HLe.skip hnm (by omega) ?_ | refine HLe.frz hnm (by omega) ?_ | refine HLe.del hnm (by omega) ?_))
            · rw [hWn] at hp
              have c4 : decide (2 < (G.length : Int)) = false := decide_eq_false (by omega)
              have q0 : (n != n) = false := by simp
              simp (maxSteps := 4000000) only [go_sem, goD_calls, eq_self, implies_true, Int.reduceEq, Int.reduceBEq, Int.reduceBNe, Int.reduceLE, Int.reduceLT, Int.reduceAdd, Int.reduceSub, Int.reduceMul, Int.reduceNeg, Nat.reduceMul, Nat.reduceSub, Nat.reduceLeDiff, Nat.reduceLT, Nat.reduceEqDiff, Nat.reduceAdd, reduceCtorEq, ↓reduceIte, reduceIte, c3, tCells, spTAck, spTPgcl, spTScl, spTBorn, spTDrop, spTHas, tOk_c, tA_c, tB_c, tM_c, tP_c, sOk_c, iOk_c, mF_c, hs6, hp6, hp, hl1, q1, q0, c4, List.length_map]
              refine ⟨⟨by rw [min_i64]; omega, by rw [max_i64]; omega⟩, ?_⟩
              refine go_loop (α := { x : Nat × (Int → Option D) // x.1 ≤ G.length ∧ (∀ m, 0 ≤ m → m < 6 → m ∉ G.drop x.1 → atI x.2 m = n) ∧ ∀ m, atI x.2 m ≤ n }) (I := fun x => { f := [(9, .vec (nx + 3)), (13, .int .i64 x.1.1), (6, .ptr nx 0), (0, .int .i64 n)], h := [(nx, tCells (nx + 1) (nx + 2)), (nx + 1, .map 3 2 x.1.2), (nx + 2, .map 3 3 mEmpty), (nx + 3, .arr 3 (.int .i64) (G.map D.int))] ++ h, nx := nx + 4 }) (μ := fun x => G.length - x.1.1) _ _ _ ⟨(0, f2), by simp, fun m h0 h1 hm => by rw [hf2, if_neg (by simpa using hm), if_pos ⟨h0, h1⟩], fun m => by rw [hf2]; split <;> (try split) <;> omega⟩ ?_ (fun x B3 hB3 => ?_)
              · refine leq_id ?_ (by (simp only [frLt_cons, frLt_nil, and_true, SV.lt, SV.ltL, true_and] <;> omega)) (by simp only [tCells]; ((try simp only []); repeat first | exact HLe.refl _ | refine HLe.cons (by simp only [hget, Nat.reduceEqDiff, Nat.left_eq_add, Nat.add_eq_left, nm_ne2, nm_en2, nm_ne3, nm_en3, nm_ne4, nm_en4, nm_ne5, nm_en5, reduceIte, ↓reduceIte] <;> first | rfl | ((repeat rw [if_neg (by omega)]) <;> rfl)) ?_ | refine HLe.skip hnm (by omega) ?_ | refine HLe.frz hnm (by omega) ?_ | refine HLe.del hnm (by omega) ?_)) (by unfold tCells; (repeat first | exact HLt.mono hnm (by simp only [] <;> omega) | refine HLt.cons (by simp only [] <;> omega) (by simp only [Tok.lt, SV.ltL, SV.lt, and_true, true_and] <;> omega) ?_)) (by simp only [] <;> omega)
                simp only [frEq_cons, frEq_nil, frIn_cons, frIn_nil, and_true, fget_cons, Nat.reduceEqDiff, reduceIte, ↓reduceIte, true_and, SV.ren, SV.renL, ren1]
                rfl
              · obtain ⟨⟨i, f3⟩, hi3, hf3, hm3⟩ := x
                simp only at hi3 hf3 hm3 hB3
                by_cases hil3 : i < G.length
                · have c5 : decide ((i : Int) < (G.length : Int)) = true := decide_eq_true (by omega)
                  obtain ⟨g, hg⟩ : ∃ g, G.getD i 0 = g := ⟨_, rfl⟩
                  have hgt : ((G.map D.int).getD i .nil).i = g := by rw [getD_int, hg]
                  have hgm : g ∈ G := by rw [← hg, List.getD_eq_getElem?_getD, List.getElem?_eq_getElem hil3]; exact List.getElem_mem hil3
                  have hg6 := hG6 g hgm
                  have ha := ack6 (g := mEmpty) (n := g) (inc := 0) (scl := n) (by omega) (by omega) rfl (by omega) (by omega)
                  have hm : max (atI f3 g) n = n := by have := hm3 g; omega
                  have hdr : G.drop i = g :: G.drop (i + 1) := by
                    rw [List.drop_eq_getElem_cons hil3, ← hg, List.getD_eq_getElem?_getD, List.getElem?_eq_getElem hil3]
                    rfl
                  simp (maxSteps := 4000000) only [go_sem, goD_calls, eq_self, implies_true, Int.reduceEq, Int.reduceBEq, Int.reduceBNe, Int.reduceLE, Int.reduceLT, Int.reduceAdd, Int.reduceSub, Int.reduceMul, Int.reduceNeg, Nat.reduceMul, Nat.reduceSub, Nat.reduceLeDiff, Nat.reduceLT, Nat.reduceEqDiff, Nat.reduceAdd, reduceCtorEq, ↓reduceIte, reduceIte, c5, tCells, spTAck, spTPgcl, spTScl, spTBorn, spTDrop, spTHas, tOk_c, tA_c, tB_c, tM_c, tP_c, sOk_c, iOk_c, mF_c, hs6, hp6, ha, hm, hgt, List.length_map, Int.toNat_natCast, min_i64, max_i64]
                  repeat refine ⟨by omega, ?_⟩
                  refine hB3 _ ⟨(i + 1, mSet f3 g (.int n)), by simp only []; omega, fun m h0 h1 hmd => ?_, fun m => ?_⟩ (by simp only []; omega) ?_
                  · rw [atI_set]
                    by_cases e : m = g
                    · rw [if_pos e]
                    · rw [if_neg e]
                      exact hf3 m h0 h1 (by rw [hdr]; simp [e]; exact hmd)
                  · rw [atI_set]
                    have := hm3 m
                    split <;> omega
                  · refine leq_id ?_ (by (simp only [frLt_cons, frLt_nil, and_true, SV.lt, SV.ltL, true_and] <;> omega)) (by simp only [tCells]; ((try simp only []); repeat first | exact HLe.refl _ | refine HLe.cons (by simp only [hget, Nat.reduceEqDiff, Nat.left_eq_add, Nat.add_eq_left, nm_ne2, nm_en2, nm_ne3, nm_en3, nm_ne4, nm_en4, nm_ne5, nm_en5, reduceIte, ↓reduceIte] <;> first | rfl | ((repeat rw [if_neg (by omega)]) <;> rfl)) ?_ | refine HLe.skip hnm (by omega) ?_ | refine HLe.frz hnm (by omega) ?_ | refine HLe.del hnm (by omega) ?_)) (by unfold tCells; (repeat first | exact HLt.mono hnm (by simp only [] <;> omega) | refine HLt.cons (by simp only [] <;> omega) (by simp only [Tok.lt, SV.ltL, SV.lt, and_true, true_and] <;> omega) ?_)) (by simp only [] <;> omega)
                    simp only [frEq_cons, frEq_nil, frIn_cons, frIn_nil, and_true, fget_cons, Nat.reduceEqDiff, reduceIte, ↓reduceIte, true_and, SV.ren, SV.renL, ren1]
                    simp
                · obtain rfl : i = G.length := by omega
                  have c5 : decide ((G.length : Int) < (G.length : Int)) = false := decide_eq_false (by omega)
                  have hf4 : ∀ m, 0 ≤ m → m < 6 → atI f3 m = n := fun m h0 h1 => hf3 m h0 h1 (by rw [List.drop_eq_nil_of_le (Nat.le_refl _)]; simp)
                  have hp3 : pgcl (sixL 0) p6 f3 = n := pg6_eq (by omega) (.inr (by
                    rw [cnt_eq, hf4 0 (by decide) (by decide), hf4 1 (by decide) (by decide), hf4 2 (by decide) (by decide), hf4 3 (by decide) (by decide), hf4 4 (by decide) (by decide), hf4 5 (by decide) (by decide)]
                    simp)) (fun v hv => by
                    have : ∀ m, ¬ v ≤ atI f3 m := fun m => by have := hm3 m; omega
                    rw [cnt_eq]
                    simp [this])
                  have q2 : (n == n) = true := by simp
                  simp (maxSteps := 4000000) only [go_sem, goD_calls, eq_self, implies_true, Int.reduceEq, Int.reduceBEq, Int.reduceBNe, Int.reduceLE, Int.reduceLT, Int.reduceAdd, Int.reduceSub, Int.reduceMul, Int.reduceNeg, Nat.reduceMul, Nat.reduceSub, Nat.reduceLeDiff, Nat.reduceLT, Nat.reduceEqDiff, Nat.reduceAdd, reduceCtorEq, ↓reduceIte, reduceIte, c5, tCells, spTAck, spTPgcl, spTScl, spTBorn, spTDrop, spTHas, tOk_c, tA_c, tB_c, tM_c, tP_c, sOk_c, iOk_c, mF_c, hs6, hp6, hp3, q2, List.length_map]
                  exact ret _ _ (by ((try simp only []); repeat first | exact HLe.refl _ | refine HLe.cons (by simp only [hget, Nat.reduceEqDiff, Nat.left_eq_add, Nat.add_eq_left, nm_ne2, nm_en2, nm_ne3, nm_en3, nm_ne4, nm_en4, nm_ne5, nm_en5, reduceIte, ↓reduceIte] <;> first | rfl | ((repeat rw [if_neg (by omega)]) <;> rfl)) ?_ | refine HLe.skip hnm (by omega) ?_ | refine HLe.frz hnm (by omega) ?_ | refine HLe.del hnm (by omega) ?_))
  · exact hsp.elim
end Go.Proofs.YtkojpimkngmckaaDoor
