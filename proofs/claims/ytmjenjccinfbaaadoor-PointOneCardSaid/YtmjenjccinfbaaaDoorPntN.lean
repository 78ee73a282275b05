/- Chapter 15: PointLasts. -/
import Derived.Test.YtmjenjccinfbaaaDoorPntM
namespace Go.Proofs.YtmjenjccinfbaaaDoor
set_option linter.unusedVariables false
set_option linter.unusedSimpArgs false
open Go Go.Fw
attribute [local go_sem] walkSet evMdl evMupD evMup evLkp frpL eltP eltV eltK preF preP prePt prePd frzP evNlq ev frOf oget ogets argSs argS evCat evMm frzL evBin evWrp evShf evCmp evUna evNil evBeq evLd evSt evFad evIad evAad evLen evSln evEls evApp evParts evSlc evNlc evMif evPck evFld evBld evTas evIfq evSeq evSl0 evBxf evAgl evAgq evBsf hget hset hdel cellAt arrAt setCellAt setArrAt takeC lenC svCells SV.okc SV.one ldSV Fw.isAgg explode explodeL toD toDL toD1 Ty.size Ty.sizeL frz1 Fr.sub Heap.sub Tok.sub SV.sub SV.subL

theorem zero_cnt (G : Nat → Int) (B : Nat → Bool) (F : List Int) (hF : ∀ k, F.getD k 0 ≤ 0) (i : Nat) : isCnt (sentL G B i) (F.map D.int) 0 := by
  refine ⟨Nat.zero_le _, fun j hj => by omega, ?_⟩
  by_cases e : i = 0
  · exact .inl (by rw [sentL_len, e])
  · refine .inr (fun hk => ?_)
    rw [sentL_ok G B _ (by omega), getD_ints] at hk
    have := hF (G 0).toNat
    omega
theorem zeros3_le : ∀ k, ([0, 0, 0] : List Int).getD k 0 ≤ 0
  | 0 => Int.le_refl 0
  | 1 => Int.le_refl 0
  | 2 => Int.le_refl 0
  | k + 3 => Int.le_refl 0
theorem zeros4_le : ∀ k, ([0, 0, 0, 0] : List Int).getD k 0 ≤ 0
  | 0 => Int.le_refl 0
  | 1 => Int.le_refl 0
  | 2 => Int.le_refl 0
  | 3 => Int.le_refl 0
  | k + 4 => Int.le_refl 0
/-- The last of a group up to a number, of the numbers 1, 2, 3 .. -/
def lastA (G : Nat → Int) (g n : Int) : Nat → Int
  | 0 => 0
  | k + 1 => if G k = g ∧ (k : Int) + 1 ≤ n then (k : Int) + 1 else lastA G g n k
theorem lastA_succ (G : Nat → Int) (g n : Int) (k : Nat) : lastA G g n (k + 1) = if G k = g ∧ (k : Int) + 1 ≤ n then (k : Int) + 1 else lastA G g n k := rfl
theorem lastN_sent (G : Nat → Int) (B : Nat → Bool) (g n : Int) {i : Nat} : ∀ k, k ≤ i → lastN (sentL G B i) g n k = lastA G g n k
  | 0, _ => rfl
  | k + 1, h => by
    rw [lastN_succ, lastA_succ, sentL_at G B (by omega), lastN_sent G B g n k (by omega)]
    rfl
theorem lastA_none {G : Nat → Int} {g n : Int} (h : ∀ j, G j ≠ g) : ∀ k, lastA G g n k = 0
  | 0 => rfl
  | k + 1 => by rw [lastA_succ, if_neg (fun e => h k e.1), lastA_none h k]
theorem lastA_ge {G : Nat → Int} {g n : Int} {j : Nat} (h1 : G j = g) (h2 : (j : Int) + 1 ≤ n) : ∀ k, j < k → (j : Int) + 1 ≤ lastA G g n k
  | 0, h => by omega
  | k + 1, h => by
    rw [lastA_succ]
    by_cases e : j = k
    · subst e; rw [if_pos ⟨h1, h2⟩]; omega
    · split
      · omega
      · exact lastA_ge h1 h2 k (by omega)
def wantL (G : Nat → Int) (n : Int) (k : Nat) : List Int := [lastA G 0 n k, lastA G 1 n k, lastA G 2 n k]
theorem wantL_in {G : Nat → Int} {n : Int} {k : Nat} (hG : 0 ≤ G k ∧ G k < 3) (h : (k : Int) + 1 ≤ n) : (wantL G n k).set (G k).toNat ((k : Int) + 1) = wantL G n (k + 1) := by
  unfold wantL
  simp only [lastA_succ, h, and_true]
  rcases (by omega : G k = 0 ∨ G k = 1 ∨ G k = 2) with e | e | e <;> rw [e] <;> rfl
theorem wantL_out {G : Nat → Int} {n : Int} {k : Nat} (h : ¬ (k : Int) + 1 ≤ n) : wantL G n (k + 1) = wantL G n k := by
  unfold wantL
  simp only [lastA_succ, h, and_false, if_false]
def WPointLasts : Opts := mkWF 98 [] [0, 1, 2] [] 171 [0, 1, 2] [] [] [64, 72, 81]
def icPointLasts : IC := (.seq (.seq (.ops [(.u (.mov 4 (.c (.bool false))))]) (.tr [1, 0])) (.seq (.seq (.ops [(.u (.call 11 (.c (.clo 15 [])) [] [] true)), (.u (.mov 5 (.s 11)))]) (.tr [5, 1, 0])) (.seq (.seq (.seq (.ops [(.u (.mov 12 (.s 5))), (.u (.una 13 .not (.s 12)))]) (.tr [13, 5, 1, 0])) (.cond (.s 13) (.seq (.seq (.ops [(.u (.mov 4 (.c (.bool false))))]) (.tr [4])) .ret) .skip)) (.seq (.seq (.seq (.ops [(.u (.mov 14 (.s 0))), (.u (.len 15 false (.s 14))), (.u (.cmp 16 .gtr (.s 15) (.c (.int .i64 40)))), (.u (.mov 17 (.s 16))), (.g 17 false (some 18) (.mov 18 (.s 5))), (.g 17 false (some 19) (.una 19 .not (.s 18))), (.u (.pck 20 (.s 17) (.c (.bool true)) (.s 19)))]) (.tr [20, 5, 1, 0])) (.cond (.s 20) (.seq (.seq (.ops [(.u (.mov 21 (.s 5))), (.u (.mov 4 (.s 21)))]) (.tr [4])) .ret) .skip)) (.seq (.seq (.ops [(.u (.mov 22 (.s 1))), (.u (.bin 23 .and .i64 (.s 22) (.c (.int .i64 63)))), (.u (.mov 1 (.s 23)))]) (.tr [0, 1])) (.seq (.seq (.ops [(.u (.call 25 (.c (.clo 16 [])) [(.c (.int .i64 3)), (.c (.int .i64 0)), (.c .nils)] [none, none, (some 41)] true)), (.u (.mov 24 (.s 25))), (.u (.ext 26 0 (.s 24))), (.u (.ext 27 1 (.s 24))), (.u (.mov 6 (.s 26))), (.u (.mov 7 (.s 27)))]) (.tr [7, 0, 1, 6])) (.seq (.seq (.seq (.ops [(.u (.mov 28 (.s 6))), (.u (.eqb 29 false 1 (.s 28))), (.u (.mov 30 (.s 29))), (.g 30 false (some 31) (.mov 31 (.s 7))), (.g 30 false (some 32) (.eqb 32 true 0 (.s 31))), (.u (.pck 33 (.s 30) (.c (.bool true)) (.s 32)))]) (.tr [33, 0, 1, 6])) (.cond (.s 33) (.seq (.seq (.ops [(.u (.mov 4 (.c (.bool false))))]) (.tr [4])) .ret) .skip)) (.seq (.seq (.ops [(.u (.bsl 34 2 (.int .i64) [(.c (.int .i64 0)), (.c (.int .i64 0)), (.c (.int .i64 0))])), (.u (.mov 8 (.s 34)))]) (.tr [0, 8, 1, 6])) (.seq (.seq (.seq (.ops [(.u (.mov 9 (.c (.int .i64 0))))]) (.tr [0, 9, 8, 1, 6])) (.block 0 (.loop (.seq (.seq (.seq (.ops [(.u (.mov 35 (.s 9))), (.u (.mov 36 (.s 0))), (.u (.len 37 false (.s 36))), (.u (.cmp 38 .lss (.s 35) (.s 37)))]) (.tr [38, 9, 0, 8, 1, 6])) (.cond (.s 38) .skip (.exit 0))) (.seq (.block 1 (.seq (.seq (.ops [(.u (.mov 41 (.s 0))), (.u (.mov 42 (.s 9))), (.u (.iad 43 3 (.int .i64) (.s 41) (.s 42))), (.u (.ld 44 (.int .i64) (.s 43))), (.u (.call 45 (.c (.clo 18 [])) [(.s 44), (.c (.int .i64 3))] [none, none] true)), (.u (.mov 10 (.s 45)))]) (.tr [10, 9, 0, 8, 1, 6])) (.seq (.seq (.seq (.ops [(.u (.mov 46 (.s 6))), (.u (.mov 47 (.s 9))), (.u (.bin 48 .add .i64 (.s 47) (.c (.int .i64 1)))), (.u (.mov 49 (.s 10))), (.u (.bld 50 [[(.int .i64 0)], [(.int .i64 0)], [(.int .i64 0)], [(.int .i64 0)], [(.int .i64 0)], [(.int .i64 0)], [(.int .i64 0)], [.nils], [.nils], [(.bool false)]] [(0, (.s 48)), (3, (.s 49))])), (.u (.call 51 (.c (.clo 17 [])) [(.s 46), (.s 50)] [none, none] true)), (.u (.eqb 52 true 0 (.s 51)))]) (.tr [52, 10, 9, 0, 8, 1, 6])) (.cond (.s 52) (.seq (.seq (.ops [(.u (.mov 4 (.c (.bool false))))]) (.tr [4])) .ret) .skip)) (.seq (.seq (.ops [(.u (.mov 53 (.s 9))), (.u (.bin 54 .add .i64 (.s 53) (.c (.int .i64 1)))), (.u (.mov 55 (.s 1))), (.u (.cmp 56 .leq (.s 54) (.s 55)))]) (.tr [56, 10, 9, 0, 8, 1, 6])) (.cond (.s 56) (.seq (.ops [(.u (.mov 57 (.s 8))), (.u (.mov 58 (.s 10))), (.u (.mov 59 (.s 9))), (.u (.bin 60 .add .i64 (.s 59) (.c (.int .i64 1)))), (.u (.iad 61 2 (.int .i64) (.s 57) (.s 58))), (.u (.st (.int .i64) (.s 61) (.s 60)))]) (.tr [9, 0, 8, 1, 6])) .skip))))) (.seq (.ops [(.u (.mov 39 (.s 9))), (.u (.bin 40 .add .i64 (.s 39) (.c (.int .i64 1)))), (.u (.mov 9 (.s 40)))]) (.tr [0, 9, 8, 1, 6]))))))) (.seq (.seq (.rgn [(.s 6), (.s 1), (.s 6), (.s 1), (.s 6), (.s 1), (.s 6), (.s 1), (.s 6)] [(false, (.u (.mov 62 (.s 6)))), (false, (.u (.mov 63 (.s 1)))), (false, (.u (.mov 65 (.s 8)))), (false, (.u (.iad 66 2 (.int .i64) (.s 65) (.c (.int .i64 0))))), (false, (.u (.ld 67 (.int .i64) (.s 66)))), (true, (.u (.call 64 (.c (.clo 36 [])) [(.s 62), (.c (.int .i64 0)), (.s 63)] [none, none, none] true))), (false, (.u (.cmp 68 .eql (.s 64) (.s 67)))), (false, (.u (.mov 69 (.s 68)))), (false, (.g 69 true (some 70) (.mov 70 (.s 6)))), (false, (.g 69 true (some 71) (.mov 71 (.s 1)))), (false, (.g 69 true (some 73) (.mov 73 (.s 8)))), (false, (.g 69 true (some 74) (.iad 74 2 (.int .i64) (.s 73) (.c (.int .i64 1))))), (false, (.g 69 true (some 75) (.ld 75 (.int .i64) (.s 74)))), (true, (.g 69 true (some 72) (.call 72 (.c (.clo 36 [])) [(.s 70), (.c (.int .i64 1)), (.s 71)] [none, none, none] true))), (false, (.g 69 true (some 76) (.cmp 76 .eql (.s 72) (.s 75)))), (false, (.u (.pck 77 (.s 69) (.s 76) (.c (.bool false))))), (false, (.u (.mov 78 (.s 77)))), (false, (.g 78 true (some 79) (.mov 79 (.s 6)))), (false, (.g 78 true (some 80) (.mov 80 (.s 1)))), (false, (.g 78 true (some 82) (.mov 82 (.s 8)))), (false, (.g 78 true (some 83) (.iad 83 2 (.int .i64) (.s 82) (.c (.int .i64 2))))), (false, (.g 78 true (some 84) (.ld 84 (.int .i64) (.s 83)))), (true, (.g 78 true (some 81) (.call 81 (.c (.clo 36 [])) [(.s 79), (.c (.int .i64 2)), (.s 80)] [none, none, none] true))), (false, (.g 78 true (some 85) (.cmp 85 .eql (.s 81) (.s 84)))), (false, (.u (.pck 86 (.s 78) (.s 85) (.c (.bool false))))), (false, (.u (.mov 87 (.s 86)))), (false, (.g 87 true (some 88) (.mov 88 (.s 6)))), (false, (.g 87 true (some 89) (.mov 89 (.s 1)))), (false, (.g 87 true (some 90) (.call 90 (.c (.clo 36 [])) [(.s 88), (.c (.int .i64 3)), (.s 89)] [none, none, none] true))), (false, (.g 87 true (some 91) (.cmp 91 .eql (.s 90) (.c (.int .i64 0))))), (false, (.u (.pck 92 (.s 87) (.s 91) (.c (.bool false))))), (false, (.u (.mov 93 (.s 92)))), (false, (.g 93 true (some 94) (.mov 94 (.s 6)))), (false, (.g 93 true (some 95) (.call 95 (.c (.clo 20 [])) [(.s 94)] [none] true))), (false, (.g 93 true (some 96) (.cmp 96 .eql (.s 95) (.c (.int .i64 0))))), (false, (.u (.pck 97 (.s 93) (.s 96) (.c (.bool false))))), (false, (.u (.mov 4 (.s 97))))]) (.tr [4])) .ret))))))))))
def rsPointLasts : List RV := [(.t 4)]
theorem irPointLasts : fnIR Tryd.prog WPointLasts 9 = some (icPointLasts, rsPointLasts) := by kernel_rfl
def spPointLasts : FSpec := fun args h nx K => match args with
  | [.dat (.slice t1) gs, .int .i64 ask] => t1 = 3 ∧ K (.bool true) h
  | _ => False
set_option maxHeartbeats 4000000 in
set_option maxRecDepth 8000 in
theorem vPointLasts {E : Nat → Value} (hE : Errs2 Tryd.prog (some 171) E) : Valid Tryd.prog E (gs GPS) 9 spPointLasts := by
  refine valid_go (W := WPointLasts) hE ((((((allValid_bot.add (up (vFirst15 hE))).add (up (vPNew hE))).add (up (vPSent hE))).add (up (vPVDL hE))).add (up (vPLastO hE))).add (up (vNumber hE))) irPointLasts (by decide) (fun args h nx K hsp hok hnm => ?_)
  unfold spPointLasts at hsp
  split at hsp
  · rename_i t1 gs ask0
    obtain ⟨rfl, hK⟩ := hsp
    refine ⟨by simp [WPointLasts, mkW, mkWE, mkWF], fun Q hQ => ?_⟩
    obtain ⟨hd1, _⟩ := hok
    simp only [SV.ok] at hd1
    obtain ⟨hd11, hd12, hd13⟩ := Wt.slice hd1; generalize gs.l = gl at *; subst hd11
    have ret : ∀ h' nx', HLe h h' → Q Ex.ret ⟨[(4, .bool true)], h', nx'⟩ := fun h' nx' hh => by
      refine (hQ _ ?_).1
      exact fin_t (.bool true) rfl rfl hnm hh hK
    obtain ⟨ask, hask⟩ : ∃ s, bitI .and .i64 ask0 63 = s := ⟨_, rfl⟩
    have g3 : (0 : Int) < 3 := by decide
    obtain ⟨G, hG⟩ : ∃ G : Nat → Int, ∀ j, (gl.getD j .nil).i % 3 = G j := ⟨_, fun _ => rfl⟩
    have hGr : ∀ j, 0 ≤ G j ∧ G j < 3 := fun j => by rw [← hG]; exact ⟨Int.emod_nonneg _ (by omega), Int.emod_lt_of_pos _ g3⟩
    by_cases l1 : 40 < gl.length
    · have c1 : decide (40 < (gl.length : Int)) = true := decide_eq_true (by omega)
      simp (maxSteps := 4000000) only [icPointLasts, go_sem, goD_calls, eq_self, implies_true, Int.reduceEq, Int.reduceBEq, Int.reduceBNe, Int.reduceLE, Int.reduceLT, Int.reduceAdd, Int.reduceSub, Int.reduceMul, Int.reduceNeg, Nat.reduceMul, Nat.reduceSub, Nat.reduceLeDiff, Nat.reduceLT, Nat.reduceEqDiff, Nat.reduceAdd, reduceCtorEq, ↓reduceIte, reduceIte, spFirst15, c1]
      exact ret _ _ (by ((try simp only []); repeat first | exact HLe.refl _ | refine HLe.cons (by simp only [hget, Nat.reduceEqDiff, Nat.left_eq_add, Nat.add_eq_left, nm_ne2, nm_en2, nm_ne3, nm_en3, nm_ne4, nm_en4, nm_ne5, nm_en5, reduceIte, ↓reduceIte] <;> first | rfl | ((repeat rw [if_neg (by omega)]) <;> rfl)) ?_ | refine HLe.skip hnm (by omega) ?_ | refine HLe.frz hnm (by omega) ?_ | refine HLe.del hnm (by omega) ?_))
    have c1 : decide (40 < (gl.length : Int)) = false := decide_eq_false (by omega)
    simp (maxSteps := 4000000) only [icPointLasts, go_sem, goD_calls, eq_self, implies_true, Int.reduceEq, Int.reduceBEq, Int.reduceBNe, Int.reduceLE, Int.reduceLT, Int.reduceAdd, Int.reduceSub, Int.reduceMul, Int.reduceNeg, Nat.reduceMul, Nat.reduceSub, Nat.reduceLeDiff, Nat.reduceLT, Nat.reduceEqDiff, Nat.reduceAdd, reduceCtorEq, ↓reduceIte, reduceIte, spFirst15, spPNew, valid_none, ptC_def, hask, c1]
    refine go_loop (α := { i : Nat // i ≤ gl.length }) (I := fun i => { f := [(9, .int .i64 i.1), (0, .dat (.slice 3) (.list gl)), (8, .vec (nx + 3)), (1, .int .i64 ask), (6, .ptr nx 0)], h := (nx, ptS [] (nx + 1) i.1 (nx + 2) 0 (sentL G (fun _ => false) i.1) 0) :: (nx + 1, .arr 112 sentT (sentL G (fun _ => false) i.1)) :: (nx + 2, .arr 2 (.int .i64) ([0, 0, 0].map D.int)) :: (nx + 3, .arr 2 (.int .i64) ((wantL G ask i.1).map D.int)) :: h, nx := nx + 4 }) (μ := fun i => gl.length - i.1) _ _ _ ⟨0, by omega⟩ ?_ (fun i S hS => ?_)
    · refine leq_news [(nx, nx + 64), (nx + 1, nx + 64 + 1), (nx + 2, nx + 64 + 2), (nx + 3, nx + 64 + 64)] [(nx, ptS [] (nx + 1) 0 (nx + 2) 0 (sentL G (fun _ => false) 0) 0), (nx + 1, .arr 112 sentT (sentL G (fun _ => false) 0)), (nx + 2, .arr 2 (.int .i64) ([0, 0, 0].map D.int)), (nx + 3, .arr 2 (.int .i64) ((wantL G ask 0).map D.int))] (.refl _) (by simp) (by simp <;> omega) (by simp <;> omega) rfl ?_ ?_ ?_ ?_ hnm ?_ (by omega)
      · simp [frIn_cons, frIn_nil, fget_cons, fget_nil, SV.ren, SV.renL, rens]
      · (simp only [frLt_cons, frLt_nil, and_true, SV.lt, SV.ltL, true_and] <;> omega)
      · simp only [ptS, ptC_def]
        (simp only [List.mem_cons, List.not_mem_nil, or_false, forall_eq_or_imp, forall_eq]; simp [hget, rens, Tok.ren, SV.ren, SV.renL])
        try exact ⟨⟨rfl, rfl⟩, rfl, rfl, rfl⟩
        all_goals try (refine ⟨?_, ?_, ?_, ?_⟩ <;> first | omega | rfl)
        all_goals try omega
      · simp only [ptS, ptC_def]
        (simp only [List.mem_cons, List.not_mem_nil, or_false, forall_eq_or_imp, forall_eq, Tok.lt, SV.lt, SV.ltL, and_true, true_and] <;> omega)
      · ((try simp only []); repeat first | exact HLe.refl _ | refine HLe.cons (by simp only [hget, Nat.reduceEqDiff, Nat.left_eq_add, Nat.add_eq_left, nm_ne2, nm_en2, nm_ne3, nm_en3, nm_ne4, nm_en4, nm_ne5, nm_en5, reduceIte, ↓reduceIte] <;> first | rfl | ((repeat rw [if_neg (by omega)]) <;> rfl)) ?_ | refine HLe.skip hnm (by omega) ?_ | refine HLe.frz hnm (by omega) ?_ | refine HLe.del hnm (by omega) ?_)
    obtain ⟨i, hi⟩ := i
    simp only at hS ⊢
    have hz := fun i => zero_cnt G (fun _ => false) [0, 0, 0] zeros3_le i
    by_cases hil : i < gl.length
    · have d1 : decide ((i : Int) < (gl.length : Int)) = true := decide_eq_true (by omega)
      have hst := sentL_step G (fun _ => false) i
      simp (maxSteps := 4000000) only [go_sem, goD_calls, eq_self, implies_true, Int.reduceEq, Int.reduceBEq, Int.reduceBNe, Int.reduceLE, Int.reduceLT, Int.reduceAdd, Int.reduceSub, Int.reduceMul, Int.reduceNeg, Nat.reduceMul, Nat.reduceSub, Nat.reduceLeDiff, Nat.reduceLT, Nat.reduceEqDiff, Nat.reduceAdd, reduceCtorEq, ↓reduceIte, reduceIte, spNumber, d1, g3, hG, Int.toNat_natCast, min_i64, max_i64]
      refine ⟨⟨by omega, by omega⟩, ⟨by omega, by omega⟩, ?_⟩
      refine sent_cnt (by omega) (by omega) (by omega) (hz i) (m := 0) (by have := hz (i + 1); rw [hst] at this; exact this) (by rw [sentL_len]; omega) (sentL_gr G _ _ i (fun j _ => ⟨(hGr j).1, (hGr j).2⟩)) (none_low ▸ trivial) (by omega) ⟨rfl, rfl⟩ ⟨(hGr i).1, (hGr i).2, by omega, by omega⟩ (by rw [next_none]) ?_
      have fin : ∀ S' W, W = (wantL G ask (i + 1)).map D.int → Leq nx S' { f := [(9, .int .i64 ((i : Int) + 1)), (0, .dat (.slice 3) (.list gl)), (8, .vec (nx + 3)), (1, .int .i64 ask), (6, .ptr nx 0)], h := (nx, ptS [] (nx + 1) ((i : Int) + 1) (nx + 2) 0 (sentL G (fun _ => false) i ++ [sent3 ((i : Int) + 1) (G i) false]) 0) :: (nx + 1, .arr 112 sentT (sentL G (fun _ => false) i ++ [sent3 ((i : Int) + 1) (G i) false])) :: (nx + 2, .arr 2 (.int .i64) ([0, 0, 0].map D.int)) :: (nx + 3, .arr 2 (.int .i64) W) :: h, nx := nx + 4 } → S S' := fun S' W hW hl => by
        refine hS _ ⟨i + 1, by omega⟩ (by simp only []; omega) ?_
        simp only []
        subst hW
        rw [hst]
        exact hl
      by_cases ha : (i : Int) + 1 ≤ ask
      · have d2 : decide ((i : Int) + 1 ≤ ask) = true := decide_eq_true ha
        have hw := wantL_in (hGr i) ha
        simp (maxSteps := 4000000) only [go_sem, goD_calls, eq_self, implies_true, Int.reduceEq, Int.reduceBEq, Int.reduceBNe, Int.reduceLE, Int.reduceLT, Int.reduceAdd, Int.reduceSub, Int.reduceMul, Int.reduceNeg, Nat.reduceMul, Nat.reduceSub, Nat.reduceLeDiff, Nat.reduceLT, Nat.reduceEqDiff, Nat.reduceAdd, reduceCtorEq, ↓reduceIte, reduceIte, d2, set_ints, hw, List.length_map, min_i64, max_i64]
        refine ⟨⟨by omega, by omega⟩, ⟨by omega, by omega⟩, hGr i, hGr i, ⟨by omega, by omega⟩, fin _ _ rfl ?_⟩
        refine leq_news [(nx, nx), (nx + 1, nx + 4 + 64), (nx + 2, nx + 2), (nx + 3, nx + 3)] [(nx, ptS [] (nx + 1) ((i : Int) + 1) (nx + 2) 0 (sentL G (fun _ => false) i ++ [sent3 ((i : Int) + 1) (G i) false]) 0), (nx + 1, .arr 112 sentT (sentL G (fun _ => false) i ++ [sent3 ((i : Int) + 1) (G i) false])), (nx + 2, .arr 2 (.int .i64) ([0, 0, 0].map D.int)), (nx + 3, .arr 2 (.int .i64) ((wantL G ask (i + 1)).map D.int))] (.refl _) (by simp) (by simp <;> omega) (by simp <;> omega) rfl ?_ ?_ ?_ ?_ hnm ?_ (by omega)
        · simp [frIn_cons, frIn_nil, fget_cons, fget_nil, SV.ren, SV.renL, rens]
        · (simp only [frLt_cons, frLt_nil, and_true, SV.lt, SV.ltL, true_and] <;> omega)
        · simp only [ptS, ptC_def]
          (simp only [List.mem_cons, List.not_mem_nil, or_false, forall_eq_or_imp, forall_eq]; simp [hget, rens, Tok.ren, SV.ren, SV.renL])
          try rfl
          all_goals try omega
        · simp only [ptS, ptC_def]
          (simp only [List.mem_cons, List.not_mem_nil, or_false, forall_eq_or_imp, forall_eq, Tok.lt, SV.lt, SV.ltL, and_true, true_and] <;> omega)
        · ((try simp only []); repeat first | exact HLe.refl _ | refine HLe.cons (by simp only [hget, Nat.reduceEqDiff, Nat.left_eq_add, Nat.add_eq_left, nm_ne2, nm_en2, nm_ne3, nm_en3, nm_ne4, nm_en4, nm_ne5, nm_en5, reduceIte, ↓reduceIte] <;> first | rfl | ((repeat rw [if_neg (by omega)]) <;> rfl)) ?_ | refine HLe.skip hnm (by omega) ?_ | refine HLe.frz hnm (by omega) ?_ | refine HLe.del hnm (by omega) ?_)
      · have d2 : decide ((i : Int) + 1 ≤ ask) = false := decide_eq_false ha
        have hw := wantL_out (G := G) ha
        simp (maxSteps := 4000000) only [go_sem, goD_calls, eq_self, implies_true, Int.reduceEq, Int.reduceBEq, Int.reduceBNe, Int.reduceLE, Int.reduceLT, Int.reduceAdd, Int.reduceSub, Int.reduceMul, Int.reduceNeg, Nat.reduceMul, Nat.reduceSub, Nat.reduceLeDiff, Nat.reduceLT, Nat.reduceEqDiff, Nat.reduceAdd, reduceCtorEq, ↓reduceIte, reduceIte, d2, min_i64, max_i64]
        refine ⟨⟨by omega, by omega⟩, ⟨by omega, by omega⟩, fin _ _ (by rw [hw]) ?_⟩
        refine leq_news [(nx, nx), (nx + 1, nx + 4 + 64), (nx + 2, nx + 2), (nx + 3, nx + 3)] [(nx, ptS [] (nx + 1) ((i : Int) + 1) (nx + 2) 0 (sentL G (fun _ => false) i ++ [sent3 ((i : Int) + 1) (G i) false]) 0), (nx + 1, .arr 112 sentT (sentL G (fun _ => false) i ++ [sent3 ((i : Int) + 1) (G i) false])), (nx + 2, .arr 2 (.int .i64) ([0, 0, 0].map D.int)), (nx + 3, .arr 2 (.int .i64) ((wantL G ask i).map D.int))] (.refl _) (by simp) (by simp <;> omega) (by simp <;> omega) rfl ?_ ?_ ?_ ?_ hnm ?_ (by omega)
        · simp [frIn_cons, frIn_nil, fget_cons, fget_nil, SV.ren, SV.renL, rens]
        · (simp only [frLt_cons, frLt_nil, and_true, SV.lt, SV.ltL, true_and] <;> omega)
        · simp only [ptS, ptC_def]
          (simp only [List.mem_cons, List.not_mem_nil, or_false, forall_eq_or_imp, forall_eq]; simp [hget, rens, Tok.ren, SV.ren, SV.renL])
          try rfl
          all_goals try omega
        · simp only [ptS, ptC_def]
          (simp only [List.mem_cons, List.not_mem_nil, or_false, forall_eq_or_imp, forall_eq, Tok.lt, SV.lt, SV.ltL, and_true, true_and] <;> omega)
        · ((try simp only []); repeat first | exact HLe.refl _ | refine HLe.cons (by simp only [hget, Nat.reduceEqDiff, Nat.left_eq_add, Nat.add_eq_left, nm_ne2, nm_en2, nm_ne3, nm_en3, nm_ne4, nm_en4, nm_ne5, nm_en5, reduceIte, ↓reduceIte] <;> first | rfl | ((repeat rw [if_neg (by omega)]) <;> rfl)) ?_ | refine HLe.skip hnm (by omega) ?_ | refine HLe.frz hnm (by omega) ?_ | refine HLe.del hnm (by omega) ?_)
    obtain rfl : i = gl.length := by omega
    have d1 : decide ((gl.length : Int) < (gl.length : Int)) = false := decide_eq_false (by omega)
    have hl := fun g => lastN_sent G (fun _ => false) g ask (i := gl.length) gl.length (Nat.le_refl _)
    obtain ⟨a0, h0⟩ : ∃ x, lastA G 0 ask gl.length = x := ⟨_, rfl⟩
    obtain ⟨a1, h1⟩ : ∃ x, lastA G 1 ask gl.length = x := ⟨_, rfl⟩
    obtain ⟨a2, h2⟩ : ∃ x, lastA G 2 ask gl.length = x := ⟨_, rfl⟩
    have h3 : lastA G 3 ask gl.length = 0 := lastA_none (fun j => by have := hGr j; omega) _
    have hw : (wantL G ask gl.length).map D.int = [.int a0, .int a1, .int a2] := by unfold wantL; rw [h0, h1, h2]; rfl
    have hn40 : gl.length ≤ 1000000 := by omega
    have q0 : (a0 == a0) = true := beq_self_eq_true _
    have q1 : (a1 == a1) = true := beq_self_eq_true _
    have q2 : (a2 == a2) = true := beq_self_eq_true _
    have t0 : Int.toNat 0 = 0 := rfl
    have t1 : Int.toNat 1 = 1 := rfl
    have t2 : Int.toNat 2 = 2 := rfl
    simp (maxSteps := 4000000) only [go_sem, goD_calls, eq_self, implies_true, Int.reduceEq, Int.reduceBEq, Int.reduceBNe, Int.reduceLE, Int.reduceLT, Int.reduceAdd, Int.reduceSub, Int.reduceMul, Int.reduceNeg, Nat.reduceMul, Nat.reduceSub, Nat.reduceLeDiff, Nat.reduceLT, Nat.reduceEqDiff, Nat.reduceAdd, reduceCtorEq, ↓reduceIte, reduceIte, d1, spPLastO, spPVDL, ptS, ptC_def, pOk_c, sOk_c, iOk_c, pS_c, pU_c, pA_c, pV_c, pK_c, aL_c, pC_c, pD_c, sentL_len, hl, hw, h0, h1, h2, h3, hn40, q0, q1, q2, t0, t1, t2, vdA]
    exact ⟨by decide, by decide, by decide, by decide, by decide, by decide, ret _ _ (by ((try simp only []); repeat first | exact HLe.refl _ | refine HLe.cons (by simp only [hget, Nat.reduceEqDiff, Nat.left_eq_add, Nat.add_eq_left, nm_ne2, nm_en2, nm_ne3, nm_en3, nm_ne4, nm_en4, nm_ne5, nm_en5, reduceIte, ↓reduceIte] <;> first | rfl | ((repeat rw [if_neg (by omega)]) <;> rfl)) ?_ | refine HLe.skip hnm (by omega) ?_ | refine HLe.frz hnm (by omega) ?_ | refine HLe.del hnm (by omega) ?_))⟩
  · exact hsp.elim
end Go.Proofs.YtmjenjccinfbaaaDoor
