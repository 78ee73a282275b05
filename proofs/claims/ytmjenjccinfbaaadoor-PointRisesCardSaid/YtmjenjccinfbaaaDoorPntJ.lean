/- Chapter 15: PointRises: the walk. -/
import Derived.Test.YtmjenjccinfbaaaDoorPntK
namespace Go.Proofs.YtmjenjccinfbaaaDoor
set_option linter.unusedVariables false
set_option linter.unusedSimpArgs false
open Go Go.Fw
attribute [local go_sem] walkSet evMdl evMupD evMup evLkp frpL eltP eltV eltK preF preP prePt prePd frzP evNlq ev frOf oget ogets argSs argS evCat evMm frzL evBin evWrp evShf evCmp evUna evNil evBeq evLd evSt evFad evIad evAad evLen evSln evEls evApp evParts evSlc evNlc evMif evPck evFld evBld evTas evIfq evSeq evSl0 evBxf evAgl evAgq evBsf hget hset hdel cellAt arrAt setCellAt setArrAt takeC lenC svCells SV.okc SV.one ldSV Fw.isAgg explode explodeL toD toDL toD1 Ty.size Ty.sizeL frz1 Fr.sub Heap.sub Tok.sub SV.sub SV.subL

theorem zeros_ints : zeros 3 = [0, 0, 0].map D.int := rfl
theorem zeros_le : ∀ k, ((zeros 3).getD k .nil).i ≤ 0
  | 0 => Int.le_refl 0
  | 1 => Int.le_refl 0
  | 2 => Int.le_refl 0
  | k + 3 => Int.le_refl 0
def WPointRises : Opts := mkWE 180 [] [0, 1, 2] [] 171 [0, 1, 2] []
def icPointRises : IC := (.seq (.seq (.ops [(.u (.mov 6 (.c (.bool false))))]) (.tr [2, 1, 0])) (.seq (.seq (.ops [(.u (.call 19 (.c (.clo 15 [])) [] [] true)), (.u (.mov 7 (.s 19)))]) (.tr [7, 2, 1, 0])) (.seq (.seq (.seq (.ops [(.u (.mov 20 (.s 7))), (.u (.una 21 .not (.s 20)))]) (.tr [21, 7, 2, 1, 0])) (.cond (.s 21) (.seq (.seq (.ops [(.u (.mov 6 (.c (.bool false))))]) (.tr [6])) .ret) .skip)) (.seq (.seq (.seq (.ops [(.u (.mov 22 (.s 0))), (.u (.len 23 false (.s 22))), (.u (.cmp 24 .gtr (.s 23) (.c (.int .i64 60)))), (.u (.mov 25 (.s 24))), (.g 25 false (some 26) (.mov 26 (.s 1))), (.g 25 false (some 27) (.len 27 false (.s 26))), (.g 25 false (some 28) (.cmp 28 .gtr (.s 27) (.c (.int .i64 60)))), (.u (.pck 29 (.s 25) (.c (.bool true)) (.s 28))), (.u (.mov 30 (.s 29))), (.g 30 false (some 31) (.mov 31 (.s 2))), (.g 30 false (some 32) (.len 32 false (.s 31))), (.g 30 false (some 33) (.cmp 33 .gtr (.s 32) (.c (.int .i64 100)))), (.u (.pck 34 (.s 30) (.c (.bool true)) (.s 33))), (.u (.mov 35 (.s 34))), (.g 35 false (some 36) (.mov 36 (.s 7))), (.g 35 false (some 37) (.una 37 .not (.s 36))), (.u (.pck 38 (.s 35) (.c (.bool true)) (.s 37)))]) (.tr [38, 7, 2, 1, 0])) (.cond (.s 38) (.seq (.seq (.ops [(.u (.mov 39 (.s 7))), (.u (.mov 6 (.s 39)))]) (.tr [6])) .ret) .skip)) (.seq (.seq (.ops [(.u (.call 41 (.c (.clo 16 [])) [(.c (.int .i64 3)), (.c (.int .i64 0)), (.c .nils)] [none, none, (some 41)] true)), (.u (.mov 40 (.s 41))), (.u (.ext 42 0 (.s 40))), (.u (.ext 43 1 (.s 40))), (.u (.mov 8 (.s 42))), (.u (.mov 9 (.s 43)))]) (.tr [9, 2, 1, 0, 8])) (.seq (.seq (.seq (.ops [(.u (.mov 44 (.s 8))), (.u (.eqb 45 false 1 (.s 44))), (.u (.mov 46 (.s 45))), (.g 46 false (some 47) (.mov 47 (.s 9))), (.g 46 false (some 48) (.eqb 48 true 0 (.s 47))), (.u (.pck 49 (.s 46) (.c (.bool true)) (.s 48)))]) (.tr [49, 2, 1, 0, 8])) (.cond (.s 49) (.seq (.seq (.ops [(.u (.mov 6 (.c (.bool false))))]) (.tr [6])) .ret) .skip)) (.seq (.seq (.seq (.ops [(.u (.mov 10 (.c (.int .i64 0))))]) (.tr [10, 2, 1, 0, 8])) (.block 0 (.loop (.seq (.seq (.seq (.ops [(.u (.mov 50 (.s 10))), (.u (.mov 51 (.s 0))), (.u (.len 52 false (.s 51))), (.u (.cmp 53 .lss (.s 50) (.s 52)))]) (.tr [53, 10, 2, 1, 0, 8])) (.cond (.s 53) .skip (.exit 0))) (.seq (.block 1 (.seq (.seq (.ops [(.u (.mov 56 (.s 8))), (.u (.mov 57 (.s 10))), (.u (.bin 58 .add .i64 (.s 57) (.c (.int .i64 1)))), (.u (.mov 59 (.s 0))), (.u (.mov 60 (.s 10))), (.u (.iad 61 3 (.int .i64) (.s 59) (.s 60))), (.u (.ld 62 (.int .i64) (.s 61))), (.u (.call 63 (.c (.clo 18 [])) [(.s 62), (.c (.int .i64 3))] [none, none] true)), (.u (.mov 64 (.s 10))), (.u (.mov 65 (.s 1))), (.u (.len 66 false (.s 65))), (.u (.cmp 67 .lss (.s 64) (.s 66))), (.u (.mov 68 (.s 67))), (.g 68 true (some 69) (.mov 69 (.s 1))), (.g 68 true (some 70) (.mov 70 (.s 10))), (.g 68 true (some 71) (.iad 71 4 .bool (.s 69) (.s 70))), (.g 68 true (some 72) (.ld 72 .bool (.s 71))), (.u (.pck 73 (.s 68) (.s 72) (.c (.bool false)))), (.u (.bld 74 [[(.int .i64 0)], [(.int .i64 0)], [(.int .i64 0)], [(.int .i64 0)], [(.int .i64 0)], [(.int .i64 0)], [(.int .i64 0)], [.nils], [.nils], [(.bool false)]] [(0, (.s 58)), (3, (.s 63)), (9, (.s 73))])), (.u (.call 75 (.c (.clo 17 [])) [(.s 56), (.s 74)] [none, none] true)), (.u (.eqb 76 true 0 (.s 75)))]) (.tr [76, 10, 2, 1, 0, 8])) (.cond (.s 76) (.seq (.seq (.ops [(.u (.mov 6 (.c (.bool false))))]) (.tr [6])) .ret) .skip))) (.seq (.ops [(.u (.mov 54 (.s 10))), (.u (.bin 55 .add .i64 (.s 54) (.c (.int .i64 1)))), (.u (.mov 10 (.s 55)))]) (.tr [10, 2, 1, 0, 8]))))))) (.seq (.seq (.ops [(.u (.bsl 77 2 (.int .i64) [(.c (.int .i64 0)), (.c (.int .i64 0)), (.c (.int .i64 0))])), (.u (.mov 11 (.s 77)))]) (.tr [2, 11, 1, 0, 8])) (.seq (.seq (.ops [(.u (.mov 12 (.c (.int .i64 0))))]) (.tr [2, 11, 12, 1, 0, 8])) (.seq (.seq (.ops [(.u (.mov 13 (.c (.int .i64 0))))]) (.tr [2, 11, 12, 13, 1, 0, 8])) (.seq (.seq (.seq (.ops [(.u (.mov 14 (.c (.int .i64 0))))]) (.tr [2, 11, 12, 13, 1, 0, 8, 14])) (.block 2 (.loop (.seq (.seq (.seq (.ops [(.u (.mov 78 (.s 14))), (.u (.mov 79 (.s 2))), (.u (.len 80 false (.s 79))), (.u (.cmp 81 .lss (.s 78) (.s 80)))]) (.tr [81, 14, 2, 11, 12, 13, 1, 0, 8])) (.cond (.s 81) .skip (.exit 2))) (.seq (.block 3 (.seq (.seq (.ops [(.u (.mov 84 (.s 2))), (.u (.mov 85 (.s 14))), (.u (.iad 86 3 (.int .i64) (.s 84) (.s 85))), (.u (.ld 87 (.int .i64) (.s 86))), (.u (.call 88 (.c (.clo 18 [])) [(.s 87), (.c (.int .i64 3))] [none, none] true)), (.u (.mov 15 (.s 88)))]) (.tr [15, 14, 2, 11, 12, 13, 1, 0, 8])) (.seq (.seq (.ops [(.u (.mov 89 (.s 2))), (.u (.mov 90 (.s 14))), (.u (.iad 91 3 (.int .i64) (.s 89) (.s 90))), (.u (.ld 92 (.int .i64) (.s 91))), (.u (.bin 93 .quo .i64 (.s 92) (.c (.int .i64 3)))), (.u (.call 94 (.c (.clo 18 [])) [(.s 93), (.c (.int .i64 70))] [none, none] true)), (.u (.mov 16 (.s 94)))]) (.tr [15, 16, 14, 2, 11, 12, 13, 1, 0, 8])) (.seq (.seq (.ops [(.u (.mov 95 (.s 8))), (.u (.mov 96 (.s 15))), (.u (.mov 97 (.s 16))), (.u (.call 98 (.c (.clo 19 [])) [(.s 95), (.s 96), (.s 97)] [none, none, none] true))]) (.tr [15, 16, 14, 2, 11, 12, 13, 1, 0, 8])) (.seq (.seq (.ops [(.u (.mov 99 (.s 11))), (.u (.mov 100 (.s 15))), (.u (.mov 101 (.s 11))), (.u (.mov 102 (.s 15))), (.u (.iad 103 2 (.int .i64) (.s 101) (.s 102))), (.u (.ld 104 (.int .i64) (.s 103))), (.u (.mov 105 (.s 16))), (.u (.mmx 106 true [(.s 104), (.s 105)])), (.u (.iad 107 2 (.int .i64) (.s 99) (.s 100))), (.u (.st (.int .i64) (.s 107) (.s 106)))]) (.tr [14, 2, 11, 12, 13, 1, 0, 8])) (.seq (.seq (.ops [(.u (.mov 17 (.c (.int .i64 0))))]) (.tr [17, 14, 2, 11, 12, 13, 1, 0, 8])) (.seq (.block 4 (.loop (.seq (.seq (.seq (.ops [(.u (.mov 108 (.s 17))), (.u (.mov 109 (.s 0))), (.u (.len 110 false (.s 109))), (.u (.cmp 111 .lss (.s 108) (.s 110))), (.u (.mov 112 (.s 111))), (.g 112 true (some 113) (.mov 113 (.s 17))), (.g 112 true (some 114) (.bin 114 .add .i64 (.s 113) (.c (.int .i64 1)))), (.g 112 true (some 115) (.mov 115 (.s 11))), (.g 112 true (some 116) (.mov 116 (.s 0))), (.g 112 true (some 117) (.mov 117 (.s 17))), (.g 112 true (some 118) (.iad 118 3 (.int .i64) (.s 116) (.s 117))), (.g 112 true (some 119) (.ld 119 (.int .i64) (.s 118))), (.g 112 true (some 120) (.call 120 (.c (.clo 18 [])) [(.s 119), (.c (.int .i64 3))] [none, none] true)), (.g 112 true (some 121) (.iad 121 2 (.int .i64) (.s 115) (.s 120))), (.g 112 true (some 122) (.ld 122 (.int .i64) (.s 121))), (.g 112 true (some 123) (.cmp 123 .leq (.s 114) (.s 122))), (.u (.pck 124 (.s 112) (.s 123) (.c (.bool false))))]) (.tr [124, 17, 14, 2, 11, 12, 13, 1, 0, 8])) (.cond (.s 124) .skip (.exit 4))) (.block 5 (.seq (.ops [(.u (.mov 125 (.s 17))), (.u (.bin 126 .add .i64 (.s 125) (.c (.int .i64 1)))), (.u (.mov 17 (.s 126)))]) (.tr [17, 14, 2, 11, 12, 13, 1, 0, 8])))))) (.seq (.seq (.ops [(.u (.mov 127 (.s 8))), (.u (.call 128 (.c (.clo 20 [])) [(.s 127)] [none] true)), (.u (.mov 18 (.s 128)))]) (.tr [12, 13, 17, 18, 14, 2, 11, 1, 0, 8])) (.seq (.seq (.seq (.ops [(.u (.mov 129 (.s 8))), (.u (.call 130 (.c (.clo 21 [])) [(.s 129)] [none] true)), (.u (.mov 131 (.s 17))), (.u (.cmp 132 .neq (.s 130) (.s 131))), (.u (.mov 133 (.s 132))), (.g 133 false (some 134) (.mov 134 (.s 8))), (.g 133 false (some 135) (.call 135 (.c (.clo 21 [])) [(.s 134)] [none] true)), (.g 133 false (some 136) (.mov 136 (.s 12))), (.g 133 false (some 137) (.cmp 137 .lss (.s 135) (.s 136))), (.u (.pck 138 (.s 133) (.c (.bool true)) (.s 137))), (.u (.mov 139 (.s 138))), (.g 139 false (some 140) (.mov 140 (.s 18))), (.g 139 false (some 141) (.mov 141 (.s 13))), (.g 139 false (some 142) (.cmp 142 .lss (.s 140) (.s 141))), (.u (.pck 143 (.s 139) (.c (.bool true)) (.s 142))), (.u (.mov 144 (.s 143))), (.g 144 false (some 145) (.mov 145 (.s 18))), (.g 144 false (some 146) (.mov 146 (.s 8))), (.g 144 false (some 147) (.call 147 (.c (.clo 21 [])) [(.s 146)] [none] true)), (.g 144 false (some 148) (.cmp 148 .gtr (.s 145) (.s 147))), (.u (.pck 149 (.s 144) (.c (.bool true)) (.s 148))), (.u (.mov 150 (.s 149))), (.g 150 false (some 151) (.mov 151 (.s 18))), (.g 150 false (some 152) (.cmp 152 .gtr (.s 151) (.c (.int .i64 0)))), (.g 150 false (some 153) (.mov 153 (.s 152))), (.g 153 true (some 154) (.mov 154 (.s 18))), (.g 153 true (some 155) (.mov 155 (.s 1))), (.g 153 true (some 156) (.len 156 false (.s 155))), (.g 153 true (some 157) (.cmp 157 .gtr (.s 154) (.s 156))), (.g 153 true (some 158) (.mov 158 (.s 157))), (.g 158 false (some 159) (.mov 159 (.s 1))), (.g 158 false (some 160) (.mov 160 (.s 18))), (.g 158 false (some 161) (.bin 161 .sub .i64 (.s 160) (.c (.int .i64 1)))), (.g 158 false (some 162) (.iad 162 4 .bool (.s 159) (.s 161))), (.g 158 false (some 163) (.ld 163 .bool (.s 162))), (.g 158 false (some 164) (.una 164 .not (.s 163))), (.g 153 true (some 165) (.pck 165 (.s 158) (.c (.bool true)) (.s 164))), (.g 150 false (some 166) (.pck 166 (.s 153) (.s 165) (.c (.bool false)))), (.u (.pck 167 (.s 150) (.c (.bool true)) (.s 166))), (.u (.mov 168 (.s 167))), (.g 168 false (some 169) (.mov 169 (.s 8))), (.g 168 false (some 170) (.call 170 (.c (.clo 22 [])) [(.s 169)] [none] true)), (.g 168 false (some 171) (.mov 171 (.s 0))), (.g 168 false (some 172) (.len 172 false (.s 171))), (.g 168 false (some 173) (.mov 173 (.s 17))), (.g 168 false (some 174) (.bin 174 .sub .i64 (.s 172) (.s 173))), (.g 168 false (some 175) (.cmp 175 .neq (.s 170) (.s 174))), (.u (.pck 176 (.s 168) (.c (.bool true)) (.s 175)))]) (.tr [176, 18, 14, 2, 11, 1, 0, 8])) (.cond (.s 176) (.seq (.seq (.ops [(.u (.mov 6 (.c (.bool false))))]) (.tr [6])) .ret) .skip)) (.seq (.seq (.ops [(.u (.mov 177 (.s 8))), (.u (.call 178 (.c (.clo 21 [])) [(.s 177)] [none] true)), (.u (.mov 12 (.s 178)))]) (.tr [18, 14, 2, 11, 12, 1, 0, 8])) (.seq (.ops [(.u (.mov 179 (.s 18))), (.u (.mov 13 (.s 179)))]) (.tr [14, 2, 11, 12, 13, 1, 0, 8])))))))))))) (.seq (.ops [(.u (.mov 82 (.s 14))), (.u (.bin 83 .add .i64 (.s 82) (.c (.int .i64 1)))), (.u (.mov 14 (.s 83)))]) (.tr [2, 11, 12, 13, 1, 0, 8, 14]))))))) (.seq (.seq (.ops [(.u (.mov 6 (.c (.bool true))))]) (.tr [6])) .ret))))))))))))
def rsPointRises : List RV := [(.t 6)]
theorem irPointRises : fnIR Tryd.prog WPointRises 3 = some (icPointRises, rsPointRises) := by kernel_rfl
def spPointRises : FSpec := fun args h nx K => match args with
  | [.dat (.slice t1) gs, .dat (.slice t2) ls, .dat (.slice t3) ss] => t1 = 3 ∧ t2 = 4 ∧ t3 = 3 ∧ K (.bool true) h
  | _ => False
set_option maxHeartbeats 4000000 in
set_option maxRecDepth 8000 in
theorem vPointRises {E : Nat → Value} (hE : Errs2 Tryd.prog (some 171) E) : Valid Tryd.prog E (gs GPS) 3 spPointRises := by
  refine valid_go (W := WPointRises) hE ((((((((allValid_bot.add (up (vFirst15 hE))).add (up (vPNew hE))).add (up (vPSent hE))).add (up (vPVDL hE))).add (up (vPSafe hE))).add (up (vPVCL hE))).add (up (vPLeft hE))).add (up (vNumber hE))) irPointRises (by decide) (fun args h nx K hsp hok hnm => ?_)
  unfold spPointRises at hsp
  split at hsp
  · rename_i t1 gs t2 ls t3 ss
    obtain ⟨rfl, rfl, rfl, hK⟩ := hsp
    refine ⟨by simp [WPointRises, mkW, mkWE, mkWF], fun Q hQ => ?_⟩
    obtain ⟨hd1, hd2, hd3, _⟩ := hok
    simp only [SV.ok] at hd1 hd2 hd3
    obtain ⟨hd11, hd12, hd13⟩ := Wt.slice hd1; generalize gs.l = gl at *; subst hd11
    obtain ⟨hd21, hd22, hd23⟩ := Wt.slice hd2; generalize ls.l = ll at *; subst hd21
    obtain ⟨hd31, hd32, hd33⟩ := Wt.slice hd3; generalize ss.l = sl at *; subst hd31
    have ret : ∀ h' nx', HLe h h' → Q Ex.ret ⟨[(6, .bool true)], h', nx'⟩ := fun h' nx' hh => by
      refine (hQ _ ?_).1
      exact fin_t (.bool true) rfl rfl hnm hh hK
    by_cases l1 : 60 < gl.length
    · have c1 : decide (60 < (gl.length : Int)) = true := decide_eq_true (by omega)
      simp (maxSteps := 4000000) only [icPointRises, go_sem, goD_calls, eq_self, implies_true, Int.reduceEq, Int.reduceBEq, Int.reduceBNe, Int.reduceLE, Int.reduceLT, Int.reduceAdd, Int.reduceSub, Int.reduceMul, Int.reduceNeg, Nat.reduceMul, Nat.reduceSub, Nat.reduceLeDiff, Nat.reduceLT, Nat.reduceEqDiff, Nat.reduceAdd, reduceCtorEq, ↓reduceIte, reduceIte, spFirst15, c1]
      exact ret _ _ (by ((try simp only []); repeat first | exact HLe.refl _ | refine HLe.cons (by simp only [hget, Nat.reduceEqDiff, Nat.left_eq_add, Nat.add_eq_left, nm_ne2, nm_en2, nm_ne3, nm_en3, nm_ne4, nm_en4, nm_ne5, nm_en5, reduceIte, ↓reduceIte] <;> first | rfl | ((repeat rw [if_neg (by omega)]) <;> rfl)) ?_ | refine HLe.skip hnm (by omega) ?_ | refine HLe.frz hnm (by omega) ?_ | refine HLe.del hnm (by omega) ?_))
    by_cases l2 : 60 < ll.length
    · have c1 : decide (60 < (gl.length : Int)) = false := decide_eq_false (by omega)
      have c2 : decide (60 < (ll.length : Int)) = true := decide_eq_true (by omega)
      simp (maxSteps := 4000000) only [icPointRises, go_sem, goD_calls, eq_self, implies_true, Int.reduceEq, Int.reduceBEq, Int.reduceBNe, Int.reduceLE, Int.reduceLT, Int.reduceAdd, Int.reduceSub, Int.reduceMul, Int.reduceNeg, Nat.reduceMul, Nat.reduceSub, Nat.reduceLeDiff, Nat.reduceLT, Nat.reduceEqDiff, Nat.reduceAdd, reduceCtorEq, ↓reduceIte, reduceIte, spFirst15, c1, c2]
      exact ret _ _ (by ((try simp only []); repeat first | exact HLe.refl _ | refine HLe.cons (by simp only [hget, Nat.reduceEqDiff, Nat.left_eq_add, Nat.add_eq_left, nm_ne2, nm_en2, nm_ne3, nm_en3, nm_ne4, nm_en4, nm_ne5, nm_en5, reduceIte, ↓reduceIte] <;> first | rfl | ((repeat rw [if_neg (by omega)]) <;> rfl)) ?_ | refine HLe.skip hnm (by omega) ?_ | refine HLe.frz hnm (by omega) ?_ | refine HLe.del hnm (by omega) ?_))
    by_cases l3 : 100 < sl.length
    · have c1 : decide (60 < (gl.length : Int)) = false := decide_eq_false (by omega)
      have c2 : decide (60 < (ll.length : Int)) = false := decide_eq_false (by omega)
      have c3 : decide (100 < (sl.length : Int)) = true := decide_eq_true (by omega)
      simp (maxSteps := 4000000) only [icPointRises, go_sem, goD_calls, eq_self, implies_true, Int.reduceEq, Int.reduceBEq, Int.reduceBNe, Int.reduceLE, Int.reduceLT, Int.reduceAdd, Int.reduceSub, Int.reduceMul, Int.reduceNeg, Nat.reduceMul, Nat.reduceSub, Nat.reduceLeDiff, Nat.reduceLT, Nat.reduceEqDiff, Nat.reduceAdd, reduceCtorEq, ↓reduceIte, reduceIte, spFirst15, c1, c2, c3]
      exact ret _ _ (by ((try simp only []); repeat first | exact HLe.refl _ | refine HLe.cons (by simp only [hget, Nat.reduceEqDiff, Nat.left_eq_add, Nat.add_eq_left, nm_ne2, nm_en2, nm_ne3, nm_en3, nm_ne4, nm_en4, nm_ne5, nm_en5, reduceIte, ↓reduceIte] <;> first | rfl | ((repeat rw [if_neg (by omega)]) <;> rfl)) ?_ | refine HLe.skip hnm (by omega) ?_ | refine HLe.frz hnm (by omega) ?_ | refine HLe.del hnm (by omega) ?_))
    have c1 : decide (60 < (gl.length : Int)) = false := decide_eq_false (by omega)
    have c2 : decide (60 < (ll.length : Int)) = false := decide_eq_false (by omega)
    have c3 : decide (100 < (sl.length : Int)) = false := decide_eq_false (by omega)
    have g3 : (0 : Int) < 3 := by decide
    obtain ⟨G, hG⟩ : ∃ G : Nat → Int, ∀ j, (gl.getD j .nil).i % 3 = G j := ⟨_, fun _ => rfl⟩
    obtain ⟨B, hB⟩ : ∃ B : Nat → Bool, ∀ j, (decide (j < ll.length) && (ll.getD j .nil).b) = B j := ⟨_, fun _ => rfl⟩
    have hGr : ∀ j, 0 ≤ G j ∧ G j < 3 := fun j => by rw [← hG]; exact ⟨Int.emod_nonneg _ (by omega), Int.emod_lt_of_pos _ g3⟩
    have hz : ∀ i b, B i = b → ∀ n, lookF (sentL G B i ++ [sent3 ((i : Int) + 1) (G i) b]) (zeros 3) n 0 0 0 = (0, 0, 0) := fun i b hb n => by
      have := look_zero G B (zeros 3) zeros_le (i + 1) n
      rw [sentL_step, hb] at this
      exact this
    simp (maxSteps := 4000000) only [icPointRises, go_sem, goD_calls, eq_self, implies_true, Int.reduceEq, Int.reduceBEq, Int.reduceBNe, Int.reduceLE, Int.reduceLT, Int.reduceAdd, Int.reduceSub, Int.reduceMul, Int.reduceNeg, Nat.reduceMul, Nat.reduceSub, Nat.reduceLeDiff, Nat.reduceLT, Nat.reduceEqDiff, Nat.reduceAdd, reduceCtorEq, ↓reduceIte, reduceIte, spFirst15, spPNew, valid_none, ptC_def, c1, c2, c3]
    refine go_loop (α := { i : Nat // i ≤ gl.length }) (I := fun i => { f := [(10, .int .i64 i.1), (2, .dat (.slice 3) (.list sl)), (1, .dat (.slice 4) (.list ll)), (0, .dat (.slice 3) (.list gl)), (8, .ptr nx 0)], h := (nx, ptC [] (nx + 1) i.1 (nx + 2) 0 0 0) :: (nx + 1, .arr 112 sentT (sentL G B i.1)) :: (nx + 2, .arr 2 (.int .i64) (zeros 3)) :: h, nx := nx + 3 }) (μ := fun i => gl.length - i.1) _ _ _ ⟨0, by omega⟩ ?_ (fun i S hS => ?_)
    · refine leq_news [(nx, nx + 64), (nx + 1, nx + 64 + 1), (nx + 2, nx + 64 + 2)] [(nx, ptC [] (nx + 1) 0 (nx + 2) 0 0 0), (nx + 1, .arr 112 sentT (sentL G B 0)), (nx + 2, .arr 2 (.int .i64) (zeros 3))] (.refl _) (by simp) (by simp <;> omega) (by simp <;> omega) rfl ?_ ?_ ?_ ?_ hnm ?_ (by omega)
      · simp [frIn_cons, frIn_nil, fget_cons, fget_nil, SV.ren, SV.renL, rens]
      · (simp only [frLt_cons, frLt_nil, and_true, SV.lt, SV.ltL, true_and] <;> omega)
      · rw [ptC_def]
        (simp only [List.mem_cons, List.not_mem_nil, or_false, forall_eq_or_imp, forall_eq]; simp [hget, rens, Tok.ren, SV.ren, SV.renL])
        try rfl
      · rw [ptC_def]
        (simp only [List.mem_cons, List.not_mem_nil, or_false, forall_eq_or_imp, forall_eq, Tok.lt, SV.lt, SV.ltL, and_true, true_and] <;> omega)
      · ((try simp only []); repeat first | exact HLe.refl _ | refine HLe.cons (by simp only [hget, Nat.reduceEqDiff, Nat.left_eq_add, Nat.add_eq_left, nm_ne2, nm_en2, nm_ne3, nm_en3, nm_ne4, nm_en4, nm_ne5, nm_en5, reduceIte, ↓reduceIte] <;> first | rfl | ((repeat rw [if_neg (by omega)]) <;> rfl)) ?_ | refine HLe.skip hnm (by omega) ?_ | refine HLe.frz hnm (by omega) ?_ | refine HLe.del hnm (by omega) ?_)
    obtain ⟨i, hi⟩ := i
    simp only at hS ⊢
    by_cases hil : i < gl.length
    · have d1 : decide ((i : Int) < (gl.length : Int)) = true := decide_eq_true (by omega)
      have next : ∀ b, B i = b → ∀ S', Leq nx S' { f := [(10, .int .i64 ((i : Int) + 1)), (2, .dat (.slice 3) (.list sl)), (1, .dat (.slice 4) (.list ll)), (0, .dat (.slice 3) (.list gl)), (8, .ptr nx 0)], h := (nx, ptC [] (nx + 1) ((i : Int) + 1) (nx + 2) 0 0 0) :: (nx + 1, .arr 112 sentT (sentL G B i ++ [sent3 ((i : Int) + 1) (G i) b])) :: (nx + 2, .arr 2 (.int .i64) (zeros 3)) :: h, nx := nx + 3 } → S S' := fun b hb S' hl => by
        refine hS S' ⟨i + 1, by omega⟩ (by simp only []; omega) ?_
        simp only []
        rw [sentL_step, hb]
        exact hl
      by_cases hll : i < ll.length
      · have d2 : decide ((i : Int) < (ll.length : Int)) = true := decide_eq_true (by omega)
        have hb := hB i
        rw [decide_eq_true hll, Bool.true_and] at hb
        simp (maxSteps := 4000000) only [go_sem, goD_calls, eq_self, implies_true, Int.reduceEq, Int.reduceBEq, Int.reduceBNe, Int.reduceLE, Int.reduceLT, Int.reduceAdd, Int.reduceSub, Int.reduceMul, Int.reduceNeg, Nat.reduceMul, Nat.reduceSub, Nat.reduceLeDiff, Nat.reduceLT, Nat.reduceEqDiff, Nat.reduceAdd, reduceCtorEq, ↓reduceIte, reduceIte, spNumber, d1, d2, g3, hG, hb, Int.toNat_natCast, min_i64, max_i64]
        refine ⟨⟨by omega, by omega⟩, ⟨by omega, by omega⟩, ⟨by omega, by omega⟩, ?_⟩
        refine sent_of (sp := []) (u := nx + 1) (a := (i : Int)) (v := nx + 2) (k := 0) (c := 0) (d := 0) (l := sentL G B i) (sf := zeros 3) (x := (0, 0, 0)) (by simp [hget, ptC_def]) (by simp [hget]) (by simp [hget]) (by simp) (by rw [sentL_len]; omega) (sentL_gr G B _ i (fun j _ => ⟨(hGr j).1, (hGr j).2⟩)) (none_low ▸ trivial) (by omega) ⟨rfl, rfl⟩ ⟨(hGr i).1, (hGr i).2, by omega, by omega⟩ (by rw [next_none]) ?_ ?_
        · exact hz i _ rfl _
        simp (maxSteps := 4000000) only [go_sem, goD_calls, eq_self, implies_true, Int.reduceEq, Int.reduceBEq, Int.reduceBNe, Int.reduceLE, Int.reduceLT, Int.reduceAdd, Int.reduceSub, Int.reduceMul, Int.reduceNeg, Nat.reduceMul, Nat.reduceSub, Nat.reduceLeDiff, Nat.reduceLT, Nat.reduceEqDiff, Nat.reduceAdd, reduceCtorEq, ↓reduceIte, reduceIte, ptC_def, min_i64, max_i64]
        refine ⟨by omega, next _ rfl _ ?_⟩
        refine leq_news [(nx, nx), (nx + 1, nx + 3 + 64), (nx + 2, nx + 2)] [(nx, ptC [] (nx + 1) ((i : Int) + 1) (nx + 2) 0 0 0), (nx + 1, .arr 112 sentT (sentL G B i ++ [sent3 ((i : Int) + 1) (G i) (B i)])), (nx + 2, .arr 2 (.int .i64) (zeros 3))] (.refl _) (by simp) (by simp <;> omega) (by simp <;> omega) rfl ?_ ?_ ?_ ?_ hnm ?_ (by omega)
        · simp [frIn_cons, frIn_nil, fget_cons, fget_nil, SV.ren, SV.renL, rens]
        · (simp only [frLt_cons, frLt_nil, and_true, SV.lt, SV.ltL, true_and] <;> omega)
        · rw [ptC_def]
          (simp only [List.mem_cons, List.not_mem_nil, or_false, forall_eq_or_imp, forall_eq]; simp [hget, rens, Tok.ren, SV.ren, SV.renL])
          try rfl
          all_goals try omega
        · rw [ptC_def]
          (simp only [List.mem_cons, List.not_mem_nil, or_false, forall_eq_or_imp, forall_eq, Tok.lt, SV.lt, SV.ltL, and_true, true_and] <;> omega)
        · ((try simp only []); repeat first | exact HLe.refl _ | refine HLe.cons (by simp only [hget, Nat.reduceEqDiff, Nat.left_eq_add, Nat.add_eq_left, nm_ne2, nm_en2, nm_ne3, nm_en3, nm_ne4, nm_en4, nm_ne5, nm_en5, reduceIte, ↓reduceIte] <;> first | rfl | ((repeat rw [if_neg (by omega)]) <;> rfl)) ?_ | refine HLe.skip hnm (by omega) ?_ | refine HLe.frz hnm (by omega) ?_ | refine HLe.del hnm (by omega) ?_)
      · have d2 : decide ((i : Int) < (ll.length : Int)) = false := decide_eq_false (by omega)
        have hb := hB i
        rw [decide_eq_false hll, Bool.false_and] at hb
        simp (maxSteps := 4000000) only [go_sem, goD_calls, eq_self, implies_true, Int.reduceEq, Int.reduceBEq, Int.reduceBNe, Int.reduceLE, Int.reduceLT, Int.reduceAdd, Int.reduceSub, Int.reduceMul, Int.reduceNeg, Nat.reduceMul, Nat.reduceSub, Nat.reduceLeDiff, Nat.reduceLT, Nat.reduceEqDiff, Nat.reduceAdd, reduceCtorEq, ↓reduceIte, reduceIte, spNumber, d1, d2, g3, hG, Int.toNat_natCast, min_i64, max_i64]
        refine ⟨⟨by omega, by omega⟩, ⟨by omega, by omega⟩, ?_⟩
        refine sent_of (sp := []) (u := nx + 1) (a := (i : Int)) (v := nx + 2) (k := 0) (c := 0) (d := 0) (l := sentL G B i) (sf := zeros 3) (x := (0, 0, 0)) (by simp [hget, ptC_def]) (by simp [hget]) (by simp [hget]) (by simp) (by rw [sentL_len]; omega) (sentL_gr G B _ i (fun j _ => ⟨(hGr j).1, (hGr j).2⟩)) (none_low ▸ trivial) (by omega) ⟨rfl, rfl⟩ ⟨(hGr i).1, (hGr i).2, by omega, by omega⟩ (by rw [next_none]) ?_ ?_
        · exact hz i _ hb.symm _
        simp (maxSteps := 4000000) only [go_sem, goD_calls, eq_self, implies_true, Int.reduceEq, Int.reduceBEq, Int.reduceBNe, Int.reduceLE, Int.reduceLT, Int.reduceAdd, Int.reduceSub, Int.reduceMul, Int.reduceNeg, Nat.reduceMul, Nat.reduceSub, Nat.reduceLeDiff, Nat.reduceLT, Nat.reduceEqDiff, Nat.reduceAdd, reduceCtorEq, ↓reduceIte, reduceIte, ptC_def, min_i64, max_i64]
        refine ⟨by omega, next _ hb.symm _ ?_⟩
        refine leq_news [(nx, nx), (nx + 1, nx + 3 + 64), (nx + 2, nx + 2)] [(nx, ptC [] (nx + 1) ((i : Int) + 1) (nx + 2) 0 0 0), (nx + 1, .arr 112 sentT (sentL G B i ++ [sent3 ((i : Int) + 1) (G i) false])), (nx + 2, .arr 2 (.int .i64) (zeros 3))] (.refl _) (by simp) (by simp <;> omega) (by simp <;> omega) rfl ?_ ?_ ?_ ?_ hnm ?_ (by omega)
        · simp [frIn_cons, frIn_nil, fget_cons, fget_nil, SV.ren, SV.renL, rens]
        · (simp only [frLt_cons, frLt_nil, and_true, SV.lt, SV.ltL, true_and] <;> omega)
        · rw [ptC_def]
          (simp only [List.mem_cons, List.not_mem_nil, or_false, forall_eq_or_imp, forall_eq]; simp [hget, rens, Tok.ren, SV.ren, SV.renL])
          try rfl
          all_goals try omega
        · rw [ptC_def]
          (simp only [List.mem_cons, List.not_mem_nil, or_false, forall_eq_or_imp, forall_eq, Tok.lt, SV.lt, SV.ltL, and_true, true_and] <;> omega)
        · ((try simp only []); repeat first | exact HLe.refl _ | refine HLe.cons (by simp only [hget, Nat.reduceEqDiff, Nat.left_eq_add, Nat.add_eq_left, nm_ne2, nm_en2, nm_ne3, nm_en3, nm_ne4, nm_en4, nm_ne5, nm_en5, reduceIte, ↓reduceIte] <;> first | rfl | ((repeat rw [if_neg (by omega)]) <;> rfl)) ?_ | refine HLe.skip hnm (by omega) ?_ | refine HLe.frz hnm (by omega) ?_ | refine HLe.del hnm (by omega) ?_)
    obtain rfl : i = gl.length := by omega
    have d1 : decide ((gl.length : Int) < (gl.length : Int)) = false := decide_eq_false (by omega)
    simp (maxSteps := 4000000) only [go_sem, goD_calls, eq_self, implies_true, Int.reduceEq, Int.reduceBEq, Int.reduceBNe, Int.reduceLE, Int.reduceLT, Int.reduceAdd, Int.reduceSub, Int.reduceMul, Int.reduceNeg, Nat.reduceMul, Nat.reduceSub, Nat.reduceLeDiff, Nat.reduceLT, Nat.reduceEqDiff, Nat.reduceAdd, reduceCtorEq, ↓reduceIte, reduceIte, d1]
    have hn60 : gl.length ≤ 60 := by omega
    obtain ⟨n, hn⟩ : ∃ n, gl.length = n := ⟨_, rfl⟩
    have hlen : (sentL G B n).length = n := sentL_len G B n
    have hgr0 : ∀ F : List Int, F.length = 3 → grOk (sentL G B n) (F.map D.int) := fun F hF => sentL_gr G B _ n (fun j _ => by rw [List.length_map, hF]; exact hGr j)
    have hvc : ∀ c, c ≤ n → vcA 0 (sentL G B n) c = c := fun c hc => sentL_vc0 G B hc
    have hvd : ∀ c, c ≤ n → vdA 0 (sentL G B n) c = vdN B c := fun c hc => sentL_vd G B hc
    rw [hn] at hn60 ⊢
    have h00 : isCnt (sentL G B n) ([0, 0, 0].map D.int) 0 := by
      refine ⟨Nat.zero_le _, fun j hj => by omega, ?_⟩
      by_cases e : n = 0
      · exact .inl (by rw [hlen, e])
      · refine .inr (fun hk => ?_)
        rw [sentL_ok G B _ (by omega)] at hk
        have := zeros_le (G 0).toNat
        rw [zeros_ints] at this
        omega
    refine go_loop (α := { x : Nat × List Int × Nat // x.1 ≤ sl.length ∧ x.2.1.length = 3 ∧ isCnt (sentL G B n) (x.2.1.map D.int) x.2.2 }) (I := fun x => { f := [(14, .int .i64 x.1.1), (12, .int .i64 x.1.2.2), (13, .int .i64 (vdN B x.1.2.2)), (11, .vec (nx + 3)), (2, .dat (.slice 3) (.list sl)), (1, .dat (.slice 4) (.list ll)), (0, .dat (.slice 3) (.list gl)), (8, .ptr nx 0)], h := (nx, ptS [] (nx + 1) n (nx + 2) 0 (sentL G B n) x.1.2.2) :: (nx + 1, .arr 112 sentT (sentL G B n)) :: (nx + 2, .arr 2 (.int .i64) (x.1.2.1.map D.int)) :: (nx + 3, .arr 2 (.int .i64) (x.1.2.1.map D.int)) :: h, nx := nx + 4 }) (μ := fun x => sl.length - x.1.1) _ _ _ ⟨(0, [0, 0, 0], 0), Nat.zero_le _, rfl, h00⟩ ?_ (fun x S2 hS2 => ?_)
    · refine leq_id (by simp only [frEq_cons, frEq_nil, frIn_cons, frIn_nil, and_true, fget_cons, Nat.reduceEqDiff, reduceIte, ↓reduceIte, true_and, SV.ren, SV.renL, ren1] <;> (try rfl) <;> (try simp [vdN])) (by (simp only [frLt_cons, frLt_nil, and_true, SV.lt, SV.ltL, true_and] <;> omega)) ?_ ?_ (by simp only [] <;> omega)
      · rw [ptC_def]
        simp only [ptS, ptC_def]
        ((try simp only []); repeat first | exact HLe.refl _ | refine HLe.cons (by simp only [hget, Nat.reduceEqDiff, Nat.left_eq_add, Nat.add_eq_left, nm_ne2, nm_en2, nm_ne3, nm_en3, nm_ne4, nm_en4, nm_ne5, nm_en5, reduceIte, ↓reduceIte] <;> first | rfl | ((repeat rw [if_neg (by omega)]) <;> rfl)) ?_ | refine HLe.skip hnm (by omega) ?_ | refine HLe.frz hnm (by omega) ?_ | refine HLe.del hnm (by omega) ?_)
      · exact .cons (by simp only []; omega) (ptS_lt (by simp only []; omega) (by simp only []; omega)) (by (repeat first | exact HLt.mono hnm (by simp only [] <;> omega) | refine HLt.cons (by simp only [] <;> omega) (by simp only [Tok.lt, SV.ltL, SV.lt, and_true, true_and] <;> omega) ?_))
    obtain ⟨⟨i, F, c⟩, hi2, hF, hc⟩ := x
    simp only at hi2 hF hc hS2 ⊢
    have hcn : c ≤ n := hlen ▸ hc.1
    by_cases hil2 : i < sl.length
    · have f1 : decide ((i : Int) < (sl.length : Int)) = true := decide_eq_true (by omega)
      have hr3 := (Wt.int (hd33 _ (getD_mem hil2))).2
      rw [min_i64, max_i64] at hr3
      obtain ⟨y, hy⟩ : ∃ y, (sl.getD i .nil).i = y := ⟨_, rfl⟩
      rw [hy] at hr3
      obtain ⟨g, hg⟩ : ∃ g, y % 3 = g := ⟨_, rfl⟩
      obtain ⟨N, hN⟩ : ∃ N, y.tdiv 3 % 70 = N := ⟨_, rfl⟩
      have hgg : 0 ≤ g ∧ g < 3 := by rw [← hg]; exact ⟨Int.emod_nonneg _ (by omega), Int.emod_lt_of_pos _ g3⟩
      have g70 : (0 : Int) < 70 := by decide
      obtain ⟨m, hm⟩ := cnt_ex (sentL G B n) ((bump F g N).map D.int)
      have hmn : m ≤ n := hlen ▸ hm.1
      have hcm : c ≤ m := cnt_mono (bump_le F g N) hc hm
      have hF2 : (bump F g N).length = 3 := by rw [bump_len, hF]
      have ht3 : -9223372036854775808 ≤ y.tdiv 3 ∧ y.tdiv 3 ≤ 9223372036854775807 := tdiv_in hr3 (by decide) (by decide) (by decide)
      simp (maxSteps := 4000000) only [go_sem, goD_calls, eq_self, implies_true, Int.reduceEq, Int.reduceBEq, Int.reduceBNe, Int.reduceLE, Int.reduceLT, Int.reduceAdd, Int.reduceSub, Int.reduceMul, Int.reduceNeg, Nat.reduceMul, Nat.reduceSub, Nat.reduceLeDiff, Nat.reduceLT, Nat.reduceEqDiff, Nat.reduceAdd, reduceCtorEq, ↓reduceIte, reduceIte, spNumber, f1, g3, g70, hy, hg, hN, Int.toNat_natCast, min_i64, max_i64]
      refine ⟨⟨by omega, by omega⟩, ⟨by omega, by omega⟩, ⟨by decide, ht3.1, ht3.2⟩, ?_⟩
      refine safe_cnt (by omega) (by omega) (by omega) hc hm (by rw [hlen]; omega) (hgr0 F hF) (by rw [hF]; exact hgg) (fun b => ?_)
      simp (maxSteps := 4000000) only [go_sem, goD_calls, eq_self, implies_true, Int.reduceEq, Int.reduceBEq, Int.reduceBNe, Int.reduceLE, Int.reduceLT, Int.reduceAdd, Int.reduceSub, Int.reduceMul, Int.reduceNeg, Nat.reduceMul, Nat.reduceSub, Nat.reduceLeDiff, Nat.reduceLT, Nat.reduceEqDiff, Nat.reduceAdd, reduceCtorEq, ↓reduceIte, reduceIte, getD_ints, set_ints, bump_def, List.length_map, hF, Int.toNat_natCast, min_i64, max_i64]
      refine ⟨hgg, hgg, hgg, hgg, ?_⟩
      refine go_loop (α := { e : Nat // e ≤ m }) (I := fun e => { f := [(17, .int .i64 e.1), (14, .int .i64 i), (12, .int .i64 c), (13, .int .i64 (vdN B c)), (11, .vec (nx + 3)), (2, .dat (.slice 3) (.list sl)), (1, .dat (.slice 4) (.list ll)), (0, .dat (.slice 3) (.list gl)), (8, .ptr nx 0)], h := (nx, ptS [] (nx + 1) n (nx + 2) 0 (sentL G B n) m) :: (nx + 1, .arr 112 sentT (sentL G B n)) :: (nx + 2, .arr 2 (.int .i64) ((bump F g N).map D.int)) :: (nx + 3, .arr 2 (.int .i64) ((bump F g N).map D.int)) :: h, nx := nx + 4 }) (μ := fun e => m - e.1) _ _ _ ⟨0, by omega⟩ ?_ (fun e S3 hS3 => ?_)
      · refine leq_id (by simp only [frEq_cons, frEq_nil, frIn_cons, frIn_nil, and_true, fget_cons, Nat.reduceEqDiff, reduceIte, ↓reduceIte, true_and, SV.ren, SV.renL, ren1] <;> (try rfl) <;> (try simp)) (by (simp only [frLt_cons, frLt_nil, and_true, SV.lt, SV.ltL, true_and] <;> omega)) (by ((try simp only []); repeat first | exact HLe.refl _ | refine HLe.cons (by simp only [hget, Nat.reduceEqDiff, Nat.left_eq_add, Nat.add_eq_left, nm_ne2, nm_en2, nm_ne3, nm_en3, nm_ne4, nm_en4, nm_ne5, nm_en5, reduceIte, ↓reduceIte] <;> first | rfl | ((repeat rw [if_neg (by omega)]) <;> rfl)) ?_ | refine HLe.skip hnm (by omega) ?_ | refine HLe.frz hnm (by omega) ?_ | refine HLe.del hnm (by omega) ?_)) ?_ (by simp only [] <;> omega)
        exact .cons (by simp only []; omega) (ptS_lt (by simp only []; omega) (by simp only []; omega)) (by (repeat first | exact HLt.mono hnm (by simp only [] <;> omega) | refine HLt.cons (by simp only [] <;> omega) (by simp only [Tok.lt, SV.ltL, SV.lt, and_true, true_and] <;> omega) ?_))
      obtain ⟨e, he⟩ := e
      simp only at hS3 ⊢
      by_cases hem : e < m
      · have w1 : decide ((e : Int) < (n : Int)) = true := decide_eq_true (by omega)
        have hok := (sentL_ok G B _ (by omega : e < n)).1 (hm.2.1 e hem)
        rw [getD_ints] at hok
        have w2 : decide ((e : Int) + 1 ≤ (bump F g N).getD (G e).toNat 0) = true := decide_eq_true hok
        simp (maxSteps := 4000000) only [go_sem, goD_calls, eq_self, implies_true, Int.reduceEq, Int.reduceBEq, Int.reduceBNe, Int.reduceLE, Int.reduceLT, Int.reduceAdd, Int.reduceSub, Int.reduceMul, Int.reduceNeg, Nat.reduceMul, Nat.reduceSub, Nat.reduceLeDiff, Nat.reduceLT, Nat.reduceEqDiff, Nat.reduceAdd, reduceCtorEq, ↓reduceIte, reduceIte, spNumber, g3, hn, hG, getD_ints, List.length_map, hF2, w1, w2, Int.toNat_natCast, min_i64, max_i64]
        repeat refine ⟨by first | omega | exact hGr e, ?_⟩
        refine hS3 _ ⟨e + 1, by omega⟩ (by simp only []; omega) ?_
        refine leq_id (by simp only [frEq_cons, frEq_nil, frIn_cons, frIn_nil, and_true, fget_cons, Nat.reduceEqDiff, reduceIte, ↓reduceIte, true_and, SV.ren, SV.renL, ren1] <;> (try rfl) <;> (try simp)) (by (simp only [frLt_cons, frLt_nil, and_true, SV.lt, SV.ltL, true_and] <;> omega)) (by ((try simp only []); repeat first | exact HLe.refl _ | refine HLe.cons (by simp only [hget, Nat.reduceEqDiff, Nat.left_eq_add, Nat.add_eq_left, nm_ne2, nm_en2, nm_ne3, nm_en3, nm_ne4, nm_en4, nm_ne5, nm_en5, reduceIte, ↓reduceIte] <;> first | rfl | ((repeat rw [if_neg (by omega)]) <;> rfl)) ?_ | refine HLe.skip hnm (by omega) ?_ | refine HLe.frz hnm (by omega) ?_ | refine HLe.del hnm (by omega) ?_)) ?_ (by simp only [] <;> omega)
        exact .cons (by simp only []; omega) (ptS_lt (by simp only []; omega) (by simp only []; omega)) (by (repeat first | exact HLt.mono hnm (by simp only [] <;> omega) | refine HLt.cons (by simp only [] <;> omega) (by simp only [Tok.lt, SV.ltL, SV.lt, and_true, true_and] <;> omega) ?_))
      · obtain rfl : e = m := by omega
        have ept : ptS [] (nx + 1) n (nx + 2) 0 (sentL G B n) e = .cells [.dat (.slice 41) (.list []), .vec (nx + 1), .int .i64 n, .vec (nx + 2), .int .i64 e, .int .i64 e, .int .i64 (vdN B e)] := by
          simp only [ptS, ptC_def, hvc e hmn, hvd e hmn]
        by_cases hen : e < n
        · have w1 : decide ((e : Int) < (n : Int)) = true := decide_eq_true (by omega)
          have hok : ¬ okS (sentL G B n) ((bump F g N).map D.int) e := hm.2.2.resolve_left (by rw [hlen]; omega)
          rw [sentL_ok G B _ hen, getD_ints] at hok
          have w2 : decide ((e : Int) + 1 ≤ (bump F g N).getD (G e).toNat 0) = false := decide_eq_false hok
          have hdm : vdN B e ≤ e := vdN_le B e
          have hcd : vdN B c ≤ vdN B e := vdN_mono B hcm
          have v1 : ((e : Int) != (e : Int)) = false := by rw [bne_eq_false_iff_eq]
          have v2 : decide ((e : Int) < (c : Int)) = false := decide_eq_false (by omega)
          have v3 : decide ((vdN B e : Int) < (vdN B c : Int)) = false := decide_eq_false (by omega)
          have v4 : decide ((e : Int) < (vdN B e : Int)) = false := decide_eq_false (by omega)
          have v5 : ((n : Int) - (e : Int) != (n : Int) - (e : Int)) = false := by rw [bne_eq_false_iff_eq]
          by_cases hd0 : 0 < vdN B e
          · have v6 : decide ((0 : Int) < (vdN B e : Int)) = true := decide_eq_true (by omega)
            have hl := vdN_last B e hd0
            rw [← hB, Bool.and_eq_true, decide_eq_true_eq] at hl
            have v7 : decide ((ll.length : Int) < (vdN B e : Int)) = false := decide_eq_false (by omega)
            have v8 : ((vdN B e : Int) - 1).toNat = vdN B e - 1 := by omega
            have v9 := hl.2
            simp (maxSteps := 4000000) only [go_sem, goD_calls, eq_self, implies_true, Int.reduceEq, Int.reduceBEq, Int.reduceBNe, Int.reduceLE, Int.reduceLT, Int.reduceAdd, Int.reduceSub, Int.reduceMul, Int.reduceNeg, Nat.reduceMul, Nat.reduceSub, Nat.reduceLeDiff, Nat.reduceLT, Nat.reduceEqDiff, Nat.reduceAdd, reduceCtorEq, ↓reduceIte, reduceIte, spNumber, g3, hG, getD_ints, List.length_map, hF2, Int.toNat_natCast, w1, w2, spPVDL, spPVCL, spPLeft, ptS, ptC_def, pOk_c, sOk_c, iOk_c, pS_c, pU_c, pA_c, pV_c, pK_c, aL_c, pC_c, pD_c, hn, hlen, hvc e hmn, hvd e hmn, v1, v2, v3, v4, v5, v6, v7, v8, v9, min_i64, max_i64]
            repeat refine ⟨by first | omega | exact hGr e, ?_⟩
            refine hS2 _ ⟨(i + 1, bump F g N, e), by omega, hF2, hm⟩ (by simp only []; omega) ?_
            refine leq_id (by simp only [frEq_cons, frEq_nil, frIn_cons, frIn_nil, and_true, fget_cons, Nat.reduceEqDiff, reduceIte, ↓reduceIte, true_and, SV.ren, SV.renL, ren1] <;> (try rfl) <;> (try simp)) (by (simp only [frLt_cons, frLt_nil, and_true, SV.lt, SV.ltL, true_and] <;> omega)) (HLe.cons (by simp only [hget, ↓reduceIte, ept]) (by ((try simp only []); repeat first | exact HLe.refl _ | refine HLe.cons (by simp only [hget, Nat.reduceEqDiff, Nat.left_eq_add, Nat.add_eq_left, nm_ne2, nm_en2, nm_ne3, nm_en3, nm_ne4, nm_en4, nm_ne5, nm_en5, reduceIte, ↓reduceIte] <;> first | rfl | ((repeat rw [if_neg (by omega)]) <;> rfl)) ?_ | refine HLe.skip hnm (by omega) ?_ | refine HLe.frz hnm (by omega) ?_ | refine HLe.del hnm (by omega) ?_))) ?_ (by simp only [] <;> omega)
            exact .cons (by simp only []; omega) (ptS_lt (by simp only []; omega) (by simp only []; omega)) (by (repeat first | exact HLt.mono hnm (by simp only [] <;> omega) | refine HLt.cons (by simp only [] <;> omega) (by simp only [Tok.lt, SV.ltL, SV.lt, and_true, true_and] <;> omega) ?_))
          · have v6 : decide ((0 : Int) < (vdN B e : Int)) = false := decide_eq_false (by omega)
            simp (maxSteps := 4000000) only [go_sem, goD_calls, eq_self, implies_true, Int.reduceEq, Int.reduceBEq, Int.reduceBNe, Int.reduceLE, Int.reduceLT, Int.reduceAdd, Int.reduceSub, Int.reduceMul, Int.reduceNeg, Nat.reduceMul, Nat.reduceSub, Nat.reduceLeDiff, Nat.reduceLT, Nat.reduceEqDiff, Nat.reduceAdd, reduceCtorEq, ↓reduceIte, reduceIte, spNumber, g3, hG, getD_ints, List.length_map, hF2, Int.toNat_natCast, w1, w2, spPVDL, spPVCL, spPLeft, ptS, ptC_def, pOk_c, sOk_c, iOk_c, pS_c, pU_c, pA_c, pV_c, pK_c, aL_c, pC_c, pD_c, hn, hlen, hvc e hmn, hvd e hmn, v1, v2, v3, v4, v5, v6, min_i64, max_i64]
            repeat refine ⟨by first | omega | exact hGr e, ?_⟩
            refine hS2 _ ⟨(i + 1, bump F g N, e), by omega, hF2, hm⟩ (by simp only []; omega) ?_
            refine leq_id (by simp only [frEq_cons, frEq_nil, frIn_cons, frIn_nil, and_true, fget_cons, Nat.reduceEqDiff, reduceIte, ↓reduceIte, true_and, SV.ren, SV.renL, ren1] <;> (try rfl) <;> (try simp)) (by (simp only [frLt_cons, frLt_nil, and_true, SV.lt, SV.ltL, true_and] <;> omega)) (HLe.cons (by simp only [hget, ↓reduceIte, ept]) (by ((try simp only []); repeat first | exact HLe.refl _ | refine HLe.cons (by simp only [hget, Nat.reduceEqDiff, Nat.left_eq_add, Nat.add_eq_left, nm_ne2, nm_en2, nm_ne3, nm_en3, nm_ne4, nm_en4, nm_ne5, nm_en5, reduceIte, ↓reduceIte] <;> first | rfl | ((repeat rw [if_neg (by omega)]) <;> rfl)) ?_ | refine HLe.skip hnm (by omega) ?_ | refine HLe.frz hnm (by omega) ?_ | refine HLe.del hnm (by omega) ?_))) ?_ (by simp only [] <;> omega)
            exact .cons (by simp only []; omega) (ptS_lt (by simp only []; omega) (by simp only []; omega)) (by (repeat first | exact HLt.mono hnm (by simp only [] <;> omega) | refine HLt.cons (by simp only [] <;> omega) (by simp only [Tok.lt, SV.ltL, SV.lt, and_true, true_and] <;> omega) ?_))
        · have w1 : decide ((e : Int) < (n : Int)) = false := decide_eq_false (by omega)
          have hdm : vdN B e ≤ e := vdN_le B e
          have hcd : vdN B c ≤ vdN B e := vdN_mono B hcm
          have v1 : ((e : Int) != (e : Int)) = false := by rw [bne_eq_false_iff_eq]
          have v2 : decide ((e : Int) < (c : Int)) = false := decide_eq_false (by omega)
          have v3 : decide ((vdN B e : Int) < (vdN B c : Int)) = false := decide_eq_false (by omega)
          have v4 : decide ((e : Int) < (vdN B e : Int)) = false := decide_eq_false (by omega)
          have v5 : ((n : Int) - (e : Int) != (n : Int) - (e : Int)) = false := by rw [bne_eq_false_iff_eq]
          by_cases hd0 : 0 < vdN B e
          · have v6 : decide ((0 : Int) < (vdN B e : Int)) = true := decide_eq_true (by omega)
            have hl := vdN_last B e hd0
            rw [← hB, Bool.and_eq_true, decide_eq_true_eq] at hl
            have v7 : decide ((ll.length : Int) < (vdN B e : Int)) = false := decide_eq_false (by omega)
            have v8 : ((vdN B e : Int) - 1).toNat = vdN B e - 1 := by omega
            have v9 := hl.2
            simp (maxSteps := 4000000) only [go_sem, goD_calls, eq_self, implies_true, Int.reduceEq, Int.reduceBEq, Int.reduceBNe, Int.reduceLE, Int.reduceLT, Int.reduceAdd, Int.reduceSub, Int.reduceMul, Int.reduceNeg, Nat.reduceMul, Nat.reduceSub, Nat.reduceLeDiff, Nat.reduceLT, Nat.reduceEqDiff, Nat.reduceAdd, reduceCtorEq, ↓reduceIte, reduceIte, w1, spPVDL, spPVCL, spPLeft, ptS, ptC_def, pOk_c, sOk_c, iOk_c, pS_c, pU_c, pA_c, pV_c, pK_c, aL_c, pC_c, pD_c, hn, hlen, hvc e hmn, hvd e hmn, v1, v2, v3, v4, v5, v6, v7, v8, v9, min_i64, max_i64]
            repeat refine ⟨by first | omega | exact hGr e, ?_⟩
            refine hS2 _ ⟨(i + 1, bump F g N, e), by omega, hF2, hm⟩ (by simp only []; omega) ?_
            refine leq_id (by simp only [frEq_cons, frEq_nil, frIn_cons, frIn_nil, and_true, fget_cons, Nat.reduceEqDiff, reduceIte, ↓reduceIte, true_and, SV.ren, SV.renL, ren1] <;> (try rfl) <;> (try simp)) (by (simp only [frLt_cons, frLt_nil, and_true, SV.lt, SV.ltL, true_and] <;> omega)) (HLe.cons (by simp only [hget, ↓reduceIte, ept]) (by ((try simp only []); repeat first | exact HLe.refl _ | refine HLe.cons (by simp only [hget, Nat.reduceEqDiff, Nat.left_eq_add, Nat.add_eq_left, nm_ne2, nm_en2, nm_ne3, nm_en3, nm_ne4, nm_en4, nm_ne5, nm_en5, reduceIte, ↓reduceIte] <;> first | rfl | ((repeat rw [if_neg (by omega)]) <;> rfl)) ?_ | refine HLe.skip hnm (by omega) ?_ | refine HLe.frz hnm (by omega) ?_ | refine HLe.del hnm (by omega) ?_))) ?_ (by simp only [] <;> omega)
            exact .cons (by simp only []; omega) (ptS_lt (by simp only []; omega) (by simp only []; omega)) (by (repeat first | exact HLt.mono hnm (by simp only [] <;> omega) | refine HLt.cons (by simp only [] <;> omega) (by simp only [Tok.lt, SV.ltL, SV.lt, and_true, true_and] <;> omega) ?_))
          · have v6 : decide ((0 : Int) < (vdN B e : Int)) = false := decide_eq_false (by omega)
            simp (maxSteps := 4000000) only [go_sem, goD_calls, eq_self, implies_true, Int.reduceEq, Int.reduceBEq, Int.reduceBNe, Int.reduceLE, Int.reduceLT, Int.reduceAdd, Int.reduceSub, Int.reduceMul, Int.reduceNeg, Nat.reduceMul, Nat.reduceSub, Nat.reduceLeDiff, Nat.reduceLT, Nat.reduceEqDiff, Nat.reduceAdd, reduceCtorEq, ↓reduceIte, reduceIte, w1, spPVDL, spPVCL, spPLeft, ptS, ptC_def, pOk_c, sOk_c, iOk_c, pS_c, pU_c, pA_c, pV_c, pK_c, aL_c, pC_c, pD_c, hn, hlen, hvc e hmn, hvd e hmn, v1, v2, v3, v4, v5, v6, min_i64, max_i64]
            repeat refine ⟨by first | omega | exact hGr e, ?_⟩
            refine hS2 _ ⟨(i + 1, bump F g N, e), by omega, hF2, hm⟩ (by simp only []; omega) ?_
            refine leq_id (by simp only [frEq_cons, frEq_nil, frIn_cons, frIn_nil, and_true, fget_cons, Nat.reduceEqDiff, reduceIte, ↓reduceIte, true_and, SV.ren, SV.renL, ren1] <;> (try rfl) <;> (try simp)) (by (simp only [frLt_cons, frLt_nil, and_true, SV.lt, SV.ltL, true_and] <;> omega)) (HLe.cons (by simp only [hget, ↓reduceIte, ept]) (by ((try simp only []); repeat first | exact HLe.refl _ | refine HLe.cons (by simp only [hget, Nat.reduceEqDiff, Nat.left_eq_add, Nat.add_eq_left, nm_ne2, nm_en2, nm_ne3, nm_en3, nm_ne4, nm_en4, nm_ne5, nm_en5, reduceIte, ↓reduceIte] <;> first | rfl | ((repeat rw [if_neg (by omega)]) <;> rfl)) ?_ | refine HLe.skip hnm (by omega) ?_ | refine HLe.frz hnm (by omega) ?_ | refine HLe.del hnm (by omega) ?_))) ?_ (by simp only [] <;> omega)
            exact .cons (by simp only []; omega) (ptS_lt (by simp only []; omega) (by simp only []; omega)) (by (repeat first | exact HLt.mono hnm (by simp only [] <;> omega) | refine HLt.cons (by simp only [] <;> omega) (by simp only [Tok.lt, SV.ltL, SV.lt, and_true, true_and] <;> omega) ?_))
    obtain rfl : i = sl.length := by omega
    have f1 : decide ((sl.length : Int) < (sl.length : Int)) = false := decide_eq_false (by omega)
    simp (maxSteps := 4000000) only [go_sem, goD_calls, eq_self, implies_true, Int.reduceEq, Int.reduceBEq, Int.reduceBNe, Int.reduceLE, Int.reduceLT, Int.reduceAdd, Int.reduceSub, Int.reduceMul, Int.reduceNeg, Nat.reduceMul, Nat.reduceSub, Nat.reduceLeDiff, Nat.reduceLT, Nat.reduceEqDiff, Nat.reduceAdd, reduceCtorEq, ↓reduceIte, reduceIte, f1]
    exact ret _ _ (by ((try simp only []); repeat first | exact HLe.refl _ | refine HLe.cons (by simp only [hget, Nat.reduceEqDiff, Nat.left_eq_add, Nat.add_eq_left, nm_ne2, nm_en2, nm_ne3, nm_en3, nm_ne4, nm_en4, nm_ne5, nm_en5, reduceIte, ↓reduceIte] <;> first | rfl | ((repeat rw [if_neg (by omega)]) <;> rfl)) ?_ | refine HLe.skip hnm (by omega) ?_ | refine HLe.frz hnm (by omega) ?_ | refine HLe.del hnm (by omega) ?_))
  · exact hsp.elim
end Go.Proofs.YtmjenjccinfbaaaDoor
