/- Chapter 14: TrackMembers. -/
import Derived.Test.YtkojpimkngmckaaDoorTrkM
import Derived.Test.YtkojpimkngmckaaDoorTrkK
import Derived.Test.YtkojpimkngmckaaDoorNum
import Derived.Test.YtkojpimkngmckaaDoorConfZ
import Derived.Test.YtkojpimkngmckaaDoorConfQ
import Derived.Test.YtkojpimkngmckaaDoorTrkP
namespace Go.Proofs.YtkojpimkngmckaaDoor
set_option linter.unusedVariables false
set_option linter.unusedSimpArgs false
open Go Go.Fw
attribute [local go_sem] walkSet evMdl evMupD evMup evLkp frpL preF preP prePt prePd frzP evNlq ev frOf oget ogets argSs argS evMm frzL evBin evWrp evShf evCmp evUna evNil evBeq evLd evSt evFad evIad evAad evLen evSln evEls evApp evParts evSlc evNlc evMif evPck evFld evBld evTas evIfq evSeq evSl0 evBxf evAgl evAgq evBsf hget hset hdel cellAt arrAt setCellAt setArrAt takeC lenC svCells SV.okc SV.one ldSV Fw.isAgg explode explodeL toD toDL toD1 Ty.size Ty.sizeL frz1 Fr.sub Heap.sub Tok.sub SV.sub SV.subL

/-- Six, one of them another one. -/
def rep6 (k : Nat) (y : Int) : List D := (sixL 0).set k (.int y)
theorem rep_idx {x : Int} (h0 : 0 ≤ x) (h1 : x < 6) : (idxI (fun z => x == z) (sixL 0)).toNat = x.toNat ∧ 0 ≤ idxI (fun z => x == z) (sixL 0) := by
  have : x = 0 ∨ x = 1 ∨ x = 2 ∨ x = 3 ∨ x = 4 ∨ x = 5 := by omega
  rcases this with rfl | rfl | rfl | rfl | rfl | rfl <;> exact ⟨rfl, by decide⟩
theorem six_k {k : Nat} (h : k < 6) : k = 0 ∨ k = 1 ∨ k = 2 ∨ k = 3 ∨ k = 4 ∨ k = 5 := by omega
theorem rep_mem {k : Nat} {y v : Int} (hk : k < 6) (hy : 6 ≤ y) : v ∈ (rep6 k y).map D.i ↔ v = y ∨ (0 ≤ v ∧ v < 6 ∧ v ≠ k) := by
  rcases six_k hk with rfl | rfl | rfl | rfl | rfl | rfl <;> simp [rep6, sixL, D.i, List.set] <;> omega
theorem rep_cnt {k : Nat} {y : Int} (hk : k < 6) (f : Int → Option D) (v : Int) : cntL (rep6 k y) f v + (if v ≤ atI f k then 1 else 0) = cnt f v + (if v ≤ atI f y then 1 else 0) := by
  rw [cnt_eq]
  rcases six_k hk with rfl | rfl | rfl | rfl | rfl | rfl <;> simp only [cntL, rep6, sixL, D.i, List.set, List.map_cons, List.map_nil, List.countP_cons, List.countP_nil, decide_eq_true_eq, Int.zero_add, Int.cast_ofNat_Int] <;> omega
theorem seven_mem {k : Nat} {y v : Int} (hk : k < 6) (hy : 6 ≤ y) : v ∈ (joinL (sixL 0) (rep6 k y)).map D.i ↔ v = y ∨ (0 ≤ v ∧ v < 6) := by
  rw [joinL_mem, rep_mem hk hy, sixL_i]
  simp
  omega
theorem seven_cnt {k : Nat} {y : Int} (hk : k < 6) (hy : 6 ≤ y) (f : Int → Option D) (v : Int) : cntL (joinL (sixL 0) (rep6 k y)) f v = (if v ≤ atI f y then 1 else 0) + cnt f v := by
  rw [cntL_perm (R := y :: six0) ((List.perm_ext_iff_of_nodup (joinL_nodup _ _) (by
    refine List.nodup_cons.2 ⟨fun h => ?_, by decide⟩
    unfold six0 at h
    simp at h
    omega)).2 (fun x => by
      rw [seven_mem hk hy]
      unfold six0
      simp
      omega))]
  rw [List.countP_cons]
  unfold cnt
  simp only [decide_eq_true_eq]
  omega
theorem alone_cnt (o : List D) (ho : (o.map D.i).Nodup) (f : Int → Option D) (v : Int) : cntL (joinL o []) f v = cntL o f v := by
  rw [cntL_perm (R := o.map D.i) ((List.perm_ext_iff_of_nodup (joinL_nodup _ _) ho).2 (fun x => by rw [joinL_mem]; simp))]
  rfl
def WTrackMembers : Opts := mkWE 152 [] [0, 1, 2, 3, 4, 5] [] 184 [0, 1, 2, 3, 4, 5] []
def icTrackMembers : IC := (.seq (.seq (.ops [(.u (.mov 6 (.c (.bool false))))]) (.tr [0, 1, 2])) (.seq (.seq (.ops [(.u (.call 15 (.c (.clo 22 [])) [] [] true)), (.u (.mov 7 (.s 15)))]) (.tr [0, 1, 2, 7])) (.seq (.seq (.seq (.ops [(.u (.mov 16 (.s 7))), (.u (.una 17 .not (.s 16)))]) (.tr [17, 0, 1, 2, 7])) (.cond (.s 17) (.seq (.seq (.ops [(.u (.mov 6 (.c (.bool false))))]) (.tr [6])) .ret) .skip)) (.seq (.seq (.ops [(.u (.mov 18 (.s 0))), (.u (.bin 19 .and .i64 (.s 18) (.c (.int .i64 1023)))), (.u (.bin 20 .add .i64 (.s 19) (.c (.int .i64 1)))), (.u (.mov 0 (.s 20)))]) (.tr [1, 2, 7, 0])) (.seq (.seq (.ops [(.u (.mov 21 (.s 1))), (.u (.call 22 (.c (.clo 25 [])) [(.s 21), (.c (.int .i64 6))] [none, none] true)), (.u (.mov 1 (.s 22)))]) (.tr [2, 7, 1, 0])) (.seq (.seq (.ops [(.u (.mov 23 (.s 2))), (.u (.call 24 (.c (.clo 25 [])) [(.s 23), (.c (.int .i64 40))] [none, none] true)), (.u (.bin 25 .add .i64 (.c (.int .i64 6)) (.s 24))), (.u (.mov 2 (.s 25)))]) (.tr [2, 7, 1, 0])) (.seq (.seq (.ops [(.u (.call 27 (.c (.clo 24 [])) [] [] true)), (.u (.call 28 (.c (.clo 23 [])) [(.s 27)] [none] true)), (.u (.mov 26 (.s 28))), (.u (.ext 29 0 (.s 26))), (.u (.ext 30 1 (.s 26))), (.u (.mov 8 (.s 29))), (.u (.mov 9 (.s 30)))]) (.tr [9, 2, 7, 1, 8, 0])) (.seq (.seq (.seq (.ops [(.u (.mov 31 (.s 8))), (.u (.eqb 32 false 1 (.s 31))), (.u (.mov 33 (.s 32))), (.g 33 false (some 34) (.mov 34 (.s 9))), (.g 33 false (some 35) (.eqb 35 true 0 (.s 34))), (.u (.pck 36 (.s 33) (.c (.bool true)) (.s 35))), (.u (.mov 37 (.s 36))), (.g 37 false (some 38) (.mov 38 (.s 8))), (.g 37 false (some 39) (.mov 39 (.s 2))), (.g 37 false (some 40) (.mov 40 (.s 0))), (.g 37 false (some 41) (.call 41 (.c (.clo 26 [])) [(.s 38), (.s 39), (.c (.int .i64 0)), (.s 40)] [none, none, none, none] true)), (.u (.pck 42 (.s 37) (.c (.bool true)) (.s 41))), (.u (.mov 43 (.s 42))), (.g 43 false (some 44) (.mov 44 (.s 8))), (.g 43 false (some 45) (.mov 45 (.s 0))), (.g 43 false (some 46) (.call 46 (.c (.clo 26 [])) [(.s 44), (.c (.int .i64 0)), (.c (.int .i64 1)), (.s 45)] [none, none, none, none] true)), (.u (.pck 47 (.s 43) (.c (.bool true)) (.s 46))), (.u (.mov 48 (.s 47))), (.g 48 false (some 49) (.mov 49 (.s 8))), (.g 48 false (some 50) (.call 50 (.c (.clo 26 [])) [(.s 49), (.c (.int .i64 0)), (.c (.int .i64 0)), (.c (.int .i64 (-1)))] [none, none, none, none] true)), (.u (.pck 51 (.s 48) (.c (.bool true)) (.s 50))), (.u (.mov 52 (.s 51))), (.g 52 false (some 53) (.mov 53 (.s 8))), (.g 52 false (some 54) (.call 54 (.c (.clo 26 [])) [(.s 53), (.c (.int .i64 0)), (.c (.int .i64 0)), (.c (.int .i64 1099511627777))] [none, none, none, none] true)), (.u (.pck 55 (.s 52) (.c (.bool true)) (.s 54)))]) (.tr [55, 2, 7, 1, 8, 0])) (.cond (.s 55) (.seq (.seq (.ops [(.u (.mov 6 (.c (.bool false))))]) (.tr [6])) .ret) .skip)) (.seq (.seq (.seq (.ops [(.u (.mov 10 (.c (.int .i64 0))))]) (.tr [10, 2, 7, 1, 8, 0])) (.block 0 (.loop (.seq (.seq (.seq (.ops [(.u (.mov 56 (.s 10))), (.u (.cmp 57 .lss (.s 56) (.c (.int .i64 6))))]) (.tr [57, 10, 2, 7, 1, 8, 0])) (.cond (.s 57) .skip (.exit 0))) (.seq (.block 1 (.seq (.ops [(.u (.mov 60 (.s 8))), (.u (.mov 61 (.s 10))), (.u (.mov 62 (.s 0))), (.u (.call 63 (.c (.clo 26 [])) [(.s 60), (.s 61), (.c (.int .i64 0)), (.s 62)] [none, none, none, none] true))]) (.tr [10, 2, 7, 1, 8, 0]))) (.seq (.ops [(.u (.mov 58 (.s 10))), (.u (.bin 59 .add .i64 (.s 58) (.c (.int .i64 1)))), (.u (.mov 10 (.s 59)))]) (.tr [10, 2, 7, 1, 8, 0]))))))) (.seq (.seq (.ops [(.u (.call 65 (.c (.clo 24 [])) [] [] true)), (.u (.mov 66 (.s 1))), (.u (.mov 67 (.s 2))), (.u (.call 68 (.c (.clo 17 [])) [(.s 65), (.s 66), (.s 67)] [none, none, none] true)), (.u (.mov 64 (.s 68))), (.u (.ext 69 0 (.s 64))), (.u (.ext 70 1 (.s 64))), (.u (.alc 11 [(.int .i64 0), .nils, .nils])), (.u (.st (.strct [(.int .i64), (.slice 3), (.slice 3)]) (.s 11) (.s 69))), (.u (.mov 12 (.s 70)))]) (.tr [12, 2, 11, 7, 1, 8, 0])) (.seq (.seq (.seq (.ops [(.u (.mov 71 (.s 12))), (.u (.eqb 72 true 0 (.s 71))), (.u (.mov 73 (.s 72))), (.g 73 false (some 74) (.mov 74 (.s 8))), (.g 73 false (some 75) (.ld 75 (.strct [(.int .i64), (.slice 3), (.slice 3)]) (.s 11))), (.g 73 false (some 76) (.call 76 (.c (.clo 41 [])) [(.s 74), (.s 75)] [none, none] true)), (.g 73 false (some 77) (.eqb 77 true 0 (.s 76))), (.u (.pck 78 (.s 73) (.c (.bool true)) (.s 77))), (.u (.mov 79 (.s 78))), (.g 79 false (some 80) (.mov 80 (.s 8))), (.g 79 false (some 81) (.call 81 (.c (.clo 27 [])) [(.s 80)] [none] true)), (.g 79 false (some 82) (.mov 82 (.s 0))), (.g 79 false (some 83) (.cmp 83 .neq (.s 81) (.s 82))), (.u (.pck 84 (.s 79) (.c (.bool true)) (.s 83))), (.u (.mov 85 (.s 84))), (.g 85 false (some 86) (.mov 86 (.s 8))), (.g 85 false (some 87) (.mov 87 (.s 0))), (.g 85 false (some 88) (.call 88 (.c (.clo 31 [])) [(.s 86), (.s 87)] [none, none] true)), (.g 85 false (some 89) (.len 89 false (.s 88))), (.g 85 false (some 90) (.cmp 90 .neq (.s 89) (.c (.int .i64 6)))), (.u (.pck 91 (.s 85) (.c (.bool true)) (.s 90))), (.u (.mov 92 (.s 91))), (.g 92 false (some 93) (.mov 93 (.s 8))), (.g 92 false (some 94) (.mov 94 (.s 2))), (.g 92 false (some 95) (.mov 95 (.s 0))), (.g 92 false (some 96) (.call 96 (.c (.clo 26 [])) [(.s 93), (.s 94), (.c (.int .i64 0)), (.s 95)] [none, none, none, none] true)), (.g 92 false (some 97) (.una 97 .not (.s 96))), (.u (.pck 98 (.s 92) (.c (.bool true)) (.s 97))), (.u (.mov 99 (.s 98))), (.g 99 false (some 100) (.mov 100 (.s 8))), (.g 99 false (some 101) (.mov 101 (.s 0))), (.g 99 false (some 102) (.call 102 (.c (.clo 31 [])) [(.s 100), (.s 101)] [none, none] true)), (.g 99 false (some 103) (.len 103 false (.s 102))), (.g 99 false (some 104) (.cmp 104 .neq (.s 103) (.c (.int .i64 7)))), (.u (.pck 105 (.s 99) (.c (.bool true)) (.s 104)))]) (.tr [105, 11, 7, 1, 8, 0])) (.cond (.s 105) (.seq (.seq (.ops [(.u (.mov 6 (.c (.bool false))))]) (.tr [6])) .ret) .skip)) (.seq (.seq (.ops [(.u (.ld 107 (.strct [(.int .i64), (.slice 3), (.slice 3)]) (.s 11))), (.u (.call 108 (.c (.clo 47 [])) [(.s 107)] [none] true)), (.u (.mov 106 (.s 108))), (.u (.ext 109 0 (.s 106))), (.u (.ext 110 1 (.s 106))), (.u (.alc 13 [(.int .i64 0), .nils, .nils])), (.u (.st (.strct [(.int .i64), (.slice 3), (.slice 3)]) (.s 13) (.s 109))), (.u (.mov 14 (.s 110)))]) (.tr [14, 7, 1, 8, 0, 13])) (.seq (.seq (.seq (.ops [(.u (.mov 111 (.s 14))), (.u (.eqb 112 true 0 (.s 111))), (.u (.mov 113 (.s 112))), (.g 113 false (some 114) (.mov 114 (.s 8))), (.g 113 false (some 115) (.ld 115 (.strct [(.int .i64), (.slice 3), (.slice 3)]) (.s 13))), (.g 113 false (some 116) (.call 116 (.c (.clo 41 [])) [(.s 114), (.s 115)] [none, none] true)), (.g 113 false (some 117) (.eqb 117 true 0 (.s 116))), (.u (.pck 118 (.s 113) (.c (.bool true)) (.s 117))), (.u (.mov 119 (.s 118))), (.g 119 false (some 120) (.mov 120 (.s 8))), (.g 119 false (some 121) (.mov 121 (.s 1))), (.g 119 false (some 122) (.mov 122 (.s 0))), (.g 119 false (some 123) (.call 123 (.c (.clo 26 [])) [(.s 120), (.s 121), (.c (.int .i64 0)), (.s 122)] [none, none, none, none] true)), (.u (.pck 124 (.s 119) (.c (.bool true)) (.s 123)))]) (.tr [124, 7, 1, 8, 0, 13])) (.cond (.s 124) (.seq (.seq (.ops [(.u (.mov 6 (.c (.bool false))))]) (.tr [6])) .ret) .skip)) (.seq (.seq (.ops [(.u (.mov 125 (.s 7))), (.u (.mov 126 (.s 125))), (.g 126 true (some 127) (.mov 127 (.s 8))), (.g 126 true (some 128) (.call 128 (.c (.clo 27 [])) [(.s 127)] [none] true)), (.g 126 true (some 129) (.mov 129 (.s 0))), (.g 126 true (some 130) (.cmp 130 .eql (.s 128) (.s 129))), (.u (.pck 131 (.s 126) (.s 130) (.c (.bool false)))), (.u (.mov 132 (.s 131))), (.g 132 true (some 133) (.mov 133 (.s 8))), (.g 132 true (some 134) (.mov 134 (.s 0))), (.g 132 true (some 135) (.call 135 (.c (.clo 31 [])) [(.s 133), (.s 134)] [none, none] true)), (.g 132 true (some 136) (.mov 136 (.s 1))), (.g 132 true (some 137) (.call 137 (.c (.clo 53 [])) [(.s 135), (.s 136)] [(some 3), none] true)), (.g 132 true (some 138) (.una 138 .not (.s 137))), (.u (.pck 139 (.s 132) (.s 138) (.c (.bool false)))), (.u (.mov 140 (.s 139))), (.g 140 true (some 141) (.mov 141 (.s 8))), (.g 140 true (some 142) (.mov 142 (.s 0))), (.g 140 true (some 143) (.call 143 (.c (.clo 31 [])) [(.s 141), (.s 142)] [none, none] true)), (.g 140 true (some 144) (.len 144 false (.s 143))), (.g 140 true (some 145) (.cmp 145 .eql (.s 144) (.c (.int .i64 6)))), (.u (.pck 146 (.s 140) (.s 145) (.c (.bool false)))), (.u (.mov 147 (.s 146))), (.g 147 true (some 148) (.ld 148 (.strct [(.int .i64), (.slice 3), (.slice 3)]) (.s 13))), (.g 147 true (some 149) (.call 149 (.c (.clo 34 [])) [(.s 148)] [none] true)), (.g 147 true (some 150) (.cmp 150 .eql (.s 149) (.c (.int .i64 0)))), (.u (.pck 151 (.s 147) (.s 150) (.c (.bool false)))), (.u (.mov 6 (.s 151)))]) (.tr [6])) .ret))))))))))))))
def rsTrackMembers : List RV := [(.t 6)]
theorem irTrackMembers : fnIR Tryd.prog WTrackMembers 11 = some (icTrackMembers, rsTrackMembers) := by kernel_rfl
def spTrackMembers : FSpec := fun args h nx K => match args with
  | [.int .i64 n, .int .i64 x, .int .i64 y] => K (.bool true) h
  | _ => False
set_option maxHeartbeats 4000000 in
set_option maxRecDepth 8000 in
theorem vTrackMembers {E : Nat → Value} (hE : Errs2 Tryd.prog (some 184) E) : Valid Tryd.prog E (gs GTL) 11 spTrackMembers := by
  refine valid_go (W := WTrackMembers) hE ((((((((((((allValid_bot.add (up (vL14first hE))).add (up (vNumber hE))).add (up (vL14six hE))).add (up (vTNew hE))).add (up (vTAck hE))).add (up (vCBegin hE))).add (up (vTChange hE))).add (up (vTPgcl hE))).add (up (vTHas hE))).add (up (vCCommit hE))).add (up (vRAmong hE))).add (up (vR6Valid hE))) irTrackMembers (by decide) (fun args h nx K hsp hok hnm => ?_)
  unfold spTrackMembers at hsp
  split at hsp
  · rename_i n0 x0 y0
    have hK := hsp
    refine ⟨by simp [WTrackMembers, mkW, mkWE, mkWF], fun Q hQ => ?_⟩
    have hs6 : (sixL 0).length ≤ 1000 := by decide
    have hp6 := p6_ok
    have ret : ∀ h' nx', HLe h h' → Q Ex.ret ⟨[(6, .bool true)], h', nx'⟩ := fun h' nx' hh => by
      refine (hQ _ ?_).1
      exact fin_t (.bool true) rfl rfl hnm hh hK
    obtain ⟨n', hn0⟩ : ∃ x, n0 % 1024 = x := ⟨_, rfl⟩
    obtain ⟨x, hx0⟩ : ∃ x, x0 % 6 = x := ⟨_, rfl⟩
    obtain ⟨y', hy0⟩ : ∃ x, y0 % 40 = x := ⟨_, rfl⟩
    have rw3 : 0 ≤ n' ∧ n' < 1024 := by rw [← hn0]; exact ⟨Int.emod_nonneg _ (by decide), Int.emod_lt_of_pos _ (by decide)⟩
    have rwx : 0 ≤ x ∧ x < 6 := by rw [← hx0]; exact ⟨Int.emod_nonneg _ (by decide), Int.emod_lt_of_pos _ (by decide)⟩
    have rwy : 0 ≤ y' ∧ y' < 40 := by rw [← hy0]; exact ⟨Int.emod_nonneg _ (by decide), Int.emod_lt_of_pos _ (by decide)⟩
    obtain ⟨n, hn1⟩ : ∃ x, n' + 1 = x := ⟨_, rfl⟩
    obtain ⟨y, hy1⟩ : ∃ x, 6 + y' = x := ⟨_, rfl⟩
    have n1 : 1 ≤ n ∧ n ≤ 1024 := by omega
    have rn : (IntKind.i64.min ≤ n ∧ n ≤ IntKind.i64.max) := ⟨by rw [min_i64]; omega, by rw [max_i64]; omega⟩
    have ry : (IntKind.i64.min ≤ y ∧ y ≤ IntKind.i64.max) := ⟨by rw [min_i64]; omega, by rw [max_i64]; omega⟩
    have g6 : (0 : Int) < 6 := by decide
    have g40 : (0 : Int) < 40 := by decide
    have a1 : ackB (sixL 0) mEmpty y 0 n = false := ack6_no (.inl (by omega))
    have a2 : ackB (sixL 0) mEmpty 0 1 n = false := ack6_no (.inr (.inl (by rw [atI_empty]; decide)))
    have a3 : ackB (sixL 0) mEmpty 0 0 (-1) = false := ack6_no (.inr (.inr (.inl (by decide))))
    have a4 : ackB (sixL 0) mEmpty 0 0 1099511627777 = false := ack6_no (.inr (.inr (.inr (by decide))))
    simp (maxSteps := 4000000) only [icTrackMembers, go_sem, goD_calls, eq_self, implies_true, Int.reduceEq, Int.reduceBEq, Int.reduceBNe, Int.reduceLE, Int.reduceLT, Int.reduceAdd, Int.reduceSub, Int.reduceMul, Int.reduceNeg, Nat.reduceMul, Nat.reduceSub, Nat.reduceLeDiff, Nat.reduceLT, Nat.reduceEqDiff, Nat.reduceAdd, reduceCtorEq, ↓reduceIte, reduceIte, spL14first, and1023, spNumber, g6, g40, hn0, hn1, hx0, hy0, hy1, spL14six, spTNew, cfgA, six_nil, tNew_six, spTAck, spTPgcl, spTScl, spTBorn, spTDrop, spTHas, tOk_c, tA_c, tB_c, tM_c, tP_c, sOk_c, iOk_c, mF_c, hs6, hp6, a1, a2, a3, a4]
    refine ⟨rn, ry, ?_⟩
    refine go_loop (α := { x : Nat × (Int → Option D) // x.1 ≤ 6 ∧ ∀ m, atI x.2 m = if 0 ≤ m ∧ m < x.1 then n else 0 }) (I := fun z => { f := [(10, .int .i64 z.1.1), (2, .int .i64 y), (7, .bool true), (1, .int .i64 x), (8, .ptr nx 0), (0, .int .i64 n)], h := [(nx, tCells (nx + 1) (nx + 2)), (nx + 1, .map 3 2 z.1.2), (nx + 2, .map 3 3 mEmpty)] ++ h, nx := nx + 3 }) (μ := fun x => 6 - x.1.1) _ _ _ ⟨(0, mEmpty), by omega, fun m => by rw [if_neg (by simp only []; omega)]; rfl⟩ ?_ (fun xx B hB => ?_)
    · refine leq_news [(nx, nx + 64 + 64 + 64 + 64), (nx + 1, nx + 64 + 64 + 64 + 64 + 1), (nx + 2, nx + 64 + 64 + 64 + 64 + 2)] [(nx, tCells (nx + 1) (nx + 2)), (nx + 1, .map 3 2 mEmpty), (nx + 2, .map 3 3 mEmpty)] (.refl _) (by simp) (by simp <;> omega) (by simp <;> omega) rfl ?_ ?_ ?_ ?_ hnm ?_ (by omega)
      · simp [frIn_cons, frIn_nil, fget_cons, fget_nil, SV.ren, SV.renL, rens]
      · (simp only [frLt_cons, frLt_nil, and_true, SV.lt, SV.ltL, true_and] <;> omega)
      · simp only [tCells]
        (simp only [List.mem_cons, List.not_mem_nil, or_false, forall_eq_or_imp, forall_eq]; simp [hget, rens, Tok.ren, SV.ren, SV.renL])
      · simp only [tCells]
        (simp only [List.mem_cons, List.not_mem_nil, or_false, forall_eq_or_imp, forall_eq, Tok.lt, SV.lt, SV.ltL, and_true, true_and] <;> omega)
      · ((try simp only []); repeat first | exact HLe.refl _ | refine HLe.cons (by simp only [hget, Nat.reduceEqDiff, Nat.left_eq_add, Nat.add_eq_left, nm_ne2, nm_en2, nm_ne3, nm_en3, nm_ne4, nm_en4, nm_ne5, nm_en5, reduceIte, ↓reduceIte] <;> first | rfl | ((repeat rw [if_neg (by omega)]) <;> rfl)) ?_ | refine HLe.skip hnm (by omega) ?_ | refine HLe.frz hnm (by omega) ?_ | refine HLe.del hnm (by omega) ?_)
    · skip
      obtain ⟨⟨i, f⟩, hi, hf⟩ := xx
      simp only at hi hf hB
      by_cases hil : i < 6
      · have c2 : decide ((i : Int) < 6) = true := decide_eq_true (by omega)
        have ha := ack6 (g := mEmpty) (n := i) (inc := 0) (scl := n) (by omega) (by omega) rfl (by omega) (by omega)
        have hm : max (atI f i) n = n := by rw [hf, if_neg (by omega)]; omega
        simp (maxSteps := 4000000) only [go_sem, goD_calls, eq_self, implies_true, Int.reduceEq, Int.reduceBEq, Int.reduceBNe, Int.reduceLE, Int.reduceLT, Int.reduceAdd, Int.reduceSub, Int.reduceMul, Int.reduceNeg, Nat.reduceMul, Nat.reduceSub, Nat.reduceLeDiff, Nat.reduceLT, Nat.reduceEqDiff, Nat.reduceAdd, reduceCtorEq, ↓reduceIte, reduceIte, c2, tCells, spTAck, spTPgcl, spTScl, spTBorn, spTDrop, spTHas, tOk_c, tA_c, tB_c, tM_c, tP_c, sOk_c, iOk_c, mF_c, hs6, hp6, ha, hm]
        refine ⟨⟨by rw [min_i64]; omega, by rw [max_i64]; omega⟩, ?_⟩
        refine hB _ ⟨(i + 1, mSet f i (.int n)), by simp only []; omega, fun m => ?_⟩ (by simp only []; omega) ?_
        · rw [atI_set, hf]
          simp only []
          by_cases h1 : m = i
          · rw [if_pos h1, if_pos (by omega)]
          · rw [if_neg h1]
            by_cases h2 : 0 ≤ m ∧ m < i
            · rw [if_pos h2, if_pos (by omega)]
            · rw [if_neg h2, if_neg (by omega)]
        · refine leq_id ?_ (by (simp only [frLt_cons, frLt_nil, and_true, SV.lt, SV.ltL, true_and] <;> omega)) (by simp only [tCells]; ((try simp only []); repeat first | exact HLe.refl _ | refine HLe.cons (by simp only [hget, Nat.reduceEqDiff, Nat.left_eq_add, Nat.add_eq_left, nm_ne2, nm_en2, nm_ne3, nm_en3, nm_ne4, nm_en4, nm_ne5, nm_en5, reduceIte, ↓reduceIte] <;> first | rfl | ((repeat rw [if_neg (by omega)]) <;> rfl)) ?_ | refine HLe.skip hnm (by omega) ?_ | refine HLe.frz hnm (by omega) ?_ | refine HLe.del hnm (by omega) ?_)) (by unfold tCells; (repeat first | exact HLt.mono hnm (by simp only [] <;> omega) | refine HLt.cons (by simp only [] <;> omega) (by simp only [Tok.lt, SV.ltL, SV.lt, and_true, true_and] <;> omega) ?_)) (by simp only [] <;> omega)
          simp only [frEq_cons, frEq_nil, frIn_cons, frIn_nil, and_true, fget_cons, Nat.reduceEqDiff, reduceIte, ↓reduceIte, true_and, SV.ren, SV.renL, ren1]
          simp
      · obtain rfl : i = 6 := by omega
        have c2 : decide (((6 : Nat) : Int) < 6) = false := rfl
        have hkx : ((x.toNat : Nat) : Int) = x := Int.toNat_of_nonneg rwx.1
        obtain ⟨k, hk⟩ : ∃ k, x.toNat = k := ⟨_, rfl⟩
        rw [hk] at hkx
        have hk6 : k < 6 := by omega
        have hy6 : 6 ≤ y := by omega
        obtain ⟨r1, r2⟩ := rep_idx rwx.1 rwx.2
        rw [hk] at r1
        have hyA : hasI (sixL 0) y = false := by
          rcases bool_ft (hasI (sixL 0) y) with h | h
          · exact h
          · have := hasI_iff.1 h
            rw [sixL_i] at this
            simp at this
            omega
        have hny : nodeB y = true := by unfold nodeB; simp; omega
        have hb1 : beginE 0 (sixL 0) [] x y = .nil := begin_ok (six0_valid 0 (by decide)) r2 hyA hny (by decide)
        have hb2 : beginR 0 (sixL 0) [] x y = cfgA 1 (sixL 0) (rep6 k y) := by rw [beginR_ok hb1, r1]; rfl
        have hbA : badI (sixL 0) = false := sixL_bad (by decide) (by decide)
        obtain ⟨q1, q2, q3⟩ := replace_ok (k := k) (o := sixL 0) hk6 rfl (six_of (sixL_six 0)).2 hyA
        have hbO : badI (rep6 k y) = false := bad_set hbA hny
        have hst : stepOk (sixL 0) (rep6 k y) := ⟨hbA, sixL_six 0, .inr ⟨hbO, q1, q2⟩⟩
        have hv1 := step_valid hst (e := 1) (by decide)
        have hv2 := step_valid (e := 2) (o := rep6 k y) (n := []) ⟨hbO, q1, .inl rfl⟩ (by decide)
        have hi1 : (validC 1 (sixL 0) (rep6 k y)).isNil = true := by rw [hv1]; rfl
        have hi2 : (validC 2 (rep6 k y) []).isNil = true := by rw [hv2]; rfl
        have hOl : (rep6 k y).length = 6 := by unfold rep6; rw [List.length_set]; rfl
        have hEn : endE 1 (sixL 0) (rep6 k y) = .nil := by
          unfold endE
          rw [if_neg (by rw [hv1]; decide), if_neg (by omega), if_neg (by decide)]
        have hRt : endR 1 (sixL 0) (rep6 k y) true = cfgA 2 (rep6 k y) [] := by unfold endR; rw [hEn, if_pos (show (D.nil).isNil = true from rfl), if_pos rfl]; rfl
        have hn0 : ¬ n ≤ 0 := by omega
        have hall : ∀ v, n < v → ∀ m, ¬ v ≤ atI f m := fun v hv m => by rw [hf]; split <;> omega
        have hcn : cnt f n = 6 := by rw [cnt_eq]; simp [hf]
        have hc0 : ∀ v, n < v → cnt f v = 0 := fun v hv => by rw [cnt_eq]; simp [hall v hv]
        have hay : atI f y = 0 := by rw [hf, if_neg (by omega)]
        have hax : atI f k = n := by rw [hf, if_pos (by omega)]
        have pg1 : pgcl (joinL (sixL 0) (rep6 k y)) (wQ (sixL 0) (rep6 k y) 4).enc f = n := pgC_eq (by omega) (.inr ⟨by rw [six_cntL, hcn]; decide, .inr (by
            have := rep_cnt (y := y) hk6 f n
            rw [hcn, hay, hax, if_pos (Int.le_refl _), if_neg hn0] at this
            omega)⟩) (fun v hv hc => by
          have := hc.1
          rw [six_cntL, hc0 v hv] at this
          omega)
        have l1 : (hasL (joinL (sixL 0) (rep6 k y)) f n).length = 6 := by rw [hasL_len, seven_cnt hk6 hy6, hay, if_neg hn0, hcn]
        have b1 : ackB (joinL (sixL 0) (rep6 k y)) mEmpty y 0 n = true := ackC ((seven_mem hk6 hy6).2 (.inl rfl)) rfl (by omega) (by omega)
        have hmx : max 0 n = n := by omega
        have hf7 : ∀ m, atI (mSet f y (.int n)) m = if m = y then n else if 0 ≤ m ∧ m < 6 then n else 0 := fun m => by rw [atI_set, hf]; rfl
        have hcn7 : cnt (mSet f y (.int n)) n = 6 := by rw [cnt_eq]; simp [hf7] <;> omega
        have hall7 : ∀ v, n < v → ∀ m, ¬ v ≤ atI (mSet f y (.int n)) m := fun v hv m => by rw [hf7]; split <;> (try split) <;> omega
        have l2 : (hasL (joinL (sixL 0) (rep6 k y)) (mSet f y (.int n)) n).length = 7 := by rw [hasL_len, seven_cnt hk6 hy6, hf7, if_pos rfl, if_pos (Int.le_refl _), hcn7]
        have hcO : cntL (rep6 k y) (mSet f y (.int n)) n = 6 := by
          have e1 : atI (mSet f y (.int n)) y = n := by rw [hf7, if_pos rfl]
          have e2 : atI (mSet f y (.int n)) (k : Int) = n := by rw [hf7, if_neg (by omega), if_pos (by omega)]
          have := rep_cnt (y := y) hk6 (mSet f y (.int n)) n
          rw [hcn7, e1, e2] at this
          simp only [Int.le_refl, if_true] at this
          omega
        have hOn : ((rep6 k y).map D.i).Nodup := (six_of q1).2
        have b2 : ackB (joinL (rep6 k y) []) mEmpty x 0 n = false := ackC_no (fun h => by
          rw [joinL_mem] at h
          rcases h with h | h
          · have := (rep_mem hk6 hy6).1 h
            omega
          · simp at h)
        have pg2 : pgcl (joinL (rep6 k y) []) (wQ (rep6 k y) [] 4).enc (mSet f y (.int n)) = n := pgC_eq (by omega) (.inr ⟨by rw [hcO]; decide, .inl rfl⟩) (fun v hv hc => by
          have h1 := hc.1
          unfold cntL at h1
          have : ((rep6 k y).map D.i).countP (fun m => decide (v ≤ atI (mSet f y (.int n)) m)) = 0 := by
            rw [List.countP_eq_zero]
            intro m _
            simp [hall7 v hv m]
          omega)
        have l3 : (hasL (joinL (rep6 k y) []) (mSet f y (.int n)) n).length = 6 := by rw [hasL_len, alone_cnt _ hOn, hcO]
        have am : amI (hasL (joinL (rep6 k y) []) (mSet f y (.int n)) n) x = false := amI_not.2 (fun h => by
          unfold hasL at h
          rw [List.map_map] at h
          obtain ⟨z, hz, e⟩ := List.mem_map.1 h
          have hzm := (List.mem_filter.1 hz).1
          have e2 : z.i = x := e
          have := joinL_mem.1 (List.mem_map.2 ⟨z, hzm, e2⟩)
          rcases this with h | h
          · have := (rep_mem hk6 hy6).1 h
            omega
          · simp at h)
        have m1 : (joinL (sixL 0) (rep6 k y)).length ≤ 1000 := by
          have := joinL_len (sixL 0) (rep6 k y)
          rw [hOl, sixL_len] at this
          omega
        have m2 : (joinL (rep6 k y) []).length ≤ 1000 := by
          have := joinL_len (rep6 k y) []
          rw [hOl] at this
          simp at this
          omega
        have p1 := okD_enc (wQ_ok (k := 4) hi1).1
        have p2 := okD_enc (wQ_ok (k := 4) hi2).1
        have o1 : (rep6 k y).length ≤ 1000 := by omega
        have cv : codeV (validC 2 (rep6 k y) []) = 0 := by rw [hv2]; rfl
        have q1 : (n != n) = false := by simp
        have q2 : (n == n) = true := by simp
        have q3 : (((6 : Nat) : Int) != 6) = false := rfl
        have q4 : (((7 : Nat) : Int) != 7) = false := rfl
        have q5 : (((6 : Nat) : Int) == 6) = true := rfl
        have q6 : ((0 : Int) == 0) = true := rfl
        simp (maxSteps := 4000000) only [go_sem, goD_calls, eq_self, implies_true, Int.reduceEq, Int.reduceBEq, Int.reduceBNe, Int.reduceLE, Int.reduceLT, Int.reduceAdd, Int.reduceSub, Int.reduceMul, Int.reduceNeg, Nat.reduceMul, Nat.reduceSub, Nat.reduceLeDiff, Nat.reduceLT, Nat.reduceEqDiff, Nat.reduceAdd, reduceCtorEq, ↓reduceIte, reduceIte, c2, tCells, spTAck, spTPgcl, spTScl, spTBorn, spTDrop, spTHas, tOk_c, tA_c, tB_c, tM_c, tP_c, sOk_c, iOk_c, mF_c, hs6, hp6, spL14six, cfgA, spCBegin, hb1, hb2, spTChange, t0Ok_d, tNew, hi1, hi2, pg1, l1, b1, hay, hmx, l2, spCCommit, hEn, hRt, b2, pg2, l3, am, spRAmong, spR6Valid, cv, m1, m2, p1, p2, o1, q1, q2, q3, q4, q5, q6]
        exact ret _ _ (by ((try simp only []); repeat first | exact HLe.refl _ | refine HLe.cons (by simp only [hget, Nat.reduceEqDiff, Nat.left_eq_add, Nat.add_eq_left, nm_ne2, nm_en2, nm_ne3, nm_en3, nm_ne4, nm_en4, nm_ne5, nm_en5, reduceIte, ↓reduceIte] <;> first | rfl | ((repeat rw [if_neg (by omega)]) <;> rfl)) ?_ | refine HLe.skip hnm (by omega) ?_ | refine HLe.frz hnm (by omega) ?_ | refine HLe.del hnm (by omega) ?_))
  · exact hsp.elim
end Go.Proofs.YtkojpimkngmckaaDoor
