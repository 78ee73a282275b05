/- Chapter 14: TrackSafe. -/
import Derived.Test.YtkojpimkngmckaaDoorTrkM
import Derived.Test.YtkojpimkngmckaaDoorTrkK
import Derived.Test.YtkojpimkngmckaaDoorTrkP
namespace Go.Proofs.YtkojpimkngmckaaDoor
set_option linter.unusedVariables false
set_option linter.unusedSimpArgs false
open Go Go.Fw
attribute [local go_sem] walkSet evMdl evMupD evMup evLkp frpL preF preP prePt prePd frzP evNlq ev frOf oget ogets argSs argS evMm frzL evBin evWrp evShf evCmp evUna evNil evBeq evLd evSt evFad evIad evAad evLen evSln evEls evApp evParts evSlc evNlc evMif evPck evFld evBld evTas evIfq evSeq evSl0 evBxf evAgl evAgq evBsf hget hset hdel cellAt arrAt setCellAt setArrAt takeC lenC svCells SV.okc SV.one ldSV Fw.isAgg explode explodeL toD toDL toD1 Ty.size Ty.sizeL frz1 Fr.sub Heap.sub Tok.sub SV.sub SV.subL

def cnt7 (f : Int → Option D) (v : Int) : Nat := cntL sevenD f v
def enS (b : Bool) (f : Int → Option D) (v : Int) : Bool := decide (4 ≤ cnt f v) && (!b || decide (4 ≤ cnt7 f v))
def bestS (b : Bool) (f : Int → Option D) (i : Nat) : Int := (List.range i).foldl (fun a (j : Nat) => if enS b f (atI f j) = true then max a (atI f j) else a) 0
theorem best_step (b : Bool) (f : Int → Option D) (i : Nat) : bestS b f (i + 1) = if enS b f (atI f i) = true then max (bestS b f i) (atI f i) else bestS b f i := by
  unfold bestS
  rw [List.range_succ, List.foldl_append]
  rfl
theorem best_char (b : Bool) (f : Int → Option D) : ∀ i, 0 ≤ bestS b f i ∧ (∀ j, j < i → enS b f (atI f j) = true → atI f j ≤ bestS b f i) ∧ (bestS b f i = 0 ∨ enS b f (bestS b f i) = true)
  | 0 => ⟨Int.le_refl _, fun j hj => absurd hj (by omega), .inl rfl⟩
  | i + 1 => by
    obtain ⟨h1, h2, h3⟩ := best_char b f i
    rw [best_step]
    rcases bool_ft (enS b f (atI f i)) with h | h
    · rw [h, if_neg (by decide)]
      refine ⟨h1, fun j hj hj2 => ?_, h3⟩
      by_cases e : j = i
      · subst e; rw [h] at hj2; cases hj2
      · exact h2 j (by omega) hj2
    · rw [h, if_pos rfl]
      refine ⟨by omega, fun j hj hj2 => ?_, ?_⟩
      · by_cases e : j = i
        · subst e; omega
        · have := h2 j (by omega) hj2; omega
      · by_cases hc : bestS b f i ≤ atI f i
        · rw [Int.max_eq_right hc]; exact .inr h
        · rw [Int.max_eq_left (by omega)]; exact h3
def nodesN (b : Bool) : List D := if b = true then sevenD else []
theorem enS_iff {b : Bool} {f : Int → Option D} {v : Int} : enS b f v = true ↔ enB (sixL 0) (nodesN b) f v := by
  unfold enS enB nodesN
  rw [six_cntL]
  cases b
  · simp
  · simp only [Bool.not_true, Bool.false_or, Bool.and_eq_true, decide_eq_true_eq, if_true]
    constructor
    · exact fun h => ⟨h.1, .inr h.2⟩
    · exact fun h => ⟨h.1, h.2.resolve_left (by decide)⟩
theorem nodes_mem {b : Bool} {x : Int} : x ∈ (joinL (sixL 0) (nodesN b)).map D.i ↔ (0 ≤ x ∧ x < 6) ∨ (b = true ∧ x = 6) := by
  rw [joinL_mem, sixL_i]
  cases b
  · simp [nodesN]
    omega
  · simp [nodesN, sevenD, D.i]
    omega
theorem best_all (b : Bool) (f : Int → Option D) : pgcl (joinL (sixL 0) (nodesN b)) (wQ (sixL 0) (nodesN b) 4).enc f = bestS b f 7 := by
  obtain ⟨a1, a2, a3⟩ := pgC (sixL 0) (nodesN b) f
  obtain ⟨b1, b2, b3⟩ := best_char b f 7
  have k1 : bestS b f 7 ≤ pgcl (joinL (sixL 0) (nodesN b)) (wQ (sixL 0) (nodesN b) 4).enc f := by
    rcases b3 with b3 | b3
    · omega
    · exact a3 _ (enS_iff.1 b3)
  have k2 : pgcl (joinL (sixL 0) (nodesN b)) (wQ (sixL 0) (nodesN b) 4).enc f ≤ bestS b f 7 := by
    rcases pg_in (joinL (sixL 0) (nodesN b)) (wQ (sixL 0) (nodesN b) 4).enc f (joinL (sixL 0) (nodesN b)) 0 with h | ⟨x, hx, h⟩
    · have : pgcl (joinL (sixL 0) (nodesN b)) (wQ (sixL 0) (nodesN b) 4).enc f = 0 := h
      omega
    · have h' : atI f x.i = pgcl (joinL (sixL 0) (nodesN b)) (wQ (sixL 0) (nodesN b) 4).enc f := h
      rcases a2 with a2 | a2
      · omega
      · have hxm : x.i ∈ (joinL (sixL 0) (nodesN b)).map D.i := List.mem_map.2 ⟨x, hx, rfl⟩
        rw [nodes_mem] at hxm
        have hj : ((x.i.toNat : Nat) : Int) = x.i := Int.toNat_of_nonneg (by omega)
        have := b2 x.i.toNat (by omega) (by rw [hj, h']; exact enS_iff.2 a2)
        rw [hj] at this
        omega
  omega
def oldK (f : Int → Option D) (v : Int) (k : Nat) : Nat := (List.range k).countP (fun j : Nat => decide (v ≤ atI f j) && decide (j < 6))
def nowK (f : Int → Option D) (v : Int) (k : Nat) : Nat := (List.range k).countP (fun j : Nat => decide (v ≤ atI f j) && decide (j ≠ 5))
theorem oldK_step (f : Int → Option D) (v : Int) (k : Nat) : oldK f v (k + 1) = oldK f v k + if v ≤ atI f k ∧ k < 6 then 1 else 0 := by
  unfold oldK
  rw [List.range_succ, List.countP_append]
  simp only [List.countP_cons, List.countP_nil, Bool.and_eq_true, decide_eq_true_eq, Nat.zero_add]
theorem nowK_step (f : Int → Option D) (v : Int) (k : Nat) : nowK f v (k + 1) = nowK f v k + if v ≤ atI f k ∧ k ≠ 5 then 1 else 0 := by
  unfold nowK
  rw [List.range_succ, List.countP_append]
  simp only [List.countP_cons, List.countP_nil, Bool.and_eq_true, decide_eq_true_eq, Nat.zero_add]
theorem oldK_le (f : Int → Option D) (v : Int) (k : Nat) : oldK f v k ≤ k := by
  unfold oldK
  exact Nat.le_trans List.countP_le_length (by simp)
theorem nowK_le (f : Int → Option D) (v : Int) (k : Nat) : nowK f v k ≤ k := by
  unfold nowK
  exact Nat.le_trans List.countP_le_length (by simp)
theorem oldK_all (f : Int → Option D) (v : Int) : oldK f v 7 = cnt f v := by
  rw [cnt_eq]
  have : List.range 7 = [0, 1, 2, 3, 4, 5, 6] := rfl
  simp [oldK, this, List.countP_cons]
  omega
theorem nowK_all (f : Int → Option D) (v : Int) : nowK f v 7 = cnt7 f v := by
  have : List.range 7 = [0, 1, 2, 3, 4, 5, 6] := rfl
  simp [nowK, this, cnt7, cntL, sevenD, D.i, List.countP_cons]
def WTrackSafe : Opts := mkWE 146 [] [0, 1, 2, 3, 4, 5] [] 184 [0, 1, 2, 3, 4, 5] []
def icTrackSafe : IC := (.seq (.seq (.ops [(.u (.mov 6 (.c (.bool false))))]) (.tr [0, 2, 1])) (.seq (.seq (.ops [(.u (.call 20 (.c (.clo 22 [])) [] [] true)), (.u (.mov 7 (.s 20)))]) (.tr [7, 0, 2, 1])) (.seq (.seq (.seq (.ops [(.u (.mov 21 (.s 7))), (.u (.una 22 .not (.s 21)))]) (.tr [22, 7, 0, 2, 1])) (.cond (.s 22) (.seq (.seq (.ops [(.u (.mov 6 (.c (.bool false))))]) (.tr [6])) .ret) .skip)) (.seq (.seq (.seq (.ops [(.u (.mov 23 (.s 0))), (.u (.len 24 false (.s 23))), (.u (.cmp 25 .gtr (.s 24) (.c (.int .i64 6)))), (.u (.mov 26 (.s 25))), (.g 26 false (some 27) (.mov 27 (.s 7))), (.g 26 false (some 28) (.una 28 .not (.s 27))), (.u (.pck 29 (.s 26) (.c (.bool true)) (.s 28)))]) (.tr [29, 7, 0, 2, 1])) (.cond (.s 29) (.seq (.seq (.ops [(.u (.mov 30 (.s 7))), (.u (.mov 6 (.s 30)))]) (.tr [6])) .ret) .skip)) (.seq (.seq (.ops [(.u (.call 31 (.c (.clo 24 [])) [] [] true)), (.u (.alc 8 [(.int .i64 0), .nils, .nils])), (.u (.st (.strct [(.int .i64), (.slice 3), (.slice 3)]) (.s 8) (.s 31)))]) (.tr [8, 0, 2, 1])) (.seq (.seq (.seq (.ops [(.u (.mov 32 (.s 1)))]) (.tr [32, 8, 0, 2, 1])) (.cond (.s 32) (.seq (.seq (.ops [(.u (.ld 34 (.strct [(.int .i64), (.slice 3), (.slice 3)]) (.s 8))), (.u (.call 35 (.c (.clo 17 [])) [(.s 34), (.c (.int .i64 5)), (.c (.int .i64 6))] [none, none, none] true)), (.u (.mov 33 (.s 35))), (.u (.ext 36 0 (.s 33))), (.u (.ext 37 1 (.s 33))), (.u (.alc 9 [(.int .i64 0), .nils, .nils])), (.u (.st (.strct [(.int .i64), (.slice 3), (.slice 3)]) (.s 9) (.s 36))), (.u (.mov 10 (.s 37)))]) (.tr [10, 9, 8, 0, 2, 1])) (.seq (.seq (.seq (.ops [(.u (.mov 38 (.s 10))), (.u (.eqb 39 true 0 (.s 38)))]) (.tr [39, 9, 8, 0, 2, 1])) (.cond (.s 39) (.seq (.seq (.ops [(.u (.mov 6 (.c (.bool false))))]) (.tr [6])) .ret) .skip)) (.seq (.ops [(.u (.ld 40 (.strct [(.int .i64), (.slice 3), (.slice 3)]) (.s 9))), (.u (.st (.strct [(.int .i64), (.slice 3), (.slice 3)]) (.s 8) (.s 40)))]) (.tr [8, 0, 2, 1])))) .skip)) (.seq (.seq (.ops [(.u (.ld 42 (.strct [(.int .i64), (.slice 3), (.slice 3)]) (.s 8))), (.u (.call 43 (.c (.clo 23 [])) [(.s 42)] [none] true)), (.u (.mov 41 (.s 43))), (.u (.ext 44 0 (.s 41))), (.u (.ext 45 1 (.s 41))), (.u (.mov 11 (.s 44))), (.u (.mov 12 (.s 45)))]) (.tr [12, 0, 2, 1, 11])) (.seq (.seq (.seq (.ops [(.u (.mov 46 (.s 11))), (.u (.eqb 47 false 1 (.s 46))), (.u (.mov 48 (.s 47))), (.g 48 false (some 49) (.mov 49 (.s 12))), (.g 48 false (some 50) (.eqb 50 true 0 (.s 49))), (.u (.pck 51 (.s 48) (.c (.bool true)) (.s 50)))]) (.tr [51, 0, 2, 1, 11])) (.cond (.s 51) (.seq (.seq (.ops [(.u (.mov 6 (.c (.bool false))))]) (.tr [6])) .ret) .skip)) (.seq (.seq (.ops [(.u (.mk 52 2 (.int .i64) 8 (.int 0) (.c (.int .i64 7)) (.c (.int .i64 7)))), (.u (.mov 13 (.s 52)))]) (.tr [0, 2, 1, 13, 11])) (.seq (.seq (.seq (.ops [(.u (.mov 14 (.c (.int .i64 0))))]) (.tr [0, 14, 2, 1, 13, 11])) (.block 0 (.loop (.seq (.seq (.seq (.ops [(.u (.mov 53 (.s 14))), (.u (.mov 54 (.s 0))), (.u (.len 55 false (.s 54))), (.u (.cmp 56 .lss (.s 53) (.s 55)))]) (.tr [56, 14, 0, 2, 1, 13, 11])) (.cond (.s 56) .skip (.exit 0))) (.seq (.block 1 (.seq (.seq (.ops [(.u (.mov 59 (.s 13))), (.u (.mov 60 (.s 14))), (.u (.mov 61 (.s 0))), (.u (.mov 62 (.s 14))), (.u (.iad 63 2 (.int .i64) (.s 61) (.s 62))), (.u (.ld 64 (.int .i64) (.s 63))), (.u (.bin 65 .and .i64 (.s 64) (.c (.int .i64 1023)))), (.u (.iad 66 2 (.int .i64) (.s 59) (.s 60))), (.u (.st (.int .i64) (.s 66) (.s 65)))]) (.tr [14, 0, 2, 1, 13, 11])) (.seq (.ops [(.u (.mov 67 (.s 11))), (.u (.mov 68 (.s 14))), (.u (.mov 69 (.s 13))), (.u (.mov 70 (.s 14))), (.u (.iad 71 2 (.int .i64) (.s 69) (.s 70))), (.u (.ld 72 (.int .i64) (.s 71))), (.u (.call 73 (.c (.clo 26 [])) [(.s 67), (.s 68), (.c (.int .i64 0)), (.s 72)] [none, none, none, none] true))]) (.tr [14, 0, 2, 1, 13, 11])))) (.seq (.ops [(.u (.mov 57 (.s 14))), (.u (.bin 58 .add .i64 (.s 57) (.c (.int .i64 1)))), (.u (.mov 14 (.s 58)))]) (.tr [0, 14, 2, 1, 13, 11]))))))) (.seq (.seq (.seq (.ops [(.u (.mov 74 (.s 1)))]) (.tr [74, 2, 1, 13, 11])) (.cond (.s 74) (.seq (.seq (.ops [(.u (.mov 75 (.s 13))), (.u (.mov 76 (.s 2))), (.u (.bin 77 .and .i64 (.s 76) (.c (.int .i64 1023)))), (.u (.iad 78 2 (.int .i64) (.s 75) (.c (.int .i64 6)))), (.u (.st (.int .i64) (.s 78) (.s 77)))]) (.tr [1, 13, 11])) (.seq (.ops [(.u (.mov 79 (.s 11))), (.u (.mov 80 (.s 13))), (.u (.iad 81 2 (.int .i64) (.s 80) (.c (.int .i64 6)))), (.u (.ld 82 (.int .i64) (.s 81))), (.u (.call 83 (.c (.clo 26 [])) [(.s 79), (.c (.int .i64 6)), (.c (.int .i64 0)), (.s 82)] [none, none, none, none] true))]) (.tr [1, 13, 11]))) .skip)) (.seq (.seq (.ops [(.u (.mov 15 (.c (.int .i64 0))))]) (.tr [1, 13, 11, 15])) (.seq (.seq (.seq (.ops [(.u (.mov 16 (.c (.int .i64 0))))]) (.tr [16, 1, 13, 11, 15])) (.block 2 (.loop (.seq (.seq (.seq (.ops [(.u (.mov 84 (.s 16))), (.u (.cmp 85 .lss (.s 84) (.c (.int .i64 7))))]) (.tr [85, 16, 1, 13, 11, 15])) (.cond (.s 85) .skip (.exit 2))) (.seq (.block 3 (.seq (.seq (.ops [(.u (.mov 17 (.c (.int .i64 0))))]) (.tr [17, 16, 1, 13, 11, 15])) (.seq (.seq (.ops [(.u (.mov 18 (.c (.int .i64 0))))]) (.tr [17, 18, 16, 1, 13, 11, 15])) (.seq (.seq (.seq (.ops [(.u (.mov 19 (.c (.int .i64 0))))]) (.tr [19, 17, 18, 16, 1, 13, 11, 15])) (.block 4 (.loop (.seq (.seq (.seq (.ops [(.u (.mov 88 (.s 19))), (.u (.cmp 89 .lss (.s 88) (.c (.int .i64 7))))]) (.tr [89, 19, 17, 18, 16, 1, 13, 11, 15])) (.cond (.s 89) .skip (.exit 4))) (.seq (.block 5 (.seq (.seq (.seq (.rgn [] [(false, (.u (.mov 92 (.s 13)))), (false, (.u (.mov 93 (.s 19)))), (false, (.u (.iad 94 2 (.int .i64) (.s 92) (.s 93)))), (false, (.u (.ld 95 (.int .i64) (.s 94)))), (false, (.u (.mov 96 (.s 13)))), (false, (.u (.mov 97 (.s 16)))), (false, (.u (.iad 98 2 (.int .i64) (.s 96) (.s 97)))), (false, (.u (.ld 99 (.int .i64) (.s 98)))), (false, (.u (.cmp 100 .geq (.s 95) (.s 99)))), (false, (.u (.mov 101 (.s 100)))), (false, (.g 101 true (some 102) (.mov 102 (.s 19)))), (false, (.g 101 true (some 103) (.cmp 103 .lss (.s 102) (.c (.int .i64 6))))), (false, (.u (.pck 104 (.s 101) (.s 103) (.c (.bool false)))))]) (.tr [104, 19, 17, 18, 16, 1, 13, 11, 15])) (.cond (.s 104) (.seq (.ops [(.u (.mov 105 (.s 17))), (.u (.bin 106 .add .i64 (.s 105) (.c (.int .i64 1)))), (.u (.mov 17 (.s 106)))]) (.tr [19, 17, 18, 16, 1, 13, 11, 15])) .skip)) (.seq (.seq (.rgn [] [(false, (.u (.mov 107 (.s 13)))), (false, (.u (.mov 108 (.s 19)))), (false, (.u (.iad 109 2 (.int .i64) (.s 107) (.s 108)))), (false, (.u (.ld 110 (.int .i64) (.s 109)))), (false, (.u (.mov 111 (.s 13)))), (false, (.u (.mov 112 (.s 16)))), (false, (.u (.iad 113 2 (.int .i64) (.s 111) (.s 112)))), (false, (.u (.ld 114 (.int .i64) (.s 113)))), (false, (.u (.cmp 115 .geq (.s 110) (.s 114)))), (false, (.u (.mov 116 (.s 115)))), (false, (.g 116 true (some 117) (.mov 117 (.s 19)))), (false, (.g 116 true (some 118) (.cmp 118 .neq (.s 117) (.c (.int .i64 5))))), (false, (.u (.pck 119 (.s 116) (.s 118) (.c (.bool false)))))]) (.tr [119, 19, 17, 18, 16, 1, 13, 11, 15])) (.cond (.s 119) (.seq (.ops [(.u (.mov 120 (.s 18))), (.u (.bin 121 .add .i64 (.s 120) (.c (.int .i64 1)))), (.u (.mov 18 (.s 121)))]) (.tr [19, 17, 18, 16, 1, 13, 11, 15])) .skip)))) (.seq (.ops [(.u (.mov 90 (.s 19))), (.u (.bin 91 .add .i64 (.s 90) (.c (.int .i64 1)))), (.u (.mov 19 (.s 91)))]) (.tr [19, 17, 18, 16, 1, 13, 11, 15]))))))) (.seq (.seq (.ops [(.u (.mov 122 (.s 17))), (.u (.cmp 123 .geq (.s 122) (.c (.int .i64 4)))), (.u (.mov 124 (.s 123))), (.g 124 true (some 125) (.mov 125 (.s 1))), (.g 124 true (some 126) (.una 126 .not (.s 125))), (.g 124 true (some 127) (.mov 127 (.s 126))), (.g 127 false (some 128) (.mov 128 (.s 18))), (.g 127 false (some 129) (.cmp 129 .geq (.s 128) (.c (.int .i64 4)))), (.g 124 true (some 130) (.pck 130 (.s 127) (.c (.bool true)) (.s 129))), (.u (.pck 131 (.s 124) (.s 130) (.c (.bool false))))]) (.tr [131, 16, 1, 13, 11, 15])) (.cond (.s 131) (.seq (.ops [(.u (.mov 132 (.s 15))), (.u (.mov 133 (.s 13))), (.u (.mov 134 (.s 16))), (.u (.iad 135 2 (.int .i64) (.s 133) (.s 134))), (.u (.ld 136 (.int .i64) (.s 135))), (.u (.mmx 137 true [(.s 132), (.s 136)])), (.u (.mov 15 (.s 137)))]) (.tr [16, 1, 13, 11, 15])) .skip)))))) (.seq (.ops [(.u (.mov 86 (.s 16))), (.u (.bin 87 .add .i64 (.s 86) (.c (.int .i64 1)))), (.u (.mov 16 (.s 87)))]) (.tr [16, 1, 13, 11, 15]))))))) (.seq (.seq (.seq (.ops [(.u (.mov 138 (.s 1))), (.u (.una 139 .not (.s 138)))]) (.tr [139, 13, 11, 15])) (.cond (.s 139) (.seq (.ops [(.u (.mov 140 (.s 13))), (.u (.iad 141 2 (.int .i64) (.s 140) (.c (.int .i64 6)))), (.u (.st (.int .i64) (.s 141) (.c (.int .i64 0))))]) (.tr [11, 15])) .skip)) (.seq (.seq (.ops [(.u (.mov 142 (.s 11))), (.u (.call 143 (.c (.clo 27 [])) [(.s 142)] [none] true)), (.u (.mov 144 (.s 15))), (.u (.cmp 145 .eql (.s 143) (.s 144))), (.u (.mov 6 (.s 145)))]) (.tr [6])) .ret)))))))))))))))
def rsTrackSafe : List RV := [(.t 6)]
theorem irTrackSafe : fnIR Tryd.prog WTrackSafe 9 = some (icTrackSafe, rsTrackSafe) := by kernel_rfl
def spTrackSafe : FSpec := fun args h nx K => match args with
  | [.dat (.slice 2) d, .bool b, .int .i64 own] => K (.bool true) h
  | _ => False
set_option maxHeartbeats 4000000 in
set_option maxRecDepth 8000 in
theorem vTrackSafe {E : Nat → Value} (hE : Errs2 Tryd.prog (some 184) E) : Valid Tryd.prog E (gs GTL) 9 spTrackSafe := by
  refine valid_go (W := WTrackSafe) hE ((((((allValid_bot.add (up (vL14first hE))).add (up (vL14six hE))).add (up (vCBegin hE))).add (up (vTNew hE))).add (up (vTAck hE))).add (up (vTPgcl hE))) irTrackSafe (by decide) (fun args h nx K hsp hok hnm => ?_)
  unfold spTrackSafe at hsp
  split at hsp
  · rename_i d b own
    have hK := hsp
    refine ⟨by simp [WTrackSafe, mkW, mkWE, mkWF], fun Q hQ => ?_⟩
    obtain ⟨hd, _⟩ := hok
    simp only [SV.ok] at hd
    obtain ⟨hd1, hd2, hd3⟩ := Wt.slice hd; generalize d.l = l at *; subst hd1
    have ret : ∀ h' nx', HLe h h' → Q Ex.ret ⟨[(6, .bool true)], h', nx'⟩ := fun h' nx' hh => by
      refine (hQ _ ?_).1
      exact fin_t (.bool true) rfl rfl hnm hh hK
    by_cases h6 : 6 < l.length
    · have c1 : decide (6 < (l.length : Int)) = true := decide_eq_true (by omega)
      simp (maxSteps := 4000000) only [icTrackSafe, go_sem, goD_calls, eq_self, implies_true, Int.reduceEq, Int.reduceBEq, Int.reduceBNe, Int.reduceLE, Int.reduceLT, Int.reduceAdd, Int.reduceSub, Int.reduceMul, Int.reduceNeg, Nat.reduceMul, Nat.reduceSub, Nat.reduceLeDiff, Nat.reduceLT, Nat.reduceEqDiff, Nat.reduceAdd, reduceCtorEq, ↓reduceIte, reduceIte, spL14first, c1]
      exact ret _ _ (by ((try simp only []); repeat first | exact HLe.refl _ | refine HLe.cons (by simp only [hget, Nat.reduceEqDiff, Nat.left_eq_add, Nat.add_eq_left, nm_ne2, nm_en2, nm_ne3, nm_en3, nm_ne4, nm_en4, nm_ne5, nm_en5, reduceIte, ↓reduceIte] <;> first | rfl | ((repeat rw [if_neg (by omega)]) <;> rfl)) ?_ | refine HLe.skip hnm (by omega) ?_ | refine HLe.frz hnm (by omega) ?_ | refine HLe.del hnm (by omega) ?_))
    have c1 : decide (6 < (l.length : Int)) = false := decide_eq_false (by omega)
    have hv7 : (validC 1 (sixL 0) sevenD).isNil = true := by rw [first_valid]; rfl
    obtain ⟨N, hN⟩ : ∃ N, N = nodesN b := ⟨_, rfl⟩
    have hNt : b = true → N = sevenD := fun hb => by rw [hN, hb]; rfl
    have hNf : b = false → N = [] := fun hb => by rw [hN, hb]; rfl
    have e7 : List.replicate (Int.toNat 7) (D.int 0) = [.int 0, .int 0, .int 0, .int 0, .int 0, .int 0, .int 0] := rfl
    simp (maxSteps := 4000000) only [icTrackSafe, go_sem, goD_calls, eq_self, implies_true, Int.reduceEq, Int.reduceBEq, Int.reduceBNe, Int.reduceLE, Int.reduceLT, Int.reduceAdd, Int.reduceSub, Int.reduceMul, Int.reduceNeg, Nat.reduceMul, Nat.reduceSub, Nat.reduceLeDiff, Nat.reduceLT, Nat.reduceEqDiff, Nat.reduceAdd, reduceCtorEq, ↓reduceIte, reduceIte, spL14first, c1, spL14six, spCBegin, first_begin, first_beginR, spTNew, cfgA, six_nil, hv7, tNew, e7]
    refine (fun (hmain : ∀ S, Leq nx S { f := [(0, .dat (.slice 2) (.list l)), (14, .int .i64 0), (2, .int .i64 own), (1, .bool b), (13, .vec (nx + 3)), (11, .ptr nx 0)], h := [(nx, .cells [.dat (.slice 3) (.list (joinL (sixL 0) N)), .dat (.ptr 139) (wQ (sixL 0) N 4).enc, .dat (.slice 3) (.list (wL (sixL 0) N)), .int .i64 (wN N), .vec (nx + 1), .vec (nx + 2)]), (nx + 1, .map 3 2 mEmpty), (nx + 2, .map 3 3 mEmpty), (nx + 3, .arr 2 (.int .i64) [.int 0, .int 0, .int 0, .int 0, .int 0, .int 0, .int 0])] ++ h, nx := nx + 4 } → go _ nx Q _ _ S) => ⟨fun hb => ⟨by decide, hmain _ ?l1⟩, fun hb => ⟨by decide, hmain _ ?l2⟩⟩) ?main
    case l1 =>
      rw [hNt hb]
      refine leq_news [(nx, nx + 64 + 64 + 1 + 64 + 1), (nx + 1, nx + 64 + 64 + 1 + 64 + 1 + 1), (nx + 2, nx + 64 + 64 + 1 + 64 + 1 + 2), (nx + 3, nx + 64 + 64 + 1 + 64 + 1 + 64)] [(nx, .cells [.dat (.slice 3) (.list (joinL (sixL 0) sevenD)), .dat (.ptr 139) (wQ (sixL 0) sevenD 4).enc, .dat (.slice 3) (.list (wL (sixL 0) sevenD)), .int .i64 (wN sevenD), .vec (nx + 1), .vec (nx + 2)]), (nx + 1, .map 3 2 mEmpty), (nx + 2, .map 3 3 mEmpty), (nx + 3, .arr 2 (.int .i64) [.int 0, .int 0, .int 0, .int 0, .int 0, .int 0, .int 0])] (.refl _) (by simp) (by simp <;> omega) (by simp <;> omega) rfl ?_ ?_ ?_ ?_ hnm ?_ (by omega)
      · simp [frIn_cons, frIn_nil, fget_cons, fget_nil, SV.ren, SV.renL, rens]
      · (simp only [frLt_cons, frLt_nil, and_true, SV.lt, SV.ltL, true_and] <;> omega)
      · (simp only [List.mem_cons, List.not_mem_nil, or_false, forall_eq_or_imp, forall_eq]; simp [hget, rens, Tok.ren, SV.ren, SV.renL])
      · (simp only [List.mem_cons, List.not_mem_nil, or_false, forall_eq_or_imp, forall_eq, Tok.lt, SV.lt, SV.ltL, and_true, true_and] <;> omega)
      · ((try simp only []); repeat first | exact HLe.refl _ | refine HLe.cons (by simp only [hget, Nat.reduceEqDiff, Nat.left_eq_add, Nat.add_eq_left, nm_ne2, nm_en2, nm_ne3, nm_en3, nm_ne4, nm_en4, nm_ne5, nm_en5, reduceIte, ↓reduceIte] <;> first | rfl | ((repeat rw [if_neg (by omega)]) <;> rfl)) ?_ | refine HLe.skip hnm (by omega) ?_ | refine HLe.frz hnm (by omega) ?_ | refine HLe.del hnm (by omega) ?_)
    case l2 =>
      rw [hNf hb]
      refine leq_news [(nx, nx + 64 + 64 + 1), (nx + 1, nx + 64 + 64 + 1 + 1), (nx + 2, nx + 64 + 64 + 1 + 2), (nx + 3, nx + 64 + 64 + 1 + 64)] [(nx, .cells [.dat (.slice 3) (.list (joinL (sixL 0) [])), .dat (.ptr 139) (wQ (sixL 0) [] 4).enc, .dat (.slice 3) (.list (wL (sixL 0) [])), .int .i64 (wN []), .vec (nx + 1), .vec (nx + 2)]), (nx + 1, .map 3 2 mEmpty), (nx + 2, .map 3 3 mEmpty), (nx + 3, .arr 2 (.int .i64) [.int 0, .int 0, .int 0, .int 0, .int 0, .int 0, .int 0])] (.refl _) (by simp) (by simp <;> omega) (by simp <;> omega) rfl ?_ ?_ ?_ ?_ hnm ?_ (by omega)
      · simp [frIn_cons, frIn_nil, fget_cons, fget_nil, SV.ren, SV.renL, rens]
      · (simp only [frLt_cons, frLt_nil, and_true, SV.lt, SV.ltL, true_and] <;> omega)
      · (simp only [List.mem_cons, List.not_mem_nil, or_false, forall_eq_or_imp, forall_eq]; simp [hget, rens, Tok.ren, SV.ren, SV.renL])
      · (simp only [List.mem_cons, List.not_mem_nil, or_false, forall_eq_or_imp, forall_eq, Tok.lt, SV.lt, SV.ltL, and_true, true_and] <;> omega)
      · ((try simp only []); repeat first | exact HLe.refl _ | refine HLe.cons (by simp only [hget, Nat.reduceEqDiff, Nat.left_eq_add, Nat.add_eq_left, nm_ne2, nm_en2, nm_ne3, nm_en3, nm_ne4, nm_en4, nm_ne5, nm_en5, reduceIte, ↓reduceIte] <;> first | rfl | ((repeat rw [if_neg (by omega)]) <;> rfl)) ?_ | refine HLe.skip hnm (by omega) ?_ | refine HLe.frz hnm (by omega) ?_ | refine HLe.del hnm (by omega) ?_)
    intro S hS
    clear hNt hNf
    have m1 : (joinL (sixL 0) N).length ≤ 1000 := by
      have := joinL_len (sixL 0) N
      rw [hN, sixL_len] at this
      rw [hN]
      have h7 : (nodesN b).length ≤ 6 := by unfold nodesN; split <;> decide
      omega
    have p1 : okD (wQ (sixL 0) N 4).enc := by
      rw [hN]
      unfold nodesN
      split
      · exact okD_enc (wQ_ok (k := 4) hv7).1
      · exact okD_enc (wQ_ok (k := 4) six_nil).1
    have hmem : ∀ x, x ∈ (joinL (sixL 0) N).map D.i ↔ (0 ≤ x ∧ x < 6) ∨ (b = true ∧ x = 6) := fun x => by rw [hN]; exact nodes_mem
    have hbest : ∀ f, pgcl (joinL (sixL 0) N) (wQ (sixL 0) N 4).enc f = bestS b f 7 := fun f => by rw [hN]; exact best_all b f
    clear hN
    refine go_loop (α := { x : Nat × (Int → Option D) × List D // x.1 ≤ l.length ∧ x.2.2.length = 7 ∧ (∀ j : Nat, j < 7 → x.2.2.getD j .nil = .int (atI x.2.1 j)) ∧ (∀ m, 0 ≤ atI x.2.1 m ∧ atI x.2.1 m ≤ 1023) ∧ ∀ m, ¬ (0 ≤ m ∧ m < x.1) → atI x.2.1 m = 0 }) (I := fun x => { f := [(0, .dat (.slice 2) (.list l)), (14, .int .i64 x.1.1), (2, .int .i64 own), (1, .bool b), (13, .vec (nx + 3)), (11, .ptr nx 0)], h := [(nx, .cells [.dat (.slice 3) (.list (joinL (sixL 0) N)), .dat (.ptr 139) (wQ (sixL 0) N 4).enc, .dat (.slice 3) (.list (wL (sixL 0) N)), .int .i64 (wN N), .vec (nx + 1), .vec (nx + 2)]), (nx + 1, .map 3 2 x.1.2.1), (nx + 2, .map 3 3 mEmpty), (nx + 3, .arr 2 (.int .i64) x.1.2.2)] ++ h, nx := nx + 4 }) (μ := fun x => l.length - x.1.1) _ _ _ ⟨(0, mEmpty, [.int 0, .int 0, .int 0, .int 0, .int 0, .int 0, .int 0]), by simp, rfl, fun j hj => by
      have : j = 0 ∨ j = 1 ∨ j = 2 ∨ j = 3 ∨ j = 4 ∨ j = 5 ∨ j = 6 := by omega
      rcases this with rfl | rfl | rfl | rfl | rfl | rfl | rfl <;> rfl, fun m => by rw [atI_empty]; decide, fun m _ => rfl⟩ hS (fun x B hB => ?_)
    obtain ⟨⟨i, f, H⟩, hi, hHl, hH, hf, hz⟩ := x
    simp only at hi hHl hH hf hz hB
    by_cases hil : i < l.length
    · have c2 : decide ((i : Int) < (l.length : Int)) = true := decide_eq_true (by omega)
      obtain ⟨v, hv⟩ : ∃ v, (l.getD i .nil).i % 1024 = v := ⟨_, rfl⟩
      have hvr : 0 ≤ v ∧ v < 1024 := by rw [← hv]; exact ⟨Int.emod_nonneg _ (by decide), Int.emod_lt_of_pos _ (by decide)⟩
      have hHv : ((H.set i (.int v)).getD i .nil).i = v := by rw [set_get (by omega), if_pos rfl]; rfl
      have ha : ackB (joinL (sixL 0) N) mEmpty i 0 v = true := ackC ((hmem i).2 (.inl (by omega))) rfl (by omega) (by omega)
      have hm : max (atI f i) v = v := by rw [hz i (by omega)]; omega
      simp (maxSteps := 4000000) only [go_sem, goD_calls, eq_self, implies_true, Int.reduceEq, Int.reduceBEq, Int.reduceBNe, Int.reduceLE, Int.reduceLT, Int.reduceAdd, Int.reduceSub, Int.reduceMul, Int.reduceNeg, Nat.reduceMul, Nat.reduceSub, Nat.reduceLeDiff, Nat.reduceLT, Nat.reduceEqDiff, Nat.reduceAdd, reduceCtorEq, ↓reduceIte, reduceIte, c2, spTAck, spTPgcl, spTScl, spTBorn, spTDrop, spTHas, tOk_c, tA_c, tB_c, tM_c, tP_c, sOk_c, iOk_c, mF_c, m1, p1, and1023, hv, hHv, ha, hm, List.length_set, Int.toNat_natCast, min_i64, max_i64]
      repeat refine ⟨by omega, ?_⟩
      refine hB _ ⟨(i + 1, mSet f i (.int v), H.set i (.int v)), by simp only []; omega, by rw [List.length_set]; exact hHl, fun j hj => ?_, fun m => ?_, fun m hm0 => ?_⟩ (by simp only []; omega) ?_
      · rw [set_get (by omega), atI_set]
        by_cases e : j = i
        · rw [if_pos e, if_pos (by omega)]
        · rw [if_neg e, if_neg (by omega), hH j hj]
      · rw [atI_set]
        have := hf m
        split <;> omega
      · simp only [] at hm0
        rw [atI_set, if_neg (by omega)]
        exact hz m (by omega)
      · refine leq_id ?_ (by (simp only [frLt_cons, frLt_nil, and_true, SV.lt, SV.ltL, true_and] <;> omega)) (by ((try simp only []); repeat first | exact HLe.refl _ | refine HLe.cons (by simp only [hget, Nat.reduceEqDiff, Nat.left_eq_add, Nat.add_eq_left, nm_ne2, nm_en2, nm_ne3, nm_en3, nm_ne4, nm_en4, nm_ne5, nm_en5, reduceIte, ↓reduceIte] <;> first | rfl | ((repeat rw [if_neg (by omega)]) <;> rfl)) ?_ | refine HLe.skip hnm (by omega) ?_ | refine HLe.frz hnm (by omega) ?_ | refine HLe.del hnm (by omega) ?_)) (by (repeat first | exact HLt.mono hnm (by simp only [] <;> omega) | refine HLt.cons (by simp only [] <;> omega) (by simp only [Tok.lt, SV.ltL, SV.lt, and_true, true_and] <;> omega) ?_)) (by simp only [] <;> omega)
        simp only [frEq_cons, frEq_nil, frIn_cons, frIn_nil, and_true, fget_cons, Nat.reduceEqDiff, reduceIte, ↓reduceIte, true_and, SV.ren, SV.renL, ren1]
        simp
    · obtain rfl : i = l.length := by omega
      have c2 : decide ((l.length : Int) < (l.length : Int)) = false := decide_eq_false (by omega)
      obtain ⟨v, hv⟩ : ∃ v, own % 1024 = v := ⟨_, rfl⟩
      have hvr : 0 ≤ v ∧ v < 1024 := by rw [← hv]; exact ⟨Int.emod_nonneg _ (by decide), Int.emod_lt_of_pos _ (by decide)⟩
      have e6 : Int.toNat 6 = 6 := rfl
      have hHv : ((H.set 6 (.int v)).getD 6 .nil).i = v := by rw [set_get (by omega), if_pos rfl]; rfl
      have ha : b = true → ackB (joinL (sixL 0) N) mEmpty 6 0 v = true := fun hb => ackC ((hmem 6).2 (.inr ⟨hb, rfl⟩)) rfl (by omega) (by omega)
      have hz6 : atI f 6 = 0 := hz 6 (by omega)
      have hm : max (atI f 6) v = v := by rw [hz6]; omega
      simp (maxSteps := 4000000) only [go_sem, goD_calls, eq_self, implies_true, Int.reduceEq, Int.reduceBEq, Int.reduceBNe, Int.reduceLE, Int.reduceLT, Int.reduceAdd, Int.reduceSub, Int.reduceMul, Int.reduceNeg, Nat.reduceMul, Nat.reduceSub, Nat.reduceLeDiff, Nat.reduceLT, Nat.reduceEqDiff, Nat.reduceAdd, reduceCtorEq, ↓reduceIte, reduceIte, c2, spTAck, spTPgcl, spTScl, spTBorn, spTDrop, spTHas, tOk_c, tA_c, tB_c, tM_c, tP_c, sOk_c, iOk_c, mF_c, m1, p1, and1023, hv, hHv, hm, e6, List.length_set]
      obtain ⟨F, hF⟩ : ∃ F, F = if b = true then mSet f 6 (.int v) else f := ⟨_, rfl⟩
      obtain ⟨G, hG⟩ : ∃ G, G = if b = true then H.set 6 (.int v) else H := ⟨_, rfl⟩
      have hGl : G.length = 7 := by rw [hG]; split <;> simp [hHl]
      have hFa : ∀ m, atI F m = if b = true ∧ m = 6 then v else atI f m := fun m => by
        rw [hF]
        by_cases hb : b = true
        · rw [if_pos hb, atI_set]; simp [hb]
        · rw [if_neg hb, if_neg (fun h => hb h.1)]
      have hGF : ∀ j : Nat, j < 7 → (G.getD j .nil).i = atI F j := fun j hj => by
        rw [hFa, hG]
        by_cases hb : b = true
        · rw [if_pos hb, set_get (by omega)]
          by_cases e : j = 6
          · rw [if_pos e, if_pos ⟨hb, by omega⟩]; rfl
          · rw [if_neg e, if_neg (by omega), hH j hj]; rfl
        · rw [if_neg hb, if_neg (fun h => hb h.1), hH j hj]; rfl
      have hFr : ∀ m, 0 ≤ atI F m ∧ atI F m ≤ 1023 := fun m => by
        rw [hFa]
        have := hf m
        split <;> omega
      refine (fun (hmain : ∀ S, Leq nx S { f := [(16, .int .i64 0), (1, .bool b), (13, .vec (nx + 3)), (11, .ptr nx 0), (15, .int .i64 0)], h := [(nx, .cells [.dat (.slice 3) (.list (joinL (sixL 0) N)), .dat (.ptr 139) (wQ (sixL 0) N 4).enc, .dat (.slice 3) (.list (wL (sixL 0) N)), .int .i64 (wN N), .vec (nx + 1), .vec (nx + 2)]), (nx + 1, .map 3 2 F), (nx + 2, .map 3 3 mEmpty), (nx + 3, .arr 2 (.int .i64) G)] ++ h, nx := nx + 4 } → go _ nx Q _ _ S) => ⟨fun hb => ⟨by omega, by omega, by omega, by omega, fun h0 => (by rw [ha hb] at h0; cases h0), fun _ => hmain _ ?m1⟩, fun hb => hmain _ ?m2⟩) ?main2
      case m1 =>
        rw [hF, hG, if_pos hb, if_pos hb]
        refine leq_id ?_ (by (simp only [frLt_cons, frLt_nil, and_true, SV.lt, SV.ltL, true_and] <;> omega)) (by ((try simp only []); repeat first | exact HLe.refl _ | refine HLe.cons (by simp only [hget, Nat.reduceEqDiff, Nat.left_eq_add, Nat.add_eq_left, nm_ne2, nm_en2, nm_ne3, nm_en3, nm_ne4, nm_en4, nm_ne5, nm_en5, reduceIte, ↓reduceIte] <;> first | rfl | ((repeat rw [if_neg (by omega)]) <;> rfl)) ?_ | refine HLe.skip hnm (by omega) ?_ | refine HLe.frz hnm (by omega) ?_ | refine HLe.del hnm (by omega) ?_)) (by (repeat first | exact HLt.mono hnm (by simp only [] <;> omega) | refine HLt.cons (by simp only [] <;> omega) (by simp only [Tok.lt, SV.ltL, SV.lt, and_true, true_and] <;> omega) ?_)) (by simp only [] <;> omega)
        simp only [frEq_cons, frEq_nil, frIn_cons, frIn_nil, and_true, fget_cons, Nat.reduceEqDiff, reduceIte, ↓reduceIte, true_and, SV.ren, SV.renL, ren1]
      case m2 =>
        have hb' : ¬ b = true := by rw [hb]; decide
        rw [hF, hG, if_neg hb', if_neg hb']
        refine leq_id ?_ (by (simp only [frLt_cons, frLt_nil, and_true, SV.lt, SV.ltL, true_and] <;> omega)) (by ((try simp only []); repeat first | exact HLe.refl _ | refine HLe.cons (by simp only [hget, Nat.reduceEqDiff, Nat.left_eq_add, Nat.add_eq_left, nm_ne2, nm_en2, nm_ne3, nm_en3, nm_ne4, nm_en4, nm_ne5, nm_en5, reduceIte, ↓reduceIte] <;> first | rfl | ((repeat rw [if_neg (by omega)]) <;> rfl)) ?_ | refine HLe.skip hnm (by omega) ?_ | refine HLe.frz hnm (by omega) ?_ | refine HLe.del hnm (by omega) ?_)) (by (repeat first | exact HLt.mono hnm (by simp only [] <;> omega) | refine HLt.cons (by simp only [] <;> omega) (by simp only [Tok.lt, SV.ltL, SV.lt, and_true, true_and] <;> omega) ?_)) (by simp only [] <;> omega)
        simp only [frEq_cons, frEq_nil, frIn_cons, frIn_nil, and_true, fget_cons, Nat.reduceEqDiff, reduceIte, ↓reduceIte, true_and, SV.ren, SV.renL, ren1]
      intro S2 hS2
      clear hF hG hFa hf hz hz6 hm hHv
      refine go_loop (α := { i : Nat // i ≤ 7 }) (I := fun i => { f := [(16, .int .i64 i.1), (1, .bool b), (13, .vec (nx + 3)), (11, .ptr nx 0), (15, .int .i64 (bestS b F i.1))], h := [(nx, .cells [.dat (.slice 3) (.list (joinL (sixL 0) N)), .dat (.ptr 139) (wQ (sixL 0) N 4).enc, .dat (.slice 3) (.list (wL (sixL 0) N)), .int .i64 (wN N), .vec (nx + 1), .vec (nx + 2)]), (nx + 1, .map 3 2 F), (nx + 2, .map 3 3 mEmpty), (nx + 3, .arr 2 (.int .i64) G)] ++ h, nx := nx + 4 }) (μ := fun i => 7 - i.1) _ _ _ ⟨0, by omega⟩ hS2 (fun i B2 hB2 => ?_)
      obtain ⟨i, hi⟩ := i
      simp only at hB2
      obtain ⟨best, hbs⟩ : ∃ best, bestS b F i = best := ⟨_, rfl⟩
      have hb0 := (best_char b F i).1
      rw [hbs] at hb0 ⊢
      by_cases hi7 : i < 7
      · have c3 : decide ((i : Int) < 7) = true := decide_eq_true (by omega)
        have hst := best_step b F i
        rw [hbs] at hst
        obtain ⟨w, hw⟩ : ∃ w, atI F i = w := ⟨_, rfl⟩
        have hGi : (G.getD i .nil).i = w := by rw [hGF i hi7, hw]
        rw [hw] at hst
        simp (maxSteps := 4000000) only [go_sem, goD_calls, eq_self, implies_true, Int.reduceEq, Int.reduceBEq, Int.reduceBNe, Int.reduceLE, Int.reduceLT, Int.reduceAdd, Int.reduceSub, Int.reduceMul, Int.reduceNeg, Nat.reduceMul, Nat.reduceSub, Nat.reduceLeDiff, Nat.reduceLT, Nat.reduceEqDiff, Nat.reduceAdd, reduceCtorEq, ↓reduceIte, reduceIte, c3]
        refine go_loop (α := { k : Nat // k ≤ 7 }) (I := fun k => { f := [(19, .int .i64 k.1), (17, .int .i64 (oldK F w k.1)), (18, .int .i64 (nowK F w k.1)), (16, .int .i64 i), (1, .bool b), (13, .vec (nx + 3)), (11, .ptr nx 0), (15, .int .i64 best)], h := [(nx, .cells [.dat (.slice 3) (.list (joinL (sixL 0) N)), .dat (.ptr 139) (wQ (sixL 0) N 4).enc, .dat (.slice 3) (.list (wL (sixL 0) N)), .int .i64 (wN N), .vec (nx + 1), .vec (nx + 2)]), (nx + 1, .map 3 2 F), (nx + 2, .map 3 3 mEmpty), (nx + 3, .arr 2 (.int .i64) G)] ++ h, nx := nx + 4 }) (μ := fun k => 7 - k.1) _ _ _ ⟨0, by omega⟩ ?_ (fun k B3 hB3 => ?_)
        · refine leq_id ?_ (by (simp only [frLt_cons, frLt_nil, and_true, SV.lt, SV.ltL, true_and] <;> omega)) (by ((try simp only []); repeat first | exact HLe.refl _ | refine HLe.cons (by simp only [hget, Nat.reduceEqDiff, Nat.left_eq_add, Nat.add_eq_left, nm_ne2, nm_en2, nm_ne3, nm_en3, nm_ne4, nm_en4, nm_ne5, nm_en5, reduceIte, ↓reduceIte] <;> first | rfl | ((repeat rw [if_neg (by omega)]) <;> rfl)) ?_ | refine HLe.skip hnm (by omega) ?_ | refine HLe.frz hnm (by omega) ?_ | refine HLe.del hnm (by omega) ?_)) (by (repeat first | exact HLt.mono hnm (by simp only [] <;> omega) | refine HLt.cons (by simp only [] <;> omega) (by simp only [Tok.lt, SV.ltL, SV.lt, and_true, true_and] <;> omega) ?_)) (by simp only [] <;> omega)
          simp only [frEq_cons, frEq_nil, frIn_cons, frIn_nil, and_true, fget_cons, Nat.reduceEqDiff, reduceIte, ↓reduceIte, true_and, SV.ren, SV.renL, ren1]
          exact ⟨rfl, rfl, rfl⟩
        · obtain ⟨k, hk⟩ := k
          simp only at hB3
          by_cases hk7 : k < 7
          · have c5 : decide ((k : Int) < 7) = true := decide_eq_true (by omega)
            have s1 := oldK_step F w k
            have s2 := nowK_step F w k
            have l1 := oldK_le F w k
            have l2 := nowK_le F w k
            have hGk : (G.getD k .nil).i = atI F k := hGF k hk7
            have next : ∀ a c S', a = (oldK F w (k + 1) : Int) → c = (nowK F w (k + 1) : Int) → Leq nx S' { f := [(19, .int .i64 ((k + 1 : Nat) : Int)), (17, .int .i64 a), (18, .int .i64 c), (16, .int .i64 i), (1, .bool b), (13, .vec (nx + 3)), (11, .ptr nx 0), (15, .int .i64 best)], h := [(nx, .cells [.dat (.slice 3) (.list (joinL (sixL 0) N)), .dat (.ptr 139) (wQ (sixL 0) N 4).enc, .dat (.slice 3) (.list (wL (sixL 0) N)), .int .i64 (wN N), .vec (nx + 1), .vec (nx + 2)]), (nx + 1, .map 3 2 F), (nx + 2, .map 3 3 mEmpty), (nx + 3, .arr 2 (.int .i64) G)] ++ h, nx := nx + 4 } → B3 S' := fun a c S' e1 e2 hl => by
              subst e1 e2
              exact hB3 _ ⟨k + 1, by omega⟩ (by simp only []; omega) hl
            by_cases q1 : w ≤ atI F k
            · have d1 : decide (w ≤ atI F k) = true := decide_eq_true q1
              by_cases q2 : k < 5
              · have d2 : decide ((k : Int) < 6) = true := decide_eq_true (by omega)
                have d3 : ((k : Int) != 5) = true := by rw [bne_iff_ne]; omega
                rw [if_pos ⟨q1, by omega⟩] at s1
                rw [if_pos ⟨q1, by omega⟩] at s2
                simp (maxSteps := 4000000) only [go_sem, goD_calls, eq_self, implies_true, Int.reduceEq, Int.reduceBEq, Int.reduceBNe, Int.reduceLE, Int.reduceLT, Int.reduceAdd, Int.reduceSub, Int.reduceMul, Int.reduceNeg, Nat.reduceMul, Nat.reduceSub, Nat.reduceLeDiff, Nat.reduceLT, Nat.reduceEqDiff, Nat.reduceAdd, reduceCtorEq, ↓reduceIte, reduceIte, c5, hGk, hGi, d1, d2, d3, Int.toNat_natCast, min_i64, max_i64]
                repeat refine ⟨by omega, ?_⟩
                refine next _ _ _ (by rw [s1]) (by rw [s2]) ?_
                refine leq_id ?_ (by (simp only [frLt_cons, frLt_nil, and_true, SV.lt, SV.ltL, true_and] <;> omega)) (by ((try simp only []); repeat first | exact HLe.refl _ | refine HLe.cons (by simp only [hget, Nat.reduceEqDiff, Nat.left_eq_add, Nat.add_eq_left, nm_ne2, nm_en2, nm_ne3, nm_en3, nm_ne4, nm_en4, nm_ne5, nm_en5, reduceIte, ↓reduceIte] <;> first | rfl | ((repeat rw [if_neg (by omega)]) <;> rfl)) ?_ | refine HLe.skip hnm (by omega) ?_ | refine HLe.frz hnm (by omega) ?_ | refine HLe.del hnm (by omega) ?_)) (by (repeat first | exact HLt.mono hnm (by simp only [] <;> omega) | refine HLt.cons (by simp only [] <;> omega) (by simp only [Tok.lt, SV.ltL, SV.lt, and_true, true_and] <;> omega) ?_)) (by simp only [] <;> omega)
                simp only [frEq_cons, frEq_nil, frIn_cons, frIn_nil, and_true, fget_cons, Nat.reduceEqDiff, reduceIte, ↓reduceIte, true_and, SV.ren, SV.renL, ren1]
                simp
              · by_cases q3 : k = 5
                · have d2 : decide ((k : Int) < 6) = true := decide_eq_true (by omega)
                  have d3 : ((k : Int) != 5) = false := by rw [bne_eq_false_iff_eq]; omega
                  rw [if_pos ⟨q1, by omega⟩] at s1
                  rw [if_neg (fun h => h.2 q3)] at s2
                  simp (maxSteps := 4000000) only [go_sem, goD_calls, eq_self, implies_true, Int.reduceEq, Int.reduceBEq, Int.reduceBNe, Int.reduceLE, Int.reduceLT, Int.reduceAdd, Int.reduceSub, Int.reduceMul, Int.reduceNeg, Nat.reduceMul, Nat.reduceSub, Nat.reduceLeDiff, Nat.reduceLT, Nat.reduceEqDiff, Nat.reduceAdd, reduceCtorEq, ↓reduceIte, reduceIte, c5, hGk, hGi, d1, d2, d3, Int.toNat_natCast, min_i64, max_i64]
                  repeat refine ⟨by omega, ?_⟩
                  refine next _ _ _ (by rw [s1]) (by rw [s2]) ?_
                  refine leq_id ?_ (by (simp only [frLt_cons, frLt_nil, and_true, SV.lt, SV.ltL, true_and] <;> omega)) (by ((try simp only []); repeat first | exact HLe.refl _ | refine HLe.cons (by simp only [hget, Nat.reduceEqDiff, Nat.left_eq_add, Nat.add_eq_left, nm_ne2, nm_en2, nm_ne3, nm_en3, nm_ne4, nm_en4, nm_ne5, nm_en5, reduceIte, ↓reduceIte] <;> first | rfl | ((repeat rw [if_neg (by omega)]) <;> rfl)) ?_ | refine HLe.skip hnm (by omega) ?_ | refine HLe.frz hnm (by omega) ?_ | refine HLe.del hnm (by omega) ?_)) (by (repeat first | exact HLt.mono hnm (by simp only [] <;> omega) | refine HLt.cons (by simp only [] <;> omega) (by simp only [Tok.lt, SV.ltL, SV.lt, and_true, true_and] <;> omega) ?_)) (by simp only [] <;> omega)
                  simp only [frEq_cons, frEq_nil, frIn_cons, frIn_nil, and_true, fget_cons, Nat.reduceEqDiff, reduceIte, ↓reduceIte, true_and, SV.ren, SV.renL, ren1]
                  simp
                · have d2 : decide ((k : Int) < 6) = false := decide_eq_false (by omega)
                  have d3 : ((k : Int) != 5) = true := by rw [bne_iff_ne]; omega
                  rw [if_neg (fun h => by omega)] at s1
                  rw [if_pos ⟨q1, q3⟩] at s2
                  simp (maxSteps := 4000000) only [go_sem, goD_calls, eq_self, implies_true, Int.reduceEq, Int.reduceBEq, Int.reduceBNe, Int.reduceLE, Int.reduceLT, Int.reduceAdd, Int.reduceSub, Int.reduceMul, Int.reduceNeg, Nat.reduceMul, Nat.reduceSub, Nat.reduceLeDiff, Nat.reduceLT, Nat.reduceEqDiff, Nat.reduceAdd, reduceCtorEq, ↓reduceIte, reduceIte, c5, hGk, hGi, d1, d2, d3, Int.toNat_natCast, min_i64, max_i64]
                  repeat refine ⟨by omega, ?_⟩
                  refine next _ _ _ (by rw [s1]) (by rw [s2]) ?_
                  refine leq_id ?_ (by (simp only [frLt_cons, frLt_nil, and_true, SV.lt, SV.ltL, true_and] <;> omega)) (by ((try simp only []); repeat first | exact HLe.refl _ | refine HLe.cons (by simp only [hget, Nat.reduceEqDiff, Nat.left_eq_add, Nat.add_eq_left, nm_ne2, nm_en2, nm_ne3, nm_en3, nm_ne4, nm_en4, nm_ne5, nm_en5, reduceIte, ↓reduceIte] <;> first | rfl | ((repeat rw [if_neg (by omega)]) <;> rfl)) ?_ | refine HLe.skip hnm (by omega) ?_ | refine HLe.frz hnm (by omega) ?_ | refine HLe.del hnm (by omega) ?_)) (by (repeat first | exact HLt.mono hnm (by simp only [] <;> omega) | refine HLt.cons (by simp only [] <;> omega) (by simp only [Tok.lt, SV.ltL, SV.lt, and_true, true_and] <;> omega) ?_)) (by simp only [] <;> omega)
                  simp only [frEq_cons, frEq_nil, frIn_cons, frIn_nil, and_true, fget_cons, Nat.reduceEqDiff, reduceIte, ↓reduceIte, true_and, SV.ren, SV.renL, ren1]
                  simp
            · have d1 : decide (w ≤ atI F k) = false := decide_eq_false q1
              rw [if_neg (fun h => q1 h.1)] at s1
              rw [if_neg (fun h => q1 h.1)] at s2
              simp (maxSteps := 4000000) only [go_sem, goD_calls, eq_self, implies_true, Int.reduceEq, Int.reduceBEq, Int.reduceBNe, Int.reduceLE, Int.reduceLT, Int.reduceAdd, Int.reduceSub, Int.reduceMul, Int.reduceNeg, Nat.reduceMul, Nat.reduceSub, Nat.reduceLeDiff, Nat.reduceLT, Nat.reduceEqDiff, Nat.reduceAdd, reduceCtorEq, ↓reduceIte, reduceIte, c5, hGk, hGi, d1, Int.toNat_natCast, min_i64, max_i64]
              repeat refine ⟨by omega, ?_⟩
              refine next _ _ _ (by rw [s1]) (by rw [s2]) ?_
              refine leq_id ?_ (by (simp only [frLt_cons, frLt_nil, and_true, SV.lt, SV.ltL, true_and] <;> omega)) (by ((try simp only []); repeat first | exact HLe.refl _ | refine HLe.cons (by simp only [hget, Nat.reduceEqDiff, Nat.left_eq_add, Nat.add_eq_left, nm_ne2, nm_en2, nm_ne3, nm_en3, nm_ne4, nm_en4, nm_ne5, nm_en5, reduceIte, ↓reduceIte] <;> first | rfl | ((repeat rw [if_neg (by omega)]) <;> rfl)) ?_ | refine HLe.skip hnm (by omega) ?_ | refine HLe.frz hnm (by omega) ?_ | refine HLe.del hnm (by omega) ?_)) (by (repeat first | exact HLt.mono hnm (by simp only [] <;> omega) | refine HLt.cons (by simp only [] <;> omega) (by simp only [Tok.lt, SV.ltL, SV.lt, and_true, true_and] <;> omega) ?_)) (by simp only [] <;> omega)
              simp only [frEq_cons, frEq_nil, frIn_cons, frIn_nil, and_true, fget_cons, Nat.reduceEqDiff, reduceIte, ↓reduceIte, true_and, SV.ren, SV.renL, ren1]
              simp
          · obtain rfl : k = 7 := by omega
            have c5 : decide (((7 : Nat) : Int) < 7) = false := rfl
            rw [oldK_all, nowK_all]
            have hen : enS b F w = (decide (4 ≤ cnt F w) && (!b || decide (4 ≤ cnt7 F w))) := rfl
            have next : ∀ a S', a = bestS b F (i + 1) → Leq nx S' { f := [(16, .int .i64 ((i + 1 : Nat) : Int)), (1, .bool b), (13, .vec (nx + 3)), (11, .ptr nx 0), (15, .int .i64 a)], h := [(nx, .cells [.dat (.slice 3) (.list (joinL (sixL 0) N)), .dat (.ptr 139) (wQ (sixL 0) N 4).enc, .dat (.slice 3) (.list (wL (sixL 0) N)), .int .i64 (wN N), .vec (nx + 1), .vec (nx + 2)]), (nx + 1, .map 3 2 F), (nx + 2, .map 3 3 mEmpty), (nx + 3, .arr 2 (.int .i64) G)] ++ h, nx := nx + 4 } → B2 S' := fun a S' e1 hl => by
              subst e1
              exact hB2 _ ⟨i + 1, by omega⟩ (by simp only []; omega) hl
            by_cases h1 : 4 ≤ cnt F w
            · have d1 : decide (4 ≤ (cnt F w : Int)) = true := decide_eq_true (by omega)
              rw [decide_eq_true h1, Bool.true_and] at hen
              rcases bool_ft b with rfl | rfl
              · rw [hen] at hst
                rw [if_pos (by simp)] at hst
                simp (maxSteps := 4000000) only [go_sem, goD_calls, eq_self, implies_true, Int.reduceEq, Int.reduceBEq, Int.reduceBNe, Int.reduceLE, Int.reduceLT, Int.reduceAdd, Int.reduceSub, Int.reduceMul, Int.reduceNeg, Nat.reduceMul, Nat.reduceSub, Nat.reduceLeDiff, Nat.reduceLT, Nat.reduceEqDiff, Nat.reduceAdd, reduceCtorEq, ↓reduceIte, reduceIte, c5, d1, hGi, Bool.not_false, Bool.not_true, Int.toNat_natCast, min_i64, max_i64]
                repeat refine ⟨by omega, ?_⟩
                refine next _ _ hst.symm ?_
                refine leq_id ?_ (by (simp only [frLt_cons, frLt_nil, and_true, SV.lt, SV.ltL, true_and] <;> omega)) (by ((try simp only []); repeat first | exact HLe.refl _ | refine HLe.cons (by simp only [hget, Nat.reduceEqDiff, Nat.left_eq_add, Nat.add_eq_left, nm_ne2, nm_en2, nm_ne3, nm_en3, nm_ne4, nm_en4, nm_ne5, nm_en5, reduceIte, ↓reduceIte] <;> first | rfl | ((repeat rw [if_neg (by omega)]) <;> rfl)) ?_ | refine HLe.skip hnm (by omega) ?_ | refine HLe.frz hnm (by omega) ?_ | refine HLe.del hnm (by omega) ?_)) (by (repeat first | exact HLt.mono hnm (by simp only [] <;> omega) | refine HLt.cons (by simp only [] <;> omega) (by simp only [Tok.lt, SV.ltL, SV.lt, and_true, true_and] <;> omega) ?_)) (by simp only [] <;> omega)
                simp only [frEq_cons, frEq_nil, frIn_cons, frIn_nil, and_true, fget_cons, Nat.reduceEqDiff, reduceIte, ↓reduceIte, true_and, SV.ren, SV.renL, ren1]
                simp
              · by_cases h2 : 4 ≤ cnt7 F w
                · have d2 : decide (4 ≤ (cnt7 F w : Int)) = true := decide_eq_true (by omega)
                  rw [hen, decide_eq_true h2, if_pos (by simp)] at hst
                  simp (maxSteps := 4000000) only [go_sem, goD_calls, eq_self, implies_true, Int.reduceEq, Int.reduceBEq, Int.reduceBNe, Int.reduceLE, Int.reduceLT, Int.reduceAdd, Int.reduceSub, Int.reduceMul, Int.reduceNeg, Nat.reduceMul, Nat.reduceSub, Nat.reduceLeDiff, Nat.reduceLT, Nat.reduceEqDiff, Nat.reduceAdd, reduceCtorEq, ↓reduceIte, reduceIte, c5, d1, d2, hGi, Bool.not_false, Bool.not_true, Int.toNat_natCast, min_i64, max_i64]
                  repeat refine ⟨by omega, ?_⟩
                  refine next _ _ hst.symm ?_
                  refine leq_id ?_ (by (simp only [frLt_cons, frLt_nil, and_true, SV.lt, SV.ltL, true_and] <;> omega)) (by ((try simp only []); repeat first | exact HLe.refl _ | refine HLe.cons (by simp only [hget, Nat.reduceEqDiff, Nat.left_eq_add, Nat.add_eq_left, nm_ne2, nm_en2, nm_ne3, nm_en3, nm_ne4, nm_en4, nm_ne5, nm_en5, reduceIte, ↓reduceIte] <;> first | rfl | ((repeat rw [if_neg (by omega)]) <;> rfl)) ?_ | refine HLe.skip hnm (by omega) ?_ | refine HLe.frz hnm (by omega) ?_ | refine HLe.del hnm (by omega) ?_)) (by (repeat first | exact HLt.mono hnm (by simp only [] <;> omega) | refine HLt.cons (by simp only [] <;> omega) (by simp only [Tok.lt, SV.ltL, SV.lt, and_true, true_and] <;> omega) ?_)) (by simp only [] <;> omega)
                  simp only [frEq_cons, frEq_nil, frIn_cons, frIn_nil, and_true, fget_cons, Nat.reduceEqDiff, reduceIte, ↓reduceIte, true_and, SV.ren, SV.renL, ren1]
                  simp
                · have d2 : decide (4 ≤ (cnt7 F w : Int)) = false := decide_eq_false (by omega)
                  rw [hen, decide_eq_false h2, if_neg (by simp)] at hst
                  simp (maxSteps := 4000000) only [go_sem, goD_calls, eq_self, implies_true, Int.reduceEq, Int.reduceBEq, Int.reduceBNe, Int.reduceLE, Int.reduceLT, Int.reduceAdd, Int.reduceSub, Int.reduceMul, Int.reduceNeg, Nat.reduceMul, Nat.reduceSub, Nat.reduceLeDiff, Nat.reduceLT, Nat.reduceEqDiff, Nat.reduceAdd, reduceCtorEq, ↓reduceIte, reduceIte, c5, d1, d2, hGi, Bool.not_false, Bool.not_true, Int.toNat_natCast, min_i64, max_i64]
                  repeat refine ⟨by omega, ?_⟩
                  refine next _ _ hst.symm ?_
                  refine leq_id ?_ (by (simp only [frLt_cons, frLt_nil, and_true, SV.lt, SV.ltL, true_and] <;> omega)) (by ((try simp only []); repeat first | exact HLe.refl _ | refine HLe.cons (by simp only [hget, Nat.reduceEqDiff, Nat.left_eq_add, Nat.add_eq_left, nm_ne2, nm_en2, nm_ne3, nm_en3, nm_ne4, nm_en4, nm_ne5, nm_en5, reduceIte, ↓reduceIte] <;> first | rfl | ((repeat rw [if_neg (by omega)]) <;> rfl)) ?_ | refine HLe.skip hnm (by omega) ?_ | refine HLe.frz hnm (by omega) ?_ | refine HLe.del hnm (by omega) ?_)) (by (repeat first | exact HLt.mono hnm (by simp only [] <;> omega) | refine HLt.cons (by simp only [] <;> omega) (by simp only [Tok.lt, SV.ltL, SV.lt, and_true, true_and] <;> omega) ?_)) (by simp only [] <;> omega)
                  simp only [frEq_cons, frEq_nil, frIn_cons, frIn_nil, and_true, fget_cons, Nat.reduceEqDiff, reduceIte, ↓reduceIte, true_and, SV.ren, SV.renL, ren1]
                  simp
            · have d1 : decide (4 ≤ (cnt F w : Int)) = false := decide_eq_false (by omega)
              rw [hen, decide_eq_false h1, Bool.false_and, if_neg (by decide)] at hst
              simp (maxSteps := 4000000) only [go_sem, goD_calls, eq_self, implies_true, Int.reduceEq, Int.reduceBEq, Int.reduceBNe, Int.reduceLE, Int.reduceLT, Int.reduceAdd, Int.reduceSub, Int.reduceMul, Int.reduceNeg, Nat.reduceMul, Nat.reduceSub, Nat.reduceLeDiff, Nat.reduceLT, Nat.reduceEqDiff, Nat.reduceAdd, reduceCtorEq, ↓reduceIte, reduceIte, c5, d1, hGi, Int.toNat_natCast, min_i64, max_i64]
              repeat refine ⟨by omega, ?_⟩
              refine next _ _ hst.symm ?_
              refine leq_id ?_ (by (simp only [frLt_cons, frLt_nil, and_true, SV.lt, SV.ltL, true_and] <;> omega)) (by ((try simp only []); repeat first | exact HLe.refl _ | refine HLe.cons (by simp only [hget, Nat.reduceEqDiff, Nat.left_eq_add, Nat.add_eq_left, nm_ne2, nm_en2, nm_ne3, nm_en3, nm_ne4, nm_en4, nm_ne5, nm_en5, reduceIte, ↓reduceIte] <;> first | rfl | ((repeat rw [if_neg (by omega)]) <;> rfl)) ?_ | refine HLe.skip hnm (by omega) ?_ | refine HLe.frz hnm (by omega) ?_ | refine HLe.del hnm (by omega) ?_)) (by (repeat first | exact HLt.mono hnm (by simp only [] <;> omega) | refine HLt.cons (by simp only [] <;> omega) (by simp only [Tok.lt, SV.ltL, SV.lt, and_true, true_and] <;> omega) ?_)) (by simp only [] <;> omega)
              simp only [frEq_cons, frEq_nil, frIn_cons, frIn_nil, and_true, fget_cons, Nat.reduceEqDiff, reduceIte, ↓reduceIte, true_and, SV.ren, SV.renL, ren1]
              simp
      · obtain rfl : i = 7 := by omega
        have c3 : decide (((7 : Nat) : Int) < 7) = false := rfl
        have hpb : pgcl (joinL (sixL 0) N) (wQ (sixL 0) N 4).enc F = best := by rw [hbest, hbs]
        have q2 : (best == best) = true := by simp
        simp (maxSteps := 4000000) only [go_sem, goD_calls, eq_self, implies_true, Int.reduceEq, Int.reduceBEq, Int.reduceBNe, Int.reduceLE, Int.reduceLT, Int.reduceAdd, Int.reduceSub, Int.reduceMul, Int.reduceNeg, Nat.reduceMul, Nat.reduceSub, Nat.reduceLeDiff, Nat.reduceLT, Nat.reduceEqDiff, Nat.reduceAdd, reduceCtorEq, ↓reduceIte, reduceIte, c3, spTAck, spTPgcl, spTScl, spTBorn, spTDrop, spTHas, tOk_c, tA_c, tB_c, tM_c, tP_c, sOk_c, iOk_c, mF_c, m1, p1, hpb, q2, List.length_set]
        exact ⟨fun _ => ⟨by omega, by omega, ret _ _ (by ((try simp only []); repeat first | exact HLe.refl _ | refine HLe.cons (by simp only [hget, Nat.reduceEqDiff, Nat.left_eq_add, Nat.add_eq_left, nm_ne2, nm_en2, nm_ne3, nm_en3, nm_ne4, nm_en4, nm_ne5, nm_en5, reduceIte, ↓reduceIte] <;> first | rfl | ((repeat rw [if_neg (by omega)]) <;> rfl)) ?_ | refine HLe.skip hnm (by omega) ?_ | refine HLe.frz hnm (by omega) ?_ | refine HLe.del hnm (by omega) ?_))⟩, fun _ => ret _ _ (by ((try simp only []); repeat first | exact HLe.refl _ | refine HLe.cons (by simp only [hget, Nat.reduceEqDiff, Nat.left_eq_add, Nat.add_eq_left, nm_ne2, nm_en2, nm_ne3, nm_en3, nm_ne4, nm_en4, nm_ne5, nm_en5, reduceIte, ↓reduceIte] <;> first | rfl | ((repeat rw [if_neg (by omega)]) <;> rfl)) ?_ | refine HLe.skip hnm (by omega) ?_ | refine HLe.frz hnm (by omega) ?_ | refine HLe.del hnm (by omega) ?_))⟩
  · exact hsp.elim
end Go.Proofs.YtkojpimkngmckaaDoor
