/- Chapter 6: QuorJoins. -/
import Derived.Test.YtkmilijehekdoaaDoorQuorX
import Derived.Test.YtkmilijehekdoaaDoorQuorS
namespace Go.Proofs.YtkmilijehekdoaaDoor
set_option linter.unusedVariables false
set_option linter.unusedSimpArgs false
open Go Go.Fw
attribute [local go_sem] walkSet evMdl evMupD evMup evLkp frpL preF preP prePt prePd frzP evNlq ev frOf oget ogets argSs argS evMm frzL evBin evWrp evShf evCmp evUna evNil evBeq evLd evSt evFad evIad evAad evLen evSln evEls evApp evParts evSlc evNlc evMif evPck evFld evBld evTas evIfq evSeq evSl0 evBxf evAgl evAgq evBsf hget hset hdel cellAt arrAt setCellAt setArrAt takeC lenC svCells SV.okc SV.one ldSV Fw.isAgg explode explodeL toD toDL toD1 Ty.size Ty.sizeL frz1 Fr.sub Heap.sub Tok.sub SV.sub SV.subL

def zx : List Int := [1, 2, 3, 4, 5]
def zy : List Int := [3, 4, 5, 6, 7]
def zz : List Int := [1, 2, 3, 4, 5, 6, 7]
theorem zxy : joinL (zx.map D.int) (zy.map D.int) = zz.map D.int := by
  rw [joinL_rise]
  unfold riseL
  rw [rise_eq (w := zz) (by decide) (fun x => by
    rw [List.map_append, List.map_map, List.map_map]
    have : (D.i ∘ D.int : Int → Int) = id := rfl
    rw [this, List.map_id, List.map_id]
    unfold zx zy zz
    simp
    omega)]
theorem both_setA (kind : Int) (x y : QP) (hk : kind = 1 ∨ kind = 2) : bothR kind x.enc y.enc (zx.map D.int) (zy.map D.int) 1 1 = setOf (if kind = 1 then QP.an x y else QP.or x y).enc (zz.map D.int) 2 := by
  unfold bothR
  rw [zxy, if_neg (by decide)]
  rcases hk with rfl | rfl
  · rw [if_pos rfl]; rfl
  · rw [if_neg (by decide)]; rfl
def WQuorJoins : Opts := mkWF 91 [] [0, 1] [] 152 [0, 1] [] [] [67, 69, 86, 88]
def icQuorJoins : IC := (.seq (.seq (.ops [(.u (.mov 6 (.c (.bool false))))]) (.tr [0, 1, 2])) (.seq (.seq (.ops [(.u (.call 18 (.c (.clo 11 [])) [] [] true)), (.u (.mov 7 (.s 18)))]) (.tr [0, 1, 2, 7])) (.seq (.seq (.seq (.ops [(.u (.mov 19 (.s 7))), (.u (.una 20 .not (.s 19)))]) (.tr [20, 0, 1, 2, 7])) (.cond (.s 20) (.seq (.seq (.ops [(.u (.mov 6 (.c (.bool false))))]) (.tr [6])) .ret) .skip)) (.seq (.seq (.ops [(.u (.bsl 21 3 (.int .i64) [(.c (.int .i64 1)), (.c (.int .i64 2)), (.c (.int .i64 3)), (.c (.int .i64 4)), (.c (.int .i64 5))])), (.u (.mov 8 (.s 21)))]) (.tr [0, 8, 1, 2, 7])) (.seq (.seq (.ops [(.u (.bsl 22 3 (.int .i64) [(.c (.int .i64 3)), (.c (.int .i64 4)), (.c (.int .i64 5)), (.c (.int .i64 6)), (.c (.int .i64 7))])), (.u (.mov 9 (.s 22)))]) (.tr [0, 8, 1, 9, 2, 7])) (.seq (.seq (.ops [(.u (.mov 24 (.s 0))), (.u (.call 25 (.c (.clo 12 [])) [(.s 24), (.c (.int .i64 5))] [none, none] true)), (.u (.bin 26 .add .i64 (.s 25) (.c (.int .i64 1)))), (.u (.mov 27 (.s 8))), (.u (.call 28 (.c (.clo 13 [])) [(.s 26), (.s 27)] [none, (some 3)] true)), (.u (.mov 23 (.s 28))), (.u (.ext 29 0 (.s 23))), (.u (.ext 30 1 (.s 23))), (.u (.alc 10 [(.dat (.ptr 65) .nil), .nils, (.int .i64 0)])), (.u (.st (.strct [(.ptr 65), (.slice 3), (.int .i64)]) (.s 10) (.s 29))), (.u (.mov 11 (.s 30)))]) (.tr [1, 9, 2, 11, 7, 10])) (.seq (.seq (.ops [(.u (.mov 32 (.s 1))), (.u (.call 33 (.c (.clo 12 [])) [(.s 32), (.c (.int .i64 5))] [none, none] true)), (.u (.bin 34 .add .i64 (.s 33) (.c (.int .i64 1)))), (.u (.mov 35 (.s 9))), (.u (.call 36 (.c (.clo 13 [])) [(.s 34), (.s 35)] [none, (some 3)] true)), (.u (.mov 31 (.s 36))), (.u (.ext 37 0 (.s 31))), (.u (.ext 38 1 (.s 31))), (.u (.alc 12 [(.dat (.ptr 65) .nil), .nils, (.int .i64 0)])), (.u (.st (.strct [(.ptr 65), (.slice 3), (.int .i64)]) (.s 12) (.s 37))), (.u (.mov 13 (.s 38)))]) (.tr [2, 11, 13, 7, 10, 12])) (.seq (.seq (.ops [(.u (.mov 40 (.s 2))), (.u (.call 41 (.c (.clo 12 [])) [(.s 40), (.c (.int .i64 7))] [none, none] true)), (.u (.bin 42 .add .i64 (.s 41) (.c (.int .i64 1)))), (.u (.bsl 43 3 (.int .i64) [(.c (.int .i64 1)), (.c (.int .i64 2)), (.c (.int .i64 3)), (.c (.int .i64 4)), (.c (.int .i64 5)), (.c (.int .i64 6)), (.c (.int .i64 7))])), (.u (.call 44 (.c (.clo 13 [])) [(.s 42), (.s 43)] [none, (some 3)] true)), (.u (.mov 39 (.s 44))), (.u (.ext 45 0 (.s 39))), (.u (.ext 46 1 (.s 39))), (.u (.alc 14 [(.dat (.ptr 65) .nil), .nils, (.int .i64 0)])), (.u (.st (.strct [(.ptr 65), (.slice 3), (.int .i64)]) (.s 14) (.s 45))), (.u (.mov 15 (.s 46)))]) (.tr [11, 13, 15, 7, 10, 12, 14])) (.seq (.seq (.seq (.ops [(.u (.mov 47 (.s 11))), (.u (.eqb 48 true 0 (.s 47))), (.u (.mov 49 (.s 48))), (.g 49 false (some 50) (.mov 50 (.s 13))), (.g 49 false (some 51) (.eqb 51 true 0 (.s 50))), (.u (.pck 52 (.s 49) (.c (.bool true)) (.s 51))), (.u (.mov 53 (.s 52))), (.g 53 false (some 54) (.mov 54 (.s 15))), (.g 53 false (some 55) (.eqb 55 true 0 (.s 54))), (.u (.pck 56 (.s 53) (.c (.bool true)) (.s 55)))]) (.tr [56, 7, 10, 12, 14])) (.cond (.s 56) (.seq (.seq (.ops [(.u (.mov 6 (.c (.bool false))))]) (.tr [6])) .ret) .skip)) (.seq (.seq (.ops [(.u (.ld 57 (.strct [(.ptr 65), (.slice 3), (.int .i64)]) (.s 10))), (.u (.ld 58 (.strct [(.ptr 65), (.slice 3), (.int .i64)]) (.s 14))), (.u (.call 59 (.c (.clo 15 [])) [(.s 57), (.s 58)] [none, none] true)), (.u (.mov 16 (.s 59)))]) (.tr [7, 16, 10, 12, 14])) (.seq (.seq (.ops [(.u (.ld 60 (.strct [(.ptr 65), (.slice 3), (.int .i64)]) (.s 12))), (.u (.ld 61 (.strct [(.ptr 65), (.slice 3), (.int .i64)]) (.s 14))), (.u (.call 62 (.c (.clo 15 [])) [(.s 60), (.s 61)] [none, none] true)), (.u (.mov 17 (.s 62)))]) (.tr [7, 16, 17, 10, 12, 14])) (.seq (.seq (.rgn [] [(false, (.u (.mov 63 (.s 7)))), (false, (.u (.mov 64 (.s 63)))), (false, (.g 64 true (some 65) (.ld 65 (.strct [(.ptr 65), (.slice 3), (.int .i64)]) (.s 10)))), (false, (.g 64 true (some 66) (.ld 66 (.strct [(.ptr 65), (.slice 3), (.int .i64)]) (.s 12)))), (false, (.g 64 true (some 68) (.ld 68 (.strct [(.ptr 65), (.slice 3), (.int .i64)]) (.s 14)))), (false, (.g 64 true (some 70) (.mov 70 (.s 16)))), (true, (.g 64 true (some 67) (.call 67 (.c (.clo 21 [])) [(.s 65), (.s 66)] [none, none] true))), (true, (.g 64 true (some 69) (.call 69 (.c (.clo 15 [])) [(.s 67), (.s 68)] [none, none] true))), (false, (.g 64 true (some 71) (.mov 71 (.s 70)))), (false, (.g 71 true (some 72) (.mov 72 (.s 17)))), (false, (.g 64 true (some 73) (.pck 73 (.s 71) (.s 72) (.c (.bool false))))), (false, (.g 64 true (some 74) (.beq 74 false (.s 69) (.s 73)))), (false, (.u (.pck 75 (.s 64) (.s 74) (.c (.bool false))))), (false, (.u (.mov 76 (.s 75)))), (false, (.g 76 true (some 77) (.mov 77 (.s 16)))), (false, (.g 76 true (some 78) (.una 78 .not (.s 77)))), (false, (.g 76 true (some 79) (.mov 79 (.s 78)))), (false, (.g 79 true (some 80) (.mov 80 (.s 17)))), (false, (.g 79 true (some 81) (.una 81 .not (.s 80)))), (false, (.g 76 true (some 82) (.pck 82 (.s 79) (.s 81) (.c (.bool false))))), (false, (.g 76 true (some 83) (.mov 83 (.s 82)))), (false, (.g 83 false (some 84) (.ld 84 (.strct [(.ptr 65), (.slice 3), (.int .i64)]) (.s 10)))), (false, (.g 83 false (some 85) (.ld 85 (.strct [(.ptr 65), (.slice 3), (.int .i64)]) (.s 12)))), (false, (.g 83 false (some 87) (.ld 87 (.strct [(.ptr 65), (.slice 3), (.int .i64)]) (.s 14)))), (true, (.g 83 false (some 86) (.call 86 (.c (.clo 22 [])) [(.s 84), (.s 85)] [none, none] true))), (true, (.g 83 false (some 88) (.call 88 (.c (.clo 15 [])) [(.s 86), (.s 87)] [none, none] true))), (false, (.g 76 true (some 89) (.pck 89 (.s 83) (.c (.bool true)) (.s 88)))), (false, (.u (.pck 90 (.s 76) (.s 89) (.c (.bool false))))), (false, (.u (.mov 6 (.s 90))))]) (.tr [6])) .ret))))))))))))
def rsQuorJoins : List RV := [(.t 6)]
theorem irQuorJoins : fnIR Tryd.prog WQuorJoins 5 = some (icQuorJoins, rsQuorJoins) := by kernel_rfl
def spQuorJoins : FSpec := fun args h nx K => match args with
  | [.int .i64 a, .int .i64 b, .int .i64 c] => K (.bool true) h
  | _ => False
set_option maxHeartbeats 4000000 in
set_option maxRecDepth 8000 in
theorem vQuorJoins {E : Nat → Value} (hE : Errs2 Tryd.prog (some 152) E) : Valid Tryd.prog E (gs GQO) 5 spQuorJoins := by
  refine valid_go (W := WQuorJoins) hE ((((((allValid_bot.add (up (vL6first hE))).add (up (vNumber hE))).add (up (vQOfS hE))).add (up (vQMeetsV hE))).add (up (vQOr hE))).add (up (vQAnd hE))) irQuorJoins (by decide) (fun args h nx K hsp hok hnm => ?_)
  unfold spQuorJoins at hsp
  split at hsp
  · rename_i a0 b0 c0
    have hK := hsp
    refine ⟨by simp [WQuorJoins, mkW, mkWE, mkWF], fun Q hQ => ?_⟩
    have ret : ∀ h' nx', HLe h h' → Q Ex.ret ⟨[(6, .bool true)], h', nx'⟩ := fun h' nx' hh => by
      refine (hQ _ ?_).1
      exact fin_t (.bool true) rfl rfl hnm hh hK
    have g5 : (0 : Int) < 5 := by decide
    have g7 : (0 : Int) < 7 := by decide
    obtain ⟨a', ha0⟩ : ∃ x, a0 % 5 = x := ⟨_, rfl⟩
    obtain ⟨b', hb0⟩ : ∃ x, b0 % 5 = x := ⟨_, rfl⟩
    obtain ⟨c', hc0⟩ : ∃ x, c0 % 7 = x := ⟨_, rfl⟩
    have ra : 0 ≤ a' ∧ a' < 5 := by rw [← ha0]; exact ⟨Int.emod_nonneg _ (by decide), Int.emod_lt_of_pos _ (by decide)⟩
    have rb : 0 ≤ b' ∧ b' < 5 := by rw [← hb0]; exact ⟨Int.emod_nonneg _ (by decide), Int.emod_lt_of_pos _ (by decide)⟩
    have rc : 0 ≤ c' ∧ c' < 7 := by rw [← hc0]; exact ⟨Int.emod_nonneg _ (by decide), Int.emod_lt_of_pos _ (by decide)⟩
    obtain ⟨a, ha⟩ : ∃ x, a' + 1 = x := ⟨_, rfl⟩
    obtain ⟨b, hb⟩ : ∃ x, b' + 1 = x := ⟨_, rfl⟩
    obtain ⟨c, hc⟩ : ∃ x, c' + 1 = x := ⟨_, rfl⟩
    have a1 : 1 ≤ a := by omega
    have b1 : 1 ≤ b := by omega
    have c1 : 1 ≤ c := by omega
    have a2 : a ≤ ((5 : Nat) : Int) := by omega
    have b2 : b ≤ ((5 : Nat) : Int) := by omega
    have c2 : c ≤ ((7 : Nat) : Int) := by omega
    have hx : ([D.int 1, D.int 2, D.int 3, D.int 4, D.int 5].map D.i) = zx := rfl
    have hy : ([D.int 3, D.int 4, D.int 5, D.int 6, D.int 7].map D.i) = zy := rfl
    have hz : ([D.int 1, D.int 2, D.int 3, D.int 4, D.int 5, D.int 6, D.int 7].map D.i) = zz := rfl
    have lx : ([D.int 1, D.int 2, D.int 3, D.int 4, D.int 5] : List D).length = 5 := rfl
    have ly : ([D.int 3, D.int 4, D.int 5, D.int 6, D.int 7] : List D).length = 5 := rfl
    have lz : ([D.int 1, D.int 2, D.int 3, D.int 4, D.int 5, D.int 6, D.int 7] : List D).length = 7 := rfl
    have px : zx.Pairwise (· < ·) := by decide
    have py : zy.Pairwise (· < ·) := by decide
    have pz : zz.Pairwise (· < ·) := by decide
    have rx : ∀ x ∈ zx, 0 ≤ x ∧ x < 64 := by decide
    have ry : ∀ x ∈ zy, 0 ≤ x ∧ x < 64 := by decide
    have rz : ∀ x ∈ zz, 0 ≤ x ∧ x < 64 := by decide
    have i1 : (1 : Nat) ≤ 5 := by decide
    have i2 : (5 : Nat) ≤ 16 := by decide
    have i3 : (1 : Nat) ≤ 7 := by decide
    have i4 : (7 : Nat) ≤ 16 := by decide
    have ox := of_okZ (k := a) rx (by decide)
    have oy := of_okZ (k := b) ry (by decide)
    have oz := of_okZ (k := c) rz (by decide)
    have oX := okD_enc ox
    have oY := okD_enc oy
    have oZ := okD_enc oz
    have oO : okD (QP.or (QP.of a zx) (QP.of b zy)).enc := okD_enc ⟨ox, oy⟩
    have oA : okD (QP.an (QP.of a zx) (QP.of b zy)).enc := okD_enc ⟨ox, oy⟩
    have mx : (zx.map D.int).length ≤ 16 := by decide
    have my : (zy.map D.int).length ≤ 16 := by decide
    have mz : (zz.map D.int).length ≤ 16 := by decide
    have nX := nodes_of (k := a) a1 (by decide) rx
    have nY := nodes_of (k := b) b1 (by decide) ry
    have nZ := nodes_of (k := c) c1 (by decide) rz
    obtain ⟨nA, nO⟩ := nodes_two nX nY (by rw [zxy]; exact mz)
    rw [zxy] at nA nO
    obtain ⟨o1, ho1⟩ : ∃ o, meetsB (QP.of a zx) (zx.map D.int) (QP.of c zz) (zz.map D.int) = o := ⟨_, rfl⟩
    obtain ⟨o2, ho2⟩ : ∃ o, meetsB (QP.of b zy) (zy.map D.int) (QP.of c zz) (zz.map D.int) = o := ⟨_, rfl⟩
    have hor : meetsV (QP.or (QP.of a zx) (QP.of b zy)).enc (zz.map D.int) (QP.of c zz).enc (zz.map D.int) = (o1 && o2) := by rw [meetsV_enc, meets_or nX nY nZ nO, ho1, ho2]
    have han : o1 = true ∨ o2 = true → meetsV (QP.an (QP.of a zx) (QP.of b zy)).enc (zz.map D.int) (QP.of c zz).enc (zz.map D.int) = true := fun h => by rw [meetsV_enc]; exact meets_an nX nY nZ nA (by rw [ho1, ho2]; exact h)
    have h1 : meetsV (QP.of a zx).enc (zx.map D.int) (QP.of c zz).enc (zz.map D.int) = o1 := by rw [meetsV_enc, ho1]
    have h2 : meetsV (QP.of b zy).enc (zy.map D.int) (QP.of c zz).enc (zz.map D.int) = o2 := by rw [meetsV_enc, ho2]
    simp (maxSteps := 4000000) only [icQuorJoins, go_sem, goD_calls, eq_self, implies_true, Int.reduceEq, Int.reduceBEq, Int.reduceBNe, Int.reduceLE, Int.reduceLT, Int.reduceAdd, Int.reduceSub, Int.reduceMul, Int.reduceNeg, Nat.reduceMul, Nat.reduceSub, Nat.reduceLeDiff, Nat.reduceLT, Nat.reduceEqDiff, Nat.reduceAdd, reduceCtorEq, ↓reduceIte, reduceIte, spL6first, spNumber, g5, g7, ha0, hb0, hc0, ha, hb, hc, spQOfS, setOf, hx, hy, hz, lx, ly, lz, px, py, pz, i1, i2, i3, i4, a1, b1, c1, a2, b2, c2, spQMeetsV, oX, oY, oZ, mx, my, mz, h1, h2, ex_list]
    refine ⟨⟨by rw [min_i64]; omega, by rw [max_i64]; omega⟩, rx, ⟨by rw [min_i64]; omega, by rw [max_i64]; omega⟩, ry, ⟨by rw [min_i64]; omega, by rw [max_i64]; omega⟩, rz, ?_⟩
    refine ⟨rfl, rfl, .inr (.inr ⟨_, _, rfl, rfl, QP.enc_notNil _, QP.enc_notNil _, by decide, by decide, by decide, by decide, by decide, by decide, ?_⟩)⟩
    have hbO : bothR 2 (QP.of a zx).enc (QP.of b zy).enc (zx.map D.int) (zy.map D.int) 1 1 = .agg [.dat (.ptr 65) (QP.or (QP.of a zx) (QP.of b zy)).enc, .dat (.slice 3) (.list (zz.map D.int)), .int .i64 2] := by rw [both_setA _ _ _ (.inr rfl)]; rfl
    have hbA : bothR 1 (QP.of a zx).enc (QP.of b zy).enc (zx.map D.int) (zy.map D.int) 1 1 = .agg [.dat (.ptr 65) (QP.an (QP.of a zx) (QP.of b zy)).enc, .dat (.slice 3) (.list (zz.map D.int)), .int .i64 2] := by rw [both_setA _ _ _ (.inl rfl)]; rfl
    simp (maxSteps := 4000000) only [go_sem, goD_calls, eq_self, implies_true, Int.reduceEq, Int.reduceBEq, Int.reduceBNe, Int.reduceLE, Int.reduceLT, Int.reduceAdd, Int.reduceSub, Int.reduceMul, Int.reduceNeg, Nat.reduceMul, Nat.reduceSub, Nat.reduceLeDiff, Nat.reduceLT, Nat.reduceEqDiff, Nat.reduceAdd, reduceCtorEq, ↓reduceIte, reduceIte, hbO]
    rcases bool_ftS o1 with rfl | rfl <;> rcases bool_ftS o2 with rfl | rfl
    · simp (maxSteps := 4000000) only [go_sem, goD_calls, eq_self, implies_true, Int.reduceEq, Int.reduceBEq, Int.reduceBNe, Int.reduceLE, Int.reduceLT, Int.reduceAdd, Int.reduceSub, Int.reduceMul, Int.reduceNeg, Nat.reduceMul, Nat.reduceSub, Nat.reduceLeDiff, Nat.reduceLT, Nat.reduceEqDiff, Nat.reduceAdd, reduceCtorEq, ↓reduceIte, reduceIte, spQMeetsV, oO, oZ, mz, ex_list, hor]
      exact ret _ _ (by ((try simp only []); repeat first | exact HLe.refl _ | refine HLe.cons (by simp only [hget, Nat.reduceEqDiff, Nat.left_eq_add, Nat.add_eq_left, nm_ne2, nm_en2, nm_ne3, nm_en3, nm_ne4, nm_en4, nm_ne5, nm_en5, reduceIte, ↓reduceIte] <;> first | rfl | ((repeat rw [if_neg (by omega)]) <;> rfl)) ?_ | refine HLe.skip hnm (by omega) ?_ | refine HLe.frz hnm (by omega) ?_ | refine HLe.del hnm (by omega) ?_))
    all_goals
      have hA := han (by simp)
      simp (maxSteps := 4000000) only [go_sem, goD_calls, eq_self, implies_true, Int.reduceEq, Int.reduceBEq, Int.reduceBNe, Int.reduceLE, Int.reduceLT, Int.reduceAdd, Int.reduceSub, Int.reduceMul, Int.reduceNeg, Nat.reduceMul, Nat.reduceSub, Nat.reduceLeDiff, Nat.reduceLT, Nat.reduceEqDiff, Nat.reduceAdd, reduceCtorEq, ↓reduceIte, reduceIte, spQMeetsV, oO, oZ, mz, ex_list, hor]
      refine ⟨rfl, rfl, .inr (.inr ⟨_, _, rfl, rfl, QP.enc_notNil _, QP.enc_notNil _, by decide, by decide, by decide, by decide, by decide, by decide, ?_⟩)⟩
      simp (maxSteps := 4000000) only [go_sem, goD_calls, eq_self, implies_true, Int.reduceEq, Int.reduceBEq, Int.reduceBNe, Int.reduceLE, Int.reduceLT, Int.reduceAdd, Int.reduceSub, Int.reduceMul, Int.reduceNeg, Nat.reduceMul, Nat.reduceSub, Nat.reduceLeDiff, Nat.reduceLT, Nat.reduceEqDiff, Nat.reduceAdd, reduceCtorEq, ↓reduceIte, reduceIte, hbA, spQMeetsV, oA, oZ, mz, ex_list, hA]
      exact ret _ _ (by ((try simp only []); repeat first | exact HLe.refl _ | refine HLe.cons (by simp only [hget, Nat.reduceEqDiff, Nat.left_eq_add, Nat.add_eq_left, nm_ne2, nm_en2, nm_ne3, nm_en3, nm_ne4, nm_en4, nm_ne5, nm_en5, reduceIte, ↓reduceIte] <;> first | rfl | ((repeat rw [if_neg (by omega)]) <;> rfl)) ?_ | refine HLe.skip hnm (by omega) ?_ | refine HLe.frz hnm (by omega) ?_ | refine HLe.del hnm (by omega) ?_))
  · exact hsp.elim
end Go.Proofs.YtkmilijehekdoaaDoor
