/- Chapter 15: PointSpans. -/
import Derived.Test.YtmjenjccinfbaaaDoorPntK
import Derived.Test.YtmjenjccinfbaaaDoorLsnR
namespace Go.Proofs.YtmjenjccinfbaaaDoor
set_option linter.unusedVariables false
set_option linter.unusedSimpArgs false
open Go Go.Fw
attribute [local go_sem] walkSet evMdl evMupD evMup evLkp frpL eltP eltV eltK preF preP prePt prePd frzP evNlq ev frOf oget ogets argSs argS evCat evMm frzL evBin evWrp evShf evCmp evUna evNil evBeq evLd evSt evFad evIad evAad evLen evSln evEls evApp evParts evSlc evNlc evMif evPck evFld evBld evTas evIfq evSeq evSl0 evBxf evAgl evAgq evBsf hget hset hdel cellAt arrAt setCellAt setArrAt takeC lenC svCells SV.okc SV.one ldSV Fw.isAgg explode explodeL toD toDL toD1 Ty.size Ty.sizeL frz1 Fr.sub Heap.sub Tok.sub SV.sub SV.subL

theorem and_63 (x : Int) : bitI .and .i64 x 63 = x % 64 := by
  show IntKind.i64.wrap ((BitVec.ofInt 64 x &&& BitVec.ofInt 64 63).toNat : Nat) = _
  have h : (BitVec.ofInt 64 x &&& BitVec.ofInt 64 63).toNat = (BitVec.ofInt 64 x).toNat % 64 := by
    rw [BitVec.toNat_and]
    have : (BitVec.ofInt 64 63).toNat = 2 ^ 6 - 1 := by decide
    rw [this, Nat.and_two_pow_sub_one_eq_mod]
  rw [h, BitVec.toNat_ofInt, wrap_self _ (by rw [min_i64, max_i64]; omega)]
  omega
abbrev oneS (f t : Int) : List D := [.node [.int 1, .int f, .int t]]
theorem one_has {f t n : Int} {s : D} (hs : s ∈ oneS f t) : hasD s n ↔ f < n ∧ n ≤ t := by
  rw [List.mem_singleton] at hs
  subst hs
  exact Iff.rfl
theorem next_one {f t : Int} (h : f < t) (a : Int) : nextF (oneS f t) a = if f < a + 1 ∧ a + 1 ≤ t then t + 1 else a + 1 := by
  split
  · rename_i hc
    refine nextF_eq ⟨by omega, fun s hs hh => ?_, fun k h1 h2 => ⟨_, List.mem_singleton.2 rfl, ?_⟩⟩
    · have := (one_has hs).1 hh; omega
    · exact (one_has (List.mem_singleton.2 rfl)).2 ⟨by omega, by omega⟩
  · rename_i hc
    refine nextF_eq ⟨by omega, fun s hs hh => ?_, fun k h1 h2 => by omega⟩
    have := (one_has hs).1 hh; omega
theorem one_low {f t : Int} (h : t ≤ 9223372036854775806) : lowT (oneS f t) := by
  intro s hs
  rw [List.mem_singleton] at hs
  subst hs
  exact h
theorem one_valid {f t : Int} (h0 : 0 ≤ f) (h1 : f < t) (h2 : t ≤ 1099511627776) : validD (oneS f t) = .nil := by
  refine validD_nil (by simp) (fun i hi => ?_)
  rw [List.length_singleton] at hi
  obtain rfl : i = 0 := by omega
  unfold okAt
  rw [if_neg, if_neg (fun h => Nat.lt_irrefl 0 h.1)]
  simp only [spE, spF, spT, List.getD_cons_zero, D.fld, D.fs, List.getD_cons_succ, D.i]
  omega
noncomputable def seqP (sp : List D) (a : Int) : Nat → Int
  | 0 => a
  | k + 1 => nextF sp (seqP sp a k)
noncomputable def rowP (sp : List D) (a : Int) (i : Nat) : List D := (List.range i).map fun (j : Nat) => sent3 (seqP sp a (j + 1)) ((j : Int) % 2) true
theorem rowP_len (sp : List D) (a : Int) (i : Nat) : (rowP sp a i).length = i := by unfold rowP; rw [List.length_map, List.length_range]
theorem rowP_step (sp : List D) (a : Int) (i : Nat) : rowP sp a (i + 1) = rowP sp a i ++ [sent3 (nextF sp (seqP sp a i)) ((i : Int) % 2) true] := by unfold rowP; rw [List.range_succ, List.map_append]; rfl
theorem rowP_at (sp : List D) (a : Int) {i j : Nat} (h : j < i) : (rowP sp a i).getD j .nil = sent3 (seqP sp a (j + 1)) ((j : Int) % 2) true := by
  unfold rowP
  rw [List.getD_eq_getElem?_getD, List.getElem?_map, List.getElem?_range h]
  rfl
theorem seqP_range {f t a : Int} (hf : f < t) (ht : t ≤ 128) (h0 : 0 ≤ a) (h1 : a ≤ 63) : ∀ k : Nat, a + k ≤ seqP (oneS f t) a k ∧ seqP (oneS f t) a k ≤ 200 + k
  | 0 => ⟨by show a + (0 : Int) ≤ a; omega, by show a ≤ 200 + (0 : Int); omega⟩
  | k + 1 => by
    have := seqP_range hf ht h0 h1 k
    show a + ((k + 1 : Nat) : Int) ≤ nextF (oneS f t) (seqP (oneS f t) a k) ∧ nextF (oneS f t) (seqP (oneS f t) a k) ≤ 200 + ((k + 1 : Nat) : Int)
    rw [next_one hf]
    split <;> omega
theorem seqP_le {f t a : Int} (hf : f < t) {j : Nat} : ∀ {k : Nat}, j ≤ k → seqP (oneS f t) a j ≤ seqP (oneS f t) a k
  | 0, h => by obtain rfl : j = 0 := by omega
               exact Int.le_refl _
  | k + 1, h => by
    by_cases e : j = k + 1
    · rw [e]; exact Int.le_refl _
    · have h1 := seqP_le (a := a) hf (j := j) (k := k) (by omega)
      have h2 := (nextF_is (oneS f t) (seqP (oneS f t) a k)).1
      show _ ≤ nextF (oneS f t) (seqP (oneS f t) a k)
      omega
theorem rowP_gr (sp : List D) (a : Int) (i : Nat) {F : List D} (hF : F.length = 2) : grOk (rowP sp a i) F := by
  intro j hj
  rw [rowP_len] at hj
  rw [rowP_at sp a hj, hF]
  show 0 ≤ (j : Int) % 2 ∧ (j : Int) % 2 < 2
  omega
theorem rowP_ok (sp : List D) (a : Int) (F : List Int) {i j : Nat} (h : j < i) : okS (rowP sp a i) (F.map D.int) j ↔ seqP sp a (j + 1) ≤ F.getD ((j : Int) % 2).toNat 0 := by
  unfold okS
  rw [rowP_at sp a h, getD_ints]
  exact Iff.rfl
theorem rowP_zero {f t a : Int} (hf : f < t) (ht : t ≤ 128) (h0 : 0 ≤ a) (h1 : a ≤ 63) (i : Nat) : isCnt (rowP (oneS f t) a i) ([0, 0].map D.int) 0 := by
  refine ⟨Nat.zero_le _, fun j hj => by omega, ?_⟩
  by_cases e : i = 0
  · exact .inl (by rw [rowP_len, e])
  · refine .inr (fun hk => ?_)
    rw [rowP_ok _ _ _ (by omega)] at hk
    have h3 := (seqP_range hf ht h0 h1 1).1
    have h2 : ([0, 0] : List Int).getD (((0 : Nat) : Int) % 2).toNat 0 = 0 := rfl
    rw [h2] at hk
    have h4 : seqP (oneS f t) a (0 + 1) = seqP (oneS f t) a 1 := rfl
    rw [h4] at hk
    omega
theorem rowP_vc (sp : List D) (a : Int) (n : Nat) : vcA a (rowP sp a n) n = seqP sp a n := by
  cases n with
  | zero => rfl
  | succ n =>
    show (((rowP sp a (n + 1)).getD n .nil).fld 0).i = _
    rw [rowP_at sp a (Nat.lt_succ_self n)]
    rfl
theorem rowP_vd (sp : List D) (a : Int) (n : Nat) : vdA a (rowP sp a n) n = seqP sp a n := by
  cases n with
  | zero => rfl
  | succ n =>
    show (if (((rowP sp a (n + 1)).getD n .nil).fld 2).b then (((rowP sp a (n + 1)).getD n .nil).fld 0).i else vdA a (rowP sp a (n + 1)) n) = _
    rw [rowP_at sp a (Nat.lt_succ_self n)]
    rfl
def WPointSpans : Opts := mkWE 116 [] [0, 1, 2, 3, 4, 5, 6, 7, 8, 9, 10, 11, 12, 13, 14, 15, 16] [] 171 [0, 1, 2, 3, 4, 5, 6, 7, 8, 9, 10, 11, 12, 13, 14, 15, 16] []
def icPointSpans : IC := (.seq (.seq (.ops [(.u (.mov 8 (.c (.bool false))))]) (.tr [0, 1, 2, 3])) (.seq (.seq (.ops [(.u (.call 16 (.c (.clo 15 [])) [] [] true)), (.u (.mov 9 (.s 16)))]) (.tr [0, 1, 2, 3, 9])) (.seq (.seq (.seq (.ops [(.u (.mov 17 (.s 9))), (.u (.una 18 .not (.s 17)))]) (.tr [18, 0, 1, 2, 3, 9])) (.cond (.s 18) (.seq (.seq (.ops [(.u (.mov 8 (.c (.bool false))))]) (.tr [8])) .ret) .skip)) (.seq (.seq (.ops [(.u (.mov 19 (.s 0))), (.u (.bin 20 .and .i64 (.s 19) (.c (.int .i64 63)))), (.u (.mov 0 (.s 20)))]) (.tr [1, 2, 3, 0, 9])) (.seq (.seq (.ops [(.u (.mov 21 (.s 1))), (.u (.bin 22 .and .i64 (.s 21) (.c (.int .i64 63)))), (.u (.mov 1 (.s 22)))]) (.tr [2, 3, 0, 1, 9])) (.seq (.seq (.ops [(.u (.mov 23 (.s 1))), (.u (.bin 24 .add .i64 (.s 23) (.c (.int .i64 1)))), (.u (.mov 25 (.s 2))), (.u (.bin 26 .and .i64 (.s 25) (.c (.int .i64 63)))), (.u (.bin 27 .add .i64 (.s 24) (.s 26))), (.u (.mov 2 (.s 27)))]) (.tr [3, 0, 1, 2, 9])) (.seq (.seq (.ops [(.u (.mov 28 (.s 3))), (.u (.call 29 (.c (.clo 18 [])) [(.s 28), (.c (.int .i64 20))] [none, none] true)), (.u (.bin 30 .add .i64 (.s 29) (.c (.int .i64 1)))), (.u (.mov 3 (.s 30)))]) (.tr [0, 3, 1, 2, 9])) (.seq (.seq (.ops [(.u (.mov 31 (.s 1))), (.u (.mov 32 (.s 2))), (.u (.bld 33 [[(.int .i64 0)], [(.int .i64 0)], [(.int .i64 0)]] [(0, (.c (.int .i64 1))), (1, (.s 31)), (2, (.s 32))])), (.u (.alc 10 [(.int .i64 0), (.int .i64 0), (.int .i64 0)])), (.u (.st (.strct [(.int .i64), (.int .i64), (.int .i64)]) (.s 10) (.s 33)))]) (.tr [0, 3, 1, 2, 9, 10])) (.seq (.seq (.ops [(.u (.mov 35 (.s 0))), (.u (.ld 36 (.strct [(.int .i64), (.int .i64), (.int .i64)]) (.s 10))), (.u (.bsl 37 41 (.strct [(.int .i64), (.int .i64), (.int .i64)]) [(.s 36)])), (.u (.call 38 (.c (.clo 16 [])) [(.c (.int .i64 2)), (.s 35), (.s 37)] [none, none, (some 41)] true)), (.u (.mov 34 (.s 38))), (.u (.ext 39 0 (.s 34))), (.u (.ext 40 1 (.s 34))), (.u (.mov 11 (.s 39))), (.u (.mov 12 (.s 40)))]) (.tr [12, 0, 3, 1, 2, 9, 11, 10])) (.seq (.seq (.seq (.ops [(.u (.mov 41 (.s 11))), (.u (.eqb 42 false 1 (.s 41))), (.u (.mov 43 (.s 42))), (.g 43 false (some 44) (.mov 44 (.s 12))), (.g 43 false (some 45) (.eqb 45 true 0 (.s 44))), (.u (.pck 46 (.s 43) (.c (.bool true)) (.s 45)))]) (.tr [46, 0, 3, 1, 2, 9, 11, 10])) (.cond (.s 46) (.seq (.seq (.ops [(.u (.mov 8 (.c (.bool false))))]) (.tr [8])) .ret) .skip)) (.seq (.seq (.ops [(.u (.mov 47 (.s 0))), (.u (.mov 13 (.s 47)))]) (.tr [3, 1, 2, 9, 11, 10, 13])) (.seq (.seq (.seq (.ops [(.u (.mov 14 (.c (.int .i64 0))))]) (.tr [3, 1, 2, 14, 9, 11, 10, 13])) (.block 0 (.loop (.seq (.seq (.seq (.ops [(.u (.mov 48 (.s 14))), (.u (.mov 49 (.s 3))), (.u (.cmp 50 .lss (.s 48) (.s 49)))]) (.tr [50, 14, 3, 1, 2, 9, 11, 10, 13])) (.cond (.s 50) .skip (.exit 0))) (.seq (.block 1 (.seq (.seq (.ops [(.u (.mov 53 (.s 13))), (.u (.bin 54 .add .i64 (.s 53) (.c (.int .i64 1)))), (.u (.mov 15 (.s 54)))]) (.tr [15, 14, 3, 1, 2, 9, 11, 10])) (.seq (.seq (.seq (.ops [(.u (.mov 55 (.s 15))), (.u (.mov 56 (.s 1))), (.u (.cmp 57 .gtr (.s 55) (.s 56))), (.u (.mov 58 (.s 57))), (.g 58 true (some 59) (.mov 59 (.s 15))), (.g 58 true (some 60) (.mov 60 (.s 2))), (.g 58 true (some 61) (.cmp 61 .leq (.s 59) (.s 60))), (.u (.pck 62 (.s 58) (.s 61) (.c (.bool false))))]) (.tr [62, 15, 14, 3, 1, 2, 9, 11, 10])) (.cond (.s 62) (.seq (.ops [(.u (.mov 63 (.s 2))), (.u (.bin 64 .add .i64 (.s 63) (.c (.int .i64 1)))), (.u (.mov 15 (.s 64)))]) (.tr [15, 14, 3, 1, 2, 9, 11, 10])) .skip)) (.seq (.seq (.seq (.ops [(.u (.mov 65 (.s 11))), (.u (.mov 66 (.s 15))), (.u (.bin 67 .add .i64 (.s 66) (.c (.int .i64 1)))), (.u (.mov 68 (.s 14))), (.u (.bin 69 .rem .i64 (.s 68) (.c (.int .i64 2)))), (.u (.bld 70 [[(.int .i64 0)], [(.int .i64 0)], [(.int .i64 0)], [(.int .i64 0)], [(.int .i64 0)], [(.int .i64 0)], [(.int .i64 0)], [.nils], [.nils], [(.bool false)]] [(0, (.s 67)), (3, (.s 69))])), (.u (.call 71 (.c (.clo 17 [])) [(.s 65), (.s 70)] [none, none] true)), (.u (.call 72 (.c (.clo 23 [])) [(.s 71), (.c (.int .i64 103))] [none, none] true)), (.u (.una 73 .not (.s 72))), (.u (.mov 74 (.s 73))), (.g 74 false (some 75) (.mov 75 (.s 11))), (.g 74 false (some 76) (.mov 76 (.s 15))), (.g 74 false (some 77) (.mov 77 (.s 14))), (.g 74 false (some 78) (.bin 78 .rem .i64 (.s 77) (.c (.int .i64 2)))), (.g 74 false (some 79) (.bld 79 [[(.int .i64 0)], [(.int .i64 0)], [(.int .i64 0)], [(.int .i64 0)], [(.int .i64 0)], [(.int .i64 0)], [(.int .i64 0)], [.nils], [.nils], [(.bool false)]] [(0, (.s 76)), (3, (.s 78)), (9, (.c (.bool true)))])), (.g 74 false (some 80) (.call 80 (.c (.clo 17 [])) [(.s 75), (.s 79)] [none, none] true)), (.g 74 false (some 81) (.eqb 81 true 0 (.s 80))), (.u (.pck 82 (.s 74) (.c (.bool true)) (.s 81)))]) (.tr [82, 15, 14, 3, 1, 2, 9, 11, 10])) (.cond (.s 82) (.seq (.seq (.ops [(.u (.mov 8 (.c (.bool false))))]) (.tr [8])) .ret) .skip)) (.seq (.ops [(.u (.mov 83 (.s 15))), (.u (.mov 13 (.s 83)))]) (.tr [14, 3, 1, 2, 9, 11, 10, 13])))))) (.seq (.ops [(.u (.mov 51 (.s 14))), (.u (.bin 52 .add .i64 (.s 51) (.c (.int .i64 1)))), (.u (.mov 14 (.s 52)))]) (.tr [3, 1, 2, 14, 9, 11, 10, 13]))))))) (.seq (.seq (.ops [(.u (.mov 84 (.s 11))), (.u (.mov 85 (.s 13))), (.u (.call 86 (.c (.clo 19 [])) [(.s 84), (.c (.int .i64 0)), (.s 85)] [none, none, none] true))]) (.tr [9, 11, 10, 13])) (.seq (.seq (.ops [(.u (.mov 87 (.s 11))), (.u (.mov 88 (.s 13))), (.u (.call 89 (.c (.clo 19 [])) [(.s 87), (.c (.int .i64 1)), (.s 88)] [none, none, none] true))]) (.tr [9, 11, 10, 13])) (.seq (.seq (.ops [(.u (.mov 90 (.s 9))), (.u (.mov 91 (.s 90))), (.g 91 true (some 92) (.mov 92 (.s 11))), (.g 91 true (some 93) (.call 93 (.c (.clo 21 [])) [(.s 92)] [none] true)), (.g 91 true (some 94) (.mov 94 (.s 13))), (.g 91 true (some 95) (.cmp 95 .eql (.s 93) (.s 94))), (.u (.pck 96 (.s 91) (.s 95) (.c (.bool false)))), (.u (.mov 97 (.s 96))), (.g 97 true (some 98) (.mov 98 (.s 11))), (.g 97 true (some 99) (.call 99 (.c (.clo 20 [])) [(.s 98)] [none] true)), (.g 97 true (some 100) (.mov 100 (.s 13))), (.g 97 true (some 101) (.cmp 101 .eql (.s 99) (.s 100))), (.u (.pck 102 (.s 97) (.s 101) (.c (.bool false)))), (.u (.mov 103 (.s 102))), (.g 103 true (some 104) (.mov 104 (.s 11))), (.g 103 true (some 105) (.call 105 (.c (.clo 22 [])) [(.s 104)] [none] true)), (.g 103 true (some 106) (.cmp 106 .eql (.s 105) (.c (.int .i64 0)))), (.u (.pck 107 (.s 103) (.s 106) (.c (.bool false)))), (.u (.mov 108 (.s 107))), (.g 108 true (some 109) (.ld 109 (.strct [(.int .i64), (.int .i64), (.int .i64)]) (.s 10))), (.g 108 true (some 110) (.bsl 110 41 (.strct [(.int .i64), (.int .i64), (.int .i64)]) [(.s 109)])), (.g 108 true (some 111) (.mov 111 (.s 13))), (.g 108 true (some 112) (.call 112 (.c (.clo 24 [])) [(.s 110), (.s 111)] [(some 41), none] true)), (.g 108 true (some 113) (.mov 113 (.s 13))), (.g 108 true (some 114) (.cmp 114 .gtr (.s 112) (.s 113))), (.u (.pck 115 (.s 108) (.s 114) (.c (.bool false)))), (.u (.mov 8 (.s 115)))]) (.tr [8])) .ret)))))))))))))))
def rsPointSpans : List RV := [(.t 8)]
theorem irPointSpans : fnIR Tryd.prog WPointSpans 4 = some (icPointSpans, rsPointSpans) := by kernel_rfl
def spPointSpans : FSpec := fun args h nx K => match args with
  | [.int .i64 a, .int .i64 b, .int .i64 c, .int .i64 d] => K (.bool true) h
  | _ => False
set_option maxHeartbeats 4000000 in
set_option maxRecDepth 8000 in
theorem vPointSpans {E : Nat → Value} (hE : Errs2 Tryd.prog (some 171) E) : Valid Tryd.prog E G0 4 spPointSpans := by
  refine valid_go (W := WPointSpans) hE ((((((((((allValid_bot.add (up (vFirst15 hE))).add (up (vPNew hE))).add (up (vPSent hE))).add (up (vPVDL hE))).add (up (vPSafe hE))).add (up (vPVCL hE))).add (up (vPLeft hE))).add (up (vNumber hE))).add (up (vIs hE))).add (up (vRNext hE))) irPointSpans (by decide) (fun args h nx K hsp hok hnm => ?_)
  unfold spPointSpans at hsp
  split at hsp
  · rename_i a b c d
    have hK := hsp
    refine ⟨by simp [WPointSpans, mkW, mkWE, mkWF], fun Q hQ => ?_⟩
    obtain ⟨s0, hs0⟩ : ∃ s, a % 64 = s := ⟨_, rfl⟩
    obtain ⟨f0, hf0⟩ : ∃ s, b % 64 = s := ⟨_, rfl⟩
    obtain ⟨t0, ht0⟩ : ∃ s, c % 64 = s := ⟨_, rfl⟩
    obtain ⟨n, hn, hn1, hn2⟩ : ∃ n : Nat, d % 20 + 1 = (n : Int) ∧ 1 ≤ n ∧ n ≤ 20 := ⟨(d % 20 + 1).toNat, by omega, by omega, by omega⟩
    have g20 : (0 : Int) < 20 := by decide
    have gs : (0 ≤ s0 ∧ s0 ≤ 1099511627776) = True := eq_true ⟨by omega, by omega⟩
    have hv := one_valid (f := f0) (t := f0 + 1 + t0) (by omega) (by omega) (by omega)
    obtain ⟨T, hT⟩ : ∃ T, f0 + 1 + t0 = T := ⟨_, rfl⟩
    have hfT : f0 < T := by omega
    rw [hT] at hv
    have hlow : lowT (oneS f0 T) := one_low (by omega)
    simp (maxSteps := 4000000) only [icPointSpans, go_sem, goD_calls, eq_self, implies_true, Int.reduceEq, Int.reduceBEq, Int.reduceBNe, Int.reduceLE, Int.reduceLT, Int.reduceAdd, Int.reduceSub, Int.reduceMul, Int.reduceNeg, Nat.reduceMul, Nat.reduceSub, Nat.reduceLeDiff, Nat.reduceLT, Nat.reduceEqDiff, Nat.reduceAdd, reduceCtorEq, ↓reduceIte, reduceIte, spFirst15, spNumber, spPNew, and_63, hs0, hf0, ht0, hT, g20, hn, gs, hv, ptC_def, min_i64, max_i64]
    refine ⟨by omega, by omega, by omega, ?_⟩
    refine go_loop (α := { i : Nat // i ≤ n }) (I := fun i => { f := [(14, .int .i64 i.1), (3, .int .i64 n), (1, .int .i64 f0), (2, .int .i64 T), (9, .bool true), (11, .ptr nx 0), (10, .ptr (nx + 3) 0), (13, .int .i64 (seqP (oneS f0 T) s0 i.1))], h := (nx, ptS (oneS f0 T) (nx + 1) (seqP (oneS f0 T) s0 i.1) (nx + 2) s0 (rowP (oneS f0 T) s0 i.1) 0) :: (nx + 1, .arr 112 sentT (rowP (oneS f0 T) s0 i.1)) :: (nx + 2, .arr 2 (.int .i64) ([0, 0].map D.int)) :: (nx + 3, .cells [.int .i64 1, .int .i64 f0, .int .i64 T]) :: h, nx := nx + 4 }) (μ := fun i => n - i.1) _ _ _ ⟨0, by omega⟩ ?_ (fun i S hS => ?_)
    · refine leq_news [(nx, nx + 64 + 64 + 1 + 1), (nx + 1, nx + 64 + 64 + 1 + 1 + 1), (nx + 2, nx + 64 + 64 + 1 + 1 + 2), (nx + 3, nx + 64 + 64)] [(nx, ptC (oneS f0 T) (nx + 1) s0 (nx + 2) 0 s0 s0), (nx + 1, .arr 112 sentT []), (nx + 2, .arr 2 (.int .i64) (zeros 2)), (nx + 3, .cells [.int .i64 1, .int .i64 f0, .int .i64 T])] (.refl _) (by simp) (by simp <;> omega) (by simp <;> omega) rfl ?_ ?_ ?_ ?_ hnm ?_ (by omega)
      · simp [frIn_cons, frIn_nil, fget_cons, fget_nil, SV.ren, SV.renL, rens]
        try rfl
      · (simp only [frLt_cons, frLt_nil, and_true, SV.lt, SV.ltL, true_and] <;> omega)
      · rw [ptC_def]
        (simp only [List.mem_cons, List.not_mem_nil, or_false, forall_eq_or_imp, forall_eq]; simp [hget, rens, Tok.ren, SV.ren, SV.renL])
        try rfl
      · rw [ptC_def]
        (simp only [List.mem_cons, List.not_mem_nil, or_false, forall_eq_or_imp, forall_eq, Tok.lt, SV.lt, SV.ltL, and_true, true_and] <;> omega)
      · ((try simp only []); repeat first | exact HLe.refl _ | refine HLe.cons (by simp only [hget, Nat.reduceEqDiff, Nat.left_eq_add, Nat.add_eq_left, nm_ne2, nm_en2, nm_ne3, nm_en3, nm_ne4, nm_en4, nm_ne5, nm_en5, reduceIte, ↓reduceIte] <;> first | rfl | ((repeat rw [if_neg (by omega)]) <;> rfl)) ?_ | refine HLe.skip hnm (by omega) ?_ | refine HLe.frz hnm (by omega) ?_ | refine HLe.del hnm (by omega) ?_)
    obtain ⟨i, hi⟩ := i
    simp only at hS ⊢
    have hrg := seqP_range hfT (by omega : T ≤ 128) (by omega : 0 ≤ s0) (by omega : s0 ≤ 63)
    have hz := rowP_zero hfT (by omega : T ≤ 128) (by omega : 0 ≤ s0) (by omega : s0 ≤ 63) i
    have hri := hrg i
    obtain ⟨A, hA⟩ : ∃ A, seqP (oneS f0 T) s0 i = A := ⟨_, rfl⟩
    rw [hA] at hri ⊢
    by_cases hin : i < n
    · have d1 : decide ((i : Int) < (n : Int)) = true := decide_eq_true (by omega)
      have et : (i : Int).tmod 2 = (i : Int) % 2 := Int.tmod_eq_emod_of_nonneg (by omega)
      have hz' := rowP_zero hfT (by omega : T ≤ 128) (by omega : 0 ≤ s0) (by omega : s0 ≤ 63) (i + 1)
      have hst := rowP_step (oneS f0 T) s0 i
      have hrn := hrg (i + 1)
      have hs1 : seqP (oneS f0 T) s0 (i + 1) = nextF (oneS f0 T) (seqP (oneS f0 T) s0 i) := rfl
      rw [hA] at hst hs1
      have hnx := next_one hfT A
      obtain ⟨N, hNn⟩ : ∃ N, N = nextF (oneS f0 T) A := ⟨_, rfl⟩
      rw [← hNn] at hst hs1 hnx
      rw [hs1] at hrn
      by_cases k1 : f0 < A + 1
      · have d2 : decide (f0 < A + 1) = true := decide_eq_true k1
        by_cases k2 : A + 1 ≤ T
        · have d3 : decide (A + 1 ≤ T) = true := decide_eq_true k2
          rw [if_pos ⟨k1, k2⟩] at hnx
          have d4 : T + 1 = N := hnx.symm
          simp (maxSteps := 4000000) only [go_sem, goD_calls, eq_self, implies_true, Int.reduceEq, Int.reduceBEq, Int.reduceBNe, Int.reduceLE, Int.reduceLT, Int.reduceAdd, Int.reduceSub, Int.reduceMul, Int.reduceNeg, Nat.reduceMul, Nat.reduceSub, Nat.reduceLeDiff, Nat.reduceLT, Nat.reduceEqDiff, Nat.reduceAdd, reduceCtorEq, ↓reduceIte, reduceIte, d1, d2, d3, d4, et, Int.reduceNeg, min_i64, max_i64]
          repeat refine ⟨by omega, ?_⟩
          refine sent_shape (sp := oneS f0 T) (u := nx + 1) (a := A) (v := nx + 2) (k := 0) (c := vcA s0 (rowP (oneS f0 T) s0 i) 0) (d := vdA s0 (rowP (oneS f0 T) s0 i) 0) (l := rowP (oneS f0 T) s0 i) (sf := [0, 0].map D.int) (by simp [hget, ptS]) (by simp [hget]) (by simp [hget]) (by omega) (by rw [rowP_len]; omega) (rowP_gr _ _ _ rfl) hlow (by omega) ⟨rfl, rfl⟩ ⟨by omega, by show _ < (2 : Int); omega, by omega, by omega⟩ (by omega) ?_
          simp (maxSteps := 4000000) only [go_sem, goD_calls, eq_self, implies_true, Int.reduceEq, Int.reduceBEq, Int.reduceBNe, Int.reduceLE, Int.reduceLT, Int.reduceAdd, Int.reduceSub, Int.reduceMul, Int.reduceNeg, Nat.reduceMul, Nat.reduceSub, Nat.reduceLeDiff, Nat.reduceLT, Nat.reduceEqDiff, Nat.reduceAdd, reduceCtorEq, ↓reduceIte, reduceIte, spIs, fe_End, fa_End, fe_Sum, fa_Sum, fe_Shape, fa_Shape, fe_Many, fa_Many, fe_Range, fa_Range, fe_Kind, fa_Kind, fe_None, fa_None, fe_There, fa_There, fe_Full, fa_Full, fe_Crash, fa_Crash, fe_State, fa_State, fe_Conflict, fa_Conflict, fe_Waits, fa_Waits, fe_Limit, fa_Limit, fe_Fenced, fa_Fenced, fe_Word, fa_Word, fe_Number, fa_Number, fe_nil, d1, d2, d3, d4, et, min_i64, max_i64]
          repeat refine ⟨by omega, ?_⟩
          refine sent_cnt (by omega) (by omega) (by omega) hz (m := 0) (by rw [← hst]; exact hz') (by rw [rowP_len]; omega) (rowP_gr _ _ _ rfl) hlow (by omega) ⟨rfl, rfl⟩ ⟨by omega, by show _ < (2 : Int); omega, by omega, by omega⟩ hNn ?_
          simp (maxSteps := 4000000) only [go_sem, goD_calls, eq_self, implies_true, Int.reduceEq, Int.reduceBEq, Int.reduceBNe, Int.reduceLE, Int.reduceLT, Int.reduceAdd, Int.reduceSub, Int.reduceMul, Int.reduceNeg, Nat.reduceMul, Nat.reduceSub, Nat.reduceLeDiff, Nat.reduceLT, Nat.reduceEqDiff, Nat.reduceAdd, reduceCtorEq, ↓reduceIte, reduceIte, min_i64, max_i64]
          refine ⟨by omega, ?_⟩
          refine hS _ ⟨i + 1, by omega⟩ (by simp only []; omega) ?_
          simp only []
          rw [← hst, hs1]
          refine leq_news [(nx, nx), (nx + 1, nx + 4 + 64 + 64), (nx + 2, nx + 2), (nx + 3, nx + 3)] [(nx, ptS (oneS f0 T) (nx + 1) N (nx + 2) s0 (rowP (oneS f0 T) s0 (i + 1)) 0), (nx + 1, .arr 112 sentT (rowP (oneS f0 T) s0 (i + 1))), (nx + 2, .arr 2 (.int .i64) ([0, 0].map D.int)), (nx + 3, .cells [.int .i64 1, .int .i64 f0, .int .i64 T])] (.refl _) (by simp) (by simp <;> omega) (by simp <;> omega) rfl ?_ ?_ ?_ ?_ hnm ?_ (by omega)
          · simp [frIn_cons, frIn_nil, fget_cons, fget_nil, SV.ren, SV.renL, rens]
          · (simp only [frLt_cons, frLt_nil, and_true, SV.lt, SV.ltL, true_and] <;> omega)
          · simp only [ptS, ptC_def]
            (simp only [List.mem_cons, List.not_mem_nil, or_false, forall_eq_or_imp, forall_eq]; simp [hget, rens, Tok.ren, SV.ren, SV.renL])
            try rfl
            all_goals try omega
          · simp only [ptS, ptC_def]
            (simp only [List.mem_cons, List.not_mem_nil, or_false, forall_eq_or_imp, forall_eq, Tok.lt, SV.lt, SV.ltL, and_true, true_and] <;> omega)
          · ((try simp only []); repeat first | exact HLe.refl _ | refine HLe.cons (by simp only [hget, Nat.reduceEqDiff, Nat.left_eq_add, Nat.add_eq_left, nm_ne2, nm_en2, nm_ne3, nm_en3, nm_ne4, nm_en4, nm_ne5, nm_en5, reduceIte, ↓reduceIte] <;> first | rfl | ((repeat rw [if_neg (by omega)]) <;> rfl)) ?_ | refine HLe.skip hnm (by omega) ?_ | refine HLe.frz hnm (by omega) ?_ | refine HLe.del hnm (by omega) ?_)
        · rw [if_neg (fun h => k2 h.2)] at hnx
          have d4 : A + 1 = N := hnx.symm
          rw [d4] at k1 k2 d2
          have d3 : decide (N ≤ T) = false := decide_eq_false k2
          simp (maxSteps := 4000000) only [go_sem, goD_calls, eq_self, implies_true, Int.reduceEq, Int.reduceBEq, Int.reduceBNe, Int.reduceLE, Int.reduceLT, Int.reduceAdd, Int.reduceSub, Int.reduceMul, Int.reduceNeg, Nat.reduceMul, Nat.reduceSub, Nat.reduceLeDiff, Nat.reduceLT, Nat.reduceEqDiff, Nat.reduceAdd, reduceCtorEq, ↓reduceIte, reduceIte, d1, d2, d3, d4, et, Int.reduceNeg, min_i64, max_i64]
          repeat refine ⟨by omega, ?_⟩
          refine sent_shape (sp := oneS f0 T) (u := nx + 1) (a := A) (v := nx + 2) (k := 0) (c := vcA s0 (rowP (oneS f0 T) s0 i) 0) (d := vdA s0 (rowP (oneS f0 T) s0 i) 0) (l := rowP (oneS f0 T) s0 i) (sf := [0, 0].map D.int) (by simp [hget, ptS]) (by simp [hget]) (by simp [hget]) (by omega) (by rw [rowP_len]; omega) (rowP_gr _ _ _ rfl) hlow (by omega) ⟨rfl, rfl⟩ ⟨by omega, by show _ < (2 : Int); omega, by omega, by omega⟩ (by omega) ?_
          simp (maxSteps := 4000000) only [go_sem, goD_calls, eq_self, implies_true, Int.reduceEq, Int.reduceBEq, Int.reduceBNe, Int.reduceLE, Int.reduceLT, Int.reduceAdd, Int.reduceSub, Int.reduceMul, Int.reduceNeg, Nat.reduceMul, Nat.reduceSub, Nat.reduceLeDiff, Nat.reduceLT, Nat.reduceEqDiff, Nat.reduceAdd, reduceCtorEq, ↓reduceIte, reduceIte, spIs, fe_End, fa_End, fe_Sum, fa_Sum, fe_Shape, fa_Shape, fe_Many, fa_Many, fe_Range, fa_Range, fe_Kind, fa_Kind, fe_None, fa_None, fe_There, fa_There, fe_Full, fa_Full, fe_Crash, fa_Crash, fe_State, fa_State, fe_Conflict, fa_Conflict, fe_Waits, fa_Waits, fe_Limit, fa_Limit, fe_Fenced, fa_Fenced, fe_Word, fa_Word, fe_Number, fa_Number, fe_nil, d1, d2, d3, d4, et, min_i64, max_i64]
          repeat refine ⟨by omega, ?_⟩
          refine sent_cnt (by omega) (by omega) (by omega) hz (m := 0) (by rw [← hst]; exact hz') (by rw [rowP_len]; omega) (rowP_gr _ _ _ rfl) hlow (by omega) ⟨rfl, rfl⟩ ⟨by omega, by show _ < (2 : Int); omega, by omega, by omega⟩ hNn ?_
          simp (maxSteps := 4000000) only [go_sem, goD_calls, eq_self, implies_true, Int.reduceEq, Int.reduceBEq, Int.reduceBNe, Int.reduceLE, Int.reduceLT, Int.reduceAdd, Int.reduceSub, Int.reduceMul, Int.reduceNeg, Nat.reduceMul, Nat.reduceSub, Nat.reduceLeDiff, Nat.reduceLT, Nat.reduceEqDiff, Nat.reduceAdd, reduceCtorEq, ↓reduceIte, reduceIte, min_i64, max_i64]
          refine ⟨by omega, ?_⟩
          refine hS _ ⟨i + 1, by omega⟩ (by simp only []; omega) ?_
          simp only []
          rw [← hst, hs1]
          refine leq_news [(nx, nx), (nx + 1, nx + 4 + 64 + 64), (nx + 2, nx + 2), (nx + 3, nx + 3)] [(nx, ptS (oneS f0 T) (nx + 1) N (nx + 2) s0 (rowP (oneS f0 T) s0 (i + 1)) 0), (nx + 1, .arr 112 sentT (rowP (oneS f0 T) s0 (i + 1))), (nx + 2, .arr 2 (.int .i64) ([0, 0].map D.int)), (nx + 3, .cells [.int .i64 1, .int .i64 f0, .int .i64 T])] (.refl _) (by simp) (by simp <;> omega) (by simp <;> omega) rfl ?_ ?_ ?_ ?_ hnm ?_ (by omega)
          · simp [frIn_cons, frIn_nil, fget_cons, fget_nil, SV.ren, SV.renL, rens]
          · (simp only [frLt_cons, frLt_nil, and_true, SV.lt, SV.ltL, true_and] <;> omega)
          · simp only [ptS, ptC_def]
            (simp only [List.mem_cons, List.not_mem_nil, or_false, forall_eq_or_imp, forall_eq]; simp [hget, rens, Tok.ren, SV.ren, SV.renL])
            try rfl
            all_goals try omega
          · simp only [ptS, ptC_def]
            (simp only [List.mem_cons, List.not_mem_nil, or_false, forall_eq_or_imp, forall_eq, Tok.lt, SV.lt, SV.ltL, and_true, true_and] <;> omega)
          · ((try simp only []); repeat first | exact HLe.refl _ | refine HLe.cons (by simp only [hget, Nat.reduceEqDiff, Nat.left_eq_add, Nat.add_eq_left, nm_ne2, nm_en2, nm_ne3, nm_en3, nm_ne4, nm_en4, nm_ne5, nm_en5, reduceIte, ↓reduceIte] <;> first | rfl | ((repeat rw [if_neg (by omega)]) <;> rfl)) ?_ | refine HLe.skip hnm (by omega) ?_ | refine HLe.frz hnm (by omega) ?_ | refine HLe.del hnm (by omega) ?_)
      · rw [if_neg (fun h => k1 h.1)] at hnx
        have d4 : A + 1 = N := hnx.symm
        rw [d4] at k1
        have d2 : decide (f0 < N) = false := decide_eq_false k1
        simp (maxSteps := 4000000) only [go_sem, goD_calls, eq_self, implies_true, Int.reduceEq, Int.reduceBEq, Int.reduceBNe, Int.reduceLE, Int.reduceLT, Int.reduceAdd, Int.reduceSub, Int.reduceMul, Int.reduceNeg, Nat.reduceMul, Nat.reduceSub, Nat.reduceLeDiff, Nat.reduceLT, Nat.reduceEqDiff, Nat.reduceAdd, reduceCtorEq, ↓reduceIte, reduceIte, d1, d2, d4, et, Int.reduceNeg, min_i64, max_i64]
        repeat refine ⟨by omega, ?_⟩
        refine sent_shape (sp := oneS f0 T) (u := nx + 1) (a := A) (v := nx + 2) (k := 0) (c := vcA s0 (rowP (oneS f0 T) s0 i) 0) (d := vdA s0 (rowP (oneS f0 T) s0 i) 0) (l := rowP (oneS f0 T) s0 i) (sf := [0, 0].map D.int) (by simp [hget, ptS]) (by simp [hget]) (by simp [hget]) (by omega) (by rw [rowP_len]; omega) (rowP_gr _ _ _ rfl) hlow (by omega) ⟨rfl, rfl⟩ ⟨by omega, by show _ < (2 : Int); omega, by omega, by omega⟩ (by omega) ?_
        simp (maxSteps := 4000000) only [go_sem, goD_calls, eq_self, implies_true, Int.reduceEq, Int.reduceBEq, Int.reduceBNe, Int.reduceLE, Int.reduceLT, Int.reduceAdd, Int.reduceSub, Int.reduceMul, Int.reduceNeg, Nat.reduceMul, Nat.reduceSub, Nat.reduceLeDiff, Nat.reduceLT, Nat.reduceEqDiff, Nat.reduceAdd, reduceCtorEq, ↓reduceIte, reduceIte, spIs, fe_End, fa_End, fe_Sum, fa_Sum, fe_Shape, fa_Shape, fe_Many, fa_Many, fe_Range, fa_Range, fe_Kind, fa_Kind, fe_None, fa_None, fe_There, fa_There, fe_Full, fa_Full, fe_Crash, fa_Crash, fe_State, fa_State, fe_Conflict, fa_Conflict, fe_Waits, fa_Waits, fe_Limit, fa_Limit, fe_Fenced, fa_Fenced, fe_Word, fa_Word, fe_Number, fa_Number, fe_nil, d1, d2, d4, et, min_i64, max_i64]
        repeat refine ⟨by omega, ?_⟩
        refine sent_cnt (by omega) (by omega) (by omega) hz (m := 0) (by rw [← hst]; exact hz') (by rw [rowP_len]; omega) (rowP_gr _ _ _ rfl) hlow (by omega) ⟨rfl, rfl⟩ ⟨by omega, by show _ < (2 : Int); omega, by omega, by omega⟩ hNn ?_
        simp (maxSteps := 4000000) only [go_sem, goD_calls, eq_self, implies_true, Int.reduceEq, Int.reduceBEq, Int.reduceBNe, Int.reduceLE, Int.reduceLT, Int.reduceAdd, Int.reduceSub, Int.reduceMul, Int.reduceNeg, Nat.reduceMul, Nat.reduceSub, Nat.reduceLeDiff, Nat.reduceLT, Nat.reduceEqDiff, Nat.reduceAdd, reduceCtorEq, ↓reduceIte, reduceIte, min_i64, max_i64]
        refine ⟨by omega, ?_⟩
        refine hS _ ⟨i + 1, by omega⟩ (by simp only []; omega) ?_
        simp only []
        rw [← hst, hs1]
        refine leq_news [(nx, nx), (nx + 1, nx + 4 + 64 + 64), (nx + 2, nx + 2), (nx + 3, nx + 3)] [(nx, ptS (oneS f0 T) (nx + 1) N (nx + 2) s0 (rowP (oneS f0 T) s0 (i + 1)) 0), (nx + 1, .arr 112 sentT (rowP (oneS f0 T) s0 (i + 1))), (nx + 2, .arr 2 (.int .i64) ([0, 0].map D.int)), (nx + 3, .cells [.int .i64 1, .int .i64 f0, .int .i64 T])] (.refl _) (by simp) (by simp <;> omega) (by simp <;> omega) rfl ?_ ?_ ?_ ?_ hnm ?_ (by omega)
        · simp [frIn_cons, frIn_nil, fget_cons, fget_nil, SV.ren, SV.renL, rens]
        · (simp only [frLt_cons, frLt_nil, and_true, SV.lt, SV.ltL, true_and] <;> omega)
        · simp only [ptS, ptC_def]
          (simp only [List.mem_cons, List.not_mem_nil, or_false, forall_eq_or_imp, forall_eq]; simp [hget, rens, Tok.ren, SV.ren, SV.renL])
          try rfl
          all_goals try omega
        · simp only [ptS, ptC_def]
          (simp only [List.mem_cons, List.not_mem_nil, or_false, forall_eq_or_imp, forall_eq, Tok.lt, SV.lt, SV.ltL, and_true, true_and] <;> omega)
        · ((try simp only []); repeat first | exact HLe.refl _ | refine HLe.cons (by simp only [hget, Nat.reduceEqDiff, Nat.left_eq_add, Nat.add_eq_left, nm_ne2, nm_en2, nm_ne3, nm_en3, nm_ne4, nm_en4, nm_ne5, nm_en5, reduceIte, ↓reduceIte] <;> first | rfl | ((repeat rw [if_neg (by omega)]) <;> rfl)) ?_ | refine HLe.skip hnm (by omega) ?_ | refine HLe.frz hnm (by omega) ?_ | refine HLe.del hnm (by omega) ?_)
    obtain rfl : i = n := by omega
    have d1 : decide ((i : Int) < (i : Int)) = false := decide_eq_false (by omega)
    have hA0 : 0 ≤ A := by omega
    have hb1 : bump [0, 0] 0 A = [max 0 A, 0] := rfl
    have hb2 : bump [max 0 A, 0] 1 A = [max 0 A, max 0 A] := rfl
    obtain ⟨m, hm⟩ := cnt_ex (rowP (oneS f0 T) s0 i) ((bump [0, 0] 0 A).map D.int)
    rw [hb1] at hm
    have hfull : isCnt (rowP (oneS f0 T) s0 i) ((bump [max 0 A, 0] 1 A).map D.int) i := by
      refine ⟨by rw [rowP_len]; omega, fun j hj => ?_, .inl (rowP_len _ _ _).symm⟩
      rw [hb2, rowP_ok _ _ _ hj]
      have h1 := seqP_le (a := s0) hfT (j := j + 1) (k := i) (by omega)
      rw [hA] at h1
      have h2 : ([max 0 A, max 0 A] : List Int).getD ((j : Int) % 2).toNat 0 = max 0 A := by
        rcases (by omega : ((j : Int) % 2).toNat = 0 ∨ ((j : Int) % 2).toNat = 1) with e | e <;> rw [e] <;> rfl
      rw [h2]
      omega
    simp (maxSteps := 4000000) only [go_sem, goD_calls, eq_self, implies_true, Int.reduceEq, Int.reduceBEq, Int.reduceBNe, Int.reduceLE, Int.reduceLT, Int.reduceAdd, Int.reduceSub, Int.reduceMul, Int.reduceNeg, Nat.reduceMul, Nat.reduceSub, Nat.reduceLeDiff, Nat.reduceLT, Nat.reduceEqDiff, Nat.reduceAdd, reduceCtorEq, ↓reduceIte, reduceIte, d1]
    refine safe_cnt (by omega) (by omega) (by omega) hz (m := m) (by rw [hb1]; exact hm) (by rw [rowP_len]; omega) (rowP_gr _ _ _ rfl) ⟨by omega, by show (0 : Int) < 2; omega⟩ (fun b1 => ?_)
    rw [hb1]
    simp (maxSteps := 4000000) only [go_sem, goD_calls, eq_self, implies_true, Int.reduceEq, Int.reduceBEq, Int.reduceBNe, Int.reduceLE, Int.reduceLT, Int.reduceAdd, Int.reduceSub, Int.reduceMul, Int.reduceNeg, Nat.reduceMul, Nat.reduceSub, Nat.reduceLeDiff, Nat.reduceLT, Nat.reduceEqDiff, Nat.reduceAdd, reduceCtorEq, ↓reduceIte, reduceIte]
    refine safe_cnt (by omega) (by omega) (by omega) hm (m := i) hfull (by rw [rowP_len]; omega) (rowP_gr _ _ _ rfl) ⟨by omega, by show (1 : Int) < 2; omega⟩ (fun b2 => ?_)
    rw [hb2]
    have hvc := rowP_vc (oneS f0 T) s0 i
    have hvd := rowP_vd (oneS f0 T) s0 i
    rw [hA] at hvc hvd
    have q1 : ((A == A) : Bool) = true := beq_self_eq_true A
    have q2 : ((i : Int) - (i : Int) == 0) = true := by rw [Int.sub_self]; rfl
    have q3 : decide (A < nextF (oneS f0 T) A) = true := decide_eq_true (nextF_is (oneS f0 T) A).1
    have q4 : riseT (oneS f0 T) := fun j i h1 h2 => by
      rw [List.length_singleton] at h2
      have : j = i := by omega
      rw [this]; exact Int.le_refl _
    simp (maxSteps := 4000000) only [go_sem, goD_calls, eq_self, implies_true, Int.reduceEq, Int.reduceBEq, Int.reduceBNe, Int.reduceLE, Int.reduceLT, Int.reduceAdd, Int.reduceSub, Int.reduceMul, Int.reduceNeg, Nat.reduceMul, Nat.reduceSub, Nat.reduceLeDiff, Nat.reduceLT, Nat.reduceEqDiff, Nat.reduceAdd, reduceCtorEq, ↓reduceIte, reduceIte, spPVCL, spPVDL, spPLeft, spRNext, ptS, ptC_def, pOk_c, sOk_c, iOk_c, pS_c, pU_c, pA_c, pV_c, pK_c, aL_c, pC_c, pD_c, rowP_len, hvc, hvd, q1, q2, q3, min_i64, max_i64]
    refine ⟨⟨by omega, by omega⟩, by omega, by omega, hlow, q4, ?_⟩
    refine (hQ _ ?_).1
    exact fin_t (.bool true) rfl rfl hnm (by ((try simp only []); repeat first | exact HLe.refl _ | refine HLe.cons (by simp only [hget, Nat.reduceEqDiff, Nat.left_eq_add, Nat.add_eq_left, nm_ne2, nm_en2, nm_ne3, nm_en3, nm_ne4, nm_en4, nm_ne5, nm_en5, reduceIte, ↓reduceIte] <;> first | rfl | ((repeat rw [if_neg (by omega)]) <;> rfl)) ?_ | refine HLe.skip hnm (by omega) ?_ | refine HLe.frz hnm (by omega) ?_ | refine HLe.del hnm (by omega) ?_)) hK
  · exact hsp.elim
end Go.Proofs.YtmjenjccinfbaaaDoor
