/- Chapter 6: those, Meets. -/
import Derived.Test.YtkmilijehekdoaaDoorQuorC
namespace Go.Proofs.YtkmilijehekdoaaDoor
set_option linter.unusedVariables false
set_option linter.unusedSimpArgs false
open Go Go.Fw
attribute [local go_sem] walkSet evMdl evMupD evMup evLkp frpL eltP eltV eltK preF preP prePt prePd frzP evNlq ev frOf oget ogets argSs argS evMm frzL evBin evWrp evShf evCmp evUna evNil evBeq evLd evSt evFad evIad evAad evLen evSln evEls evApp evParts evSlc evNlc evMif evPck evFld evBld evTas evIfq evSeq evSl0 evBxf evAgl evAgq evBsf hget hset hdel cellAt arrAt setCellAt setArrAt takeC lenC svCells SV.okc SV.one ldSV Fw.isAgg explode explodeL toD toDL toD1 Ty.size Ty.sizeL frz1 Fr.sub Heap.sub Tok.sub SV.sub SV.subL

theorem bool_ftQ (b : Bool) : b = false ∨ b = true := by cases b <;> simp

/-- How many bits are set, as the library counts them. -/
def onesI (m : Int) : Int :=
  let y1 := IntKind.u64.wrap (bitI .and .u64 (m.fdiv (2 ^ min (Int.toNat 1) IntKind.u64.bits)) 6148914691236517205 + bitI .and .u64 m 6148914691236517205)
  let y2 := IntKind.u64.wrap (bitI .and .u64 (y1.fdiv (2 ^ min (Int.toNat 2) IntKind.u64.bits)) 3689348814741910323 + bitI .and .u64 y1 3689348814741910323)
  let y3 := bitI .and .u64 (IntKind.u64.wrap (y2.fdiv (2 ^ min (Int.toNat 4) IntKind.u64.bits) + y2)) 1085102592571150095
  let y4 := IntKind.u64.wrap (y3 + y3.fdiv (2 ^ min (Int.toNat 8) IntKind.u64.bits))
  let y5 := IntKind.u64.wrap (y4 + y4.fdiv (2 ^ min (Int.toNat 16) IntKind.u64.bits))
  let y6 := IntKind.u64.wrap (y5 + y5.fdiv (2 ^ min (Int.toNat 32) IntKind.u64.bits))
  bitI .and .i64 (IntKind.i64.wrap y6) 127
def WOnes : Opts := mkWE 35 [] [] [] 152 [] []
def icOnes : IC := (.seq (.seq (.ops [(.u (.mov 2 (.c (.int .i64 0))))]) (.tr [0])) (.seq (.seq (.ops [(.u (.mov 3 (.s 0))), (.u (.shf 4 .shr .u64 (.s 3) (.c (.int .u64 1)))), (.u (.bin 5 .and .u64 (.s 4) (.c (.int .u64 6148914691236517205)))), (.u (.mov 6 (.s 0))), (.u (.bin 7 .and .u64 (.s 6) (.c (.int .u64 6148914691236517205)))), (.u (.wrp 8 .add .u64 (.s 5) (.s 7))), (.u (.mov 0 (.s 8)))]) (.tr [0])) (.seq (.seq (.ops [(.u (.mov 9 (.s 0))), (.u (.shf 10 .shr .u64 (.s 9) (.c (.int .u64 2)))), (.u (.bin 11 .and .u64 (.s 10) (.c (.int .u64 3689348814741910323)))), (.u (.mov 12 (.s 0))), (.u (.bin 13 .and .u64 (.s 12) (.c (.int .u64 3689348814741910323)))), (.u (.wrp 14 .add .u64 (.s 11) (.s 13))), (.u (.mov 0 (.s 14)))]) (.tr [0])) (.seq (.seq (.ops [(.u (.mov 15 (.s 0))), (.u (.shf 16 .shr .u64 (.s 15) (.c (.int .u64 4)))), (.u (.mov 17 (.s 0))), (.u (.wrp 18 .add .u64 (.s 16) (.s 17))), (.u (.bin 19 .and .u64 (.s 18) (.c (.int .u64 1085102592571150095)))), (.u (.mov 0 (.s 19)))]) (.tr [0])) (.seq (.seq (.ops [(.u (.mov 20 (.s 0))), (.u (.mov 21 (.s 0))), (.u (.shf 22 .shr .u64 (.s 21) (.c (.int .u64 8)))), (.u (.wrp 23 .add .u64 (.s 20) (.s 22))), (.u (.mov 0 (.s 23)))]) (.tr [0])) (.seq (.seq (.ops [(.u (.mov 24 (.s 0))), (.u (.mov 25 (.s 0))), (.u (.shf 26 .shr .u64 (.s 25) (.c (.int .u64 16)))), (.u (.wrp 27 .add .u64 (.s 24) (.s 26))), (.u (.mov 0 (.s 27)))]) (.tr [0])) (.seq (.seq (.ops [(.u (.mov 28 (.s 0))), (.u (.mov 29 (.s 0))), (.u (.shf 30 .shr .u64 (.s 29) (.c (.int .u64 32)))), (.u (.wrp 31 .add .u64 (.s 28) (.s 30))), (.u (.mov 0 (.s 31)))]) (.tr [0])) (.seq (.seq (.ops [(.u (.mov 32 (.s 0))), (.u (.cnv 33 .i64 (.s 32))), (.u (.bin 34 .and .i64 (.s 33) (.c (.int .i64 127)))), (.u (.mov 2 (.s 34)))]) (.tr [2])) .ret))))))))
def rsOnes : List RV := [(.t 2)]
theorem irOnes : fnIR Tryd.prog WOnes 37 = some (icOnes, rsOnes) := by kernel_rfl
def spOnes : FSpec := fun args h nx K => match args with
  | [.int .u64 m] => K (.int .i64 (onesI m)) h
  | _ => False
set_option maxHeartbeats 4000000 in
set_option maxRecDepth 8000 in
theorem vOnes {E : Nat → Value} (hE : Errs2 Tryd.prog (some 152) E) : Valid Tryd.prog E (gs []) 37 spOnes := by
  refine valid_go (W := WOnes) hE allValid_bot irOnes (by decide) (fun args h nx K hsp hok hnm => ?_)
  unfold spOnes at hsp
  split at hsp
  · rename_i m
    refine ⟨by simp [WOnes, mkW, mkWE, mkWF], fun Q hQ => ?_⟩
    simp (maxSteps := 4000000) only [icOnes, go_sem, goD_calls, eq_self, implies_true, Int.reduceEq, Int.reduceBEq, Int.reduceBNe, Int.reduceLE, Int.reduceLT, Int.reduceAdd, Int.reduceSub, Int.reduceMul, Int.reduceNeg, Nat.reduceMul, Nat.reduceSub, Nat.reduceLeDiff, Nat.reduceLT, Nat.reduceEqDiff, Nat.reduceAdd, reduceCtorEq, ↓reduceIte, reduceIte]
    refine (hQ _ ?_).1
    exact fin_t (.int .i64 _) rfl rfl hnm (by ((try simp only []); repeat first | exact HLe.refl _ | refine HLe.cons (by simp only [hget, Nat.reduceEqDiff, Nat.left_eq_add, Nat.add_eq_left, nm_ne2, nm_en2, nm_ne3, nm_en3, nm_ne4, nm_en4, nm_ne5, nm_en5, reduceIte, ↓reduceIte] <;> first | rfl | ((repeat rw [if_neg (by omega)]) <;> rfl)) ?_ | refine HLe.skip hnm (by omega) ?_ | refine HLe.frz hnm (by omega) ?_ | refine HLe.del hnm (by omega) ?_)) hsp
  · exact hsp.elim

/-- The nodes of a number. -/
def bitX (x : Int) (i : Nat) : Bool := bitI .and .i64 (x.fdiv (2 ^ min i IntKind.i64.bits)) 1 == 1
def thoseL (l : List D) (x : Int) (i : Nat) : List D := ((List.range i).filter (bitX x)).map fun (j : Nat) => D.int (l.getD j .nil).i
theorem those_step (l : List D) (x : Int) (i : Nat) : thoseL l x (i + 1) = thoseL l x i ++ if bitX x i then [D.int (l.getD i .nil).i] else [] := by
  unfold thoseL
  rw [List.range_succ, List.filter_append, List.map_append]
  cases h : bitX x i <;> simp [h]
theorem those_len (l : List D) (x : Int) (i : Nat) : (thoseL l x i).length ≤ i := by
  unfold thoseL
  rw [List.length_map]
  exact Nat.le_trans (List.length_filter_le _ _) (by simp)
def WQThose : Opts := mkWE 27 [] [] [] 152 [] []
def icQThose : IC := (.seq (.seq (.ops [(.u (.box 2 0 (.s 0))), (.u (.mov 4 (.c .nils)))]) (.tr [2, 1])) (.seq (.seq (.ops [(.u (.mov 5 (.c .nils)))]) (.tr [2, 1, 5])) (.seq (.seq (.seq (.ops [(.u (.fad 8 1 1 (.slice 3) 27 (.s 2))), (.u (.ld 9 (.slice 3) (.s 8))), (.u (.len 10 false (.s 9))), (.u (.mov 11 (.c (.int .i64 0))))]) (.tr [10, 9, 1, 11, 5])) (.block 0 (.loop (.seq (.seq (.ops [(.u (.cmp 12 .lss (.s 11) (.s 10)))]) (.tr [12, 11, 10, 9, 1, 5])) (.seq (.cond (.s 12) .skip (.exit 0)) (.seq (.block 1 (.seq (.seq (.ops [(.u (.mov 13 (.s 11))), (.u (.iad 14 3 (.int .i64) (.s 9) (.s 11))), (.u (.ld 15 (.int .i64) (.s 14))), (.u (.mov 6 (.s 13))), (.u (.mov 7 (.s 15)))]) (.tr [6, 7, 11, 10, 9, 1, 5])) (.seq (.seq (.ops [(.u (.mov 16 (.s 1))), (.u (.mov 17 (.s 6))), (.u (.shf 18 .shr .i64 (.s 16) (.s 17))), (.u (.bin 19 .and .i64 (.s 18) (.c (.int .i64 1)))), (.u (.cmp 20 .eql (.s 19) (.c (.int .i64 1))))]) (.tr [20, 7, 11, 10, 9, 1, 5])) (.cond (.s 20) (.seq (.ops [(.u (.mov 21 (.s 5))), (.u (.mov 22 (.s 7))), (.u (.bsl 23 3 (.int .i64) [(.s 22)])), (.u (.app 24 3 (.int .i64) 8 (.s 21) (.s 23))), (.u (.mov 5 (.s 24)))]) (.tr [11, 10, 9, 1, 5])) .skip)))) (.seq (.ops [(.u (.bin 25 .add .i64 (.s 11) (.c (.int .i64 1)))), (.u (.mov 11 (.s 25)))]) (.tr [10, 9, 1, 11, 5])))))))) (.seq (.seq (.ops [(.u (.mov 26 (.s 5))), (.u (.mov 4 (.s 26)))]) (.tr [4])) .ret))))
def rsQThose : List RV := [(.t 4)]
theorem irQThose : fnIR Tryd.prog WQThose 34 = some (icQThose, rsQThose) := by kernel_rfl
def spQThose : FSpec := fun args h nx K => match args with
  | [.agg [.dat (.ptr t) p, .dat (.slice t') d, .int .i64 n], .int .i64 x] => t = 65 ∧ t' = 3 ∧ d.l.length ≤ 1000 ∧ K (.dat (.slice 3) (.list (thoseL d.l x d.l.length))) h
  | _ => False
set_option maxHeartbeats 4000000 in
set_option maxRecDepth 8000 in
theorem vQThose {E : Nat → Value} (hE : Errs2 Tryd.prog (some 152) E) : Valid Tryd.prog E (gs []) 34 spQThose := by
  refine valid_go (W := WQThose) hE allValid_bot irQThose (by decide) (fun args h nx K hsp hok hnm => ?_)
  unfold spQThose at hsp
  split at hsp
  · rename_i t p t' d n x
    obtain ⟨rfl, rfl, hlen, hK⟩ := hsp
    refine ⟨by simp [WQThose, mkW, mkWE, mkWF], fun Q hQ => ?_⟩
    obtain ⟨⟨_, hd, _⟩, _⟩ := hok
    simp only [SV.ok] at hd
    obtain ⟨hd1, hd2, hd3⟩ := Wt.slice hd; generalize d.l = l at *; subst hd1
    simp (maxSteps := 4000000) only [icQThose, go_sem, goD_calls, eq_self, implies_true, Int.reduceEq, Int.reduceBEq, Int.reduceBNe, Int.reduceLE, Int.reduceLT, Int.reduceAdd, Int.reduceSub, Int.reduceMul, Int.reduceNeg, Nat.reduceMul, Nat.reduceSub, Nat.reduceLeDiff, Nat.reduceLT, Nat.reduceEqDiff, Nat.reduceAdd, reduceCtorEq, ↓reduceIte, reduceIte]
    refine go_loop (α := { i : Nat // i ≤ l.length }) (I := fun i => { f := [(10, .int .i64 l.length), (9, .dat (.slice 3) (.list l)), (1, .int .i64 x), (11, .int .i64 i.1), (5, .vec nx)], h := (nx, .arr 3 (.int .i64) (thoseL l x i.1)) :: h, nx := nx + 1 }) (μ := fun i => l.length - i.1) _ _ _ ⟨0, by omega⟩ ?_ (fun i B hB => ?_)
    · refine leq_news [(nx, nx + 1)] [(nx, .arr 3 (.int .i64) (thoseL l x 0))] (.slot 5 3 (.int .i64) rfl (.refl _)) (by simp) (by simp <;> omega) (by simp) rfl ?_ ?_ ?_ ?_ hnm ?_ (by omega)
      · simp [frIn_cons, frIn_nil, fget_cons, fget_nil, SV.ren, SV.renL, rens]
      · (simp only [frLt_cons, frLt_nil, and_true, SV.lt, SV.ltL, true_and] <;> omega)
      · (simp only [List.mem_cons, List.not_mem_nil, or_false, forall_eq_or_imp, forall_eq]; simp [hget, rens, Tok.ren, SV.ren, SV.renL])
        try simp [thoseL]
      · (simp only [List.mem_cons, List.not_mem_nil, or_false, forall_eq_or_imp, forall_eq, Tok.lt, SV.lt, SV.ltL, and_true, true_and] <;> omega)
      · ((try simp only []); repeat first | exact HLe.refl _ | refine HLe.cons (by simp only [hget, Nat.reduceEqDiff, Nat.left_eq_add, Nat.add_eq_left, nm_ne2, nm_en2, nm_ne3, nm_en3, nm_ne4, nm_en4, nm_ne5, nm_en5, reduceIte, ↓reduceIte] <;> first | rfl | ((repeat rw [if_neg (by omega)]) <;> rfl)) ?_ | refine HLe.skip hnm (by omega) ?_ | refine HLe.frz hnm (by omega) ?_ | refine HLe.del hnm (by omega) ?_)
    · obtain ⟨i, hi⟩ := i
      simp only at hB
      by_cases hil : i < l.length
      · have c1 : decide ((i : Int) < (l.length : Int)) = true := decide_eq_true (by omega)
        have hs := those_step l x i
        have hl2 := those_len l x i
        have next : ∀ S', Leq nx S' { f := [(10, .int .i64 l.length), (9, .dat (.slice 3) (.list l)), (1, .int .i64 x), (11, .int .i64 ((i + 1 : Nat) : Int)), (5, .vec nx)], h := (nx, .arr 3 (.int .i64) (thoseL l x (i + 1))) :: h, nx := nx + 1 } → B S' := fun S' hl => hB _ ⟨i + 1, by omega⟩ (by simp only []; omega) hl
        rcases bool_ftQ (bitX x i) with hb | hb
        · have cb : (bitI .and .i64 (x.fdiv (2 ^ min i 64)) 1 == 1) = false := hb
          rw [hb] at hs
          simp only [Bool.false_eq_true, if_false, List.append_nil] at hs
          rw [hs] at next
          simp (maxSteps := 4000000) only [go_sem, goD_calls, eq_self, implies_true, Int.reduceEq, Int.reduceBEq, Int.reduceBNe, Int.reduceLE, Int.reduceLT, Int.reduceAdd, Int.reduceSub, Int.reduceMul, Int.reduceNeg, Nat.reduceMul, Nat.reduceSub, Nat.reduceLeDiff, Nat.reduceLT, Nat.reduceEqDiff, Nat.reduceAdd, reduceCtorEq, ↓reduceIte, reduceIte, c1, cb, Int.toNat_natCast, min_i64, max_i64]
          repeat refine ⟨by omega, ?_⟩
          refine next _ ?_
          refine leq_id ?_ (by (simp only [frLt_cons, frLt_nil, and_true, SV.lt, SV.ltL, true_and] <;> omega)) (by ((try simp only []); repeat first | exact HLe.refl _ | refine HLe.cons (by simp only [hget, Nat.reduceEqDiff, Nat.left_eq_add, Nat.add_eq_left, nm_ne2, nm_en2, nm_ne3, nm_en3, nm_ne4, nm_en4, nm_ne5, nm_en5, reduceIte, ↓reduceIte] <;> first | rfl | ((repeat rw [if_neg (by omega)]) <;> rfl)) ?_ | refine HLe.skip hnm (by omega) ?_ | refine HLe.frz hnm (by omega) ?_ | refine HLe.del hnm (by omega) ?_)) (by (repeat first | exact HLt.mono hnm (by simp only [] <;> omega) | refine HLt.cons (by simp only [] <;> omega) (by simp only [Tok.lt, SV.ltL, SV.lt, and_true, true_and] <;> omega) ?_)) (by simp only [] <;> omega)
          simp only [frEq_cons, frEq_nil, frIn_cons, frIn_nil, and_true, fget_cons, Nat.reduceEqDiff, reduceIte, ↓reduceIte, true_and, SV.ren, SV.renL, ren1]
          simp
        · have cb : (bitI .and .i64 (x.fdiv (2 ^ min i 64)) 1 == 1) = true := hb
          rw [hb] at hs
          simp only [if_true] at hs
          rw [hs] at next
          simp (maxSteps := 4000000) only [go_sem, goD_calls, eq_self, implies_true, Int.reduceEq, Int.reduceBEq, Int.reduceBNe, Int.reduceLE, Int.reduceLT, Int.reduceAdd, Int.reduceSub, Int.reduceMul, Int.reduceNeg, Nat.reduceMul, Nat.reduceSub, Nat.reduceLeDiff, Nat.reduceLT, Nat.reduceEqDiff, Nat.reduceAdd, reduceCtorEq, ↓reduceIte, reduceIte, c1, cb, Int.toNat_natCast, min_i64, max_i64]
          repeat refine ⟨by omega, ?_⟩
          refine next _ ?_
          refine leq_ren1 nx (nx + 1 + 1) (by omega) (by simp only [] <;> omega) ?_ (by (simp only [frLt_cons, frLt_nil, and_true, SV.lt, SV.ltL, true_and] <;> omega)) ?_ (by (repeat first | exact HLt.mono hnm (by simp only [] <;> omega) | refine HLt.cons (by simp only [] <;> omega) (by simp only [Tok.lt, SV.ltL, SV.lt, and_true, true_and] <;> omega) ?_)) (by simp only [] <;> omega)
          · simp only [frEq_cons, frEq_nil, frIn_cons, frIn_nil, and_true, fget_cons, Nat.reduceEqDiff, reduceIte, ↓reduceIte, true_and, SV.ren, SV.renL, ren1]
            simp
          · exact HRen.cons (by rw [ren1_eq]; simp [hget, Tok.ren]) (HRen.base hnm (Nat.le_refl _) (by ((try simp only []); repeat first | exact HLe.refl _ | refine HLe.cons (by simp only [hget, Nat.reduceEqDiff, Nat.left_eq_add, Nat.add_eq_left, nm_ne2, nm_en2, nm_ne3, nm_en3, nm_ne4, nm_en4, nm_ne5, nm_en5, reduceIte, ↓reduceIte] <;> first | rfl | ((repeat rw [if_neg (by omega)]) <;> rfl)) ?_ | refine HLe.skip hnm (by omega) ?_ | refine HLe.frz hnm (by omega) ?_ | refine HLe.del hnm (by omega) ?_)))
      · obtain rfl : i = l.length := by omega
        have c1 : decide ((l.length : Int) < (l.length : Int)) = false := decide_eq_false (by omega)
        simp (maxSteps := 4000000) only [go_sem, goD_calls, eq_self, implies_true, Int.reduceEq, Int.reduceBEq, Int.reduceBNe, Int.reduceLE, Int.reduceLT, Int.reduceAdd, Int.reduceSub, Int.reduceMul, Int.reduceNeg, Nat.reduceMul, Nat.reduceSub, Nat.reduceLeDiff, Nat.reduceLT, Nat.reduceEqDiff, Nat.reduceAdd, reduceCtorEq, ↓reduceIte, reduceIte, c1]
        refine (hQ _ ?_).1
        refine fin_new (p := True ∧ True) (xs := [.vec nx]) rfl ⟨trivial, trivial⟩ (.frz nx (.refl _)) [] (.dat (.slice 3) (.list (thoseL l x l.length))) [] (by simp) (by simp) (by simp) ?_ trivial rfl (by simp) (by simp) hnm ?_ hK
        · simp only [mkR, go_sem, goD_calls, eq_self, implies_true, Int.reduceEq, Int.reduceBEq, Int.reduceBNe, Int.reduceLE, Int.reduceLT, Int.reduceAdd, Int.reduceSub, Int.reduceMul, Int.reduceNeg, Nat.reduceMul, Nat.reduceSub, Nat.reduceLeDiff, Nat.reduceLT, Nat.reduceEqDiff, Nat.reduceAdd, reduceCtorEq, ↓reduceIte, reduceIte, SV.ren, SV.renL, rens]
        · simp only [mkR, go_sem, goD_calls, eq_self, implies_true, Int.reduceEq, Int.reduceBEq, Int.reduceBNe, Int.reduceLE, Int.reduceLT, Int.reduceAdd, Int.reduceSub, Int.reduceMul, Int.reduceNeg, Nat.reduceMul, Nat.reduceSub, Nat.reduceLeDiff, Nat.reduceLT, Nat.reduceEqDiff, Nat.reduceAdd, reduceCtorEq, ↓reduceIte, reduceIte] <;> ((try simp only []); repeat first | exact HLe.refl _ | refine HLe.cons (by simp only [hget, Nat.reduceEqDiff, Nat.left_eq_add, Nat.add_eq_left, nm_ne2, nm_en2, nm_ne3, nm_en3, nm_ne4, nm_en4, nm_ne5, nm_en5, reduceIte, ↓reduceIte] <;> first | rfl | ((repeat rw [if_neg (by omega)]) <;> rfl)) ?_ | refine HLe.skip hnm (by omega) ?_ | refine HLe.frz hnm (by omega) ?_ | refine HLe.del hnm (by omega) ?_)
  · exact hsp.elim

/-! ### Meets -/
theorem andNot_mI (a b : M64) : bitI .andNot .u64 (mI a) (mI b) = mI (a &&& ~~~b) := by
  show IntKind.u64.wrap ((BitVec.ofInt 64 (mI a) &&& ~~~(BitVec.ofInt 64 (mI b))).toNat : Nat) = _
  rw [ofInt_mI, ofInt_mI]
  exact wrap_toNat _
theorem shl_i64 {n : Nat} (h : n ≤ 16) : IntKind.i64.wrap (1 * 2 ^ min ((n : Int)).toNat 64) = ((2 ^ n : Nat) : Int) := by
  have h1 : (2 : Nat) ^ n ≤ 2 ^ 16 := Nat.pow_le_pow_right (by omega) h
  rw [Int.toNat_natCast, Nat.min_eq_left (by omega), Int.one_mul]
  have e : ((2 : Int) ^ n) = ((2 ^ n : Nat) : Int) := by push_cast; rfl
  rw [e]
  generalize (2 : Nat) ^ n = z at h1 ⊢
  exact wrap_i64' (by omega) (by omega)
def pickM (l : List D) (x : Nat) : M64 := maskL (thoseL l x l.length)
def clashB (qa qb : QP) (m all : M64) : Bool := decide (0 < onesI (mI m)) && qa.hasM m && qb.hasM (all &&& ~~~m)
def meetsB (qa : QP) (la : List D) (qb : QP) (lb : List D) : Bool := !(List.range (2 ^ la.length)).any fun x => clashB qa qb (pickM la x) (maskL lb)
theorem meets_no {qa qb : QP} {la lb : List D} {x : Nat} (hx : x < 2 ^ la.length) (h : clashB qa qb (pickM la x) (maskL lb) = true) : meetsB qa la qb lb = false := by
  unfold meetsB
  rw [Bool.not_eq_false', List.any_eq_true]
  exact ⟨x, List.mem_range.2 hx, h⟩
theorem meets_yes {qa qb : QP} {la lb : List D} (h : ∀ x, x < 2 ^ la.length → clashB qa qb (pickM la x) (maskL lb) = false) : meetsB qa la qb lb = true := by
  unfold meetsB
  rw [Bool.not_eq_true', List.any_eq_false]
  intro x hx
  rw [h x (List.mem_range.1 hx)]
  simp
def WQMeets : Opts := mkWE 48 [] [] [] 152 [] []
def icQMeets : IC := (.seq (.seq (.ops [(.u (.box 2 0 (.s 0))), (.u (.box 3 0 (.s 1))), (.u (.mov 4 (.c (.bool false))))]) (.tr [2, 3])) (.seq (.seq (.seq (.ops [(.u (.fad 8 0 0 (.ptr 65) 27 (.s 2))), (.u (.ld 9 (.ptr 65) (.s 8))), (.u (.eqb 10 false 1 (.s 9))), (.u (.mov 11 (.s 10))), (.g 11 false (some 12) (.fad 12 0 0 (.ptr 65) 27 (.s 3))), (.g 11 false (some 13) (.ld 13 (.ptr 65) (.s 12))), (.g 11 false (some 14) (.eqb 14 false 1 (.s 13))), (.u (.pck 15 (.s 11) (.c (.bool true)) (.s 14)))]) (.tr [15, 2, 3])) (.cond (.s 15) (.seq (.seq (.ops [(.u (.mov 4 (.c (.bool true))))]) (.tr [4])) .ret) .skip)) (.seq (.seq (.ops [(.u (.fad 16 1 1 (.slice 3) 27 (.s 3))), (.u (.ld 17 (.slice 3) (.s 16))), (.u (.call 18 (.c (.clo 35 [])) [(.s 17)] [(some 3)] true)), (.u (.mov 5 (.s 18)))]) (.tr [2, 3, 5])) (.seq (.seq (.seq (.ops [(.u (.fad 19 1 1 (.slice 3) 27 (.s 2))), (.u (.ld 20 (.slice 3) (.s 19))), (.u (.len 21 false (.s 20))), (.u (.shf 22 .shl .i64 (.c (.int .i64 1)) (.s 21))), (.u (.mov 23 (.c (.int .i64 0))))]) (.tr [22, 2, 3, 5, 23])) (.block 0 (.loop (.seq (.seq (.ops [(.u (.cmp 24 .lss (.s 23) (.s 22)))]) (.tr [24, 23, 22, 2, 3, 5])) (.seq (.cond (.s 24) .skip (.exit 0)) (.seq (.block 1 (.seq (.seq (.ops [(.u (.mov 25 (.s 23))), (.u (.mov 6 (.s 25)))]) (.tr [6, 23, 22, 2, 3, 5])) (.seq (.seq (.ops [(.u (.ld 26 (.strct [(.ptr 65), (.slice 3), (.int .i64)]) (.s 2))), (.u (.mov 27 (.s 6))), (.u (.call 28 (.c (.clo 34 [])) [(.s 26), (.s 27)] [none, none] true)), (.u (.call 29 (.c (.clo 35 [])) [(.s 28)] [(some 3)] true)), (.u (.mov 7 (.s 29)))]) (.tr [7, 23, 22, 2, 3, 5])) (.seq (.seq (.ops [(.u (.mov 30 (.s 7))), (.u (.call 31 (.c (.clo 37 [])) [(.s 30)] [none] true)), (.u (.cmp 32 .gtr (.s 31) (.c (.int .i64 0)))), (.u (.mov 33 (.s 32))), (.g 33 true (some 34) (.fad 34 0 0 (.ptr 65) 27 (.s 2))), (.g 33 true (some 35) (.ld 35 (.ptr 65) (.s 34))), (.g 33 true (some 36) (.mov 36 (.s 7))), (.g 33 true (some 37) (.call 37 (.c (.clo 36 [])) [(.s 35), (.s 36)] [none, none] true)), (.u (.pck 38 (.s 33) (.s 37) (.c (.bool false)))), (.u (.mov 39 (.s 38))), (.g 39 true (some 40) (.fad 40 0 0 (.ptr 65) 27 (.s 3))), (.g 39 true (some 41) (.ld 41 (.ptr 65) (.s 40))), (.g 39 true (some 42) (.mov 42 (.s 5))), (.g 39 true (some 43) (.mov 43 (.s 7))), (.g 39 true (some 44) (.bin 44 .andNot .u64 (.s 42) (.s 43))), (.g 39 true (some 45) (.call 45 (.c (.clo 36 [])) [(.s 41), (.s 44)] [none, none] true)), (.u (.pck 46 (.s 39) (.s 45) (.c (.bool false))))]) (.tr [46, 23, 22, 2, 3, 5])) (.cond (.s 46) (.seq (.seq (.ops [(.u (.mov 4 (.c (.bool false))))]) (.tr [4])) .ret) .skip))))) (.seq (.ops [(.u (.bin 47 .add .i64 (.s 23) (.c (.int .i64 1)))), (.u (.mov 23 (.s 47)))]) (.tr [22, 2, 3, 5, 23])))))))) (.seq (.seq (.ops [(.u (.mov 4 (.c (.bool true))))]) (.tr [4])) .ret)))))
def rsQMeets : List RV := [(.t 4)]
theorem irQMeets : fnIR Tryd.prog WQMeets 15 = some (icQMeets, rsQMeets) := by kernel_rfl
def spQMeets : FSpec := fun args h nx K => match args with
  | [.agg [.dat (.ptr t) pa, xa, .int .i64 na], .agg [.dat (.ptr t') pb, xb, .int .i64 nb]] => t = 65 ∧ t' = 65 ∧ ((pa.isNil = true ∧ K (.bool true) h) ∨ (pb.isNil = true ∧ K (.bool true) h) ∨
      ∃ qa qb la lb, pa = qa.enc ∧ pb = qb.enc ∧ xa = .dat (.slice 3) (.list la) ∧ xb = .dat (.slice 3) (.list lb) ∧ qa.ok ∧ qb.ok ∧ la.length ≤ 16 ∧ K (.bool (meetsB qa la qb lb)) h)
  | _ => False
set_option maxHeartbeats 4000000 in
set_option maxRecDepth 8000 in
theorem vQMeets {E : Nat → Value} (hE : Errs2 Tryd.prog (some 152) E) : Valid Tryd.prog E (gs []) 15 spQMeets := by
  refine valid_go (W := WQMeets) hE ((((allValid_bot.add (up (vQMask hE))).add (up (vQThose hE))).add (up (vOnes hE))).add (up (vQHasP hE))) irQMeets (by decide) (fun args h nx K hsp hok hnm => ?_)
  unfold spQMeets at hsp
  split at hsp
  · rename_i t pa xa na t' pb xb nb
    obtain ⟨rfl, rfl, hsp⟩ := hsp
    refine ⟨by simp [WQMeets, mkW, mkWE, mkWF], fun Q hQ => ?_⟩
    have ret : ∀ b h' nx', HLe h h' → K (.bool b) h → Q Ex.ret ⟨[(4, .bool b)], h', nx'⟩ := fun b h' nx' hh hb => by
      refine (hQ _ ?_).1
      exact fin_t (.bool b) rfl rfl hnm hh hb
    rcases hsp with ⟨hp, hK⟩ | ⟨hp, hK⟩ | ⟨qa, qb, la, lb, rfl, rfl, rfl, rfl, hqa, hqb, hla, hK⟩
    · simp (maxSteps := 4000000) only [icQMeets, go_sem, goD_calls, eq_self, implies_true, Int.reduceEq, Int.reduceBEq, Int.reduceBNe, Int.reduceLE, Int.reduceLT, Int.reduceAdd, Int.reduceSub, Int.reduceMul, Int.reduceNeg, Nat.reduceMul, Nat.reduceSub, Nat.reduceLeDiff, Nat.reduceLT, Nat.reduceEqDiff, Nat.reduceAdd, reduceCtorEq, ↓reduceIte, reduceIte, hp]
      exact ret _ _ _ (by ((try simp only []); repeat first | exact HLe.refl _ | refine HLe.cons (by simp only [hget, Nat.reduceEqDiff, Nat.left_eq_add, Nat.add_eq_left, nm_ne2, nm_en2, nm_ne3, nm_en3, nm_ne4, nm_en4, nm_ne5, nm_en5, reduceIte, ↓reduceIte] <;> first | rfl | ((repeat rw [if_neg (by omega)]) <;> rfl)) ?_ | refine HLe.skip hnm (by omega) ?_ | refine HLe.frz hnm (by omega) ?_ | refine HLe.del hnm (by omega) ?_)) hK
    · simp (maxSteps := 4000000) only [icQMeets, go_sem, goD_calls, eq_self, implies_true, Int.reduceEq, Int.reduceBEq, Int.reduceBNe, Int.reduceLE, Int.reduceLT, Int.reduceAdd, Int.reduceSub, Int.reduceMul, Int.reduceNeg, Nat.reduceMul, Nat.reduceSub, Nat.reduceLeDiff, Nat.reduceLT, Nat.reduceEqDiff, Nat.reduceAdd, reduceCtorEq, ↓reduceIte, reduceIte, hp]
      exact ⟨fun _ => ret _ _ _ (by ((try simp only []); repeat first | exact HLe.refl _ | refine HLe.cons (by simp only [hget, Nat.reduceEqDiff, Nat.left_eq_add, Nat.add_eq_left, nm_ne2, nm_en2, nm_ne3, nm_en3, nm_ne4, nm_en4, nm_ne5, nm_en5, reduceIte, ↓reduceIte] <;> first | rfl | ((repeat rw [if_neg (by omega)]) <;> rfl)) ?_ | refine HLe.skip hnm (by omega) ?_ | refine HLe.frz hnm (by omega) ?_ | refine HLe.del hnm (by omega) ?_)) hK, fun _ => ret _ _ _ (by ((try simp only []); repeat first | exact HLe.refl _ | refine HLe.cons (by simp only [hget, Nat.reduceEqDiff, Nat.left_eq_add, Nat.add_eq_left, nm_ne2, nm_en2, nm_ne3, nm_en3, nm_ne4, nm_en4, nm_ne5, nm_en5, reduceIte, ↓reduceIte] <;> first | rfl | ((repeat rw [if_neg (by omega)]) <;> rfl)) ?_ | refine HLe.skip hnm (by omega) ?_ | refine HLe.frz hnm (by omega) ?_ | refine HLe.del hnm (by omega) ?_)) hK⟩
    have na0 := QP.enc_notNil qa
    have nb0 := QP.enc_notNil qb
    have e1 := shl_i64 hla
    have hpw : (2 : Nat) ^ la.length ≤ 2 ^ 16 := Nat.pow_le_pow_right (by omega) hla
    obtain ⟨X, hX⟩ : ∃ X, (2 : Nat) ^ la.length = X := ⟨_, rfl⟩
    rw [hX] at hpw e1
    have hla2 : la.length ≤ 1000 := by omega
    simp (maxSteps := 4000000) only [icQMeets, go_sem, goD_calls, eq_self, implies_true, Int.reduceEq, Int.reduceBEq, Int.reduceBNe, Int.reduceLE, Int.reduceLT, Int.reduceAdd, Int.reduceSub, Int.reduceMul, Int.reduceNeg, Nat.reduceMul, Nat.reduceSub, Nat.reduceLeDiff, Nat.reduceLT, Nat.reduceEqDiff, Nat.reduceAdd, reduceCtorEq, ↓reduceIte, reduceIte, na0, nb0, spQMask, e1, true_and, D_l]
    refine ⟨by omega, ?_⟩
    refine go_loop (α := { i : Nat // i ≤ X ∧ ∀ j, j < i → clashB qa qb (pickM la j) (maskL lb) = false }) (I := fun i => { f := [(22, .int .i64 ((X : Nat) : Int)), (23, .int .i64 i.1), (2, .ptr nx 0), (3, .ptr (nx + 1) 0), (5, .int .u64 (mI (maskL lb)))], h := (nx + 1, .cells [.dat (.ptr 65) qb.enc, .dat (.slice 3) (.list lb), .int .i64 nb]) :: (nx, .cells [.dat (.ptr 65) qa.enc, .dat (.slice 3) (.list la), .int .i64 na]) :: h, nx := nx + 1 + 1 }) (μ := fun i => X - i.1) _ _ _ ⟨0, by omega, fun j hj => absurd hj (by omega)⟩ ?_ (fun i B hB => ?_)
    · refine leq_id (by simp only [frEq_cons, frEq_nil, frIn_cons, frIn_nil, and_true, fget_cons, Nat.reduceEqDiff, reduceIte, ↓reduceIte, true_and, SV.ren, SV.renL, ren1] <;> (try rfl) <;> (try simp)) (by (simp only [frLt_cons, frLt_nil, and_true, SV.lt, SV.ltL, true_and] <;> omega)) (by ((try simp only []); repeat first | exact HLe.refl _ | refine HLe.cons (by simp only [hget, Nat.reduceEqDiff, Nat.left_eq_add, Nat.add_eq_left, nm_ne2, nm_en2, nm_ne3, nm_en3, nm_ne4, nm_en4, nm_ne5, nm_en5, reduceIte, ↓reduceIte] <;> first | rfl | ((repeat rw [if_neg (by omega)]) <;> rfl)) ?_ | refine HLe.skip hnm (by omega) ?_ | refine HLe.frz hnm (by omega) ?_ | refine HLe.del hnm (by omega) ?_)) (by (repeat first | exact HLt.mono hnm (by simp only [] <;> omega) | refine HLt.cons (by simp only [] <;> omega) (by simp only [Tok.lt, SV.ltL, SV.lt, and_true, true_and] <;> omega) ?_)) (by simp only [] <;> omega)
    · obtain ⟨i, hi, hno⟩ := i
      simp only at hB
      by_cases hil : i < X
      · have c1 : decide ((i : Int) < ((X : Nat) : Int)) = true := decide_eq_true (by omega)
        have next : clashB qa qb (pickM la i) (maskL lb) = false → ∀ S', Leq nx S' { f := [(22, .int .i64 ((X : Nat) : Int)), (23, .int .i64 ((i + 1 : Nat) : Int)), (2, .ptr nx 0), (3, .ptr (nx + 1) 0), (5, .int .u64 (mI (maskL lb)))], h := (nx + 1, .cells [.dat (.ptr 65) qb.enc, .dat (.slice 3) (.list lb), .int .i64 nb]) :: (nx, .cells [.dat (.ptr 65) qa.enc, .dat (.slice 3) (.list la), .int .i64 na]) :: h, nx := nx + 1 + 1 } → B S' := fun hc S' hl =>
          hB _ ⟨i + 1, by omega, fun j hj => by
            by_cases e : j = i
            · exact e ▸ hc
            · exact hno j (by omega)⟩ (by simp only []; omega) hl
        obtain ⟨m, hm⟩ : ∃ m, maskL (thoseL la (i : Int) la.length) = m := ⟨_, rfl⟩
        have hm' : pickM la i = m := hm
        rw [hm'] at next
        rcases bool_ftQ (decide (0 < onesI (mI m))) with d1 | d1
        · simp (maxSteps := 4000000) only [go_sem, goD_calls, eq_self, implies_true, Int.reduceEq, Int.reduceBEq, Int.reduceBNe, Int.reduceLE, Int.reduceLT, Int.reduceAdd, Int.reduceSub, Int.reduceMul, Int.reduceNeg, Nat.reduceMul, Nat.reduceSub, Nat.reduceLeDiff, Nat.reduceLT, Nat.reduceEqDiff, Nat.reduceAdd, reduceCtorEq, ↓reduceIte, reduceIte, c1, hla2, hm, spQMask, spQThose, spOnes, d1, D_l, min_i64, max_i64]
          repeat refine ⟨by omega, ?_⟩
          refine next (by unfold clashB; rw [d1]; rfl) _ ?_
          refine leq_id ?_ (by (simp only [frLt_cons, frLt_nil, and_true, SV.lt, SV.ltL, true_and] <;> omega)) (by ((try simp only []); repeat first | exact HLe.refl _ | refine HLe.cons (by simp only [hget, Nat.reduceEqDiff, Nat.left_eq_add, Nat.add_eq_left, nm_ne2, nm_en2, nm_ne3, nm_en3, nm_ne4, nm_en4, nm_ne5, nm_en5, reduceIte, ↓reduceIte] <;> first | rfl | ((repeat rw [if_neg (by omega)]) <;> rfl)) ?_ | refine HLe.skip hnm (by omega) ?_ | refine HLe.frz hnm (by omega) ?_ | refine HLe.del hnm (by omega) ?_)) (by (repeat first | exact HLt.mono hnm (by simp only [] <;> omega) | refine HLt.cons (by simp only [] <;> omega) (by simp only [Tok.lt, SV.ltL, SV.lt, and_true, true_and] <;> omega) ?_)) (by simp only [] <;> omega)
          simp only [frEq_cons, frEq_nil, frIn_cons, frIn_nil, and_true, fget_cons, Nat.reduceEqDiff, reduceIte, ↓reduceIte, true_and, SV.ren, SV.renL, ren1]
          simp
        rcases bool_ftQ (qa.hasM m) with d2 | d2
        · simp (maxSteps := 4000000) only [go_sem, goD_calls, eq_self, implies_true, Int.reduceEq, Int.reduceBEq, Int.reduceBNe, Int.reduceLE, Int.reduceLT, Int.reduceAdd, Int.reduceSub, Int.reduceMul, Int.reduceNeg, Nat.reduceMul, Nat.reduceSub, Nat.reduceLeDiff, Nat.reduceLT, Nat.reduceEqDiff, Nat.reduceAdd, reduceCtorEq, ↓reduceIte, reduceIte, c1, hla2, hm, spQMask, spQThose, spOnes, spQHasP, d1, D_l, min_i64, max_i64]
          refine .inr ⟨qa, m, rfl, hqa, rfl, ?_⟩
          simp (maxSteps := 4000000) only [go_sem, goD_calls, eq_self, implies_true, Int.reduceEq, Int.reduceBEq, Int.reduceBNe, Int.reduceLE, Int.reduceLT, Int.reduceAdd, Int.reduceSub, Int.reduceMul, Int.reduceNeg, Nat.reduceMul, Nat.reduceSub, Nat.reduceLeDiff, Nat.reduceLT, Nat.reduceEqDiff, Nat.reduceAdd, reduceCtorEq, ↓reduceIte, reduceIte, d2, min_i64, max_i64]
          repeat refine ⟨by omega, ?_⟩
          refine next (by unfold clashB; rw [d1, d2]; rfl) _ ?_
          refine leq_id ?_ (by (simp only [frLt_cons, frLt_nil, and_true, SV.lt, SV.ltL, true_and] <;> omega)) (by ((try simp only []); repeat first | exact HLe.refl _ | refine HLe.cons (by simp only [hget, Nat.reduceEqDiff, Nat.left_eq_add, Nat.add_eq_left, nm_ne2, nm_en2, nm_ne3, nm_en3, nm_ne4, nm_en4, nm_ne5, nm_en5, reduceIte, ↓reduceIte] <;> first | rfl | ((repeat rw [if_neg (by omega)]) <;> rfl)) ?_ | refine HLe.skip hnm (by omega) ?_ | refine HLe.frz hnm (by omega) ?_ | refine HLe.del hnm (by omega) ?_)) (by (repeat first | exact HLt.mono hnm (by simp only [] <;> omega) | refine HLt.cons (by simp only [] <;> omega) (by simp only [Tok.lt, SV.ltL, SV.lt, and_true, true_and] <;> omega) ?_)) (by simp only [] <;> omega)
          simp only [frEq_cons, frEq_nil, frIn_cons, frIn_nil, and_true, fget_cons, Nat.reduceEqDiff, reduceIte, ↓reduceIte, true_and, SV.ren, SV.renL, ren1]
          simp
        rcases bool_ftQ (qb.hasM (maskL lb &&& ~~~m)) with d3 | d3
        · simp (maxSteps := 4000000) only [go_sem, goD_calls, eq_self, implies_true, Int.reduceEq, Int.reduceBEq, Int.reduceBNe, Int.reduceLE, Int.reduceLT, Int.reduceAdd, Int.reduceSub, Int.reduceMul, Int.reduceNeg, Nat.reduceMul, Nat.reduceSub, Nat.reduceLeDiff, Nat.reduceLT, Nat.reduceEqDiff, Nat.reduceAdd, reduceCtorEq, ↓reduceIte, reduceIte, c1, hla2, hm, spQMask, spQThose, spOnes, spQHasP, d1, D_l, min_i64, max_i64]
          refine .inr ⟨qa, m, rfl, hqa, rfl, ?_⟩
          simp (maxSteps := 4000000) only [go_sem, goD_calls, eq_self, implies_true, Int.reduceEq, Int.reduceBEq, Int.reduceBNe, Int.reduceLE, Int.reduceLT, Int.reduceAdd, Int.reduceSub, Int.reduceMul, Int.reduceNeg, Nat.reduceMul, Nat.reduceSub, Nat.reduceLeDiff, Nat.reduceLT, Nat.reduceEqDiff, Nat.reduceAdd, reduceCtorEq, ↓reduceIte, reduceIte, d2, spQHasP, andNot_mI, min_i64, max_i64]
          refine .inr ⟨qb, _, rfl, hqb, rfl, ?_⟩
          simp (maxSteps := 4000000) only [go_sem, goD_calls, eq_self, implies_true, Int.reduceEq, Int.reduceBEq, Int.reduceBNe, Int.reduceLE, Int.reduceLT, Int.reduceAdd, Int.reduceSub, Int.reduceMul, Int.reduceNeg, Nat.reduceMul, Nat.reduceSub, Nat.reduceLeDiff, Nat.reduceLT, Nat.reduceEqDiff, Nat.reduceAdd, reduceCtorEq, ↓reduceIte, reduceIte, d3, min_i64, max_i64]
          repeat refine ⟨by omega, ?_⟩
          refine next (by unfold clashB; rw [d1, d2, d3]; rfl) _ ?_
          refine leq_id ?_ (by (simp only [frLt_cons, frLt_nil, and_true, SV.lt, SV.ltL, true_and] <;> omega)) (by ((try simp only []); repeat first | exact HLe.refl _ | refine HLe.cons (by simp only [hget, Nat.reduceEqDiff, Nat.left_eq_add, Nat.add_eq_left, nm_ne2, nm_en2, nm_ne3, nm_en3, nm_ne4, nm_en4, nm_ne5, nm_en5, reduceIte, ↓reduceIte] <;> first | rfl | ((repeat rw [if_neg (by omega)]) <;> rfl)) ?_ | refine HLe.skip hnm (by omega) ?_ | refine HLe.frz hnm (by omega) ?_ | refine HLe.del hnm (by omega) ?_)) (by (repeat first | exact HLt.mono hnm (by simp only [] <;> omega) | refine HLt.cons (by simp only [] <;> omega) (by simp only [Tok.lt, SV.ltL, SV.lt, and_true, true_and] <;> omega) ?_)) (by simp only [] <;> omega)
          simp only [frEq_cons, frEq_nil, frIn_cons, frIn_nil, and_true, fget_cons, Nat.reduceEqDiff, reduceIte, ↓reduceIte, true_and, SV.ren, SV.renL, ren1]
          simp
        · simp (maxSteps := 4000000) only [go_sem, goD_calls, eq_self, implies_true, Int.reduceEq, Int.reduceBEq, Int.reduceBNe, Int.reduceLE, Int.reduceLT, Int.reduceAdd, Int.reduceSub, Int.reduceMul, Int.reduceNeg, Nat.reduceMul, Nat.reduceSub, Nat.reduceLeDiff, Nat.reduceLT, Nat.reduceEqDiff, Nat.reduceAdd, reduceCtorEq, ↓reduceIte, reduceIte, c1, hla2, hm, spQMask, spQThose, spOnes, spQHasP, d1, D_l, min_i64, max_i64]
          refine .inr ⟨qa, m, rfl, hqa, rfl, ?_⟩
          simp (maxSteps := 4000000) only [go_sem, goD_calls, eq_self, implies_true, Int.reduceEq, Int.reduceBEq, Int.reduceBNe, Int.reduceLE, Int.reduceLT, Int.reduceAdd, Int.reduceSub, Int.reduceMul, Int.reduceNeg, Nat.reduceMul, Nat.reduceSub, Nat.reduceLeDiff, Nat.reduceLT, Nat.reduceEqDiff, Nat.reduceAdd, reduceCtorEq, ↓reduceIte, reduceIte, d2, spQHasP, andNot_mI, min_i64, max_i64]
          refine .inr ⟨qb, _, rfl, hqb, rfl, ?_⟩
          simp (maxSteps := 4000000) only [go_sem, goD_calls, eq_self, implies_true, Int.reduceEq, Int.reduceBEq, Int.reduceBNe, Int.reduceLE, Int.reduceLT, Int.reduceAdd, Int.reduceSub, Int.reduceMul, Int.reduceNeg, Nat.reduceMul, Nat.reduceSub, Nat.reduceLeDiff, Nat.reduceLT, Nat.reduceEqDiff, Nat.reduceAdd, reduceCtorEq, ↓reduceIte, reduceIte, d3, min_i64, max_i64]
          refine ret _ _ _ (by ((try simp only []); repeat first | exact HLe.refl _ | refine HLe.cons (by simp only [hget, Nat.reduceEqDiff, Nat.left_eq_add, Nat.add_eq_left, nm_ne2, nm_en2, nm_ne3, nm_en3, nm_ne4, nm_en4, nm_ne5, nm_en5, reduceIte, ↓reduceIte] <;> first | rfl | ((repeat rw [if_neg (by omega)]) <;> rfl)) ?_ | refine HLe.skip hnm (by omega) ?_ | refine HLe.frz hnm (by omega) ?_ | refine HLe.del hnm (by omega) ?_)) ?_
          rw [meets_no (x := i) (by omega) (by rw [hm']; unfold clashB; rw [d1, d2, d3]; rfl)] at hK
          exact hK
      · obtain rfl : i = X := by omega
        have c1 : decide ((i : Int) < (i : Int)) = false := decide_eq_false (by omega)
        simp (maxSteps := 4000000) only [go_sem, goD_calls, eq_self, implies_true, Int.reduceEq, Int.reduceBEq, Int.reduceBNe, Int.reduceLE, Int.reduceLT, Int.reduceAdd, Int.reduceSub, Int.reduceMul, Int.reduceNeg, Nat.reduceMul, Nat.reduceSub, Nat.reduceLeDiff, Nat.reduceLT, Nat.reduceEqDiff, Nat.reduceAdd, reduceCtorEq, ↓reduceIte, reduceIte, c1]
        refine ret _ _ _ (by ((try simp only []); repeat first | exact HLe.refl _ | refine HLe.cons (by simp only [hget, Nat.reduceEqDiff, Nat.left_eq_add, Nat.add_eq_left, nm_ne2, nm_en2, nm_ne3, nm_en3, nm_ne4, nm_en4, nm_ne5, nm_en5, reduceIte, ↓reduceIte] <;> first | rfl | ((repeat rw [if_neg (by omega)]) <;> rfl)) ?_ | refine HLe.skip hnm (by omega) ?_ | refine HLe.frz hnm (by omega) ?_ | refine HLe.del hnm (by omega) ?_)) ?_
        rw [meets_yes (by rw [hX]; exact hno)] at hK
        exact hK
  · exact hsp.elim
end Go.Proofs.YtkmilijehekdoaaDoor
