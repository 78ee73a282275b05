/- Rows of bytes: copies, and held against one another. -/
import Derived.Test.YtmjenjccinfbaaaDoorErr
namespace Go.Proofs.YtmjenjccinfbaaaDoor
set_option linter.unusedVariables false
set_option linter.unusedSimpArgs false
open Go Go.Fw
attribute [local go_sem] walkSet evMdl evMupD evMup evLkp frpL eltP eltV eltK preF preP prePt prePd frzP evNlq ev frOf oget ogets argSs argS evCat evMm frzL evBin evWrp evShf evCmp evUna evNil evBeq evLd evSt evFad evIad evAad evLen evSln evEls evApp evParts evSlc evNlc evMif evPck evFld evBld evTas evIfq evSeq evSl0 evBxf evAgl evAgq evBsf hget hset hdel cellAt arrAt setCellAt setArrAt takeC lenC svCells SV.okc SV.one ldSV Fw.isAgg explode explodeL toD toDL toD1 Ty.size Ty.sizeL frz1 Fr.sub Heap.sub Tok.sub SV.sub SV.subL
theorem ty_byte : tyOf Tryd.prog 8 5 = .int .u8 := by kernel_rfl
theorem list_l (l : List D) : (D.list l).l = l := rfl
/-- The numbers of a row of whole numbers. -/
def ints (l : List D) : List Int := l.map D.i

def sameD (a b : List D) : Bool := ints a == ints b
theorem ints_take (a : List D) (i : Nat) : ints (a.take i) = (ints a).take i := by simp [ints]
theorem ints_len (a : List D) : (ints a).length = a.length := by simp [ints]
theorem ints_get (a : List D) (i : Nat) (hi : i < a.length) : (ints a)[i]? = some (a.getD i .nil).i := by
  simp [ints, List.getD_eq_getElem?_getD, List.getElem?_eq_getElem hi]
theorem ints_ne {a b : List D} {i : Nat} (ha : i < a.length) (hb : i < b.length) (h : (a.getD i .nil).i ≠ (b.getD i .nil).i) : sameD a b = false := by
  unfold sameD
  rw [beq_eq_false_iff_ne]
  intro e
  have := ints_get a i ha
  rw [e, ints_get b i hb] at this
  exact h (Option.some.inj this).symm
theorem ints_step {a b : List D} {i : Nat} (ha : i < a.length) (hb : i < b.length) (h : (ints a).take i = (ints b).take i) (he : (a.getD i .nil).i = (b.getD i .nil).i) : (ints a).take (i + 1) = (ints b).take (i + 1) := by
  rw [List.take_add_one, List.take_add_one, h, ints_get a i ha, ints_get b i hb, he]

def WCloneB : Opts := mkWE 8 [] [] [] 171 [] []
def icCloneB : IC := (.seq (.seq (.ops [(.u (.mov 2 (.c .nils)))]) (.tr [0])) (.seq (.seq (.seq (.ops [(.u (.mov 3 (.s 0))), (.u (.nlq 4 false (.s 3)))]) (.tr [4, 0])) (.cond (.s 4) (.seq (.seq (.ops [(.u (.mov 2 (.c .nils)))]) (.tr [2])) .ret) .skip)) (.seq (.seq (.ops [(.u (.bsl 5 5 (.int .u8) [])), (.u (.mov 6 (.s 0))), (.u (.app 7 5 (.int .u8) 1 (.s 5) (.s 6))), (.u (.mov 2 (.s 7)))]) (.tr [2])) .ret)))
def rsCloneB : List RV := [(.t 2)]
theorem irCloneB : fnIR Tryd.prog WCloneB 117 = some (icCloneB, rsCloneB) := by kernel_rfl
def spCloneB : FSpec := fun args h nx K => match args with
  | [.dat (.slice 5) d] => d.l.length ≤ 140737488355328 ∧ K (.vec nx) ((nx, .arr 5 (.int .u8) d.l) :: h)
  | _ => False
theorem vCloneB {E : Nat → Value} (hE : Errs2 Tryd.prog (some 171) E) : Valid Tryd.prog E (gs []) 117 spCloneB := by
  refine valid_go (W := WCloneB) hE allValid_bot irCloneB (by decide) (fun args h nx K hsp hok hnm => ?_)
  unfold spCloneB at hsp
  split at hsp
  · rename_i d
    obtain ⟨hlen, hsp⟩ := hsp
    refine ⟨by simp [WCloneB, mkWE], fun Q hQ => ?_⟩
    simp only [icCloneB, go_sem, goD_calls, eq_self, implies_true, Int.reduceEq, Int.reduceBEq, Int.reduceBNe, Int.reduceLE, Int.reduceLT, Int.reduceAdd, Int.reduceSub, Int.reduceMul, Int.reduceNeg, Nat.reduceMul, Nat.reduceSub, Nat.reduceLeDiff, Nat.reduceLT, Nat.reduceEqDiff, Nat.reduceAdd, reduceCtorEq, ↓reduceIte, reduceIte]
    intro b hb
    refine ⟨fun hc => ?_, fun hc => ⟨by simpa using hlen, ?_⟩⟩
    · have hl : d.l = [] := hb hc
      rw [hl] at hsp
      exact (hQ _ (fin_nils 5 (.int .u8) rfl (Nat.le_refl _) hnm (by ((try simp only []); repeat first | exact HLe.refl _ | refine HLe.cons (by simp only [hget, Nat.reduceEqDiff, Nat.left_eq_add, Nat.add_eq_left, nm_ne2, nm_en2, nm_ne3, nm_en3, nm_ne4, nm_en4, nm_ne5, nm_en5, reduceIte, ↓reduceIte] <;> first | rfl | ((repeat rw [if_neg (by omega)]) <;> rfl)) ?_ | refine HLe.skip hnm (by omega) ?_ | refine HLe.frz hnm (by omega) ?_ | refine HLe.del hnm (by omega) ?_)) hsp)).1
    · refine (hQ _ (fin_vec rfl (by simp only [hget, ↓reduceIte]; rfl) (by omega) hnm (by ((try simp only []); repeat first | exact HLe.refl _ | refine HLe.cons (by simp only [hget, Nat.reduceEqDiff, Nat.left_eq_add, Nat.add_eq_left, nm_ne2, nm_en2, nm_ne3, nm_en3, nm_ne4, nm_en4, nm_ne5, nm_en5, reduceIte, ↓reduceIte] <;> first | rfl | ((repeat rw [if_neg (by omega)]) <;> rfl)) ?_ | refine HLe.skip hnm (by omega) ?_ | refine HLe.frz hnm (by omega) ?_ | refine HLe.del hnm (by omega) ?_)) (by simpa using hsp))).1
  · exact hsp.elim

def WBytes : Opts := mkWE 22 [] [] [] 171 [] []
def icBytes : IC := (.seq (.seq (.ops [(.u (.mov 2 (.c .nils)))]) (.tr [0])) (.seq (.seq (.ops [(.u (.mov 5 (.s 0))), (.u (.len 6 false (.s 5))), (.u (.mk 7 5 (.int .u8) 1 (.int 0) (.c (.int .i64 0)) (.s 6))), (.u (.mov 3 (.s 7)))]) (.tr [0, 3])) (.seq (.seq (.seq (.ops [(.u (.mov 4 (.c (.int .i64 0))))]) (.tr [0, 4, 3])) (.block 0 (.loop (.seq (.seq (.seq (.ops [(.u (.mov 8 (.s 4))), (.u (.mov 9 (.s 0))), (.u (.len 10 false (.s 9))), (.u (.cmp 11 .lss (.s 8) (.s 10)))]) (.tr [11, 4, 0, 3])) (.cond (.s 11) .skip (.exit 0))) (.seq (.block 1 (.seq (.ops [(.u (.mov 14 (.s 3))), (.u (.mov 15 (.s 0))), (.u (.mov 16 (.s 4))), (.u (.iad 17 5 (.int .u8) (.s 15) (.s 16))), (.u (.ld 18 (.int .u8) (.s 17))), (.u (.bsl 19 5 (.int .u8) [(.s 18)])), (.u (.app 20 5 (.int .u8) 1 (.s 14) (.s 19))), (.u (.mov 3 (.s 20)))]) (.tr [4, 0, 3]))) (.seq (.ops [(.u (.mov 12 (.s 4))), (.u (.bin 13 .add .i64 (.s 12) (.c (.int .i64 1)))), (.u (.mov 4 (.s 13)))]) (.tr [0, 4, 3]))))))) (.seq (.seq (.ops [(.u (.mov 21 (.s 3))), (.u (.mov 2 (.s 21)))]) (.tr [2])) .ret))))
def rsBytes : List RV := [(.t 2)]
theorem irBytes : fnIR Tryd.prog WBytes 74 = some (icBytes, rsBytes) := by kernel_rfl
def spBytes : FSpec := fun args h nx K => match args with
  | [.dat (.slice 5) d] => d.l.length ≤ 140737488355328 ∧ K (.vec nx) ((nx, .arr 5 (.int .u8) d.l) :: h)
  | _ => False
set_option maxHeartbeats 400000 in
theorem vBytes {E : Nat → Value} (hE : Errs2 Tryd.prog (some 171) E) : Valid Tryd.prog E (gs []) 74 spBytes := by
  refine valid_go (W := WBytes) hE allValid_bot irBytes (by decide) (fun args h nx K hsp hok hnm => ?_)
  unfold spBytes at hsp
  split at hsp
  · rename_i d
    obtain ⟨hlen, hsp⟩ := hsp
    refine ⟨by simp [WBytes, mkW, mkWE], fun Q hQ => ?_⟩
    obtain ⟨hd, _⟩ := hok
    simp only [SV.ok] at hd
    obtain ⟨hd1, hd2, hd3⟩ := Wt.slice hd
    generalize d.l = l at hsp hlen hd1 hd2 hd3
    subst hd1
    simp only [icBytes, go_sem, goD_calls, eq_self, implies_true, Int.reduceEq, Int.reduceBEq, Int.reduceBNe, Int.reduceLE, Int.reduceLT, Int.reduceAdd, Int.reduceSub, Int.reduceMul, Int.reduceNeg, Nat.reduceMul, Nat.reduceSub, Nat.reduceLeDiff, Nat.reduceLT, Nat.reduceEqDiff, Nat.reduceAdd, reduceCtorEq, ↓reduceIte, reduceIte, list_l]
    have hml : maxLen ≤ 9223372036854775807 := by decide
    refine ⟨by omega, ?_⟩
    refine go_loop (α := { i : Nat // i ≤ l.length }) (I := fun i => { f := [(4, .int .i64 i.1), (3, .vec nx), (0, .dat (.slice 5) (.list l))], h := (nx, .arr 5 (.int .u8) (l.take i.1)) :: h, nx := nx + 1 }) (μ := fun i => l.length - i.1) _ _ _ ⟨0, by omega⟩ ?_ (fun i B hB => ?_)
    · refine leq_id ?_ (by (simp only [frLt_cons, frLt_nil, and_true, SV.lt, SV.ltL, true_and] <;> omega)) (by ((try simp only []); repeat first | exact HLe.refl _ | refine HLe.cons (by simp only [hget, Nat.reduceEqDiff, Nat.left_eq_add, Nat.add_eq_left, nm_ne2, nm_en2, nm_ne3, nm_en3, nm_ne4, nm_en4, nm_ne5, nm_en5, reduceIte, ↓reduceIte] <;> first | rfl | ((repeat rw [if_neg (by omega)]) <;> rfl)) ?_ | refine HLe.skip hnm (by omega) ?_ | refine HLe.frz hnm (by omega) ?_ | refine HLe.del hnm (by omega) ?_)) (by (repeat first | exact HLt.mono hnm (by simp only [] <;> omega) | refine HLt.cons (by simp only [] <;> omega) (by simp only [Tok.lt, SV.ltL, SV.lt, and_true, true_and] <;> omega) ?_)) (by simp only [] <;> omega)
      simp only [frEq_cons, frEq_nil, frIn_cons, frIn_nil, and_true, fget_cons, Nat.reduceEqDiff, reduceIte, ↓reduceIte, true_and, SV.ren, SV.renL, ren1]
      rfl
    · obtain ⟨i, hi⟩ := i
      simp only [go_sem, goD_calls, eq_self, implies_true, Int.reduceEq, Int.reduceBEq, Int.reduceBNe, Int.reduceLE, Int.reduceLT, Int.reduceAdd, Int.reduceSub, Int.reduceMul, Int.reduceNeg, Nat.reduceMul, Nat.reduceSub, Nat.reduceLeDiff, Nat.reduceLT, Nat.reduceEqDiff, Nat.reduceAdd, reduceCtorEq, ↓reduceIte, reduceIte, list_l]
      refine ⟨fun hc => ?_, fun hc => ?_⟩
      · have hi' : i < l.length := by have := of_decide_eq_true hc; omega
        have hx : l.getD i .nil = l[i] := by rw [List.getD_eq_getElem?_getD, List.getElem?_eq_getElem hi']; rfl
        have hw := hd3 _ (List.getElem_mem hi')
        rw [ty_byte] at hw
        replace hw := hw.int
        have hte : l.take i ++ [.int (l.getD i .nil).i] = l.take (i + 1) := by rw [hx, ← hw.1, List.take_succ_eq_append_getElem hi']
        refine ⟨⟨by omega, by omega⟩, by rw [List.length_take]; omega, ⟨by rw [min_i64]; omega, by rw [max_i64]; omega⟩, hB _ ⟨i + 1, by omega⟩ (by simp only []; omega) ?_⟩
        rw [Int.toNat_natCast, hte]
        refine leq_ren1 nx (nx + 2) (by omega) (by simp only []; omega) ?_ (by (simp only [frLt_cons, frLt_nil, and_true, SV.lt, SV.ltL, true_and] <;> omega)) ?_ (by (repeat first | exact HLt.mono hnm (by simp only [] <;> omega) | refine HLt.cons (by simp only [] <;> omega) (by simp only [Tok.lt, SV.ltL, SV.lt, and_true, true_and] <;> omega) ?_)) (by simp only [] <;> omega)
        · simp only [frEq_cons, frEq_nil, frIn_cons, frIn_nil, and_true, fget_cons, Nat.reduceEqDiff, reduceIte, ↓reduceIte, true_and, SV.ren, SV.renL, ren1]
          simp
        · exact HRen.cons (by rw [ren1_eq]; simp [hget, Tok.ren]) (HRen.base hnm (Nat.le_refl _) (by ((try simp only []); repeat first | exact HLe.refl _ | refine HLe.cons (by simp only [hget, Nat.reduceEqDiff, Nat.left_eq_add, Nat.add_eq_left, nm_ne2, nm_en2, nm_ne3, nm_en3, nm_ne4, nm_en4, nm_ne5, nm_en5, reduceIte, ↓reduceIte] <;> first | rfl | ((repeat rw [if_neg (by omega)]) <;> rfl)) ?_ | refine HLe.skip hnm (by omega) ?_ | refine HLe.frz hnm (by omega) ?_ | refine HLe.del hnm (by omega) ?_)))
      · have e : i = l.length := by have := of_decide_eq_false hc; omega
        subst e
        refine (hQ _ (fin_vec rfl ?_ (Nat.le_refl _) hnm (by ((try simp only []); repeat first | exact HLe.refl _ | refine HLe.cons (by simp only [hget, Nat.reduceEqDiff, Nat.left_eq_add, Nat.add_eq_left, nm_ne2, nm_en2, nm_ne3, nm_en3, nm_ne4, nm_en4, nm_ne5, nm_en5, reduceIte, ↓reduceIte] <;> first | rfl | ((repeat rw [if_neg (by omega)]) <;> rfl)) ?_ | refine HLe.skip hnm (by omega) ?_ | refine HLe.frz hnm (by omega) ?_ | refine HLe.del hnm (by omega) ?_)) hsp)).1
        simp only [hget, if_true, List.take_length]
  · exact hsp.elim

/-- The same numbers? -/
def spSameB : FSpec := fun args h nx K => match args with
  | [.dat (.slice 5) a, .dat (.slice 5) b] => K (.bool (sameD a.l b.l)) h
  | _ => False

def WSameBytes : Opts := mkWE 29 [] [] [] 171 [] []
def icSameBytes : IC := (.seq (.seq (.ops [(.u (.mov 4 (.c (.bool false))))]) (.tr [0, 1])) (.seq (.seq (.seq (.ops [(.u (.mov 7 (.s 0))), (.u (.len 8 false (.s 7))), (.u (.mov 9 (.s 1))), (.u (.len 10 false (.s 9))), (.u (.cmp 11 .neq (.s 8) (.s 10)))]) (.tr [11, 0, 1])) (.cond (.s 11) (.seq (.seq (.ops [(.u (.mov 4 (.c (.bool false))))]) (.tr [4])) .ret) .skip)) (.seq (.seq (.seq (.ops [(.u (.mov 5 (.c (.int .i64 0))))]) (.tr [0, 1, 5])) (.block 0 (.loop (.seq (.seq (.seq (.ops [(.u (.mov 12 (.s 5))), (.u (.mov 13 (.s 0))), (.u (.len 14 false (.s 13))), (.u (.cmp 15 .lss (.s 12) (.s 14)))]) (.tr [15, 5, 0, 1])) (.cond (.s 15) .skip (.exit 0))) (.seq (.block 1 (.seq (.seq (.rgn [] [(false, (.u (.mov 18 (.s 0)))), (false, (.u (.mov 19 (.s 5)))), (false, (.u (.iad 20 5 (.int .u8) (.s 18) (.s 19)))), (false, (.u (.ld 21 (.int .u8) (.s 20)))), (false, (.u (.mov 22 (.s 1)))), (false, (.u (.mov 23 (.s 5)))), (false, (.u (.iad 24 5 (.int .u8) (.s 22) (.s 23)))), (false, (.u (.ld 25 (.int .u8) (.s 24)))), (false, (.u (.cmp 26 .eql (.s 21) (.s 25)))), (false, (.u (.mov 6 (.s 26))))]) (.tr [6, 5, 0, 1])) (.seq (.seq (.ops [(.u (.mov 27 (.s 6))), (.u (.una 28 .not (.s 27)))]) (.tr [28, 5, 0, 1])) (.cond (.s 28) (.seq (.seq (.ops [(.u (.mov 4 (.c (.bool false))))]) (.tr [4])) .ret) .skip)))) (.seq (.ops [(.u (.mov 16 (.s 5))), (.u (.bin 17 .add .i64 (.s 16) (.c (.int .i64 1)))), (.u (.mov 5 (.s 17)))]) (.tr [0, 1, 5]))))))) (.seq (.seq (.ops [(.u (.mov 4 (.c (.bool true))))]) (.tr [4])) .ret))))
def rsSameBytes : List RV := [(.t 4)]
theorem irSameBytes : fnIR Tryd.prog WSameBytes 119 = some (icSameBytes, rsSameBytes) := by kernel_rfl
set_option maxHeartbeats 1000000 in
theorem vSameBytes {E : Nat → Value} (hE : Errs2 Tryd.prog (some 171) E) : Valid Tryd.prog E (gs []) 119 spSameB := by
  refine valid_go (W := WSameBytes) hE allValid_bot irSameBytes (by decide) (fun args h nx K hsp hok hnm => ?_)
  unfold spSameB at hsp
  split at hsp
  · rename_i a b
    refine ⟨by simp [WSameBytes, mkW, mkWE], fun Q hQ => ?_⟩
    obtain ⟨ha, hb, _⟩ := hok
    simp only [SV.ok] at ha hb
    obtain ⟨ha1, ha2, ha3⟩ := Wt.slice ha
    obtain ⟨hb1, hb2, hb3⟩ := Wt.slice hb
    generalize a.l = l at hsp ha1 ha2 ha3
    generalize b.l = m at hsp hb1 hb2 hb3
    subst ha1 hb1
    have hml : maxLen ≤ 9223372036854775807 := by decide
    simp only [icSameBytes, go_sem, goD_calls, eq_self, implies_true, Int.reduceEq, Int.reduceBEq, Int.reduceBNe, Int.reduceLE, Int.reduceLT, Int.reduceAdd, Int.reduceSub, Int.reduceMul, Int.reduceNeg, Nat.reduceMul, Nat.reduceSub, Nat.reduceLeDiff, Nat.reduceLT, Nat.reduceEqDiff, Nat.reduceAdd, reduceCtorEq, ↓reduceIte, reduceIte, list_l]
    refine ⟨fun hc => ?_, fun hc => ?_⟩
    · have hne : l.length ≠ m.length := by intro e; rw [e] at hc; simp at hc
      refine (hQ _ (fin_t (.bool (sameD l m)) ?_ rfl hnm (by ((try simp only []); repeat first | exact HLe.refl _ | refine HLe.cons (by simp only [hget, Nat.reduceEqDiff, Nat.left_eq_add, Nat.add_eq_left, nm_ne2, nm_en2, nm_ne3, nm_en3, nm_ne4, nm_en4, nm_ne5, nm_en5, reduceIte, ↓reduceIte] <;> first | rfl | ((repeat rw [if_neg (by omega)]) <;> rfl)) ?_ | refine HLe.skip hnm (by omega) ?_ | refine HLe.frz hnm (by omega) ?_ | refine HLe.del hnm (by omega) ?_)) hsp)).1
      have : sameD l m = false := by
        unfold sameD; rw [beq_eq_false_iff_ne]; intro e; apply hne; rw [← ints_len, e, ints_len]
      rw [this]; rfl
    · have hlen : l.length = m.length := by
        have h0 : (l.length : Int) = m.length := by simpa using hc
        omega
      refine go_loop (α := { i : Nat // i ≤ l.length ∧ (ints l).take i = (ints m).take i }) (I := fun i => { f := [(5, .int .i64 i.1), (0, .dat (.slice 5) (.list l)), (1, .dat (.slice 5) (.list m))], h := h, nx := nx }) (μ := fun i => l.length - i.1) _ _ _ ⟨0, by omega, rfl⟩ ?_ (fun i B hB => ?_)
      · refine leq_id ?_ (by (simp only [frLt_cons, frLt_nil, and_true, SV.lt, SV.ltL, true_and] <;> omega)) (by ((try simp only []); repeat first | exact HLe.refl _ | refine HLe.cons (by simp only [hget, Nat.reduceEqDiff, Nat.left_eq_add, Nat.add_eq_left, nm_ne2, nm_en2, nm_ne3, nm_en3, nm_ne4, nm_en4, nm_ne5, nm_en5, reduceIte, ↓reduceIte] <;> first | rfl | ((repeat rw [if_neg (by omega)]) <;> rfl)) ?_ | refine HLe.skip hnm (by omega) ?_ | refine HLe.frz hnm (by omega) ?_ | refine HLe.del hnm (by omega) ?_)) (by (repeat first | exact HLt.mono hnm (by simp only [] <;> omega) | refine HLt.cons (by simp only [] <;> omega) (by simp only [Tok.lt, SV.ltL, SV.lt, and_true, true_and] <;> omega) ?_)) (by simp only [] <;> omega)
        simp only [frEq_cons, frEq_nil, frIn_cons, frIn_nil, and_true, fget_cons, Nat.reduceEqDiff, reduceIte, ↓reduceIte, true_and, SV.ren, SV.renL, ren1]
        rfl
      · obtain ⟨i, hi, hs⟩ := i
        simp only [go_sem, goD_calls, eq_self, implies_true, Int.reduceEq, Int.reduceBEq, Int.reduceBNe, Int.reduceLE, Int.reduceLT, Int.reduceAdd, Int.reduceSub, Int.reduceMul, Int.reduceNeg, Nat.reduceMul, Nat.reduceSub, Nat.reduceLeDiff, Nat.reduceLT, Nat.reduceEqDiff, Nat.reduceAdd, reduceCtorEq, ↓reduceIte, reduceIte, list_l]
        refine ⟨fun hc => ?_, fun hc => ?_⟩
        · have hi' : i < l.length := by have := of_decide_eq_true hc; omega
          have hm' : i < m.length := by omega
          refine ⟨⟨by omega, by omega⟩, ⟨by omega, by omega⟩, fun hc2 => ?_, fun hc2 => ?_⟩
          · refine (hQ _ (fin_t (.bool (sameD l m)) ?_ rfl hnm (by ((try simp only []); repeat first | exact HLe.refl _ | refine HLe.cons (by simp only [hget, Nat.reduceEqDiff, Nat.left_eq_add, Nat.add_eq_left, nm_ne2, nm_en2, nm_ne3, nm_en3, nm_ne4, nm_en4, nm_ne5, nm_en5, reduceIte, ↓reduceIte] <;> first | rfl | ((repeat rw [if_neg (by omega)]) <;> rfl)) ?_ | refine HLe.skip hnm (by omega) ?_ | refine HLe.frz hnm (by omega) ?_ | refine HLe.del hnm (by omega) ?_)) hsp)).1
            rw [ints_ne hi' hm' (by simpa using hc2)]; rfl
          · refine ⟨⟨by rw [min_i64]; omega, by rw [max_i64]; omega⟩, hB _ ⟨i + 1, by omega, ints_step hi' hm' hs (by simpa using hc2)⟩ (by simp only []; omega) ?_⟩
            refine leq_id ?_ (by (simp only [frLt_cons, frLt_nil, and_true, SV.lt, SV.ltL, true_and] <;> omega)) (by ((try simp only []); repeat first | exact HLe.refl _ | refine HLe.cons (by simp only [hget, Nat.reduceEqDiff, Nat.left_eq_add, Nat.add_eq_left, nm_ne2, nm_en2, nm_ne3, nm_en3, nm_ne4, nm_en4, nm_ne5, nm_en5, reduceIte, ↓reduceIte] <;> first | rfl | ((repeat rw [if_neg (by omega)]) <;> rfl)) ?_ | refine HLe.skip hnm (by omega) ?_ | refine HLe.frz hnm (by omega) ?_ | refine HLe.del hnm (by omega) ?_)) (by (repeat first | exact HLt.mono hnm (by simp only [] <;> omega) | refine HLt.cons (by simp only [] <;> omega) (by simp only [Tok.lt, SV.ltL, SV.lt, and_true, true_and] <;> omega) ?_)) (by simp only [] <;> omega)
            simp only [frEq_cons, frEq_nil, frIn_cons, frIn_nil, and_true, fget_cons, Nat.reduceEqDiff, reduceIte, ↓reduceIte, true_and, SV.ren, SV.renL, ren1]
            simp
        · have e : i = l.length := by have := of_decide_eq_false hc; omega
          subst e
          refine (hQ _ (fin_t (.bool (sameD l m)) ?_ rfl hnm (by ((try simp only []); repeat first | exact HLe.refl _ | refine HLe.cons (by simp only [hget, Nat.reduceEqDiff, Nat.left_eq_add, Nat.add_eq_left, nm_ne2, nm_en2, nm_ne3, nm_en3, nm_ne4, nm_en4, nm_ne5, nm_en5, reduceIte, ↓reduceIte] <;> first | rfl | ((repeat rw [if_neg (by omega)]) <;> rfl)) ?_ | refine HLe.skip hnm (by omega) ?_ | refine HLe.frz hnm (by omega) ?_ | refine HLe.del hnm (by omega) ?_)) hsp)).1
          have : sameD l m = true := by
            unfold sameD; rw [beq_iff_eq]
            rw [List.take_of_length_le (by rw [ints_len]; omega), List.take_of_length_le (by rw [ints_len]; omega)] at hs
            exact hs
          rw [this]; rfl
  · exact hsp.elim
end Go.Proofs.YtmjenjccinfbaaaDoor
