/- Chapter 16: the document's answer. -/
import Derived.Test.YtmjenjccinfbaaaDoorLsnL
namespace Go.Proofs.YtmjenjccinfbaaaDoor
set_option linter.unusedVariables false
set_option linter.unusedSimpArgs false
open Go Go.Fw
attribute [local go_sem] walkSet evMdl evMupD evMup evLkp frpL eltP eltV eltK preF preP prePt prePd frzP evNlq ev frOf oget ogets argSs argS evCat evMm frzL evBin evWrp evShf evCmp evUna evNil evBeq evLd evSt evFad evIad evAad evLen evSln evEls evApp evParts evSlc evNlc evMif evPck evFld evBld evTas evIfq evSeq evSl0 evBxf evAgl evAgq evBsf hget hset hdel cellAt arrAt setCellAt setArrAt takeC lenC svCells SV.okc SV.one ldSV Fw.isAgg explode explodeL toD toDL toD1 Ty.size Ty.sizeL frz1 Fr.sub Heap.sub Tok.sub SV.sub SV.subL

theorem isNil_false' {e : D} (h : ¬ e = .nil) : e.isNil = false := by
  cases hb : e.isNil with
  | true => exact absurd (nil_eq hb) h
  | false => rfl
theorem exists_least {p : Nat → Prop} (h : ∃ k, p k) : ∃ k, p k ∧ ∀ j, j < k → ¬ p j := by
  obtain ⟨k, hk⟩ := h
  induction k using Nat.strongRecOn with
  | ind k ih =>
    by_cases hex : ∃ j, j < k ∧ p j
    · obtain ⟨j, hj, hp⟩ := hex; exact ih j hj hp
    · exact ⟨k, hk, fun j hj hp => hex ⟨j, hj, hp⟩⟩
theorem valid_ok {l : List D} (h : (validD l).isNil = true) : ∀ i, i < l.length → okAt l i = .nil := by
  intro i hi
  have hlen := valid_len h
  apply Classical.byContradiction
  intro hne
  have hex : ∃ k, k < l.length ∧ (okAt l k).isNil = false := ⟨i, hi, isNil_false' hne⟩
  obtain ⟨k, ⟨hk, hbad⟩, hmin⟩ := exists_least hex
  rw [validD_at hlen hk (fun j hj => ?_) hbad, hbad] at h
  · cases h
  · have := hmin j hj
    cases hb : (okAt l j).isNil with
    | true => exact nil_eq hb
    | false => exact absurd ⟨by omega, hb⟩ this
theorem okAt_nil {l : List D} {i : Nat} (h : okAt l i = .nil) : ¬ (spE (l.getD i .nil) < 1 ∨ 1073741824 < spE (l.getD i .nil) ∨ spF (l.getD i .nil) < 0 ∨ spT (l.getD i .nil) ≤ spF (l.getD i .nil) ∨ 1099511627776 < spT (l.getD i .nil)) ∧ ¬ (0 < i ∧ (spE (l.getD i .nil) ≤ spE (l.getD (i - 1) .nil) ∨ spT (l.getD i .nil) ≤ spT (l.getD (i - 1) .nil))) := by
  by_cases h1 : spE (l.getD i .nil) < 1 ∨ 1073741824 < spE (l.getD i .nil) ∨ spF (l.getD i .nil) < 0 ∨ spT (l.getD i .nil) ≤ spF (l.getD i .nil) ∨ 1099511627776 < spT (l.getD i .nil)
  · rw [okAt_range h1] at h; cases h
  · by_cases h2 : 0 < i ∧ (spE (l.getD i .nil) ≤ spE (l.getD (i - 1) .nil) ∨ spT (l.getD i .nil) ≤ spT (l.getD (i - 1) .nil))
    · rw [okAt_shape h1 h2] at h; cases h
    · exact ⟨h1, h2⟩
def riseT (l : List D) : Prop := ∀ j i, j ≤ i → i < l.length → spT (l.getD j .nil) ≤ spT (l.getD i .nil)
theorem valid_rise {l : List D} (h : (validD l).isNil = true) : riseT l := by
  intro j i hji hi
  induction i with
  | zero => obtain rfl : j = 0 := by omega
            exact Int.le_refl _
  | succ i ih =>
    by_cases e : j = i + 1
    · subst e; exact Int.le_refl _
    · have h1 := ih (by omega) (by omega)
      have h2 := (okAt_nil (valid_ok h (i + 1) hi)).2
      rw [Nat.add_sub_cancel] at h2
      omega
theorem valid_lo {l : List D} (h : (validD l).isNil = true) : loT l := by
  intro s hs
  obtain ⟨i, hi, rfl⟩ := List.getElem_of_mem hs
  have h1 := (okAt_nil (valid_ok h i hi)).1
  rw [List.getD_eq_getElem?_getD, List.getElem?_eq_getElem hi, Option.getD_some] at h1
  omega
theorem validD_cases (l : List D) : validD l = .nil ∨ validD l = .err 2 ∨ ∃ i : Nat, i < 64 ∧ (validD l = atD i 0 ∨ validD l = atD i 1) := by
  by_cases h : 64 < l.length
  · exact .inr (.inl (validD_many h))
  · by_cases hn : (validD l).isNil = true
    · exact .inl (nil_eq hn)
    · right; right
      have hex : ∃ k, k < l.length ∧ (okAt l k).isNil = false := by
        apply Classical.byContradiction
        intro hne
        apply hn
        rw [validD_nil (by omega) (fun i hi => ?_)]
        · rfl
        · cases hb : (okAt l i).isNil with
          | true => exact nil_eq hb
          | false => exact absurd ⟨i, hi, hb⟩ hne
      obtain ⟨k, ⟨hk, hbad⟩, hmin⟩ := exists_least hex
      refine ⟨k, by omega, ?_⟩
      rw [validD_at (by omega) hk (fun j hj => ?_) hbad]
      · by_cases h1 : spE (l.getD k .nil) < 1 ∨ 1073741824 < spE (l.getD k .nil) ∨ spF (l.getD k .nil) < 0 ∨ spT (l.getD k .nil) ≤ spF (l.getD k .nil) ∨ 1099511627776 < spT (l.getD k .nil)
        · exact .inl (okAt_range h1)
        · by_cases h2 : 0 < k ∧ (spE (l.getD k .nil) ≤ spE (l.getD (k - 1) .nil) ∨ spT (l.getD k .nil) ≤ spT (l.getD (k - 1) .nil))
          · exact .inr (okAt_shape h1 h2)
          · rw [okAt_ok h1 h2] at hbad; cases hbad
      · cases hb : (okAt l j).isNil with
        | true => exact nil_eq hb
        | false => exact absurd ⟨by omega, hb⟩ (hmin j hj)

def WRTop : Opts := mkWE 13 [] [] [] 171 [] []
def icRTop : IC := (.seq (.seq (.ops [(.u (.mov 2 (.c (.int .i64 0))))]) (.tr [0])) (.seq (.seq (.seq (.ops [(.u (.mov 3 (.s 0))), (.u (.len 4 false (.s 3))), (.u (.cmp 5 .eql (.s 4) (.c (.int .i64 0))))]) (.tr [5, 0])) (.cond (.s 5) (.seq (.seq (.ops [(.u (.mov 2 (.c (.int .i64 0))))]) (.tr [2])) .ret) .skip)) (.seq (.seq (.ops [(.u (.mov 6 (.s 0))), (.u (.mov 7 (.s 0))), (.u (.len 8 false (.s 7))), (.u (.bin 9 .sub .i64 (.s 8) (.c (.int .i64 1)))), (.u (.iad 10 41 (.strct [(.int .i64), (.int .i64), (.int .i64)]) (.s 6) (.s 9))), (.u (.fad 11 2 2 (.int .i64) 41 (.s 10))), (.u (.ld 12 (.int .i64) (.s 11))), (.u (.mov 2 (.s 12)))]) (.tr [2])) .ret)))
def rsRTop : List RV := [(.t 2)]
theorem irRTop : fnIR Tryd.prog WRTop 72 = some (icRTop, rsRTop) := by kernel_rfl
set_option maxHeartbeats 4000000 in
set_option maxRecDepth 8000 in
theorem vRTop {E : Nat → Value} (hE : Errs2 Tryd.prog (some 171) E) : Valid Tryd.prog E (gs []) 72 spSTop := by
  refine valid_go (W := WRTop) hE allValid_bot irRTop (by decide) (fun args h nx K hsp hok hnm => ?_)
  unfold spSTop at hsp
  split at hsp
  · rename_i d
    refine ⟨by simp [WRTop, mkW, mkWE, mkWF], fun Q hQ => ?_⟩
    obtain ⟨hd, _⟩ := hok
    simp only [SV.ok] at hd
    obtain ⟨hd1, hd2, hd3⟩ := Wt.slice hd; generalize d.l = l at *; subst hd1
    have hml : maxLen ≤ 9223372036854775807 := by decide
    by_cases h0 : l.length = 0
    · have c : ((l.length : Int) == 0) = true := by rw [h0]; rfl
      simp only [icRTop, go_sem, goD_calls, eq_self, implies_true, Int.reduceEq, Int.reduceBEq, Int.reduceBNe, Int.reduceLE, Int.reduceLT, Int.reduceAdd, Int.reduceSub, Int.reduceMul, Int.reduceNeg, Nat.reduceMul, Nat.reduceSub, Nat.reduceLeDiff, Nat.reduceLT, Nat.reduceEqDiff, Nat.reduceAdd, reduceCtorEq, ↓reduceIte, reduceIte, c]
      refine (hQ _ ?_).1
      refine fin_t (.int .i64 0) rfl rfl hnm (by ((try simp only []); repeat first | exact HLe.refl _ | refine HLe.cons (by simp only [hget, Nat.reduceEqDiff, Nat.left_eq_add, Nat.add_eq_left, nm_ne2, nm_en2, nm_ne3, nm_en3, nm_ne4, nm_en4, nm_ne5, nm_en5, reduceIte, ↓reduceIte] <;> first | rfl | ((repeat rw [if_neg (by omega)]) <;> rfl)) ?_ | refine HLe.skip hnm (by omega) ?_ | refine HLe.frz hnm (by omega) ?_ | refine HLe.del hnm (by omega) ?_)) ?_
      unfold topF at hsp; rw [if_pos h0] at hsp; exact hsp
    · have c : ((l.length : Int) == 0) = false := by rw [beq_eq_false_iff_ne]; omega
      have ei : ((l.length : Int) - 1).toNat = l.length - 1 := by omega
      simp only [icRTop, go_sem, goD_calls, eq_self, implies_true, Int.reduceEq, Int.reduceBEq, Int.reduceBNe, Int.reduceLE, Int.reduceLT, Int.reduceAdd, Int.reduceSub, Int.reduceMul, Int.reduceNeg, Nat.reduceMul, Nat.reduceSub, Nat.reduceLeDiff, Nat.reduceLT, Nat.reduceEqDiff, Nat.reduceAdd, reduceCtorEq, ↓reduceIte, reduceIte, c, ei, min_i64, max_i64]
      repeat refine ⟨by first | omega | rfl | exact ⟨rfl, rfl⟩, ?_⟩
      refine (hQ _ ?_).1
      refine fin_t (.int .i64 _) rfl rfl hnm (by ((try simp only []); repeat first | exact HLe.refl _ | refine HLe.cons (by simp only [hget, Nat.reduceEqDiff, Nat.left_eq_add, Nat.add_eq_left, nm_ne2, nm_en2, nm_ne3, nm_en3, nm_ne4, nm_en4, nm_ne5, nm_en5, reduceIte, ↓reduceIte] <;> first | rfl | ((repeat rw [if_neg (by omega)]) <;> rfl)) ?_ | refine HLe.skip hnm (by omega) ?_ | refine HLe.frz hnm (by omega) ?_ | refine HLe.del hnm (by omega) ?_)) ?_
      unfold topF at hsp; rw [if_neg h0] at hsp; exact hsp
  · exact hsp.elim

def WRNext : Opts := mkWE 45 [] [] [] 171 [] []
def icRNext : IC := (.seq (.seq (.ops [(.u (.mov 4 (.c (.int .i64 0))))]) (.tr [1, 0])) (.seq (.seq (.ops [(.u (.mov 8 (.s 1))), (.u (.bin 9 .add .i64 (.s 8) (.c (.int .i64 1)))), (.u (.mov 5 (.s 9)))]) (.tr [0, 5])) (.seq (.seq (.seq (.ops [(.u (.mov 6 (.c (.int .i64 0))))]) (.tr [0, 6, 5])) (.block 0 (.loop (.seq (.seq (.seq (.ops [(.u (.mov 10 (.s 6))), (.u (.mov 11 (.s 0))), (.u (.len 12 false (.s 11))), (.u (.cmp 13 .leq (.s 10) (.s 12)))]) (.tr [13, 6, 0, 5])) (.cond (.s 13) .skip (.exit 0))) (.seq (.block 1 (.seq (.seq (.ops [(.u (.mov 7 (.c (.int .i64 0))))]) (.tr [7, 6, 0, 5])) (.block 2 (.loop (.seq (.seq (.seq (.ops [(.u (.mov 16 (.s 7))), (.u (.mov 17 (.s 0))), (.u (.len 18 false (.s 17))), (.u (.cmp 19 .lss (.s 16) (.s 18)))]) (.tr [19, 7, 6, 0, 5])) (.cond (.s 19) .skip (.exit 2))) (.seq (.block 3 (.seq (.seq (.ops [(.u (.mov 22 (.s 5))), (.u (.mov 23 (.s 0))), (.u (.mov 24 (.s 7))), (.u (.iad 25 41 (.strct [(.int .i64), (.int .i64), (.int .i64)]) (.s 23) (.s 24))), (.u (.fad 26 1 1 (.int .i64) 41 (.s 25))), (.u (.ld 27 (.int .i64) (.s 26))), (.u (.cmp 28 .gtr (.s 22) (.s 27))), (.u (.mov 29 (.s 28))), (.g 29 true (some 30) (.mov 30 (.s 5))), (.g 29 true (some 31) (.mov 31 (.s 0))), (.g 29 true (some 32) (.mov 32 (.s 7))), (.g 29 true (some 33) (.iad 33 41 (.strct [(.int .i64), (.int .i64), (.int .i64)]) (.s 31) (.s 32))), (.g 29 true (some 34) (.fad 34 2 2 (.int .i64) 41 (.s 33))), (.g 29 true (some 35) (.ld 35 (.int .i64) (.s 34))), (.g 29 true (some 36) (.cmp 36 .leq (.s 30) (.s 35))), (.u (.pck 37 (.s 29) (.s 36) (.c (.bool false))))]) (.tr [37, 7, 6, 0, 5])) (.cond (.s 37) (.seq (.ops [(.u (.mov 38 (.s 0))), (.u (.mov 39 (.s 7))), (.u (.iad 40 41 (.strct [(.int .i64), (.int .i64), (.int .i64)]) (.s 38) (.s 39))), (.u (.fad 41 2 2 (.int .i64) 41 (.s 40))), (.u (.ld 42 (.int .i64) (.s 41))), (.u (.bin 43 .add .i64 (.s 42) (.c (.int .i64 1)))), (.u (.mov 5 (.s 43)))]) (.tr [7, 6, 0, 5])) .skip))) (.seq (.ops [(.u (.mov 20 (.s 7))), (.u (.bin 21 .add .i64 (.s 20) (.c (.int .i64 1)))), (.u (.mov 7 (.s 21)))]) (.tr [7, 6, 0, 5])))))))) (.seq (.ops [(.u (.mov 14 (.s 6))), (.u (.bin 15 .add .i64 (.s 14) (.c (.int .i64 1)))), (.u (.mov 6 (.s 15)))]) (.tr [0, 6, 5]))))))) (.seq (.seq (.ops [(.u (.mov 44 (.s 5))), (.u (.mov 4 (.s 44)))]) (.tr [4])) .ret))))
def rsRNext : List RV := [(.t 4)]
theorem irRNext : fnIR Tryd.prog WRNext 24 = some (icRNext, rsRNext) := by kernel_rfl
def spRNext : FSpec := fun args h nx K => match args with
  | [.dat (.slice 41) d, .int .i64 n] => n ≤ 9223372036854775806 ∧ lowT d.l ∧ riseT d.l ∧ d.l.length ≤ 64 ∧ K (.int .i64 (nextF d.l n)) h
  | _ => False
set_option maxHeartbeats 4000000 in
set_option maxRecDepth 8000 in
theorem vRNext {E : Nat → Value} (hE : Errs2 Tryd.prog (some 171) E) : Valid Tryd.prog E (gs []) 24 spRNext := by
  refine valid_go (W := WRNext) hE allValid_bot irRNext (by decide) (fun args h nx K hsp hok hnm => ?_)
  unfold spRNext at hsp
  split at hsp
  · rename_i d n0
    obtain ⟨hn, hlow, hrise, hsixty, hsp⟩ := hsp
    refine ⟨by simp [WRNext, mkW, mkWE, mkWF], fun Q hQ => ?_⟩
    obtain ⟨hd, hn0, _⟩ := hok
    simp only [SV.ok, min_i64, max_i64] at hd hn0
    obtain ⟨hd1, hd2, hd3⟩ := Wt.slice hd
    generalize d.l = l at hsp hd1 hd2 hd3 hlow hrise hsixty
    subst hd1
    have hml : maxLen ≤ 9223372036854775807 := by decide
    simp (maxSteps := 4000000) only [icRNext, go_sem, goD_calls, eq_self, implies_true, Int.reduceEq, Int.reduceBEq, Int.reduceBNe, Int.reduceLE, Int.reduceLT, Int.reduceAdd, Int.reduceSub, Int.reduceMul, Int.reduceNeg, Nat.reduceMul, Nat.reduceSub, Nat.reduceLeDiff, Nat.reduceLT, Nat.reduceEqDiff, Nat.reduceAdd, reduceCtorEq, ↓reduceIte, reduceIte, min_i64, max_i64]
    repeat refine ⟨by omega, ?_⟩
    refine go_loop (α := { x : Nat × Int // x.1 ≤ l.length + 1 ∧ (x.1 = 0 ∧ x.2 = n0 + 1 ∨ 1 ≤ x.1 ∧ x.2 = nextF l n0) }) (I := fun x => { f := [(0, .dat (.slice 41) (.list l)), (6, .int .i64 x.1.1), (5, .int .i64 x.1.2)], h := h, nx := nx }) (μ := fun x => l.length + 1 - x.1.1) _ _ _ ⟨(0, n0 + 1), by simp, by simp⟩ ?_ (fun x B hB => ?_)
    · refine leq_id (by simp only [frEq_cons, frEq_nil, frIn_cons, frIn_nil, and_true, fget_cons, Nat.reduceEqDiff, reduceIte, ↓reduceIte, true_and, SV.ren, SV.renL, ren1] <;> (try rfl) <;> (try simp)) (by (simp only [frLt_cons, frLt_nil, and_true, SV.lt, SV.ltL, true_and] <;> omega)) (by ((try simp only []); repeat first | exact HLe.refl _ | refine HLe.cons (by simp only [hget, Nat.reduceEqDiff, Nat.left_eq_add, Nat.add_eq_left, nm_ne2, nm_en2, nm_ne3, nm_en3, nm_ne4, nm_en4, nm_ne5, nm_en5, reduceIte, ↓reduceIte] <;> first | rfl | ((repeat rw [if_neg (by omega)]) <;> rfl)) ?_ | refine HLe.skip hnm (by omega) ?_ | refine HLe.frz hnm (by omega) ?_ | refine HLe.del hnm (by omega) ?_)) (by (repeat first | exact HLt.mono hnm (by simp only [] <;> omega) | refine HLt.cons (by simp only [] <;> omega) (by simp only [Tok.lt, SV.ltL, SV.lt, and_true, true_and] <;> omega) ?_)) (by simp only [] <;> omega)
    · obtain ⟨⟨r, n1⟩, hr, hn1⟩ := x
      simp only at hr hn1 hB
      have hnx := nextF_is l n0
      by_cases hrl : r ≤ l.length
      · have c1 : decide ((r : Int) ≤ (l.length : Int)) = true := decide_eq_true (by omega)
        have hp0 : n0 < n1 ∧ ∀ k, n0 < k → k < n1 → ∃ s ∈ l, hasD s k := by
          rcases hn1 with ⟨_, rfl⟩ | ⟨_, rfl⟩
          · exact ⟨by omega, fun k h1 h2 => by omega⟩
          · exact ⟨hnx.1, hnx.2.2⟩
        have hbd : n1 ≤ 9223372036854775807 := by
          rcases hn1 with ⟨_, rfl⟩ | ⟨_, rfl⟩
          · omega
          · have := next_le (n := n0) hlow; omega
        simp (maxSteps := 4000000) only [go_sem, goD_calls, eq_self, implies_true, Int.reduceEq, Int.reduceBEq, Int.reduceBNe, Int.reduceLE, Int.reduceLT, Int.reduceAdd, Int.reduceSub, Int.reduceMul, Int.reduceNeg, Nat.reduceMul, Nat.reduceSub, Nat.reduceLeDiff, Nat.reduceLT, Nat.reduceEqDiff, Nat.reduceAdd, reduceCtorEq, ↓reduceIte, reduceIte, c1, min_i64, max_i64]
        refine go_loop (α := { y : Nat × Int // y.1 ≤ l.length ∧ n0 < y.2 ∧ y.2 ≤ 9223372036854775807 ∧ (∀ k, n0 < k → k < y.2 → ∃ s ∈ l, hasD s k) ∧ ∀ j, j < y.1 → ¬ hasD (l.getD j .nil) y.2 }) (I := fun y => { f := [(7, .int .i64 y.1.1), (6, .int .i64 r), (0, .dat (.slice 41) (.list l)), (5, .int .i64 y.1.2)], h := h, nx := nx }) (μ := fun y => l.length - y.1.1) _ _ _ ⟨(0, n1), by simp, hp0.1, hbd, hp0.2, fun j hj => absurd hj (Nat.not_lt_zero j)⟩ ?_ (fun y B' hB' => ?_)
        · refine leq_id (by simp only [frEq_cons, frEq_nil, frIn_cons, frIn_nil, and_true, fget_cons, Nat.reduceEqDiff, reduceIte, ↓reduceIte, true_and, SV.ren, SV.renL, ren1] <;> (try rfl) <;> (try simp)) (by (simp only [frLt_cons, frLt_nil, and_true, SV.lt, SV.ltL, true_and] <;> omega)) (by ((try simp only []); repeat first | exact HLe.refl _ | refine HLe.cons (by simp only [hget, Nat.reduceEqDiff, Nat.left_eq_add, Nat.add_eq_left, nm_ne2, nm_en2, nm_ne3, nm_en3, nm_ne4, nm_en4, nm_ne5, nm_en5, reduceIte, ↓reduceIte] <;> first | rfl | ((repeat rw [if_neg (by omega)]) <;> rfl)) ?_ | refine HLe.skip hnm (by omega) ?_ | refine HLe.frz hnm (by omega) ?_ | refine HLe.del hnm (by omega) ?_)) (by (repeat first | exact HLt.mono hnm (by simp only [] <;> omega) | refine HLt.cons (by simp only [] <;> omega) (by simp only [Tok.lt, SV.ltL, SV.lt, and_true, true_and] <;> omega) ?_)) (by simp only [] <;> omega)
        · obtain ⟨⟨i, n⟩, hi, hn2, hn3, hn4, hn5⟩ := y
          simp only at hi hn2 hn3 hn4 hn5 hB'
          by_cases hil : i < l.length
          · have c2 : decide ((i : Int) < (l.length : Int)) = true := decide_eq_true (by omega)
            have hm := getD_mem hil
            have hlo := hlow _ hm
            have rT : hasD (l.getD i .nil) n → ∀ h' nx', HLe h h' → nx ≤ nx' → HLt h' nx' → B' ⟨[(7, .int .i64 ((i : Int) + 1)), (6, .int .i64 r), (0, .dat (.slice 41) (.list l)), (5, .int .i64 (spT (l.getD i .nil) + 1))], h', nx'⟩ := fun hh h' nx' hle hnn hlt => by
              refine hB' _ ⟨(i + 1, spT (l.getD i .nil) + 1), by simp only []; omega, ?_, ?_, ?_, ?_⟩ (by simp only []; omega) ?_
              · have := hh.2; simp only []; omega
              · simp only []; omega
              · intro k h1 h2
                simp only at h2
                by_cases hk : k < n
                · exact hn4 k h1 hk
                · exact ⟨_, hm, by have := hh.1; omega, by omega⟩
              · intro j hj hhj
                simp only at hj hhj
                have := hrise j i (by omega) hil
                have := hhj.2
                omega
              · refine leq_id ?_ (by (simp only [frLt_cons, frLt_nil, and_true, SV.lt, SV.ltL, true_and] <;> omega)) hle (by (repeat first | exact HLt.mono hnm (by simp only [] <;> omega) | refine HLt.cons (by simp only [] <;> omega) (by simp only [Tok.lt, SV.ltL, SV.lt, and_true, true_and] <;> omega) ?_)) (by simp only [] <;> omega)
                simp only [frEq_cons, frEq_nil, frIn_cons, frIn_nil, and_true, fget_cons, Nat.reduceEqDiff, reduceIte, ↓reduceIte, true_and, SV.ren, SV.renL, ren1]
                simp
            have rF : ¬ hasD (l.getD i .nil) n → ∀ h' nx', HLe h h' → nx ≤ nx' → HLt h' nx' → B' ⟨[(7, .int .i64 ((i : Int) + 1)), (6, .int .i64 r), (0, .dat (.slice 41) (.list l)), (5, .int .i64 n)], h', nx'⟩ := fun hh h' nx' hle hnn hlt => by
              refine hB' _ ⟨(i + 1, n), by simp only []; omega, hn2, hn3, hn4, ?_⟩ (by simp only []; omega) ?_
              · intro j hj
                by_cases e : j = i
                · subst e; exact hh
                · exact hn5 j (by simp only at hj; omega)
              · refine leq_id ?_ (by (simp only [frLt_cons, frLt_nil, and_true, SV.lt, SV.ltL, true_and] <;> omega)) hle (by (repeat first | exact HLt.mono hnm (by simp only [] <;> omega) | refine HLt.cons (by simp only [] <;> omega) (by simp only [Tok.lt, SV.ltL, SV.lt, and_true, true_and] <;> omega) ?_)) (by simp only [] <;> omega)
                simp only [frEq_cons, frEq_nil, frIn_cons, frIn_nil, and_true, fget_cons, Nat.reduceEqDiff, reduceIte, ↓reduceIte, true_and, SV.ren, SV.renL, ren1]
                simp
            unfold hasD at rT rF
            unfold spF spT at rT rF
            unfold spT at hlo
            simp (maxSteps := 4000000) only [go_sem, goD_calls, eq_self, implies_true, Int.reduceEq, Int.reduceBEq, Int.reduceBNe, Int.reduceLE, Int.reduceLT, Int.reduceAdd, Int.reduceSub, Int.reduceMul, Int.reduceNeg, Nat.reduceMul, Nat.reduceSub, Nat.reduceLeDiff, Nat.reduceLT, Nat.reduceEqDiff, Nat.reduceAdd, reduceCtorEq, ↓reduceIte, reduceIte, c2, Int.toNat_natCast, min_i64, max_i64]
            (try simp only [decide_eq_true_eq, decide_eq_false_iff_not, beq_iff_eq, bne_iff_ne, ne_eq, beq_eq_false_iff_ne, bne_eq_false_iff_eq]) <;> repeat' (first | refine ⟨?_, ?_⟩ | intro _)
            all_goals first
              | omega
              | rfl
              | exact rT (by omega) _ _ (by ((try simp only []); repeat first | exact HLe.refl _ | refine HLe.cons (by simp only [hget, Nat.reduceEqDiff, Nat.left_eq_add, Nat.add_eq_left, nm_ne2, nm_en2, nm_ne3, nm_en3, nm_ne4, nm_en4, nm_ne5, nm_en5, reduceIte, ↓reduceIte] <;> first | rfl | ((repeat rw [if_neg (by omega)]) <;> rfl)) ?_ | refine HLe.skip hnm (by omega) ?_ | refine HLe.frz hnm (by omega) ?_ | refine HLe.del hnm (by omega) ?_)) (by omega) hnm
              | exact rF (by omega) _ _ (by ((try simp only []); repeat first | exact HLe.refl _ | refine HLe.cons (by simp only [hget, Nat.reduceEqDiff, Nat.left_eq_add, Nat.add_eq_left, nm_ne2, nm_en2, nm_ne3, nm_en3, nm_ne4, nm_en4, nm_ne5, nm_en5, reduceIte, ↓reduceIte] <;> first | rfl | ((repeat rw [if_neg (by omega)]) <;> rfl)) ?_ | refine HLe.skip hnm (by omega) ?_ | refine HLe.frz hnm (by omega) ?_ | refine HLe.del hnm (by omega) ?_)) (by omega) hnm
          · obtain rfl : i = l.length := by omega
            have c2 : decide ((l.length : Int) < (l.length : Int)) = false := decide_eq_false (by omega)
            have hfin : nextF l n0 = n := nextF_eq ⟨hn2, fun s hs => by
              obtain ⟨j, hj, rfl⟩ := List.getElem_of_mem hs
              have := hn5 j hj
              rw [List.getD_eq_getElem?_getD, List.getElem?_eq_getElem hj, Option.getD_some] at this
              exact this, hn4⟩
            simp (maxSteps := 4000000) only [go_sem, goD_calls, eq_self, implies_true, Int.reduceEq, Int.reduceBEq, Int.reduceBNe, Int.reduceLE, Int.reduceLT, Int.reduceAdd, Int.reduceSub, Int.reduceMul, Int.reduceNeg, Nat.reduceMul, Nat.reduceSub, Nat.reduceLeDiff, Nat.reduceLT, Nat.reduceEqDiff, Nat.reduceAdd, reduceCtorEq, ↓reduceIte, reduceIte, c2, min_i64, max_i64]
            refine ⟨by omega, hB _ ⟨(r + 1, n), by simp only []; omega, .inr ⟨by simp only []; omega, hfin.symm⟩⟩ (by simp only []; omega) ?_⟩
            refine leq_id (by simp only [frEq_cons, frEq_nil, frIn_cons, frIn_nil, and_true, fget_cons, Nat.reduceEqDiff, reduceIte, ↓reduceIte, true_and, SV.ren, SV.renL, ren1] <;> (try rfl) <;> (try simp)) (by (simp only [frLt_cons, frLt_nil, and_true, SV.lt, SV.ltL, true_and] <;> omega)) (by ((try simp only []); repeat first | exact HLe.refl _ | refine HLe.cons (by simp only [hget, Nat.reduceEqDiff, Nat.left_eq_add, Nat.add_eq_left, nm_ne2, nm_en2, nm_ne3, nm_en3, nm_ne4, nm_en4, nm_ne5, nm_en5, reduceIte, ↓reduceIte] <;> first | rfl | ((repeat rw [if_neg (by omega)]) <;> rfl)) ?_ | refine HLe.skip hnm (by omega) ?_ | refine HLe.frz hnm (by omega) ?_ | refine HLe.del hnm (by omega) ?_)) (by (repeat first | exact HLt.mono hnm (by simp only [] <;> omega) | refine HLt.cons (by simp only [] <;> omega) (by simp only [Tok.lt, SV.ltL, SV.lt, and_true, true_and] <;> omega) ?_)) (by simp only [] <;> omega)
      · obtain rfl : r = l.length + 1 := by omega
        have c1 : decide (((l.length + 1 : Nat) : Int) ≤ (l.length : Int)) = false := decide_eq_false (by omega)
        obtain rfl : n1 = nextF l n0 := by omega
        simp (maxSteps := 4000000) only [go_sem, goD_calls, eq_self, implies_true, Int.reduceEq, Int.reduceBEq, Int.reduceBNe, Int.reduceLE, Int.reduceLT, Int.reduceAdd, Int.reduceSub, Int.reduceMul, Int.reduceNeg, Nat.reduceMul, Nat.reduceSub, Nat.reduceLeDiff, Nat.reduceLT, Nat.reduceEqDiff, Nat.reduceAdd, reduceCtorEq, ↓reduceIte, reduceIte, c1]
        refine (hQ _ ?_).1
        exact fin_t (.int .i64 _) rfl rfl hnm (by ((try simp only []); repeat first | exact HLe.refl _ | refine HLe.cons (by simp only [hget, Nat.reduceEqDiff, Nat.left_eq_add, Nat.add_eq_left, nm_ne2, nm_en2, nm_ne3, nm_en3, nm_ne4, nm_en4, nm_ne5, nm_en5, reduceIte, ↓reduceIte] <;> first | rfl | ((repeat rw [if_neg (by omega)]) <;> rfl)) ?_ | refine HLe.skip hnm (by omega) ?_ | refine HLe.frz hnm (by omega) ?_ | refine HLe.del hnm (by omega) ?_)) hsp
  · exact hsp.elim

/-- The document's giver. -/
def rTok (s : List D) (a : Int) : Tok := .cells [.int .i64 a, .dat (.slice 41) (.list s)]
theorem rTok_def (s : List D) (a : Int) : rTok s a = .cells [.int .i64 a, .dat (.slice 41) (.list s)] := rfl
def rOk (r : Option Tok) : Prop := ∃ s a, r = some (rTok s a)
def rS (r : Option Tok) : List D := match r with | some (.cells [_, .dat _ (.list s)]) => s | _ => []
def rL (r : Option Tok) : Int := match r with | some (.cells [.int _ a, _]) => a | _ => 0
theorem rOk_c (s : List D) (a : Int) : rOk (some (.cells [.int .i64 a, .dat (.slice 41) (.list s)])) = True := eq_true ⟨s, a, rfl⟩
theorem rS_c (t : Ty) (s : List D) (y : SV) : rS (some (.cells [y, .dat t (.list s)])) = s := rfl
theorem rL_c (x : SV) (k : IntKind) (a : Int) : rL (some (.cells [.int k a, x])) = a := rfl
theorem r_lt {nx : Nat} (s : List D) (a : Int) : (rTok s a).lt nx := ⟨trivial, trivial, trivial⟩
def goodS' (l : List D) : Prop := loT l ∧ riseT l ∧ l.length ≤ 64

def WRRoom : Opts := mkWE 37 [] [] [] 171 [] []
def icRRoom : IC := (.seq (.seq (.ops [(.u (.mov 4 (.c (.int .i64 0))))]) (.tr [1, 0])) (.seq (.seq (.ops [(.u (.mov 5 (.c (.int .i64 0))))]) (.tr [1, 0, 5])) (.seq (.seq (.ops [(.u (.mov 7 (.s 0))), (.u (.nlc 8 (.s 7))), (.u (.fad 9 0 0 (.int .i64) 57 (.s 8))), (.u (.ld 10 (.int .i64) (.s 9))), (.u (.mov 6 (.s 10)))]) (.tr [6, 1, 0, 5])) (.seq (.block 0 (.loop (.seq (.seq (.seq (.ops [(.u (.mov 11 (.s 5))), (.u (.cmp 12 .lss (.s 11) (.c (.int .i64 512))))]) (.tr [12, 6, 1, 0, 5])) (.cond (.s 12) .skip (.exit 0))) (.block 1 (.seq (.seq (.ops [(.u (.mov 13 (.s 0))), (.u (.nlc 14 (.s 13))), (.u (.fad 15 1 1 (.slice 41) 57 (.s 14))), (.u (.ld 16 (.slice 41) (.s 15))), (.u (.mov 17 (.s 6))), (.u (.call 18 (.c (.clo 24 [])) [(.s 16), (.s 17)] [(some 41), none] true)), (.u (.mov 6 (.s 18)))]) (.tr [5, 6, 1, 0])) (.seq (.seq (.seq (.ops [(.u (.mov 19 (.s 6))), (.u (.cmp 20 .gtr (.s 19) (.c (.int .i64 1099511627776)))), (.u (.mov 21 (.s 20))), (.g 21 false (some 22) (.mov 22 (.s 6))), (.g 21 false (some 23) (.bin 23 .sub .i64 (.s 22) (.c (.int .i64 512)))), (.g 21 false (some 24) (.mov 24 (.s 1))), (.g 21 false (some 25) (.mov 25 (.s 0))), (.g 21 false (some 26) (.nlc 26 (.s 25))), (.g 21 false (some 27) (.fad 27 1 1 (.slice 41) 57 (.s 26))), (.g 21 false (some 28) (.ld 28 (.slice 41) (.s 27))), (.g 21 false (some 29) (.call 29 (.c (.clo 72 [])) [(.s 28)] [(some 41)] true)), (.g 21 false (some 30) (.mmx 30 true [(.s 24), (.s 29)])), (.g 21 false (some 31) (.cmp 31 .gtr (.s 23) (.s 30))), (.u (.pck 32 (.s 21) (.c (.bool true)) (.s 31)))]) (.tr [32, 5, 6, 1, 0])) (.cond (.s 32) (.seq (.seq (.ops [(.u (.mov 33 (.s 5))), (.u (.mov 4 (.s 33)))]) (.tr [4])) .ret) .skip)) (.seq (.ops [(.u (.mov 34 (.s 5))), (.u (.bin 35 .add .i64 (.s 34) (.c (.int .i64 1)))), (.u (.mov 5 (.s 35)))]) (.tr [6, 1, 0, 5])))))))) (.seq (.seq (.ops [(.u (.mov 36 (.s 5))), (.u (.mov 4 (.s 36)))]) (.tr [4])) .ret)))))
def rsRRoom : List RV := [(.t 4)]
theorem irRRoom : fnIR Tryd.prog WRRoom 31 = some (icRRoom, rsRRoom) := by kernel_rfl
def spRRoom : FSpec := fun args h nx K => match args with
  | [.ptr p 0, .int .i64 vdl] => rOk (hget h p) ∧ goodS' (rS (hget h p)) ∧ (0 ≤ rL (hget h p) ∧ rL (hget h p) ≤ 1099511627776) ∧ K (.int .i64 (roomF (rS (hget h p)) (rL (hget h p)) vdl)) h
  | _ => False
set_option maxHeartbeats 4000000 in
set_option maxRecDepth 8000 in
theorem vRRoom {E : Nat → Value} (hE : Errs2 Tryd.prog (some 171) E) : Valid Tryd.prog E (gs []) 31 spRRoom := by
  refine valid_go (W := WRRoom) hE ((allValid_bot.add (up (vRNext hE))).add (up (vRTop hE))) irRRoom (by decide) (fun args h nx K hsp hok hnm => ?_)
  unfold spRRoom at hsp
  split at hsp
  · rename_i p vdl
    obtain ⟨⟨s, a, hp⟩, hgd, ha, hK⟩ := hsp
    rw [rTok_def] at hp
    rw [hp, rS_c] at hgd
    rw [hp, rL_c] at ha
    rw [hp, rS_c, rL_c] at hK
    refine ⟨by simp [WRRoom, mkW, mkWE, mkWF], fun Q hQ => ?_⟩
    obtain ⟨hlo, hrise, hsixty⟩ := hgd
    have hlow := loT_low hlo
    simp (maxSteps := 4000000) only [icRRoom, go_sem, goD_calls, eq_self, implies_true, Int.reduceEq, Int.reduceBEq, Int.reduceBNe, Int.reduceLE, Int.reduceLT, Int.reduceAdd, Int.reduceSub, Int.reduceMul, Int.reduceNeg, Nat.reduceMul, Nat.reduceSub, Nat.reduceLeDiff, Nat.reduceLT, Nat.reduceEqDiff, Nat.reduceAdd, reduceCtorEq, ↓reduceIte, reduceIte, hp]
    refine go_loop (α := { k : Nat // k ≤ 512 ∧ ∀ j, j < k → (fitsD s (seqN s a (j + 1)) vdl).isNil = true }) (I := fun k => { f := [(6, .int .i64 (seqN s a k.1)), (0, .ptr p 0), (1, .int .i64 vdl), (5, .int .i64 k.1)], h := h, nx := nx + 64 }) (μ := fun k => 512 - k.1) _ _ _ ⟨0, by omega, fun j hj => by omega⟩ ?_ (fun k B hB => ?_)
    · refine leq_id ?_ ?_ (by ((try simp only []); repeat first | exact HLe.refl _ | refine HLe.cons (by simp only [hget, Nat.reduceEqDiff, Nat.left_eq_add, Nat.add_eq_left, nm_ne2, nm_en2, nm_ne3, nm_en3, nm_ne4, nm_en4, nm_ne5, nm_en5, reduceIte, ↓reduceIte] <;> first | rfl | ((repeat rw [if_neg (by omega)]) <;> rfl)) ?_ | refine HLe.skip hnm (by omega) ?_ | refine HLe.frz hnm (by omega) ?_ | refine HLe.del hnm (by omega) ?_)) (by (repeat first | exact HLt.mono hnm (by simp only [] <;> omega) | refine HLt.cons (by simp only [] <;> omega) (by simp only [Tok.lt, SV.ltL, SV.lt, and_true, true_and] <;> omega) ?_)) (by simp only [] <;> omega)
      · simp only [frEq_cons, frEq_nil, frIn_cons, frIn_nil, and_true, fget_cons, Nat.reduceEqDiff, reduceIte, ↓reduceIte, true_and, SV.ren, SV.renL, ren1]
        exact ⟨rfl, rfl⟩
      · exact ⟨trivial, by have := (hnm p _ hp).1; show p < nx + 64; omega, trivial, trivial, trivial⟩
    · obtain ⟨k, hk, hno⟩ := k
      simp only at hB
      have hb := seqN_bd hlo a k
      have hb2 := seqN_bd hlo a (k + 1)
      by_cases hk5 : k < 512
      · have c1 : decide ((k : Int) < 512) = true := decide_eq_true (by omega)
        have e1 : nextF s (seqN s a k) = seqN s a (k + 1) := rfl
        have g1 : seqN s a k ≤ 9223372036854775806 := by omega
        have rN : (fitsD s (seqN s a (k + 1)) vdl).isNil = false → ∀ h' nx', HLe h h' → Q Ex.ret ⟨[(4, .int .i64 k)], h', nx'⟩ := fun c' h' nx' hh => by
          rw [roomF_eq (by omega) hno (.inr c')] at hK
          refine (hQ _ ?_).1
          exact fin_t (.int .i64 _) rfl rfl hnm hh hK
        have rY : (fitsD s (seqN s a (k + 1)) vdl).isNil = true → ∀ nx', nx ≤ nx' → B ⟨[(6, .int .i64 (seqN s a (k + 1))), (1, .int .i64 vdl), (0, .ptr p 0), (5, .int .i64 ((k : Int) + 1))], h, nx'⟩ := fun c' nx' hnn => by
          refine hB _ ⟨k + 1, by omega, fun j hj => ?_⟩ (by simp only []; omega) ?_
          · by_cases e : j = k
            · subst e; exact c'
            · exact hno j (by omega)
          · refine leq_id ?_ ?_ (by ((try simp only []); repeat first | exact HLe.refl _ | refine HLe.cons (by simp only [hget, Nat.reduceEqDiff, Nat.left_eq_add, Nat.add_eq_left, nm_ne2, nm_en2, nm_ne3, nm_en3, nm_ne4, nm_en4, nm_ne5, nm_en5, reduceIte, ↓reduceIte] <;> first | rfl | ((repeat rw [if_neg (by omega)]) <;> rfl)) ?_ | refine HLe.skip hnm (by omega) ?_ | refine HLe.frz hnm (by omega) ?_ | refine HLe.del hnm (by omega) ?_)) (by (repeat first | exact HLt.mono hnm (by simp only [] <;> omega) | refine HLt.cons (by simp only [] <;> omega) (by simp only [Tok.lt, SV.ltL, SV.lt, and_true, true_and] <;> omega) ?_)) (by simp only [] <;> omega)
            · simp only [frEq_cons, frEq_nil, frIn_cons, frIn_nil, and_true, fget_cons, Nat.reduceEqDiff, reduceIte, ↓reduceIte, true_and, SV.ren, SV.renL, ren1]
              simp
            · exact ⟨trivial, by have := (hnm p _ hp).1; show p < nx + 64; omega, trivial, trivial, trivial⟩
        rw [fits_not] at rN
        rw [fits_nil] at rY
        simp (maxSteps := 4000000) only [go_sem, goD_calls, eq_self, implies_true, Int.reduceEq, Int.reduceBEq, Int.reduceBNe, Int.reduceLE, Int.reduceLT, Int.reduceAdd, Int.reduceSub, Int.reduceMul, Int.reduceNeg, Nat.reduceMul, Nat.reduceSub, Nat.reduceLeDiff, Nat.reduceLT, Nat.reduceEqDiff, Nat.reduceAdd, reduceCtorEq, ↓reduceIte, reduceIte, hp, rOk_c, rS_c, rL_c, spRNext, spSTop, c1, e1, g1, hlow, hrise, hsixty, min_i64, max_i64]
        (try simp only [decide_eq_true_eq, decide_eq_false_iff_not, beq_iff_eq, bne_iff_ne, ne_eq, beq_eq_false_iff_ne, bne_eq_false_iff_eq]) <;> repeat' (first | refine ⟨?_, ?_⟩ | intro _)
        all_goals first
          | omega
          | rfl
          | exact rN (by omega) _ _ (by ((try simp only []); repeat first | exact HLe.refl _ | refine HLe.cons (by simp only [hget, Nat.reduceEqDiff, Nat.left_eq_add, Nat.add_eq_left, nm_ne2, nm_en2, nm_ne3, nm_en3, nm_ne4, nm_en4, nm_ne5, nm_en5, reduceIte, ↓reduceIte] <;> first | rfl | ((repeat rw [if_neg (by omega)]) <;> rfl)) ?_ | refine HLe.skip hnm (by omega) ?_ | refine HLe.frz hnm (by omega) ?_ | refine HLe.del hnm (by omega) ?_))
          | exact rY (by omega) _ (by omega)
      · obtain rfl : k = 512 := by omega
        have c1 : decide (((512 : Nat) : Int) < 512) = false := by decide
        simp (maxSteps := 4000000) only [go_sem, goD_calls, eq_self, implies_true, Int.reduceEq, Int.reduceBEq, Int.reduceBNe, Int.reduceLE, Int.reduceLT, Int.reduceAdd, Int.reduceSub, Int.reduceMul, Int.reduceNeg, Nat.reduceMul, Nat.reduceSub, Nat.reduceLeDiff, Nat.reduceLT, Nat.reduceEqDiff, Nat.reduceAdd, reduceCtorEq, ↓reduceIte, reduceIte, c1]
        rw [roomF_eq (k := 512) (by omega) hno (.inl rfl)] at hK
        refine (hQ _ ?_).1
        exact fin_t (.int .i64 _) rfl rfl hnm (by ((try simp only []); repeat first | exact HLe.refl _ | refine HLe.cons (by simp only [hget, Nat.reduceEqDiff, Nat.left_eq_add, Nat.add_eq_left, nm_ne2, nm_en2, nm_ne3, nm_en3, nm_ne4, nm_en4, nm_ne5, nm_en5, reduceIte, ↓reduceIte] <;> first | rfl | ((repeat rw [if_neg (by omega)]) <;> rfl)) ?_ | refine HLe.skip hnm (by omega) ?_ | refine HLe.frz hnm (by omega) ?_ | refine HLe.del hnm (by omega) ?_)) hK
  · exact hsp.elim

def WRGive : Opts := mkWE 53 [] [] [] 171 [] []
def icRGive : IC := (.seq (.seq (.ops [(.u (.mov 6 (.c .nils))), (.u (.mov 7 (.c (.int .i64 0))))]) (.tr [1, 2, 0])) (.seq (.seq (.seq (.ops [(.u (.mov 11 (.s 1))), (.u (.cmp 12 .lss (.s 11) (.c (.int .i64 1)))), (.u (.mov 13 (.s 12))), (.g 13 false (some 14) (.mov 14 (.s 1))), (.g 13 false (some 15) (.cmp 15 .gtr (.s 14) (.c (.int .i64 512)))), (.u (.pck 16 (.s 13) (.c (.bool true)) (.s 15)))]) (.tr [16, 1, 2, 0])) (.cond (.s 16) (.seq (.seq (.ops [(.u (.mov 6 (.c .nils))), (.u (.mov 7 (.c (.int .i64 105))))]) (.tr [6, 7])) .ret) .skip)) (.seq (.seq (.ops [(.u (.mov 8 (.c .nils)))]) (.tr [1, 2, 0, 8])) (.seq (.seq (.ops [(.u (.mov 17 (.s 0))), (.u (.nlc 18 (.s 17))), (.u (.fad 19 0 0 (.int .i64) 57 (.s 18))), (.u (.ld 20 (.int .i64) (.s 19))), (.u (.mov 9 (.s 20)))]) (.tr [1, 2, 0, 9, 8])) (.seq (.seq (.seq (.ops [(.u (.mov 10 (.c (.int .i64 0))))]) (.tr [1, 10, 2, 0, 9, 8])) (.block 0 (.loop (.seq (.seq (.seq (.ops [(.u (.mov 21 (.s 10))), (.u (.mov 22 (.s 1))), (.u (.cmp 23 .lss (.s 21) (.s 22)))]) (.tr [23, 10, 1, 2, 0, 9, 8])) (.cond (.s 23) .skip (.exit 0))) (.seq (.block 1 (.seq (.seq (.ops [(.u (.mov 26 (.s 0))), (.u (.nlc 27 (.s 26))), (.u (.fad 28 1 1 (.slice 41) 57 (.s 27))), (.u (.ld 29 (.slice 41) (.s 28))), (.u (.mov 30 (.s 9))), (.u (.call 31 (.c (.clo 24 [])) [(.s 29), (.s 30)] [(some 41), none] true)), (.u (.mov 9 (.s 31)))]) (.tr [8, 10, 1, 2, 0, 9])) (.seq (.ops [(.u (.mov 32 (.s 8))), (.u (.mov 33 (.s 9))), (.u (.bsl 34 2 (.int .i64) [(.s 33)])), (.u (.app 35 2 (.int .i64) 8 (.s 32) (.s 34))), (.u (.mov 8 (.s 35)))]) (.tr [10, 1, 2, 0, 9, 8])))) (.seq (.ops [(.u (.mov 24 (.s 10))), (.u (.bin 25 .add .i64 (.s 24) (.c (.int .i64 1)))), (.u (.mov 10 (.s 25)))]) (.tr [1, 10, 2, 0, 9, 8]))))))) (.seq (.seq (.seq (.ops [(.u (.mov 36 (.s 9))), (.u (.cmp 37 .gtr (.s 36) (.c (.int .i64 1099511627776))))]) (.tr [37, 2, 0, 9, 8])) (.cond (.s 37) (.seq (.seq (.ops [(.u (.mov 6 (.c .nils))), (.u (.mov 7 (.c (.int .i64 109))))]) (.tr [6, 7])) .ret) .skip)) (.seq (.seq (.seq (.ops [(.u (.mov 38 (.s 9))), (.u (.bin 39 .sub .i64 (.s 38) (.c (.int .i64 512)))), (.u (.mov 40 (.s 2))), (.u (.mov 41 (.s 0))), (.u (.nlc 42 (.s 41))), (.u (.fad 43 1 1 (.slice 41) 57 (.s 42))), (.u (.ld 44 (.slice 41) (.s 43))), (.u (.call 45 (.c (.clo 72 [])) [(.s 44)] [(some 41)] true)), (.u (.mmx 46 true [(.s 40), (.s 45)])), (.u (.cmp 47 .gtr (.s 39) (.s 46)))]) (.tr [47, 0, 9, 8])) (.cond (.s 47) (.seq (.seq (.ops [(.u (.mov 6 (.c .nils))), (.u (.mov 7 (.c (.int .i64 114))))]) (.tr [6, 7])) .ret) .skip)) (.seq (.seq (.ops [(.u (.mov 48 (.s 0))), (.u (.mov 49 (.s 9))), (.u (.nlc 50 (.s 48))), (.u (.fad 51 0 0 (.int .i64) 57 (.s 50))), (.u (.st (.int .i64) (.s 51) (.s 49)))]) (.tr [8])) (.seq (.seq (.ops [(.u (.mov 52 (.s 8))), (.u (.mov 6 (.s 52))), (.u (.mov 7 (.c (.int .i64 0))))]) (.tr [6, 7])) .ret)))))))))
def rsRGive : List RV := [(.t 6), (.t 7)]
theorem irRGive : fnIR Tryd.prog WRGive 33 = some (icRGive, rsRGive) := by kernel_rfl
def spRGive : FSpec := fun args h nx K => match args with
  | [.ptr p 0, .int .i64 n, .int .i64 vdl] => rOk (hget h p) ∧ goodS' (rS (hget h p)) ∧ (0 ≤ rL (hget h p) ∧ rL (hget h p) ≤ 1099511627776) ∧
      (¬ (1 ≤ n ∧ n ≤ 512) → K (.tup [.nils, .int .i64 105]) h) ∧
      ((1 ≤ n ∧ n ≤ 512) → 1099511627776 < seqN (rS (hget h p)) (rL (hget h p)) n.toNat → K (.tup [.nils, .int .i64 109]) h) ∧
      ((1 ≤ n ∧ n ≤ 512) → ¬ 1099511627776 < seqN (rS (hget h p)) (rL (hget h p)) n.toNat → max vdl (topF (rS (hget h p))) < seqN (rS (hget h p)) (rL (hget h p)) n.toNat - 512 → K (.tup [.nils, .int .i64 114]) h) ∧
      ((1 ≤ n ∧ n ≤ 512) → ¬ 1099511627776 < seqN (rS (hget h p)) (rL (hget h p)) n.toNat → ¬ max vdl (topF (rS (hget h p))) < seqN (rS (hget h p)) (rL (hget h p)) n.toNat - 512 → K (.tup [.vec nx, .int .i64 0]) ((nx, .arr 2 (.int .i64) (seqL (rS (hget h p)) (rL (hget h p)) n.toNat)) :: hset h p (rTok (rS (hget h p)) (seqN (rS (hget h p)) (rL (hget h p)) n.toNat))))
  | _ => False
set_option maxHeartbeats 4000000 in
set_option maxRecDepth 8000 in
theorem vRGive {E : Nat → Value} (hE : Errs2 Tryd.prog (some 171) E) : Valid Tryd.prog E (gs []) 33 spRGive := by
  refine valid_go (W := WRGive) hE ((allValid_bot.add (up (vRNext hE))).add (up (vRTop hE))) irRGive (by decide) (fun args h nx K hsp hok hnm => ?_)
  unfold spRGive at hsp
  split at hsp
  · rename_i p n vdl
    obtain ⟨⟨s, a, hp⟩, hgd, ha, hrange, hfull, hlim, hgood⟩ := hsp
    have hpx := (hnm p _ hp).1
    have hst : ∀ a', HLt (hset h p (rTok s a')) nx := fun a' => HLt.hset hnm (r_lt s a')
    rw [rTok_def] at hp
    rw [hp, rS_c] at hgd
    rw [hp, rL_c] at ha
    rw [hp, rS_c, rL_c] at hfull hlim hgood
    refine ⟨by simp [WRGive, mkW, mkWE, mkWF], fun Q hQ => ?_⟩
    obtain ⟨hlo, hrise, hsixty⟩ := hgd
    have hlow := loT_low hlo
    have pn0p : (nx = p) = False := eq_false (by omega)
    have pn1p : ∀ a0 : Nat, (nx + a0 = p) = False := fun a0 => eq_false (by omega)
    have pn2p : ∀ a0 a1 : Nat, (nx + a0 + a1 = p) = False := fun a0 a1 => eq_false (by omega)
    have pn3p : ∀ a0 a1 a2 : Nat, (nx + a0 + a1 + a2 = p) = False := fun a0 a1 a2 => eq_false (by omega)
    have pn4p : ∀ a0 a1 a2 a3 : Nat, (nx + a0 + a1 + a2 + a3 = p) = False := fun a0 a1 a2 a3 => eq_false (by omega)
    have pn5p : ∀ a0 a1 a2 a3 a4 : Nat, (nx + a0 + a1 + a2 + a3 + a4 = p) = False := fun a0 a1 a2 a3 a4 => eq_false (by omega)
    have pn6p : ∀ a0 a1 a2 a3 a4 a5 : Nat, (nx + a0 + a1 + a2 + a3 + a4 + a5 = p) = False := fun a0 a1 a2 a3 a4 a5 => eq_false (by omega)
    have pn7p : ∀ a0 a1 a2 a3 a4 a5 a6 : Nat, (nx + a0 + a1 + a2 + a3 + a4 + a5 + a6 = p) = False := fun a0 a1 a2 a3 a4 a5 a6 => eq_false (by omega)
    by_cases hn : 1 ≤ n ∧ n ≤ 512
    · obtain ⟨N, rfl⟩ := Int.eq_ofNat_of_zero_le (show 0 ≤ n by omega)
      rw [Int.toNat_natCast] at hfull hlim hgood
      have c1 : decide ((N : Int) < 1) = false := decide_eq_false (by omega)
      have c2 : decide (512 < (N : Int)) = false := decide_eq_false (by omega)
      simp (maxSteps := 4000000) only [icRGive, go_sem, goD_calls, eq_self, implies_true, Int.reduceEq, Int.reduceBEq, Int.reduceBNe, Int.reduceLE, Int.reduceLT, Int.reduceAdd, Int.reduceSub, Int.reduceMul, Int.reduceNeg, Nat.reduceMul, Nat.reduceSub, Nat.reduceLeDiff, Nat.reduceLT, Nat.reduceEqDiff, Nat.reduceAdd, reduceCtorEq, ↓reduceIte, reduceIte, hp, c1, c2]
      refine go_loop (α := { k : Nat // k ≤ N }) (I := fun k => { f := [(1, .int .i64 N), (10, .int .i64 k.1), (2, .int .i64 vdl), (0, .ptr p 0), (9, .int .i64 (seqN s a k.1)), (8, .vec nx)], h := (nx, .arr 2 (.int .i64) (seqL s a k.1)) :: h, nx := nx + 1 }) (μ := fun k => N - k.1) _ _ _ ⟨0, by omega⟩ ?_ (fun k B hB => ?_)
      · refine leq_nil (.slot 8 2 (.int .i64) rfl (.refl _)) ?_
        simp only [go_sem, goD_calls, eq_self, implies_true, Int.reduceEq, Int.reduceBEq, Int.reduceBNe, Int.reduceLE, Int.reduceLT, Int.reduceAdd, Int.reduceSub, Int.reduceMul, Int.reduceNeg, Nat.reduceMul, Nat.reduceSub, Nat.reduceLeDiff, Nat.reduceLT, Nat.reduceEqDiff, Nat.reduceAdd, reduceCtorEq, ↓reduceIte, reduceIte]
        refine leq_id ?_ ?_ (by ((try simp only []); repeat first | exact HLe.refl _ | refine HLe.cons (by simp only [hget, Nat.reduceEqDiff, Nat.left_eq_add, Nat.add_eq_left, nm_ne2, nm_en2, nm_ne3, nm_en3, nm_ne4, nm_en4, nm_ne5, nm_en5, reduceIte, ↓reduceIte] <;> first | rfl | ((repeat rw [if_neg (by omega)]) <;> rfl)) ?_ | refine HLe.skip hnm (by omega) ?_ | refine HLe.frz hnm (by omega) ?_ | refine HLe.del hnm (by omega) ?_)) (by (repeat first | exact HLt.mono hnm (by simp only [] <;> omega) | refine HLt.cons (by simp only [] <;> omega) (by simp only [Tok.lt, SV.ltL, SV.lt, and_true, true_and] <;> omega) ?_)) (by simp only [] <;> omega)
        · simp only [frEq_cons, frEq_nil, frIn_cons, frIn_nil, and_true, fget_cons, Nat.reduceEqDiff, reduceIte, ↓reduceIte, true_and, SV.ren, SV.renL, ren1]
          exact ⟨rfl, rfl⟩
        · exact ⟨trivial, trivial, trivial, by show p < nx + 1; omega, trivial, by show nx < nx + 1; omega, trivial⟩
      · obtain ⟨k, hk⟩ := k
        simp only at hB
        have hb := seqN_bd hlo a k
        have hb2 := seqN_bd hlo a (k + 1)
        by_cases hkN : k < N
        · have c3 : decide ((k : Int) < (N : Int)) = true := decide_eq_true (by omega)
          have e1 : nextF s (seqN s a k) = seqN s a (k + 1) := rfl
          have g1 : seqN s a k ≤ 9223372036854775806 := by omega
          have hs := seqL_succ s a k
          simp (maxSteps := 4000000) only [go_sem, goD_calls, eq_self, implies_true, Int.reduceEq, Int.reduceBEq, Int.reduceBNe, Int.reduceLE, Int.reduceLT, Int.reduceAdd, Int.reduceSub, Int.reduceMul, Int.reduceNeg, Nat.reduceMul, Nat.reduceSub, Nat.reduceLeDiff, Nat.reduceLT, Nat.reduceEqDiff, Nat.reduceAdd, reduceCtorEq, ↓reduceIte, reduceIte, pn0p, pn1p, pn2p, pn3p, pn4p, pn5p, pn6p, pn7p, hp, spRNext, c3, e1, g1, hlow, hrise, hsixty, hs, seqL_len, min_i64, max_i64]
          repeat refine ⟨by omega, ?_⟩
          refine hB _ ⟨k + 1, by omega⟩ (by simp only []; omega) ?_
          refine leq_ren1 nx (nx + 1 + 64 + 1) (by omega) (by simp only []; omega) ?_ ?_ ?_ (by (repeat first | exact HLt.mono hnm (by simp only [] <;> omega) | refine HLt.cons (by simp only [] <;> omega) (by simp only [Tok.lt, SV.ltL, SV.lt, and_true, true_and] <;> omega) ?_)) (by simp only [] <;> omega)
          · simp only [frEq_cons, frEq_nil, frIn_cons, frIn_nil, and_true, fget_cons, Nat.reduceEqDiff, reduceIte, ↓reduceIte, true_and, SV.ren, SV.renL, ren1]
            rw [if_neg (by omega)]
            simp
          · exact ⟨trivial, trivial, trivial, by show p < nx + 1; omega, trivial, by show nx < nx + 1; omega, trivial⟩
          · exact HRen.cons (by rw [ren1_eq]; simp [hget, Tok.ren]) (HRen.base hnm (Nat.le_refl _) (by ((try simp only []); repeat first | exact HLe.refl _ | refine HLe.cons (by simp only [hget, Nat.reduceEqDiff, Nat.left_eq_add, Nat.add_eq_left, nm_ne2, nm_en2, nm_ne3, nm_en3, nm_ne4, nm_en4, nm_ne5, nm_en5, reduceIte, ↓reduceIte] <;> first | rfl | ((repeat rw [if_neg (by omega)]) <;> rfl)) ?_ | refine HLe.skip hnm (by omega) ?_ | refine HLe.frz hnm (by omega) ?_ | refine HLe.del hnm (by omega) ?_)))
        · obtain rfl : k = N := by omega
          have c3 : decide ((k : Int) < (k : Int)) = false := decide_eq_false (by omega)
          by_cases h1 : 1099511627776 < seqN s a k
          · have c4 : decide (1099511627776 < seqN s a k) = true := decide_eq_true h1
            simp (maxSteps := 4000000) only [go_sem, goD_calls, eq_self, implies_true, Int.reduceEq, Int.reduceBEq, Int.reduceBNe, Int.reduceLE, Int.reduceLT, Int.reduceAdd, Int.reduceSub, Int.reduceMul, Int.reduceNeg, Nat.reduceMul, Nat.reduceSub, Nat.reduceLeDiff, Nat.reduceLT, Nat.reduceEqDiff, Nat.reduceAdd, reduceCtorEq, ↓reduceIte, reduceIte, pn0p, pn1p, pn2p, pn3p, pn4p, pn5p, pn6p, pn7p, hp, c3, c4]
            refine (hQ _ ?_).1
            exact fin_t2 _ _ rfl rfl rfl rfl hnm (by ((try simp only []); repeat first | exact HLe.refl _ | refine HLe.cons (by simp only [hget, Nat.reduceEqDiff, Nat.left_eq_add, Nat.add_eq_left, nm_ne2, nm_en2, nm_ne3, nm_en3, nm_ne4, nm_en4, nm_ne5, nm_en5, reduceIte, ↓reduceIte] <;> first | rfl | ((repeat rw [if_neg (by omega)]) <;> rfl)) ?_ | refine HLe.skip hnm (by omega) ?_ | refine HLe.frz hnm (by omega) ?_ | refine HLe.del hnm (by omega) ?_)) (hfull hn h1)
          · have c4 : decide (1099511627776 < seqN s a k) = false := decide_eq_false h1
            by_cases h2 : max vdl (topF s) < seqN s a k - 512
            · have c5 : decide (max vdl (topF s) < seqN s a k - 512) = true := decide_eq_true h2
              simp (maxSteps := 4000000) only [go_sem, goD_calls, eq_self, implies_true, Int.reduceEq, Int.reduceBEq, Int.reduceBNe, Int.reduceLE, Int.reduceLT, Int.reduceAdd, Int.reduceSub, Int.reduceMul, Int.reduceNeg, Nat.reduceMul, Nat.reduceSub, Nat.reduceLeDiff, Nat.reduceLT, Nat.reduceEqDiff, Nat.reduceAdd, reduceCtorEq, ↓reduceIte, reduceIte, pn0p, pn1p, pn2p, pn3p, pn4p, pn5p, pn6p, pn7p, hp, c3, c4, c5, spSTop, min_i64, max_i64]
              repeat refine ⟨by omega, ?_⟩
              refine (hQ _ ?_).1
              exact fin_t2 _ _ rfl rfl rfl rfl hnm (by ((try simp only []); repeat first | exact HLe.refl _ | refine HLe.cons (by simp only [hget, Nat.reduceEqDiff, Nat.left_eq_add, Nat.add_eq_left, nm_ne2, nm_en2, nm_ne3, nm_en3, nm_ne4, nm_en4, nm_ne5, nm_en5, reduceIte, ↓reduceIte] <;> first | rfl | ((repeat rw [if_neg (by omega)]) <;> rfl)) ?_ | refine HLe.skip hnm (by omega) ?_ | refine HLe.frz hnm (by omega) ?_ | refine HLe.del hnm (by omega) ?_)) (hlim hn h1 h2)
            · have c5 : decide (max vdl (topF s) < seqN s a k - 512) = false := decide_eq_false h2
              simp (maxSteps := 4000000) only [go_sem, goD_calls, eq_self, implies_true, Int.reduceEq, Int.reduceBEq, Int.reduceBNe, Int.reduceLE, Int.reduceLT, Int.reduceAdd, Int.reduceSub, Int.reduceMul, Int.reduceNeg, Nat.reduceMul, Nat.reduceSub, Nat.reduceLeDiff, Nat.reduceLT, Nat.reduceEqDiff, Nat.reduceAdd, reduceCtorEq, ↓reduceIte, reduceIte, pn0p, pn1p, pn2p, pn3p, pn4p, pn5p, pn6p, pn7p, hp, c3, c4, c5, spSTop, min_i64, max_i64]
              repeat refine ⟨by omega, ?_⟩
              refine (hQ _ ?_).1
              exact fin_vecT _ rfl rfl rfl (by simp only [hget, ↓reduceIte]) (Nat.le_refl _) (hst _) (HLe.skip (hst _) (Nat.le_refl _) (HLe.refl _)) (hgood hn h1 h2)
    · by_cases c1 : n < 1
      · have c1 : decide (n < 1) = true := decide_eq_true c1
        simp (maxSteps := 4000000) only [icRGive, go_sem, goD_calls, eq_self, implies_true, Int.reduceEq, Int.reduceBEq, Int.reduceBNe, Int.reduceLE, Int.reduceLT, Int.reduceAdd, Int.reduceSub, Int.reduceMul, Int.reduceNeg, Nat.reduceMul, Nat.reduceSub, Nat.reduceLeDiff, Nat.reduceLT, Nat.reduceEqDiff, Nat.reduceAdd, reduceCtorEq, ↓reduceIte, reduceIte, c1]
        refine (hQ _ ?_).1
        exact fin_t2 _ _ rfl rfl rfl rfl hnm (by ((try simp only []); repeat first | exact HLe.refl _ | refine HLe.cons (by simp only [hget, Nat.reduceEqDiff, Nat.left_eq_add, Nat.add_eq_left, nm_ne2, nm_en2, nm_ne3, nm_en3, nm_ne4, nm_en4, nm_ne5, nm_en5, reduceIte, ↓reduceIte] <;> first | rfl | ((repeat rw [if_neg (by omega)]) <;> rfl)) ?_ | refine HLe.skip hnm (by omega) ?_ | refine HLe.frz hnm (by omega) ?_ | refine HLe.del hnm (by omega) ?_)) (hrange hn)
      · have c1' : decide (n < 1) = false := decide_eq_false c1
        have c2 : decide (512 < n) = true := decide_eq_true (by omega)
        simp (maxSteps := 4000000) only [icRGive, go_sem, goD_calls, eq_self, implies_true, Int.reduceEq, Int.reduceBEq, Int.reduceBNe, Int.reduceLE, Int.reduceLT, Int.reduceAdd, Int.reduceSub, Int.reduceMul, Int.reduceNeg, Nat.reduceMul, Nat.reduceSub, Nat.reduceLeDiff, Nat.reduceLT, Nat.reduceEqDiff, Nat.reduceAdd, reduceCtorEq, ↓reduceIte, reduceIte, c1', c2]
        refine (hQ _ ?_).1
        exact fin_t2 _ _ rfl rfl rfl rfl hnm (by ((try simp only []); repeat first | exact HLe.refl _ | refine HLe.cons (by simp only [hget, Nat.reduceEqDiff, Nat.left_eq_add, Nat.add_eq_left, nm_ne2, nm_en2, nm_ne3, nm_en3, nm_ne4, nm_en4, nm_ne5, nm_en5, reduceIte, ↓reduceIte] <;> first | rfl | ((repeat rw [if_neg (by omega)]) <;> rfl)) ?_ | refine HLe.skip hnm (by omega) ?_ | refine HLe.frz hnm (by omega) ?_ | refine HLe.del hnm (by omega) ?_)) (hrange hn)
  · exact hsp.elim

def WRValid : Opts := mkWE 73 [] [0, 1, 2, 3, 4, 5, 6, 7, 8, 9, 10, 11, 12, 13, 14, 15, 16] [] 171 [0, 1, 2, 3, 4, 5, 6, 7, 8, 9, 10, 11, 12, 13, 14, 15, 16] []
def icRValid : IC := (.seq (.seq (.ops [(.u (.alc 2 [(.int .i64 0), (.bool false), (.int .i64 0)]))]) (.tr [0, 2])) (.seq (.seq (.seq (.ops [(.u (.mov 5 (.s 0))), (.u (.len 6 false (.s 5))), (.u (.cmp 7 .gtr (.s 6) (.c (.int .i64 64))))]) (.tr [7, 0, 2])) (.cond (.s 7) (.seq (.seq (.ops [(.u (.call 8 (.c (.clo 65 [])) [(.c (.int .i64 104))] [none] true)), (.u (.st (.strct [(.int .i64), .bool, (.int .i64)]) (.s 2) (.s 8)))]) (.tr [2])) .ret) .skip)) (.seq (.seq (.seq (.ops [(.u (.mov 3 (.c (.int .i64 0))))]) (.tr [0, 3, 2])) (.block 0 (.loop (.seq (.seq (.seq (.ops [(.u (.mov 9 (.s 3))), (.u (.mov 10 (.s 0))), (.u (.len 11 false (.s 10))), (.u (.cmp 12 .lss (.s 9) (.s 11)))]) (.tr [12, 3, 0, 2])) (.cond (.s 12) .skip (.exit 0))) (.seq (.block 1 (.seq (.seq (.ops [(.u (.mov 15 (.s 0))), (.u (.mov 16 (.s 3))), (.u (.iad 17 41 (.strct [(.int .i64), (.int .i64), (.int .i64)]) (.s 15) (.s 16))), (.u (.ld 18 (.strct [(.int .i64), (.int .i64), (.int .i64)]) (.s 17))), (.u (.alc 4 [(.int .i64 0), (.int .i64 0), (.int .i64 0)])), (.u (.st (.strct [(.int .i64), (.int .i64), (.int .i64)]) (.s 4) (.s 18)))]) (.tr [4, 3, 0, 2])) (.seq (.seq (.seq (.ops [(.u (.fad 19 0 0 (.int .i64) 41 (.s 4))), (.u (.ld 20 (.int .i64) (.s 19))), (.u (.cmp 21 .lss (.s 20) (.c (.int .i64 1)))), (.u (.mov 22 (.s 21))), (.g 22 false (some 23) (.fad 23 0 0 (.int .i64) 41 (.s 4))), (.g 22 false (some 24) (.ld 24 (.int .i64) (.s 23))), (.g 22 false (some 25) (.cmp 25 .gtr (.s 24) (.c (.int .i64 1073741824)))), (.u (.pck 26 (.s 22) (.c (.bool true)) (.s 25))), (.u (.mov 27 (.s 26))), (.g 27 false (some 28) (.fad 28 1 1 (.int .i64) 41 (.s 4))), (.g 27 false (some 29) (.ld 29 (.int .i64) (.s 28))), (.g 27 false (some 30) (.cmp 30 .lss (.s 29) (.c (.int .i64 0)))), (.u (.pck 31 (.s 27) (.c (.bool true)) (.s 30))), (.u (.mov 32 (.s 31))), (.g 32 false (some 33) (.fad 33 2 2 (.int .i64) 41 (.s 4))), (.g 32 false (some 34) (.ld 34 (.int .i64) (.s 33))), (.g 32 false (some 35) (.fad 35 1 1 (.int .i64) 41 (.s 4))), (.g 32 false (some 36) (.ld 36 (.int .i64) (.s 35))), (.g 32 false (some 37) (.cmp 37 .leq (.s 34) (.s 36))), (.u (.pck 38 (.s 32) (.c (.bool true)) (.s 37))), (.u (.mov 39 (.s 38))), (.g 39 false (some 40) (.fad 40 2 2 (.int .i64) 41 (.s 4))), (.g 39 false (some 41) (.ld 41 (.int .i64) (.s 40))), (.g 39 false (some 42) (.cmp 42 .gtr (.s 41) (.c (.int .i64 1099511627776)))), (.u (.pck 43 (.s 39) (.c (.bool true)) (.s 42)))]) (.tr [43, 4, 3, 0, 2])) (.cond (.s 43) (.seq (.seq (.ops [(.u (.mov 44 (.s 3))), (.u (.call 45 (.c (.clo 66 [])) [(.c (.int .i64 105)), (.s 44)] [none, none] true)), (.u (.st (.strct [(.int .i64), .bool, (.int .i64)]) (.s 2) (.s 45)))]) (.tr [2])) .ret) .skip)) (.seq (.seq (.rgn [] [(false, (.u (.mov 46 (.s 3)))), (false, (.u (.cmp 47 .gtr (.s 46) (.c (.int .i64 0))))), (false, (.u (.mov 48 (.s 47)))), (false, (.g 48 true (some 49) (.fad 49 0 0 (.int .i64) 41 (.s 4)))), (false, (.g 48 true (some 50) (.ld 50 (.int .i64) (.s 49)))), (false, (.g 48 true (some 51) (.mov 51 (.s 0)))), (false, (.g 48 true (some 52) (.mov 52 (.s 3)))), (false, (.g 48 true (some 53) (.bin 53 .sub .i64 (.s 52) (.c (.int .i64 1))))), (false, (.g 48 true (some 54) (.iad 54 41 (.strct [(.int .i64), (.int .i64), (.int .i64)]) (.s 51) (.s 53)))), (false, (.g 48 true (some 55) (.fad 55 0 0 (.int .i64) 41 (.s 54)))), (false, (.g 48 true (some 56) (.ld 56 (.int .i64) (.s 55)))), (false, (.g 48 true (some 57) (.cmp 57 .leq (.s 50) (.s 56)))), (false, (.g 48 true (some 58) (.mov 58 (.s 57)))), (false, (.g 58 false (some 59) (.fad 59 2 2 (.int .i64) 41 (.s 4)))), (false, (.g 58 false (some 60) (.ld 60 (.int .i64) (.s 59)))), (false, (.g 58 false (some 61) (.mov 61 (.s 0)))), (false, (.g 58 false (some 62) (.mov 62 (.s 3)))), (false, (.g 58 false (some 63) (.bin 63 .sub .i64 (.s 62) (.c (.int .i64 1))))), (false, (.g 58 false (some 64) (.iad 64 41 (.strct [(.int .i64), (.int .i64), (.int .i64)]) (.s 61) (.s 63)))), (false, (.g 58 false (some 65) (.fad 65 2 2 (.int .i64) 41 (.s 64)))), (false, (.g 58 false (some 66) (.ld 66 (.int .i64) (.s 65)))), (false, (.g 58 false (some 67) (.cmp 67 .leq (.s 60) (.s 66)))), (false, (.g 48 true (some 68) (.pck 68 (.s 58) (.c (.bool true)) (.s 67)))), (false, (.u (.pck 69 (.s 48) (.s 68) (.c (.bool false)))))]) (.tr [69, 3, 0, 2])) (.cond (.s 69) (.seq (.seq (.ops [(.u (.mov 70 (.s 3))), (.u (.call 71 (.c (.clo 66 [])) [(.c (.int .i64 103)), (.s 70)] [none, none] true)), (.u (.st (.strct [(.int .i64), .bool, (.int .i64)]) (.s 2) (.s 71)))]) (.tr [2])) .ret) .skip))))) (.seq (.ops [(.u (.mov 13 (.s 3))), (.u (.bin 14 .add .i64 (.s 13) (.c (.int .i64 1)))), (.u (.mov 3 (.s 14)))]) (.tr [0, 3, 2]))))))) (.seq (.seq (.ops [(.u (.call 72 (.c (.clo 67 [])) [] [] true)), (.u (.st (.strct [(.int .i64), .bool, (.int .i64)]) (.s 2) (.s 72)))]) (.tr [2])) .ret))))
def rsRValid : List RV := [(.c 2 (.strct [(.int .i64), .bool, (.int .i64)]))]
theorem irRValid : fnIR Tryd.prog WRValid 27 = some (icRValid, rsRValid) := by kernel_rfl
def spRValid : FSpec := fun args h nx K => match args with
  | [.dat (.slice 41) d] => K (fA (fC (.dat .iface (validD d.l))) (fB (.dat .iface (validD d.l))) (fP (.dat .iface (validD d.l)))) h
  | _ => False
set_option maxHeartbeats 4000000 in
set_option maxRecDepth 8000 in
theorem vRValid {E : Nat → Value} (hE : Errs2 Tryd.prog (some 171) E) : Valid Tryd.prog E G0 27 spRValid := by
  refine valid_go (W := WRValid) hE (((allValid_bot.add (up (vBare hE))).add (up (vPlaced hE))).add (up (vNone hE))) irRValid (by decide) (fun args h nx K hsp hok hnm => ?_)
  unfold spRValid at hsp
  split at hsp
  · rename_i d
    refine ⟨by simp [WRValid, mkW, mkWE, mkWF], fun Q hQ => ?_⟩
    obtain ⟨hd, _⟩ := hok
    simp only [SV.ok] at hd
    obtain ⟨hd1, hd2, hd3⟩ := Wt.slice hd; generalize d.l = l at *; subst hd1
    have hml : maxLen ≤ 9223372036854775807 := by decide
    by_cases hmany : 64 < l.length
    · have c1 : decide (64 < (l.length : Int)) = true := decide_eq_true (by omega)
      rw [validD_many hmany] at hsp
      simp (maxSteps := 4000000) only [fe_End, fa_End, fe_Sum, fa_Sum, fe_Shape, fa_Shape, fe_Many, fa_Many, fe_Range, fa_Range, fe_Kind, fa_Kind, fe_None, fa_None, fe_There, fa_There, fe_Full, fa_Full, fe_Crash, fa_Crash, fe_State, fa_State, fe_Conflict, fa_Conflict, fe_Waits, fa_Waits, fe_Limit, fa_Limit, fe_Fenced, fa_Fenced, fe_Word, fa_Word, fe_Number, fa_Number, fe_nil] at hsp
      simp (maxSteps := 4000000) only [icRValid, go_sem, goD_calls, eq_self, implies_true, Int.reduceEq, Int.reduceBEq, Int.reduceBNe, Int.reduceLE, Int.reduceLT, Int.reduceAdd, Int.reduceSub, Int.reduceMul, Int.reduceNeg, Nat.reduceMul, Nat.reduceSub, Nat.reduceLeDiff, Nat.reduceLT, Nat.reduceEqDiff, Nat.reduceAdd, reduceCtorEq, ↓reduceIte, reduceIte, c1, spBare, fA]
      refine (hQ _ ?_).1
      exact fin_c (fA 104 false 0) (by simp only [go_sem, goD_calls, eq_self, implies_true, Int.reduceEq, Int.reduceBEq, Int.reduceBNe, Int.reduceLE, Int.reduceLT, Int.reduceAdd, Int.reduceSub, Int.reduceMul, Int.reduceNeg, Nat.reduceMul, Nat.reduceSub, Nat.reduceLeDiff, Nat.reduceLT, Nat.reduceEqDiff, Nat.reduceAdd, reduceCtorEq, ↓reduceIte, reduceIte, evR] <;> rfl) trivial rfl hnm (by ((try simp only []); repeat first | exact HLe.refl _ | refine HLe.cons (by simp only [hget, Nat.reduceEqDiff, Nat.left_eq_add, Nat.add_eq_left, nm_ne2, nm_en2, nm_ne3, nm_en3, nm_ne4, nm_en4, nm_ne5, nm_en5, reduceIte, ↓reduceIte] <;> first | rfl | ((repeat rw [if_neg (by omega)]) <;> rfl)) ?_ | refine HLe.skip hnm (by omega) ?_ | refine HLe.frz hnm (by omega) ?_ | refine HLe.del hnm (by omega) ?_)) hsp
    have c1 : decide (64 < (l.length : Int)) = false := decide_eq_false (by omega)
    simp (maxSteps := 4000000) only [icRValid, go_sem, goD_calls, eq_self, implies_true, Int.reduceEq, Int.reduceBEq, Int.reduceBNe, Int.reduceLE, Int.reduceLT, Int.reduceAdd, Int.reduceSub, Int.reduceMul, Int.reduceNeg, Nat.reduceMul, Nat.reduceSub, Nat.reduceLeDiff, Nat.reduceLT, Nat.reduceEqDiff, Nat.reduceAdd, reduceCtorEq, ↓reduceIte, reduceIte, c1]
    refine go_loop (α := { i : Nat // i ≤ l.length ∧ ∀ j, j < i → okAt l j = .nil }) (I := fun i => { f := [(0, .dat (.slice 41) (.list l)), (3, .int .i64 i.1), (2, .ptr nx 0)], h := (nx, .cells [.int .i64 0, .bool false, .int .i64 0]) :: h, nx := nx + 1 }) (μ := fun i => l.length - i.1) _ _ _ ⟨0, by omega, fun j hj => by omega⟩ ?_ (fun i B hB => ?_)
    · refine leq_id (by simp only [frEq_cons, frEq_nil, frIn_cons, frIn_nil, and_true, fget_cons, Nat.reduceEqDiff, reduceIte, ↓reduceIte, true_and, SV.ren, SV.renL, ren1] <;> (try rfl) <;> (try simp)) (by (simp only [frLt_cons, frLt_nil, and_true, SV.lt, SV.ltL, true_and] <;> omega)) (by ((try simp only []); repeat first | exact HLe.refl _ | refine HLe.cons (by simp only [hget, Nat.reduceEqDiff, Nat.left_eq_add, Nat.add_eq_left, nm_ne2, nm_en2, nm_ne3, nm_en3, nm_ne4, nm_en4, nm_ne5, nm_en5, reduceIte, ↓reduceIte] <;> first | rfl | ((repeat rw [if_neg (by omega)]) <;> rfl)) ?_ | refine HLe.skip hnm (by omega) ?_ | refine HLe.frz hnm (by omega) ?_ | refine HLe.del hnm (by omega) ?_)) (by (repeat first | exact HLt.mono hnm (by simp only [] <;> omega) | refine HLt.cons (by simp only [] <;> omega) (by simp only [Tok.lt, SV.ltL, SV.lt, and_true, true_and] <;> omega) ?_)) (by simp only [] <;> omega)
    · obtain ⟨i, hi, hok⟩ := i
      by_cases hil : i < l.length
      · have c2 : decide ((i : Int) < (l.length : Int)) = true := decide_eq_true (by omega)
        have ei : ((i : Int) - 1).toNat = i - 1 := by omega
        have hat : ∀ g : Nat, (atD i g).isNil = false := fun g => rfl
        have r105 : (spE (l.getD i .nil) < 1 ∨ 1073741824 < spE (l.getD i .nil) ∨ spF (l.getD i .nil) < 0 ∨ spT (l.getD i .nil) ≤ spF (l.getD i .nil) ∨ 1099511627776 < spT (l.getD i .nil)) → ∀ c nx', Q Ex.ret ⟨[(2, .ptr nx 0)], (nx + 1, c) :: (nx, .cells [.int .i64 105, .bool true, .int .i64 i]) :: h, nx'⟩ := fun hr c nx' => by
          rw [validD_at (i := i) (by omega) hil hok (by rw [okAt_range hr]; rfl), okAt_range hr] at hsp
          simp (maxSteps := 4000000) only [fe_End, fa_End, fe_Sum, fa_Sum, fe_Shape, fa_Shape, fe_Many, fa_Many, fe_Range, fa_Range, fe_Kind, fa_Kind, fe_None, fa_None, fe_There, fa_There, fe_Full, fa_Full, fe_Crash, fa_Crash, fe_State, fa_State, fe_Conflict, fa_Conflict, fe_Waits, fa_Waits, fe_Limit, fa_Limit, fe_Fenced, fa_Fenced, fe_Word, fa_Word, fe_Number, fa_Number, fe_nil] at hsp
          refine (hQ _ ?_).1
          exact fin_c (fA 105 true i) (by simp only [go_sem, goD_calls, eq_self, implies_true, Int.reduceEq, Int.reduceBEq, Int.reduceBNe, Int.reduceLE, Int.reduceLT, Int.reduceAdd, Int.reduceSub, Int.reduceMul, Int.reduceNeg, Nat.reduceMul, Nat.reduceSub, Nat.reduceLeDiff, Nat.reduceLT, Nat.reduceEqDiff, Nat.reduceAdd, reduceCtorEq, ↓reduceIte, reduceIte, evR] <;> rfl) trivial rfl hnm (by ((try simp only []); repeat first | exact HLe.refl _ | refine HLe.cons (by simp only [hget, Nat.reduceEqDiff, Nat.left_eq_add, Nat.add_eq_left, nm_ne2, nm_en2, nm_ne3, nm_en3, nm_ne4, nm_en4, nm_ne5, nm_en5, reduceIte, ↓reduceIte] <;> first | rfl | ((repeat rw [if_neg (by omega)]) <;> rfl)) ?_ | refine HLe.skip hnm (by omega) ?_ | refine HLe.frz hnm (by omega) ?_ | refine HLe.del hnm (by omega) ?_)) hsp
        have r103 : ¬ (spE (l.getD i .nil) < 1 ∨ 1073741824 < spE (l.getD i .nil) ∨ spF (l.getD i .nil) < 0 ∨ spT (l.getD i .nil) ≤ spF (l.getD i .nil) ∨ 1099511627776 < spT (l.getD i .nil)) → (0 < i ∧ (spE (l.getD i .nil) ≤ spE (l.getD (i - 1) .nil) ∨ spT (l.getD i .nil) ≤ spT (l.getD (i - 1) .nil))) → ∀ c nx', Q Ex.ret ⟨[(2, .ptr nx 0)], (nx + 1, c) :: (nx, .cells [.int .i64 103, .bool true, .int .i64 i]) :: h, nx'⟩ := fun hr hs c nx' => by
          rw [validD_at (i := i) (by omega) hil hok (by rw [okAt_shape hr hs]; rfl), okAt_shape hr hs] at hsp
          simp (maxSteps := 4000000) only [fe_End, fa_End, fe_Sum, fa_Sum, fe_Shape, fa_Shape, fe_Many, fa_Many, fe_Range, fa_Range, fe_Kind, fa_Kind, fe_None, fa_None, fe_There, fa_There, fe_Full, fa_Full, fe_Crash, fa_Crash, fe_State, fa_State, fe_Conflict, fa_Conflict, fe_Waits, fa_Waits, fe_Limit, fa_Limit, fe_Fenced, fa_Fenced, fe_Word, fa_Word, fe_Number, fa_Number, fe_nil] at hsp
          refine (hQ _ ?_).1
          exact fin_c (fA 103 true i) (by simp only [go_sem, goD_calls, eq_self, implies_true, Int.reduceEq, Int.reduceBEq, Int.reduceBNe, Int.reduceLE, Int.reduceLT, Int.reduceAdd, Int.reduceSub, Int.reduceMul, Int.reduceNeg, Nat.reduceMul, Nat.reduceSub, Nat.reduceLeDiff, Nat.reduceLT, Nat.reduceEqDiff, Nat.reduceAdd, reduceCtorEq, ↓reduceIte, reduceIte, evR] <;> rfl) trivial rfl hnm (by ((try simp only []); repeat first | exact HLe.refl _ | refine HLe.cons (by simp only [hget, Nat.reduceEqDiff, Nat.left_eq_add, Nat.add_eq_left, nm_ne2, nm_en2, nm_ne3, nm_en3, nm_ne4, nm_en4, nm_ne5, nm_en5, reduceIte, ↓reduceIte] <;> first | rfl | ((repeat rw [if_neg (by omega)]) <;> rfl)) ?_ | refine HLe.skip hnm (by omega) ?_ | refine HLe.frz hnm (by omega) ?_ | refine HLe.del hnm (by omega) ?_)) hsp
        have rB : ¬ (spE (l.getD i .nil) < 1 ∨ 1073741824 < spE (l.getD i .nil) ∨ spF (l.getD i .nil) < 0 ∨ spT (l.getD i .nil) ≤ spF (l.getD i .nil) ∨ 1099511627776 < spT (l.getD i .nil)) → ¬ (0 < i ∧ (spE (l.getD i .nil) ≤ spE (l.getD (i - 1) .nil) ∨ spT (l.getD i .nil) ≤ spT (l.getD (i - 1) .nil))) → ∀ c nx', nx + 1 < nx' → B ⟨[(0, .dat (.slice 41) (.list l)), (3, .int .i64 ((i : Int) + 1)), (2, .ptr nx 0)], (nx + 1, c) :: (nx, .cells [.int .i64 0, .bool false, .int .i64 0]) :: h, nx'⟩ := fun hr hs c nx' hnn => by
          refine hB _ ⟨i + 1, by omega, fun j hj => ?_⟩ (by simp only []; omega) ?_
          · by_cases e : j = i
            · subst e; exact okAt_ok hr hs
            · exact hok j (by omega)
          · refine leq_id ?_ (by (simp only [frLt_cons, frLt_nil, and_true, SV.lt, SV.ltL, true_and] <;> omega)) (by ((try simp only []); repeat first | exact HLe.refl _ | refine HLe.cons (by simp only [hget, Nat.reduceEqDiff, Nat.left_eq_add, Nat.add_eq_left, nm_ne2, nm_en2, nm_ne3, nm_en3, nm_ne4, nm_en4, nm_ne5, nm_en5, reduceIte, ↓reduceIte] <;> first | rfl | ((repeat rw [if_neg (by omega)]) <;> rfl)) ?_ | refine HLe.skip hnm (by omega) ?_ | refine HLe.frz hnm (by omega) ?_ | refine HLe.del hnm (by omega) ?_)) (by (repeat first | exact HLt.mono hnm (by simp only [] <;> omega) | refine HLt.cons (by simp only [] <;> omega) (by simp only [Tok.lt, SV.ltL, SV.lt, and_true, true_and] <;> omega) ?_)) (by simp only [] <;> omega)
            simp only [frEq_cons, frEq_nil, frIn_cons, frIn_nil, and_true, fget_cons, Nat.reduceEqDiff, reduceIte, ↓reduceIte, true_and, SV.ren, SV.renL, ren1]
            simp
        unfold spE spF spT at r105 r103 rB
        simp (maxSteps := 4000000) only [go_sem, goD_calls, eq_self, implies_true, Int.reduceEq, Int.reduceBEq, Int.reduceBNe, Int.reduceLE, Int.reduceLT, Int.reduceAdd, Int.reduceSub, Int.reduceMul, Int.reduceNeg, Nat.reduceMul, Nat.reduceSub, Nat.reduceLeDiff, Nat.reduceLT, Nat.reduceEqDiff, Nat.reduceAdd, reduceCtorEq, ↓reduceIte, reduceIte, c2, Int.toNat_natCast, ei, spPlaced, fA, min_i64, max_i64]
        (try simp only [decide_eq_true_eq, decide_eq_false_iff_not, beq_iff_eq, bne_iff_ne, ne_eq, beq_eq_false_iff_ne, bne_eq_false_iff_eq]) <;> repeat' (first | refine ⟨?_, ?_⟩ | intro _)
        all_goals first
          | omega
          | rfl
          | exact r105 (by omega) _ _
          | exact r103 (by omega) (by omega) _ _
          | exact rB (by omega) (by omega) _ _ (by omega)
      · obtain rfl : i = l.length := by omega
        have c2 : decide ((l.length : Int) < (l.length : Int)) = false := decide_eq_false (by omega)
        rw [validD_nil (by omega) (fun j hj => hok j (by omega))] at hsp
        simp (maxSteps := 4000000) only [fe_nil] at hsp
        simp (maxSteps := 4000000) only [go_sem, goD_calls, eq_self, implies_true, Int.reduceEq, Int.reduceBEq, Int.reduceBNe, Int.reduceLE, Int.reduceLT, Int.reduceAdd, Int.reduceSub, Int.reduceMul, Int.reduceNeg, Nat.reduceMul, Nat.reduceSub, Nat.reduceLeDiff, Nat.reduceLT, Nat.reduceEqDiff, Nat.reduceAdd, reduceCtorEq, ↓reduceIte, reduceIte, c2, spNone, fA]
        refine (hQ _ ?_).1
        exact fin_c (fA 0 false 0) (by simp only [go_sem, goD_calls, eq_self, implies_true, Int.reduceEq, Int.reduceBEq, Int.reduceBNe, Int.reduceLE, Int.reduceLT, Int.reduceAdd, Int.reduceSub, Int.reduceMul, Int.reduceNeg, Nat.reduceMul, Nat.reduceSub, Nat.reduceLeDiff, Nat.reduceLT, Nat.reduceEqDiff, Nat.reduceAdd, reduceCtorEq, ↓reduceIte, reduceIte, evR] <;> rfl) trivial rfl hnm (by ((try simp only []); repeat first | exact HLe.refl _ | refine HLe.cons (by simp only [hget, Nat.reduceEqDiff, Nat.left_eq_add, Nat.add_eq_left, nm_ne2, nm_en2, nm_ne3, nm_en3, nm_ne4, nm_en4, nm_ne5, nm_en5, reduceIte, ↓reduceIte] <;> first | rfl | ((repeat rw [if_neg (by omega)]) <;> rfl)) ?_ | refine HLe.skip hnm (by omega) ?_ | refine HLe.frz hnm (by omega) ?_ | refine HLe.del hnm (by omega) ?_)) hsp
  · exact hsp.elim
end Go.Proofs.YtmjenjccinfbaaaDoor
