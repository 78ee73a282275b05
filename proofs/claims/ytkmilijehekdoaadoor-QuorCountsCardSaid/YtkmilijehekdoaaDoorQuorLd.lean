/- Chapter 6: the program's iterator of the least sets: what it hands on. -/
import Derived.Test.YtkmilijehekdoaaDoorQuorLc
namespace Go.Proofs.YtkmilijehekdoaaDoor
set_option linter.unusedVariables false
set_option linter.unusedSimpArgs false
open Go Go.Fw
attribute [local go_sem] walkSet evMdl evMupD evMup evLkp frpL preF preP prePt prePd frzP evNlq ev frOf oget ogets argSs argS evMm frzL evBin evWrp evShf evCmp evUna evNil evBeq evLd evSt evFad evIad evAad evLen evSln evEls evApp evParts evSlc evNlc evMif evPck evFld evBld evTas evIfq evSeq evSl0 evBxf evAgl evAgq evBsf hget hset hdel cellAt arrAt setCellAt setArrAt takeC lenC svCells SV.okc SV.one ldSV Fw.isAgg explode explodeL toD toDL toD1 Ty.size Ty.sizeL frz1 Fr.sub Heap.sub Tok.sub SV.sub SV.subL
attribute [local go_sem] walkY

def lessQ (q : QP) (m : M64) (n : Int) : Bool := q.hasM (m &&& ~~~(1#64 <<< n.toNat))
def leastPB (q : QP) (l : List D) (x : Nat) : Bool := q.hasM (pickM l x) && (thoseL l x l.length).all (fun d => !lessQ q (pickM l x) d.i)
def leastPU (q : QP) (l : List D) (k : Nat) : List (List D) := ((List.range k).filter (leastPB q l)).map fun (x : Nat) => thoseL l (x : Int) l.length
theorem leastPU_step (q : QP) (l : List D) (k : Nat) : leastPU q l (k + 1) = leastPU q l k ++ if leastPB q l k = true then [thoseL l (k : Int) l.length] else [] := by
  unfold leastPU
  rw [List.range_succ, List.filter_append, List.map_append]
  cases h : leastPB q l k <;> simp [h]
theorem leastPU_pre (q : QP) (l : List D) {k m : Nat} (h : k ≤ m) : ∃ t, leastPU q l m = leastPU q l k ++ t := by
  induction m with
  | zero =>
    obtain rfl : k = 0 := by omega
    exact ⟨[], (List.append_nil _).symm⟩
  | succ m ih =>
    by_cases e : k = m + 1
    · subst e; exact ⟨[], (List.append_nil _).symm⟩
    · obtain ⟨t, ht⟩ := ih (by omega)
      rw [leastPU_step, ht, List.append_assoc]
      exact ⟨_, rfl⟩
def leastPL (q : QP) (l : List D) : List (List D) := leastPU q l (2 ^ l.length)
theorem leastPL_at {q : QP} {l : List D} {x : Nat} (hx : x < 2 ^ l.length) (h : leastPB q l x = true) : (leastPL q l)[(leastPU q l x).length]? = some (thoseL l (x : Int) l.length) := by
  obtain ⟨t, ht⟩ := leastPU_pre q l (k := x + 1) (m := 2 ^ l.length) hx
  unfold leastPL
  rw [ht, leastPU_step, if_pos h, List.append_assoc, List.getElem?_append_right (Nat.le_refl _), Nat.sub_self]
  rfl
theorem those_in {l : List D} {x : Int} {d : D} (h : d ∈ thoseL l x l.length) : d.i ∈ l.map D.i := by
  unfold thoseL at h
  obtain ⟨j, hj, rfl⟩ := List.mem_map.1 h
  rw [List.mem_filter, List.mem_range] at hj
  show (l.getD j .nil).i ∈ _
  rw [List.getD_eq_getElem?_getD, List.getElem?_eq_getElem hj.1]
  exact List.mem_map.2 ⟨_, List.getElem_mem hj.1, rfl⟩
def itemI (l : List D) : List SV × Heap := ([.vec 0], [(0, .arr 3 (.int .i64) l)])
abbrev setY : Ty := .strct [.ptr 65, .slice 3, .int .i64]
def leastIt : ItS := fun caps items => ∃ p l n, caps = [.elt setY (.node [p, .list l, .int n])] ∧ ((p = .nil ∧ items = []) ∨ ∃ q : QP, p = q.enc ∧ q.ok ∧ l.length ≤ 16 ∧ (∀ x ∈ l.map D.i, 0 ≤ x ∧ x < 64) ∧ items = (leastPL q l).map itemI)
set_option maxHeartbeats 4000000 in
set_option maxRecDepth 8000 in
theorem it_QLeast1g {E : Nat → Value} (hE : Errs2 Tryd.prog (some 152) E) : ItValid Tryd.prog E (gs []) 33 leastIt := by
  rintro caps items ⟨p, l, n, rfl, hsp⟩
  refine it_of (W := WQLeast1) (caps := [.elt setY (.node [p, .list l, .int n])]) hE (((allValid_bot.add (up (vQThoseV hE))).add (up (vQMaskV hE))).add (up (vQHasP hE))) irQLeast1 (by kernel_rfl) (show 2 ≤ WQLeast1.N by decide) (show _ ∧ _ from ⟨trivial, trivial⟩) (fun x hx ρ ρ' H v hd => ?_) (fun yv hok => ?_)
  · rw [List.mem_singleton] at hx
    subst hx
    cases hd with | elt h1 h2 h3 => exact .elt h1 h2 h3
  have hnm : HLt ([] : Heap) 0 := fun n t h => by cases h
  rcases hsp with ⟨rfl, rfl⟩ | ⟨q, rfl, hq, hl, hrng, rfl⟩
  · show goY _ _ _ _ _ _ [] _ _
    simp (maxSteps := 4000000) only [icQLeast1, frOf, go_sem, goD_calls, eq_self, implies_true, Int.reduceEq, Int.reduceBEq, Int.reduceBNe, Int.reduceLE, Int.reduceLT, Int.reduceAdd, Int.reduceSub, Int.reduceMul, Int.reduceNeg, Nat.reduceMul, Nat.reduceSub, Nat.reduceLeDiff, Nat.reduceLT, Nat.reduceEqDiff, Nat.reduceAdd, reduceCtorEq, ↓reduceIte, reduceIte]
    exact ⟨rfl, .inr trivial⟩
  have na0 := QP.enc_notNil q
  have e1 := shl_i64 hl
  have hpw : (2 : Nat) ^ l.length ≤ 2 ^ 16 := Nat.pow_le_pow_right (by omega) hl
  obtain ⟨X, hX⟩ : ∃ X, (2 : Nat) ^ l.length = X := ⟨_, rfl⟩
  rw [hX] at hpw e1
  show goY _ _ _ _ _ _ [] _ _
  simp (maxSteps := 4000000) only [icQLeast1, frOf, go_sem, goD_calls, eq_self, implies_true, Int.reduceEq, Int.reduceBEq, Int.reduceBNe, Int.reduceLE, Int.reduceLT, Int.reduceAdd, Int.reduceSub, Int.reduceMul, Int.reduceNeg, Nat.reduceMul, Nat.reduceSub, Nat.reduceLeDiff, Nat.reduceLT, Nat.reduceEqDiff, Nat.reduceAdd, reduceCtorEq, ↓reduceIte, reduceIte, na0, e1]
  refine ⟨rfl, rfl, by omega, ?_⟩
  refine goY_loop (α := { x : Nat // x ≤ X }) (I := fun x => { f := [(14, .int .i64 (X : Int)), (15, .int .i64 x.1), (1, .elt setY (.node [q.enc, .list l, .int n])), (0, .raw yv)], h := [], nx := 0 }) (ct := fun x => some (leastPU q l x.1).length) (μ := fun x => X - x.1) _ _ _ _ _ ⟨0, by omega⟩ ?_ rfl (fun x B hB => ?_)
  · refine leq_id (by simp only [frEq_cons, frEq_nil, frIn_cons, frIn_nil, and_true, fget_cons, Nat.reduceEqDiff, reduceIte, ↓reduceIte, true_and, SV.ren, SV.renL, ren1] <;> (try rfl) <;> (try simp)) (by (simp only [frLt_cons, frLt_nil, and_true, SV.lt, SV.ltL, true_and] <;> omega)) (HLe.refl _) hnm (Nat.le_refl _)
  obtain ⟨x, hx⟩ := x
  simp only at hB ⊢
  by_cases hxl : x < X
  · have c1 : decide ((x : Int) < (X : Int)) = true := decide_eq_true (by omega)
    obtain ⟨L, hL⟩ : ∃ L, thoseL l (x : Int) l.length = L := ⟨_, rfl⟩
    obtain ⟨m, hm⟩ : ∃ m, maskL L = m := ⟨_, rfl⟩
    have hpm : pickM l x = m := by unfold pickM; rw [hL, hm]
    obtain ⟨b0, hb0⟩ : ∃ b, q.hasM m = b := ⟨_, rfl⟩
    have hl2 : l.length ≤ 1000 := by omega
    have hLl : L.length ≤ 16 := by rw [← hL]; exact Nat.le_trans (those_len _ _ _) hl
    have next : ∀ k' S', some (leastPU q l (x + 1)).length = k' → Leq 0 S' { f := [(14, .int .i64 (X : Int)), (15, .int .i64 ((x : Int) + 1)), (1, .elt setY (.node [q.enc, .list l, .int n])), (0, .raw yv)], h := [], nx := 0 } → B k' S' := fun k' S' hk hl => hB k' S' ⟨x + 1, by omega⟩ (by simp only []; omega) hk hl
    simp (maxSteps := 4000000) only [go_sem, goD_calls, eq_self, implies_true, Int.reduceEq, Int.reduceBEq, Int.reduceBNe, Int.reduceLE, Int.reduceLT, Int.reduceAdd, Int.reduceSub, Int.reduceMul, Int.reduceNeg, Nat.reduceMul, Nat.reduceSub, Nat.reduceLeDiff, Nat.reduceLT, Nat.reduceEqDiff, Nat.reduceAdd, reduceCtorEq, ↓reduceIte, reduceIte, c1, spQThoseV, hl2, hL]
    simp (maxSteps := 4000000) only [go_sem, goD_calls, eq_self, implies_true, Int.reduceEq, Int.reduceBEq, Int.reduceBNe, Int.reduceLE, Int.reduceLT, Int.reduceAdd, Int.reduceSub, Int.reduceMul, Int.reduceNeg, Nat.reduceMul, Nat.reduceSub, Nat.reduceLeDiff, Nat.reduceLT, Nat.reduceEqDiff, Nat.reduceAdd, reduceCtorEq, ↓reduceIte, reduceIte, spQMaskV]
    refine ⟨L, rfl, by omega, rfl, ?_⟩
    simp (maxSteps := 4000000) only [spQHasP, hm]
    refine ⟨trivial, .inr ⟨q, m, rfl, hq, rfl, ?_⟩⟩
    rw [hb0]
    cases b0 with
    | false =>
      have hlp : leastPB q l x = false := by unfold leastPB; rw [hpm, hb0]; rfl
      have hst := leastPU_step q l x
      rw [hlp, if_neg (by decide), List.append_nil] at hst
      simp (maxSteps := 4000000) only [go_sem, goD_calls, eq_self, implies_true, Int.reduceEq, Int.reduceBEq, Int.reduceBNe, Int.reduceLE, Int.reduceLT, Int.reduceAdd, Int.reduceSub, Int.reduceMul, Int.reduceNeg, Nat.reduceMul, Nat.reduceSub, Nat.reduceLeDiff, Nat.reduceLT, Nat.reduceEqDiff, Nat.reduceAdd, reduceCtorEq, ↓reduceIte, reduceIte, min_i64, max_i64]
      refine ⟨by omega, ?_⟩
      refine next _ _ (by rw [hst]) ?_
      refine leq_id (by simp only [frEq_cons, frEq_nil, frIn_cons, frIn_nil, and_true, fget_cons, Nat.reduceEqDiff, reduceIte, ↓reduceIte, true_and, SV.ren, SV.renL, ren1] <;> (try rfl) <;> (try simp)) (by (simp only [frLt_cons, frLt_nil, and_true, SV.lt, SV.ltL, true_and] <;> omega)) (by ((try simp only []); repeat first | exact HLe.refl _ | refine HLe.cons (by simp only [hget, Nat.reduceEqDiff, Nat.left_eq_add, Nat.add_eq_left, nm_ne2, nm_en2, nm_ne3, nm_en3, nm_ne4, nm_en4, nm_ne5, nm_en5, reduceIte, ↓reduceIte] <;> first | rfl | ((repeat rw [if_neg (by omega)]) <;> rfl)) ?_ | refine HLe.skip hnm (by omega) ?_ | refine HLe.frz hnm (by omega) ?_ | refine HLe.del hnm (by omega) ?_)) hnm (Nat.le_refl _)
    | true =>
    simp (maxSteps := 4000000) only [go_sem, goD_calls, eq_self, implies_true, Int.reduceEq, Int.reduceBEq, Int.reduceBNe, Int.reduceLE, Int.reduceLT, Int.reduceAdd, Int.reduceSub, Int.reduceMul, Int.reduceNeg, Nat.reduceMul, Nat.reduceSub, Nat.reduceLeDiff, Nat.reduceLT, Nat.reduceEqDiff, Nat.reduceAdd, reduceCtorEq, ↓reduceIte, reduceIte]
    refine goY_loop (α := { j : Nat // j ≤ L.length ∧ ∀ i, i < j → lessQ q m (L.getD i .nil).i = false }) (I := fun j => { f := [(28, .vec 0), (29, .int .i64 (L.length : Int)), (30, .int .i64 j.1), (5, .int .u64 (mI m)), (4, .vec 0), (14, .int .i64 (X : Int)), (15, .int .i64 x), (1, .elt setY (.node [q.enc, .list l, .int n])), (0, .raw yv)], h := [(0, .arr 3 (.int .i64) L)], nx := 1 }) (ct := fun _ => some (leastPU q l x).length) (μ := fun j => L.length - j.1) _ _ _ _ _ ⟨0, by omega, fun i hi => absurd hi (by omega)⟩ ?_ rfl (fun j B2 hB2 => ?_)
    · refine leq_id (by simp only [frEq_cons, frEq_nil, frIn_cons, frIn_nil, and_true, fget_cons, Nat.reduceEqDiff, reduceIte, ↓reduceIte, true_and, SV.ren, SV.renL, ren1] <;> (try rfl) <;> (try simp)) (by (simp only [frLt_cons, frLt_nil, and_true, SV.lt, SV.ltL, true_and] <;> omega)) (by ((try simp only []); repeat first | exact HLe.refl _ | refine HLe.cons (by simp only [hget, Nat.reduceEqDiff, Nat.left_eq_add, Nat.add_eq_left, nm_ne2, nm_en2, nm_ne3, nm_en3, nm_ne4, nm_en4, nm_ne5, nm_en5, reduceIte, ↓reduceIte] <;> first | rfl | ((repeat rw [if_neg (by omega)]) <;> rfl)) ?_ | refine HLe.skip hnm (by omega) ?_ | refine HLe.frz hnm (by omega) ?_ | refine HLe.del hnm (by omega) ?_)) (by (repeat first | exact HLt.mono hnm (by simp only [] <;> omega) | refine HLt.cons (by simp only [] <;> omega) (by simp only [Tok.lt, SV.ltL, SV.lt, and_true, true_and] <;> omega) ?_)) (Nat.zero_le _)
    obtain ⟨j, hj, hno⟩ := j
    simp only at hB2 ⊢
    have toNext : leastPB q l x = false → ∀ S', Leq 0 S' { f := [(14, .int .i64 (X : Int)), (15, .int .i64 ((x : Int) + 1)), (1, .elt setY (.node [q.enc, .list l, .int n])), (0, .raw yv)], h := [], nx := 0 } → B (some (leastPU q l x).length) S' := fun hlp S' hl => by
      have hst := leastPU_step q l x
      rw [hlp, if_neg (by decide), List.append_nil] at hst
      exact next _ _ (by rw [hst]) hl
    by_cases hjl : j < L.length
    · have c2 : decide ((j : Int) < (L.length : Int)) = true := decide_eq_true (by omega)
      obtain ⟨v, hv⟩ : ∃ v, (L.getD j .nil).i = v := ⟨_, rfl⟩
      have hvr : 0 ≤ v ∧ v < 64 := by
        rw [← hv, ← hL]
        refine hrng _ (those_in (x := (x : Int)) ?_)
        rw [← hL] at hjl
        rw [List.getD_eq_getElem?_getD, List.getElem?_eq_getElem hjl]
        exact List.getElem_mem hjl
      have e2 := shl_mI hvr.1 hvr.2
      simp only [show IntKind.u64.bits = 64 from rfl] at e2
      obtain ⟨b1, hb1⟩ : ∃ b, q.hasM (m &&& ~~~(1#64 <<< v.toNat)) = b := ⟨_, rfl⟩
      have hless : lessQ q m v = b1 := hb1
      simp (maxSteps := 4000000) only [go_sem, goD_calls, eq_self, implies_true, Int.reduceEq, Int.reduceBEq, Int.reduceBNe, Int.reduceLE, Int.reduceLT, Int.reduceAdd, Int.reduceSub, Int.reduceMul, Int.reduceNeg, Nat.reduceMul, Nat.reduceSub, Nat.reduceLeDiff, Nat.reduceLT, Nat.reduceEqDiff, Nat.reduceAdd, reduceCtorEq, ↓reduceIte, reduceIte, c2, hv, e2, andNot_mI, Int.toNat_natCast]
      refine ⟨by omega, ⟨by omega, by omega⟩, rfl, hvr.1, ?_⟩
      simp (maxSteps := 4000000) only [spQHasP]
      refine ⟨trivial, .inr ⟨q, _, rfl, hq, rfl, ?_⟩⟩
      rw [hb1]
      cases b1 with
      | true =>
        have hlp : leastPB q l x = false := by
          unfold leastPB
          rw [hpm, hL]
          have : L.all (fun d => !lessQ q m d.i) = false := by
            rw [List.all_eq_false]
            refine ⟨L.getD j .nil, ?_, by rw [hv, hless]; simp⟩
            rw [List.getD_eq_getElem?_getD, List.getElem?_eq_getElem hjl]
            exact List.getElem_mem hjl
          rw [this, Bool.and_false]
        simp (maxSteps := 4000000) only [go_sem, goD_calls, eq_self, implies_true, Int.reduceEq, Int.reduceBEq, Int.reduceBNe, Int.reduceLE, Int.reduceLT, Int.reduceAdd, Int.reduceSub, Int.reduceMul, Int.reduceNeg, Nat.reduceMul, Nat.reduceSub, Nat.reduceLeDiff, Nat.reduceLT, Nat.reduceEqDiff, Nat.reduceAdd, reduceCtorEq, ↓reduceIte, reduceIte, min_i64, max_i64]
        refine ⟨by omega, ?_⟩
        refine toNext hlp _ ?_
        refine leq_id (by simp only [frEq_cons, frEq_nil, frIn_cons, frIn_nil, and_true, fget_cons, Nat.reduceEqDiff, reduceIte, ↓reduceIte, true_and, SV.ren, SV.renL, ren1] <;> (try rfl) <;> (try simp)) (by (simp only [frLt_cons, frLt_nil, and_true, SV.lt, SV.ltL, true_and] <;> omega)) (by ((try simp only []); repeat first | exact HLe.refl _ | refine HLe.cons (by simp only [hget, Nat.reduceEqDiff, Nat.left_eq_add, Nat.add_eq_left, nm_ne2, nm_en2, nm_ne3, nm_en3, nm_ne4, nm_en4, nm_ne5, nm_en5, reduceIte, ↓reduceIte] <;> first | rfl | ((repeat rw [if_neg (by omega)]) <;> rfl)) ?_ | refine HLe.skip hnm (by omega) ?_ | refine HLe.frz hnm (by omega) ?_ | refine HLe.del hnm (by omega) ?_)) hnm (Nat.le_refl _)
      | false =>
        simp (maxSteps := 4000000) only [go_sem, goD_calls, eq_self, implies_true, Int.reduceEq, Int.reduceBEq, Int.reduceBNe, Int.reduceLE, Int.reduceLT, Int.reduceAdd, Int.reduceSub, Int.reduceMul, Int.reduceNeg, Nat.reduceMul, Nat.reduceSub, Nat.reduceLeDiff, Nat.reduceLT, Nat.reduceEqDiff, Nat.reduceAdd, reduceCtorEq, ↓reduceIte, reduceIte, min_i64, max_i64]
        refine ⟨by omega, ?_⟩
        refine hB2 _ _ ⟨j + 1, by omega, fun i hi => ?_⟩ (by simp only []; omega) rfl ?_
        · by_cases e : i = j
          · rw [e, hv]; exact hless
          · exact hno i (by omega)
        refine leq_id (by simp only [frEq_cons, frEq_nil, frIn_cons, frIn_nil, and_true, fget_cons, Nat.reduceEqDiff, reduceIte, ↓reduceIte, true_and, SV.ren, SV.renL, ren1] <;> (try rfl) <;> (try simp)) (by (simp only [frLt_cons, frLt_nil, and_true, SV.lt, SV.ltL, true_and] <;> omega)) (by ((try simp only []); repeat first | exact HLe.refl _ | refine HLe.cons (by simp only [hget, Nat.reduceEqDiff, Nat.left_eq_add, Nat.add_eq_left, nm_ne2, nm_en2, nm_ne3, nm_en3, nm_ne4, nm_en4, nm_ne5, nm_en5, reduceIte, ↓reduceIte] <;> first | rfl | ((repeat rw [if_neg (by omega)]) <;> rfl)) ?_ | refine HLe.skip hnm (by omega) ?_ | refine HLe.frz hnm (by omega) ?_ | refine HLe.del hnm (by omega) ?_)) (by (repeat first | exact HLt.mono hnm (by simp only [] <;> omega) | refine HLt.cons (by simp only [] <;> omega) (by simp only [Tok.lt, SV.ltL, SV.lt, and_true, true_and] <;> omega) ?_)) (Nat.zero_le _)
    · obtain rfl : j = L.length := by omega
      have c2 : decide ((L.length : Int) < (L.length : Int)) = false := decide_eq_false (by omega)
      have hlp : leastPB q l x = true := by
        unfold leastPB
        rw [hpm, hb0, hL, Bool.true_and, List.all_eq_true]
        intro d hd
        obtain ⟨i, hi, rfl⟩ := List.mem_iff_getElem.1 hd
        have := hno i hi
        rw [List.getD_eq_getElem?_getD, List.getElem?_eq_getElem hi, Option.getD_some] at this
        rw [this]; rfl
      have hst := leastPU_step q l x
      rw [hlp, if_pos rfl] at hst
      have hat := leastPL_at (q := q) (l := l) (x := x) (by rw [hX]; exact hxl) hlp
      rw [hL] at hat
      simp (maxSteps := 4000000) only [go_sem, goD_calls, eq_self, implies_true, Int.reduceEq, Int.reduceBEq, Int.reduceBNe, Int.reduceLE, Int.reduceLT, Int.reduceAdd, Int.reduceSub, Int.reduceMul, Int.reduceNeg, Nat.reduceMul, Nat.reduceSub, Nat.reduceLeDiff, Nat.reduceLT, Nat.reduceEqDiff, Nat.reduceAdd, reduceCtorEq, ↓reduceIte, reduceIte, c2]
      refine ⟨(leastPU q l x).length, itemI L, rfl, by rw [List.getElem?_map, hat]; rfl, rfl, rfl, rfl, ?_, ?_, ?_⟩
      · simp only [frOf, itemI]
        refine leq_id (by simp only [frEq_cons, frEq_nil, frIn_cons, frIn_nil, and_true, fget_cons, Nat.reduceEqDiff, reduceIte, ↓reduceIte, true_and, SV.ren, SV.renL, ren1] <;> (try rfl) <;> (try simp)) (by (simp only [frLt_cons, frLt_nil, and_true, SV.lt, SV.ltL, true_and] <;> omega)) (by ((try simp only []); repeat first | exact HLe.refl _ | refine HLe.cons (by simp only [hget, Nat.reduceEqDiff, Nat.left_eq_add, Nat.add_eq_left, nm_ne2, nm_en2, nm_ne3, nm_en3, nm_ne4, nm_en4, nm_ne5, nm_en5, reduceIte, ↓reduceIte] <;> first | rfl | ((repeat rw [if_neg (by omega)]) <;> rfl)) ?_ | refine HLe.skip hnm (by omega) ?_ | refine HLe.frz hnm (by omega) ?_ | refine HLe.del hnm (by omega) ?_)) (by (repeat first | exact HLt.mono hnm (by simp only [] <;> omega) | refine HLt.cons (by simp only [] <;> omega) (by simp only [Tok.lt, SV.ltL, SV.lt, and_true, true_and] <;> omega) ?_)) (Nat.zero_le _)
      · simp (maxSteps := 4000000) only [go_sem, goD_calls, eq_self, implies_true, Int.reduceEq, Int.reduceBEq, Int.reduceBNe, Int.reduceLE, Int.reduceLT, Int.reduceAdd, Int.reduceSub, Int.reduceMul, Int.reduceNeg, Nat.reduceMul, Nat.reduceSub, Nat.reduceLeDiff, Nat.reduceLT, Nat.reduceEqDiff, Nat.reduceAdd, reduceCtorEq, ↓reduceIte, reduceIte, min_i64, max_i64]
        refine ⟨by omega, ?_⟩
        refine next _ _ (by rw [hst, List.length_append]; rfl) ?_
        refine leq_id (by simp only [frEq_cons, frEq_nil, frIn_cons, frIn_nil, and_true, fget_cons, Nat.reduceEqDiff, reduceIte, ↓reduceIte, true_and, SV.ren, SV.renL, ren1] <;> (try rfl) <;> (try simp)) (by (simp only [frLt_cons, frLt_nil, and_true, SV.lt, SV.ltL, true_and] <;> omega)) (by ((try simp only []); repeat first | exact HLe.refl _ | refine HLe.cons (by simp only [hget, Nat.reduceEqDiff, Nat.left_eq_add, Nat.add_eq_left, nm_ne2, nm_en2, nm_ne3, nm_en3, nm_ne4, nm_en4, nm_ne5, nm_en5, reduceIte, ↓reduceIte] <;> first | rfl | ((repeat rw [if_neg (by omega)]) <;> rfl)) ?_ | refine HLe.skip hnm (by omega) ?_ | refine HLe.frz hnm (by omega) ?_ | refine HLe.del hnm (by omega) ?_)) hnm (Nat.le_refl _)
      · simp (maxSteps := 4000000) only [go_sem, goD_calls, eq_self, implies_true, Int.reduceEq, Int.reduceBEq, Int.reduceBNe, Int.reduceLE, Int.reduceLT, Int.reduceAdd, Int.reduceSub, Int.reduceMul, Int.reduceNeg, Nat.reduceMul, Nat.reduceSub, Nat.reduceLeDiff, Nat.reduceLT, Nat.reduceEqDiff, Nat.reduceAdd, reduceCtorEq, ↓reduceIte, reduceIte]
        exact .inl trivial
  · obtain rfl : x = X := by omega
    have c1 : decide ((x : Int) < (x : Int)) = false := decide_eq_false (by omega)
    simp (maxSteps := 4000000) only [go_sem, goD_calls, eq_self, implies_true, Int.reduceEq, Int.reduceBEq, Int.reduceBNe, Int.reduceLE, Int.reduceLT, Int.reduceAdd, Int.reduceSub, Int.reduceMul, Int.reduceNeg, Nat.reduceMul, Nat.reduceSub, Nat.reduceLeDiff, Nat.reduceLT, Nat.reduceEqDiff, Nat.reduceAdd, reduceCtorEq, ↓reduceIte, reduceIte, c1]
    refine .inr ?_
    unfold leastPL
    rw [hX, List.length_map]
theorem itSem_up {P : Program} {E : Nat → Value} {G G' : Nat → Bool} (hG : ∀ g, G' g = true → G g = true) {g : FuncId} {caps : List SV} {items : List (List SV × Heap)} (h : ItSem P E G' g caps items) : ItSem P E G g caps items := by
  have hE' : ∀ {H : FH} {w : World}, ErrW E G H w → ErrW E G' H w := fun h g a T hg he => h g a T (hG g hg) he
  refine ⟨h.1, fun ρ H lb hd hgl l J Jx hJ hJx hY W h0 hin herr => ?_⟩
  refine h.2 ρ H lb hd (fun k hk => hgl k (hG k hk)) l J (fun W => Jx W) hJ hJx (fun i hi W1 W ρ1 H1 vs a1 a2 a3 a4 a5 a6 a7 a8 a9 a10 => ?_) W h0 hin (hE' herr)
  obtain ⟨fn, tmps, assign, body, h1, h2⟩ := hY i hi W1 W ρ1 H1 vs a1 a2 a3 a4 a5 a6 a7 a8 a9 a10
  refine ⟨fn, tmps, assign, body, h1, h2.mono ?_⟩
  rintro e W' (⟨rfl, b1, b2, b3⟩ | ⟨rfl, b1, b2, b3⟩)
  · exact .inl ⟨rfl, b1, b2, hE' b3⟩
  · exact .inr ⟨rfl, b1, b2, hE' b3⟩
theorem it_QLeast1 {E : Nat → Value} {G : Nat → Bool} (hE : Errs2 Tryd.prog (some 152) E) : ItValid Tryd.prog E G 33 leastIt :=
  fun caps items h => itSem_up (fun g hg => by cases hg) (it_QLeast1g hE caps items h)
def spQLeast : FSpec := fun args h nx K => match args with
  | [.agg [.dat (.ptr t) p, .dat (.slice t') l, .int .i64 n]] => t = 65 ∧ t' = 3 ∧ K (.clo 33 [.elt setY (.node [p, l, .int n])]) h
  | [.agg [.dat (.ptr t) p, .nils, .int .i64 n]] => t = 65 ∧ K (.clo 33 [.elt setY (.node [p, .list [], .int n])]) h
  | _ => False
set_option maxHeartbeats 4000000 in
set_option maxRecDepth 8000 in
theorem vQLeast {E : Nat → Value} (hE : Errs2 Tryd.prog (some 152) E) : Valid Tryd.prog E (gs []) 14 spQLeast := by
  refine valid_go (W := WQLeast) hE allValid_bot irQLeast (by decide) (fun args h nx K hsp hok hnm => ?_)
  unfold spQLeast at hsp
  split at hsp
  · rename_i t p t' l n
    obtain ⟨rfl, rfl, hK⟩ := hsp
    refine ⟨by simp [WQLeast, mkW, mkWE, mkWF], fun Q hQ => ?_⟩
    simp (maxSteps := 4000000) only [icQLeast, go_sem, goD_calls, eq_self, implies_true, Int.reduceEq, Int.reduceBEq, Int.reduceBNe, Int.reduceLE, Int.reduceLT, Int.reduceAdd, Int.reduceSub, Int.reduceMul, Int.reduceNeg, Nat.reduceMul, Nat.reduceSub, Nat.reduceLeDiff, Nat.reduceLT, Nat.reduceEqDiff, Nat.reduceAdd, reduceCtorEq, ↓reduceIte, reduceIte]
    refine (hQ _ ?_).1
    exact fin_t (.clo _ _) rfl rfl hnm (by ((try simp only []); repeat first | exact HLe.refl _ | refine HLe.cons (by simp only [hget, Nat.reduceEqDiff, Nat.left_eq_add, Nat.add_eq_left, nm_ne2, nm_en2, nm_ne3, nm_en3, nm_ne4, nm_en4, nm_ne5, nm_en5, reduceIte, ↓reduceIte] <;> first | rfl | ((repeat rw [if_neg (by omega)]) <;> rfl)) ?_ | refine HLe.skip hnm (by omega) ?_ | refine HLe.frz hnm (by omega) ?_ | refine HLe.del hnm (by omega) ?_)) hK
  · rename_i t p n
    obtain ⟨rfl, hK⟩ := hsp
    refine ⟨by simp [WQLeast, mkW, mkWE, mkWF], fun Q hQ => ?_⟩
    simp (maxSteps := 4000000) only [icQLeast, go_sem, goD_calls, eq_self, implies_true, Int.reduceEq, Int.reduceBEq, Int.reduceBNe, Int.reduceLE, Int.reduceLT, Int.reduceAdd, Int.reduceSub, Int.reduceMul, Int.reduceNeg, Nat.reduceMul, Nat.reduceSub, Nat.reduceLeDiff, Nat.reduceLT, Nat.reduceEqDiff, Nat.reduceAdd, reduceCtorEq, ↓reduceIte, reduceIte]
    refine (hQ _ ?_).1
    exact fin_t (.clo _ _) rfl rfl hnm (by ((try simp only []); repeat first | exact HLe.refl _ | refine HLe.cons (by simp only [hget, Nat.reduceEqDiff, Nat.left_eq_add, Nat.add_eq_left, nm_ne2, nm_en2, nm_ne3, nm_en3, nm_ne4, nm_en4, nm_ne5, nm_en5, reduceIte, ↓reduceIte] <;> first | rfl | ((repeat rw [if_neg (by omega)]) <;> rfl)) ?_ | refine HLe.skip hnm (by omega) ?_ | refine HLe.frz hnm (by omega) ?_ | refine HLe.del hnm (by omega) ?_)) hK
  · exact hsp.elim
end Go.Proofs.YtkmilijehekdoaaDoor
