/- Chapter 6: the program's least sets are the document's; QuorLeast. -/
import Derived.Test.YtkmilijehekdoaaDoorQuorLa
import Derived.Test.YtkmilijehekdoaaDoorQuorLc
namespace Go.Proofs.YtkmilijehekdoaaDoor
set_option linter.unusedVariables false
set_option linter.unusedSimpArgs false
open Go Go.Fw
attribute [local go_sem] walkSet evMdl evMupD evMup evLkp frpL preF preP prePt prePd frzP evNlq ev frOf oget ogets argSs argS evMm frzL evBin evWrp evShf evCmp evUna evNil evBeq evLd evSt evFad evIad evAad evLen evSln evEls evApp evParts evSlc evNlc evMif evPck evFld evBld evTas evIfq evSeq evSl0 evBxf evAgl evAgq evBsf hget hset hdel cellAt arrAt setCellAt setArrAt takeC lenC svCells SV.okc SV.one ldSV Fw.isAgg explode explodeL toD toDL toD1 Ty.size Ty.sizeL frz1 Fr.sub Heap.sub Tok.sub SV.sub SV.subL

theorem getD_map_i {l : List D} {j : Nat} (hj : j < l.length) : (l.getD j .nil).i = (l.map D.i)[j]'(by rw [List.length_map]; exact hj) := by
  rw [List.getD_eq_getElem?_getD, List.getElem?_eq_getElem hj, List.getElem_map]
  rfl
theorem pickM_bit {l : List D} {x : Nat} {n : Int} (h : 0 ≤ n ∧ n < 64) : bitM (pickM l x) n = amI (pickL l x) n := by
  unfold pickM maskL amI pickL
  exact bit_mask _ _ h.1 h.2
theorem has_pick {q : QP} (hq : q.ok) {l : List D} {x : Nat} : q.hasM (pickM l x) = q.has (amI (pickL l x)) := by
  unfold QP.hasM
  exact QP.has_congr hq (fun n h0 h1 => pickM_bit ⟨h0, h1⟩)
theorem bit_shl {n k : Int} (hn : 0 ≤ n ∧ n < 64) (hk : 0 ≤ k ∧ k < 64) : bitM (1#64 <<< k.toNat) n = decide (n = k) := by
  unfold bitM
  rw [BitVec.getLsbD_shiftLeft]
  have e : (1#64).getLsbD (n.toNat - k.toNat) = decide (n.toNat - k.toNat = 0) := by
    rw [BitVec.getLsbD_one]
    by_cases h : n.toNat - k.toNat = 0 <;> simp [h]
  rw [e]
  by_cases h : n = k
  · subst h; simp; omega
  · rw [decide_eq_false h]
    by_cases h2 : n.toNat < k.toNat
    · simp [h2]
    · simp; omega
theorem less_same {q : QP} (hq : q.ok) {l : List D} (hl : l.length ≤ 16) (hnd : (l.map D.i).Nodup) (hr : ∀ n ∈ l.map D.i, 0 ≤ n ∧ n < 64) {x i : Nat} (hx : x < 2 ^ l.length) (hi : i < l.length) : lessQ q (pickM l x) (l.getD i .nil).i = q.has (amI (pickL l (clr x i))) := by
  have hin : ∀ {j}, j < l.length → (l.getD j .nil).i ∈ l.map D.i := fun {j} hj => by rw [getD_map_i hj]; exact List.getElem_mem _
  have hki := hr _ (hin hi)
  have h64 : x < 2 ^ 64 := Nat.lt_of_lt_of_le hx (Nat.pow_le_pow_right (by omega) (by omega))
  unfold lessQ QP.hasM
  refine QP.has_congr hq (fun n h0 h1 => ?_)
  rw [bit_andNot _ _ ⟨h0, h1⟩, pickM_bit ⟨h0, h1⟩, bit_shl ⟨h0, h1⟩ hki]
  have key : amI (pickL l (clr x i)) n = true ↔ (amI (pickL l x) n && !decide (n = (l.getD i .nil).i)) = true := by
    rw [amI_iff, pick_mem hl, Bool.and_eq_true, amI_iff, pick_mem hl]
    constructor
    · rintro ⟨j, hj, hb, rfl⟩
      rw [clr_bit j (by omega) h64, Bool.and_eq_true] at hb
      refine ⟨⟨j, hj, hb.1, rfl⟩, ?_⟩
      have hne : i ≠ j := by simpa using hb.2
      rw [Bool.not_eq_true', decide_eq_false_iff_not, getD_map_i hj, getD_map_i hi]
      intro e
      have hpw := List.pairwise_iff_getElem.1 hnd
      rcases Nat.lt_or_gt_of_ne hne with h | h
      · exact hpw i j (by rw [List.length_map]; exact hi) (by rw [List.length_map]; exact hj) h e.symm
      · exact hpw j i (by rw [List.length_map]; exact hj) (by rw [List.length_map]; exact hi) h e
    · rintro ⟨⟨j, hj, hb, rfl⟩, h2⟩
      refine ⟨j, hj, ?_, rfl⟩
      rw [clr_bit j (by omega) h64, hb, Bool.true_and]
      have hne : i ≠ j := fun e => by subst e; simp at h2
      simp [hne]
  cases h1 : amI (pickL l (clr x i)) n <;> cases h2 : (amI (pickL l x) n && !decide (n = (l.getD i .nil).i))
  · rfl
  · rw [key.2 h2] at h1; cases h1
  · rw [key.1 h1] at h2; cases h2
  · rfl
theorem least_same {q : QP} (hq : q.ok) {l : List D} (hl : l.length ≤ 16) (hnd : (l.map D.i).Nodup) (hr : ∀ n ∈ l.map D.i, 0 ≤ n ∧ n < 64) {x : Nat} (hx : x < 2 ^ l.length) : leastPB q l x = leastB (fun s => q.has (amI s)) l x := by
  unfold leastPB leastB
  rw [has_pick hq]
  congr 1
  rw [Bool.eq_iff_iff, List.all_eq_true, List.all_eq_true]
  constructor
  · intro h i hi
    rw [List.mem_range] at hi
    unfold lessB
    by_cases hb : x.testBit i = true
    · have := h (.int (l.getD i .nil).i) (by
        unfold thoseL
        exact List.mem_map.2 ⟨i, List.mem_filter.2 ⟨List.mem_range.2 hi, by rw [bitX_nat x (by omega)]; exact hb⟩, rfl⟩)
      rw [hb, Bool.true_and]
      show (!q.has (amI (pickL l (clr x i)))) = true
      rw [← less_same hq hl hnd hr hx hi]
      exact this
    · simp [hb]
  · intro h d hd
    unfold thoseL at hd
    obtain ⟨i, hi, rfl⟩ := List.mem_map.1 hd
    rw [List.mem_filter, List.mem_range, bitX_nat x (by omega)] at hi
    have := h i (List.mem_range.2 hi.1)
    unfold lessB at this
    rw [hi.2, Bool.true_and] at this
    show (!lessQ q (pickM l x) (l.getD i .nil).i) = true
    rw [less_same hq hl hnd hr hx hi.1]
    exact this
theorem leastL_prog {q : QP} (h : okQ (some q)) : leastL (refS (some q)) (nodesL q) = (leastPL q (nodesL q)).map D.list := by
  have hq := h.1
  have na := nodes_okQ h
  have hnd : ((nodesL q).map D.i).Nodup := by rw [nodesL_i]; exact nodup_lt (rise_sorted _)
  unfold leastL leastUp leastPL leastPU
  rw [List.map_map]
  have e : (List.range (2 ^ (nodesL q).length)).filter (leastB (refS (some q)) (nodesL q)) = (List.range (2 ^ (nodesL q).length)).filter (leastPB q (nodesL q)) := by
    refine List.filter_congr (fun x hx => ?_)
    rw [List.mem_range] at hx
    rw [least_same hq na.len hnd na.rng hx]
    unfold leastB lessB
    have : ∀ s, refS (some q) s = q.has (amI s) := refS_some q
    simp only [this]
  rw [e]
  rfl
def leastQ (x : Option QP) : List (List D) := match x with
  | none => []
  | some q => leastPL q (nodesL q)
theorem leastQ_ref {x : Option QP} (h : okQ x) : leastL (hasL (refQ x)) (riseL (allL (refQ x))) = (leastQ x).map D.list := by
  cases x with
  | none =>
    apply List.eq_nil_iff_forall_not_mem.2
    intro d hd
    obtain ⟨z, _, h, _⟩ := leastL_mem.1 hd
    unfold leastB at h
    have : hasL (refQ none) (pickL (riseL (allL (refQ none))) z) = false := rfl
    rw [this] at h
    cases h
  | some q => exact leastL_prog h
theorem leastQ_it {x : Option QP} (h : okQ x) {p l : D} {n : Int} (hP : progD x = .node [p, l, .int n]) : leastIt [.elt setY (.node [p, l, .int n])] ((leastQ x).map itemI) := by
  rcases prog_inv hP with ⟨rfl, rfl, rfl, _⟩ | ⟨q, rfl, rfl, rfl, _⟩
  · exact ⟨_, _, _, rfl, .inl ⟨rfl, rfl⟩⟩
  · exact ⟨_, _, _, rfl, .inr ⟨q, rfl, h.1, (nodes_okQ h).len, (nodes_okQ h).rng, rfl⟩⟩
theorem leastQ_len (x : Option QP) (h : okQ x) : ∀ L ∈ leastQ x, L.length ≤ 16 := by
  cases x with
  | none => intro L hL; cases hL
  | some q =>
    intro L hL
    unfold leastQ leastPL leastPU at hL
    obtain ⟨x, _, rfl⟩ := List.mem_map.1 hL
    exact Nat.le_trans (those_len _ _ _) (nodes_okQ h).len
/-! ### The same -/
def WSameIntsV : Opts := mkWE 29 [] [] [] 152 [] []
def icSameIntsV : IC := (.seq (.seq (.ops [(.u (.mov 4 (.c (.bool false))))]) (.tr [0, 1])) (.seq (.seq (.seq (.ops [(.u (.mov 7 (.s 0))), (.u (.len 8 false (.s 7))), (.u (.mov 9 (.s 1))), (.u (.len 10 false (.s 9))), (.u (.cmp 11 .neq (.s 8) (.s 10)))]) (.tr [11, 0, 1])) (.cond (.s 11) (.seq (.seq (.ops [(.u (.mov 4 (.c (.bool false))))]) (.tr [4])) .ret) .skip)) (.seq (.seq (.seq (.ops [(.u (.mov 5 (.c (.int .i64 0))))]) (.tr [0, 1, 5])) (.block 0 (.loop (.seq (.seq (.seq (.ops [(.u (.mov 12 (.s 5))), (.u (.mov 13 (.s 0))), (.u (.len 14 false (.s 13))), (.u (.cmp 15 .lss (.s 12) (.s 14)))]) (.tr [15, 5, 0, 1])) (.cond (.s 15) .skip (.exit 0))) (.seq (.block 1 (.seq (.seq (.rgn [] [(false, (.u (.mov 18 (.s 0)))), (false, (.u (.mov 19 (.s 5)))), (false, (.u (.iad 20 3 (.int .i64) (.s 18) (.s 19)))), (false, (.u (.ld 21 (.int .i64) (.s 20)))), (false, (.u (.mov 22 (.s 1)))), (false, (.u (.mov 23 (.s 5)))), (false, (.u (.iad 24 3 (.int .i64) (.s 22) (.s 23)))), (false, (.u (.ld 25 (.int .i64) (.s 24)))), (false, (.u (.cmp 26 .eql (.s 21) (.s 25)))), (false, (.u (.mov 6 (.s 26))))]) (.tr [6, 5, 0, 1])) (.seq (.seq (.ops [(.u (.mov 27 (.s 6))), (.u (.una 28 .not (.s 27)))]) (.tr [28, 5, 0, 1])) (.cond (.s 28) (.seq (.seq (.ops [(.u (.mov 4 (.c (.bool false))))]) (.tr [4])) .ret) .skip)))) (.seq (.ops [(.u (.mov 16 (.s 5))), (.u (.bin 17 .add .i64 (.s 16) (.c (.int .i64 1)))), (.u (.mov 5 (.s 17)))]) (.tr [0, 1, 5]))))))) (.seq (.seq (.ops [(.u (.mov 4 (.c (.bool true))))]) (.tr [4])) .ret))))
def rsSameIntsV : List RV := [(.t 4)]
theorem irSameIntsV : fnIR Tryd.prog WSameIntsV 26 = some (icSameIntsV, rsSameIntsV) := by kernel_rfl
def spSameIntsV : FSpec := fun args h nx K => match args with
  | [.vec q, .dat (.slice t) b] => t = 3 ∧ ∃ l, hget h q = some (.arr 3 (.int .i64) l) ∧ b = .list l ∧ l.length ≤ 1000000 ∧ K (.bool true) h
  | _ => False
set_option maxHeartbeats 4000000 in
set_option maxRecDepth 8000 in
theorem vSameIntsV {E : Nat → Value} (hE : Errs2 Tryd.prog (some 152) E) : Valid Tryd.prog E (gs []) 26 spSameIntsV := by
  refine valid_go (W := WSameIntsV) hE allValid_bot irSameIntsV (by decide) (fun args h nx K hsp hok hnm => ?_)
  unfold spSameIntsV at hsp
  split at hsp
  · rename_i q t b
    obtain ⟨rfl, l, hq, rfl, hlen, hsp⟩ := hsp
    refine ⟨by simp [WSameIntsV, mkW, mkWE, mkWF], fun Q hQ => ?_⟩
    have hq1 := (hnm _ _ hq).1
    have ret : ∀ h' nx', HLe h h' → Q Ex.ret ⟨[(4, .bool true)], h', nx'⟩ := fun h' nx' hh => by
      refine (hQ _ ?_).1
      exact fin_t (.bool _) rfl rfl hnm hh hsp
    have c1 : ((l.length : Int) != (l.length : Int)) = false := by rw [bne_eq_false_iff_eq]
    simp only [icSameIntsV, go_sem, goD_calls, eq_self, implies_true, Int.reduceEq, Int.reduceBEq, Int.reduceBNe, Int.reduceLE, Int.reduceLT, Int.reduceAdd, Int.reduceSub, Int.reduceMul, Int.reduceNeg, Nat.reduceMul, Nat.reduceSub, Nat.reduceLeDiff, Nat.reduceLT, Nat.reduceEqDiff, Nat.reduceAdd, reduceCtorEq, ↓reduceIte, reduceIte, hq, c1]
    refine go_loop (α := { i : Nat // i ≤ l.length }) (I := fun i => { f := [(0, .vec q), (1, .dat (.slice 3) (.list l)), (5, .int .i64 i.1)], h := h, nx := nx }) (μ := fun i => l.length - i.1) _ _ _ ⟨0, by omega⟩ ?_ (fun i B hB => ?_)
    · refine leq_id (by simp only [frEq_cons, frEq_nil, frIn_cons, frIn_nil, and_true, fget_cons, Nat.reduceEqDiff, reduceIte, ↓reduceIte, true_and, SV.ren, SV.renL, ren1] <;> (try rfl) <;> (try simp)) (by (simp only [frLt_cons, frLt_nil, and_true, SV.lt, SV.ltL, true_and] <;> omega)) (by ((try simp only []); repeat first | exact HLe.refl _ | refine HLe.cons (by simp only [hget, Nat.reduceEqDiff, Nat.left_eq_add, Nat.add_eq_left, nm_ne2, nm_en2, nm_ne3, nm_en3, nm_ne4, nm_en4, nm_ne5, nm_en5, reduceIte, ↓reduceIte] <;> first | rfl | ((repeat rw [if_neg (by omega)]) <;> rfl)) ?_ | refine HLe.skip hnm (by omega) ?_ | refine HLe.frz hnm (by omega) ?_ | refine HLe.del hnm (by omega) ?_)) (by (repeat first | exact HLt.mono hnm (by simp only [] <;> omega) | refine HLt.cons (by simp only [] <;> omega) (by simp only [Tok.lt, SV.ltL, SV.lt, and_true, true_and] <;> omega) ?_)) (by simp only [] <;> omega)
    · obtain ⟨i, hi⟩ := i
      simp only at hB
      by_cases hil : i < l.length
      · have c2 : decide ((i : Int) < (l.length : Int)) = true := decide_eq_true (by omega)
        have c3 : ((l.getD i .nil).i != (l.getD i .nil).i) = false := by rw [bne_eq_false_iff_eq]
        simp (maxSteps := 1000000) only [go_sem, goD_calls, eq_self, implies_true, Int.reduceEq, Int.reduceBEq, Int.reduceBNe, Int.reduceLE, Int.reduceLT, Int.reduceAdd, Int.reduceSub, Int.reduceMul, Int.reduceNeg, Nat.reduceMul, Nat.reduceSub, Nat.reduceLeDiff, Nat.reduceLT, Nat.reduceEqDiff, Nat.reduceAdd, reduceCtorEq, ↓reduceIte, reduceIte, hq, c2, c3, Int.toNat_natCast, min_i64, max_i64]
        repeat refine ⟨by omega, ?_⟩
        refine hB _ ⟨i + 1, by omega⟩ (by simp only []; omega) ?_
        refine leq_id (by simp only [frEq_cons, frEq_nil, frIn_cons, frIn_nil, and_true, fget_cons, Nat.reduceEqDiff, reduceIte, ↓reduceIte, true_and, SV.ren, SV.renL, ren1] <;> (try rfl) <;> (try simp)) (by (simp only [frLt_cons, frLt_nil, and_true, SV.lt, SV.ltL, true_and] <;> omega)) (by ((try simp only []); repeat first | exact HLe.refl _ | refine HLe.cons (by simp only [hget, Nat.reduceEqDiff, Nat.left_eq_add, Nat.add_eq_left, nm_ne2, nm_en2, nm_ne3, nm_en3, nm_ne4, nm_en4, nm_ne5, nm_en5, reduceIte, ↓reduceIte] <;> first | rfl | ((repeat rw [if_neg (by omega)]) <;> rfl)) ?_ | refine HLe.skip hnm (by omega) ?_ | refine HLe.frz hnm (by omega) ?_ | refine HLe.del hnm (by omega) ?_)) (by (repeat first | exact HLt.mono hnm (by simp only [] <;> omega) | refine HLt.cons (by simp only [] <;> omega) (by simp only [Tok.lt, SV.ltL, SV.lt, and_true, true_and] <;> omega) ?_)) (by simp only [] <;> omega)
      · have c2 : decide ((i : Int) < (l.length : Int)) = false := decide_eq_false (by omega)
        simp only [go_sem, goD_calls, eq_self, implies_true, Int.reduceEq, Int.reduceBEq, Int.reduceBNe, Int.reduceLE, Int.reduceLT, Int.reduceAdd, Int.reduceSub, Int.reduceMul, Int.reduceNeg, Nat.reduceMul, Nat.reduceSub, Nat.reduceLeDiff, Nat.reduceLT, Nat.reduceEqDiff, Nat.reduceAdd, reduceCtorEq, ↓reduceIte, reduceIte, hq, c2]
        exact ret _ _ (by ((try simp only []); repeat first | exact HLe.refl _ | refine HLe.cons (by simp only [hget, Nat.reduceEqDiff, Nat.left_eq_add, Nat.add_eq_left, nm_ne2, nm_en2, nm_ne3, nm_en3, nm_ne4, nm_en4, nm_ne5, nm_en5, reduceIte, ↓reduceIte] <;> first | rfl | ((repeat rw [if_neg (by omega)]) <;> rfl)) ?_ | refine HLe.skip hnm (by omega) ?_ | refine HLe.frz hnm (by omega) ?_ | refine HLe.del hnm (by omega) ?_))
  · exact hsp.elim
def WQuorLeastW : Opts := mkWE 90 [] [0, 1, 3, 4, 5, 6, 7, 8, 9, 10, 11, 12, 13, 14, 15, 16, 17] [56] 152 [0, 1, 3, 4, 5, 6, 7, 8, 9, 10, 11, 12, 13, 14, 15, 16, 17] []
def icQuorLeastW : IC := (.seq (.seq (.ops [(.u (.alc 4 [(.bool false)]))]) (.tr [0, 1, 45, 4])) (.seq (.seq (.ops [(.u (.call 15 (.c (.clo 11 [])) [] [] true)), (.u (.mov 5 (.s 15)))]) (.tr [5, 0, 1, 45, 4])) (.seq (.seq (.seq (.ops [(.u (.mov 16 (.s 5))), (.u (.una 17 .not (.s 16)))]) (.tr [17, 5, 0, 1, 45, 4])) (.cond (.s 17) (.seq (.seq (.ops [(.u (.st .bool (.s 4) (.c (.bool false))))]) (.tr [4])) .ret) .skip)) (.seq (.seq (.seq (.ops [(.u (.mov 18 (.s 0))), (.u (.call 19 (.c (.clo 17 [])) [(.s 18)] [(some 72)] true)), (.u (.una 20 .not (.s 19))), (.u (.mov 21 (.s 20))), (.g 21 false (some 22) (.mov 22 (.s 5))), (.g 21 false (some 23) (.una 23 .not (.s 22))), (.u (.pck 24 (.s 21) (.c (.bool true)) (.s 23)))]) (.tr [24, 5, 0, 1, 45, 4])) (.cond (.s 24) (.seq (.seq (.ops [(.u (.mov 25 (.s 5))), (.u (.st .bool (.s 4) (.s 25)))]) (.tr [4])) .ret) .skip)) (.seq (.seq (.ops [(.u (.mov 27 (.s 0))), (.u (.call 28 (.c (.clo 18 [])) [(.s 27)] [(some 72)] true)), (.u (.mov 26 (.s 28))), (.u (.ext 29 0 (.s 26))), (.u (.ext 30 1 (.s 26))), (.u (.ext 31 2 (.s 26))), (.u (.alc 6 [(.dat (.ptr 65) .nil), .nils, (.int .i64 0)])), (.u (.alc 7 [.nils])), (.u (.st (.strct [(.ptr 65), (.slice 3), (.int .i64)]) (.s 6) (.s 29))), (.u (.st (.strct [(.slice 79)]) (.s 7) (.s 30))), (.u (.mov 8 (.s 31)))]) (.tr [8, 7, 1, 6, 45, 4])) (.seq (.seq (.seq (.ops [(.u (.mov 32 (.s 8))), (.u (.una 33 .not (.s 32))), (.u (.mov 34 (.s 33))), (.g 34 false (some 35) (.ld 35 (.strct [(.slice 79)]) (.s 7))), (.g 34 false (some 36) (.call 36 (.c (.clo 19 [])) [(.s 35)] [none] true)), (.g 34 false (some 37) (.len 37 false (.s 36))), (.g 34 false (some 38) (.cmp 38 .gtr (.s 37) (.c (.int .i64 9)))), (.u (.pck 39 (.s 34) (.c (.bool true)) (.s 38)))]) (.tr [39, 8, 7, 1, 6, 45, 4])) (.cond (.s 39) (.seq (.seq (.ops [(.u (.mov 40 (.s 8))), (.u (.st .bool (.s 4) (.s 40)))]) (.tr [4])) .ret) .skip)) (.seq (.seq (.ops [(.u (.ld 41 (.strct [(.slice 79)]) (.s 7))), (.u (.call 42 (.c (.clo 25 [])) [(.s 41)] [none] true)), (.u (.alc 9 [.nils])), (.u (.st (.slice 24) (.s 9) (.s 42)))]) (.tr [1, 6, 45, 9, 4])) (.seq (.seq (.ops [(.u (.alc 10 [(.int .i64 0)])), (.u (.st (.int .i64) (.s 10) (.c (.int .i64 0))))]) (.tr [1, 6, 45, 9, 4, 10])) (.seq (.seq (.seq (.ops [(.u (.ld 43 (.strct [(.ptr 65), (.slice 3), (.int .i64)]) (.s 6))), (.u (.call 44 (.c (.clo 14 [])) [(.s 43)] [none] true))]) (.tr [44, 1, 6, 45, 9, 4, 10])) (.block 0 (.seq (.rng (.s 44) [45] (.seq (.ops [(.u (.mov 11 (.s 45)))]) (.tr [9, 4, 11, 10])) (.block 1 (.seq (.seq (.seq (.ops [(.u (.ld 46 (.int .i64) (.s 10))), (.u (.ld 47 (.slice 24) (.s 9))), (.u (.len 48 false (.s 47))), (.u (.cmp 49 .geq (.s 46) (.s 48))), (.u (.mov 50 (.s 49))), (.g 50 false (some 51) (.mov 51 (.s 11))), (.g 50 false (some 52) (.ld 52 (.slice 24) (.s 9))), (.g 50 false (some 53) (.ld 53 (.int .i64) (.s 10))), (.g 50 false (some 54) (.iad 54 24 (.slice 3) (.s 52) (.s 53))), (.g 50 false (some 55) (.ld 55 (.slice 3) (.s 54))), (.g 50 false (some 56) (.call 56 (.c (.clo 26 [])) [(.s 51), (.s 55)] [(some 3), (some 3)] false)), (.g 50 false (some 57) (.una 57 .not (.s 56))), (.u (.pck 58 (.s 50) (.c (.bool true)) (.s 57)))]) (.tr [58, 4, 11, 10])) (.cond (.s 58) (.seq (.seq (.ops [(.u (.st .bool (.s 4) (.c (.bool false))))]) (.tr [4])) .ret) .skip)) (.seq (.seq (.seq (.ops [(.u (.mov 12 (.c (.int .i64 0))))]) (.tr [11, 12, 10])) (.block 2 (.loop (.seq (.seq (.seq (.ops [(.u (.mov 59 (.s 12))), (.u (.mov 60 (.s 11))), (.u (.len 61 false (.s 60))), (.u (.cmp 62 .lss (.s 59) (.s 61)))]) (.tr [62, 12, 11, 10])) (.cond (.s 62) .skip (.exit 2))) (.seq (.block 3 (.seq (.ops [(.u (.mov 65 (.s 11))), (.u (.mov 66 (.s 12))), (.u (.iad 67 3 (.int .i64) (.s 65) (.s 66))), (.u (.st (.int .i64) (.s 67) (.c (.int .i64 (-1)))))]) (.tr [12, 11, 10]))) (.seq (.ops [(.u (.mov 63 (.s 12))), (.u (.bin 64 .add .i64 (.s 63) (.c (.int .i64 1)))), (.u (.mov 12 (.s 64)))]) (.tr [11, 12, 10]))))))) (.seq (.ops [(.u (.ld 68 (.int .i64) (.s 10))), (.u (.bin 69 .add .i64 (.s 68) (.c (.int .i64 1)))), (.u (.st (.int .i64) (.s 10) (.s 69)))]) (.tr [])))))) (.tr [9, 1, 10, 6, 4])))) (.seq (.seq (.seq (.ops [(.u (.ld 70 (.int .i64) (.s 10))), (.u (.ld 71 (.slice 24) (.s 9))), (.u (.len 72 false (.s 71))), (.u (.cmp 73 .neq (.s 70) (.s 72)))]) (.tr [73, 1, 10, 6, 4])) (.cond (.s 73) (.seq (.seq (.ops [(.u (.st .bool (.s 4) (.c (.bool false))))]) (.tr [4])) .ret) .skip)) (.seq (.seq (.seq (.ops [(.u (.ld 74 (.int .i64) (.s 10))), (.u (.cmp 75 .eql (.s 74) (.c (.int .i64 0))))]) (.tr [75, 1, 10, 6, 4])) (.cond (.s 75) (.seq (.seq (.ops [(.u (.st .bool (.s 4) (.c (.bool true))))]) (.tr [4])) .ret) .skip)) (.seq (.seq (.ops [(.u (.mov 76 (.s 1))), (.u (.ld 77 (.int .i64) (.s 10))), (.u (.call 78 (.c (.clo 12 [])) [(.s 76), (.s 77)] [none, none] true)), (.u (.alc 13 [(.int .i64 0)])), (.u (.st (.int .i64) (.s 13) (.s 78)))]) (.tr [6, 4, 13])) (.seq (.seq (.ops [(.u (.alc 14 [(.int .i64 0)])), (.u (.st (.int .i64) (.s 14) (.c (.int .i64 0))))]) (.tr [6, 4, 13, 14])) (.seq (.seq (.seq (.ops [(.u (.ld 79 (.strct [(.ptr 65), (.slice 3), (.int .i64)]) (.s 6))), (.u (.call 80 (.c (.clo 14 [])) [(.s 79)] [none] true))]) (.tr [80, 4, 13, 14])) (.block 4 (.seq (.rng (.s 80) [81] .skip (.block 5 (.seq (.seq (.seq (.ops [(.u (.ld 82 (.int .i64) (.s 14))), (.u (.ld 83 (.int .i64) (.s 13))), (.u (.cmp 84 .eql (.s 82) (.s 83)))]) (.tr [84, 14])) (.cond (.s 84) (.exit 4) .skip)) (.seq (.ops [(.u (.ld 85 (.int .i64) (.s 14))), (.u (.bin 86 .add .i64 (.s 85) (.c (.int .i64 1)))), (.u (.st (.int .i64) (.s 14) (.s 86)))]) (.tr []))))) (.tr [14, 13, 4])))) (.seq (.seq (.ops [(.u (.ld 87 (.int .i64) (.s 14))), (.u (.ld 88 (.int .i64) (.s 13))), (.u (.cmp 89 .eql (.s 87) (.s 88))), (.u (.st .bool (.s 4) (.s 89)))]) (.tr [4])) .ret)))))))))))))))
def rsQuorLeastW : List RV := [(.c 4 .bool)]
theorem irQuorLeastW : fnIR Tryd.prog WQuorLeastW 7 = some (icQuorLeastW, rsQuorLeastW) := by kernel_rfl
def spQuorLeast : FSpec := fun args h nx K => match args with
  | [.dat (.slice t) l, .int .i64 at0] => t = 72 ∧ K (.bool true) h
  | _ => False

set_option maxHeartbeats 4000000 in
set_option maxRecDepth 8000 in
theorem vQuorLeastW {E : Nat → Value} (hE : Errs2 Tryd.prog (some 152) E) : Valid Tryd.prog E G0 7 spQuorLeast := by
  refine valid_go (W := WQuorLeastW) hE (((((((((allValid_bot.addIt (it_QLeast1 hE)).add (up (vL6first hE))).add (up (vQLight hE))).add (up (vQMade hE))).add (up (vR6Nodes hE))).add (up (vR6Least hE))).add (up (vQLeast hE))).add (up (vSameIntsV hE))).add (up (vNumber hE))) irQuorLeastW (by decide) (fun args h nx K hsp hok hnm => ?_)
  unfold spQuorLeast at hsp
  split at hsp
  · rename_i t l at0
    obtain ⟨rfl, hK⟩ := hsp
    refine ⟨by simp [WQuorLeastW, mkW, mkWE, mkWF], fun Q hQ => ?_⟩
    have ret : ∀ h' nx', HLe h h' → hget h' nx = some (.cells [.bool true]) → Q Ex.ret ⟨[(4, .ptr nx 0)], h', nx'⟩ := fun h' nx' hh hg => by
      refine (hQ _ ?_).1
      refine fin_same (p := True) (xs := [.bool true]) ?_ trivial (fun π => rfl) ?_ hnm hh hK
      · simp only [rsQuorLeastW, evRs, evR, go_sem, goD_calls, eq_self, implies_true, Int.reduceEq, Int.reduceBEq, Int.reduceBNe, Int.reduceLE, Int.reduceLT, Int.reduceAdd, Int.reduceSub, Int.reduceMul, Int.reduceNeg, Nat.reduceMul, Nat.reduceSub, Nat.reduceLeDiff, Nat.reduceLT, Nat.reduceEqDiff, Nat.reduceAdd, reduceCtorEq, ↓reduceIte, reduceIte, hg]
      · exact trivial
    simp only [icQuorLeastW, go_sem, goD_calls, eq_self, implies_true, Int.reduceEq, Int.reduceBEq, Int.reduceBNe, Int.reduceLE, Int.reduceLT, Int.reduceAdd, Int.reduceSub, Int.reduceMul, Int.reduceNeg, Nat.reduceMul, Nat.reduceSub, Nat.reduceLeDiff, Nat.reduceLT, Nat.reduceEqDiff, Nat.reduceAdd, reduceCtorEq, ↓reduceIte, reduceIte, spL6first, spQLight]
    cases e1 : lightL l.l with
    | false =>
      simp only [go_sem, goD_calls, eq_self, implies_true, Int.reduceEq, Int.reduceBEq, Int.reduceBNe, Int.reduceLE, Int.reduceLT, Int.reduceAdd, Int.reduceSub, Int.reduceMul, Int.reduceNeg, Nat.reduceMul, Nat.reduceSub, Nat.reduceLeDiff, Nat.reduceLT, Nat.reduceEqDiff, Nat.reduceAdd, reduceCtorEq, ↓reduceIte, reduceIte, e1, spQLight]
      exact ret _ _ (by ((try simp only []); repeat first | exact HLe.refl _ | refine HLe.cons (by simp only [hget, Nat.reduceEqDiff, Nat.left_eq_add, Nat.add_eq_left, nm_ne2, nm_en2, nm_ne3, nm_en3, nm_ne4, nm_en4, nm_ne5, nm_en5, reduceIte, ↓reduceIte] <;> first | rfl | ((repeat rw [if_neg (by omega)]) <;> rfl)) ?_ | refine HLe.skip hnm (by omega) ?_ | refine HLe.frz hnm (by omega) ?_ | refine HLe.del hnm (by omega) ?_)) (by simp only [hget, go_sem, goD_calls, eq_self, implies_true, Int.reduceEq, Int.reduceBEq, Int.reduceBNe, Int.reduceLE, Int.reduceLT, Int.reduceAdd, Int.reduceSub, Int.reduceMul, Int.reduceNeg, Nat.reduceMul, Nat.reduceSub, Nat.reduceLeDiff, Nat.reduceLT, Nat.reduceEqDiff, Nat.reduceAdd, reduceCtorEq, ↓reduceIte, reduceIte])
    | true =>
    obtain ⟨X, hX⟩ : ∃ X, lastQ (madeL l.l) = X := ⟨_, rfl⟩
    have oX : okQ X := hX ▸ lastQ_ok _
    simp only [go_sem, goD_calls, eq_self, implies_true, Int.reduceEq, Int.reduceBEq, Int.reduceBNe, Int.reduceLE, Int.reduceLT, Int.reduceAdd, Int.reduceSub, Int.reduceMul, Int.reduceNeg, Nat.reduceMul, Nat.reduceSub, Nat.reduceLeDiff, Nat.reduceLT, Nat.reduceEqDiff, Nat.reduceAdd, reduceCtorEq, ↓reduceIte, reduceIte, e1, spQLight, spQMade, hX]
    refine ⟨light_len e1, light_20 e1, fun r hr => ?_⟩
    obtain ⟨pa, la, na, hPa, hr⟩ := hr
    have aX := ref_all oX
    have hitX := leastQ_it oX hPa
    have el := leastQ_ref oX
    have wl16 := leastQ_len X oX
    obtain ⟨WL, hWL⟩ : ∃ w, leastQ X = w := ⟨_, rfl⟩
    rw [hWL] at hitX el wl16
    have el2 : leastL (fun s => hasP (amI s) (refQ X)) (riseL (allL (refQ X))) = WL.map D.list := el
    rcases hr with rfl | ⟨rfl, rfl⟩
    · skip
      by_cases h9 : 9 < (riseL (allL (refQ X))).length
      · have c1 : decide (9 < ((riseL (allL (refQ X))).length : Int)) = true := decide_eq_true (by omega)
        simp only [go_sem, goD_calls, eq_self, implies_true, Int.reduceEq, Int.reduceBEq, Int.reduceBNe, Int.reduceLE, Int.reduceLT, Int.reduceAdd, Int.reduceSub, Int.reduceMul, Int.reduceNeg, Nat.reduceMul, Nat.reduceSub, Nat.reduceLeDiff, Nat.reduceLT, Nat.reduceEqDiff, Nat.reduceAdd, reduceCtorEq, ↓reduceIte, reduceIte, setOf, setA, refV, spR6Nodes, aX, c1]
        exact ret _ _ (by ((try simp only []); repeat first | exact HLe.refl _ | refine HLe.cons (by simp only [hget, Nat.reduceEqDiff, Nat.left_eq_add, Nat.add_eq_left, nm_ne2, nm_en2, nm_ne3, nm_en3, nm_ne4, nm_en4, nm_ne5, nm_en5, reduceIte, ↓reduceIte] <;> first | rfl | ((repeat rw [if_neg (by omega)]) <;> rfl)) ?_ | refine HLe.skip hnm (by omega) ?_ | refine HLe.frz hnm (by omega) ?_ | refine HLe.del hnm (by omega) ?_)) (by simp only [hget, go_sem, goD_calls, eq_self, implies_true, Int.reduceEq, Int.reduceBEq, Int.reduceBNe, Int.reduceLE, Int.reduceLT, Int.reduceAdd, Int.reduceSub, Int.reduceMul, Int.reduceNeg, Nat.reduceMul, Nat.reduceSub, Nat.reduceLeDiff, Nat.reduceLT, Nat.reduceEqDiff, Nat.reduceAdd, reduceCtorEq, ↓reduceIte, reduceIte])
      have c1 : decide (9 < ((riseL (allL (refQ X))).length : Int)) = false := decide_eq_false (by omega)
      have rX := ref_ok oX (by omega)
      have r1 := eq_true rX.1
      have r2 := eq_true rX.2.1
      have r3 := eq_true rX.2.2.1
      have r4 := eq_true rX.2.2.2.1
      have r5 := eq_true rX.2.2.2.2
      have hw512 : WL.length ≤ 512 := by
        have := leastUp_len (hasL (refQ X)) (riseL (allL (refQ X))) (2 ^ (riseL (allL (refQ X))).length)
        have h3 : (2 : Nat) ^ (riseL (allL (refQ X))).length ≤ 2 ^ 9 := Nat.pow_le_pow_right (by omega) (by omega)
        have h4 : (leastL (hasL (refQ X)) (riseL (allL (refQ X)))).length = WL.length := by rw [el, List.length_map]
        unfold leastL at h4
        omega
      have hil : (WL.map itemI).length = WL.length := List.length_map _
      simp only [go_sem, goD_calls, eq_self, implies_true, Int.reduceEq, Int.reduceBEq, Int.reduceBNe, Int.reduceLE, Int.reduceLT, Int.reduceAdd, Int.reduceSub, Int.reduceMul, Int.reduceNeg, Nat.reduceMul, Nat.reduceSub, Nat.reduceLeDiff, Nat.reduceLT, Nat.reduceEqDiff, Nat.reduceAdd, reduceCtorEq, ↓reduceIte, reduceIte, setOf, setA, refV, spR6Nodes, spR6Least, spQLeast, aX, c1, r1, r2, r3, r4, r5, el2]
      refine go_rng _ _ _ [(44, .clo 33 [.elt setY (.node [pa, .list la, .int na])]), (1, .int .i64 at0), (6, .ptr (nx + 1) 0), (9, .ptr (nx + 2) 0), (4, .ptr nx 0), (10, .ptr (nx + 3) 0)] 33 [.elt setY (.node [pa, .list la, .int na])] (WL.map itemI) (α := Nat) (fun j => ((nx, .cells [.bool false]) :: (nx + 1, .cells [.dat (.ptr 65) pa, .dat (.slice 3) (.list la), .int .i64 na]) :: (nx + 2, .cells [.dat (.slice 24) (.list (WL.map D.list))]) :: (nx + 3, .cells [.int .i64 j]) :: h, nx + 4)) (fun j => j) 0 (nx + 4) (by omega) (by simp only []; omega) ?_ rfl ?_ rfl hitX ?_ (fun j Qa R hj hQa hR hret hext => ?_) (fun j hj => ?_)
      · refine FrLt.all ?_
        (simp only [frLt_cons, frLt_nil, and_true, SV.lt, SV.ltL, true_and] <;> omega)
      · refine leq_news [(nx, nx), (nx + 1, (nx + 1 + 64 + 64 + 64)), (nx + 2, (nx + 1 + 64 + 64 + 64 + 1 + 1 + 64 + 64)), (nx + 3, (nx + 1 + 64 + 64 + 64 + 1 + 1 + 64 + 64 + 1))] [(nx, .cells [.bool false]), (nx + 1, .cells [.dat (.ptr 65) pa, .dat (.slice 3) (.list la), .int .i64 na]), (nx + 2, .cells [.dat (.slice 24) (.list (WL.map D.list))]), (nx + 3, .cells [.int .i64 0])] (.refl _) (by simp) (by simp <;> omega) (by simp <;> omega) rfl ?_ ?_ ?_ ?_ hnm ?_ ?_
        · simp [frIn_cons, frIn_nil, fget_cons, fget_nil, SV.ren, SV.renL, rens]
        · (simp only [frLt_cons, frLt_nil, and_true, SV.lt, SV.ltL, true_and] <;> omega)
        · (simp only [List.mem_cons, List.not_mem_nil, or_false, forall_eq_or_imp, forall_eq]; simp [hget, rens, Tok.ren, SV.ren, SV.renL])
          all_goals try (repeat rw [if_neg (by omega)])
          all_goals try (refine ⟨?_, ?_, ?_⟩ <;> first | omega | (repeat rw [if_neg (by omega)]))
          all_goals try (refine ⟨?_, ?_⟩ <;> first | omega | (repeat rw [if_neg (by omega)]))
        · (simp only [List.mem_cons, List.not_mem_nil, or_false, forall_eq_or_imp, forall_eq, Tok.lt, SV.lt, SV.ltL, and_true, true_and] <;> omega)
        · ((try simp only []); repeat first | exact HLe.refl _ | refine HLe.cons (by simp only [hget, Nat.reduceEqDiff, Nat.left_eq_add, Nat.add_eq_left, nm_ne2, nm_en2, nm_ne3, nm_en3, nm_ne4, nm_en4, nm_ne5, nm_en5, reduceIte, ↓reduceIte] <;> first | rfl | ((repeat rw [if_neg (by omega)]) <;> rfl)) ?_ | refine HLe.skip hnm (by omega) ?_ | refine HLe.frz hnm (by omega) ?_ | refine HLe.del hnm (by omega) ?_)
        · omega
      · intro it hit
        obtain ⟨d, _, rfl⟩ := List.mem_map.1 hit
        rfl
      · rw [hil] at hj
        have ek : (WL.map itemI).getD j ([], []) = itemI WL[j] := by
          rw [List.getD_eq_getElem?_getD, List.getElem?_map, List.getElem?_eq_getElem hj]; rfl
        have ew : (WL.map D.list).getD j .nil = .list WL[j] := by
          rw [List.getD_eq_getElem?_getD, List.getElem?_map, List.getElem?_eq_getElem hj]; rfl
        have hL16 := wl16 WL[j] (List.getElem_mem hj)
        rw [ek]
        generalize WL[j] = L at ew hL16 ⊢
        have c2 : decide ((WL.length : Int) ≤ (j : Int)) = false := decide_eq_false (by omega)
        simp only [go_sem, goD_calls, eq_self, implies_true, Int.reduceEq, Int.reduceBEq, Int.reduceBNe, Int.reduceLE, Int.reduceLT, Int.reduceAdd, Int.reduceSub, Int.reduceMul, Int.reduceNeg, Nat.reduceMul, Nat.reduceSub, Nat.reduceLeDiff, Nat.reduceLT, Nat.reduceEqDiff, Nat.reduceAdd, reduceCtorEq, ↓reduceIte, reduceIte, itemI, zipF_cons, zipF_nil, shH_nil, shH_cons, SV.renL, SV.ren, Tok.ren, shN_def]
        refine hQa _ ?_
        simp only [go_sem, goD_calls, eq_self, implies_true, Int.reduceEq, Int.reduceBEq, Int.reduceBNe, Int.reduceLE, Int.reduceLT, Int.reduceAdd, Int.reduceSub, Int.reduceMul, Int.reduceNeg, Nat.reduceMul, Nat.reduceSub, Nat.reduceLeDiff, Nat.reduceLT, Nat.reduceEqDiff, Nat.reduceAdd, reduceCtorEq, ↓reduceIte, reduceIte, List.length_map, c2, ew, spSameIntsV, Int.toNat_natCast]
        refine ⟨⟨by omega, by omega⟩, L, rfl, rfl, by omega, ?_⟩
        refine go_loop (α := { p : Nat × List D // p.1 ≤ L.length ∧ p.2.length = L.length }) (I := fun p => { f := [(12, .int .i64 p.1.1), (11, .vec (nx + 4)), (10, .ptr (nx + 3) 0)], h := (nx + 4, .arr 3 (.int .i64) p.1.2) :: (nx, .cells [.bool false]) :: (nx + 1, .cells [.dat (.ptr 65) pa, .dat (.slice 3) (.list la), .int .i64 na]) :: (nx + 2, .cells [.dat (.slice 24) (.list (WL.map D.list))]) :: (nx + 3, .cells [.int .i64 j]) :: h, nx := nx + 5 }) (μ := fun p => L.length - p.1.1) _ _ _ ⟨(0, L), by omega, rfl⟩ ?_ (fun p B hB => ?_)
        · refine leq_id (by simp only [frEq_cons, frEq_nil, frIn_cons, frIn_nil, and_true, fget_cons, Nat.reduceEqDiff, reduceIte, ↓reduceIte, true_and, SV.ren, SV.renL, ren1] <;> (try rfl) <;> (try simp)) (by (simp only [frLt_cons, frLt_nil, and_true, SV.lt, SV.ltL, true_and] <;> omega)) (by ((try simp only []); repeat first | exact HLe.refl _ | refine HLe.cons (by simp only [hget, Nat.reduceEqDiff, Nat.left_eq_add, Nat.add_eq_left, nm_ne2, nm_en2, nm_ne3, nm_en3, nm_ne4, nm_en4, nm_ne5, nm_en5, reduceIte, ↓reduceIte] <;> first | rfl | ((repeat rw [if_neg (by omega)]) <;> rfl)) ?_ | refine HLe.skip hnm (by omega) ?_ | refine HLe.frz hnm (by omega) ?_ | refine HLe.del hnm (by omega) ?_)) (by (repeat first | exact HLt.mono hnm (by simp only [] <;> omega) | refine HLt.cons (by simp only [] <;> omega) (by simp only [Tok.lt, SV.ltL, SV.lt, and_true, true_and] <;> omega) ?_)) (by simp only [] <;> omega)
        obtain ⟨⟨k, L'⟩, hk, hkl⟩ := p
        simp only at hB hk hkl
        by_cases hkL : k < L.length
        · have c3 : decide ((k : Int) < (L.length : Int)) = true := decide_eq_true (by omega)
          simp only [go_sem, goD_calls, eq_self, implies_true, Int.reduceEq, Int.reduceBEq, Int.reduceBNe, Int.reduceLE, Int.reduceLT, Int.reduceAdd, Int.reduceSub, Int.reduceMul, Int.reduceNeg, Nat.reduceMul, Nat.reduceSub, Nat.reduceLeDiff, Nat.reduceLT, Nat.reduceEqDiff, Nat.reduceAdd, reduceCtorEq, ↓reduceIte, reduceIte, hkl, c3, Int.toNat_natCast, min_i64, max_i64]
          refine ⟨⟨by omega, by omega⟩, ⟨by omega, by omega⟩, ⟨by omega, by omega⟩, ?_⟩
          refine hB _ ⟨(k + 1, L'.set k (.int (-1))), by omega, by rw [List.length_set]; exact hkl⟩ (by simp only []; omega) ?_
          refine leq_id (by simp only [frEq_cons, frEq_nil, frIn_cons, frIn_nil, and_true, fget_cons, Nat.reduceEqDiff, reduceIte, ↓reduceIte, true_and, SV.ren, SV.renL, ren1] <;> (try rfl) <;> (try simp)) (by (simp only [frLt_cons, frLt_nil, and_true, SV.lt, SV.ltL, true_and] <;> omega)) (by ((try simp only []); repeat first | exact HLe.refl _ | refine HLe.cons (by simp only [hget, Nat.reduceEqDiff, Nat.left_eq_add, Nat.add_eq_left, nm_ne2, nm_en2, nm_ne3, nm_en3, nm_ne4, nm_en4, nm_ne5, nm_en5, reduceIte, ↓reduceIte] <;> first | rfl | ((repeat rw [if_neg (by omega)]) <;> rfl)) ?_ | refine HLe.skip hnm (by omega) ?_ | refine HLe.frz hnm (by omega) ?_ | refine HLe.del hnm (by omega) ?_)) (by (repeat first | exact HLt.mono hnm (by simp only [] <;> omega) | refine HLt.cons (by simp only [] <;> omega) (by simp only [Tok.lt, SV.ltL, SV.lt, and_true, true_and] <;> omega) ?_)) (by simp only [] <;> omega)
        have c3 : decide ((k : Int) < (L.length : Int)) = false := decide_eq_false (by omega)
        simp only [go_sem, goD_calls, eq_self, implies_true, Int.reduceEq, Int.reduceBEq, Int.reduceBNe, Int.reduceLE, Int.reduceLT, Int.reduceAdd, Int.reduceSub, Int.reduceMul, Int.reduceNeg, Nat.reduceMul, Nat.reduceSub, Nat.reduceLeDiff, Nat.reduceLT, Nat.reduceEqDiff, Nat.reduceAdd, reduceCtorEq, ↓reduceIte, reduceIte, hkl, c3, min_i64, max_i64]
        refine ⟨⟨by omega, by omega⟩, ?_⟩
        refine hR _ (j + 1) rfl ?_
        refine leq_id trivial trivial (by ((try simp only []); repeat first | exact HLe.refl _ | refine HLe.cons (by simp only [hget, Nat.reduceEqDiff, Nat.left_eq_add, Nat.add_eq_left, nm_ne2, nm_en2, nm_ne3, nm_en3, nm_ne4, nm_en4, nm_ne5, nm_en5, reduceIte, ↓reduceIte] <;> first | rfl | ((repeat rw [if_neg (by omega)]) <;> rfl)) ?_ | refine HLe.skip hnm (by omega) ?_ | refine HLe.frz hnm (by omega) ?_ | refine HLe.del hnm (by omega) ?_)) (by (repeat first | exact HLt.mono hnm (by simp only [] <;> omega) | refine HLt.cons (by simp only [] <;> omega) (by simp only [Tok.lt, SV.ltL, SV.lt, and_true, true_and] <;> omega) ?_)) (by simp only [] <;> omega)
      · rw [hil] at hj
        subst hj
        have c4 : ((WL.length : Int) != (WL.length : Int)) = false := by rw [bne_eq_false_iff_eq]
        by_cases hz : WL.length = 0
        · have c5 : ((WL.length : Int) == 0) = true := by rw [hz]; rfl
          simp only [go_sem, goD_calls, eq_self, implies_true, Int.reduceEq, Int.reduceBEq, Int.reduceBNe, Int.reduceLE, Int.reduceLT, Int.reduceAdd, Int.reduceSub, Int.reduceMul, Int.reduceNeg, Nat.reduceMul, Nat.reduceSub, Nat.reduceLeDiff, Nat.reduceLT, Nat.reduceEqDiff, Nat.reduceAdd, reduceCtorEq, ↓reduceIte, reduceIte, List.length_map, c4, c5]
          exact ret _ _ (by ((try simp only []); repeat first | exact HLe.refl _ | refine HLe.cons (by simp only [hget, Nat.reduceEqDiff, Nat.left_eq_add, Nat.add_eq_left, nm_ne2, nm_en2, nm_ne3, nm_en3, nm_ne4, nm_en4, nm_ne5, nm_en5, reduceIte, ↓reduceIte] <;> first | rfl | ((repeat rw [if_neg (by omega)]) <;> rfl)) ?_ | refine HLe.skip hnm (by omega) ?_ | refine HLe.frz hnm (by omega) ?_ | refine HLe.del hnm (by omega) ?_)) (by simp only [hget, go_sem, goD_calls, eq_self, implies_true, Int.reduceEq, Int.reduceBEq, Int.reduceBNe, Int.reduceLE, Int.reduceLT, Int.reduceAdd, Int.reduceSub, Int.reduceMul, Int.reduceNeg, Nat.reduceMul, Nat.reduceSub, Nat.reduceLeDiff, Nat.reduceLT, Nat.reduceEqDiff, Nat.reduceAdd, reduceCtorEq, ↓reduceIte, reduceIte])
        have c5 : ((WL.length : Int) == 0) = false := beq_eq_false_iff_ne.2 (by omega)
        have gp : (0 : Int) < (WL.length : Int) := by omega
        obtain ⟨kk, hkk⟩ : ∃ k, at0 % (WL.length : Int) = k := ⟨_, rfl⟩
        have kr : 0 ≤ kk ∧ kk < WL.length := by rw [← hkk]; exact ⟨Int.emod_nonneg _ (by omega), Int.emod_lt_of_pos _ gp⟩
        simp only [go_sem, goD_calls, eq_self, implies_true, Int.reduceEq, Int.reduceBEq, Int.reduceBNe, Int.reduceLE, Int.reduceLT, Int.reduceAdd, Int.reduceSub, Int.reduceMul, Int.reduceNeg, Nat.reduceMul, Nat.reduceSub, Nat.reduceLeDiff, Nat.reduceLT, Nat.reduceEqDiff, Nat.reduceAdd, reduceCtorEq, ↓reduceIte, reduceIte, List.length_map, c4, c5, spNumber, gp, hkk, spQLeast]
        refine go_rng _ _ _ [(80, .clo 33 [.elt setY (.node [pa, .list la, .int na])]), (4, .ptr nx 0), (13, .ptr (nx + 1) 0), (14, .ptr (nx + 2) 0)] 33 [.elt setY (.node [pa, .list la, .int na])] (WL.map itemI) (α := { j : Nat // (j : Int) ≤ kk }) (fun j => ((nx, .cells [.bool false]) :: (nx + 1, .cells [.int .i64 kk]) :: (nx + 2, .cells [.int .i64 (j.1 : Nat)]) :: h, nx + 3)) (fun j => j.1) ⟨0, by omega⟩ (nx + 3) (by omega) (by simp only []; omega) ?_ rfl ?_ rfl hitX ?_ (fun j Qa R hj hQa hR hret hext => ?_) (fun j hj => ?_)
        · refine FrLt.all ?_
          (simp only [frLt_cons, frLt_nil, and_true, SV.lt, SV.ltL, true_and] <;> omega)
        · refine leq_news [(nx, nx), (nx + 1, nx + 4 + 64), (nx + 2, nx + 4 + 64 + 1)] [(nx, .cells [.bool false]), (nx + 1, .cells [.int .i64 kk]), (nx + 2, .cells [.int .i64 0])] (.refl _) (by simp) (by simp <;> omega) (by simp <;> omega) rfl ?_ ?_ ?_ ?_ hnm ?_ ?_
          · simp [frIn_cons, frIn_nil, fget_cons, fget_nil, SV.ren, SV.renL, rens]
          · (simp only [frLt_cons, frLt_nil, and_true, SV.lt, SV.ltL, true_and] <;> omega)
          · (simp only [List.mem_cons, List.not_mem_nil, or_false, forall_eq_or_imp, forall_eq]; simp [hget, rens, Tok.ren, SV.ren, SV.renL])
            all_goals try (repeat rw [if_neg (by omega)])
            all_goals try (refine ⟨?_, ?_⟩ <;> first | omega | (repeat rw [if_neg (by omega)]))
          · (simp only [List.mem_cons, List.not_mem_nil, or_false, forall_eq_or_imp, forall_eq, Tok.lt, SV.lt, SV.ltL, and_true, true_and] <;> omega)
          · ((try simp only []); repeat first | exact HLe.refl _ | refine HLe.cons (by simp only [hget, Nat.reduceEqDiff, Nat.left_eq_add, Nat.add_eq_left, nm_ne2, nm_en2, nm_ne3, nm_en3, nm_ne4, nm_en4, nm_ne5, nm_en5, reduceIte, ↓reduceIte] <;> first | rfl | ((repeat rw [if_neg (by omega)]) <;> rfl)) ?_ | refine HLe.skip hnm (by omega) ?_ | refine HLe.frz hnm (by omega) ?_ | refine HLe.del hnm (by omega) ?_)
          · omega
        · intro it hit
          obtain ⟨d, _, rfl⟩ := List.mem_map.1 hit
          rfl
        · obtain ⟨j, hjk⟩ := j
          simp only at hj hR ⊢
          rw [hil] at hj
          have ek : (WL.map itemI).getD j ([], []) = itemI WL[j] := by
            rw [List.getD_eq_getElem?_getD, List.getElem?_map, List.getElem?_eq_getElem hj]; rfl
          rw [ek]
          generalize WL[j] = L
          simp only [go_sem, goD_calls, eq_self, implies_true, Int.reduceEq, Int.reduceBEq, Int.reduceBNe, Int.reduceLE, Int.reduceLT, Int.reduceAdd, Int.reduceSub, Int.reduceMul, Int.reduceNeg, Nat.reduceMul, Nat.reduceSub, Nat.reduceLeDiff, Nat.reduceLT, Nat.reduceEqDiff, Nat.reduceAdd, reduceCtorEq, ↓reduceIte, reduceIte, itemI, zipF_cons, zipF_nil, shH_nil, shH_cons, SV.renL, SV.ren, Tok.ren, shN_def]
          refine hQa _ ?_
          by_cases hjj : (j : Int) = kk
          · have c6 : ((j : Int) == kk) = true := beq_iff_eq.2 hjj
            simp only [go_sem, goD_calls, eq_self, implies_true, Int.reduceEq, Int.reduceBEq, Int.reduceBNe, Int.reduceLE, Int.reduceLT, Int.reduceAdd, Int.reduceSub, Int.reduceMul, Int.reduceNeg, Nat.reduceMul, Nat.reduceSub, Nat.reduceLeDiff, Nat.reduceLT, Nat.reduceEqDiff, Nat.reduceAdd, reduceCtorEq, ↓reduceIte, reduceIte, c6]
            refine hext 4 _ ?_
            simp only [go_sem, goD_calls, eq_self, implies_true, Int.reduceEq, Int.reduceBEq, Int.reduceBNe, Int.reduceLE, Int.reduceLT, Int.reduceAdd, Int.reduceSub, Int.reduceMul, Int.reduceNeg, Nat.reduceMul, Nat.reduceSub, Nat.reduceLeDiff, Nat.reduceLT, Nat.reduceEqDiff, Nat.reduceAdd, reduceCtorEq, ↓reduceIte, reduceIte, c6]
            exact ret _ _ (by ((try simp only []); repeat first | exact HLe.refl _ | refine HLe.cons (by simp only [hget, Nat.reduceEqDiff, Nat.left_eq_add, Nat.add_eq_left, nm_ne2, nm_en2, nm_ne3, nm_en3, nm_ne4, nm_en4, nm_ne5, nm_en5, reduceIte, ↓reduceIte] <;> first | rfl | ((repeat rw [if_neg (by omega)]) <;> rfl)) ?_ | refine HLe.skip hnm (by omega) ?_ | refine HLe.frz hnm (by omega) ?_ | refine HLe.del hnm (by omega) ?_)) (by simp only [hget, go_sem, goD_calls, eq_self, implies_true, Int.reduceEq, Int.reduceBEq, Int.reduceBNe, Int.reduceLE, Int.reduceLT, Int.reduceAdd, Int.reduceSub, Int.reduceMul, Int.reduceNeg, Nat.reduceMul, Nat.reduceSub, Nat.reduceLeDiff, Nat.reduceLT, Nat.reduceEqDiff, Nat.reduceAdd, reduceCtorEq, ↓reduceIte, reduceIte])
          · have c6 : ((j : Int) == kk) = false := beq_eq_false_iff_ne.2 hjj
            simp only [go_sem, goD_calls, eq_self, implies_true, Int.reduceEq, Int.reduceBEq, Int.reduceBNe, Int.reduceLE, Int.reduceLT, Int.reduceAdd, Int.reduceSub, Int.reduceMul, Int.reduceNeg, Nat.reduceMul, Nat.reduceSub, Nat.reduceLeDiff, Nat.reduceLT, Nat.reduceEqDiff, Nat.reduceAdd, reduceCtorEq, ↓reduceIte, reduceIte, c6, min_i64, max_i64]
            refine ⟨⟨by omega, by omega⟩, ?_⟩
            refine hR _ ⟨j + 1, by omega⟩ rfl ?_
            refine leq_id trivial trivial (by ((try simp only []); repeat first | exact HLe.refl _ | refine HLe.cons (by simp only [hget, Nat.reduceEqDiff, Nat.left_eq_add, Nat.add_eq_left, nm_ne2, nm_en2, nm_ne3, nm_en3, nm_ne4, nm_en4, nm_ne5, nm_en5, reduceIte, ↓reduceIte] <;> first | rfl | ((repeat rw [if_neg (by omega)]) <;> rfl)) ?_ | refine HLe.skip hnm (by omega) ?_ | refine HLe.frz hnm (by omega) ?_ | refine HLe.del hnm (by omega) ?_)) (by (repeat first | exact HLt.mono hnm (by simp only [] <;> omega) | refine HLt.cons (by simp only [] <;> omega) (by simp only [Tok.lt, SV.ltL, SV.lt, and_true, true_and] <;> omega) ?_)) (by simp only [] <;> omega)
        · obtain ⟨j, hjk⟩ := j
          simp only at hj
          rw [hil] at hj
          omega
    · skip
      by_cases h9 : 9 < (riseL (allL (refQ X))).length
      · have c1 : decide (9 < ((riseL (allL (refQ X))).length : Int)) = true := decide_eq_true (by omega)
        simp only [go_sem, goD_calls, eq_self, implies_true, Int.reduceEq, Int.reduceBEq, Int.reduceBNe, Int.reduceLE, Int.reduceLT, Int.reduceAdd, Int.reduceSub, Int.reduceMul, Int.reduceNeg, Nat.reduceMul, Nat.reduceSub, Nat.reduceLeDiff, Nat.reduceLT, Nat.reduceEqDiff, Nat.reduceAdd, reduceCtorEq, ↓reduceIte, reduceIte, setOf, setA, refV, spR6Nodes, aX, c1]
        exact ret _ _ (by ((try simp only []); repeat first | exact HLe.refl _ | refine HLe.cons (by simp only [hget, Nat.reduceEqDiff, Nat.left_eq_add, Nat.add_eq_left, nm_ne2, nm_en2, nm_ne3, nm_en3, nm_ne4, nm_en4, nm_ne5, nm_en5, reduceIte, ↓reduceIte] <;> first | rfl | ((repeat rw [if_neg (by omega)]) <;> rfl)) ?_ | refine HLe.skip hnm (by omega) ?_ | refine HLe.frz hnm (by omega) ?_ | refine HLe.del hnm (by omega) ?_)) (by simp only [hget, go_sem, goD_calls, eq_self, implies_true, Int.reduceEq, Int.reduceBEq, Int.reduceBNe, Int.reduceLE, Int.reduceLT, Int.reduceAdd, Int.reduceSub, Int.reduceMul, Int.reduceNeg, Nat.reduceMul, Nat.reduceSub, Nat.reduceLeDiff, Nat.reduceLT, Nat.reduceEqDiff, Nat.reduceAdd, reduceCtorEq, ↓reduceIte, reduceIte])
      have c1 : decide (9 < ((riseL (allL (refQ X))).length : Int)) = false := decide_eq_false (by omega)
      have rX := ref_ok oX (by omega)
      have r1 := eq_true rX.1
      have r2 := eq_true rX.2.1
      have r3 := eq_true rX.2.2.1
      have r4 := eq_true rX.2.2.2.1
      have r5 := eq_true rX.2.2.2.2
      have hw512 : WL.length ≤ 512 := by
        have := leastUp_len (hasL (refQ X)) (riseL (allL (refQ X))) (2 ^ (riseL (allL (refQ X))).length)
        have h3 : (2 : Nat) ^ (riseL (allL (refQ X))).length ≤ 2 ^ 9 := Nat.pow_le_pow_right (by omega) (by omega)
        have h4 : (leastL (hasL (refQ X)) (riseL (allL (refQ X)))).length = WL.length := by rw [el, List.length_map]
        unfold leastL at h4
        omega
      have hil : (WL.map itemI).length = WL.length := List.length_map _
      simp only [go_sem, goD_calls, eq_self, implies_true, Int.reduceEq, Int.reduceBEq, Int.reduceBNe, Int.reduceLE, Int.reduceLT, Int.reduceAdd, Int.reduceSub, Int.reduceMul, Int.reduceNeg, Nat.reduceMul, Nat.reduceSub, Nat.reduceLeDiff, Nat.reduceLT, Nat.reduceEqDiff, Nat.reduceAdd, reduceCtorEq, ↓reduceIte, reduceIte, setOf, setA, refV, spR6Nodes, spR6Least, spQLeast, aX, c1, r1, r2, r3, r4, r5, el2]
      refine go_rng _ _ _ [(44, .clo 33 [.elt setY (.node [pa, .list ([] : List D), .int na])]), (1, .int .i64 at0), (6, .ptr (nx + 1) 0), (9, .ptr (nx + 2) 0), (4, .ptr nx 0), (10, .ptr (nx + 3) 0)] 33 [.elt setY (.node [pa, .list ([] : List D), .int na])] (WL.map itemI) (α := Nat) (fun j => ((nx, .cells [.bool false]) :: (nx + 1, .cells [.dat (.ptr 65) pa, .dat (.slice 3) (.list ([] : List D)), .int .i64 na]) :: (nx + 2, .cells [.dat (.slice 24) (.list (WL.map D.list))]) :: (nx + 3, .cells [.int .i64 j]) :: h, nx + 4)) (fun j => j) 0 (nx + 4) (by omega) (by simp only []; omega) ?_ rfl ?_ rfl hitX ?_ (fun j Qa R hj hQa hR hret hext => ?_) (fun j hj => ?_)
      · refine FrLt.all ?_
        (simp only [frLt_cons, frLt_nil, and_true, SV.lt, SV.ltL, true_and] <;> omega)
      · skip
        have q0_6 : (nx = (nx + 1 + 64 + 64 + 64)) = False := eq_false (by omega)
        have q0_8 : (nx = (nx + 1 + 64 + 64 + 64 + 1)) = False := eq_false (by omega)
        have q0_9 : (nx = (nx + 1 + 64 + 64 + 64 + 1 + 1 + 64 + 64)) = False := eq_false (by omega)
        have q0_10 : (nx = (nx + 1 + 64 + 64 + 64 + 1 + 1 + 64 + 64 + 1)) = False := eq_false (by omega)
        have q0_N : (nx = (nx + 1 + 64 + 64 + 64 + 1 + 1 + 64 + 64 + 1 + 1 + 64)) = False := eq_false (by omega)
        have q6_0 : ((nx + 1 + 64 + 64 + 64) = nx) = False := eq_false (by omega)
        have q6_N : ((nx + 1 + 64 + 64 + 64) = (nx + 1 + 64 + 64 + 64 + 1 + 1 + 64 + 64 + 1 + 1 + 64)) = False := eq_false (by omega)
        have q8_0 : ((nx + 1 + 64 + 64 + 64 + 1) = nx) = False := eq_false (by omega)
        have q8_6 : ((nx + 1 + 64 + 64 + 64 + 1) = (nx + 1 + 64 + 64 + 64)) = False := eq_false (by omega)
        have q8_N : ((nx + 1 + 64 + 64 + 64 + 1) = (nx + 1 + 64 + 64 + 64 + 1 + 1 + 64 + 64 + 1 + 1 + 64)) = False := eq_false (by omega)
        have q9_0 : ((nx + 1 + 64 + 64 + 64 + 1 + 1 + 64 + 64) = nx) = False := eq_false (by omega)
        have q9_6 : ((nx + 1 + 64 + 64 + 64 + 1 + 1 + 64 + 64) = (nx + 1 + 64 + 64 + 64)) = False := eq_false (by omega)
        have q9_8 : ((nx + 1 + 64 + 64 + 64 + 1 + 1 + 64 + 64) = (nx + 1 + 64 + 64 + 64 + 1)) = False := eq_false (by omega)
        have q9_N : ((nx + 1 + 64 + 64 + 64 + 1 + 1 + 64 + 64) = (nx + 1 + 64 + 64 + 64 + 1 + 1 + 64 + 64 + 1 + 1 + 64)) = False := eq_false (by omega)
        have q10_0 : ((nx + 1 + 64 + 64 + 64 + 1 + 1 + 64 + 64 + 1) = nx) = False := eq_false (by omega)
        have q10_6 : ((nx + 1 + 64 + 64 + 64 + 1 + 1 + 64 + 64 + 1) = (nx + 1 + 64 + 64 + 64)) = False := eq_false (by omega)
        have q10_8 : ((nx + 1 + 64 + 64 + 64 + 1 + 1 + 64 + 64 + 1) = (nx + 1 + 64 + 64 + 64 + 1)) = False := eq_false (by omega)
        have q10_9 : ((nx + 1 + 64 + 64 + 64 + 1 + 1 + 64 + 64 + 1) = (nx + 1 + 64 + 64 + 64 + 1 + 1 + 64 + 64)) = False := eq_false (by omega)
        have q10_N : ((nx + 1 + 64 + 64 + 64 + 1 + 1 + 64 + 64 + 1) = (nx + 1 + 64 + 64 + 64 + 1 + 1 + 64 + 64 + 1 + 1 + 64)) = False := eq_false (by omega)
        refine leq_nil (.cell (nx + 1 + 64 + 64 + 64) 1 3 (.int .i64) (by simp only [hget, q10_6, q9_6, q8_6, if_true, if_false]; rfl) rfl rfl (.frz (nx + 1 + 64 + 64 + 64 + 1 + 1 + 64 + 64 + 1 + 1 + 64) (.refl _))) ?_
        simp only [go_sem, goD_calls, eq_self, implies_true, Int.reduceEq, Int.reduceBEq, Int.reduceBNe, Int.reduceLE, Int.reduceLT, Int.reduceAdd, Int.reduceSub, Int.reduceMul, Int.reduceNeg, Nat.reduceMul, Nat.reduceSub, Nat.reduceLeDiff, Nat.reduceLT, Nat.reduceEqDiff, Nat.reduceAdd, reduceCtorEq, ↓reduceIte, reduceIte, q0_6, q0_8, q0_9, q0_10, q0_N, q6_0, q6_N, q8_0, q8_6, q8_N, q9_0, q9_6, q9_8, q9_N, q10_0, q10_6, q10_8, q10_9, q10_N, if_false, if_true]
        refine leq_news [(nx, nx), (nx + 1, (nx + 1 + 64 + 64 + 64)), (nx + 2, (nx + 1 + 64 + 64 + 64 + 1 + 1 + 64 + 64)), (nx + 3, (nx + 1 + 64 + 64 + 64 + 1 + 1 + 64 + 64 + 1))] [(nx, .cells [.bool false]), (nx + 1, .cells [.dat (.ptr 65) pa, .dat (.slice 3) (.list ([] : List D)), .int .i64 na]), (nx + 2, .cells [.dat (.slice 24) (.list (WL.map D.list))]), (nx + 3, .cells [.int .i64 0])] (.refl _) (by simp) (by simp <;> omega) (by simp <;> omega) rfl ?_ ?_ ?_ ?_ hnm ?_ ?_
        · simp [frIn_cons, frIn_nil, fget_cons, fget_nil, SV.ren, SV.renL, rens]
        · (simp only [frLt_cons, frLt_nil, and_true, SV.lt, SV.ltL, true_and] <;> omega)
        · (simp only [List.mem_cons, List.not_mem_nil, or_false, forall_eq_or_imp, forall_eq]; simp [hget, rens, Tok.ren, SV.ren, SV.renL])
          all_goals try (repeat rw [if_neg (by omega)])
          all_goals try (refine ⟨?_, ?_, ?_⟩ <;> first | omega | (repeat rw [if_neg (by omega)]))
          all_goals try (refine ⟨?_, ?_⟩ <;> first | omega | (repeat rw [if_neg (by omega)]))
        · (simp only [List.mem_cons, List.not_mem_nil, or_false, forall_eq_or_imp, forall_eq, Tok.lt, SV.lt, SV.ltL, and_true, true_and] <;> omega)
        · ((try simp only []); repeat first | exact HLe.refl _ | refine HLe.cons (by simp only [hget, Nat.reduceEqDiff, Nat.left_eq_add, Nat.add_eq_left, nm_ne2, nm_en2, nm_ne3, nm_en3, nm_ne4, nm_en4, nm_ne5, nm_en5, reduceIte, ↓reduceIte] <;> first | rfl | ((repeat rw [if_neg (by omega)]) <;> rfl)) ?_ | refine HLe.skip hnm (by omega) ?_ | refine HLe.frz hnm (by omega) ?_ | refine HLe.del hnm (by omega) ?_)
        · omega
      · intro it hit
        obtain ⟨d, _, rfl⟩ := List.mem_map.1 hit
        rfl
      · rw [hil] at hj
        have ek : (WL.map itemI).getD j ([], []) = itemI WL[j] := by
          rw [List.getD_eq_getElem?_getD, List.getElem?_map, List.getElem?_eq_getElem hj]; rfl
        have ew : (WL.map D.list).getD j .nil = .list WL[j] := by
          rw [List.getD_eq_getElem?_getD, List.getElem?_map, List.getElem?_eq_getElem hj]; rfl
        have hL16 := wl16 WL[j] (List.getElem_mem hj)
        rw [ek]
        generalize WL[j] = L at ew hL16 ⊢
        have c2 : decide ((WL.length : Int) ≤ (j : Int)) = false := decide_eq_false (by omega)
        simp only [go_sem, goD_calls, eq_self, implies_true, Int.reduceEq, Int.reduceBEq, Int.reduceBNe, Int.reduceLE, Int.reduceLT, Int.reduceAdd, Int.reduceSub, Int.reduceMul, Int.reduceNeg, Nat.reduceMul, Nat.reduceSub, Nat.reduceLeDiff, Nat.reduceLT, Nat.reduceEqDiff, Nat.reduceAdd, reduceCtorEq, ↓reduceIte, reduceIte, itemI, zipF_cons, zipF_nil, shH_nil, shH_cons, SV.renL, SV.ren, Tok.ren, shN_def]
        refine hQa _ ?_
        simp only [go_sem, goD_calls, eq_self, implies_true, Int.reduceEq, Int.reduceBEq, Int.reduceBNe, Int.reduceLE, Int.reduceLT, Int.reduceAdd, Int.reduceSub, Int.reduceMul, Int.reduceNeg, Nat.reduceMul, Nat.reduceSub, Nat.reduceLeDiff, Nat.reduceLT, Nat.reduceEqDiff, Nat.reduceAdd, reduceCtorEq, ↓reduceIte, reduceIte, List.length_map, c2, ew, spSameIntsV, Int.toNat_natCast]
        refine ⟨⟨by omega, by omega⟩, L, rfl, rfl, by omega, ?_⟩
        refine go_loop (α := { p : Nat × List D // p.1 ≤ L.length ∧ p.2.length = L.length }) (I := fun p => { f := [(12, .int .i64 p.1.1), (11, .vec (nx + 4)), (10, .ptr (nx + 3) 0)], h := (nx + 4, .arr 3 (.int .i64) p.1.2) :: (nx, .cells [.bool false]) :: (nx + 1, .cells [.dat (.ptr 65) pa, .dat (.slice 3) (.list ([] : List D)), .int .i64 na]) :: (nx + 2, .cells [.dat (.slice 24) (.list (WL.map D.list))]) :: (nx + 3, .cells [.int .i64 j]) :: h, nx := nx + 5 }) (μ := fun p => L.length - p.1.1) _ _ _ ⟨(0, L), by omega, rfl⟩ ?_ (fun p B hB => ?_)
        · refine leq_id (by simp only [frEq_cons, frEq_nil, frIn_cons, frIn_nil, and_true, fget_cons, Nat.reduceEqDiff, reduceIte, ↓reduceIte, true_and, SV.ren, SV.renL, ren1] <;> (try rfl) <;> (try simp)) (by (simp only [frLt_cons, frLt_nil, and_true, SV.lt, SV.ltL, true_and] <;> omega)) (by ((try simp only []); repeat first | exact HLe.refl _ | refine HLe.cons (by simp only [hget, Nat.reduceEqDiff, Nat.left_eq_add, Nat.add_eq_left, nm_ne2, nm_en2, nm_ne3, nm_en3, nm_ne4, nm_en4, nm_ne5, nm_en5, reduceIte, ↓reduceIte] <;> first | rfl | ((repeat rw [if_neg (by omega)]) <;> rfl)) ?_ | refine HLe.skip hnm (by omega) ?_ | refine HLe.frz hnm (by omega) ?_ | refine HLe.del hnm (by omega) ?_)) (by (repeat first | exact HLt.mono hnm (by simp only [] <;> omega) | refine HLt.cons (by simp only [] <;> omega) (by simp only [Tok.lt, SV.ltL, SV.lt, and_true, true_and] <;> omega) ?_)) (by simp only [] <;> omega)
        obtain ⟨⟨k, L'⟩, hk, hkl⟩ := p
        simp only at hB hk hkl
        by_cases hkL : k < L.length
        · have c3 : decide ((k : Int) < (L.length : Int)) = true := decide_eq_true (by omega)
          simp only [go_sem, goD_calls, eq_self, implies_true, Int.reduceEq, Int.reduceBEq, Int.reduceBNe, Int.reduceLE, Int.reduceLT, Int.reduceAdd, Int.reduceSub, Int.reduceMul, Int.reduceNeg, Nat.reduceMul, Nat.reduceSub, Nat.reduceLeDiff, Nat.reduceLT, Nat.reduceEqDiff, Nat.reduceAdd, reduceCtorEq, ↓reduceIte, reduceIte, hkl, c3, Int.toNat_natCast, min_i64, max_i64]
          refine ⟨⟨by omega, by omega⟩, ⟨by omega, by omega⟩, ⟨by omega, by omega⟩, ?_⟩
          refine hB _ ⟨(k + 1, L'.set k (.int (-1))), by omega, by rw [List.length_set]; exact hkl⟩ (by simp only []; omega) ?_
          refine leq_id (by simp only [frEq_cons, frEq_nil, frIn_cons, frIn_nil, and_true, fget_cons, Nat.reduceEqDiff, reduceIte, ↓reduceIte, true_and, SV.ren, SV.renL, ren1] <;> (try rfl) <;> (try simp)) (by (simp only [frLt_cons, frLt_nil, and_true, SV.lt, SV.ltL, true_and] <;> omega)) (by ((try simp only []); repeat first | exact HLe.refl _ | refine HLe.cons (by simp only [hget, Nat.reduceEqDiff, Nat.left_eq_add, Nat.add_eq_left, nm_ne2, nm_en2, nm_ne3, nm_en3, nm_ne4, nm_en4, nm_ne5, nm_en5, reduceIte, ↓reduceIte] <;> first | rfl | ((repeat rw [if_neg (by omega)]) <;> rfl)) ?_ | refine HLe.skip hnm (by omega) ?_ | refine HLe.frz hnm (by omega) ?_ | refine HLe.del hnm (by omega) ?_)) (by (repeat first | exact HLt.mono hnm (by simp only [] <;> omega) | refine HLt.cons (by simp only [] <;> omega) (by simp only [Tok.lt, SV.ltL, SV.lt, and_true, true_and] <;> omega) ?_)) (by simp only [] <;> omega)
        have c3 : decide ((k : Int) < (L.length : Int)) = false := decide_eq_false (by omega)
        simp only [go_sem, goD_calls, eq_self, implies_true, Int.reduceEq, Int.reduceBEq, Int.reduceBNe, Int.reduceLE, Int.reduceLT, Int.reduceAdd, Int.reduceSub, Int.reduceMul, Int.reduceNeg, Nat.reduceMul, Nat.reduceSub, Nat.reduceLeDiff, Nat.reduceLT, Nat.reduceEqDiff, Nat.reduceAdd, reduceCtorEq, ↓reduceIte, reduceIte, hkl, c3, min_i64, max_i64]
        refine ⟨⟨by omega, by omega⟩, ?_⟩
        refine hR _ (j + 1) rfl ?_
        refine leq_id trivial trivial (by ((try simp only []); repeat first | exact HLe.refl _ | refine HLe.cons (by simp only [hget, Nat.reduceEqDiff, Nat.left_eq_add, Nat.add_eq_left, nm_ne2, nm_en2, nm_ne3, nm_en3, nm_ne4, nm_en4, nm_ne5, nm_en5, reduceIte, ↓reduceIte] <;> first | rfl | ((repeat rw [if_neg (by omega)]) <;> rfl)) ?_ | refine HLe.skip hnm (by omega) ?_ | refine HLe.frz hnm (by omega) ?_ | refine HLe.del hnm (by omega) ?_)) (by (repeat first | exact HLt.mono hnm (by simp only [] <;> omega) | refine HLt.cons (by simp only [] <;> omega) (by simp only [Tok.lt, SV.ltL, SV.lt, and_true, true_and] <;> omega) ?_)) (by simp only [] <;> omega)
      · rw [hil] at hj
        subst hj
        have c4 : ((WL.length : Int) != (WL.length : Int)) = false := by rw [bne_eq_false_iff_eq]
        by_cases hz : WL.length = 0
        · have c5 : ((WL.length : Int) == 0) = true := by rw [hz]; rfl
          simp only [go_sem, goD_calls, eq_self, implies_true, Int.reduceEq, Int.reduceBEq, Int.reduceBNe, Int.reduceLE, Int.reduceLT, Int.reduceAdd, Int.reduceSub, Int.reduceMul, Int.reduceNeg, Nat.reduceMul, Nat.reduceSub, Nat.reduceLeDiff, Nat.reduceLT, Nat.reduceEqDiff, Nat.reduceAdd, reduceCtorEq, ↓reduceIte, reduceIte, List.length_map, c4, c5]
          exact ret _ _ (by ((try simp only []); repeat first | exact HLe.refl _ | refine HLe.cons (by simp only [hget, Nat.reduceEqDiff, Nat.left_eq_add, Nat.add_eq_left, nm_ne2, nm_en2, nm_ne3, nm_en3, nm_ne4, nm_en4, nm_ne5, nm_en5, reduceIte, ↓reduceIte] <;> first | rfl | ((repeat rw [if_neg (by omega)]) <;> rfl)) ?_ | refine HLe.skip hnm (by omega) ?_ | refine HLe.frz hnm (by omega) ?_ | refine HLe.del hnm (by omega) ?_)) (by simp only [hget, go_sem, goD_calls, eq_self, implies_true, Int.reduceEq, Int.reduceBEq, Int.reduceBNe, Int.reduceLE, Int.reduceLT, Int.reduceAdd, Int.reduceSub, Int.reduceMul, Int.reduceNeg, Nat.reduceMul, Nat.reduceSub, Nat.reduceLeDiff, Nat.reduceLT, Nat.reduceEqDiff, Nat.reduceAdd, reduceCtorEq, ↓reduceIte, reduceIte])
        have c5 : ((WL.length : Int) == 0) = false := beq_eq_false_iff_ne.2 (by omega)
        have gp : (0 : Int) < (WL.length : Int) := by omega
        obtain ⟨kk, hkk⟩ : ∃ k, at0 % (WL.length : Int) = k := ⟨_, rfl⟩
        have kr : 0 ≤ kk ∧ kk < WL.length := by rw [← hkk]; exact ⟨Int.emod_nonneg _ (by omega), Int.emod_lt_of_pos _ gp⟩
        simp only [go_sem, goD_calls, eq_self, implies_true, Int.reduceEq, Int.reduceBEq, Int.reduceBNe, Int.reduceLE, Int.reduceLT, Int.reduceAdd, Int.reduceSub, Int.reduceMul, Int.reduceNeg, Nat.reduceMul, Nat.reduceSub, Nat.reduceLeDiff, Nat.reduceLT, Nat.reduceEqDiff, Nat.reduceAdd, reduceCtorEq, ↓reduceIte, reduceIte, List.length_map, c4, c5, spNumber, gp, hkk, spQLeast]
        refine go_rng _ _ _ [(80, .clo 33 [.elt setY (.node [pa, .list ([] : List D), .int na])]), (4, .ptr nx 0), (13, .ptr (nx + 1) 0), (14, .ptr (nx + 2) 0)] 33 [.elt setY (.node [pa, .list ([] : List D), .int na])] (WL.map itemI) (α := { j : Nat // (j : Int) ≤ kk }) (fun j => ((nx, .cells [.bool false]) :: (nx + 1, .cells [.int .i64 kk]) :: (nx + 2, .cells [.int .i64 (j.1 : Nat)]) :: h, nx + 3)) (fun j => j.1) ⟨0, by omega⟩ (nx + 3) (by omega) (by simp only []; omega) ?_ rfl ?_ rfl hitX ?_ (fun j Qa R hj hQa hR hret hext => ?_) (fun j hj => ?_)
        · refine FrLt.all ?_
          (simp only [frLt_cons, frLt_nil, and_true, SV.lt, SV.ltL, true_and] <;> omega)
        · refine leq_news [(nx, nx), (nx + 1, nx + 4 + 64), (nx + 2, nx + 4 + 64 + 1)] [(nx, .cells [.bool false]), (nx + 1, .cells [.int .i64 kk]), (nx + 2, .cells [.int .i64 0])] (.refl _) (by simp) (by simp <;> omega) (by simp <;> omega) rfl ?_ ?_ ?_ ?_ hnm ?_ ?_
          · simp [frIn_cons, frIn_nil, fget_cons, fget_nil, SV.ren, SV.renL, rens]
          · (simp only [frLt_cons, frLt_nil, and_true, SV.lt, SV.ltL, true_and] <;> omega)
          · (simp only [List.mem_cons, List.not_mem_nil, or_false, forall_eq_or_imp, forall_eq]; simp [hget, rens, Tok.ren, SV.ren, SV.renL])
            all_goals try (repeat rw [if_neg (by omega)])
            all_goals try (refine ⟨?_, ?_⟩ <;> first | omega | (repeat rw [if_neg (by omega)]))
          · (simp only [List.mem_cons, List.not_mem_nil, or_false, forall_eq_or_imp, forall_eq, Tok.lt, SV.lt, SV.ltL, and_true, true_and] <;> omega)
          · ((try simp only []); repeat first | exact HLe.refl _ | refine HLe.cons (by simp only [hget, Nat.reduceEqDiff, Nat.left_eq_add, Nat.add_eq_left, nm_ne2, nm_en2, nm_ne3, nm_en3, nm_ne4, nm_en4, nm_ne5, nm_en5, reduceIte, ↓reduceIte] <;> first | rfl | ((repeat rw [if_neg (by omega)]) <;> rfl)) ?_ | refine HLe.skip hnm (by omega) ?_ | refine HLe.frz hnm (by omega) ?_ | refine HLe.del hnm (by omega) ?_)
          · omega
        · intro it hit
          obtain ⟨d, _, rfl⟩ := List.mem_map.1 hit
          rfl
        · obtain ⟨j, hjk⟩ := j
          simp only at hj hR ⊢
          rw [hil] at hj
          have ek : (WL.map itemI).getD j ([], []) = itemI WL[j] := by
            rw [List.getD_eq_getElem?_getD, List.getElem?_map, List.getElem?_eq_getElem hj]; rfl
          rw [ek]
          generalize WL[j] = L
          simp only [go_sem, goD_calls, eq_self, implies_true, Int.reduceEq, Int.reduceBEq, Int.reduceBNe, Int.reduceLE, Int.reduceLT, Int.reduceAdd, Int.reduceSub, Int.reduceMul, Int.reduceNeg, Nat.reduceMul, Nat.reduceSub, Nat.reduceLeDiff, Nat.reduceLT, Nat.reduceEqDiff, Nat.reduceAdd, reduceCtorEq, ↓reduceIte, reduceIte, itemI, zipF_cons, zipF_nil, shH_nil, shH_cons, SV.renL, SV.ren, Tok.ren, shN_def]
          refine hQa _ ?_
          by_cases hjj : (j : Int) = kk
          · have c6 : ((j : Int) == kk) = true := beq_iff_eq.2 hjj
            simp only [go_sem, goD_calls, eq_self, implies_true, Int.reduceEq, Int.reduceBEq, Int.reduceBNe, Int.reduceLE, Int.reduceLT, Int.reduceAdd, Int.reduceSub, Int.reduceMul, Int.reduceNeg, Nat.reduceMul, Nat.reduceSub, Nat.reduceLeDiff, Nat.reduceLT, Nat.reduceEqDiff, Nat.reduceAdd, reduceCtorEq, ↓reduceIte, reduceIte, c6]
            refine hext 4 _ ?_
            simp only [go_sem, goD_calls, eq_self, implies_true, Int.reduceEq, Int.reduceBEq, Int.reduceBNe, Int.reduceLE, Int.reduceLT, Int.reduceAdd, Int.reduceSub, Int.reduceMul, Int.reduceNeg, Nat.reduceMul, Nat.reduceSub, Nat.reduceLeDiff, Nat.reduceLT, Nat.reduceEqDiff, Nat.reduceAdd, reduceCtorEq, ↓reduceIte, reduceIte, c6]
            exact ret _ _ (by ((try simp only []); repeat first | exact HLe.refl _ | refine HLe.cons (by simp only [hget, Nat.reduceEqDiff, Nat.left_eq_add, Nat.add_eq_left, nm_ne2, nm_en2, nm_ne3, nm_en3, nm_ne4, nm_en4, nm_ne5, nm_en5, reduceIte, ↓reduceIte] <;> first | rfl | ((repeat rw [if_neg (by omega)]) <;> rfl)) ?_ | refine HLe.skip hnm (by omega) ?_ | refine HLe.frz hnm (by omega) ?_ | refine HLe.del hnm (by omega) ?_)) (by simp only [hget, go_sem, goD_calls, eq_self, implies_true, Int.reduceEq, Int.reduceBEq, Int.reduceBNe, Int.reduceLE, Int.reduceLT, Int.reduceAdd, Int.reduceSub, Int.reduceMul, Int.reduceNeg, Nat.reduceMul, Nat.reduceSub, Nat.reduceLeDiff, Nat.reduceLT, Nat.reduceEqDiff, Nat.reduceAdd, reduceCtorEq, ↓reduceIte, reduceIte])
          · have c6 : ((j : Int) == kk) = false := beq_eq_false_iff_ne.2 hjj
            simp only [go_sem, goD_calls, eq_self, implies_true, Int.reduceEq, Int.reduceBEq, Int.reduceBNe, Int.reduceLE, Int.reduceLT, Int.reduceAdd, Int.reduceSub, Int.reduceMul, Int.reduceNeg, Nat.reduceMul, Nat.reduceSub, Nat.reduceLeDiff, Nat.reduceLT, Nat.reduceEqDiff, Nat.reduceAdd, reduceCtorEq, ↓reduceIte, reduceIte, c6, min_i64, max_i64]
            refine ⟨⟨by omega, by omega⟩, ?_⟩
            refine hR _ ⟨j + 1, by omega⟩ rfl ?_
            refine leq_id trivial trivial (by ((try simp only []); repeat first | exact HLe.refl _ | refine HLe.cons (by simp only [hget, Nat.reduceEqDiff, Nat.left_eq_add, Nat.add_eq_left, nm_ne2, nm_en2, nm_ne3, nm_en3, nm_ne4, nm_en4, nm_ne5, nm_en5, reduceIte, ↓reduceIte] <;> first | rfl | ((repeat rw [if_neg (by omega)]) <;> rfl)) ?_ | refine HLe.skip hnm (by omega) ?_ | refine HLe.frz hnm (by omega) ?_ | refine HLe.del hnm (by omega) ?_)) (by (repeat first | exact HLt.mono hnm (by simp only [] <;> omega) | refine HLt.cons (by simp only [] <;> omega) (by simp only [Tok.lt, SV.ltL, SV.lt, and_true, true_and] <;> omega) ?_)) (by simp only [] <;> omega)
        · obtain ⟨j, hjk⟩ := j
          simp only at hj
          rw [hil] at hj
          omega
  · exact hsp.elim
end Go.Proofs.YtkmilijehekdoaaDoor
