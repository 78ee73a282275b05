/- Chapter 6: the document's least sets: plain; picked, Least: the walks. -/
import Derived.Test.YtkmilijehekdoaaDoorQuorG
namespace Go.Proofs.YtkmilijehekdoaaDoor
set_option linter.unusedVariables false
set_option linter.unusedSimpArgs false
open Go Go.Fw
attribute [local go_sem] walkSet evMdl evMupD evMup evLkp frpL preF preP prePt prePd frzP evNlq ev frOf oget ogets argSs argS evMm frzL evBin evWrp evShf evCmp evUna evNil evBeq evLd evSt evFad evIad evAad evLen evSln evEls evApp evParts evSlc evNlc evMif evPck evFld evBld evTas evIfq evSeq evSl0 evBxf evAgl evAgq evBsf hget hset hdel cellAt arrAt setCellAt setArrAt takeC lenC svCells SV.okc SV.one ldSV Fw.isAgg explode explodeL toD toDL toD1 Ty.size Ty.sizeL frz1 Fr.sub Heap.sub Tok.sub SV.sub SV.subL

/-! ### A bit less -/
def clr (x i : Nat) : Nat := (BitVec.ofNat 64 x &&& ~~~(BitVec.ofNat 64 (2 ^ i))).toNat
theorem clr_bit {x i : Nat} (j : Nat) (hi : i < 64) (hx : x < 2 ^ 64) : (clr x i).testBit j = (x.testBit j && !decide (i = j)) := by
  unfold clr
  rw [BitVec.testBit_toNat, BitVec.getLsbD_and, BitVec.getLsbD_not, BitVec.getLsbD_ofNat, BitVec.getLsbD_ofNat, Nat.testBit_two_pow]
  by_cases hj : j < 64
  · rw [decide_eq_true hj]; simp
  · have : x.testBit j = false := Nat.testBit_lt_two_pow (Nat.lt_of_lt_of_le hx (Nat.pow_le_pow_right (by omega) (by omega)))
    rw [decide_eq_false hj, this]; simp
theorem clr_lt {x i : Nat} (hi : i < 64) (hx : x < 2 ^ 64) (hb : x.testBit i = true) : clr x i < x := by
  have hle : clr x i ≤ x := by
    unfold clr
    rw [BitVec.toNat_and, BitVec.toNat_ofNat, Nat.mod_eq_of_lt hx]
    exact Nat.and_le_left
  refine Nat.lt_of_le_of_ne hle (fun e => ?_)
  have h := clr_bit (x := x) i hi hx
  rw [e, hb, decide_eq_true rfl] at h
  cases h
theorem clr_i64 {x i : Nat} (hi : i < 16) (hx : x < 2 ^ 16) (hb : x.testBit i = true) : bitI .andNot .i64 (x : Int) ((2 ^ i : Nat) : Int) = (clr x i : Int) := by
  show IntKind.i64.wrap ((BitVec.ofInt 64 (x : Int) &&& ~~~(BitVec.ofInt 64 ((2 ^ i : Nat) : Int))).toNat : Nat) = _
  rw [BitVec.ofInt_natCast, BitVec.ofInt_natCast]
  have hl := clr_lt (by omega) (Nat.lt_trans hx (by decide)) hb
  exact wrap_i64' (Int.natCast_nonneg _) (by unfold clr at hl; omega)
/-! ### Least -/
def pickL (l : List D) (x : Nat) : List D := thoseL l (x : Int) l.length
theorem pick_mem {l : List D} {x : Nat} (hl : l.length ≤ 16) {n : Int} : n ∈ (pickL l x).map D.i ↔ ∃ j, j < l.length ∧ x.testBit j = true ∧ (l.getD j .nil).i = n := by
  unfold pickL
  rw [thoseL_mem]
  constructor
  · rintro ⟨j, h1, h2, h3⟩; exact ⟨j, h1, by rw [← bitX_nat x (by omega)]; exact h2, h3⟩
  · rintro ⟨j, h1, h2, h3⟩; exact ⟨j, h1, by rw [bitX_nat x (by omega)]; exact h2, h3⟩
def lessB (S : List D → Bool) (l : List D) (x i : Nat) : Bool := x.testBit i && S (pickL l (clr x i))
def leastB (S : List D → Bool) (l : List D) (x : Nat) : Bool := S (pickL l x) && (List.range l.length).all fun i => !lessB S l x i
theorem least_ex {S : List D → Bool} {l : List D} (hl : l.length ≤ 16) : ∀ (x : Nat), x < 2 ^ l.length → S (pickL l x) = true → ∃ y, y < 2 ^ l.length ∧ leastB S l y = true ∧ ∀ n, n ∈ (pickL l y).map D.i → n ∈ (pickL l x).map D.i := by
  intro x
  induction x using Nat.strongRecOn with
  | _ x ih =>
    intro hx hs
    have h64 : x < 2 ^ 64 := Nat.lt_of_lt_of_le hx (Nat.pow_le_pow_right (by omega) (by omega))
    by_cases hm : (List.range l.length).all (fun i => !lessB S l x i) = true
    · exact ⟨x, hx, by unfold leastB; rw [hs, hm]; rfl, fun n h => h⟩
    · rw [List.all_eq_true] at hm
      have hm : ∃ i, i < l.length ∧ lessB S l x i = true := Classical.byContradiction fun hc => hm fun i hi => by
        rw [List.mem_range] at hi
        cases e : lessB S l x i with
        | false => rfl
        | true => exact absurd ⟨i, hi, e⟩ hc
      obtain ⟨i, hi, hm⟩ := hm
      unfold lessB at hm
      rw [Bool.and_eq_true] at hm
      have hlt := clr_lt (by omega) h64 hm.1
      obtain ⟨y, h1, h2, h3⟩ := ih _ hlt (by omega) hm.2
      refine ⟨y, h1, h2, fun n hn => ?_⟩
      have := h3 n hn
      rw [pick_mem hl] at this ⊢
      obtain ⟨j, hj, hb, e⟩ := this
      rw [clr_bit j (by omega) h64, Bool.and_eq_true] at hb
      exact ⟨j, hj, hb.1, e⟩
def leastUp (S : List D → Bool) (l : List D) (k : Nat) : List D := ((List.range k).filter (leastB S l)).map fun x => D.list (pickL l x)
theorem leastUp_step (S : List D → Bool) (l : List D) (k : Nat) : leastUp S l (k + 1) = leastUp S l k ++ if leastB S l k = true then [D.list (pickL l k)] else [] := by
  unfold leastUp
  rw [List.range_succ, List.filter_append, List.map_append]
  cases h : leastB S l k <;> simp [h]
theorem leastUp_len (S : List D → Bool) (l : List D) (k : Nat) : (leastUp S l k).length ≤ k := by
  unfold leastUp
  rw [List.length_map]
  exact Nat.le_trans (List.length_filter_le _ _) (by simp)
def leastL (S : List D → Bool) (l : List D) : List D := leastUp S l (2 ^ l.length)
theorem leastL_mem {S : List D → Bool} {l : List D} {d : D} : d ∈ leastL S l ↔ ∃ x, x < 2 ^ l.length ∧ leastB S l x = true ∧ d = D.list (pickL l x) := by
  unfold leastL leastUp
  rw [List.mem_map]
  constructor
  · rintro ⟨x, h, e⟩
    rw [List.mem_filter, List.mem_range] at h
    exact ⟨x, h.1, h.2, e.symm⟩
  · rintro ⟨x, h1, h2, e⟩
    exact ⟨x, List.mem_filter.2 ⟨List.mem_range.2 h1, h2⟩, e.symm⟩
/-! ### Meets -/
def refS (x : Option QP) (s : List D) : Bool := hasP (amI s) (refQ x)
theorem refS_some (q : QP) (s : List D) : refS (some q) s = q.has (amI s) := hasP_parts _ q
theorem refS_none (s : List D) : refS none s = false := rfl
theorem nodes_okQ {q : QP} (h : okQ (some q)) : Nodes q (nodesL q) := ⟨h.2.1, h.2.2.2.2.1, fun n hn => h.2.2.1 n (nodesL_mem.1 hn), fun n hn => nodesL_mem.2 hn⟩
theorem cnv_u64 {i : Nat} (h : i < 2 ^ 63) : IntKind.u64.wrap (i : Int) = (i : Int) := wrap_u64 (by omega) (by omega)
def WR6picked : Opts := mkWE 27 [] [] [] 152 [] []
def icR6picked : IC := (.seq (.seq (.ops [(.u (.mov 4 (.c .nils)))]) (.tr [1, 0])) (.seq (.seq (.ops [(.u (.mov 5 (.c .nils)))]) (.tr [1, 0, 5])) (.seq (.seq (.seq (.ops [(.u (.mov 6 (.c (.int .i64 0))))]) (.tr [1, 0, 6, 5])) (.block 0 (.loop (.seq (.seq (.seq (.ops [(.u (.mov 7 (.s 6))), (.u (.mov 8 (.s 0))), (.u (.len 9 false (.s 8))), (.u (.cmp 10 .lss (.s 7) (.s 9)))]) (.tr [10, 6, 1, 0, 5])) (.cond (.s 10) .skip (.exit 0))) (.seq (.block 1 (.seq (.seq (.ops [(.u (.mov 13 (.s 1))), (.u (.mov 14 (.s 6))), (.u (.cnv 15 .u64 (.s 14))), (.u (.shf 16 .shr .i64 (.s 13) (.s 15))), (.u (.bin 17 .and .i64 (.s 16) (.c (.int .i64 1)))), (.u (.cmp 18 .eql (.s 17) (.c (.int .i64 1))))]) (.tr [18, 6, 1, 0, 5])) (.cond (.s 18) (.seq (.ops [(.u (.mov 19 (.s 5))), (.u (.mov 20 (.s 0))), (.u (.mov 21 (.s 6))), (.u (.iad 22 3 (.int .i64) (.s 20) (.s 21))), (.u (.ld 23 (.int .i64) (.s 22))), (.u (.bsl 24 3 (.int .i64) [(.s 23)])), (.u (.app 25 3 (.int .i64) 8 (.s 19) (.s 24))), (.u (.mov 5 (.s 25)))]) (.tr [6, 1, 0, 5])) .skip))) (.seq (.ops [(.u (.mov 11 (.s 6))), (.u (.bin 12 .add .i64 (.s 11) (.c (.int .i64 1)))), (.u (.mov 6 (.s 12)))]) (.tr [1, 0, 6, 5]))))))) (.seq (.seq (.ops [(.u (.mov 26 (.s 5))), (.u (.mov 4 (.s 26)))]) (.tr [4])) .ret))))
def rsR6picked : List RV := [(.t 4)]
theorem irR6picked : fnIR Tryd.prog WR6picked 45 = some (icR6picked, rsR6picked) := by kernel_rfl
def spR6picked : FSpec := fun args h nx K => match args with
  | [.dat (.slice t) d, .int .i64 x] => t = 3 ∧ d.l.length ≤ 1000 ∧ K (.dat (.slice 3) (.list (thoseL d.l x d.l.length))) h
  | _ => False
set_option maxHeartbeats 4000000 in
set_option maxRecDepth 8000 in
theorem vR6picked {E : Nat → Value} (hE : Errs2 Tryd.prog (some 152) E) : Valid Tryd.prog E (gs []) 45 spR6picked := by
  refine valid_go (W := WR6picked) hE allValid_bot irR6picked (by decide) (fun args h nx K hsp hok hnm => ?_)
  unfold spR6picked at hsp
  split at hsp
  · rename_i t d x
    obtain ⟨rfl, hlen, hK⟩ := hsp
    refine ⟨by simp [WR6picked, mkW, mkWE, mkWF], fun Q hQ => ?_⟩
    obtain ⟨hd, _⟩ := hok
    simp only [SV.ok] at hd
    obtain ⟨hd1, hd2, hd3⟩ := Wt.slice hd; generalize d.l = l at *; subst hd1
    have hlen : l.length ≤ 1000 := hlen
    simp only [icR6picked, go_sem, goD_calls, eq_self, implies_true, Int.reduceEq, Int.reduceBEq, Int.reduceBNe, Int.reduceLE, Int.reduceLT, Int.reduceAdd, Int.reduceSub, Int.reduceMul, Int.reduceNeg, Nat.reduceMul, Nat.reduceSub, Nat.reduceLeDiff, Nat.reduceLT, Nat.reduceEqDiff, Nat.reduceAdd, reduceCtorEq, ↓reduceIte, reduceIte]
    refine go_loop (α := { i : Nat // i ≤ l.length }) (I := fun i => { f := [(0, .dat (.slice 3) (.list l)), (1, .int .i64 x), (6, .int .i64 i.1), (5, .vec nx)], h := (nx, .arr 3 (.int .i64) (thoseL l x i.1)) :: h, nx := nx + 1 }) (μ := fun i => l.length - i.1) _ _ _ ⟨0, by omega⟩ ?_ (fun i B hB => ?_)
    · refine leq_news [(nx, nx)] [(nx, .arr 3 (.int .i64) (thoseL l x 0))] (.slot 5 3 (.int .i64) rfl (.refl _)) (by simp) (by simp <;> omega) (by simp) rfl ?_ ?_ ?_ ?_ hnm ?_ (by omega)
      · simp [frIn_cons, frIn_nil, fget_cons, fget_nil, SV.ren, SV.renL, rens]
      · (simp only [frLt_cons, frLt_nil, and_true, SV.lt, SV.ltL, true_and] <;> omega)
      · (simp only [List.mem_cons, List.not_mem_nil, or_false, forall_eq_or_imp, forall_eq]; simp [hget, rens, Tok.ren, SV.ren, SV.renL])
        try simp [thoseL]
      · (simp only [List.mem_cons, List.not_mem_nil, or_false, forall_eq_or_imp, forall_eq, Tok.lt, SV.lt, SV.ltL, and_true, true_and] <;> omega)
      · ((try simp only []); repeat first | exact HLe.refl _ | refine HLe.cons (by simp only [hget, Nat.reduceEqDiff, Nat.left_eq_add, Nat.add_eq_left, nm_ne2, nm_en2, nm_ne3, nm_en3, nm_ne4, nm_en4, nm_ne5, nm_en5, reduceIte, ↓reduceIte] <;> first | rfl | ((repeat rw [if_neg (by omega)]) <;> rfl)) ?_ | refine HLe.skip hnm (by omega) ?_ | refine HLe.frz hnm (by omega) ?_ | refine HLe.del hnm (by omega) ?_)
    · obtain ⟨i, hi⟩ := i
      simp only at hB
      by_cases hil : i < l.length
      · have c1 : decide ((i : Int) < (l.length : Int)) = true := decide_eq_true (by omega)
        have hs := those_step l x i
        have hl2 := those_len l x i
        have cu : IntKind.u64.wrap (i : Int) = (i : Int) := cnv_u64 (by omega)
        have next : ∀ S', Leq nx S' { f := [(0, .dat (.slice 3) (.list l)), (1, .int .i64 x), (6, .int .i64 ((i + 1 : Nat) : Int)), (5, .vec nx)], h := (nx, .arr 3 (.int .i64) (thoseL l x (i + 1))) :: h, nx := nx + 1 } → B S' := fun S' hl => hB _ ⟨i + 1, by omega⟩ (by simp only []; omega) hl
        rcases bool_ftQ (bitX x i) with hb | hb
        · have cb : (bitI .and .i64 (x.fdiv (2 ^ min i 64)) 1 == 1) = false := hb
          rw [hb] at hs
          simp only [Bool.false_eq_true, if_false, List.append_nil] at hs
          rw [hs] at next
          simp only [go_sem, goD_calls, eq_self, implies_true, Int.reduceEq, Int.reduceBEq, Int.reduceBNe, Int.reduceLE, Int.reduceLT, Int.reduceAdd, Int.reduceSub, Int.reduceMul, Int.reduceNeg, Nat.reduceMul, Nat.reduceSub, Nat.reduceLeDiff, Nat.reduceLT, Nat.reduceEqDiff, Nat.reduceAdd, reduceCtorEq, ↓reduceIte, reduceIte, c1, cu, cb, Int.toNat_natCast, min_i64, max_i64]
          repeat refine ⟨by omega, ?_⟩
          refine next _ ?_
          refine leq_id ?_ (by (simp only [frLt_cons, frLt_nil, and_true, SV.lt, SV.ltL, true_and] <;> omega)) (by ((try simp only []); repeat first | exact HLe.refl _ | refine HLe.cons (by simp only [hget, Nat.reduceEqDiff, Nat.left_eq_add, Nat.add_eq_left, nm_ne2, nm_en2, nm_ne3, nm_en3, nm_ne4, nm_en4, nm_ne5, nm_en5, reduceIte, ↓reduceIte] <;> first | rfl | ((repeat rw [if_neg (by omega)]) <;> rfl)) ?_ | refine HLe.skip hnm (by omega) ?_ | refine HLe.frz hnm (by omega) ?_ | refine HLe.del hnm (by omega) ?_)) (by (repeat first | exact HLt.mono hnm (by simp only [] <;> omega) | refine HLt.cons (by simp only [] <;> omega) (by simp only [Tok.lt, SV.ltL, SV.lt, and_true, true_and] <;> omega) ?_)) (by simp only [] <;> omega)
          simp only [frEq_cons, frEq_nil, frIn_cons, frIn_nil, and_true, fget_cons, Nat.reduceEqDiff, reduceIte, ↓reduceIte, true_and, SV.ren, SV.renL, ren1]
          simp
        · have cb : (bitI .and .i64 (x.fdiv (2 ^ min i 64)) 1 == 1) = true := hb
          rw [hb] at hs
          simp only [if_true] at hs
          rw [hs] at next
          simp only [go_sem, goD_calls, eq_self, implies_true, Int.reduceEq, Int.reduceBEq, Int.reduceBNe, Int.reduceLE, Int.reduceLT, Int.reduceAdd, Int.reduceSub, Int.reduceMul, Int.reduceNeg, Nat.reduceMul, Nat.reduceSub, Nat.reduceLeDiff, Nat.reduceLT, Nat.reduceEqDiff, Nat.reduceAdd, reduceCtorEq, ↓reduceIte, reduceIte, c1, cu, cb, Int.toNat_natCast, min_i64, max_i64]
          repeat refine ⟨by omega, ?_⟩
          refine next _ ?_
          refine leq_ren1 nx (nx + 1 + 1) (by omega) (by simp only [] <;> omega) ?_ (by (simp only [frLt_cons, frLt_nil, and_true, SV.lt, SV.ltL, true_and] <;> omega)) ?_ (by (repeat first | exact HLt.mono hnm (by simp only [] <;> omega) | refine HLt.cons (by simp only [] <;> omega) (by simp only [Tok.lt, SV.ltL, SV.lt, and_true, true_and] <;> omega) ?_)) (by simp only [] <;> omega)
          · simp only [frEq_cons, frEq_nil, frIn_cons, frIn_nil, and_true, fget_cons, Nat.reduceEqDiff, reduceIte, ↓reduceIte, true_and, SV.ren, SV.renL, ren1]
            simp
          · exact HRen.cons (by rw [ren1_eq]; simp [hget, Tok.ren]) (HRen.base hnm (Nat.le_refl _) (by ((try simp only []); repeat first | exact HLe.refl _ | refine HLe.cons (by simp only [hget, Nat.reduceEqDiff, Nat.left_eq_add, Nat.add_eq_left, nm_ne2, nm_en2, nm_ne3, nm_en3, nm_ne4, nm_en4, nm_ne5, nm_en5, reduceIte, ↓reduceIte] <;> first | rfl | ((repeat rw [if_neg (by omega)]) <;> rfl)) ?_ | refine HLe.skip hnm (by omega) ?_ | refine HLe.frz hnm (by omega) ?_ | refine HLe.del hnm (by omega) ?_)))
      · obtain rfl : i = l.length := by omega
        have c1 : decide ((l.length : Int) < (l.length : Int)) = false := decide_eq_false (by omega)
        simp only [go_sem, goD_calls, eq_self, implies_true, Int.reduceEq, Int.reduceBEq, Int.reduceBNe, Int.reduceLE, Int.reduceLT, Int.reduceAdd, Int.reduceSub, Int.reduceMul, Int.reduceNeg, Nat.reduceMul, Nat.reduceSub, Nat.reduceLeDiff, Nat.reduceLT, Nat.reduceEqDiff, Nat.reduceAdd, reduceCtorEq, ↓reduceIte, reduceIte, c1]
        refine (hQ _ ?_).1
        refine fin_new (p := True ∧ True) (xs := [.vec nx]) rfl ⟨trivial, trivial⟩ (.frz nx (.refl _)) [] (.dat (.slice 3) (.list (thoseL l x l.length))) [] (by simp) (by simp) (by simp) ?_ trivial rfl (by simp) (by simp) hnm ?_ hK
        · simp only [mkR, go_sem, goD_calls, eq_self, implies_true, Int.reduceEq, Int.reduceBEq, Int.reduceBNe, Int.reduceLE, Int.reduceLT, Int.reduceAdd, Int.reduceSub, Int.reduceMul, Int.reduceNeg, Nat.reduceMul, Nat.reduceSub, Nat.reduceLeDiff, Nat.reduceLT, Nat.reduceEqDiff, Nat.reduceAdd, reduceCtorEq, ↓reduceIte, reduceIte, SV.ren, SV.renL, rens]
        · simp only [mkR, go_sem, goD_calls, eq_self, implies_true, Int.reduceEq, Int.reduceBEq, Int.reduceBNe, Int.reduceLE, Int.reduceLT, Int.reduceAdd, Int.reduceSub, Int.reduceMul, Int.reduceNeg, Nat.reduceMul, Nat.reduceSub, Nat.reduceLeDiff, Nat.reduceLT, Nat.reduceEqDiff, Nat.reduceAdd, reduceCtorEq, ↓reduceIte, reduceIte] <;> ((try simp only []); repeat first | exact HLe.refl _ | refine HLe.cons (by simp only [hget, Nat.reduceEqDiff, Nat.left_eq_add, Nat.add_eq_left, nm_ne2, nm_en2, nm_ne3, nm_en3, nm_ne4, nm_en4, nm_ne5, nm_en5, reduceIte, ↓reduceIte] <;> first | rfl | ((repeat rw [if_neg (by omega)]) <;> rfl)) ?_ | refine HLe.skip hnm (by omega) ?_ | refine HLe.frz hnm (by omega) ?_ | refine HLe.del hnm (by omega) ?_)
  · exact hsp.elim

def allN (S : List D → Bool) (l : List D) (x i : Nat) : Bool := (List.range i).all fun j => !lessB S l x j
theorem allN_step (S : List D → Bool) (l : List D) (x i : Nat) : allN S l x (i + 1) = (allN S l x i && !lessB S l x i) := by
  unfold allN
  rw [List.range_succ, List.all_append]
  simp
def WR6Least : Opts := mkWF 55 [] [] [21, 22, 44, 45] 152 [] [] [] [21, 22, 44, 45]
def icR6Least : IC := (.seq (.seq (.ops [(.u (.box 1 0 (.s 0))), (.u (.mov 2 (.c .nils)))]) (.tr [1])) (.seq (.seq (.ops [(.u (.ld 8 (.strct [(.slice 79)]) (.s 1))), (.u (.call 9 (.c (.clo 19 [])) [(.s 8)] [none] true)), (.u (.mov 3 (.s 9)))]) (.tr [1, 3])) (.seq (.seq (.ops [(.u (.mov 4 (.c .nils)))]) (.tr [1, 3, 4])) (.seq (.seq (.seq (.ops [(.u (.mov 5 (.c (.int .i64 0))))]) (.tr [1, 3, 5, 4])) (.block 0 (.loop (.seq (.seq (.seq (.ops [(.u (.mov 10 (.s 5))), (.u (.mov 11 (.s 3))), (.u (.len 12 false (.s 11))), (.u (.cnv 13 .u64 (.s 12))), (.u (.shf 14 .shl .i64 (.c (.int .i64 1)) (.s 13))), (.u (.cmp 15 .lss (.s 10) (.s 14)))]) (.tr [15, 5, 1, 3, 4])) (.cond (.s 15) .skip (.exit 0))) (.seq (.block 1 (.seq (.seq (.seq (.rgn [] [(false, (.u (.ld 18 (.strct [(.slice 79)]) (.s 1)))), (false, (.u (.mov 19 (.s 3)))), (false, (.u (.mov 20 (.s 5)))), (true, (.u (.call 21 (.c (.clo 45 [])) [(.s 19), (.s 20)] [(some 3), none] false))), (true, (.u (.call 22 (.c (.clo 28 [])) [(.s 18), (.s 21)] [none, (some 3)] false))), (false, (.u (.una 23 .not (.s 22))))]) (.tr [23, 5, 1, 3, 4])) (.cond (.s 23) (.exit 1) .skip)) (.seq (.seq (.ops [(.u (.mov 6 (.c (.bool true))))]) (.tr [6, 5, 1, 3, 4])) (.seq (.seq (.seq (.ops [(.u (.mov 7 (.c (.int .i64 0))))]) (.tr [7, 6, 5, 1, 3, 4])) (.block 2 (.loop (.seq (.seq (.seq (.ops [(.u (.mov 24 (.s 7))), (.u (.mov 25 (.s 3))), (.u (.len 26 false (.s 25))), (.u (.cmp 27 .lss (.s 24) (.s 26)))]) (.tr [27, 7, 6, 5, 1, 3, 4])) (.cond (.s 27) .skip (.exit 2))) (.seq (.block 3 (.seq (.seq (.rgn [] [(false, (.u (.mov 30 (.s 5)))), (false, (.u (.mov 31 (.s 7)))), (false, (.u (.cnv 32 .u64 (.s 31)))), (false, (.u (.shf 33 .shr .i64 (.s 30) (.s 32)))), (false, (.u (.bin 34 .and .i64 (.s 33) (.c (.int .i64 1))))), (false, (.u (.cmp 35 .eql (.s 34) (.c (.int .i64 1))))), (false, (.u (.mov 36 (.s 35)))), (false, (.g 36 true (some 37) (.ld 37 (.strct [(.slice 79)]) (.s 1)))), (false, (.g 36 true (some 38) (.mov 38 (.s 3)))), (false, (.g 36 true (some 39) (.mov 39 (.s 5)))), (false, (.g 36 true (some 40) (.mov 40 (.s 7)))), (false, (.g 36 true (some 41) (.cnv 41 .u64 (.s 40)))), (false, (.g 36 true (some 42) (.shf 42 .shl .i64 (.c (.int .i64 1)) (.s 41)))), (false, (.g 36 true (some 43) (.bin 43 .andNot .i64 (.s 39) (.s 42)))), (true, (.g 36 true (some 44) (.call 44 (.c (.clo 45 [])) [(.s 38), (.s 43)] [(some 3), none] false))), (true, (.g 36 true (some 45) (.call 45 (.c (.clo 28 [])) [(.s 37), (.s 44)] [none, (some 3)] false))), (false, (.u (.pck 46 (.s 36) (.s 45) (.c (.bool false)))))]) (.tr [46, 7, 6, 5, 1, 3, 4])) (.cond (.s 46) (.seq (.ops [(.u (.mov 6 (.c (.bool false))))]) (.tr [7, 6, 5, 1, 3, 4])) .skip))) (.seq (.ops [(.u (.mov 28 (.s 7))), (.u (.bin 29 .add .i64 (.s 28) (.c (.int .i64 1)))), (.u (.mov 7 (.s 29)))]) (.tr [7, 6, 5, 1, 3, 4]))))))) (.seq (.seq (.ops [(.u (.mov 47 (.s 6)))]) (.tr [47, 5, 1, 3, 4])) (.cond (.s 47) (.seq (.ops [(.u (.mov 48 (.s 4))), (.u (.mov 49 (.s 3))), (.u (.mov 50 (.s 5))), (.u (.call 51 (.c (.clo 45 [])) [(.s 49), (.s 50)] [(some 3), none] true)), (.u (.bsl 52 24 (.slice 3) [(.s 51)])), (.u (.app 53 24 (.slice 3) 24 (.s 48) (.s 52))), (.u (.mov 4 (.s 53)))]) (.tr [5, 1, 3, 4])) .skip)))))) (.seq (.ops [(.u (.mov 16 (.s 5))), (.u (.bin 17 .add .i64 (.s 16) (.c (.int .i64 1)))), (.u (.mov 5 (.s 17)))]) (.tr [1, 3, 5, 4]))))))) (.seq (.seq (.ops [(.u (.mov 54 (.s 4))), (.u (.mov 2 (.s 54)))]) (.tr [2])) .ret)))))
def rsR6Least : List RV := [(.t 2)]
theorem irR6Least : fnIR Tryd.prog WR6Least 25 = some (icR6Least, rsR6Least) := by kernel_rfl
def spR6Least : FSpec := fun args h nx K => match args with
  | [.agg [.dat (.slice t) d]] => t = 79 ∧ wfP 0 d.l ∧ d.l.length ≤ 1000 ∧ (∀ x ∈ d.l, (rL x).length ≤ 1000) ∧ (allL d.l).length ≤ 100000 ∧ (riseL (allL d.l)).length ≤ 9 ∧ K (.dat (.slice 24) (.list (leastL (fun s => hasP (amI s) d.l) (riseL (allL d.l))))) h
  | _ => False
set_option maxHeartbeats 4000000 in
set_option maxRecDepth 8000 in
theorem vR6Least {E : Nat → Value} (hE : Errs2 Tryd.prog (some 152) E) : Valid Tryd.prog E (gs []) 25 spR6Least := by
  refine valid_go (W := WR6Least) hE (((allValid_bot.add (up (vR6Nodes hE))).add (up (vR6picked hE))).add (up (vR6Has hE))) irR6Least (by decide) (fun args h nx K hsp hok hnm => ?_)
  unfold spR6Least at hsp
  split at hsp
  · rename_i t d
    obtain ⟨rfl, hwf, hlen, hnl, hal, h9, hK⟩ := hsp
    refine ⟨by simp [WR6Least, mkW, mkWE, mkWF], fun Q hQ => ?_⟩
    obtain ⟨⟨hd, _⟩, _⟩ := hok
    simp only [SV.ok] at hd
    obtain ⟨hd1, hd2, hd3⟩ := Wt.slice hd; generalize d.l = L at *; subst hd1
    have hwf : wfP 0 L := hwf
    have hlen : L.length ≤ 1000 := hlen
    have hnl : ∀ x ∈ L, (rL x).length ≤ 1000 := hnl
    have hal : (allL L).length ≤ 100000 := hal
    have h9 : (riseL (allL L)).length ≤ 9 := h9
    have hK : K (.dat (.slice 24) (.list (leastL (fun s => hasP (amI s) L) (riseL (allL L))))) h := hK
    generalize hS : (fun s => hasP (amI s) L) = S at hK
    have hS' : ∀ s, hasP (amI s) L = S s := fun s => by rw [← hS]
    generalize hl : riseL (allL L) = l at hK h9
    have hl1000 : l.length ≤ 1000 := by omega
    have ew := eq_true hwf
    have en := eq_true hnl
    have e1 := shl_i64 (n := l.length) (by omega)
    have hpw : (2 : Nat) ^ l.length ≤ 2 ^ 9 := Nat.pow_le_pow_right (by omega) h9
    obtain ⟨X, hX⟩ : ∃ X, (2 : Nat) ^ l.length = X := ⟨_, rfl⟩
    unfold leastL at hK
    rw [hX] at hpw e1 hK
    have cl : IntKind.u64.wrap (l.length : Int) = (l.length : Int) := cnv_u64 (by omega)
    simp only [icR6Least, go_sem, goD_calls, eq_self, implies_true, Int.reduceEq, Int.reduceBEq, Int.reduceBNe, Int.reduceLE, Int.reduceLT, Int.reduceAdd, Int.reduceSub, Int.reduceMul, Int.reduceNeg, Nat.reduceMul, Nat.reduceSub, Nat.reduceLeDiff, Nat.reduceLT, Nat.reduceEqDiff, Nat.reduceAdd, reduceCtorEq, ↓reduceIte, reduceIte, spR6Nodes, hal, hl]
    refine go_loop (α := { i : Nat // i ≤ X }) (I := fun i => { f := [(1, .ptr nx 0), (3, .dat (.slice 3) (.list l)), (5, .int .i64 i.1), (4, .vec (nx + 1))], h := [(nx, .cells [.dat (.slice 79) (.list L)]), (nx + 1, .arr 24 (.slice 3) (leastUp S l i.1))] ++ h, nx := nx + 2 }) (μ := fun i => X - i.1) _ _ _ ⟨0, by omega⟩ ?_ (fun i B hB => ?_)
    · refine leq_news [(nx, nx), (nx + 1, nx + 1 + 64)] [(nx, .cells [.dat (.slice 79) (.list L)]), (nx + 1, .arr 24 (.slice 3) (leastUp S l 0))] (.slot 4 24 (.slice 3) rfl (.refl _)) (by simp) (by simp <;> omega) (by simp <;> omega) rfl ?_ ?_ ?_ ?_ hnm ?_ (by omega)
      · simp [frIn_cons, frIn_nil, fget_cons, fget_nil, SV.ren, SV.renL, rens]
      · (simp only [frLt_cons, frLt_nil, and_true, SV.lt, SV.ltL, true_and] <;> omega)
      · (simp only [List.mem_cons, List.not_mem_nil, or_false, forall_eq_or_imp, forall_eq]; simp [hget, rens, Tok.ren, SV.ren, SV.renL])
        try simp [leastUp]
        all_goals try omega
      · (simp only [List.mem_cons, List.not_mem_nil, or_false, forall_eq_or_imp, forall_eq, Tok.lt, SV.lt, SV.ltL, and_true, true_and] <;> omega)
      · ((try simp only []); repeat first | exact HLe.refl _ | refine HLe.cons (by simp only [hget, Nat.reduceEqDiff, Nat.left_eq_add, Nat.add_eq_left, nm_ne2, nm_en2, nm_ne3, nm_en3, nm_ne4, nm_en4, nm_ne5, nm_en5, reduceIte, ↓reduceIte] <;> first | rfl | ((repeat rw [if_neg (by omega)]) <;> rfl)) ?_ | refine HLe.skip hnm (by omega) ?_ | refine HLe.frz hnm (by omega) ?_ | refine HLe.del hnm (by omega) ?_)
    · obtain ⟨i, hi⟩ := i
      simp only at hB
      by_cases hil : i < X
      · have c1 : decide ((i : Int) < (X : Int)) = true := decide_eq_true (by omega)
        have hst := leastUp_step S l i
        have hl2 := leastUp_len S l i
        obtain ⟨P, hP⟩ : ∃ P, thoseL l (i : Int) l.length = P := ⟨_, rfl⟩
        obtain ⟨s0, hs0⟩ : ∃ b, S P = b := ⟨_, rfl⟩
        have next : ∀ S', Leq nx S' { f := [(1, .ptr nx 0), (3, .dat (.slice 3) (.list l)), (5, .int .i64 ((i : Int) + 1)), (4, .vec (nx + 1))], h := [(nx, .cells [.dat (.slice 79) (.list L)]), (nx + 1, .arr 24 (.slice 3) (leastUp S l (i + 1)))] ++ h, nx := nx + 2 } → B S' := fun S' hl => hB _ ⟨i + 1, by omega⟩ (by simp only []; omega) hl
        have hi9 : i < 2 ^ 9 := by omega
        simp only [go_sem, goD_calls, eq_self, implies_true, Int.reduceEq, Int.reduceBEq, Int.reduceBNe, Int.reduceLE, Int.reduceLT, Int.reduceAdd, Int.reduceSub, Int.reduceMul, Int.reduceNeg, Nat.reduceMul, Nat.reduceSub, Nat.reduceLeDiff, Nat.reduceLT, Nat.reduceEqDiff, Nat.reduceAdd, reduceCtorEq, ↓reduceIte, reduceIte, c1, cl, e1, spR6picked, spR6Has, hl1000, hP]
        refine ⟨by omega, .dat (.slice 3) (.list P), fun nx' => ⟨rfl, rfl⟩, trivial, .bool (hasP (amI P) L), fun nx' => ⟨rfl, rfl, hwf, hlen, hnl, rfl, rfl⟩, trivial, ?_⟩
        have hpk : pickL l i = P := hP
        cases s0 with
        | false =>
          have hlb : leastB S l i = false := by unfold leastB; rw [hpk, hs0]; rfl
          rw [hlb, if_neg (by decide), List.append_nil] at hst
          rw [hst] at next
          simp only [go_sem, goD_calls, eq_self, implies_true, Int.reduceEq, Int.reduceBEq, Int.reduceBNe, Int.reduceLE, Int.reduceLT, Int.reduceAdd, Int.reduceSub, Int.reduceMul, Int.reduceNeg, Nat.reduceMul, Nat.reduceSub, Nat.reduceLeDiff, Nat.reduceLT, Nat.reduceEqDiff, Nat.reduceAdd, reduceCtorEq, ↓reduceIte, reduceIte, hS', hs0, min_i64, max_i64]
          repeat refine ⟨by omega, ?_⟩
          refine next _ ?_
          refine leq_id (by simp only [frEq_cons, frEq_nil, frIn_cons, frIn_nil, and_true, fget_cons, Nat.reduceEqDiff, reduceIte, ↓reduceIte, true_and, SV.ren, SV.renL, ren1] <;> (try rfl) <;> (try simp)) (by (simp only [frLt_cons, frLt_nil, and_true, SV.lt, SV.ltL, true_and] <;> omega)) (by ((try simp only []); repeat first | exact HLe.refl _ | refine HLe.cons (by simp only [hget, Nat.reduceEqDiff, Nat.left_eq_add, Nat.add_eq_left, nm_ne2, nm_en2, nm_ne3, nm_en3, nm_ne4, nm_en4, nm_ne5, nm_en5, reduceIte, ↓reduceIte] <;> first | rfl | ((repeat rw [if_neg (by omega)]) <;> rfl)) ?_ | refine HLe.skip hnm (by omega) ?_ | refine HLe.frz hnm (by omega) ?_ | refine HLe.del hnm (by omega) ?_)) (by (repeat first | exact HLt.mono hnm (by simp only [] <;> omega) | refine HLt.cons (by simp only [] <;> omega) (by simp only [Tok.lt, SV.ltL, SV.lt, and_true, true_and] <;> omega) ?_)) (by simp only [] <;> omega)
        | true =>
        simp only [go_sem, goD_calls, eq_self, implies_true, Int.reduceEq, Int.reduceBEq, Int.reduceBNe, Int.reduceLE, Int.reduceLT, Int.reduceAdd, Int.reduceSub, Int.reduceMul, Int.reduceNeg, Nat.reduceMul, Nat.reduceSub, Nat.reduceLeDiff, Nat.reduceLT, Nat.reduceEqDiff, Nat.reduceAdd, reduceCtorEq, ↓reduceIte, reduceIte, hS', hs0]
        refine go_loop (α := { j : Nat // j ≤ l.length }) (I := fun j => { f := [(1, .ptr nx 0), (3, .dat (.slice 3) (.list l)), (5, .int .i64 i), (4, .vec (nx + 1)), (7, .int .i64 j.1), (6, .bool (allN S l i j.1))], h := [(nx, .cells [.dat (.slice 79) (.list L)]), (nx + 1, .arr 24 (.slice 3) (leastUp S l i))] ++ h, nx := nx + 2 }) (μ := fun j => l.length - j.1) _ _ _ ⟨0, by omega⟩ ?_ (fun j B2 hB2 => ?_)
        · have : allN S l i 0 = true := rfl
          simp only [this]
          refine leq_id (by simp only [frEq_cons, frEq_nil, frIn_cons, frIn_nil, and_true, fget_cons, Nat.reduceEqDiff, reduceIte, ↓reduceIte, true_and, SV.ren, SV.renL, ren1] <;> (try rfl) <;> (try simp)) (by (simp only [frLt_cons, frLt_nil, and_true, SV.lt, SV.ltL, true_and] <;> omega)) (by ((try simp only []); repeat first | exact HLe.refl _ | refine HLe.cons (by simp only [hget, Nat.reduceEqDiff, Nat.left_eq_add, Nat.add_eq_left, nm_ne2, nm_en2, nm_ne3, nm_en3, nm_ne4, nm_en4, nm_ne5, nm_en5, reduceIte, ↓reduceIte] <;> first | rfl | ((repeat rw [if_neg (by omega)]) <;> rfl)) ?_ | refine HLe.skip hnm (by omega) ?_ | refine HLe.frz hnm (by omega) ?_ | refine HLe.del hnm (by omega) ?_)) (by (repeat first | exact HLt.mono hnm (by simp only [] <;> omega) | refine HLt.cons (by simp only [] <;> omega) (by simp only [Tok.lt, SV.ltL, SV.lt, and_true, true_and] <;> omega) ?_)) (by simp only [] <;> omega)
        · obtain ⟨j, hj⟩ := j
          simp only at hB2
          by_cases hjl : j < l.length
          · have c2 : decide ((j : Int) < (l.length : Int)) = true := decide_eq_true (by omega)
            have cu : IntKind.u64.wrap (j : Int) = (j : Int) := cnv_u64 (by omega)
            have next2 : ∀ S', Leq nx S' { f := [(1, .ptr nx 0), (3, .dat (.slice 3) (.list l)), (5, .int .i64 i), (4, .vec (nx + 1)), (7, .int .i64 ((j : Int) + 1)), (6, .bool (allN S l i (j + 1)))], h := [(nx, .cells [.dat (.slice 79) (.list L)]), (nx + 1, .arr 24 (.slice 3) (leastUp S l i))] ++ h, nx := nx + 2 } → B2 S' := fun S' hl => hB2 _ ⟨j + 1, by omega⟩ (by simp only []; omega) hl
            have hsa := allN_step S l i j
            have hbx := bitX_nat i (i := j) (by omega)
            obtain ⟨b, hb⟩ : ∃ b, i.testBit j = b := ⟨_, rfl⟩
            rw [hb] at hbx
            have cb : (bitI .and .i64 ((i : Int).fdiv (2 ^ min j 64)) 1 == 1) = b := hbx
            cases b with
            | false =>
              have hlb : lessB S l i j = false := by unfold lessB; rw [hb]; rfl
              rw [hlb, Bool.not_false, Bool.and_true] at hsa
              rw [hsa] at next2
              simp only [go_sem, goD_calls, eq_self, implies_true, Int.reduceEq, Int.reduceBEq, Int.reduceBNe, Int.reduceLE, Int.reduceLT, Int.reduceAdd, Int.reduceSub, Int.reduceMul, Int.reduceNeg, Nat.reduceMul, Nat.reduceSub, Nat.reduceLeDiff, Nat.reduceLT, Nat.reduceEqDiff, Nat.reduceAdd, reduceCtorEq, ↓reduceIte, reduceIte, c2, cu, cb, Int.toNat_natCast, min_i64, max_i64]
              repeat refine ⟨by omega, ?_⟩
              refine next2 _ ?_
              refine leq_id (by simp only [frEq_cons, frEq_nil, frIn_cons, frIn_nil, and_true, fget_cons, Nat.reduceEqDiff, reduceIte, ↓reduceIte, true_and, SV.ren, SV.renL, ren1] <;> (try rfl) <;> (try simp)) (by (simp only [frLt_cons, frLt_nil, and_true, SV.lt, SV.ltL, true_and] <;> omega)) (by ((try simp only []); repeat first | exact HLe.refl _ | refine HLe.cons (by simp only [hget, Nat.reduceEqDiff, Nat.left_eq_add, Nat.add_eq_left, nm_ne2, nm_en2, nm_ne3, nm_en3, nm_ne4, nm_en4, nm_ne5, nm_en5, reduceIte, ↓reduceIte] <;> first | rfl | ((repeat rw [if_neg (by omega)]) <;> rfl)) ?_ | refine HLe.skip hnm (by omega) ?_ | refine HLe.frz hnm (by omega) ?_ | refine HLe.del hnm (by omega) ?_)) (by (repeat first | exact HLt.mono hnm (by simp only [] <;> omega) | refine HLt.cons (by simp only [] <;> omega) (by simp only [Tok.lt, SV.ltL, SV.lt, and_true, true_and] <;> omega) ?_)) (by simp only [] <;> omega)
            | true =>
              have e1' : IntKind.i64.wrap (1 * 2 ^ min j 64) = ((2 ^ j : Nat) : Int) := by
                have := shl_i64 (n := j) (by omega)
                rwa [Int.toNat_natCast] at this
              have ec := clr_i64 (x := i) (i := j) (by omega) (by omega) hb
              obtain ⟨P2, hP2⟩ : ∃ P, thoseL l (clr i j : Int) l.length = P := ⟨_, rfl⟩
              have hpk2 : pickL l (clr i j) = P2 := hP2
              obtain ⟨s1, hs1⟩ : ∃ b, S P2 = b := ⟨_, rfl⟩
              have hlb : lessB S l i j = s1 := by unfold lessB; rw [hb, hpk2, hs1]; rfl
              rw [hlb] at hsa
              simp only [go_sem, goD_calls, eq_self, implies_true, Int.reduceEq, Int.reduceBEq, Int.reduceBNe, Int.reduceLE, Int.reduceLT, Int.reduceAdd, Int.reduceSub, Int.reduceMul, Int.reduceNeg, Nat.reduceMul, Nat.reduceSub, Nat.reduceLeDiff, Nat.reduceLT, Nat.reduceEqDiff, Nat.reduceAdd, reduceCtorEq, ↓reduceIte, reduceIte, c2, cu, cb, e1', ec, spR6picked, spR6Has, hl1000, hP2, Int.toNat_natCast, min_i64, max_i64]
              refine ⟨by omega, by omega, .dat (.slice 3) (.list P2), fun nx' => ⟨rfl, rfl⟩, trivial, .bool (hasP (amI P2) L), fun nx' => ⟨rfl, rfl, hwf, hlen, hnl, rfl, rfl⟩, trivial, ?_⟩
              cases s1 with
              | false =>
                rw [Bool.not_false, Bool.and_true] at hsa
                rw [hsa] at next2
                simp only [go_sem, goD_calls, eq_self, implies_true, Int.reduceEq, Int.reduceBEq, Int.reduceBNe, Int.reduceLE, Int.reduceLT, Int.reduceAdd, Int.reduceSub, Int.reduceMul, Int.reduceNeg, Nat.reduceMul, Nat.reduceSub, Nat.reduceLeDiff, Nat.reduceLT, Nat.reduceEqDiff, Nat.reduceAdd, reduceCtorEq, ↓reduceIte, reduceIte, hS', hs1, min_i64, max_i64]
                repeat refine ⟨by omega, ?_⟩
                refine next2 _ ?_
                refine leq_id (by simp only [frEq_cons, frEq_nil, frIn_cons, frIn_nil, and_true, fget_cons, Nat.reduceEqDiff, reduceIte, ↓reduceIte, true_and, SV.ren, SV.renL, ren1] <;> (try rfl) <;> (try simp)) (by (simp only [frLt_cons, frLt_nil, and_true, SV.lt, SV.ltL, true_and] <;> omega)) (by ((try simp only []); repeat first | exact HLe.refl _ | refine HLe.cons (by simp only [hget, Nat.reduceEqDiff, Nat.left_eq_add, Nat.add_eq_left, nm_ne2, nm_en2, nm_ne3, nm_en3, nm_ne4, nm_en4, nm_ne5, nm_en5, reduceIte, ↓reduceIte] <;> first | rfl | ((repeat rw [if_neg (by omega)]) <;> rfl)) ?_ | refine HLe.skip hnm (by omega) ?_ | refine HLe.frz hnm (by omega) ?_ | refine HLe.del hnm (by omega) ?_)) (by (repeat first | exact HLt.mono hnm (by simp only [] <;> omega) | refine HLt.cons (by simp only [] <;> omega) (by simp only [Tok.lt, SV.ltL, SV.lt, and_true, true_and] <;> omega) ?_)) (by simp only [] <;> omega)
              | true =>
                rw [Bool.not_true, Bool.and_false] at hsa
                rw [hsa] at next2
                simp only [go_sem, goD_calls, eq_self, implies_true, Int.reduceEq, Int.reduceBEq, Int.reduceBNe, Int.reduceLE, Int.reduceLT, Int.reduceAdd, Int.reduceSub, Int.reduceMul, Int.reduceNeg, Nat.reduceMul, Nat.reduceSub, Nat.reduceLeDiff, Nat.reduceLT, Nat.reduceEqDiff, Nat.reduceAdd, reduceCtorEq, ↓reduceIte, reduceIte, hS', hs1, min_i64, max_i64]
                repeat refine ⟨by omega, ?_⟩
                refine next2 _ ?_
                refine leq_id (by simp only [frEq_cons, frEq_nil, frIn_cons, frIn_nil, and_true, fget_cons, Nat.reduceEqDiff, reduceIte, ↓reduceIte, true_and, SV.ren, SV.renL, ren1] <;> (try rfl) <;> (try simp)) (by (simp only [frLt_cons, frLt_nil, and_true, SV.lt, SV.ltL, true_and] <;> omega)) (by ((try simp only []); repeat first | exact HLe.refl _ | refine HLe.cons (by simp only [hget, Nat.reduceEqDiff, Nat.left_eq_add, Nat.add_eq_left, nm_ne2, nm_en2, nm_ne3, nm_en3, nm_ne4, nm_en4, nm_ne5, nm_en5, reduceIte, ↓reduceIte] <;> first | rfl | ((repeat rw [if_neg (by omega)]) <;> rfl)) ?_ | refine HLe.skip hnm (by omega) ?_ | refine HLe.frz hnm (by omega) ?_ | refine HLe.del hnm (by omega) ?_)) (by (repeat first | exact HLt.mono hnm (by simp only [] <;> omega) | refine HLt.cons (by simp only [] <;> omega) (by simp only [Tok.lt, SV.ltL, SV.lt, and_true, true_and] <;> omega) ?_)) (by simp only [] <;> omega)
          · obtain rfl : j = l.length := by omega
            have c2 : decide ((l.length : Int) < (l.length : Int)) = false := decide_eq_false (by omega)
            obtain ⟨b, hb⟩ : ∃ b, allN S l i l.length = b := ⟨_, rfl⟩
            have hlb : leastB S l i = b := by unfold leastB; rw [hpk, hs0]; unfold allN at hb; rw [hb]; rfl
            rw [hlb, hpk] at hst
            rw [hst] at next
            cases b with
            | false =>
              rw [if_neg (by decide), List.append_nil] at next
              simp only [go_sem, goD_calls, eq_self, implies_true, Int.reduceEq, Int.reduceBEq, Int.reduceBNe, Int.reduceLE, Int.reduceLT, Int.reduceAdd, Int.reduceSub, Int.reduceMul, Int.reduceNeg, Nat.reduceMul, Nat.reduceSub, Nat.reduceLeDiff, Nat.reduceLT, Nat.reduceEqDiff, Nat.reduceAdd, reduceCtorEq, ↓reduceIte, reduceIte, c2, hb, min_i64, max_i64]
              repeat refine ⟨by omega, ?_⟩
              refine next _ ?_
              refine leq_id (by simp only [frEq_cons, frEq_nil, frIn_cons, frIn_nil, and_true, fget_cons, Nat.reduceEqDiff, reduceIte, ↓reduceIte, true_and, SV.ren, SV.renL, ren1] <;> (try rfl) <;> (try simp)) (by (simp only [frLt_cons, frLt_nil, and_true, SV.lt, SV.ltL, true_and] <;> omega)) (by ((try simp only []); repeat first | exact HLe.refl _ | refine HLe.cons (by simp only [hget, Nat.reduceEqDiff, Nat.left_eq_add, Nat.add_eq_left, nm_ne2, nm_en2, nm_ne3, nm_en3, nm_ne4, nm_en4, nm_ne5, nm_en5, reduceIte, ↓reduceIte] <;> first | rfl | ((repeat rw [if_neg (by omega)]) <;> rfl)) ?_ | refine HLe.skip hnm (by omega) ?_ | refine HLe.frz hnm (by omega) ?_ | refine HLe.del hnm (by omega) ?_)) (by (repeat first | exact HLt.mono hnm (by simp only [] <;> omega) | refine HLt.cons (by simp only [] <;> omega) (by simp only [Tok.lt, SV.ltL, SV.lt, and_true, true_and] <;> omega) ?_)) (by simp only [] <;> omega)
            | true =>
              rw [if_pos rfl] at next
              simp only [go_sem, goD_calls, eq_self, implies_true, Int.reduceEq, Int.reduceBEq, Int.reduceBNe, Int.reduceLE, Int.reduceLT, Int.reduceAdd, Int.reduceSub, Int.reduceMul, Int.reduceNeg, Nat.reduceMul, Nat.reduceSub, Nat.reduceLeDiff, Nat.reduceLT, Nat.reduceEqDiff, Nat.reduceAdd, reduceCtorEq, ↓reduceIte, reduceIte, c2, hb, spR6picked, hl1000, hP, min_i64, max_i64]
              repeat refine ⟨by omega, ?_⟩
              refine next _ ?_
              refine leq_news [(nx, nx), (nx + 1, nx + 2 + 64 + 1)] [(nx, .cells [.dat (.slice 79) (.list L)]), (nx + 1, .arr 24 (.slice 3) (leastUp S l i ++ [.list P]))] (.refl _) (by simp) (by simp <;> omega) (by simp <;> omega) rfl ?_ ?_ ?_ ?_ hnm ?_ ?_
              · simp [frIn_cons, frIn_nil, fget_cons, fget_nil, SV.ren, SV.renL, rens]
              · (simp only [frLt_cons, frLt_nil, and_true, SV.lt, SV.ltL, true_and] <;> omega)
              · (simp only [List.mem_cons, List.not_mem_nil, or_false, forall_eq_or_imp, forall_eq]; simp [hget, rens, Tok.ren, SV.ren, SV.renL])
                all_goals try (repeat rw [if_neg (by omega)])
              · (simp only [List.mem_cons, List.not_mem_nil, or_false, forall_eq_or_imp, forall_eq, Tok.lt, SV.lt, SV.ltL, and_true, true_and] <;> omega)
              · ((try simp only []); repeat first | exact HLe.refl _ | refine HLe.cons (by simp only [hget, Nat.reduceEqDiff, Nat.left_eq_add, Nat.add_eq_left, nm_ne2, nm_en2, nm_ne3, nm_en3, nm_ne4, nm_en4, nm_ne5, nm_en5, reduceIte, ↓reduceIte] <;> first | rfl | ((repeat rw [if_neg (by omega)]) <;> rfl)) ?_ | refine HLe.skip hnm (by omega) ?_ | refine HLe.frz hnm (by omega) ?_ | refine HLe.del hnm (by omega) ?_)
              · omega
      · obtain rfl : i = X := by omega
        have c1 : decide ((i : Int) < (i : Int)) = false := decide_eq_false (by omega)
        simp only [go_sem, goD_calls, eq_self, implies_true, Int.reduceEq, Int.reduceBEq, Int.reduceBNe, Int.reduceLE, Int.reduceLT, Int.reduceAdd, Int.reduceSub, Int.reduceMul, Int.reduceNeg, Nat.reduceMul, Nat.reduceSub, Nat.reduceLeDiff, Nat.reduceLT, Nat.reduceEqDiff, Nat.reduceAdd, reduceCtorEq, ↓reduceIte, reduceIte, c1, cl, e1]
        refine ⟨by omega, ?_⟩
        refine (hQ _ ?_).1
        refine fin_new (p := True ∧ True) (xs := [.vec (nx + 1)]) rfl ⟨trivial, trivial⟩ (.frz (nx + 1) (.refl _)) [] (.dat (.slice 24) (.list (leastUp S l i))) [] (by simp) (by simp) (by simp) ?_ trivial rfl (by simp) (by simp) hnm ?_ hK
        · simp only [mkR, go_sem, goD_calls, eq_self, implies_true, Int.reduceEq, Int.reduceBEq, Int.reduceBNe, Int.reduceLE, Int.reduceLT, Int.reduceAdd, Int.reduceSub, Int.reduceMul, Int.reduceNeg, Nat.reduceMul, Nat.reduceSub, Nat.reduceLeDiff, Nat.reduceLT, Nat.reduceEqDiff, Nat.reduceAdd, reduceCtorEq, ↓reduceIte, reduceIte, SV.ren, SV.renL, rens]
        · simp only [mkR, go_sem, goD_calls, eq_self, implies_true, Int.reduceEq, Int.reduceBEq, Int.reduceBNe, Int.reduceLE, Int.reduceLT, Int.reduceAdd, Int.reduceSub, Int.reduceMul, Int.reduceNeg, Nat.reduceMul, Nat.reduceSub, Nat.reduceLeDiff, Nat.reduceLT, Nat.reduceEqDiff, Nat.reduceAdd, reduceCtorEq, ↓reduceIte, reduceIte] <;> ((try simp only []); repeat first | exact HLe.refl _ | refine HLe.cons (by simp only [hget, Nat.reduceEqDiff, Nat.left_eq_add, Nat.add_eq_left, nm_ne2, nm_en2, nm_ne3, nm_en3, nm_ne4, nm_en4, nm_ne5, nm_en5, reduceIte, ↓reduceIte] <;> first | rfl | ((repeat rw [if_neg (by omega)]) <;> rfl)) ?_ | refine HLe.skip hnm (by omega) ?_ | refine HLe.frz hnm (by omega) ?_ | refine HLe.del hnm (by omega) ?_)
  · exact hsp.elim

def refOk (L : List D) : Prop := wfP 0 L ∧ L.length ≤ 1000 ∧ (∀ x ∈ L, (rL x).length ≤ 1000) ∧ (allL L).length ≤ 100000 ∧ (riseL (allL L)).length ≤ 9
def hasL (L s : List D) : Bool := hasP (amI s) L
theorem ref_all1 {x : Option QP} (h : okQ x) : (allL (refQ x)).length ≤ 1000 := by
    cases x with
    | none => exact Nat.zero_le _
    | some q =>
      have := parts_i q
      have e : (allL q.parts).length = q.all.length := by rw [← this, List.length_map]
      show (allL q.parts).length ≤ 1000
      rw [e]
      have h6 := h.2.2.2.2.2
      have h4 := h.2.2.2.1
      omega
theorem ref_all {x : Option QP} (h : okQ x) : ((allL (refQ x)).length ≤ 100000) = True := eq_true (by have := ref_all1 h; omega)
theorem ref_ok {x : Option QP} (h : okQ x) (h9 : (riseL (allL (refQ x))).length ≤ 9) : refOk (refQ x) := by
  have h1 := ref_len h
  have ha := ref_all1 h
  refine ⟨?_, by omega, fun d hd => ?_, by omega, h9⟩
  · cases x with
    | none => intro i hi; exact absurd hi (by simp [refQ])
    | some q => exact q.parts_wf0
  · refine Nat.le_trans ?_ ha
    obtain ⟨s, t, e⟩ := List.append_of_mem hd
    unfold allL
    rw [e, List.flatMap_append, List.flatMap_cons, List.length_append, List.length_append]
    omega
end Go.Proofs.YtkmilijehekdoaaDoor
