/- Chapter 6: Or; the chapter's examples. -/
import Derived.Test.YtkmilijehekdoaaDoorQuorW
import Derived.Test.YtkmilijehekdoaaDoorNum
namespace Go.Proofs.YtkmilijehekdoaaDoor
set_option linter.unusedVariables false
set_option linter.unusedSimpArgs false
open Go Go.Fw
attribute [local go_sem] walkSet evMdl evMupD evMup evLkp frpL eltP eltV eltK preF preP prePt prePd frzP evNlq ev frOf oget ogets argSs argS evMm frzL evBin evWrp evShf evCmp evUna evNil evBeq evLd evSt evFad evIad evAad evLen evSln evEls evApp evParts evSlc evNlc evMif evPck evFld evBld evTas evIfq evSeq evSl0 evBxf evAgl evAgq evBsf hget hset hdel cellAt arrAt setCellAt setArrAt takeC lenC svCells SV.okc SV.one ldSV Fw.isAgg explode explodeL toD toDL toD1 Ty.size Ty.sizeL frz1 Fr.sub Heap.sub Tok.sub SV.sub SV.subL

def WQOr : Opts := mkWE 18 [] [] [] 152 [] []
def icQOr : IC := (.seq (.seq (.ops [(.u (.box 2 0 (.s 0))), (.u (.box 3 0 (.s 1))), (.u (.alc 4 [(.dat (.ptr 65) .nil), .nils, (.int .i64 0)]))]) (.tr [2, 3, 4])) (.seq (.block 0 (.seq (.seq (.ops [(.u (.fad 6 0 0 (.ptr 65) 27 (.s 2))), (.u (.ld 7 (.ptr 65) (.s 6))), (.u (.eqb 8 false 1 (.s 7))), (.u (.mov 5 (.s 8)))]) (.tr [5, 2, 3, 4])) (.cond (.s 5) (.seq (.seq (.ops [(.u (.ld 9 (.strct [(.ptr 65), (.slice 3), (.int .i64)]) (.s 3))), (.u (.st (.strct [(.ptr 65), (.slice 3), (.int .i64)]) (.s 4) (.s 9)))]) (.tr [4])) .ret) (.seq (.seq (.ops [(.u (.fad 11 0 0 (.ptr 65) 27 (.s 3))), (.u (.ld 12 (.ptr 65) (.s 11))), (.u (.eqb 13 false 1 (.s 12))), (.u (.mov 10 (.s 13)))]) (.tr [10, 2, 3, 4])) (.cond (.s 10) (.seq (.seq (.ops [(.u (.ld 14 (.strct [(.ptr 65), (.slice 3), (.int .i64)]) (.s 2))), (.u (.st (.strct [(.ptr 65), (.slice 3), (.int .i64)]) (.s 4) (.s 14)))]) (.tr [4])) .ret) .skip))))) (.seq (.seq (.ops [(.u (.ld 15 (.strct [(.ptr 65), (.slice 3), (.int .i64)]) (.s 2))), (.u (.ld 16 (.strct [(.ptr 65), (.slice 3), (.int .i64)]) (.s 3))), (.u (.call 17 (.c (.clo 43 [])) [(.c (.int .i64 2)), (.s 15), (.s 16)] [none, none, none] true)), (.u (.st (.strct [(.ptr 65), (.slice 3), (.int .i64)]) (.s 4) (.s 17)))]) (.tr [4])) .ret)))
def rsQOr : List RV := [(.c 4 (.strct [(.ptr 65), (.slice 3), (.int .i64)]))]
theorem irQOr : fnIR Tryd.prog WQOr 21 = some (icQOr, rsQOr) := by kernel_rfl
def setA (p : D) (x : SV) (n : Int) : SV := .agg [.dat (.ptr 65) p, x, .int .i64 n]
def sliceX (x : SV) : Prop := x = .nils ∨ ∃ l, x = .dat (.slice 3) (.list l)
/-- Of two sets; each is the zero value, or as in memory. -/
def spQOr : FSpec := fun args h nx K => match args with
  | [.agg [.dat (.ptr t) pa, xa, .int .i64 na], .agg [.dat (.ptr t') pb, xb, .int .i64 nb]] => t = 65 ∧ t' = 65 ∧ ((pa.isNil = true ∧ sliceX xa ∧ sliceX xb ∧ K (setA pb xb nb) h) ∨ (pa.isNil = false ∧ pb.isNil = true ∧ sliceX xa ∧ sliceX xb ∧ K (setA pa xa na) h) ∨ ∃ la lb, xa = .dat (.slice 3) la ∧ xb = .dat (.slice 3) lb ∧ pa.isNil = false ∧ pb.isNil = false ∧ la.l.length ≤ 1000 ∧ lb.l.length ≤ 1000 ∧ 0 ≤ na ∧ na ≤ 1000 ∧ 0 ≤ nb ∧ nb ≤ 1000 ∧ K (bothR 2 pa pb la.l lb.l na nb) h)
  | _ => False
set_option maxHeartbeats 4000000 in
set_option maxRecDepth 8000 in
theorem vQOr {E : Nat → Value} (hE : Errs2 Tryd.prog (some 152) E) : Valid Tryd.prog E (gs []) 21 spQOr := by
  refine valid_go (W := WQOr) hE (allValid_bot.add (up (vQBoth hE))) irQOr (by decide) (fun args h nx K hsp hok hnm => ?_)
  unfold spQOr at hsp
  split at hsp
  · rename_i t pa xa na t' pb xb nb
    obtain ⟨rfl, rfl, hsp⟩ := hsp
    refine ⟨by simp [WQOr, mkW, mkWE, mkWF], fun Q hQ => ?_⟩
    have retA : ∀ p x n h' nx', sliceX x → K (setA p x n) h → HLe h h' → hget h' (nx + 1 + 1) = some (.cells [.dat (.ptr 65) p, x, .int .i64 n]) → Q Ex.ret ⟨[(4, .ptr (nx + 1 + 1) 0)], h', nx'⟩ := fun p x n h' nx' hx hK' hh hg => by
      refine (hQ _ ?_).1
      rcases hx with rfl | ⟨l, rfl⟩
      all_goals
        refine fin_same (p := True) (xs := [setA p _ n]) ?_ trivial (fun π => rfl) ?_ hnm hh hK'
        · simp only [rsQOr, evRs, evR, go_sem, goD_calls, eq_self, implies_true, Int.reduceEq, Int.reduceBEq, Int.reduceBNe, Int.reduceLE, Int.reduceLT, Int.reduceAdd, Int.reduceSub, Int.reduceMul, Int.reduceNeg, Nat.reduceMul, Nat.reduceSub, Nat.reduceLeDiff, Nat.reduceLT, Nat.reduceEqDiff, Nat.reduceAdd, reduceCtorEq, ↓reduceIte, reduceIte, hg, setA]
        · exact ⟨trivial, trivial, trivial, trivial⟩
    rcases hsp with ⟨hp, hxa, hxb, hK⟩ | ⟨pa0, hp, hxa, hxb, hK⟩ | ⟨la, lb, rfl, rfl, pa0, pb0, hla, hlb, a1, a2, b1, b2, hK⟩
    · rcases hxa with rfl | ⟨l1, rfl⟩ <;> rcases hxb with rfl | ⟨l2, rfl⟩
      all_goals
        simp (maxSteps := 4000000) only [icQOr, go_sem, goD_calls, eq_self, implies_true, Int.reduceEq, Int.reduceBEq, Int.reduceBNe, Int.reduceLE, Int.reduceLT, Int.reduceAdd, Int.reduceSub, Int.reduceMul, Int.reduceNeg, Nat.reduceMul, Nat.reduceSub, Nat.reduceLeDiff, Nat.reduceLT, Nat.reduceEqDiff, Nat.reduceAdd, reduceCtorEq, ↓reduceIte, reduceIte, hp]
        exact retA _ _ _ _ _ (by first | exact .inl rfl | exact .inr ⟨_, rfl⟩) hK (by ((try simp only []); repeat first | exact HLe.refl _ | refine HLe.cons (by simp only [hget, Nat.reduceEqDiff, Nat.left_eq_add, Nat.add_eq_left, nm_ne2, nm_en2, nm_ne3, nm_en3, nm_ne4, nm_en4, nm_ne5, nm_en5, reduceIte, ↓reduceIte] <;> first | rfl | ((repeat rw [if_neg (by omega)]) <;> rfl)) ?_ | refine HLe.skip hnm (by omega) ?_ | refine HLe.frz hnm (by omega) ?_ | refine HLe.del hnm (by omega) ?_)) (by simp only [hget, go_sem, goD_calls, eq_self, implies_true, Int.reduceEq, Int.reduceBEq, Int.reduceBNe, Int.reduceLE, Int.reduceLT, Int.reduceAdd, Int.reduceSub, Int.reduceMul, Int.reduceNeg, Nat.reduceMul, Nat.reduceSub, Nat.reduceLeDiff, Nat.reduceLT, Nat.reduceEqDiff, Nat.reduceAdd, reduceCtorEq, ↓reduceIte, reduceIte])
    · rcases hxa with rfl | ⟨l1, rfl⟩ <;> rcases hxb with rfl | ⟨l2, rfl⟩
      all_goals
        simp (maxSteps := 4000000) only [icQOr, go_sem, goD_calls, eq_self, implies_true, Int.reduceEq, Int.reduceBEq, Int.reduceBNe, Int.reduceLE, Int.reduceLT, Int.reduceAdd, Int.reduceSub, Int.reduceMul, Int.reduceNeg, Nat.reduceMul, Nat.reduceSub, Nat.reduceLeDiff, Nat.reduceLT, Nat.reduceEqDiff, Nat.reduceAdd, reduceCtorEq, ↓reduceIte, reduceIte, pa0, hp]
        exact retA _ _ _ _ _ (by first | exact .inl rfl | exact .inr ⟨_, rfl⟩) hK (by ((try simp only []); repeat first | exact HLe.refl _ | refine HLe.cons (by simp only [hget, Nat.reduceEqDiff, Nat.left_eq_add, Nat.add_eq_left, nm_ne2, nm_en2, nm_ne3, nm_en3, nm_ne4, nm_en4, nm_ne5, nm_en5, reduceIte, ↓reduceIte] <;> first | rfl | ((repeat rw [if_neg (by omega)]) <;> rfl)) ?_ | refine HLe.skip hnm (by omega) ?_ | refine HLe.frz hnm (by omega) ?_ | refine HLe.del hnm (by omega) ?_)) (by simp only [hget, go_sem, goD_calls, eq_self, implies_true, Int.reduceEq, Int.reduceBEq, Int.reduceBNe, Int.reduceLE, Int.reduceLT, Int.reduceAdd, Int.reduceSub, Int.reduceMul, Int.reduceNeg, Nat.reduceMul, Nat.reduceSub, Nat.reduceLeDiff, Nat.reduceLT, Nat.reduceEqDiff, Nat.reduceAdd, reduceCtorEq, ↓reduceIte, reduceIte])
    · obtain ⟨p, y, n, hr, hy⟩ := bothR_shape 2 pa pb la.l lb.l na nb
      simp (maxSteps := 4000000) only [icQOr, go_sem, goD_calls, eq_self, implies_true, Int.reduceEq, Int.reduceBEq, Int.reduceBNe, Int.reduceLE, Int.reduceLT, Int.reduceAdd, Int.reduceSub, Int.reduceMul, Int.reduceNeg, Nat.reduceMul, Nat.reduceSub, Nat.reduceLeDiff, Nat.reduceLT, Nat.reduceEqDiff, Nat.reduceAdd, reduceCtorEq, ↓reduceIte, reduceIte, pa0, pb0, spQBoth, hr]
      rw [hr] at hK
      repeat refine ⟨by omega, ?_⟩
      rcases hy with rfl | ⟨l, rfl⟩
      all_goals
        simp (maxSteps := 4000000) only [go_sem, goD_calls, eq_self, implies_true, Int.reduceEq, Int.reduceBEq, Int.reduceBNe, Int.reduceLE, Int.reduceLT, Int.reduceAdd, Int.reduceSub, Int.reduceMul, Int.reduceNeg, Nat.reduceMul, Nat.reduceSub, Nat.reduceLeDiff, Nat.reduceLT, Nat.reduceEqDiff, Nat.reduceAdd, reduceCtorEq, ↓reduceIte, reduceIte]
        refine retA _ _ _ _ _ (by first | exact .inl rfl | exact .inr ⟨_, rfl⟩) hK (by ((try simp only []); repeat first | exact HLe.refl _ | refine HLe.cons (by simp only [hget, Nat.reduceEqDiff, Nat.left_eq_add, Nat.add_eq_left, nm_ne2, nm_en2, nm_ne3, nm_en3, nm_ne4, nm_en4, nm_ne5, nm_en5, reduceIte, ↓reduceIte] <;> first | rfl | ((repeat rw [if_neg (by omega)]) <;> rfl)) ?_ | refine HLe.skip hnm (by omega) ?_ | refine HLe.frz hnm (by omega) ?_ | refine HLe.del hnm (by omega) ?_)) (by simp only [hget, go_sem, goD_calls, eq_self, implies_true, Int.reduceEq, Int.reduceBEq, Int.reduceBNe, Int.reduceLE, Int.reduceLT, Int.reduceAdd, Int.reduceSub, Int.reduceMul, Int.reduceNeg, Nat.reduceMul, Nat.reduceSub, Nat.reduceLeDiff, Nat.reduceLT, Nat.reduceEqDiff, Nat.reduceAdd, reduceCtorEq, ↓reduceIte, reduceIte])
  · exact hsp.elim

/-! ### Good sets -/
theorem goodN_of {S : List Int} (h : S.Pairwise (· < ·)) (hr : ∀ x ∈ S, 0 ≤ x ∧ x < 64) : goodN S := by
  intro i hi
  have e : ∀ j (hj : j < S.length), S.getD j 0 = S[j] := fun j hj => by rw [List.getD_eq_getElem?_getD, List.getElem?_eq_getElem hj]; rfl
  have hm := hr S[i] (List.getElem_mem hi)
  refine ⟨by rw [e i hi]; exact hm.1, by rw [e i hi]; exact hm.2, fun h0 => ?_⟩
  have := List.pairwise_iff_getElem.1 h (i - 1) i (by omega) hi (by omega)
  rw [e i hi, e (i - 1) (by omega)]
  omega
/-- So many of a row that rises. -/
theorem nodes_of {k : Int} {S : List Int} (hk : 1 ≤ k) (hl : S.length ≤ 16) (hr : ∀ x ∈ S, 0 ≤ x ∧ x < 64) : Nodes (QP.of k S) (S.map D.int) := by
  have e : (S.map D.int).map D.i = S := by rw [List.map_map]; exact List.map_id S
  exact ⟨hk, by rw [List.length_map]; exact hl, by rw [e]; exact hr, by rw [e]; exact fun n hn => hn⟩
theorem nodes_two {a b : QP} {la lb : List D} (ha : Nodes a la) (hb : Nodes b lb) (hl : (joinL la lb).length ≤ 16) : Nodes (.an a b) (joinL la lb) ∧ Nodes (.or a b) (joinL la lb) := by
  have hr : ∀ n ∈ (joinL la lb).map D.i, 0 ≤ n ∧ n < 64 := fun n hn => by
    rcases joinL_mem.1 hn with h | h
    · exact ha.rng n h
    · exact hb.rng n h
  have hm : ∀ n ∈ a.all ++ b.all, n ∈ (joinL la lb).map D.i := fun n hn => by
    rcases List.mem_append.1 hn with h | h
    · exact joinL_mem.2 (.inl (ha.mem n h))
    · exact joinL_mem.2 (.inr (hb.mem n h))
  exact ⟨⟨⟨ha.pos, hb.pos⟩, hl, hr, hm⟩, ⟨⟨ha.pos, hb.pos⟩, hl, hr, hm⟩⟩
theorem sD_id {l : List D} (h : (l.map D.i).Pairwise (· < ·)) : sD l = l.map D.i := by
  unfold sD
  exact sortI_id (h.imp (fun h => by omega))
/-- Of, where all is right. -/
def spQOfS : FSpec := fun args h nx K => match args with
  | [.int .i64 k, .dat (.slice t) d] => t = 3 ∧ ((d.l.map D.i).Pairwise (· < ·) ∧ (∀ x ∈ d.l.map D.i, 0 ≤ x ∧ x < 64) ∧ 1 ≤ d.l.length ∧ d.l.length ≤ 16 ∧ 1 ≤ k ∧ k ≤ d.l.length) ∧ K (.tup [setOf (QP.of k (d.l.map D.i)).enc ((d.l.map D.i).map D.int) 1, .dat .iface .nil]) h
  | _ => False
theorem vQOfS {E : Nat → Value} (hE : Errs2 Tryd.prog (some 152) E) : Valid Tryd.prog E (gs GQO) 13 spQOfS := by
  intro args h o nx K ρ H w vs hsp
  unfold spQOfS at hsp
  split at hsp
  · rename_i k t d
    obtain ⟨rfl, ⟨hs, hr, h1, h2, h3, h4⟩, hK⟩ := hsp
    have e := sD_id hs
    refine vQOf hE _ _ _ _ _ _ _ _ _ ⟨rfl, fun hc => by omega, fun _ hc => ?_, fun _ _ => by rw [e]; exact hK⟩
    exact (hc ⟨by rw [e]; exact goodN_of hs hr, h3, h4⟩).elim
  · exact hsp.elim

def l6 : List D := [.int 0, .int 1, .int 2, .int 3, .int 4, .int 5]
def z6 : List Int := [0, 1, 2, 3, 4, 5]
theorem n6 {k : Int} (hk : 1 ≤ k) : Nodes (QP.of k z6) (z6.map D.int) := nodes_of hk (by decide) (by decide)
theorem first_meets : meetsB (QP.of 4 z6) (z6.map D.int) (QP.of 3 z6) (z6.map D.int) = true := by
  rw [meets_sem (n6 (by decide)) (n6 (by decide))]
  intro S h1 h2
  simp only [QP.has, decide_eq_true_eq] at h1 h2
  have := List.length_eq_countP_add_countP S (l := z6)
  have e : z6.countP (fun n => !S n) = z6.countP (fun a => decide ¬ (S a = true)) := List.countP_congr (fun x _ => by cases S x <;> simp)
  have e2 : z6.length = 6 := rfl
  omega
end Go.Proofs.YtkmilijehekdoaaDoor
