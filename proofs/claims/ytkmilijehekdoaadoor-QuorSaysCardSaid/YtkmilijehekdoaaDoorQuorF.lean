/- Chapter 6: And, Or, of what may be no set. -/
import Derived.Test.YtkmilijehekdoaaDoorQuorZ
import Derived.Test.YtkmilijehekdoaaDoorQuorI
namespace Go.Proofs.YtkmilijehekdoaaDoor
set_option linter.unusedVariables false
set_option linter.unusedSimpArgs false
open Go Go.Fw
attribute [local go_sem] walkSet evMdl evMupD evMup evLkp frpL eltP eltV eltK preF preP prePt prePd frzP evNlq ev frOf oget ogets argSs argS evCat evMm frzL evBin evWrp evShf evCmp evUna evNil evBeq evLd evSt evFad evIad evAad evLen evSln evEls evApp evParts evSlc evNlc evMif evPck evFld evBld evTas evIfq evSeq evSl0 evBxf evAgl evAgq evBsf hget hset hdel cellAt arrAt setCellAt setArrAt takeC lenC svCells SV.okc SV.one ldSV Fw.isAgg explode explodeL toD toDL toD1 Ty.size Ty.sizeL frz1 Fr.sub Heap.sub Tok.sub SV.sub SV.subL

def progD : Option QP → D
  | none => .node [.nil, .list [], .int 0]
  | some q => .node [q.enc, .list (nodesL q), .int q.leaves]
def refD (o : Option QP) : D := .node [.list (refQ o)]
/-- What a call may answer for it. -/
def isProg (o : Option QP) (r : SV) : Prop := ∃ p l n, progD o = .node [p, .list l, .int n] ∧ (r = setOf p l n ∨ (l = [] ∧ r = setA p .nils n))
theorem prog_none : isProg none qNone := ⟨_, _, _, rfl, .inr ⟨rfl, rfl⟩⟩
theorem prog_some (q : QP) : isProg (some q) (setOf q.enc (nodesL q) q.leaves) := ⟨_, _, _, rfl, .inl rfl⟩
theorem prog_two {kind : Int} (hk : kind = 1 ∨ kind = 2) (x y : QP) : isProg (twoQ kind (some x) (some y)) (bothR kind x.enc y.enc (nodesL x) (nodesL y) x.leaves y.leaves) := by
  rw [both_prog hk]
  cases twoQ kind (some x) (some y) with
  | none => exact prog_none
  | some q => exact prog_some q
def spQTwo (kind : Int) : FSpec := fun args h nx K => match args with
  | [.agg [.dat (.ptr t) pa, .dat (.slice s) la, .int .i64 na], .agg [.dat (.ptr t') pb, .dat (.slice s') lb, .int .i64 nb]] => t = 65 ∧ t' = 65 ∧ s = 3 ∧ s' = 3 ∧ ∃ x y, okQ x ∧ okQ y ∧ progD x = .node [pa, la, .int na] ∧ progD y = .node [pb, lb, .int nb] ∧ ∀ r, isProg (twoQ kind x y) r → K r h
  | _ => False
theorem prog_inv {x : Option QP} {p l : D} {n : Int} (h : progD x = .node [p, l, .int n]) : (x = none ∧ p = .nil ∧ l = .list [] ∧ n = 0) ∨ ∃ q, x = some q ∧ p = q.enc ∧ l = .list (nodesL q) ∧ n = q.leaves := by
  cases x with
  | none =>
    simp only [progD, D.node.injEq, List.cons.injEq, D.int.injEq, and_true] at h
    exact .inl ⟨rfl, h.1.symm, h.2.1.symm, h.2.2.symm⟩
  | some q =>
    simp only [progD, D.node.injEq, List.cons.injEq, D.int.injEq, and_true] at h
    exact .inr ⟨q, rfl, h.1.symm, h.2.1.symm, h.2.2.symm⟩
theorem vQTwo1 {E : Nat → Value} (hE : Errs2 Tryd.prog (some 152) E) : Valid Tryd.prog E (gs []) 22 (spQTwo 1) := by
  intro args h o nx K ρ H w vs hsp
  unfold spQTwo at hsp
  split at hsp
  · rename_i t pa s la na t' pb s' lb nb
    obtain ⟨rfl, rfl, rfl, rfl, x, y, hx, hy, ex, ey, hK⟩ := hsp
    refine vQAnd hE _ _ _ _ _ _ _ _ _ ⟨rfl, rfl, ?_⟩
    rcases prog_inv ex with ⟨rfl, rfl, rfl, rfl⟩ | ⟨x, rfl, rfl, rfl, rfl⟩
    · exact .inl ⟨rfl, hK _ prog_none⟩
    · rcases prog_inv ey with ⟨rfl, rfl, rfl, rfl⟩ | ⟨y, rfl, rfl, rfl, rfl⟩
      · exact .inr (.inl ⟨rfl, hK _ prog_none⟩)
      · obtain ⟨_, _, _, a4, a5, _⟩ := hx
        obtain ⟨_, _, _, b4, b5, _⟩ := hy
        exact .inr (.inr ⟨_, _, rfl, rfl, QP.enc_notNil _, QP.enc_notNil _, by show (nodesL x).length ≤ 1000; omega, by show (nodesL y).length ≤ 1000; omega, by omega, by omega, by omega, by omega, hK _ (prog_two (.inl rfl) x y)⟩)
  · exact hsp.elim
theorem vQTwo2 {E : Nat → Value} (hE : Errs2 Tryd.prog (some 152) E) : Valid Tryd.prog E (gs []) 21 (spQTwo 2) := by
  intro args h o nx K ρ H w vs hsp
  unfold spQTwo at hsp
  split at hsp
  · rename_i t pa s la na t' pb s' lb nb
    obtain ⟨rfl, rfl, rfl, rfl, x, y, hx, hy, ex, ey, hK⟩ := hsp
    refine vQOr hE _ _ _ _ _ _ _ _ _ ⟨rfl, rfl, ?_⟩
    rcases prog_inv ex with ⟨rfl, rfl, rfl, rfl⟩ | ⟨x, rfl, rfl, rfl, rfl⟩
    · rcases prog_inv ey with ⟨rfl, rfl, rfl, rfl⟩ | ⟨y, rfl, rfl, rfl, rfl⟩
      · exact .inl ⟨rfl, .inr ⟨_, rfl⟩, .inr ⟨_, rfl⟩, hK _ ⟨_, _, _, rfl, .inl rfl⟩⟩
      · exact .inl ⟨rfl, .inr ⟨_, rfl⟩, .inr ⟨_, rfl⟩, hK _ (prog_some y)⟩
    · rcases prog_inv ey with ⟨rfl, rfl, rfl, rfl⟩ | ⟨y, rfl, rfl, rfl, rfl⟩
      · exact .inr (.inl ⟨QP.enc_notNil _, rfl, .inr ⟨_, rfl⟩, .inr ⟨_, rfl⟩, hK _ (prog_some x)⟩)
      · obtain ⟨_, _, _, a4, a5, _⟩ := hx
        obtain ⟨_, _, _, b4, b5, _⟩ := hy
        exact .inr (.inr ⟨_, _, rfl, rfl, QP.enc_notNil _, QP.enc_notNil _, by show (nodesL x).length ≤ 1000; omega, by show (nodesL y).length ≤ 1000; omega, by omega, by omega, by omega, by omega, hK _ (prog_two (.inr rfl) x y)⟩)
  · exact hsp.elim
/-! ### The document's -/
theorem ref_len {x : Option QP} (h : okQ x) : (refQ x).length ≤ 31 ∧ formP (refQ x) := by
  cases x with
  | none => exact ⟨Nat.zero_le _, fun d hd => by cases hd⟩
  | some q => exact ⟨(form_ok h).2, (form_ok h).1⟩
def WR6And : Opts := mkWE 8 [] [] [] 152 [] []
def icR6And : IC := (.seq (.seq (.ops [(.u (.box 2 0 (.s 0))), (.u (.box 3 0 (.s 1))), (.u (.alc 4 [.nils]))]) (.tr [2, 3, 4])) (.seq (.seq (.ops [(.u (.ld 5 (.strct [(.slice 79)]) (.s 2))), (.u (.ld 6 (.strct [(.slice 79)]) (.s 3))), (.u (.call 7 (.c (.clo 54 [])) [(.c (.int .i64 1)), (.s 5), (.s 6)] [none, none, none] true)), (.u (.st (.strct [(.slice 79)]) (.s 4) (.s 7)))]) (.tr [4])) .ret))
def rsR6And : List RV := [(.c 4 (.strct [(.slice 79)]))]
theorem irR6And : fnIR Tryd.prog WR6And 40 = some (icR6And, rsR6And) := by kernel_rfl
def spR6And : FSpec := fun args h nx K => match args with
  | [.agg [.dat (.slice t) a], .agg [.dat (.slice t') b]] => t = 79 ∧ t' = 79 ∧ ∃ x y, okQ x ∧ okQ y ∧ a = .list (refQ x) ∧ b = .list (refQ y) ∧ K (refV (refQ (twoQ 1 x y))) h
  | _ => False
set_option maxHeartbeats 4000000 in
set_option maxRecDepth 8000 in
theorem vR6And {E : Nat → Value} (hE : Errs2 Tryd.prog (some 152) E) : Valid Tryd.prog E (gs []) 40 spR6And := by
  refine valid_go (W := WR6And) hE (allValid_bot.add (up (vR6two hE))) irR6And (by decide) (fun args h nx K hsp hok hnm => ?_)
  unfold spR6And at hsp
  split at hsp
  · rename_i t a t' b
    obtain ⟨rfl, rfl, x, y, hx, hy, rfl, rfl, hK⟩ := hsp
    refine ⟨by simp [WR6And, mkW, mkWE, mkWF], fun Q hQ => ?_⟩
    have l1 := ref_len hx
    have l2 := ref_len hy
    have e := two_ref (kind := 1) (.inl rfl) x y
    have e2 := two_all (kind := 1) (.inl rfl) hx hy
    have hxl : (refQ x).length ≤ 1000 := by omega
    have hyl : (refQ y).length ≤ 1000 := by omega
    simp only [icR6And, go_sem, goD_calls, eq_self, implies_true, Int.reduceEq, Int.reduceBEq, Int.reduceBNe, Int.reduceLE, Int.reduceLT, Int.reduceAdd, Int.reduceSub, Int.reduceMul, Int.reduceNeg, Nat.reduceMul, Nat.reduceSub, Nat.reduceLeDiff, Nat.reduceLT, Nat.reduceEqDiff, Nat.reduceAdd, reduceCtorEq, ↓reduceIte, reduceIte, spR6two, hxl, hyl, l2.2, e2, e, refV]
    refine ⟨by decide, ?_⟩
    refine (hQ _ ?_).1
    refine fin_same (p := True) (xs := [refV (refQ (twoQ 1 x y))]) ?_ trivial (fun π => rfl) ?_ hnm (by ((try simp only []); repeat first | exact HLe.refl _ | refine HLe.cons (by simp only [hget, Nat.reduceEqDiff, Nat.left_eq_add, Nat.add_eq_left, nm_ne2, nm_en2, nm_ne3, nm_en3, nm_ne4, nm_en4, nm_ne5, nm_en5, reduceIte, ↓reduceIte] <;> first | rfl | ((repeat rw [if_neg (by omega)]) <;> rfl)) ?_ | refine HLe.skip hnm (by omega) ?_ | refine HLe.frz hnm (by omega) ?_ | refine HLe.del hnm (by omega) ?_)) hK
    · simp only [rsR6And, evRs, evR, go_sem, goD_calls, eq_self, implies_true, Int.reduceEq, Int.reduceBEq, Int.reduceBNe, Int.reduceLE, Int.reduceLT, Int.reduceAdd, Int.reduceSub, Int.reduceMul, Int.reduceNeg, Nat.reduceMul, Nat.reduceSub, Nat.reduceLeDiff, Nat.reduceLT, Nat.reduceEqDiff, Nat.reduceAdd, reduceCtorEq, ↓reduceIte, reduceIte, refV]
    · exact ⟨trivial, trivial⟩
  · exact hsp.elim
def WR6Or : Opts := mkWE 8 [] [] [] 152 [] []
def icR6Or : IC := (.seq (.seq (.ops [(.u (.box 2 0 (.s 0))), (.u (.box 3 0 (.s 1))), (.u (.alc 4 [.nils]))]) (.tr [2, 3, 4])) (.seq (.seq (.ops [(.u (.ld 5 (.strct [(.slice 79)]) (.s 2))), (.u (.ld 6 (.strct [(.slice 79)]) (.s 3))), (.u (.call 7 (.c (.clo 54 [])) [(.c (.int .i64 2)), (.s 5), (.s 6)] [none, none, none] true)), (.u (.st (.strct [(.slice 79)]) (.s 4) (.s 7)))]) (.tr [4])) .ret))
def rsR6Or : List RV := [(.c 4 (.strct [(.slice 79)]))]
theorem irR6Or : fnIR Tryd.prog WR6Or 41 = some (icR6Or, rsR6Or) := by kernel_rfl
def spR6Or : FSpec := fun args h nx K => match args with
  | [.agg [.dat (.slice t) a], .agg [.dat (.slice t') b]] => t = 79 ∧ t' = 79 ∧ ∃ x y, okQ x ∧ okQ y ∧ a = .list (refQ x) ∧ b = .list (refQ y) ∧ K (refV (refQ (twoQ 2 x y))) h
  | _ => False
set_option maxHeartbeats 4000000 in
set_option maxRecDepth 8000 in
theorem vR6Or {E : Nat → Value} (hE : Errs2 Tryd.prog (some 152) E) : Valid Tryd.prog E (gs []) 41 spR6Or := by
  refine valid_go (W := WR6Or) hE (allValid_bot.add (up (vR6two hE))) irR6Or (by decide) (fun args h nx K hsp hok hnm => ?_)
  unfold spR6Or at hsp
  split at hsp
  · rename_i t a t' b
    obtain ⟨rfl, rfl, x, y, hx, hy, rfl, rfl, hK⟩ := hsp
    refine ⟨by simp [WR6Or, mkW, mkWE, mkWF], fun Q hQ => ?_⟩
    have l1 := ref_len hx
    have l2 := ref_len hy
    have e := two_ref (kind := 2) (.inr rfl) x y
    have e2 := two_all (kind := 2) (.inr rfl) hx hy
    have hxl : (refQ x).length ≤ 1000 := by omega
    have hyl : (refQ y).length ≤ 1000 := by omega
    simp only [icR6Or, go_sem, goD_calls, eq_self, implies_true, Int.reduceEq, Int.reduceBEq, Int.reduceBNe, Int.reduceLE, Int.reduceLT, Int.reduceAdd, Int.reduceSub, Int.reduceMul, Int.reduceNeg, Nat.reduceMul, Nat.reduceSub, Nat.reduceLeDiff, Nat.reduceLT, Nat.reduceEqDiff, Nat.reduceAdd, reduceCtorEq, ↓reduceIte, reduceIte, spR6two, hxl, hyl, l2.2, e2, e, refV]
    refine ⟨by decide, ?_⟩
    refine (hQ _ ?_).1
    refine fin_same (p := True) (xs := [refV (refQ (twoQ 2 x y))]) ?_ trivial (fun π => rfl) ?_ hnm (by ((try simp only []); repeat first | exact HLe.refl _ | refine HLe.cons (by simp only [hget, Nat.reduceEqDiff, Nat.left_eq_add, Nat.add_eq_left, nm_ne2, nm_en2, nm_ne3, nm_en3, nm_ne4, nm_en4, nm_ne5, nm_en5, reduceIte, ↓reduceIte] <;> first | rfl | ((repeat rw [if_neg (by omega)]) <;> rfl)) ?_ | refine HLe.skip hnm (by omega) ?_ | refine HLe.frz hnm (by omega) ?_ | refine HLe.del hnm (by omega) ?_)) hK
    · simp only [rsR6Or, evRs, evR, go_sem, goD_calls, eq_self, implies_true, Int.reduceEq, Int.reduceBEq, Int.reduceBNe, Int.reduceLE, Int.reduceLT, Int.reduceAdd, Int.reduceSub, Int.reduceMul, Int.reduceNeg, Nat.reduceMul, Nat.reduceSub, Nat.reduceLeDiff, Nat.reduceLT, Nat.reduceEqDiff, Nat.reduceAdd, reduceCtorEq, ↓reduceIte, reduceIte, refV]
    · exact ⟨trivial, trivial⟩
  · exact hsp.elim
end Go.Proofs.YtkmilijehekdoaaDoor
