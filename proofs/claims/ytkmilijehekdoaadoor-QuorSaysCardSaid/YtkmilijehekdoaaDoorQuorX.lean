/- Chapter 6: the chapter's examples; QuorJoins. -/
import Derived.Test.YtkmilijehekdoaaDoorQuorV
import Derived.Test.YtkmilijehekdoaaDoorQuorM
namespace Go.Proofs.YtkmilijehekdoaaDoor
set_option linter.unusedVariables false
set_option linter.unusedSimpArgs false
open Go Go.Fw
attribute [local go_sem] walkSet evMdl evMupD evMup evLkp frpL eltP eltV eltK preF preP prePt prePd frzP evNlq ev frOf oget ogets argSs argS evMm frzL evBin evWrp evShf evCmp evUna evNil evBeq evLd evSt evFad evIad evAad evLen evSln evEls evApp evParts evSlc evNlc evMif evPck evFld evBld evTas evIfq evSeq evSl0 evBxf evAgl evAgq evBsf hget hset hdel cellAt arrAt setCellAt setArrAt takeC lenC svCells SV.okc SV.one ldSV Fw.isAgg explode explodeL toD toDL toD1 Ty.size Ty.sizeL frz1 Fr.sub Heap.sub Tok.sub SV.sub SV.subL

open Classical in
noncomputable def decQ (p : D) : Option QP := if h : ∃ q : QP, p = q.enc then some (Classical.choose h) else none
theorem decQ_enc (q : QP) : decQ q.enc = some q := by
  unfold decQ
  have h : ∃ q' : QP, q.enc = q'.enc := ⟨q, rfl⟩
  rw [dif_pos h]
  rw [← QP.enc_inj (Classical.choose_spec h)]
theorem decQ_nil : decQ .nil = none := by
  unfold decQ
  rw [dif_neg]
  rintro ⟨q, h⟩
  cases q <;> cases h
noncomputable def meetsV (pa : D) (la : List D) (pb : D) (lb : List D) : Bool := match decQ pa, decQ pb with
  | some qa, some qb => meetsB qa la qb lb
  | _, _ => true
theorem meetsV_enc (qa qb : QP) (la lb : List D) : meetsV qa.enc la qb.enc lb = meetsB qa la qb lb := by unfold meetsV; rw [decQ_enc, decQ_enc]
theorem meetsV_nil (qb : D) (la lb : List D) : meetsV .nil la qb lb = true := by unfold meetsV; rw [decQ_nil]
theorem meetsV_nil2 (qa : D) (la lb : List D) : meetsV qa la .nil lb = true := by unfold meetsV; rw [decQ_nil]; cases decQ qa <;> rfl
def spQMeetsV : FSpec := fun args h nx K => match args with
  | [.agg [.dat (.ptr t) pa, .dat (.slice t1) la, .int .i64 na], .agg [.dat (.ptr t') pb, .dat (.slice t2) lb, .int .i64 nb]] => t = 65 ∧ t' = 65 ∧ t1 = 3 ∧ t2 = 3 ∧ okD pa ∧ okD pb ∧ la.l.length ≤ 16 ∧ (∃ l, la = .list l) ∧ (∃ l, lb = .list l) ∧ K (.bool (meetsV pa la.l pb lb.l)) h
  | _ => False
theorem vQMeetsV {E : Nat → Value} (hE : Errs2 Tryd.prog (some 152) E) : Valid Tryd.prog E (gs []) 15 spQMeetsV := by
  intro args h o nx K ρ H w vs hsp
  unfold spQMeetsV at hsp
  split at hsp
  · rename_i t pa t1 la na t' pb t2 lb nb
    obtain ⟨rfl, rfl, rfl, rfl, ha, hb, hl, ⟨l1, rfl⟩, ⟨l2, rfl⟩, hK⟩ := hsp
    refine vQMeets hE _ _ _ _ _ _ _ _ _ ⟨rfl, rfl, ?_⟩
    rcases ha with rfl | ⟨qa, rfl, ha⟩
    · rw [meetsV_nil] at hK; exact .inl ⟨rfl, hK⟩
    · rcases hb with rfl | ⟨qb, rfl, hb⟩
      · rw [meetsV_nil2] at hK; exact .inr (.inl ⟨rfl, hK⟩)
      · rw [meetsV_enc] at hK
        exact .inr (.inr ⟨qa, qb, l1, l2, rfl, rfl, rfl, rfl, ha, hb, hl, hK⟩)
  · exact hsp.elim

theorem ex_list (l : List D) : (∃ l', D.list l = .list l') = True := eq_true ⟨l, rfl⟩
theorem of_okZ {k : Int} {S : List Int} (hr : ∀ x ∈ S, 0 ≤ x ∧ x < 64) (hl : S.length ≤ 1000) : (QP.of k S).ok := ⟨hr, hl⟩
def WL6first : Opts := mkWE 37 [] [0, 1] [] 152 [0, 1] []
def icL6first : IC := (.seq (.seq (.ops [(.u (.mov 0 (.c (.bool false))))]) (.tr [])) (.seq (.seq (.ops [(.u (.bsl 6 3 (.int .i64) [(.c (.int .i64 0)), (.c (.int .i64 1)), (.c (.int .i64 2)), (.c (.int .i64 3)), (.c (.int .i64 4)), (.c (.int .i64 5))])), (.u (.call 7 (.c (.clo 13 [])) [(.c (.int .i64 4)), (.s 6)] [none, (some 3)] true)), (.u (.mov 5 (.s 7))), (.u (.ext 8 0 (.s 5))), (.u (.ext 9 1 (.s 5))), (.u (.alc 1 [(.dat (.ptr 65) .nil), .nils, (.int .i64 0)])), (.u (.st (.strct [(.ptr 65), (.slice 3), (.int .i64)]) (.s 1) (.s 8))), (.u (.mov 2 (.s 9)))]) (.tr [2, 1])) (.seq (.seq (.ops [(.u (.bsl 11 3 (.int .i64) [(.c (.int .i64 0)), (.c (.int .i64 1)), (.c (.int .i64 2)), (.c (.int .i64 3)), (.c (.int .i64 4)), (.c (.int .i64 5))])), (.u (.call 12 (.c (.clo 13 [])) [(.c (.int .i64 3)), (.s 11)] [none, (some 3)] true)), (.u (.mov 10 (.s 12))), (.u (.ext 13 0 (.s 10))), (.u (.ext 14 1 (.s 10))), (.u (.alc 3 [(.dat (.ptr 65) .nil), .nils, (.int .i64 0)])), (.u (.st (.strct [(.ptr 65), (.slice 3), (.int .i64)]) (.s 3) (.s 13))), (.u (.mov 4 (.s 14)))]) (.tr [2, 4, 3, 1])) (.seq (.seq (.ops [(.u (.mov 15 (.s 2))), (.u (.eqb 16 false 0 (.s 15))), (.u (.mov 17 (.s 16))), (.g 17 true (some 18) (.mov 18 (.s 4))), (.g 17 true (some 19) (.eqb 19 false 0 (.s 18))), (.u (.pck 20 (.s 17) (.s 19) (.c (.bool false)))), (.u (.mov 21 (.s 20))), (.g 21 true (some 22) (.ld 22 (.strct [(.ptr 65), (.slice 3), (.int .i64)]) (.s 1))), (.g 21 true (some 23) (.ld 23 (.strct [(.ptr 65), (.slice 3), (.int .i64)]) (.s 3))), (.g 21 true (some 24) (.call 24 (.c (.clo 15 [])) [(.s 22), (.s 23)] [none, none] true)), (.u (.pck 25 (.s 21) (.s 24) (.c (.bool false)))), (.u (.mov 26 (.s 25))), (.g 26 true (some 27) (.ld 27 (.strct [(.ptr 65), (.slice 3), (.int .i64)]) (.s 1))), (.g 26 true (some 28) (.bsl 28 3 (.int .i64) [(.c (.int .i64 0)), (.c (.int .i64 1)), (.c (.int .i64 2)), (.c (.int .i64 5))])), (.g 26 true (some 29) (.call 29 (.c (.clo 16 [])) [(.s 27), (.s 28)] [none, (some 3)] true)), (.u (.pck 30 (.s 26) (.s 29) (.c (.bool false)))), (.u (.mov 31 (.s 30))), (.g 31 true (some 32) (.ld 32 (.strct [(.ptr 65), (.slice 3), (.int .i64)]) (.s 1))), (.g 31 true (some 33) (.bsl 33 3 (.int .i64) [(.c (.int .i64 0)), (.c (.int .i64 1)), (.c (.int .i64 2))])), (.g 31 true (some 34) (.call 34 (.c (.clo 16 [])) [(.s 32), (.s 33)] [none, (some 3)] true)), (.g 31 true (some 35) (.una 35 .not (.s 34))), (.u (.pck 36 (.s 31) (.s 35) (.c (.bool false)))), (.u (.mov 0 (.s 36)))]) (.tr [0])) .ret))))
def rsL6first : List RV := [(.t 0)]
theorem irL6first : fnIR Tryd.prog WL6first 11 = some (icL6first, rsL6first) := by kernel_rfl
def spL6first : FSpec := fun args h nx K => match args with
  | [] => K (.bool true) h
  | _ => False
set_option maxHeartbeats 4000000 in
set_option maxRecDepth 8000 in
theorem vL6first {E : Nat → Value} (hE : Errs2 Tryd.prog (some 152) E) : Valid Tryd.prog E (gs GQO) 11 spL6first := by
  refine valid_go (W := WL6first) hE (((allValid_bot.add (up (vQOfS hE))).add (up (vQMeetsV hE))).add (up (vQHasD hE))) irL6first (by decide) (fun args h nx K hsp hok hnm => ?_)
  unfold spL6first at hsp
  split at hsp
  · refine ⟨by simp [WL6first, mkW, mkWE, mkWF], fun Q hQ => ?_⟩
    have hz : ([D.int 0, D.int 1, D.int 2, D.int 3, D.int 4, D.int 5].map D.i) = z6 := rfl
    have hl : ([D.int 0, D.int 1, D.int 2, D.int 3, D.int 4, D.int 5] : List D).length = 6 := rfl
    have hp : z6.Pairwise (· < ·) := by decide
    have hr : ∀ x ∈ z6, 0 ≤ x ∧ x < 64 := by decide
    have i1 : (1 : Int) ≤ 4 := by decide
    have i2 : (4 : Int) ≤ ((6 : Nat) : Int) := by decide
    have i3 : (1 : Int) ≤ 3 := by decide
    have i4 : (3 : Int) ≤ ((6 : Nat) : Int) := by decide
    have i5 : (1 : Nat) ≤ 6 := by decide
    have i6 : (6 : Nat) ≤ 16 := by decide
    have o4 : okD (QP.of 4 z6).enc := okD_enc (of_okZ hr (by decide))
    have o3 : okD (QP.of 3 z6).enc := okD_enc (of_okZ hr (by decide))
    have hml : (z6.map D.int).length ≤ 16 := by decide
    have hm : meetsV (QP.of 4 z6).enc (z6.map D.int) (QP.of 3 z6).enc (z6.map D.int) = true := by rw [meetsV_enc]; exact first_meets
    have h1 : hasD (QP.of 4 z6).enc (inL [.int 0, .int 1, .int 2, .int 5]) = true := by rw [hasD_enc]; decide
    have h2 : hasD (QP.of 4 z6).enc (inL [.int 0, .int 1, .int 2]) = false := by rw [hasD_enc]; decide
    simp (maxSteps := 4000000) only [icL6first, go_sem, goD_calls, eq_self, implies_true, Int.reduceEq, Int.reduceBEq, Int.reduceBNe, Int.reduceLE, Int.reduceLT, Int.reduceAdd, Int.reduceSub, Int.reduceMul, Int.reduceNeg, Nat.reduceMul, Nat.reduceSub, Nat.reduceLeDiff, Nat.reduceLT, Nat.reduceEqDiff, Nat.reduceAdd, reduceCtorEq, ↓reduceIte, reduceIte, spQOfS, spQMeetsV, spQHasD, setOf, hz, hl, hp, i1, i2, i3, i4, i5, i6, o4, o3, hml, hm, h1, h2, ex_list, SV.one]
    refine ⟨hr, hr, ?_⟩
    refine (hQ _ ?_).1
    exact fin_t (.bool _) rfl rfl hnm (by ((try simp only []); repeat first | exact HLe.refl _ | refine HLe.cons (by simp only [hget, Nat.reduceEqDiff, Nat.left_eq_add, Nat.add_eq_left, nm_ne2, nm_en2, nm_ne3, nm_en3, nm_ne4, nm_en4, nm_ne5, nm_en5, reduceIte, ↓reduceIte] <;> first | rfl | ((repeat rw [if_neg (by omega)]) <;> rfl)) ?_ | refine HLe.skip hnm (by omega) ?_ | refine HLe.frz hnm (by omega) ?_ | refine HLe.del hnm (by omega) ?_)) hsp
  · exact hsp.elim
end Go.Proofs.YtkmilijehekdoaaDoor
