/- Chapter 6: QuorSays: what it wants. -/
import Derived.Test.YtkmilijehekdoaaDoorQuorG
import Derived.Test.YtkmilijehekdoaaDoorQuorTb
import Derived.Test.YtkmilijehekdoaaDoorQuorTc
import Derived.Test.YtkmilijehekdoaaDoorInts
namespace Go.Proofs.YtkmilijehekdoaaDoor
set_option linter.unusedVariables false
set_option linter.unusedSimpArgs false
open Go Go.Fw
attribute [local go_sem] walkSet evMdl evMupD evMup evLkp frpL eltP eltV eltK preF preP prePt prePd frzP evNlq ev frOf oget ogets argSs argS evCat evMm frzL evBin evWrp evShf evCmp evUna evNil evBeq evLd evSt evFad evIad evAad evLen evSln evEls evApp evParts evSlc evNlc evMif evPck evFld evBld evTas evIfq evSeq evSl0 evBxf evAgl evAgq evBsf hget hset hdel cellAt arrAt setCellAt setArrAt takeC lenC svCells SV.okc SV.one ldSV Fw.isAgg explode explodeL toD toDL toD1 Ty.size Ty.sizeL frz1 Fr.sub Heap.sub Tok.sub SV.sub SV.subL

def spSCloneI : FSpec := fun args h nx K => match args with
  | [.dat (.slice t) d] => t = 3 ∧ d.l.length ≤ 1000000000 ∧ K (.dat (.slice 3) (.list d.l)) h
  | _ => False
def WSCloneI : Opts := mkWE 8 [] [] [] 152 [] []
def icSCloneI : IC := (.seq (.seq (.ops [(.u (.mov 2 (.c .nils)))]) (.tr [0])) (.seq (.seq (.seq (.ops [(.u (.mov 3 (.s 0))), (.u (.nlq 4 false (.s 3)))]) (.tr [4, 0])) (.cond (.s 4) (.seq (.seq (.ops [(.u (.mov 2 (.c .nils)))]) (.tr [2])) .ret) .skip)) (.seq (.seq (.ops [(.u (.bsl 5 3 (.int .i64) [])), (.u (.mov 6 (.s 0))), (.u (.app 7 3 (.int .i64) 8 (.s 5) (.s 6))), (.u (.mov 2 (.s 7)))]) (.tr [2])) .ret)))
def rsSCloneI : List RV := [(.t 2)]
theorem irSCloneI : fnIR Tryd.prog WSCloneI 44 = some (icSCloneI, rsSCloneI) := by kernel_rfl
set_option maxHeartbeats 4000000 in
set_option maxRecDepth 8000 in
theorem vSCloneI {E : Nat → Value} (hE : Errs2 Tryd.prog (some 152) E) : Valid Tryd.prog E (gs []) 44 spSCloneI := by
  refine valid_go (W := WSCloneI) hE allValid_bot irSCloneI (by decide) (fun args h nx K hsp hok hnm => ?_)
  unfold spSCloneI at hsp
  split at hsp
  · rename_i t d
    obtain ⟨rfl, hlen, hsp⟩ := hsp
    refine ⟨by simp [WSCloneI, mkW, mkWE, mkWF], fun Q hQ => ?_⟩
    simp (maxSteps := 4000000) only [icSCloneI, go_sem, goD_calls, eq_self, implies_true, Int.reduceEq, Int.reduceBEq, Int.reduceBNe, Int.reduceLE, Int.reduceLT, Int.reduceAdd, Int.reduceSub, Int.reduceMul, Int.reduceNeg, Nat.reduceMul, Nat.reduceSub, Nat.reduceLeDiff, Nat.reduceLT, Nat.reduceEqDiff, Nat.reduceAdd, reduceCtorEq, ↓reduceIte, reduceIte]
    intro b hb
    refine ⟨fun hc => ?_, fun hc => ⟨by (try simp only [List.length_nil]) <;> omega, ?_⟩⟩
    · have hl : d.l = [] := hb hc
      rw [hl] at hsp
      refine (hQ _ ?_).1
      refine fin_new (p := True ∧ True) (xs := [.nils]) rfl ⟨trivial, trivial⟩ (.slot 0 3 (.int .i64) rfl (.frz nx (.refl _))) [] (.dat (.slice 3) (.list [])) [] (by simp) (by simp) (by simp) ?_ trivial rfl (by simp) (by simp) hnm ?_ hsp
      · simp only [mkR, go_sem, goD_calls, eq_self, implies_true, Int.reduceEq, Int.reduceBEq, Int.reduceBNe, Int.reduceLE, Int.reduceLT, Int.reduceAdd, Int.reduceSub, Int.reduceMul, Int.reduceNeg, Nat.reduceMul, Nat.reduceSub, Nat.reduceLeDiff, Nat.reduceLT, Nat.reduceEqDiff, Nat.reduceAdd, reduceCtorEq, ↓reduceIte, reduceIte, SV.ren, SV.renL, rens]
      · simp only [mkR, go_sem, goD_calls, eq_self, implies_true, Int.reduceEq, Int.reduceBEq, Int.reduceBNe, Int.reduceLE, Int.reduceLT, Int.reduceAdd, Int.reduceSub, Int.reduceMul, Int.reduceNeg, Nat.reduceMul, Nat.reduceSub, Nat.reduceLeDiff, Nat.reduceLT, Nat.reduceEqDiff, Nat.reduceAdd, reduceCtorEq, ↓reduceIte, reduceIte] <;> ((try simp only []); repeat first | exact HLe.refl _ | refine HLe.cons (by simp only [hget, Nat.reduceEqDiff, Nat.left_eq_add, Nat.add_eq_left, nm_ne2, nm_en2, nm_ne3, nm_en3, nm_ne4, nm_en4, nm_ne5, nm_en5, reduceIte, ↓reduceIte] <;> first | rfl | ((repeat rw [if_neg (by omega)]) <;> rfl)) ?_ | refine HLe.skip hnm (by omega) ?_ | refine HLe.frz hnm (by omega) ?_ | refine HLe.del hnm (by omega) ?_)
    · refine (hQ _ ?_).1
      refine fin_new (p := True ∧ True) (xs := [.vec (nx + 1)]) rfl ⟨trivial, trivial⟩ (.frz (nx + 1) (.refl _)) [] (.dat (.slice 3) (.list d.l)) [] (by simp) (by simp) (by simp) ?_ trivial rfl (by simp) (by simp) hnm ?_ hsp
      · simp only [mkR, go_sem, goD_calls, eq_self, implies_true, Int.reduceEq, Int.reduceBEq, Int.reduceBNe, Int.reduceLE, Int.reduceLT, Int.reduceAdd, Int.reduceSub, Int.reduceMul, Int.reduceNeg, Nat.reduceMul, Nat.reduceSub, Nat.reduceLeDiff, Nat.reduceLT, Nat.reduceEqDiff, Nat.reduceAdd, reduceCtorEq, ↓reduceIte, reduceIte, SV.ren, SV.renL, rens]
      · simp only [mkR, go_sem, goD_calls, eq_self, implies_true, Int.reduceEq, Int.reduceBEq, Int.reduceBNe, Int.reduceLE, Int.reduceLT, Int.reduceAdd, Int.reduceSub, Int.reduceMul, Int.reduceNeg, Nat.reduceMul, Nat.reduceSub, Nat.reduceLeDiff, Nat.reduceLT, Nat.reduceEqDiff, Nat.reduceAdd, reduceCtorEq, ↓reduceIte, reduceIte] <;> ((try simp only []); repeat first | exact HLe.refl _ | refine HLe.cons (by simp only [hget, Nat.reduceEqDiff, Nat.left_eq_add, Nat.add_eq_left, nm_ne2, nm_en2, nm_ne3, nm_en3, nm_ne4, nm_en4, nm_ne5, nm_en5, reduceIte, ↓reduceIte] <;> first | rfl | ((repeat rw [if_neg (by omega)]) <;> rfl)) ?_ | refine HLe.skip hnm (by omega) ?_ | refine HLe.frz hnm (by omega) ?_ | refine HLe.del hnm (by omega) ?_)
  · exact hsp.elim
def WQNodes : Opts := mkWE 6 [] [] [] 152 [] []
def icQNodes : IC := (.seq (.seq (.ops [(.u (.box 1 0 (.s 0))), (.u (.mov 2 (.c .nils)))]) (.tr [1])) (.seq (.seq (.ops [(.u (.fad 3 1 1 (.slice 3) 27 (.s 1))), (.u (.ld 4 (.slice 3) (.s 3))), (.u (.call 5 (.c (.clo 44 [])) [(.s 4)] [(some 3)] true)), (.u (.mov 2 (.s 5)))]) (.tr [2])) .ret))
def rsQNodes : List RV := [(.t 2)]
theorem irQNodes : fnIR Tryd.prog WQNodes 23 = some (icQNodes, rsQNodes) := by kernel_rfl
def spQNodes : FSpec := fun args h nx K => match args with
  | [.agg [.dat (.ptr tp) p, .dat (.slice t) d, .int .i64 n]] => tp = 65 ∧ t = 3 ∧ d.l.length ≤ 1000000000 ∧ K (.dat (.slice 3) (.list d.l)) h
  | [.agg [.dat (.ptr tp) p, .nils, .int .i64 n]] => tp = 65 ∧ K (.dat (.slice 3) (.list [])) h
  | _ => False
set_option maxHeartbeats 4000000 in
set_option maxRecDepth 8000 in
theorem vQNodes {E : Nat → Value} (hE : Errs2 Tryd.prog (some 152) E) : Valid Tryd.prog E (gs []) 23 spQNodes := by
  refine valid_go (W := WQNodes) hE (allValid_bot.add (up (vSCloneI hE))) irQNodes (by decide) (fun args h nx K hsp hok hnm => ?_)
  unfold spQNodes at hsp
  split at hsp
  · rename_i tp p t d n
    obtain ⟨rfl, rfl, hd, hK⟩ := hsp
    refine ⟨by simp [WQNodes, mkW, mkWE, mkWF], fun Q hQ => ?_⟩
    simp (maxSteps := 4000000) only [icQNodes, go_sem, goD_calls, eq_self, implies_true, Int.reduceEq, Int.reduceBEq, Int.reduceBNe, Int.reduceLE, Int.reduceLT, Int.reduceAdd, Int.reduceSub, Int.reduceMul, Int.reduceNeg, Nat.reduceMul, Nat.reduceSub, Nat.reduceLeDiff, Nat.reduceLT, Nat.reduceEqDiff, Nat.reduceAdd, reduceCtorEq, ↓reduceIte, reduceIte, spSCloneI, hd]
    refine (hQ _ ?_).1
    exact fin_t (.dat (.slice 3) (.list d.l)) rfl rfl hnm (by ((try simp only []); repeat first | exact HLe.refl _ | refine HLe.cons (by simp only [hget, Nat.reduceEqDiff, Nat.left_eq_add, Nat.add_eq_left, nm_ne2, nm_en2, nm_ne3, nm_en3, nm_ne4, nm_en4, nm_ne5, nm_en5, reduceIte, ↓reduceIte] <;> first | rfl | ((repeat rw [if_neg (by omega)]) <;> rfl)) ?_ | refine HLe.skip hnm (by omega) ?_ | refine HLe.frz hnm (by omega) ?_ | refine HLe.del hnm (by omega) ?_)) hK
  · rename_i tp p n
    obtain ⟨rfl, hK⟩ := hsp
    refine ⟨by simp [WQNodes, mkW, mkWE, mkWF], fun Q hQ => ?_⟩
    have g0 : (([] : List D).length ≤ 1000000000) = True := eq_true (by decide)
    simp (maxSteps := 4000000) only [icQNodes, go_sem, goD_calls, eq_self, implies_true, Int.reduceEq, Int.reduceBEq, Int.reduceBNe, Int.reduceLE, Int.reduceLT, Int.reduceAdd, Int.reduceSub, Int.reduceMul, Int.reduceNeg, Nat.reduceMul, Nat.reduceSub, Nat.reduceLeDiff, Nat.reduceLT, Nat.reduceEqDiff, Nat.reduceAdd, reduceCtorEq, ↓reduceIte, reduceIte, spSCloneI, g0, D.l]
    refine (hQ _ ?_).1
    exact fin_t (.dat (.slice 3) (.list [])) rfl rfl hnm (by ((try simp only []); repeat first | exact HLe.refl _ | refine HLe.cons (by simp only [hget, Nat.reduceEqDiff, Nat.left_eq_add, Nat.add_eq_left, nm_ne2, nm_en2, nm_ne3, nm_en3, nm_ne4, nm_en4, nm_ne5, nm_en5, reduceIte, ↓reduceIte] <;> first | rfl | ((repeat rw [if_neg (by omega)]) <;> rfl)) ?_ | refine HLe.skip hnm (by omega) ?_ | refine HLe.frz hnm (by omega) ?_ | refine HLe.del hnm (by omega) ?_)) hK
  · exact hsp.elim
def hasQ (o : Option QP) (S : Int → Bool) : Bool := match o with
  | none => false
  | some q => q.has S
theorem hasD_prog {o : Option QP} {p l : D} {n : Int} (h : progD o = .node [p, l, .int n]) (S : Int → Bool) : hasD p S = hasQ o S := by
  rcases prog_inv h with ⟨rfl, rfl, _, _⟩ | ⟨q, rfl, rfl, _, _⟩
  · exact hasD_nil S
  · exact hasD_enc q S
theorem okD_prog {o : Option QP} {p l : D} {n : Int} (ho : okQ o) (h : progD o = .node [p, l, .int n]) : okD p := by
  rcases prog_inv h with ⟨rfl, rfl, _, _⟩ | ⟨q, rfl, rfl, _, _⟩
  · exact okD_nil
  · exact okD_enc ho.1
theorem prog_len {o : Option QP} {p : D} {l : List D} {n : Int} (ho : okQ o) (h : progD o = .node [p, .list l, .int n]) : l.length ≤ 16 := by
  rcases prog_inv h with ⟨rfl, _, e, _⟩ | ⟨q, rfl, _, e, _⟩
  · simp only [D.list.injEq] at e
    rw [e]
    exact Nat.zero_le _
  · simp only [D.list.injEq] at e
    rw [e]
    exact ho.2.2.2.2.1
theorem ref_all1 {x : Option QP} (h : okQ x) : (allL (refQ x)).length ≤ 1000 := by
    cases x with
    | none => exact Nat.zero_le _
    | some q =>
      have := parts_i q
      have e : (allL q.parts).length = q.all.length := by rw [← this, List.length_map]
      show (allL q.parts).length ≤ 1000
      rw [e]
      have h6 := h.2.2.2.2.2
      have h4 := h.2.2.2.1
      omega
theorem ref_all {x : Option QP} (h : okQ x) : ((allL (refQ x)).length ≤ 100000) = True := eq_true (by have := ref_all1 h; omega)
theorem ref_wf {x : Option QP} (h : okQ x) : wfP 0 (refQ x) := by
  cases x with
  | none => intro i hi; exact absurd hi (by simp [refQ])
  | some q => exact q.parts_wf0
theorem ref_rL {x : Option QP} (h : okQ x) : ∀ d ∈ refQ x, (rL d).length ≤ 1000 := fun d hd => by
  refine Nat.le_trans ?_ (ref_all1 h)
  obtain ⟨s, t, e⟩ := List.append_of_mem hd
  unfold allL
  rw [e, List.flatMap_append, List.flatMap_cons, List.length_append, List.length_append]
  omega
def tokX : Option QP → Prop
  | none => True
  | some q => q.tok
theorem of_tok (k : Int) (l : List D) : tokX (ofQ k l) := by
  have ho := of_okQ k l
  unfold ofQ at ho ⊢
  split
  · exact trivial
  · rename_i hl
    rw [if_neg hl] at ho
    split
    · rename_i h
      rw [if_pos h] at ho
      obtain ⟨_, h2, h3⟩ := ofOk_good.1 h
      have hr := rise_len (l.map D.i)
      rw [List.length_map] at hr
      refine ⟨by omega, by omega, by omega, fun x hx => ?_⟩
      have := ho.2.2.1 x hx
      omega
    · exact trivial
theorem two_tok {kind : Int} {x y : Option QP} (hx : tokX x) (hy : tokX y) : tokX (twoQ kind x y) := by
  cases x with
  | none => simp only [twoQ]; split; exact trivial; exact hy
  | some x =>
    cases y with
    | none => simp only [twoQ]; split; exact trivial; exact hx
    | some y =>
      simp only [twoQ]
      split
      · exact trivial
      · show (kindQ kind x y).tok
        unfold kindQ
        split <;> exact ⟨hx, hy⟩
theorem getD_tok {A : List (Option QP)} (h : ∀ o ∈ A, tokX o) (i : Nat) : tokX (A.getD i none) := by
  rw [List.getD_eq_getElem?_getD]
  cases e : A[i]? with
  | none => exact trivial
  | some o => exact h o (List.mem_of_getElem? e)
theorem stepM_tok {A : List (Option QP)} {d : D} (h : ∀ o ∈ A, tokX o) : ∀ o ∈ stepM A d, tokX o := by
  intro o ho
  unfold stepM at ho
  rw [List.mem_append] at ho
  rcases ho with ho | ho
  · exact h o ho
  · rw [List.mem_singleton] at ho
    subst ho
    split
    · exact of_tok _ _
    · exact two_tok (getD_tok h _) (getD_tok h _)
theorem lastQ_tok (L : List D) : tokX (lastQ (madeL L)) := by
  have key : ∀ (L : List D) (A : List (Option QP)), (∀ o ∈ A, tokX o) → ∀ o ∈ L.foldl stepM A, tokX o := by
    intro L
    induction L with
    | nil => intro A h; exact h
    | cons d L ih => intro A h; exact ih _ (stepM_tok h)
  unfold lastQ
  cases e : (madeL L).getLast? with
  | none => exact trivial
  | some o => exact key L [] (by simp) o (List.mem_of_getLast? e)
theorem ref_tok {x : Option QP} (h : okQ x) (ht : tokX x) : tokL (refQ x) := by
  cases x with
  | none => exact ⟨fun d hd => (by cases hd), fun v hv => (by cases hv)⟩
  | some q => exact QP.tokL_parts ht h.2.2.2.1
theorem prog_txt {o : Option QP} {p l : D} {n : Int} (ho : okQ o) (ht : tokX o) (h : progD o = .node [p, l, .int n]) : tokQ p ∧ txtD p = textP (refQ o) := by
  rcases prog_inv h with ⟨rfl, rfl, _, _⟩ | ⟨q, rfl, rfl, _, _⟩
  · exact ⟨.inl rfl, txtD_nil⟩
  · exact ⟨.inr ⟨q, rfl, ht, ho.2.2.2.1⟩, (txtD_enc q).trans (textP_parts q).symm⟩
theorem prog_nodes {o : Option QP} {p : D} {l : List D} {n : Int} (h : progD o = .node [p, .list l, .int n]) : riseL (allL (refQ o)) = l := by
  rcases prog_inv h with ⟨rfl, _, e, _⟩ | ⟨q, rfl, _, e, _⟩
  · simp only [D.list.injEq] at e
    rw [e]
    rfl
  · simp only [D.list.injEq] at e
    rw [e]
    rfl
theorem prog_has {o : Option QP} {p l : D} {n : Int} (h : progD o = .node [p, l, .int n]) (N : List D) : hasD p (inL N) = hasP (amI N) (refQ o) := by
  rw [hasD_prog h]
  cases o with
  | none => rfl
  | some q => exact (hasP_parts (amI N) q).symm
def WQuorSaysW : Opts := mkWF 55 [] [0, 1, 3, 4, 5, 6, 7, 8, 9, 10, 11, 12, 13, 14, 15, 16, 17] [35, 38, 43, 45, 46, 50, 52] 152 [0, 1, 3, 4, 5, 6, 7, 8, 9, 10, 11, 12, 13, 14, 15, 16, 17] [] [] [35, 38, 43, 45, 46, 50, 52]
def icQuorSaysW : IC := (.seq (.seq (.ops [(.u (.mov 4 (.c (.bool false))))]) (.tr [0, 1])) (.seq (.seq (.ops [(.u (.call 9 (.c (.clo 11 [])) [] [] true)), (.u (.mov 5 (.s 9)))]) (.tr [5, 0, 1])) (.seq (.seq (.seq (.ops [(.u (.mov 10 (.s 5))), (.u (.una 11 .not (.s 10)))]) (.tr [11, 5, 0, 1])) (.cond (.s 11) (.seq (.seq (.ops [(.u (.mov 4 (.c (.bool false))))]) (.tr [4])) .ret) .skip)) (.seq (.seq (.seq (.ops [(.u (.mov 12 (.s 0))), (.u (.call 13 (.c (.clo 17 [])) [(.s 12)] [(some 72)] true)), (.u (.una 14 .not (.s 13))), (.u (.mov 15 (.s 14))), (.g 15 false (some 16) (.mov 16 (.s 1))), (.g 15 false (some 17) (.len 17 false (.s 16))), (.g 15 false (some 18) (.cmp 18 .gtr (.s 17) (.c (.int .i64 20)))), (.u (.pck 19 (.s 15) (.c (.bool true)) (.s 18))), (.u (.mov 20 (.s 19))), (.g 20 false (some 21) (.mov 21 (.s 5))), (.g 20 false (some 22) (.una 22 .not (.s 21))), (.u (.pck 23 (.s 20) (.c (.bool true)) (.s 22)))]) (.tr [23, 5, 0, 1])) (.cond (.s 23) (.seq (.seq (.ops [(.u (.mov 24 (.s 5))), (.u (.mov 4 (.s 24)))]) (.tr [4])) .ret) .skip)) (.seq (.seq (.ops [(.u (.mov 26 (.s 0))), (.u (.call 27 (.c (.clo 18 [])) [(.s 26)] [(some 72)] true)), (.u (.mov 25 (.s 27))), (.u (.ext 28 0 (.s 25))), (.u (.ext 29 1 (.s 25))), (.u (.ext 30 2 (.s 25))), (.u (.alc 6 [(.dat (.ptr 65) .nil), .nils, (.int .i64 0)])), (.u (.alc 7 [.nils])), (.u (.st (.strct [(.ptr 65), (.slice 3), (.int .i64)]) (.s 6) (.s 28))), (.u (.st (.strct [(.slice 79)]) (.s 7) (.s 29))), (.u (.mov 8 (.s 30)))]) (.tr [8, 1, 6, 7])) (.seq (.seq (.rgn [] [(false, (.u (.mov 31 (.s 8)))), (false, (.u (.mov 32 (.s 31)))), (false, (.g 32 true (some 33) (.ld 33 (.strct [(.ptr 65), (.slice 3), (.int .i64)]) (.s 6)))), (false, (.g 32 true (some 34) (.mov 34 (.s 1)))), (false, (.g 32 true (some 36) (.ld 36 (.strct [(.slice 79)]) (.s 7)))), (false, (.g 32 true (some 37) (.mov 37 (.s 1)))), (true, (.g 32 true (some 35) (.call 35 (.c (.clo 16 [])) [(.s 33), (.s 34)] [none, (some 3)] false))), (true, (.g 32 true (some 38) (.call 38 (.c (.clo 28 [])) [(.s 36), (.s 37)] [none, (some 3)] false))), (false, (.g 32 true (some 39) (.beq 39 false (.s 35) (.s 38)))), (false, (.u (.pck 40 (.s 32) (.s 39) (.c (.bool false))))), (false, (.u (.mov 41 (.s 40)))), (false, (.g 41 true (some 42) (.ld 42 (.strct [(.ptr 65), (.slice 3), (.int .i64)]) (.s 6)))), (false, (.g 41 true (some 44) (.ld 44 (.strct [(.slice 79)]) (.s 7)))), (true, (.g 41 true (some 43) (.call 43 (.c (.clo 23 [])) [(.s 42)] [none] false))), (true, (.g 41 true (some 45) (.call 45 (.c (.clo 19 [])) [(.s 44)] [none] false))), (true, (.g 41 true (some 46) (.call 46 (.c (.clo 26 [])) [(.s 43), (.s 45)] [(some 3), (some 3)] false))), (false, (.u (.pck 47 (.s 41) (.s 46) (.c (.bool false))))), (false, (.u (.mov 48 (.s 47)))), (false, (.g 48 true (some 49) (.ld 49 (.strct [(.ptr 65), (.slice 3), (.int .i64)]) (.s 6)))), (false, (.g 48 true (some 51) (.ld 51 (.strct [(.slice 79)]) (.s 7)))), (true, (.g 48 true (some 50) (.call 50 (.c (.clo 29 [])) [(.s 49)] [none] false))), (true, (.g 48 true (some 52) (.call 52 (.c (.clo 30 [])) [(.s 51)] [none] false))), (false, (.g 48 true (some 53) (.seq 53 false (.s 50) (.s 52)))), (false, (.u (.pck 54 (.s 48) (.s 53) (.c (.bool false))))), (false, (.u (.mov 4 (.s 54))))]) (.tr [4])) .ret))))))
def rsQuorSaysW : List RV := [(.t 4)]
theorem irQuorSaysW : fnIR Tryd.prog WQuorSaysW 9 = some (icQuorSaysW, rsQuorSaysW) := by kernel_rfl
def spQuorSays : FSpec := fun args h nx K => match args with
  | [.dat (.slice t) l, .dat (.slice t') d] => t = 72 ∧ t' = 3 ∧ K (.bool true) h
  | _ => False

set_option maxHeartbeats 4000000 in
set_option maxRecDepth 8000 in
theorem vQuorSaysW {E : Nat → Value} (hE : Errs2 Tryd.prog (some 152) E) : Valid Tryd.prog E G0 9 spQuorSays := by
  refine valid_go (W := WQuorSaysW) hE ((((((((((allValid_bot.add (up (vL6first hE))).add (up (vQLight hE))).add (up (vQMade hE))).add (up (vQHasD hE))).add (up (vR6Has hE))).add (up (vQNodes hE))).add (up (vR6Nodes hE))).add (up (vSameInts hE))).add (up (vQSText hE))).add (up (vR6Text hE))) irQuorSaysW (by decide) (fun args h nx K hsp hok hnm => ?_)
  unfold spQuorSays at hsp
  split at hsp
  · rename_i t l t' d
    obtain ⟨rfl, rfl, hK⟩ := hsp
    refine ⟨by simp [WQuorSaysW, mkW, mkWE, mkWF], fun Q hQ => ?_⟩
    obtain ⟨hl, hd, _⟩ := hok
    simp only [SV.ok] at hl hd
    obtain ⟨hd1, hd2, hd3⟩ := Wt.slice hd; generalize d.l = N at *; subst hd1
    have ret : ∀ h' nx', HLe h h' → Q Ex.ret ⟨[(4, .bool true)], h', nx'⟩ := fun h' nx' hh => by
      refine (hQ _ ?_).1
      exact fin_t (.bool true) rfl rfl hnm hh hK
    simp only [icQuorSaysW, go_sem, goD_calls, eq_self, implies_true, Int.reduceEq, Int.reduceBEq, Int.reduceBNe, Int.reduceLE, Int.reduceLT, Int.reduceAdd, Int.reduceSub, Int.reduceMul, Int.reduceNeg, Nat.reduceMul, Nat.reduceSub, Nat.reduceLeDiff, Nat.reduceLT, Nat.reduceEqDiff, Nat.reduceAdd, reduceCtorEq, ↓reduceIte, reduceIte, spL6first, spQLight]
    cases e1 : lightL l.l with
    | false =>
      simp only [go_sem, goD_calls, eq_self, implies_true, Int.reduceEq, Int.reduceBEq, Int.reduceBNe, Int.reduceLE, Int.reduceLT, Int.reduceAdd, Int.reduceSub, Int.reduceMul, Int.reduceNeg, Nat.reduceMul, Nat.reduceSub, Nat.reduceLeDiff, Nat.reduceLT, Nat.reduceEqDiff, Nat.reduceAdd, reduceCtorEq, ↓reduceIte, reduceIte, e1, spQLight]
      exact ret _ _ (by ((try simp only []); repeat first | exact HLe.refl _ | refine HLe.cons (by simp only [hget, Nat.reduceEqDiff, Nat.left_eq_add, Nat.add_eq_left, nm_ne2, nm_en2, nm_ne3, nm_en3, nm_ne4, nm_en4, nm_ne5, nm_en5, reduceIte, ↓reduceIte] <;> first | rfl | ((repeat rw [if_neg (by omega)]) <;> rfl)) ?_ | refine HLe.skip hnm (by omega) ?_ | refine HLe.frz hnm (by omega) ?_ | refine HLe.del hnm (by omega) ?_))
    | true =>
    by_cases hn : 20 < N.length
    · have c1 : decide (20 < (N.length : Int)) = true := decide_eq_true (by omega)
      simp only [go_sem, goD_calls, eq_self, implies_true, Int.reduceEq, Int.reduceBEq, Int.reduceBNe, Int.reduceLE, Int.reduceLT, Int.reduceAdd, Int.reduceSub, Int.reduceMul, Int.reduceNeg, Nat.reduceMul, Nat.reduceSub, Nat.reduceLeDiff, Nat.reduceLT, Nat.reduceEqDiff, Nat.reduceAdd, reduceCtorEq, ↓reduceIte, reduceIte, e1, c1, spQLight]
      exact ret _ _ (by ((try simp only []); repeat first | exact HLe.refl _ | refine HLe.cons (by simp only [hget, Nat.reduceEqDiff, Nat.left_eq_add, Nat.add_eq_left, nm_ne2, nm_en2, nm_ne3, nm_en3, nm_ne4, nm_en4, nm_ne5, nm_en5, reduceIte, ↓reduceIte] <;> first | rfl | ((repeat rw [if_neg (by omega)]) <;> rfl)) ?_ | refine HLe.skip hnm (by omega) ?_ | refine HLe.frz hnm (by omega) ?_ | refine HLe.del hnm (by omega) ?_))
    have c1 : decide (20 < (N.length : Int)) = false := decide_eq_false (by omega)
    obtain ⟨X, hX⟩ : ∃ X, lastQ (madeL l.l) = X := ⟨_, rfl⟩
    have oX : okQ X := hX ▸ lastQ_ok _
    have tX : tokX X := hX ▸ lastQ_tok _
    have lX := (ref_len oX).1
    simp only [go_sem, goD_calls, eq_self, implies_true, Int.reduceEq, Int.reduceBEq, Int.reduceBNe, Int.reduceLE, Int.reduceLT, Int.reduceAdd, Int.reduceSub, Int.reduceMul, Int.reduceNeg, Nat.reduceMul, Nat.reduceSub, Nat.reduceLeDiff, Nat.reduceLT, Nat.reduceEqDiff, Nat.reduceAdd, reduceCtorEq, ↓reduceIte, reduceIte, e1, c1, spQLight, spQMade, hX]
    refine ⟨light_len e1, light_20 e1, fun r hr => ?_⟩
    obtain ⟨pa, la, na, hPa, hr⟩ := hr
    have dA := okD_prog oX hPa
    have la16 := prog_len oX hPa
    have aX := ref_all oX
    obtain ⟨tq, et⟩ := prog_txt oX tX hPa
    have enn := prog_nodes hPa
    have ehh := prog_has hPa N
    obtain ⟨b, hb⟩ : ∃ b, hasP (amI N) (refQ X) = b := ⟨_, rfl⟩
    obtain ⟨T, hT⟩ : ∃ T, textP (refQ X) = T := ⟨_, rfl⟩
    rw [hb] at ehh
    rw [hT] at et
    have hsame : ∀ L : List D, sameD L L = true := fun L => by unfold sameD; simp
    have wX := ref_wf oX
    have rX := ref_rL oX
    have kX := ref_tok oX tX
    rcases hr with rfl | ⟨rfl, rfl⟩
    · simp only [go_sem, goD_calls, eq_self, implies_true, Int.reduceEq, Int.reduceBEq, Int.reduceBNe, Int.reduceLE, Int.reduceLT, Int.reduceAdd, Int.reduceSub, Int.reduceMul, Int.reduceNeg, Nat.reduceMul, Nat.reduceSub, Nat.reduceLeDiff, Nat.reduceLT, Nat.reduceEqDiff, Nat.reduceAdd, reduceCtorEq, ↓reduceIte, reduceIte, setOf, setA, refV]
      refine ⟨.bool b, fun nx' => ⟨rfl, rfl, rfl, rfl, dA, congrArg SV.bool ehh, rfl⟩, trivial, .bool b, fun nx' => ⟨rfl, rfl, wX, by show (refQ X).length ≤ 1000; omega, rX, congrArg SV.bool hb, rfl⟩, trivial, ?_⟩
      simp only [go_sem, goD_calls, eq_self, implies_true, Int.reduceEq, Int.reduceBEq, Int.reduceBNe, Int.reduceLE, Int.reduceLT, Int.reduceAdd, Int.reduceSub, Int.reduceMul, Int.reduceNeg, Nat.reduceMul, Nat.reduceSub, Nat.reduceLeDiff, Nat.reduceLT, Nat.reduceEqDiff, Nat.reduceAdd, reduceCtorEq, ↓reduceIte, reduceIte, beq_self_eq_true]
      refine ⟨_, fun nx' => ⟨rfl, rfl, by show la.length ≤ 1000000000; omega, rfl, rfl⟩, trivial, _, fun nx' => ⟨rfl, Nat.le_trans (ref_all1 oX) (by decide), rfl, rfl⟩, trivial, .bool true, fun nx' => ⟨congrArg SV.bool (show sameD _ (riseL (allL (refQ X))) = true by rw [enn]; exact hsame _), rfl⟩, trivial, ?_⟩
      simp only [go_sem, goD_calls, eq_self, implies_true, Int.reduceEq, Int.reduceBEq, Int.reduceBNe, Int.reduceLE, Int.reduceLT, Int.reduceAdd, Int.reduceSub, Int.reduceMul, Int.reduceNeg, Nat.reduceMul, Nat.reduceSub, Nat.reduceLeDiff, Nat.reduceLT, Nat.reduceEqDiff, Nat.reduceAdd, reduceCtorEq, ↓reduceIte, reduceIte]
      refine ⟨.str T, fun nx' => ⟨rfl, .inr ⟨_, rfl⟩, tq, congrArg SV.str et, rfl⟩, trivial, .str T, fun nx' => ⟨rfl, wX, by show (refQ X).length ≤ 1000; omega, kX, congrArg SV.str hT, rfl⟩, trivial, ?_⟩
      simp only [go_sem, goD_calls, eq_self, implies_true, Int.reduceEq, Int.reduceBEq, Int.reduceBNe, Int.reduceLE, Int.reduceLT, Int.reduceAdd, Int.reduceSub, Int.reduceMul, Int.reduceNeg, Nat.reduceMul, Nat.reduceSub, Nat.reduceLeDiff, Nat.reduceLT, Nat.reduceEqDiff, Nat.reduceAdd, reduceCtorEq, ↓reduceIte, reduceIte, beq_self_eq_true]
      exact ret _ _ (by ((try simp only []); repeat first | exact HLe.refl _ | refine HLe.cons (by simp only [hget, Nat.reduceEqDiff, Nat.left_eq_add, Nat.add_eq_left, nm_ne2, nm_en2, nm_ne3, nm_en3, nm_ne4, nm_en4, nm_ne5, nm_en5, reduceIte, ↓reduceIte] <;> first | rfl | ((repeat rw [if_neg (by omega)]) <;> rfl)) ?_ | refine HLe.skip hnm (by omega) ?_ | refine HLe.frz hnm (by omega) ?_ | refine HLe.del hnm (by omega) ?_))
    · simp only [go_sem, goD_calls, eq_self, implies_true, Int.reduceEq, Int.reduceBEq, Int.reduceBNe, Int.reduceLE, Int.reduceLT, Int.reduceAdd, Int.reduceSub, Int.reduceMul, Int.reduceNeg, Nat.reduceMul, Nat.reduceSub, Nat.reduceLeDiff, Nat.reduceLT, Nat.reduceEqDiff, Nat.reduceAdd, reduceCtorEq, ↓reduceIte, reduceIte, setOf, setA, refV]
      refine ⟨.bool b, fun nx' => ⟨rfl, rfl, rfl, rfl, dA, congrArg SV.bool ehh, rfl⟩, trivial, .bool b, fun nx' => ⟨rfl, rfl, wX, by show (refQ X).length ≤ 1000; omega, rX, congrArg SV.bool hb, rfl⟩, trivial, ?_⟩
      simp only [go_sem, goD_calls, eq_self, implies_true, Int.reduceEq, Int.reduceBEq, Int.reduceBNe, Int.reduceLE, Int.reduceLT, Int.reduceAdd, Int.reduceSub, Int.reduceMul, Int.reduceNeg, Nat.reduceMul, Nat.reduceSub, Nat.reduceLeDiff, Nat.reduceLT, Nat.reduceEqDiff, Nat.reduceAdd, reduceCtorEq, ↓reduceIte, reduceIte, beq_self_eq_true]
      refine ⟨_, fun nx' => ⟨rfl, rfl, rfl⟩, trivial, _, fun nx' => ⟨rfl, Nat.le_trans (ref_all1 oX) (by decide), rfl, rfl⟩, trivial, .bool true, fun nx' => ⟨congrArg SV.bool (show sameD _ (riseL (allL (refQ X))) = true by rw [enn]; exact hsame _), rfl⟩, trivial, ?_⟩
      simp only [go_sem, goD_calls, eq_self, implies_true, Int.reduceEq, Int.reduceBEq, Int.reduceBNe, Int.reduceLE, Int.reduceLT, Int.reduceAdd, Int.reduceSub, Int.reduceMul, Int.reduceNeg, Nat.reduceMul, Nat.reduceSub, Nat.reduceLeDiff, Nat.reduceLT, Nat.reduceEqDiff, Nat.reduceAdd, reduceCtorEq, ↓reduceIte, reduceIte]
      refine ⟨.str T, fun nx' => ⟨rfl, .inl rfl, tq, congrArg SV.str et, rfl⟩, trivial, .str T, fun nx' => ⟨rfl, wX, by show (refQ X).length ≤ 1000; omega, kX, congrArg SV.str hT, rfl⟩, trivial, ?_⟩
      simp only [go_sem, goD_calls, eq_self, implies_true, Int.reduceEq, Int.reduceBEq, Int.reduceBNe, Int.reduceLE, Int.reduceLT, Int.reduceAdd, Int.reduceSub, Int.reduceMul, Int.reduceNeg, Nat.reduceMul, Nat.reduceSub, Nat.reduceLeDiff, Nat.reduceLT, Nat.reduceEqDiff, Nat.reduceAdd, reduceCtorEq, ↓reduceIte, reduceIte, beq_self_eq_true]
      exact ret _ _ (by ((try simp only []); repeat first | exact HLe.refl _ | refine HLe.cons (by simp only [hget, Nat.reduceEqDiff, Nat.left_eq_add, Nat.add_eq_left, nm_ne2, nm_en2, nm_ne3, nm_en3, nm_ne4, nm_en4, nm_ne5, nm_en5, reduceIte, ↓reduceIte] <;> first | rfl | ((repeat rw [if_neg (by omega)]) <;> rfl)) ?_ | refine HLe.skip hnm (by omega) ?_ | refine HLe.frz hnm (by omega) ?_ | refine HLe.del hnm (by omega) ?_))
  · exact hsp.elim
end Go.Proofs.YtkmilijehekdoaaDoor
