/- Chapter 6: QuorNone: what it calls. -/
import Derived.Test.YtkmilijehekdoaaDoorQuorNa
namespace Go.Proofs.YtkmilijehekdoaaDoor
set_option linter.unusedVariables false
set_option linter.unusedSimpArgs false
open Go Go.Fw
attribute [local go_sem] walkSet evMdl evMupD evMup evLkp frpL eltP eltV eltK preF preP prePt prePd frzP evNlq ev frOf oget ogets argSs argS evCat evMm frzL evBin evWrp evShf evCmp evUna evNil evBeq evLd evSt evFad evIad evAad evLen evSln evEls evApp evParts evSlc evNlc evMif evPck evFld evBld evTas evIfq evSeq evSl0 evBxf evAgl evAgq evBsf hget hset hdel cellAt arrAt setCellAt setArrAt takeC lenC svCells SV.okc SV.one ldSV Fw.isAgg explode explodeL toD toDL toD1 Ty.size Ty.sizeL frz1 Fr.sub Heap.sub Tok.sub SV.sub SV.subL

def spSCloneI : FSpec := fun args h nx K => match args with
  | [.dat (.slice t) d] => t = 3 ∧ d.l.length ≤ 1000000000 ∧ K (.dat (.slice 3) (.list d.l)) h
  | _ => False
def WSCloneI : Opts := mkWE 8 [] [] [] 152 [] []
def icSCloneI : IC := (.seq (.seq (.ops [(.u (.mov 2 (.c .nils)))]) (.tr [0])) (.seq (.seq (.seq (.ops [(.u (.mov 3 (.s 0))), (.u (.nlq 4 false (.s 3)))]) (.tr [4, 0])) (.cond (.s 4) (.seq (.seq (.ops [(.u (.mov 2 (.c .nils)))]) (.tr [2])) .ret) .skip)) (.seq (.seq (.ops [(.u (.bsl 5 3 (.int .i64) [])), (.u (.mov 6 (.s 0))), (.u (.app 7 3 (.int .i64) 8 (.s 5) (.s 6))), (.u (.mov 2 (.s 7)))]) (.tr [2])) .ret)))
def rsSCloneI : List RV := [(.t 2)]
theorem irSCloneI : fnIR Tryd.prog WSCloneI 44 = some (icSCloneI, rsSCloneI) := by kernel_rfl
set_option maxHeartbeats 4000000 in
set_option maxRecDepth 8000 in
theorem vSCloneI {E : Nat → Value} (hE : Errs2 Tryd.prog (some 152) E) : Valid Tryd.prog E (gs []) 44 spSCloneI := by
  refine valid_go (W := WSCloneI) hE allValid_bot irSCloneI (by decide) (fun args h nx K hsp hok hnm => ?_)
  unfold spSCloneI at hsp
  split at hsp
  · rename_i t d
    obtain ⟨rfl, hlen, hsp⟩ := hsp
    refine ⟨by simp [WSCloneI, mkW, mkWE, mkWF], fun Q hQ => ?_⟩
    simp (maxSteps := 4000000) only [icSCloneI, go_sem, goD_calls, eq_self, implies_true, Int.reduceEq, Int.reduceBEq, Int.reduceBNe, Int.reduceLE, Int.reduceLT, Int.reduceAdd, Int.reduceSub, Int.reduceMul, Int.reduceNeg, Nat.reduceMul, Nat.reduceSub, Nat.reduceLeDiff, Nat.reduceLT, Nat.reduceEqDiff, Nat.reduceAdd, reduceCtorEq, ↓reduceIte, reduceIte]
    intro b hb
    refine ⟨fun hc => ?_, fun hc => ⟨by (try simp only [List.length_nil]) <;> omega, ?_⟩⟩
    · have hl : d.l = [] := hb hc
      rw [hl] at hsp
      refine (hQ _ ?_).1
      refine fin_new (p := True ∧ True) (xs := [.nils]) rfl ⟨trivial, trivial⟩ (.slot 0 3 (.int .i64) rfl (.frz nx (.refl _))) [] (.dat (.slice 3) (.list [])) [] (by simp) (by simp) (by simp) ?_ trivial rfl (by simp) (by simp) hnm ?_ hsp
      · simp only [mkR, go_sem, goD_calls, eq_self, implies_true, Int.reduceEq, Int.reduceBEq, Int.reduceBNe, Int.reduceLE, Int.reduceLT, Int.reduceAdd, Int.reduceSub, Int.reduceMul, Int.reduceNeg, Nat.reduceMul, Nat.reduceSub, Nat.reduceLeDiff, Nat.reduceLT, Nat.reduceEqDiff, Nat.reduceAdd, reduceCtorEq, ↓reduceIte, reduceIte, SV.ren, SV.renL, rens]
      · simp only [mkR, go_sem, goD_calls, eq_self, implies_true, Int.reduceEq, Int.reduceBEq, Int.reduceBNe, Int.reduceLE, Int.reduceLT, Int.reduceAdd, Int.reduceSub, Int.reduceMul, Int.reduceNeg, Nat.reduceMul, Nat.reduceSub, Nat.reduceLeDiff, Nat.reduceLT, Nat.reduceEqDiff, Nat.reduceAdd, reduceCtorEq, ↓reduceIte, reduceIte] <;> ((try simp only []); repeat first | exact HLe.refl _ | refine HLe.cons (by simp only [hget, Nat.reduceEqDiff, Nat.left_eq_add, Nat.add_eq_left, nm_ne2, nm_en2, nm_ne3, nm_en3, nm_ne4, nm_en4, nm_ne5, nm_en5, reduceIte, ↓reduceIte] <;> first | rfl | ((repeat rw [if_neg (by omega)]) <;> rfl)) ?_ | refine HLe.skip hnm (by omega) ?_ | refine HLe.frz hnm (by omega) ?_ | refine HLe.del hnm (by omega) ?_)
    · refine (hQ _ ?_).1
      refine fin_new (p := True ∧ True) (xs := [.vec (nx + 1)]) rfl ⟨trivial, trivial⟩ (.frz (nx + 1) (.refl _)) [] (.dat (.slice 3) (.list d.l)) [] (by simp) (by simp) (by simp) ?_ trivial rfl (by simp) (by simp) hnm ?_ hsp
      · simp only [mkR, go_sem, goD_calls, eq_self, implies_true, Int.reduceEq, Int.reduceBEq, Int.reduceBNe, Int.reduceLE, Int.reduceLT, Int.reduceAdd, Int.reduceSub, Int.reduceMul, Int.reduceNeg, Nat.reduceMul, Nat.reduceSub, Nat.reduceLeDiff, Nat.reduceLT, Nat.reduceEqDiff, Nat.reduceAdd, reduceCtorEq, ↓reduceIte, reduceIte, SV.ren, SV.renL, rens]
      · simp only [mkR, go_sem, goD_calls, eq_self, implies_true, Int.reduceEq, Int.reduceBEq, Int.reduceBNe, Int.reduceLE, Int.reduceLT, Int.reduceAdd, Int.reduceSub, Int.reduceMul, Int.reduceNeg, Nat.reduceMul, Nat.reduceSub, Nat.reduceLeDiff, Nat.reduceLT, Nat.reduceEqDiff, Nat.reduceAdd, reduceCtorEq, ↓reduceIte, reduceIte] <;> ((try simp only []); repeat first | exact HLe.refl _ | refine HLe.cons (by simp only [hget, Nat.reduceEqDiff, Nat.left_eq_add, Nat.add_eq_left, nm_ne2, nm_en2, nm_ne3, nm_en3, nm_ne4, nm_en4, nm_ne5, nm_en5, reduceIte, ↓reduceIte] <;> first | rfl | ((repeat rw [if_neg (by omega)]) <;> rfl)) ?_ | refine HLe.skip hnm (by omega) ?_ | refine HLe.frz hnm (by omega) ?_ | refine HLe.del hnm (by omega) ?_)
  · exact hsp.elim
def WQNodes : Opts := mkWE 6 [] [] [] 152 [] []
def icQNodes : IC := (.seq (.seq (.ops [(.u (.box 1 0 (.s 0))), (.u (.mov 2 (.c .nils)))]) (.tr [1])) (.seq (.seq (.ops [(.u (.fad 3 1 1 (.slice 3) 27 (.s 1))), (.u (.ld 4 (.slice 3) (.s 3))), (.u (.call 5 (.c (.clo 44 [])) [(.s 4)] [(some 3)] true)), (.u (.mov 2 (.s 5)))]) (.tr [2])) .ret))
def rsQNodes : List RV := [(.t 2)]
theorem irQNodes : fnIR Tryd.prog WQNodes 23 = some (icQNodes, rsQNodes) := by kernel_rfl
def spQNodes : FSpec := fun args h nx K => match args with
  | [.agg [.dat (.ptr tp) p, .dat (.slice t) d, .int .i64 n]] => tp = 65 ∧ t = 3 ∧ d.l.length ≤ 1000000000 ∧ K (.dat (.slice 3) (.list d.l)) h
  | [.agg [.dat (.ptr tp) p, .nils, .int .i64 n]] => tp = 65 ∧ K (.dat (.slice 3) (.list [])) h
  | _ => False
set_option maxHeartbeats 4000000 in
set_option maxRecDepth 8000 in
theorem vQNodes {E : Nat → Value} (hE : Errs2 Tryd.prog (some 152) E) : Valid Tryd.prog E (gs []) 23 spQNodes := by
  refine valid_go (W := WQNodes) hE (allValid_bot.add (up (vSCloneI hE))) irQNodes (by decide) (fun args h nx K hsp hok hnm => ?_)
  unfold spQNodes at hsp
  split at hsp
  · rename_i tp p t d n
    obtain ⟨rfl, rfl, hd, hK⟩ := hsp
    refine ⟨by simp [WQNodes, mkW, mkWE, mkWF], fun Q hQ => ?_⟩
    simp (maxSteps := 4000000) only [icQNodes, go_sem, goD_calls, eq_self, implies_true, Int.reduceEq, Int.reduceBEq, Int.reduceBNe, Int.reduceLE, Int.reduceLT, Int.reduceAdd, Int.reduceSub, Int.reduceMul, Int.reduceNeg, Nat.reduceMul, Nat.reduceSub, Nat.reduceLeDiff, Nat.reduceLT, Nat.reduceEqDiff, Nat.reduceAdd, reduceCtorEq, ↓reduceIte, reduceIte, spSCloneI, hd]
    refine (hQ _ ?_).1
    exact fin_t (.dat (.slice 3) (.list d.l)) rfl rfl hnm (by ((try simp only []); repeat first | exact HLe.refl _ | refine HLe.cons (by simp only [hget, Nat.reduceEqDiff, Nat.left_eq_add, Nat.add_eq_left, nm_ne2, nm_en2, nm_ne3, nm_en3, nm_ne4, nm_en4, nm_ne5, nm_en5, reduceIte, ↓reduceIte] <;> first | rfl | ((repeat rw [if_neg (by omega)]) <;> rfl)) ?_ | refine HLe.skip hnm (by omega) ?_ | refine HLe.frz hnm (by omega) ?_ | refine HLe.del hnm (by omega) ?_)) hK
  · rename_i tp p n
    obtain ⟨rfl, hK⟩ := hsp
    refine ⟨by simp [WQNodes, mkW, mkWE, mkWF], fun Q hQ => ?_⟩
    have g0 : (([] : List D).length ≤ 1000000000) = True := eq_true (by decide)
    simp (maxSteps := 4000000) only [icQNodes, go_sem, goD_calls, eq_self, implies_true, Int.reduceEq, Int.reduceBEq, Int.reduceBNe, Int.reduceLE, Int.reduceLT, Int.reduceAdd, Int.reduceSub, Int.reduceMul, Int.reduceNeg, Nat.reduceMul, Nat.reduceSub, Nat.reduceLeDiff, Nat.reduceLT, Nat.reduceEqDiff, Nat.reduceAdd, reduceCtorEq, ↓reduceIte, reduceIte, spSCloneI, g0, D.l]
    refine (hQ _ ?_).1
    exact fin_t (.dat (.slice 3) (.list [])) rfl rfl hnm (by ((try simp only []); repeat first | exact HLe.refl _ | refine HLe.cons (by simp only [hget, Nat.reduceEqDiff, Nat.left_eq_add, Nat.add_eq_left, nm_ne2, nm_en2, nm_ne3, nm_en3, nm_ne4, nm_en4, nm_ne5, nm_en5, reduceIte, ↓reduceIte] <;> first | rfl | ((repeat rw [if_neg (by omega)]) <;> rfl)) ?_ | refine HLe.skip hnm (by omega) ?_ | refine HLe.frz hnm (by omega) ?_ | refine HLe.del hnm (by omega) ?_)) hK
  · exact hsp.elim
def txtOk (d : D) : Prop := d = .nil ∨ ∃ k l, d = (QP.of k l).enc ∧ 0 ≤ k ∧ k < 100 ∧ l.length ≤ 16 ∧ (∀ x ∈ l, 0 ≤ x ∧ x < 100) ∧ (joinS (txtL (l.map D.int)) s1S).size ≤ 1000
noncomputable def txtD (d : D) : ByteArray := match decQ d with
  | some (.of k l) => ofText k (l.map D.int)
  | _ => noneS
theorem txtD_nil : txtD .nil = noneS := by unfold txtD; rw [decQ_nil]
theorem txtD_of (k : Int) (l : List Int) : txtD (QP.of k l).enc = ofText k (l.map D.int) := by unfold txtD; rw [decQ_enc]
def spQSTextN : FSpec := fun args h nx K => match args with
  | [.agg [.dat (.ptr t) d, x, .int .i64 n]] => t = 65 ∧ sliceX x ∧ txtOk d ∧ K (.str (txtD d)) h
  | _ => False
theorem vQSTextN {E : Nat → Value} (hE : Errs2 Tryd.prog (some 152) E) : Valid Tryd.prog E (gs []) 29 spQSTextN := by
  intro args h o nx K ρ H w vs hsp
  unfold spQSTextN at hsp
  split at hsp
  · rename_i t d x n
    obtain ⟨rfl, hx, hd, hK⟩ := hsp
    refine vQSText hE _ _ _ _ _ _ _ _ _ ⟨rfl, hx, ?_⟩
    rcases hd with rfl | ⟨k, l, rfl, h1, h2, h3, h4, h5⟩
    · rw [txtD_nil] at hK; exact .inl ⟨rfl, hK⟩
    · rw [txtD_of] at hK; exact .inr ⟨k, l, rfl, h1, h2, h3, h4, h5, hK⟩
  · exact hsp.elim
def spQMeetsN : FSpec := fun args h nx K => match args with
  | [.agg [.dat (.ptr t) pa, xa, .int .i64 na], .agg [.dat (.ptr t') pb, xb, .int .i64 nb]] => t = 65 ∧ t' = 65 ∧ (pa = .nil ∨ pb = .nil) ∧ K (.bool true) h
  | _ => False
theorem vQMeetsN {E : Nat → Value} (hE : Errs2 Tryd.prog (some 152) E) : Valid Tryd.prog E (gs []) 15 spQMeetsN := by
  intro args h o nx K ρ H w vs hsp
  unfold spQMeetsN at hsp
  split at hsp
  · obtain ⟨rfl, rfl, hn, hK⟩ := hsp
    refine vQMeets hE _ _ _ _ _ _ _ _ _ ⟨rfl, rfl, ?_⟩
    rcases hn with rfl | rfl
    · exact .inl ⟨rfl, hK⟩
    · exact .inr (.inl ⟨rfl, hK⟩)
  · exact hsp.elim
def spQAndN : FSpec := fun args h nx K => match args with
  | [.agg [.dat (.ptr t) pa, xa, .int .i64 na], .agg [.dat (.ptr t') pb, xb, .int .i64 nb]] => t = 65 ∧ t' = 65 ∧ pb = .nil ∧ K (.agg [.dat (.ptr 65) .nil, .nils, .int .i64 0]) h
  | _ => False
theorem vQAndN {E : Nat → Value} (hE : Errs2 Tryd.prog (some 152) E) : Valid Tryd.prog E (gs []) 22 spQAndN := by
  intro args h o nx K ρ H w vs hsp
  unfold spQAndN at hsp
  split at hsp
  · obtain ⟨rfl, rfl, rfl, hK⟩ := hsp
    exact vQAnd hE _ _ _ _ _ _ _ _ _ ⟨rfl, rfl, .inr (.inl ⟨rfl, hK⟩)⟩
  · exact hsp.elim
def spQOrN : FSpec := fun args h nx K => match args with
  | [.agg [.dat (.ptr t) pa, xa, .int .i64 na], .agg [.dat (.ptr t') pb, xb, .int .i64 nb]] => t = 65 ∧ t' = 65 ∧ pa = .nil ∧ sliceX xa ∧ sliceX xb ∧ K (.agg [.dat (.ptr 65) pb, xb, .int .i64 nb]) h
  | _ => False
theorem vQOrN {E : Nat → Value} (hE : Errs2 Tryd.prog (some 152) E) : Valid Tryd.prog E (gs []) 21 spQOrN := by
  intro args h o nx K ρ H w vs hsp
  unfold spQOrN at hsp
  split at hsp
  · obtain ⟨rfl, rfl, rfl, ha, hb, hK⟩ := hsp
    exact vQOr hE _ _ _ _ _ _ _ _ _ ⟨rfl, rfl, .inl ⟨rfl, ha, hb, hK⟩⟩
  · exact hsp.elim
theorem sliceX_nils : sliceX .nils = True := eq_true (.inl rfl)
theorem sliceX_dat (l : List D) : sliceX (.dat (.slice 3) (.list l)) = True := eq_true (.inr ⟨l, rfl⟩)
def z1357 : List Int := [1, 3, 5, 7]
theorem txtOk_1357 {k : Int} (h1 : 1 ≤ k) (h2 : k ≤ 4) : txtOk (QP.of k z1357).enc := .inr ⟨k, z1357, rfl, by omega, by omega, by decide, by decide, by decide +kernel⟩
theorem txtOk_nil : txtOk .nil := .inl rfl
def WQuorNoneW : Opts := mkWF 102 [] [0, 1] [51, 56, 61, 68, 73, 78, 83, 89, 92, 97, 99] 152 [0, 1] [] [] [51, 56, 61, 68, 73, 78, 83, 89, 92, 97, 99]
def icQuorNoneW : IC := (.seq (.seq (.ops [(.u (.mov 4 (.c (.bool false))))]) (.tr [0, 1, 4])) (.seq (.seq (.ops [(.u (.call 12 (.c (.clo 11 [])) [] [] true)), (.u (.mov 5 (.s 12)))]) (.tr [5, 0, 1, 4])) (.seq (.seq (.seq (.ops [(.u (.mov 13 (.s 5))), (.u (.una 14 .not (.s 13)))]) (.tr [14, 5, 0, 1, 4])) (.cond (.s 14) (.seq (.seq (.ops [(.u (.mov 4 (.c (.bool false))))]) (.tr [4])) .ret) .skip)) (.seq (.seq (.seq (.ops [(.u (.mov 15 (.s 1))), (.u (.len 16 false (.s 15))), (.u (.cmp 17 .gtr (.s 16) (.c (.int .i64 20)))), (.u (.mov 18 (.s 17))), (.g 18 false (some 19) (.mov 19 (.s 5))), (.g 18 false (some 20) (.una 20 .not (.s 19))), (.u (.pck 21 (.s 18) (.c (.bool true)) (.s 20)))]) (.tr [21, 5, 0, 1, 4])) (.cond (.s 21) (.seq (.seq (.ops [(.u (.mov 22 (.s 5))), (.u (.mov 4 (.s 22)))]) (.tr [4])) .ret) .skip)) (.seq (.seq (.ops [(.u (.mov 24 (.s 0))), (.u (.call 25 (.c (.clo 12 [])) [(.s 24), (.c (.int .i64 4))] [none, none] true)), (.u (.bin 26 .add .i64 (.s 25) (.c (.int .i64 1)))), (.u (.bsl 27 3 (.int .i64) [(.c (.int .i64 1)), (.c (.int .i64 3)), (.c (.int .i64 5)), (.c (.int .i64 7))])), (.u (.call 28 (.c (.clo 13 [])) [(.s 26), (.s 27)] [none, (some 3)] true)), (.u (.mov 23 (.s 28))), (.u (.ext 29 0 (.s 23))), (.u (.ext 30 1 (.s 23))), (.u (.alc 6 [(.dat (.ptr 65) .nil), .nils, (.int .i64 0)])), (.u (.st (.strct [(.ptr 65), (.slice 3), (.int .i64)]) (.s 6) (.s 29))), (.u (.mov 7 (.s 30)))]) (.tr [7, 1, 6, 4])) (.seq (.seq (.ops [(.u (.alc 8 [(.dat (.ptr 65) .nil), .nils, (.int .i64 0)]))]) (.tr [7, 8, 1, 6, 4])) (.seq (.seq (.ops [(.u (.alc 9 [(.int .i64 0)])), (.u (.st (.int .i64) (.s 9) (.c (.int .i64 0))))]) (.tr [7, 8, 1, 6, 4, 9])) (.seq (.seq (.seq (.ops [(.u (.ld 31 (.strct [(.ptr 65), (.slice 3), (.int .i64)]) (.s 8))), (.u (.call 32 (.c (.clo 14 [])) [(.s 31)] [none] true))]) (.tr [32, 7, 8, 1, 6, 4, 9])) (.block 0 (.seq (.rng (.s 32) [33] .skip (.block 1 (.seq (.ops [(.u (.ld 34 (.int .i64) (.s 9))), (.u (.bin 35 .add .i64 (.s 34) (.c (.int .i64 1)))), (.u (.st (.int .i64) (.s 9) (.s 35)))]) (.tr [])))) (.tr [7, 9, 8, 1, 6])))) (.seq (.seq (.ops [(.u (.ld 36 (.strct [(.ptr 65), (.slice 3), (.int .i64)]) (.s 6))), (.u (.ld 37 (.strct [(.ptr 65), (.slice 3), (.int .i64)]) (.s 8))), (.u (.call 38 (.c (.clo 22 [])) [(.s 36), (.s 37)] [none, none] true)), (.u (.alc 10 [(.dat (.ptr 65) .nil), .nils, (.int .i64 0)])), (.u (.st (.strct [(.ptr 65), (.slice 3), (.int .i64)]) (.s 10) (.s 38)))]) (.tr [7, 9, 8, 10, 1, 6])) (.seq (.seq (.ops [(.u (.ld 39 (.strct [(.ptr 65), (.slice 3), (.int .i64)]) (.s 8))), (.u (.ld 40 (.strct [(.ptr 65), (.slice 3), (.int .i64)]) (.s 6))), (.u (.call 41 (.c (.clo 21 [])) [(.s 39), (.s 40)] [none, none] true)), (.u (.alc 11 [(.dat (.ptr 65) .nil), .nils, (.int .i64 0)])), (.u (.st (.strct [(.ptr 65), (.slice 3), (.int .i64)]) (.s 11) (.s 41)))]) (.tr [7, 9, 8, 10, 1, 11, 6])) (.seq (.seq (.rgn [] [(false, (.u (.mov 42 (.s 7)))), (false, (.u (.eqb 43 false 0 (.s 42)))), (false, (.u (.mov 44 (.s 43)))), (false, (.g 44 true (some 45) (.ld 45 (.int .i64) (.s 9)))), (false, (.g 44 true (some 46) (.cmp 46 .eql (.s 45) (.c (.int .i64 0))))), (false, (.u (.pck 47 (.s 44) (.s 46) (.c (.bool false))))), (false, (.u (.mov 48 (.s 47)))), (false, (.g 48 true (some 49) (.ld 49 (.strct [(.ptr 65), (.slice 3), (.int .i64)]) (.s 8)))), (false, (.g 48 true (some 50) (.mov 50 (.s 1)))), (true, (.g 48 true (some 51) (.call 51 (.c (.clo 16 [])) [(.s 49), (.s 50)] [none, (some 3)] false))), (false, (.g 48 true (some 52) (.una 52 .not (.s 51)))), (false, (.u (.pck 53 (.s 48) (.s 52) (.c (.bool false))))), (false, (.u (.mov 54 (.s 53)))), (false, (.g 54 true (some 55) (.ld 55 (.strct [(.ptr 65), (.slice 3), (.int .i64)]) (.s 8)))), (true, (.g 54 true (some 56) (.call 56 (.c (.clo 29 [])) [(.s 55)] [none] false))), (false, (.g 54 true (some 57) (.seq 57 false (.s 56) (.c (.str ⟨#[110, 111, 110, 101]⟩))))), (false, (.u (.pck 58 (.s 54) (.s 57) (.c (.bool false))))), (false, (.u (.mov 59 (.s 58)))), (false, (.g 59 true (some 60) (.ld 60 (.strct [(.ptr 65), (.slice 3), (.int .i64)]) (.s 8)))), (true, (.g 59 true (some 61) (.call 61 (.c (.clo 23 [])) [(.s 60)] [none] false))), (false, (.g 59 true (some 62) (.len 62 false (.s 61)))), (false, (.g 59 true (some 63) (.cmp 63 .eql (.s 62) (.c (.int .i64 0))))), (false, (.u (.pck 64 (.s 59) (.s 63) (.c (.bool false))))), (false, (.u (.mov 65 (.s 64)))), (false, (.g 65 true (some 66) (.ld 66 (.strct [(.ptr 65), (.slice 3), (.int .i64)]) (.s 8)))), (false, (.g 65 true (some 67) (.ld 67 (.strct [(.ptr 65), (.slice 3), (.int .i64)]) (.s 6)))), (true, (.g 65 true (some 68) (.call 68 (.c (.clo 15 [])) [(.s 66), (.s 67)] [none, none] false))), (false, (.u (.pck 69 (.s 65) (.s 68) (.c (.bool false))))), (false, (.u (.mov 70 (.s 69)))), (false, (.g 70 true (some 71) (.ld 71 (.strct [(.ptr 65), (.slice 3), (.int .i64)]) (.s 6)))), (false, (.g 70 true (some 72) (.ld 72 (.strct [(.ptr 65), (.slice 3), (.int .i64)]) (.s 8)))), (true, (.g 70 true (some 73) (.call 73 (.c (.clo 15 [])) [(.s 71), (.s 72)] [none, none] false))), (false, (.u (.pck 74 (.s 70) (.s 73) (.c (.bool false))))), (false, (.u (.mov 75 (.s 74)))), (false, (.g 75 true (some 76) (.ld 76 (.strct [(.ptr 65), (.slice 3), (.int .i64)]) (.s 10)))), (false, (.g 75 true (some 77) (.mov 77 (.s 1)))), (true, (.g 75 true (some 78) (.call 78 (.c (.clo 16 [])) [(.s 76), (.s 77)] [none, (some 3)] false))), (false, (.g 75 true (some 79) (.una 79 .not (.s 78)))), (false, (.u (.pck 80 (.s 75) (.s 79) (.c (.bool false))))), (false, (.u (.mov 81 (.s 80)))), (false, (.g 81 true (some 82) (.ld 82 (.strct [(.ptr 65), (.slice 3), (.int .i64)]) (.s 10)))), (true, (.g 81 true (some 83) (.call 83 (.c (.clo 29 [])) [(.s 82)] [none] false))), (false, (.g 81 true (some 84) (.seq 84 false (.s 83) (.c (.str ⟨#[110, 111, 110, 101]⟩))))), (false, (.u (.pck 85 (.s 81) (.s 84) (.c (.bool false))))), (false, (.u (.mov 86 (.s 85)))), (false, (.g 86 true (some 87) (.ld 87 (.strct [(.ptr 65), (.slice 3), (.int .i64)]) (.s 11)))), (false, (.g 86 true (some 88) (.mov 88 (.s 1)))), (false, (.g 86 true (some 90) (.ld 90 (.strct [(.ptr 65), (.slice 3), (.int .i64)]) (.s 6)))), (false, (.g 86 true (some 91) (.mov 91 (.s 1)))), (true, (.g 86 true (some 89) (.call 89 (.c (.clo 16 [])) [(.s 87), (.s 88)] [none, (some 3)] false))), (true, (.g 86 true (some 92) (.call 92 (.c (.clo 16 [])) [(.s 90), (.s 91)] [none, (some 3)] false))), (false, (.g 86 true (some 93) (.beq 93 false (.s 89) (.s 92)))), (false, (.u (.pck 94 (.s 86) (.s 93) (.c (.bool false))))), (false, (.u (.mov 95 (.s 94)))), (false, (.g 95 true (some 96) (.ld 96 (.strct [(.ptr 65), (.slice 3), (.int .i64)]) (.s 11)))), (false, (.g 95 true (some 98) (.ld 98 (.strct [(.ptr 65), (.slice 3), (.int .i64)]) (.s 6)))), (true, (.g 95 true (some 97) (.call 97 (.c (.clo 29 [])) [(.s 96)] [none] false))), (true, (.g 95 true (some 99) (.call 99 (.c (.clo 29 [])) [(.s 98)] [none] false))), (false, (.g 95 true (some 100) (.seq 100 false (.s 97) (.s 99)))), (false, (.u (.pck 101 (.s 95) (.s 100) (.c (.bool false))))), (false, (.u (.mov 4 (.s 101))))]) (.tr [4])) .ret)))))))))))
def rsQuorNoneW : List RV := [(.t 4)]
theorem irQuorNoneW : fnIR Tryd.prog WQuorNoneW 10 = some (icQuorNoneW, rsQuorNoneW) := by kernel_rfl
def spQuorNone : FSpec := fun args h nx K => match args with
  | [.int .i64 k, .dat (.slice t) d] => t = 3 ∧ K (.bool true) h
  | _ => False
end Go.Proofs.YtkmilijehekdoaaDoor
