/- Chapter 6: texts of sets: the walks. -/
import Derived.Test.YtkmilijehekdoaaDoorQuorTa
import Derived.Test.YtkmilijehekdoaaDoorQuorV
import Derived.Test.YtkmilijehekdoaaDoorQuorM
namespace Go.Proofs.YtkmilijehekdoaaDoor
set_option linter.unusedVariables false
set_option linter.unusedSimpArgs false
open Go Go.Fw
attribute [local go_sem] walkSet evMdl evMupD evMup evLkp frpL eltP eltV eltK preF preP prePt prePd frzP evNlq ev frOf oget ogets argSs argS evCat evMm frzL evBin evWrp evShf evCmp evUna evNil evBeq evLd evSt evFad evIad evAad evLen evSln evEls evApp evParts evSlc evNlc evMif evPck evFld evBld evTas evIfq evSeq evSl0 evBxf evAgl evAgq evBsf hget hset hdel cellAt arrAt setCellAt setArrAt takeC lenC svCells SV.okc SV.one ldSV Fw.isAgg explode explodeL toD toDL toD1 Ty.size Ty.sizeL frz1 Fr.sub Heap.sub Tok.sub SV.sub SV.subL

def WQText : Opts := mkWE 74 [] [] [] 152 [] []
def icQText : IC := (.seq (.seq (.ops [(.u (.mov 2 (.c (.str ⟨#[]⟩))))]) (.tr [0])) (.seq (.block 0 (.seq (.seq (.ops [(.u (.mov 7 (.s 0))), (.u (.eqb 8 false 1 (.s 7))), (.u (.mov 6 (.s 8)))]) (.tr [6, 0])) (.cond (.s 6) (.seq (.seq (.ops [(.u (.mov 2 (.c (.str ⟨#[110, 111, 110, 101]⟩))))]) (.tr [2])) .ret) (.seq (.seq (.ops [(.u (.mov 10 (.s 0))), (.u (.nlc 11 (.s 10))), (.u (.fad 12 0 0 (.int .i64) 65 (.s 11))), (.u (.ld 13 (.int .i64) (.s 12))), (.u (.cmp 14 .eql (.s 13) (.c (.int .i64 1)))), (.u (.mov 9 (.s 14)))]) (.tr [9, 0])) (.cond (.s 9) (.seq (.seq (.rgn [] [(false, (.u (.mov 15 (.s 0)))), (false, (.u (.nlc 16 (.s 15)))), (false, (.u (.fad 17 3 3 (.ptr 65) 65 (.s 16)))), (false, (.u (.ld 18 (.ptr 65) (.s 17)))), (false, (.u (.mov 22 (.s 0)))), (false, (.u (.nlc 23 (.s 22)))), (false, (.u (.fad 24 4 4 (.ptr 65) 65 (.s 23)))), (true, (.u (.ld 25 (.ptr 65) (.s 24)))), (false, (.u (.call 19 (.c (.clo 46 [])) [(.s 18)] [none] true))), (false, (.u (.cat 20 (.c (.str ⟨#[40]⟩)) (.s 19)))), (false, (.u (.cat 21 (.s 20) (.c (.str ⟨#[32, 38, 32]⟩))))), (false, (.u (.call 26 (.c (.clo 46 [])) [(.s 25)] [none] true))), (false, (.u (.cat 27 (.s 21) (.s 26)))), (false, (.u (.cat 28 (.s 27) (.c (.str ⟨#[41]⟩))))), (false, (.u (.mov 2 (.s 28))))]) (.tr [2])) .ret) (.seq (.seq (.ops [(.u (.mov 30 (.s 0))), (.u (.nlc 31 (.s 30))), (.u (.fad 32 0 0 (.int .i64) 65 (.s 31))), (.u (.ld 33 (.int .i64) (.s 32))), (.u (.cmp 34 .eql (.s 33) (.c (.int .i64 2)))), (.u (.mov 29 (.s 34)))]) (.tr [29, 0])) (.cond (.s 29) (.seq (.seq (.rgn [] [(false, (.u (.mov 35 (.s 0)))), (false, (.u (.nlc 36 (.s 35)))), (false, (.u (.fad 37 3 3 (.ptr 65) 65 (.s 36)))), (false, (.u (.ld 38 (.ptr 65) (.s 37)))), (false, (.u (.mov 42 (.s 0)))), (false, (.u (.nlc 43 (.s 42)))), (false, (.u (.fad 44 4 4 (.ptr 65) 65 (.s 43)))), (true, (.u (.ld 45 (.ptr 65) (.s 44)))), (false, (.u (.call 39 (.c (.clo 46 [])) [(.s 38)] [none] true))), (false, (.u (.cat 40 (.c (.str ⟨#[40]⟩)) (.s 39)))), (false, (.u (.cat 41 (.s 40) (.c (.str ⟨#[32, 124, 32]⟩))))), (false, (.u (.call 46 (.c (.clo 46 [])) [(.s 45)] [none] true))), (false, (.u (.cat 47 (.s 41) (.s 46)))), (false, (.u (.cat 48 (.s 47) (.c (.str ⟨#[41]⟩))))), (false, (.u (.mov 2 (.s 48))))]) (.tr [2])) .ret) .skip))))))) (.seq (.seq (.ops [(.u (.mov 3 (.c .nils)))]) (.tr [0, 3])) (.seq (.seq (.seq (.ops [(.u (.mov 49 (.s 0))), (.u (.nlc 50 (.s 49))), (.u (.fad 51 2 2 (.slice 3) 65 (.s 50))), (.u (.ld 52 (.slice 3) (.s 51))), (.u (.len 53 false (.s 52))), (.u (.mov 54 (.c (.int .i64 0))))]) (.tr [53, 52, 54, 0, 3])) (.block 1 (.loop (.seq (.seq (.ops [(.u (.cmp 55 .lss (.s 54) (.s 53)))]) (.tr [55, 54, 53, 52, 0, 3])) (.seq (.cond (.s 55) .skip (.exit 1)) (.seq (.block 2 (.seq (.seq (.ops [(.u (.iad 56 3 (.int .i64) (.s 52) (.s 54))), (.u (.ld 57 (.int .i64) (.s 56))), (.u (.mov 5 (.s 57)))]) (.tr [3, 5, 54, 53, 52, 0])) (.seq (.ops [(.u (.mov 58 (.s 3))), (.u (.mov 59 (.s 5))), (.u (.call 60 (.c (.clo 47 [])) [(.s 59)] [none] true)), (.u (.bsl 61 9 .str [(.s 60)])), (.u (.app 62 9 .str 16 (.s 58) (.s 61))), (.u (.mov 3 (.s 62)))]) (.tr [54, 53, 52, 0, 3])))) (.seq (.ops [(.u (.bin 63 .add .i64 (.s 54) (.c (.int .i64 1)))), (.u (.mov 54 (.s 63)))]) (.tr [53, 52, 54, 0, 3])))))))) (.seq (.seq (.ops [(.u (.mov 64 (.s 0))), (.u (.nlc 65 (.s 64))), (.u (.fad 66 1 1 (.int .i64) 65 (.s 65))), (.u (.ld 67 (.int .i64) (.s 66))), (.u (.call 68 (.c (.clo 47 [])) [(.s 67)] [none] true)), (.u (.cat 69 (.s 68) (.c (.str ⟨#[47, 123]⟩)))), (.u (.mov 70 (.s 3))), (.u (.call 71 (.c (.clo 57 [])) [(.s 70), (.c (.str ⟨#[32]⟩))] [(some 9), none] true)), (.u (.cat 72 (.s 69) (.s 71))), (.u (.cat 73 (.s 72) (.c (.str ⟨#[125]⟩)))), (.u (.mov 2 (.s 73)))]) (.tr [2])) .ret)))))
def rsQText : List RV := [(.t 2)]
theorem irQText : fnIR Tryd.prog WQText 46 = some (icQText, rsQText) := by kernel_rfl
def spQTextG (N : Nat) : FSpec := fun args h nx K => match args with
  | [.dat (.ptr t) d] => t = 65 ∧ ((d = .nil ∧ K (.str noneS) h) ∨ ∃ q : QP, d = q.enc ∧ q.tok ∧ q.leaves ≤ 16 ∧ q.dep < N ∧ K (.str q.txt) h)
  | _ => False
set_option maxHeartbeats 4000000 in
set_option maxRecDepth 8000 in
theorem vQTextG {E : Nat → Value} (hE : Errs2 Tryd.prog (some 152) E) : ∀ N, Valid Tryd.prog E (gs []) 46 (spQTextG N) := by
  intro N
  induction N with
  | zero =>
    refine valid_go (W := WQText) hE allValid_bot irQText (by decide) (fun args h nx K hsp hok hnm => ?_)
    unfold spQTextG at hsp
    split at hsp
    · rename_i t d
      obtain ⟨rfl, ⟨rfl, hK⟩ | ⟨q, _, _, _, hdep, _⟩⟩ := hsp
      · refine ⟨by simp [WQText, mkW, mkWE, mkWF], fun Q hQ => ?_⟩
        simp only [icQText, go_sem, goD_calls, eq_self, implies_true, Int.reduceEq, Int.reduceBEq, Int.reduceBNe, Int.reduceLE, Int.reduceLT, Int.reduceAdd, Int.reduceSub, Int.reduceMul, Int.reduceNeg, Nat.reduceMul, Nat.reduceSub, Nat.reduceLeDiff, Nat.reduceLT, Nat.reduceEqDiff, Nat.reduceAdd, reduceCtorEq, ↓reduceIte, reduceIte]
        refine (hQ _ ?_).1
        exact fin_t (.str noneS) rfl rfl hnm (by ((try simp only []); repeat first | exact HLe.refl _ | refine HLe.cons (by simp only [hget, Nat.reduceEqDiff, Nat.left_eq_add, Nat.add_eq_left, nm_ne2, nm_en2, nm_ne3, nm_en3, nm_ne4, nm_en4, nm_ne5, nm_en5, reduceIte, ↓reduceIte] <;> first | rfl | ((repeat rw [if_neg (by omega)]) <;> rfl)) ?_ | refine HLe.skip hnm (by omega) ?_ | refine HLe.frz hnm (by omega) ?_ | refine HLe.del hnm (by omega) ?_)) hK
      · omega
    · exact hsp.elim
  | succ N ih =>
  refine valid_go (W := WQText) hE (((allValid_bot.add ih).add (up (vItoa hE))).add (up (vJoin hE))) irQText (by decide) (fun args h nx K hsp hok hnm => ?_)
  unfold spQTextG at hsp
  split at hsp
  · rename_i t d
    obtain ⟨rfl, hsp⟩ := hsp
    refine ⟨by simp [WQText, mkW, mkWE, mkWF], fun Q hQ => ?_⟩
    have ret : ∀ s h' nx', HLe h h' → K (.str s) h → Q Ex.ret ⟨[(2, .str s)], h', nx'⟩ := fun s h' nx' hh hK => by
      refine (hQ _ ?_).1
      exact fin_t (.str s) rfl rfl hnm hh hK
    rcases hsp with ⟨rfl, hK⟩ | ⟨q, rfl, hq, hl16, hdep, hK⟩
    · simp only [icQText, go_sem, goD_calls, eq_self, implies_true, Int.reduceEq, Int.reduceBEq, Int.reduceBNe, Int.reduceLE, Int.reduceLT, Int.reduceAdd, Int.reduceSub, Int.reduceMul, Int.reduceNeg, Nat.reduceMul, Nat.reduceSub, Nat.reduceLeDiff, Nat.reduceLT, Nat.reduceEqDiff, Nat.reduceAdd, reduceCtorEq, ↓reduceIte, reduceIte]
      exact ret _ _ _ (by ((try simp only []); repeat first | exact HLe.refl _ | refine HLe.cons (by simp only [hget, Nat.reduceEqDiff, Nat.left_eq_add, Nat.add_eq_left, nm_ne2, nm_en2, nm_ne3, nm_en3, nm_ne4, nm_en4, nm_ne5, nm_en5, reduceIte, ↓reduceIte] <;> first | rfl | ((repeat rw [if_neg (by omega)]) <;> rfl)) ?_ | refine HLe.skip hnm (by omega) ?_ | refine HLe.frz hnm (by omega) ?_ | refine HLe.del hnm (by omega) ?_)) hK
    · have hm : (100000 : Nat) ≤ maxLen := by decide
      have z40 : (#[40] : Array UInt8).size = 1 := rfl
      have z41 : (#[41] : Array UInt8).size = 1 := rfl
      have z38 : (#[32, 38, 32] : Array UInt8).size = 3 := rfl
      have z124 : (#[32, 124, 32] : Array UInt8).size = 3 := rfl
      cases q with
      | of k l =>
        obtain ⟨hk0, hk1, hl, hr⟩ := hq
        have hj : (joinS (txtL (l.map D.int)) s1S).size ≤ 1000 := by
          have := txtL_size (map_rng hr)
          rw [List.length_map] at this
          omega
        simp only [icQText, go_sem, goD_calls, eq_self, implies_true, Int.reduceEq, Int.reduceBEq, Int.reduceBNe, Int.reduceLE, Int.reduceLT, Int.reduceAdd, Int.reduceSub, Int.reduceMul, Int.reduceNeg, Nat.reduceMul, Nat.reduceSub, Nat.reduceLeDiff, Nat.reduceLT, Nat.reduceEqDiff, Nat.reduceAdd, reduceCtorEq, ↓reduceIte, reduceIte, QP.enc]
        obtain ⟨e, he⟩ : ∃ e, (QP.of k l).enc = e := ⟨_, rfl⟩
        have he2 := he
        simp only [QP.enc] at he2
        rw [he2]
        have hll : (l.map D.int).length = l.length := List.length_map _
        have hLr : ∀ d ∈ l.map D.int, 0 ≤ d.i ∧ d.i < 100 := fun d hd => by
          obtain ⟨x, hx, rfl⟩ := List.mem_map.1 hd
          exact hr x hx
        have tl : ∀ m : List D, (txtL m).length = m.length := fun m => List.length_map _
        refine go_loop (α := { i : Nat // i ≤ (l.map D.int).length }) (I := fun i => { f := [(54, .int .i64 i.1), (53, .int .i64 ((l.map D.int).length : Int)), (52, .dat (.slice 3) (.list (l.map D.int))), (0, .dat (.ptr 65) e), (3, .vec nx)], h := (nx, .arr 9 .str (txtL ((l.map D.int).take i.1))) :: h, nx := nx + 1 }) (μ := fun i => (l.map D.int).length - i.1) _ _ _ ⟨0, by omega⟩ ?_ (fun i B hB => ?_)
        · refine leq_nil (.slot 3 9 .str rfl (.refl _)) ?_
          simp only [go_sem, goD_calls, eq_self, implies_true, Int.reduceEq, Int.reduceBEq, Int.reduceBNe, Int.reduceLE, Int.reduceLT, Int.reduceAdd, Int.reduceSub, Int.reduceMul, Int.reduceNeg, Nat.reduceMul, Nat.reduceSub, Nat.reduceLeDiff, Nat.reduceLT, Nat.reduceEqDiff, Nat.reduceAdd, reduceCtorEq, ↓reduceIte, reduceIte]
          refine leq_id ?_ (by (simp only [frLt_cons, frLt_nil, and_true, SV.lt, SV.ltL, true_and] <;> omega)) (by ((try simp only []); repeat first | exact HLe.refl _ | refine HLe.cons (by simp only [hget, Nat.reduceEqDiff, Nat.left_eq_add, Nat.add_eq_left, nm_ne2, nm_en2, nm_ne3, nm_en3, nm_ne4, nm_en4, nm_ne5, nm_en5, reduceIte, ↓reduceIte] <;> first | rfl | ((repeat rw [if_neg (by omega)]) <;> rfl)) ?_ | refine HLe.skip hnm (by omega) ?_ | refine HLe.frz hnm (by omega) ?_ | refine HLe.del hnm (by omega) ?_)) (by (repeat first | exact HLt.mono hnm (by simp only [] <;> omega) | refine HLt.cons (by simp only [] <;> omega) (by simp only [Tok.lt, SV.ltL, SV.lt, and_true, true_and] <;> omega) ?_)) (by simp only [] <;> omega)
          simp only [frEq_cons, frEq_nil, frIn_cons, frIn_nil, and_true, fget_cons, Nat.reduceEqDiff, reduceIte, ↓reduceIte, true_and, SV.ren, SV.renL, ren1]
          exact rfl
        obtain ⟨i, hi⟩ := i
        simp only at hB
        by_cases hil : i < (l.map D.int).length
        · have c1 : decide ((i : Int) < ((l.map D.int).length : Int)) = true := decide_eq_true (by omega)
          have hs := txt_step hil
          obtain ⟨n, hn⟩ : ∃ n, ((l.map D.int).getD i .nil).i = n := ⟨_, rfl⟩
          have hnr : 0 ≤ n ∧ n < 100 := by
            rw [← hn]
            refine hLr _ ?_
            rw [List.getD_eq_getElem?_getD, List.getElem?_eq_getElem hil]
            exact List.getElem_mem hil
          rw [hn] at hs
          have htk : (txtL ((l.map D.int).take i)).length ≤ 16 := by rw [tl, List.length_take]; omega
          simp only [go_sem, goD_calls, eq_self, implies_true, Int.reduceEq, Int.reduceBEq, Int.reduceBNe, Int.reduceLE, Int.reduceLT, Int.reduceAdd, Int.reduceSub, Int.reduceMul, Int.reduceNeg, Nat.reduceMul, Nat.reduceSub, Nat.reduceLeDiff, Nat.reduceLT, Nat.reduceEqDiff, Nat.reduceAdd, reduceCtorEq, ↓reduceIte, reduceIte, c1, hn, spItoa, Int.toNat_natCast, min_i64, max_i64]
          rw [← hs]
          refine ⟨⟨by omega, by omega⟩, hnr.1, hnr.2, by omega, ⟨by omega, by omega⟩, ?_⟩
          refine hB _ ⟨i + 1, by omega⟩ (by simp only []; omega) ?_
          refine leq_ren1 nx (nx + 1 + 64 + 1) (by omega) (by simp only [] <;> omega) ?_ (by (simp only [frLt_cons, frLt_nil, and_true, SV.lt, SV.ltL, true_and] <;> omega)) ?_ (by (repeat first | exact HLt.mono hnm (by simp only [] <;> omega) | refine HLt.cons (by simp only [] <;> omega) (by simp only [Tok.lt, SV.ltL, SV.lt, and_true, true_and] <;> omega) ?_)) (by simp only [] <;> omega)
          · simp only [frEq_cons, frEq_nil, frIn_cons, frIn_nil, and_true, fget_cons, Nat.reduceEqDiff, reduceIte, ↓reduceIte, true_and, SV.ren, SV.renL, ren1]
            simp
          · exact HRen.cons (by rw [ren1_eq]; simp [hget, Tok.ren]) (HRen.base hnm (Nat.le_refl _) (by ((try simp only []); repeat first | exact HLe.refl _ | refine HLe.cons (by simp only [hget, Nat.reduceEqDiff, Nat.left_eq_add, Nat.add_eq_left, nm_ne2, nm_en2, nm_ne3, nm_en3, nm_ne4, nm_en4, nm_ne5, nm_en5, reduceIte, ↓reduceIte] <;> first | rfl | ((repeat rw [if_neg (by omega)]) <;> rfl)) ?_ | refine HLe.skip hnm (by omega) ?_ | refine HLe.frz hnm (by omega) ?_ | refine HLe.del hnm (by omega) ?_)))
        obtain rfl : i = (l.map D.int).length := by omega
        have c1 : decide (((l.map D.int).length : Int) < ((l.map D.int).length : Int)) = false := decide_eq_false (by omega)
        rw [List.take_of_length_le (Nat.le_refl _), ← he2]
        have hm : (100000 : Nat) ≤ maxLen := by decide
        have z1 := itoaS_size hk0 hk1
        have hj : (joinS (txtL (l.map D.int)) ⟨#[32]⟩).size ≤ 1000 := hj
        have hK : K (.str (itoaS k ++ ⟨#[47, 123]⟩ ++ joinS (txtL (l.map D.int)) ⟨#[32]⟩ ++ ⟨#[125]⟩)) h := hK
        have z47 : (#[47, 123] : Array UInt8).size = 2 := rfl
        have z125 : (#[125] : Array UInt8).size = 1 := rfl
        simp only [go_sem, goD_calls, eq_self, implies_true, Int.reduceEq, Int.reduceBEq, Int.reduceBNe, Int.reduceLE, Int.reduceLT, Int.reduceAdd, Int.reduceSub, Int.reduceMul, Int.reduceNeg, Nat.reduceMul, Nat.reduceSub, Nat.reduceLeDiff, Nat.reduceLT, Nat.reduceEqDiff, Nat.reduceAdd, reduceCtorEq, ↓reduceIte, reduceIte, c1, spItoa, spJoin]
        refine ⟨hk0, hk1, by simp only [z47, z125]; omega, by rw [tl, hll]; omega, by omega, by simp only [z47, z125]; omega, by simp only [z47, z125]; omega, ?_⟩
        exact ret _ _ _ (by ((try simp only []); repeat first | exact HLe.refl _ | refine HLe.cons (by simp only [hget, Nat.reduceEqDiff, Nat.left_eq_add, Nat.add_eq_left, nm_ne2, nm_en2, nm_ne3, nm_en3, nm_ne4, nm_en4, nm_ne5, nm_en5, reduceIte, ↓reduceIte] <;> first | rfl | ((repeat rw [if_neg (by omega)]) <;> rfl)) ?_ | refine HLe.skip hnm (by omega) ?_ | refine HLe.frz hnm (by omega) ?_ | refine HLe.del hnm (by omega) ?_)) hK

      | an x y =>
        have h1 := x.txt_size hq.1
        have h2 := y.txt_size hq.2
        simp only [QP.dep] at hdep
        simp only [QP.leaves] at hl16
        have hK : K (.str ((⟨#[40]⟩ : ByteArray) ++ x.txt ++ ⟨#[32, 38, 32]⟩ ++ y.txt ++ ⟨#[41]⟩)) h := hK
        simp only [icQText, go_sem, goD_calls, eq_self, implies_true, Int.reduceEq, Int.reduceBEq, Int.reduceBNe, Int.reduceLE, Int.reduceLT, Int.reduceAdd, Int.reduceSub, Int.reduceMul, Int.reduceNeg, Nat.reduceMul, Nat.reduceSub, Nat.reduceLeDiff, Nat.reduceLT, Nat.reduceEqDiff, Nat.reduceAdd, reduceCtorEq, ↓reduceIte, reduceIte, QP.enc, spQTextG]
        refine .inr ⟨x, rfl, hq.1, by omega, by omega, by simp only [z40]; omega, by simp only [z40, z38]; omega, .inr ⟨y, rfl, hq.2, by omega, by omega, by simp only [z40, z38]; omega, by simp only [z40, z38, z41]; omega, ?_⟩⟩
        exact ret _ _ _ (by ((try simp only []); repeat first | exact HLe.refl _ | refine HLe.cons (by simp only [hget, Nat.reduceEqDiff, Nat.left_eq_add, Nat.add_eq_left, nm_ne2, nm_en2, nm_ne3, nm_en3, nm_ne4, nm_en4, nm_ne5, nm_en5, reduceIte, ↓reduceIte] <;> first | rfl | ((repeat rw [if_neg (by omega)]) <;> rfl)) ?_ | refine HLe.skip hnm (by omega) ?_ | refine HLe.frz hnm (by omega) ?_ | refine HLe.del hnm (by omega) ?_)) hK
      | or x y =>
        have h1 := x.txt_size hq.1
        have h2 := y.txt_size hq.2
        simp only [QP.dep] at hdep
        simp only [QP.leaves] at hl16
        have hK : K (.str ((⟨#[40]⟩ : ByteArray) ++ x.txt ++ ⟨#[32, 124, 32]⟩ ++ y.txt ++ ⟨#[41]⟩)) h := hK
        simp only [icQText, go_sem, goD_calls, eq_self, implies_true, Int.reduceEq, Int.reduceBEq, Int.reduceBNe, Int.reduceLE, Int.reduceLT, Int.reduceAdd, Int.reduceSub, Int.reduceMul, Int.reduceNeg, Nat.reduceMul, Nat.reduceSub, Nat.reduceLeDiff, Nat.reduceLT, Nat.reduceEqDiff, Nat.reduceAdd, reduceCtorEq, ↓reduceIte, reduceIte, QP.enc, spQTextG]
        refine .inr ⟨x, rfl, hq.1, by omega, by omega, by simp only [z40]; omega, by simp only [z40, z124]; omega, .inr ⟨y, rfl, hq.2, by omega, by omega, by simp only [z40, z124]; omega, by simp only [z40, z124, z41]; omega, ?_⟩⟩
        exact ret _ _ _ (by ((try simp only []); repeat first | exact HLe.refl _ | refine HLe.cons (by simp only [hget, Nat.reduceEqDiff, Nat.left_eq_add, Nat.add_eq_left, nm_ne2, nm_en2, nm_ne3, nm_en3, nm_ne4, nm_en4, nm_ne5, nm_en5, reduceIte, ↓reduceIte] <;> first | rfl | ((repeat rw [if_neg (by omega)]) <;> rfl)) ?_ | refine HLe.skip hnm (by omega) ?_ | refine HLe.frz hnm (by omega) ?_ | refine HLe.del hnm (by omega) ?_)) hK
  · exact hsp.elim
def tokQ (d : D) : Prop := d = .nil ∨ ∃ q : QP, d = q.enc ∧ q.tok ∧ q.leaves ≤ 16
open Classical in
noncomputable def txtD (p : D) : ByteArray := if h : ∃ q : QP, p = q.enc then (Classical.choose h).txt else noneS
theorem txtD_enc (q : QP) : txtD q.enc = q.txt := by
  unfold txtD
  have h : ∃ q' : QP, q.enc = q'.enc := ⟨q, rfl⟩
  rw [dif_pos h]
  rw [← QP.enc_inj (Classical.choose_spec h)]
theorem txtD_nil : txtD .nil = noneS := by
  unfold txtD
  rw [dif_neg]
  rintro ⟨q, h⟩
  cases q <;> cases h
def spQTextD : FSpec := fun args h nx K => match args with
  | [.dat (.ptr t) d] => t = 65 ∧ tokQ d ∧ K (.str (txtD d)) h
  | _ => False
theorem vQTextD {E : Nat → Value} (hE : Errs2 Tryd.prog (some 152) E) : Valid Tryd.prog E (gs []) 46 spQTextD := by
  intro args h o nx K ρ H w vs hsp
  unfold spQTextD at hsp
  split at hsp
  · rename_i t d
    obtain ⟨rfl, hd, hK⟩ := hsp
    rcases hd with rfl | ⟨q, rfl, h1, h2⟩
    · exact vQTextG hE 0 _ _ _ _ _ _ _ _ _ ⟨rfl, .inl ⟨rfl, by rw [txtD_nil] at hK; exact hK⟩⟩
    · exact vQTextG hE (q.dep + 1) _ _ _ _ _ _ _ _ _ ⟨rfl, .inr ⟨q, rfl, h1, h2, Nat.lt_succ_self _, by rw [txtD_enc] at hK; exact hK⟩⟩
  · exact hsp.elim
def WQSText : Opts := mkWE 6 [] [] [] 152 [] []
def icQSText : IC := (.seq (.seq (.ops [(.u (.box 1 0 (.s 0))), (.u (.mov 2 (.c (.str ⟨#[]⟩))))]) (.tr [1])) (.seq (.seq (.ops [(.u (.fad 3 0 0 (.ptr 65) 27 (.s 1))), (.u (.ld 4 (.ptr 65) (.s 3))), (.u (.call 5 (.c (.clo 46 [])) [(.s 4)] [none] true)), (.u (.mov 2 (.s 5)))]) (.tr [2])) .ret))
def rsQSText : List RV := [(.t 2)]
theorem irQSText : fnIR Tryd.prog WQSText 29 = some (icQSText, rsQSText) := by kernel_rfl
def spQSTextD : FSpec := fun args h nx K => match args with
  | [.agg [.dat (.ptr t) d, x, .int .i64 n]] => t = 65 ∧ sliceX x ∧ tokQ d ∧ K (.str (txtD d)) h
  | _ => False
set_option maxHeartbeats 4000000 in
set_option maxRecDepth 8000 in
theorem vQSText {E : Nat → Value} (hE : Errs2 Tryd.prog (some 152) E) : Valid Tryd.prog E (gs []) 29 spQSTextD := by
  refine valid_go (W := WQSText) hE (allValid_bot.add (up (vQTextD hE))) irQSText (by decide) (fun args h nx K hsp hok hnm => ?_)
  unfold spQSTextD at hsp
  split at hsp
  · rename_i t d x n
    obtain ⟨rfl, hx, hd, hK⟩ := hsp
    refine ⟨by simp [WQSText, mkW, mkWE, mkWF], fun Q hQ => ?_⟩
    rcases hx with rfl | ⟨l0, rfl⟩
    all_goals
      simp only [icQSText, go_sem, goD_calls, eq_self, implies_true, Int.reduceEq, Int.reduceBEq, Int.reduceBNe, Int.reduceLE, Int.reduceLT, Int.reduceAdd, Int.reduceSub, Int.reduceMul, Int.reduceNeg, Nat.reduceMul, Nat.reduceSub, Nat.reduceLeDiff, Nat.reduceLT, Nat.reduceEqDiff, Nat.reduceAdd, reduceCtorEq, ↓reduceIte, reduceIte, spQTextD, hd]
      refine (hQ _ ?_).1
      exact fin_t (.str _) rfl rfl hnm (by ((try simp only []); repeat first | exact HLe.refl _ | refine HLe.cons (by simp only [hget, Nat.reduceEqDiff, Nat.left_eq_add, Nat.add_eq_left, nm_ne2, nm_en2, nm_ne3, nm_en3, nm_ne4, nm_en4, nm_ne5, nm_en5, reduceIte, ↓reduceIte] <;> first | rfl | ((repeat rw [if_neg (by omega)]) <;> rfl)) ?_ | refine HLe.skip hnm (by omega) ?_ | refine HLe.frz hnm (by omega) ?_ | refine HLe.del hnm (by omega) ?_)) hK
  · exact hsp.elim
end Go.Proofs.YtkmilijehekdoaaDoor
