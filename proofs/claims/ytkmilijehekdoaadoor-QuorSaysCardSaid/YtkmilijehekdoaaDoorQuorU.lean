/- Chapter 6: the document's sets: two together. -/
import Derived.Test.YtkmilijehekdoaaDoorQuorT
namespace Go.Proofs.YtkmilijehekdoaaDoor
set_option linter.unusedVariables false
set_option linter.unusedSimpArgs false
open Go Go.Fw
attribute [local go_sem] walkSet evMdl evMupD evMup evLkp frpL eltP eltV eltK preF preP prePt prePd frzP evNlq ev frOf oget ogets argSs argS evCat evMm frzL evBin evWrp evShf evCmp evUna evNil evBeq evLd evSt evFad evIad evAad evLen evSln evEls evApp evParts evSlc evNlc evMif evPck evFld evBld evTas evIfq evSeq evSl0 evBxf evAgl evAgq evBsf hget hset hdel cellAt arrAt setCellAt setArrAt takeC lenC svCells SV.okc SV.one ldSV Fw.isAgg explode explodeL toD toDL toD1 Ty.size Ty.sizeL frz1 Fr.sub Heap.sub Tok.sub SV.sub SV.subL

def isOf (d : D) : Bool := rK d == 0
/-- Two rows of parts, one behind the other, both below a new part. -/
def joinP (kind : Int) (a b : List D) : List D := a ++ b.map (shP a.length) ++ [rPart kind 0 ((a.length : Int) - 1) ((a.length : Int) + (b.length : Int) - 1) []]
def twoL (kind : Int) (a b : List D) : List D :=
  if a.length = 0 ∨ b.length = 0 then (if kind = 1 then [] else if a.length = 0 then b else a)
  else if 16 < (joinP kind a b).countP isOf ∨ 16 < (riseL (allL (joinP kind a b))).length then [] else joinP kind a b
def formP (L : List D) : Prop := ∀ d ∈ L, ∃ k n a b l, d = rPart k n a b l ∧ 0 ≤ a ∧ a ≤ 1000 ∧ 0 ≤ b ∧ b ≤ 1000
theorem countD_stepQ {p : D → Bool} {l : List D} {i : Nat} (hi : i < l.length) : ((l.take (i + 1)).countP p : Int) = ((l.take i).countP p : Int) + (if p (l.getD i .nil) = true then 1 else 0) := by
  rw [List.take_add_one, List.getElem?_eq_getElem hi, List.countP_append, List.getD_eq_getElem?_getD, List.getElem?_eq_getElem hi]
  simp only [Option.toList_some, List.countP_cons, List.countP_nil, Option.getD_some, Nat.zero_add]
  split <;> simp
theorem map_step {l : List D} {i : Nat} (f : D → D) (hi : i < l.length) : (l.take (i + 1)).map f = (l.take i).map f ++ [f (l.getD i .nil)] := by
  rw [List.take_add_one, List.getElem?_eq_getElem hi, List.map_append, List.getD_eq_getElem?_getD, List.getElem?_eq_getElem hi]
  rfl
def WR6two : Opts := mkWE 117 [] [] [] 152 [] [4, 5]
def icR6two : IC := (.seq (.seq (.ops [(.u (.bxf 4 (.strct [(.slice 79)]) none (.s 1))), (.u (.bxf 5 (.strct [(.slice 79)]) none (.s 2))), (.u (.alc 6 [.nils]))]) (.tr [0, 4, 5, 6])) (.seq (.seq (.seq (.ops [(.u (.fad 13 0 0 (.slice 79) 42 (.s 4))), (.u (.ld 14 (.slice 79) (.s 13))), (.u (.len 15 false (.s 14))), (.u (.cmp 16 .eql (.s 15) (.c (.int .i64 0)))), (.u (.mov 17 (.s 16))), (.g 17 false (some 18) (.fad 18 0 0 (.slice 79) 42 (.s 5))), (.g 17 false (some 19) (.ld 19 (.slice 79) (.s 18))), (.g 17 false (some 20) (.len 20 false (.s 19))), (.g 17 false (some 21) (.cmp 21 .eql (.s 20) (.c (.int .i64 0)))), (.u (.pck 22 (.s 17) (.c (.bool true)) (.s 21)))]) (.tr [22, 0, 4, 5, 6])) (.cond (.s 22) (.seq (.seq (.seq (.ops [(.u (.mov 23 (.s 0))), (.u (.cmp 24 .eql (.s 23) (.c (.int .i64 1))))]) (.tr [24, 5, 4, 6])) (.cond (.s 24) (.seq (.seq (.ops [(.u (.bld 25 [[.nils]] [])), (.u (.st (.strct [(.slice 79)]) (.s 6) (.s 25)))]) (.tr [6])) .ret) .skip)) (.seq (.seq (.seq (.ops [(.u (.fad 26 0 0 (.slice 79) 42 (.s 4))), (.u (.ld 27 (.slice 79) (.s 26))), (.u (.len 28 false (.s 27))), (.u (.cmp 29 .eql (.s 28) (.c (.int .i64 0))))]) (.tr [29, 5, 4, 6])) (.cond (.s 29) (.seq (.seq (.ops [(.u (.ld 30 (.strct [(.slice 79)]) (.s 5))), (.u (.st (.strct [(.slice 79)]) (.s 6) (.s 30)))]) (.tr [6])) .ret) .skip)) (.seq (.seq (.ops [(.u (.ld 31 (.strct [(.slice 79)]) (.s 4))), (.u (.st (.strct [(.slice 79)]) (.s 6) (.s 31)))]) (.tr [6])) .ret))) .skip)) (.seq (.seq (.rgn [] [(false, (.u (.fad 32 0 0 (.slice 79) 42 (.s 4)))), (false, (.u (.ld 33 (.slice 79) (.s 32)))), (false, (.u (.len 34 false (.s 33)))), (false, (.u (.fad 35 0 0 (.slice 79) 42 (.s 5)))), (false, (.u (.ld 36 (.slice 79) (.s 35)))), (false, (.u (.len 37 false (.s 36)))), (false, (.u (.bin 38 .add .i64 (.s 34) (.s 37)))), (false, (.u (.bin 39 .add .i64 (.s 38) (.c (.int .i64 1))))), (false, (.u (.fad 41 0 0 (.slice 79) 42 (.s 4)))), (true, (.u (.ld 42 (.slice 79) (.s 41)))), (false, (.u (.mk 40 79 (.strct [(.int .i64), (.int .i64), (.int .i64), (.int .i64), (.slice 3)]) 56 (.node [(.int 0), (.int 0), (.int 0), (.int 0), (.list [])]) (.c (.int .i64 0)) (.s 39)))), (false, (.u (.app 43 79 (.strct [(.int .i64), (.int .i64), (.int .i64), (.int .i64), (.slice 3)]) 56 (.s 40) (.s 42)))), (false, (.u (.mov 7 (.s 43))))]) (.tr [7, 0, 4, 5, 6])) (.seq (.seq (.seq (.ops [(.u (.mov 8 (.c (.int .i64 0))))]) (.tr [8, 7, 0, 4, 5, 6])) (.block 0 (.loop (.seq (.seq (.seq (.ops [(.u (.mov 44 (.s 8))), (.u (.fad 45 0 0 (.slice 79) 42 (.s 5))), (.u (.ld 46 (.slice 79) (.s 45))), (.u (.len 47 false (.s 46))), (.u (.cmp 48 .lss (.s 44) (.s 47)))]) (.tr [48, 8, 7, 0, 4, 5, 6])) (.cond (.s 48) .skip (.exit 0))) (.seq (.block 1 (.seq (.seq (.ops [(.u (.fad 51 0 0 (.slice 79) 42 (.s 5))), (.u (.ld 52 (.slice 79) (.s 51))), (.u (.mov 53 (.s 8))), (.u (.iad 54 79 (.strct [(.int .i64), (.int .i64), (.int .i64), (.int .i64), (.slice 3)]) (.s 52) (.s 53))), (.u (.ld 55 (.strct [(.int .i64), (.int .i64), (.int .i64), (.int .i64), (.slice 3)]) (.s 54))), (.u (.alc 9 [(.int .i64 0), (.int .i64 0), (.int .i64 0), (.int .i64 0), .nils])), (.u (.st (.strct [(.int .i64), (.int .i64), (.int .i64), (.int .i64), (.slice 3)]) (.s 9) (.s 55)))]) (.tr [7, 9, 8, 0, 4, 5, 6])) (.seq (.seq (.ops [(.u (.fad 56 2 2 (.int .i64) 79 (.s 9))), (.u (.ld 57 (.int .i64) (.s 56))), (.u (.fad 58 0 0 (.slice 79) 42 (.s 4))), (.u (.ld 59 (.slice 79) (.s 58))), (.u (.len 60 false (.s 59))), (.u (.bin 61 .add .i64 (.s 57) (.s 60))), (.u (.fad 62 2 2 (.int .i64) 79 (.s 9))), (.u (.st (.int .i64) (.s 62) (.s 61)))]) (.tr [7, 9, 8, 0, 4, 5, 6])) (.seq (.seq (.ops [(.u (.fad 63 3 3 (.int .i64) 79 (.s 9))), (.u (.ld 64 (.int .i64) (.s 63))), (.u (.fad 65 0 0 (.slice 79) 42 (.s 4))), (.u (.ld 66 (.slice 79) (.s 65))), (.u (.len 67 false (.s 66))), (.u (.bin 68 .add .i64 (.s 64) (.s 67))), (.u (.fad 69 3 3 (.int .i64) 79 (.s 9))), (.u (.st (.int .i64) (.s 69) (.s 68)))]) (.tr [7, 9, 8, 0, 4, 5, 6])) (.seq (.ops [(.u (.mov 70 (.s 7))), (.u (.ld 71 (.strct [(.int .i64), (.int .i64), (.int .i64), (.int .i64), (.slice 3)]) (.s 9))), (.u (.bsl 72 79 (.strct [(.int .i64), (.int .i64), (.int .i64), (.int .i64), (.slice 3)]) [(.s 71)])), (.u (.app 73 79 (.strct [(.int .i64), (.int .i64), (.int .i64), (.int .i64), (.slice 3)]) 56 (.s 70) (.s 72))), (.u (.mov 7 (.s 73)))]) (.tr [8, 7, 0, 4, 5, 6])))))) (.seq (.ops [(.u (.mov 49 (.s 8))), (.u (.bin 50 .add .i64 (.s 49) (.c (.int .i64 1)))), (.u (.mov 8 (.s 50)))]) (.tr [8, 7, 0, 4, 5, 6]))))))) (.seq (.seq (.ops [(.u (.mov 74 (.s 7))), (.u (.mov 75 (.s 0))), (.u (.fad 76 0 0 (.slice 79) 42 (.s 4))), (.u (.ld 77 (.slice 79) (.s 76))), (.u (.len 78 false (.s 77))), (.u (.bin 79 .sub .i64 (.s 78) (.c (.int .i64 1)))), (.u (.fad 80 0 0 (.slice 79) 42 (.s 4))), (.u (.ld 81 (.slice 79) (.s 80))), (.u (.len 82 false (.s 81))), (.u (.fad 83 0 0 (.slice 79) 42 (.s 5))), (.u (.ld 84 (.slice 79) (.s 83))), (.u (.len 85 false (.s 84))), (.u (.bin 86 .add .i64 (.s 82) (.s 85))), (.u (.bin 87 .sub .i64 (.s 86) (.c (.int .i64 1)))), (.u (.bld 88 [[(.int .i64 0)], [(.int .i64 0)], [(.int .i64 0)], [(.int .i64 0)], [.nils]] [(0, (.s 75)), (2, (.s 79)), (3, (.s 87))])), (.u (.bsl 89 79 (.strct [(.int .i64), (.int .i64), (.int .i64), (.int .i64), (.slice 3)]) [(.s 88)])), (.u (.app 90 79 (.strct [(.int .i64), (.int .i64), (.int .i64), (.int .i64), (.slice 3)]) 56 (.s 74) (.s 89))), (.u (.mov 7 (.s 90)))]) (.tr [7, 6])) (.seq (.seq (.ops [(.u (.mov 91 (.s 7))), (.u (.bld 92 [[.nils]] [(0, (.s 91))])), (.u (.alc 10 [.nils])), (.u (.st (.strct [(.slice 79)]) (.s 10) (.s 92)))]) (.tr [7, 10, 6])) (.seq (.seq (.ops [(.u (.mov 11 (.c (.int .i64 0))))]) (.tr [7, 11, 10, 6])) (.seq (.seq (.seq (.ops [(.u (.mov 12 (.c (.int .i64 0))))]) (.tr [7, 12, 11, 10, 6])) (.block 2 (.loop (.seq (.seq (.seq (.ops [(.u (.mov 93 (.s 12))), (.u (.mov 94 (.s 7))), (.u (.len 95 false (.s 94))), (.u (.cmp 96 .lss (.s 93) (.s 95)))]) (.tr [96, 12, 7, 11, 10, 6])) (.cond (.s 96) .skip (.exit 2))) (.seq (.block 3 (.seq (.seq (.ops [(.u (.mov 99 (.s 7))), (.u (.mov 100 (.s 12))), (.u (.iad 101 79 (.strct [(.int .i64), (.int .i64), (.int .i64), (.int .i64), (.slice 3)]) (.s 99) (.s 100))), (.u (.fad 102 0 0 (.int .i64) 79 (.s 101))), (.u (.ld 103 (.int .i64) (.s 102))), (.u (.cmp 104 .eql (.s 103) (.c (.int .i64 0))))]) (.tr [104, 12, 7, 11, 10, 6])) (.cond (.s 104) (.seq (.ops [(.u (.mov 105 (.s 11))), (.u (.bin 106 .add .i64 (.s 105) (.c (.int .i64 1)))), (.u (.mov 11 (.s 106)))]) (.tr [12, 7, 11, 10, 6])) .skip))) (.seq (.ops [(.u (.mov 97 (.s 12))), (.u (.bin 98 .add .i64 (.s 97) (.c (.int .i64 1)))), (.u (.mov 12 (.s 98)))]) (.tr [7, 12, 11, 10, 6]))))))) (.seq (.seq (.seq (.ops [(.u (.mov 107 (.s 11))), (.u (.cmp 108 .gtr (.s 107) (.c (.int .i64 16)))), (.u (.mov 109 (.s 108))), (.g 109 false (some 110) (.ld 110 (.strct [(.slice 79)]) (.s 10))), (.g 109 false (some 111) (.call 111 (.c (.clo 19 [])) [(.s 110)] [none] true)), (.g 109 false (some 112) (.len 112 false (.s 111))), (.g 109 false (some 113) (.cmp 113 .gtr (.s 112) (.c (.int .i64 16)))), (.u (.pck 114 (.s 109) (.c (.bool true)) (.s 113)))]) (.tr [114, 10, 6])) (.cond (.s 114) (.seq (.seq (.ops [(.u (.bld 115 [[.nils]] [])), (.u (.st (.strct [(.slice 79)]) (.s 6) (.s 115)))]) (.tr [6])) .ret) .skip)) (.seq (.seq (.ops [(.u (.ld 116 (.strct [(.slice 79)]) (.s 10))), (.u (.st (.strct [(.slice 79)]) (.s 6) (.s 116)))]) (.tr [6])) .ret))))))))))
def rsR6two : List RV := [(.c 6 (.strct [(.slice 79)]))]
theorem irR6two : fnIR Tryd.prog WR6two 54 = some (icR6two, rsR6two) := by kernel_rfl
def spR6two : FSpec := fun args h nx K => match args with
  | [.int .i64 kind, .agg [.dat (.slice t) a], .agg [.dat (.slice t') b]] => t = 79 ∧ t' = 79 ∧ (kind = 1 ∨ kind = 2) ∧ a.l.length ≤ 1000 ∧ b.l.length ≤ 1000 ∧ formP b.l ∧ (allL (joinP kind a.l b.l)).length ≤ 100000 ∧ K (refV (twoL kind a.l b.l)) h
  | _ => False
set_option maxHeartbeats 4000000 in
set_option maxRecDepth 8000 in
theorem vR6two {E : Nat → Value} (hE : Errs2 Tryd.prog (some 152) E) : Valid Tryd.prog E (gs []) 54 spR6two := by
  refine valid_go (W := WR6two) hE (allValid_bot.add (up (vR6Nodes hE))) irR6two (by decide) (fun args h nx K hsp hok hnm => ?_)
  unfold spR6two at hsp
  split at hsp
  · rename_i kind t a t' b
    obtain ⟨rfl, rfl, hkind, ha9, hb9, hform, hall, hK⟩ := hsp
    refine ⟨by simp [WR6two, mkW, mkWE, mkWF], fun Q hQ => ?_⟩
    obtain ⟨_, ⟨ha, _⟩, ⟨hb, _⟩, _⟩ := hok
    simp only [SV.ok] at ha hb
    obtain ⟨ha1, ha2, ha3⟩ := Wt.slice ha; generalize a.l = xs at *; subst ha1
    obtain ⟨hb1, hb2, hb3⟩ := Wt.slice hb; generalize b.l = ys at *; subst hb1
    have ha9 : xs.length ≤ 1000 := ha9
    have hb9 : ys.length ≤ 1000 := hb9
    have hform : formP ys := hform
    have hall : (allL (joinP kind xs ys)).length ≤ 100000 := hall
    have hK : K (refV (twoL kind xs ys)) h := hK
    have retN : ∀ h' nx' n, twoL kind xs ys = [] → HLe h h' → hget h' n = some (.cells [.nils]) → Q Ex.ret ⟨[(6, .ptr n 0)], h', nx'⟩ := fun h' nx' n he hh hg => by
      rw [he] at hK
      refine (hQ _ ?_).1
      refine fin_new (p := True) (xs := [.agg [.nils]]) ?_ trivial (.dagg 0 0 79 rfl rfl rfl (.refl _)) [] (refV []) [] (by simp) (by simp) (by simp) ?_ ?_ rfl (by simp) (by simp) hnm hh hK
      · simp only [rsR6two, evRs, evR, go_sem, goD_calls, eq_self, implies_true, Int.reduceEq, Int.reduceBEq, Int.reduceBNe, Int.reduceLE, Int.reduceLT, Int.reduceAdd, Int.reduceSub, Int.reduceMul, Int.reduceNeg, Nat.reduceMul, Nat.reduceSub, Nat.reduceLeDiff, Nat.reduceLT, Nat.reduceEqDiff, Nat.reduceAdd, reduceCtorEq, ↓reduceIte, reduceIte, hg]
      · rfl
      · exact ⟨trivial, trivial⟩
    have retL : ∀ L h' nx' n, twoL kind xs ys = L → HLe h h' → hget h' n = some (.cells [.dat (.slice 79) (.list L)]) → Q Ex.ret ⟨[(6, .ptr n 0)], h', nx'⟩ := fun L h' nx' n he hh hg => by
      rw [he] at hK
      refine (hQ _ ?_).1
      refine fin_same (p := True) (xs := [refV L]) ?_ trivial (fun π => rfl) ?_ hnm hh hK
      · simp only [rsR6two, evRs, evR, go_sem, goD_calls, eq_self, implies_true, Int.reduceEq, Int.reduceBEq, Int.reduceBNe, Int.reduceLE, Int.reduceLT, Int.reduceAdd, Int.reduceSub, Int.reduceMul, Int.reduceNeg, Nat.reduceMul, Nat.reduceSub, Nat.reduceLeDiff, Nat.reduceLT, Nat.reduceEqDiff, Nat.reduceAdd, reduceCtorEq, ↓reduceIte, reduceIte, hg, refV]
      · exact ⟨trivial, trivial⟩
    by_cases h0 : xs.length = 0 ∨ ys.length = 0
    · have hT : twoL kind xs ys = if kind = 1 then [] else if xs.length = 0 then ys else xs := by unfold twoL; rw [if_pos h0]
      by_cases hx : xs.length = 0
      · have c1 : ((xs.length : Int) == 0) = true := by rw [hx]; rfl
        rcases hkind with rfl | rfl
        · have k1 : ((1 : Int) == 1) = true := rfl
          simp only [icR6two, go_sem, goD_calls, eq_self, implies_true, Int.reduceEq, Int.reduceBEq, Int.reduceBNe, Int.reduceLE, Int.reduceLT, Int.reduceAdd, Int.reduceSub, Int.reduceMul, Int.reduceNeg, Nat.reduceMul, Nat.reduceSub, Nat.reduceLeDiff, Nat.reduceLT, Nat.reduceEqDiff, Nat.reduceAdd, reduceCtorEq, ↓reduceIte, reduceIte, c1, k1]
          exact ⟨rfl, retN _ _ nx (by rw [hT, if_pos rfl]) (by ((try simp only []); repeat first | exact HLe.refl _ | refine HLe.cons (by simp only [hget, Nat.reduceEqDiff, Nat.left_eq_add, Nat.add_eq_left, nm_ne2, nm_en2, nm_ne3, nm_en3, nm_ne4, nm_en4, nm_ne5, nm_en5, reduceIte, ↓reduceIte] <;> first | rfl | ((repeat rw [if_neg (by omega)]) <;> rfl)) ?_ | refine HLe.skip hnm (by omega) ?_ | refine HLe.frz hnm (by omega) ?_ | refine HLe.del hnm (by omega) ?_)) (by simp only [hget, ↓reduceIte])⟩
        · have k1 : ((2 : Int) == 1) = false := rfl
          simp only [icR6two, go_sem, goD_calls, eq_self, implies_true, Int.reduceEq, Int.reduceBEq, Int.reduceBNe, Int.reduceLE, Int.reduceLT, Int.reduceAdd, Int.reduceSub, Int.reduceMul, Int.reduceNeg, Nat.reduceMul, Nat.reduceSub, Nat.reduceLeDiff, Nat.reduceLT, Nat.reduceEqDiff, Nat.reduceAdd, reduceCtorEq, ↓reduceIte, reduceIte, c1, k1]
          exact ⟨rfl, rfl, retL ys _ _ nx (by rw [hT, if_neg (by decide), if_pos hx]) (by ((try simp only []); repeat first | exact HLe.refl _ | refine HLe.cons (by simp only [hget, Nat.reduceEqDiff, Nat.left_eq_add, Nat.add_eq_left, nm_ne2, nm_en2, nm_ne3, nm_en3, nm_ne4, nm_en4, nm_ne5, nm_en5, reduceIte, ↓reduceIte] <;> first | rfl | ((repeat rw [if_neg (by omega)]) <;> rfl)) ?_ | refine HLe.skip hnm (by omega) ?_ | refine HLe.frz hnm (by omega) ?_ | refine HLe.del hnm (by omega) ?_)) (by simp only [hget, ↓reduceIte])⟩
      · have c1 : ((xs.length : Int) == 0) = false := by rw [beq_eq_false_iff_ne]; omega
        have hy : ys.length = 0 := h0.resolve_left hx
        have c2 : ((ys.length : Int) == 0) = true := by rw [hy]; rfl
        rcases hkind with rfl | rfl
        · have k1 : ((1 : Int) == 1) = true := rfl
          simp only [icR6two, go_sem, goD_calls, eq_self, implies_true, Int.reduceEq, Int.reduceBEq, Int.reduceBNe, Int.reduceLE, Int.reduceLT, Int.reduceAdd, Int.reduceSub, Int.reduceMul, Int.reduceNeg, Nat.reduceMul, Nat.reduceSub, Nat.reduceLeDiff, Nat.reduceLT, Nat.reduceEqDiff, Nat.reduceAdd, reduceCtorEq, ↓reduceIte, reduceIte, c1, c2, k1]
          exact ⟨rfl, rfl, retN _ _ nx (by rw [hT, if_pos rfl]) (by ((try simp only []); repeat first | exact HLe.refl _ | refine HLe.cons (by simp only [hget, Nat.reduceEqDiff, Nat.left_eq_add, Nat.add_eq_left, nm_ne2, nm_en2, nm_ne3, nm_en3, nm_ne4, nm_en4, nm_ne5, nm_en5, reduceIte, ↓reduceIte] <;> first | rfl | ((repeat rw [if_neg (by omega)]) <;> rfl)) ?_ | refine HLe.skip hnm (by omega) ?_ | refine HLe.frz hnm (by omega) ?_ | refine HLe.del hnm (by omega) ?_)) (by simp only [hget, ↓reduceIte])⟩
        · have k1 : ((2 : Int) == 1) = false := rfl
          simp only [icR6two, go_sem, goD_calls, eq_self, implies_true, Int.reduceEq, Int.reduceBEq, Int.reduceBNe, Int.reduceLE, Int.reduceLT, Int.reduceAdd, Int.reduceSub, Int.reduceMul, Int.reduceNeg, Nat.reduceMul, Nat.reduceSub, Nat.reduceLeDiff, Nat.reduceLT, Nat.reduceEqDiff, Nat.reduceAdd, reduceCtorEq, ↓reduceIte, reduceIte, c1, c2, k1]
          exact ⟨rfl, rfl, rfl, retL xs _ _ nx (by rw [hT, if_neg (by decide), if_neg hx]) (by ((try simp only []); repeat first | exact HLe.refl _ | refine HLe.cons (by simp only [hget, Nat.reduceEqDiff, Nat.left_eq_add, Nat.add_eq_left, nm_ne2, nm_en2, nm_ne3, nm_en3, nm_ne4, nm_en4, nm_ne5, nm_en5, reduceIte, ↓reduceIte] <;> first | rfl | ((repeat rw [if_neg (by omega)]) <;> rfl)) ?_ | refine HLe.skip hnm (by omega) ?_ | refine HLe.frz hnm (by omega) ?_ | refine HLe.del hnm (by omega) ?_)) (by simp only [hget, ↓reduceIte])⟩
    · have c1 : ((xs.length : Int) == 0) = false := by rw [beq_eq_false_iff_ne]; omega
      have c2 : ((ys.length : Int) == 0) = false := by rw [beq_eq_false_iff_ne]; omega
      have hT : twoL kind xs ys = if 16 < (joinP kind xs ys).countP isOf ∨ 16 < (riseL (allL (joinP kind xs ys))).length then [] else joinP kind xs ys := by unfold twoL; rw [if_neg h0]
      have z0 : List.replicate (Int.toNat 0) (D.node [D.int 0, D.int 0, D.int 0, D.int 0, D.list []]) = [] := rfl
      simp only [icR6two, go_sem, goD_calls, eq_self, implies_true, Int.reduceEq, Int.reduceBEq, Int.reduceBNe, Int.reduceLE, Int.reduceLT, Int.reduceAdd, Int.reduceSub, Int.reduceMul, Int.reduceNeg, Nat.reduceMul, Nat.reduceSub, Nat.reduceLeDiff, Nat.reduceLT, Nat.reduceEqDiff, Nat.reduceAdd, reduceCtorEq, ↓reduceIte, reduceIte, c1, c2, z0, List.nil_append]
      refine ⟨rfl, rfl, rfl, rfl, ⟨by rw [min_i64]; omega, by rw [max_i64]; omega⟩, ⟨by rw [min_i64]; omega, by rw [max_i64]; omega⟩, rfl, by omega, by omega, ?_⟩
      refine go_loop (α := { i : Nat // i ≤ ys.length }) (I := fun i => { f := [(8, .int .i64 i.1), (7, .vec (nx + 1)), (0, .int .i64 kind), (4, .elt (.strct [.slice 79]) (.node [.list xs])), (5, .elt (.strct [.slice 79]) (.node [.list ys])), (6, .ptr nx 0)], h := [(nx, .cells [.nils]), (nx + 1, .arr 79 partT (xs ++ (ys.take i.1).map (shP xs.length)))] ++ h, nx := nx + 2 }) (μ := fun i => ys.length - i.1) _ _ _ ⟨0, by omega⟩ ?_ (fun i B hB => ?_)
      · have e0 : xs ++ (ys.take 0).map (shP xs.length) = xs := by simp
        simp only [e0]
        refine leq_news [(nx, nx), (nx + 1, nx + 1 + 1)] [(nx, .cells [.nils]), (nx + 1, .arr 79 partT xs)] (.refl _) (by simp) (by simp <;> omega) (by simp <;> omega) rfl ?_ ?_ ?_ ?_ hnm ?_ (Nat.le_add_right _ _)
        · simp [frIn_cons, frIn_nil, fget_cons, fget_nil, SV.ren, SV.renL, rens]
        · (simp only [frLt_cons, frLt_nil, and_true, SV.lt, SV.ltL, true_and] <;> omega)
        · (simp only [List.mem_cons, List.not_mem_nil, or_false, forall_eq_or_imp, forall_eq]; simp [hget, rens, Tok.ren, SV.ren, SV.renL])
          all_goals try (rw [if_neg (by omega), if_neg (by omega)])
          all_goals try omega
        · (simp only [List.mem_cons, List.not_mem_nil, or_false, forall_eq_or_imp, forall_eq, Tok.lt, SV.lt, SV.ltL, and_true, true_and] <;> omega)
        · ((try simp only []); repeat first | exact HLe.refl _ | refine HLe.cons (by simp only [hget, Nat.reduceEqDiff, Nat.left_eq_add, Nat.add_eq_left, nm_ne2, nm_en2, nm_ne3, nm_en3, nm_ne4, nm_en4, nm_ne5, nm_en5, reduceIte, ↓reduceIte] <;> first | rfl | ((repeat rw [if_neg (by omega)]) <;> rfl)) ?_ | refine HLe.skip hnm (by omega) ?_ | refine HLe.frz hnm (by omega) ?_ | refine HLe.del hnm (by omega) ?_)
      · obtain ⟨i, hi⟩ := i
        simp only at hB
        by_cases hil : i < ys.length
        · have c3 : decide ((i : Int) < (ys.length : Int)) = true := decide_eq_true (by omega)
          obtain ⟨k', n', a', b', l', hx, x0, x1, x2, x3⟩ := hform _ (show ys.getD i .nil ∈ ys by rw [List.getD_eq_getElem?_getD, List.getElem?_eq_getElem hil]; exact List.getElem_mem hil)
          have hsx : shP xs.length (ys.getD i .nil) = .node [.int k', .int n', .int (a' + xs.length), .int (b' + xs.length), .list l'] := by rw [hx]; rfl
          have hxe : ys.getD i .nil = .node [.int k', .int n', .int a', .int b', .list l'] := hx
          have hrl : (xs ++ (ys.take i).map (shP xs.length)).length = xs.length + i := by rw [List.length_append, List.length_map, List.length_take]; omega
          have hst2 : xs ++ (ys.take (i + 1)).map (shP xs.length) = (xs ++ (ys.take i).map (shP xs.length)) ++ [.node [.int k', .int n', .int (a' + xs.length), .int (b' + xs.length), .list l']] := by
            have := map_step (shP xs.length) hil
            rw [this, hsx, List.append_assoc]
          have next : ∀ S', Leq nx S' { f := [(8, .int .i64 ((i + 1 : Nat) : Int)), (7, .vec (nx + 1)), (0, .int .i64 kind), (4, .elt (.strct [.slice 79]) (.node [.list xs])), (5, .elt (.strct [.slice 79]) (.node [.list ys])), (6, .ptr nx 0)], h := [(nx, .cells [.nils]), (nx + 1, .arr 79 partT ((xs ++ (ys.take i).map (shP xs.length)) ++ [.node [.int k', .int n', .int (a' + xs.length), .int (b' + xs.length), .list l']]))] ++ h, nx := nx + 2 } → B S' := fun S' hl => by
            refine hB _ ⟨i + 1, by omega⟩ (by simp only []; omega) ?_
            simp only [hst2]
            exact hl
          generalize xs ++ (ys.take i).map (shP xs.length) = row at hrl next ⊢
          simp only [go_sem, goD_calls, eq_self, implies_true, Int.reduceEq, Int.reduceBEq, Int.reduceBNe, Int.reduceLE, Int.reduceLT, Int.reduceAdd, Int.reduceSub, Int.reduceMul, Int.reduceNeg, Nat.reduceMul, Nat.reduceSub, Nat.reduceLeDiff, Nat.reduceLT, Nat.reduceEqDiff, Nat.reduceAdd, reduceCtorEq, ↓reduceIte, reduceIte, c3, hxe, Int.toNat_natCast, min_i64, max_i64]
          repeat (first | refine ⟨rfl, ?_⟩ | refine ⟨by omega, ?_⟩)
          refine next _ ?_
          refine leq_news [(nx, nx), (nx + 1, nx + 2 + 1 + 1)] [(nx, .cells [.nils]), (nx + 1, .arr 79 partT (row ++ [.node [.int k', .int n', .int (a' + xs.length), .int (b' + xs.length), .list l']]))] (.refl _) (by simp) (by simp <;> omega) (by simp <;> omega) rfl ?_ ?_ ?_ ?_ hnm ?_ (Nat.le_add_right _ _)
          · simp [frIn_cons, frIn_nil, fget_cons, fget_nil, SV.ren, SV.renL, rens]
          · (simp only [frLt_cons, frLt_nil, and_true, SV.lt, SV.ltL, true_and] <;> omega)
          · (simp only [List.mem_cons, List.not_mem_nil, or_false, forall_eq_or_imp, forall_eq]; simp [hget, rens, Tok.ren, SV.ren, SV.renL])
            all_goals try (rw [if_neg (by omega), if_neg (by omega)])
            all_goals try omega
          · (simp only [List.mem_cons, List.not_mem_nil, or_false, forall_eq_or_imp, forall_eq, Tok.lt, SV.lt, SV.ltL, and_true, true_and] <;> omega)
          · ((try simp only []); repeat first | exact HLe.refl _ | refine HLe.cons (by simp only [hget, Nat.reduceEqDiff, Nat.left_eq_add, Nat.add_eq_left, nm_ne2, nm_en2, nm_ne3, nm_en3, nm_ne4, nm_en4, nm_ne5, nm_en5, reduceIte, ↓reduceIte] <;> first | rfl | ((repeat rw [if_neg (by omega)]) <;> rfl)) ?_ | refine HLe.skip hnm (by omega) ?_ | refine HLe.frz hnm (by omega) ?_ | refine HLe.del hnm (by omega) ?_)
        · obtain rfl : i = ys.length := by omega
          have c3 : decide ((ys.length : Int) < (ys.length : Int)) = false := decide_eq_false (by omega)
          rw [List.take_of_length_le (Nat.le_refl _)]
          obtain ⟨M, hM⟩ : ∃ M, joinP kind xs ys = M := ⟨_, rfl⟩
          have hM2 : xs ++ ys.map (shP xs.length) ++ [.node [.int kind, .int 0, .int ((xs.length : Int) - 1), .int ((xs.length : Int) + (ys.length : Int) - 1), .list []]] = M := hM
          have hMl : M.length = xs.length + ys.length + 1 := by rw [← hM]; unfold joinP; simp; omega
          have hrl : (xs ++ ys.map (shP xs.length)).length = xs.length + ys.length := by simp
          rw [hM] at hall hT
          simp only [go_sem, goD_calls, eq_self, implies_true, Int.reduceEq, Int.reduceBEq, Int.reduceBNe, Int.reduceLE, Int.reduceLT, Int.reduceAdd, Int.reduceSub, Int.reduceMul, Int.reduceNeg, Nat.reduceMul, Nat.reduceSub, Nat.reduceLeDiff, Nat.reduceLT, Nat.reduceEqDiff, Nat.reduceAdd, reduceCtorEq, ↓reduceIte, reduceIte, c3, hM2, hrl, min_i64, max_i64]
          refine ⟨rfl, rfl, by omega, rfl, rfl, by omega, by omega, by omega, ?_⟩
          refine go_loop (α := { i : Nat // i ≤ M.length }) (I := fun i => { f := [(7, .dat (.slice 79) (.list M)), (12, .int .i64 i.1), (11, .int .i64 ((M.take i.1).countP isOf)), (10, .ptr (nx + 1) 0), (6, .ptr nx 0)], h := [(nx, .cells [.nils]), (nx + 1, .cells [.dat (.slice 79) (.list M)])] ++ h, nx := nx + 2 }) (μ := fun i => M.length - i.1) _ _ _ ⟨0, by omega⟩ ?_ (fun i B2 hB2 => ?_)
          · refine leq_nil (.frz (nx + 2 + 1) (.refl _)) ?_
            simp only [go_sem, goD_calls, eq_self, implies_true, Int.reduceEq, Int.reduceBEq, Int.reduceBNe, Int.reduceLE, Int.reduceLT, Int.reduceAdd, Int.reduceSub, Int.reduceMul, Int.reduceNeg, Nat.reduceMul, Nat.reduceSub, Nat.reduceLeDiff, Nat.reduceLT, Nat.reduceEqDiff, Nat.reduceAdd, reduceCtorEq, ↓reduceIte, reduceIte]
            refine leq_news [(nx, nx), (nx + 1, nx + 2 + 1 + 1)] [(nx, .cells [.nils]), (nx + 1, .cells [.dat (.slice 79) (.list M)])] (.refl _) (by simp) (by simp <;> omega) (by simp <;> omega) rfl ?_ ?_ ?_ ?_ hnm ?_ (Nat.le_add_right _ _)
            · simp [frIn_cons, frIn_nil, fget_cons, fget_nil, SV.ren, SV.renL, rens]
            · (simp only [frLt_cons, frLt_nil, and_true, SV.lt, SV.ltL, true_and] <;> omega)
            · (simp only [List.mem_cons, List.not_mem_nil, or_false, forall_eq_or_imp, forall_eq]; simp [hget, rens, Tok.ren, SV.ren, SV.renL])
              all_goals try (rw [if_neg (by omega), if_neg (by omega)])
              all_goals try omega
            · (simp only [List.mem_cons, List.not_mem_nil, or_false, forall_eq_or_imp, forall_eq, Tok.lt, SV.lt, SV.ltL, and_true, true_and] <;> omega)
            · ((try simp only []); repeat first | exact HLe.refl _ | refine HLe.cons (by simp only [hget, Nat.reduceEqDiff, Nat.left_eq_add, Nat.add_eq_left, nm_ne2, nm_en2, nm_ne3, nm_en3, nm_ne4, nm_en4, nm_ne5, nm_en5, reduceIte, ↓reduceIte] <;> first | rfl | ((repeat rw [if_neg (by omega)]) <;> rfl)) ?_ | refine HLe.skip hnm (by omega) ?_ | refine HLe.frz hnm (by omega) ?_ | refine HLe.del hnm (by omega) ?_)
          · obtain ⟨i, hi⟩ := i
            simp only at hB2
            have hcl : (M.take i).countP isOf ≤ i := Nat.le_trans List.countP_le_length (by rw [List.length_take]; omega)
            by_cases hil : i < M.length
            · have c4 : decide ((i : Int) < (M.length : Int)) = true := decide_eq_true (by omega)
              have hcs := countD_stepQ (p := isOf) hil
              have next : ∀ c S', c = ((M.take (i + 1)).countP isOf : Int) → Leq nx S' { f := [(7, .dat (.slice 79) (.list M)), (12, .int .i64 ((i + 1 : Nat) : Int)), (11, .int .i64 c), (10, .ptr (nx + 1) 0), (6, .ptr nx 0)], h := [(nx, .cells [.nils]), (nx + 1, .cells [.dat (.slice 79) (.list M)])] ++ h, nx := nx + 2 } → B2 S' := fun c S' e hl => by
                subst e
                exact hB2 _ ⟨i + 1, by omega⟩ (by simp only []; omega) hl
              obtain ⟨v, hv⟩ : ∃ v, (((M.getD i .nil).fld 0).i == 0) = v := ⟨_, rfl⟩
              have hv' : isOf (M.getD i .nil) = v := hv
              rw [hv'] at hcs
              rcases bool_ftS v with rfl | rfl
              · rw [if_neg (by decide), Int.add_zero] at hcs
                simp only [go_sem, goD_calls, eq_self, implies_true, Int.reduceEq, Int.reduceBEq, Int.reduceBNe, Int.reduceLE, Int.reduceLT, Int.reduceAdd, Int.reduceSub, Int.reduceMul, Int.reduceNeg, Nat.reduceMul, Nat.reduceSub, Nat.reduceLeDiff, Nat.reduceLT, Nat.reduceEqDiff, Nat.reduceAdd, reduceCtorEq, ↓reduceIte, reduceIte, c4, hv, Int.toNat_natCast, min_i64, max_i64]
                repeat (first | refine ⟨rfl, ?_⟩ | refine ⟨by omega, ?_⟩)
                refine next _ _ hcs.symm ?_
                refine leq_id ?_ (by (simp only [frLt_cons, frLt_nil, and_true, SV.lt, SV.ltL, true_and] <;> omega)) (by ((try simp only []); repeat first | exact HLe.refl _ | refine HLe.cons (by simp only [hget, Nat.reduceEqDiff, Nat.left_eq_add, Nat.add_eq_left, nm_ne2, nm_en2, nm_ne3, nm_en3, nm_ne4, nm_en4, nm_ne5, nm_en5, reduceIte, ↓reduceIte] <;> first | rfl | ((repeat rw [if_neg (by omega)]) <;> rfl)) ?_ | refine HLe.skip hnm (by omega) ?_ | refine HLe.frz hnm (by omega) ?_ | refine HLe.del hnm (by omega) ?_)) (by (repeat first | exact HLt.mono hnm (by simp only [] <;> omega) | refine HLt.cons (by simp only [] <;> omega) (by simp only [Tok.lt, SV.ltL, SV.lt, and_true, true_and] <;> omega) ?_)) (by simp only [] <;> omega)
                simp only [frEq_cons, frEq_nil, frIn_cons, frIn_nil, and_true, fget_cons, Nat.reduceEqDiff, reduceIte, ↓reduceIte, true_and, SV.ren, SV.renL, ren1]
                simp
              · rw [if_pos rfl] at hcs
                simp only [go_sem, goD_calls, eq_self, implies_true, Int.reduceEq, Int.reduceBEq, Int.reduceBNe, Int.reduceLE, Int.reduceLT, Int.reduceAdd, Int.reduceSub, Int.reduceMul, Int.reduceNeg, Nat.reduceMul, Nat.reduceSub, Nat.reduceLeDiff, Nat.reduceLT, Nat.reduceEqDiff, Nat.reduceAdd, reduceCtorEq, ↓reduceIte, reduceIte, c4, hv, Int.toNat_natCast, min_i64, max_i64]
                repeat (first | refine ⟨rfl, ?_⟩ | refine ⟨by omega, ?_⟩)
                refine next _ _ hcs.symm ?_
                refine leq_id ?_ (by (simp only [frLt_cons, frLt_nil, and_true, SV.lt, SV.ltL, true_and] <;> omega)) (by ((try simp only []); repeat first | exact HLe.refl _ | refine HLe.cons (by simp only [hget, Nat.reduceEqDiff, Nat.left_eq_add, Nat.add_eq_left, nm_ne2, nm_en2, nm_ne3, nm_en3, nm_ne4, nm_en4, nm_ne5, nm_en5, reduceIte, ↓reduceIte] <;> first | rfl | ((repeat rw [if_neg (by omega)]) <;> rfl)) ?_ | refine HLe.skip hnm (by omega) ?_ | refine HLe.frz hnm (by omega) ?_ | refine HLe.del hnm (by omega) ?_)) (by (repeat first | exact HLt.mono hnm (by simp only [] <;> omega) | refine HLt.cons (by simp only [] <;> omega) (by simp only [Tok.lt, SV.ltL, SV.lt, and_true, true_and] <;> omega) ?_)) (by simp only [] <;> omega)
                simp only [frEq_cons, frEq_nil, frIn_cons, frIn_nil, and_true, fget_cons, Nat.reduceEqDiff, reduceIte, ↓reduceIte, true_and, SV.ren, SV.renL, ren1]
                simp
            · obtain rfl : i = M.length := by omega
              have c4 : decide ((M.length : Int) < (M.length : Int)) = false := decide_eq_false (by omega)
              rw [List.take_of_length_le (Nat.le_refl _)]
              by_cases h16 : 16 < M.countP isOf
              · have c5 : decide (16 < (M.countP isOf : Int)) = true := decide_eq_true (by omega)
                rw [if_pos (.inl h16)] at hT
                simp only [go_sem, goD_calls, eq_self, implies_true, Int.reduceEq, Int.reduceBEq, Int.reduceBNe, Int.reduceLE, Int.reduceLT, Int.reduceAdd, Int.reduceSub, Int.reduceMul, Int.reduceNeg, Nat.reduceMul, Nat.reduceSub, Nat.reduceLeDiff, Nat.reduceLT, Nat.reduceEqDiff, Nat.reduceAdd, reduceCtorEq, ↓reduceIte, reduceIte, c4, c5]
                exact retN _ _ nx hT (by ((try simp only []); repeat first | exact HLe.refl _ | refine HLe.cons (by simp only [hget, Nat.reduceEqDiff, Nat.left_eq_add, Nat.add_eq_left, nm_ne2, nm_en2, nm_ne3, nm_en3, nm_ne4, nm_en4, nm_ne5, nm_en5, reduceIte, ↓reduceIte] <;> first | rfl | ((repeat rw [if_neg (by omega)]) <;> rfl)) ?_ | refine HLe.skip hnm (by omega) ?_ | refine HLe.frz hnm (by omega) ?_ | refine HLe.del hnm (by omega) ?_)) (by simp only [hget, ↓reduceIte, Nat.add_eq_left, Nat.reduceEqDiff])
              · have c5 : decide (16 < (M.countP isOf : Int)) = false := decide_eq_false (by omega)
                by_cases hn : 16 < (riseL (allL M)).length
                · have c6 : decide (16 < ((riseL (allL M)).length : Int)) = true := decide_eq_true (by omega)
                  rw [if_pos (.inr hn)] at hT
                  simp only [go_sem, goD_calls, eq_self, implies_true, Int.reduceEq, Int.reduceBEq, Int.reduceBNe, Int.reduceLE, Int.reduceLT, Int.reduceAdd, Int.reduceSub, Int.reduceMul, Int.reduceNeg, Nat.reduceMul, Nat.reduceSub, Nat.reduceLeDiff, Nat.reduceLT, Nat.reduceEqDiff, Nat.reduceAdd, reduceCtorEq, ↓reduceIte, reduceIte, c4, c5, c6, spR6Nodes, hall]
                  exact retN _ _ nx hT (by ((try simp only []); repeat first | exact HLe.refl _ | refine HLe.cons (by simp only [hget, Nat.reduceEqDiff, Nat.left_eq_add, Nat.add_eq_left, nm_ne2, nm_en2, nm_ne3, nm_en3, nm_ne4, nm_en4, nm_ne5, nm_en5, reduceIte, ↓reduceIte] <;> first | rfl | ((repeat rw [if_neg (by omega)]) <;> rfl)) ?_ | refine HLe.skip hnm (by omega) ?_ | refine HLe.frz hnm (by omega) ?_ | refine HLe.del hnm (by omega) ?_)) (by simp only [hget, ↓reduceIte, Nat.add_eq_left, Nat.reduceEqDiff])
                · have c6 : decide (16 < ((riseL (allL M)).length : Int)) = false := decide_eq_false (by omega)
                  rw [if_neg (by omega)] at hT
                  simp only [go_sem, goD_calls, eq_self, implies_true, Int.reduceEq, Int.reduceBEq, Int.reduceBNe, Int.reduceLE, Int.reduceLT, Int.reduceAdd, Int.reduceSub, Int.reduceMul, Int.reduceNeg, Nat.reduceMul, Nat.reduceSub, Nat.reduceLeDiff, Nat.reduceLT, Nat.reduceEqDiff, Nat.reduceAdd, reduceCtorEq, ↓reduceIte, reduceIte, c4, c5, c6, spR6Nodes, hall]
                  exact retL M _ _ nx hT (by ((try simp only []); repeat first | exact HLe.refl _ | refine HLe.cons (by simp only [hget, Nat.reduceEqDiff, Nat.left_eq_add, Nat.add_eq_left, nm_ne2, nm_en2, nm_ne3, nm_en3, nm_ne4, nm_en4, nm_ne5, nm_en5, reduceIte, ↓reduceIte] <;> first | rfl | ((repeat rw [if_neg (by omega)]) <;> rfl)) ?_ | refine HLe.skip hnm (by omega) ?_ | refine HLe.frz hnm (by omega) ?_ | refine HLe.del hnm (by omega) ?_)) (by simp only [hget, ↓reduceIte, Nat.add_eq_left, Nat.reduceEqDiff])
  · exact hsp.elim
end Go.Proofs.YtkmilijehekdoaaDoor
