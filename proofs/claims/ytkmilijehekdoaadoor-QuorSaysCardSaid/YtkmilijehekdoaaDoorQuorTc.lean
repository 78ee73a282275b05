/- Chapter 6: the document's text. -/
import Derived.Test.YtkmilijehekdoaaDoorQuorTa
namespace Go.Proofs.YtkmilijehekdoaaDoor
set_option linter.unusedVariables false
set_option linter.unusedSimpArgs false
open Go Go.Fw
attribute [local go_sem] walkSet evMdl evMupD evMup evLkp frpL eltP eltV eltK preF preP prePt prePd frzP evNlq ev frOf oget ogets argSs argS evCat evMm frzL evBin evWrp evShf evCmp evUna evNil evBeq evLd evSt evFad evIad evAad evLen evSln evEls evApp evParts evSlc evNlc evMif evPck evFld evBld evTas evIfq evSeq evSl0 evBxf evAgl evAgq evBsf hget hset hdel cellAt arrAt setCellAt setArrAt takeC lenC svCells SV.okc SV.one ldSV Fw.isAgg explode explodeL toD toDL toD1 Ty.size Ty.sizeL frz1 Fr.sub Heap.sub Tok.sub SV.sub SV.subL

def pfxS (K : Int) (M : List D) (k : Nat) : ByteArray := itoaS K ++ s0S ++ joinS (txtL (M.take k)) s1S
theorem pfx_0 (K : Int) (M : List D) : pfxS K M 0 = itoaS K ++ s0S := by
  apply ba_ext
  unfold pfxS
  rw [ba_app]
  have : (joinS (txtL (M.take 0)) s1S).data.toList = [] := rfl
  rw [this, List.append_nil]
theorem pfx_1 {K : Int} {M : List D} (h : 0 < M.length) : pfxS K M 1 = pfxS K M 0 ++ itoaS (M.getD 0 .nil).i := by
  rw [pfx_0]
  unfold pfxS
  rw [txt_step h]
  have : txtL (M.take 0) ++ [D.str (itoaS (M.getD 0 .nil).i)] = [D.str (itoaS (M.getD 0 .nil).i)] := rfl
  rw [this, joinS_one]
  rfl
theorem pfx_s {K : Int} {M : List D} {k : Nat} (h0 : 0 < k) (h : k < M.length) : pfxS K M (k + 1) = pfxS K M k ++ s1S ++ itoaS (M.getD k .nil).i := by
  unfold pfxS
  rw [txt_step h, joinS_step (fun e => by
    have := congrArg List.length e
    rw [txtL_len, List.length_take] at this
    simp only [List.length_nil] at this
    omega)]
  apply ba_ext
  simp only [ba_app, List.append_assoc]
  rfl
theorem pfx_size {K : Int} {M : List D} (h0 : 0 ≤ K) (h1 : K < 100) (hl : M.length ≤ 16) (h : ∀ d ∈ M, 0 ≤ d.i ∧ d.i < 100) (k : Nat) : (pfxS K M k).size ≤ 52 := by
  have e1 := itoaS_size h0 h1
  have e2 := txtL_size (l := M.take k) (fun d hd => h d (List.mem_of_mem_take hd))
  have e3 : s0S.size = 2 := rfl
  have e4 : (M.take k).length ≤ 16 := by rw [List.length_take]; omega
  unfold pfxS
  simp only [ByteArray.size_append]
  omega
theorem getD_str {vs : List ByteArray} {i : Nat} (h : i < vs.length) : ((vs.map D.str).getD i .nil).s = vs.getD i noneS := by
  rw [List.getD_eq_getElem?_getD, List.getElem?_map, List.getD_eq_getElem?_getD, List.getElem?_eq_getElem h]
  rfl
theorem getD_sz {vs : List ByteArray} {i : Nat} (hv : ∀ v ∈ vs, v.size ≤ 1024) (h : i < vs.length) : (vs.getD i noneS).size ≤ 1024 := by
  rw [List.getD_eq_getElem?_getD, List.getElem?_eq_getElem h]
  exact hv _ (List.getElem_mem h)
theorem stepT_1 {vs : List ByteArray} {d : D} (h : rK d = 1) : stepT vs d = vs ++ [opS ++ vs.getD (rA d).toNat noneS ++ anS ++ vs.getD (rB d).toNat noneS ++ clS] := by unfold stepT; rw [if_pos h]
theorem stepT_2 {vs : List ByteArray} {d : D} (h1 : ¬ rK d = 1) (h : rK d = 2) : stepT vs d = vs ++ [opS ++ vs.getD (rA d).toNat noneS ++ orS ++ vs.getD (rB d).toNat noneS ++ clS] := by unfold stepT; rw [if_neg h1, if_pos h]
theorem stepT_0 {vs : List ByteArray} {d : D} (h1 : ¬ rK d = 1) (h2 : ¬ rK d = 2) : stepT vs d = vs ++ [ofText (rN d) (rL d)] := by unfold stepT; rw [if_neg h1, if_neg h2]
def WR6Text : Opts := mkWE 98 [] [] [] 152 [] []
def icR6Text : IC := (.seq (.seq (.ops [(.u (.box 1 0 (.s 0))), (.u (.mov 2 (.c (.str ⟨#[]⟩))))]) (.tr [1])) (.seq (.seq (.seq (.ops [(.u (.fad 8 0 0 (.slice 79) 42 (.s 1))), (.u (.ld 9 (.slice 79) (.s 8))), (.u (.len 10 false (.s 9))), (.u (.cmp 11 .eql (.s 10) (.c (.int .i64 0))))]) (.tr [11, 1])) (.cond (.s 11) (.seq (.seq (.ops [(.u (.mov 2 (.c (.str ⟨#[110, 111, 110, 101]⟩))))]) (.tr [2])) .ret) .skip)) (.seq (.seq (.ops [(.u (.mov 3 (.c .nils)))]) (.tr [1, 3])) (.seq (.seq (.seq (.ops [(.u (.mov 4 (.c (.int .i64 0))))]) (.tr [1, 4, 3])) (.block 0 (.loop (.seq (.seq (.seq (.ops [(.u (.mov 12 (.s 4))), (.u (.fad 13 0 0 (.slice 79) 42 (.s 1))), (.u (.ld 14 (.slice 79) (.s 13))), (.u (.len 15 false (.s 14))), (.u (.cmp 16 .lss (.s 12) (.s 15)))]) (.tr [16, 4, 1, 3])) (.cond (.s 16) .skip (.exit 0))) (.seq (.block 1 (.seq (.seq (.ops [(.u (.fad 19 0 0 (.slice 79) 42 (.s 1))), (.u (.ld 20 (.slice 79) (.s 19))), (.u (.mov 21 (.s 4))), (.u (.iad 22 79 (.strct [(.int .i64), (.int .i64), (.int .i64), (.int .i64), (.slice 3)]) (.s 20) (.s 21))), (.u (.ld 23 (.strct [(.int .i64), (.int .i64), (.int .i64), (.int .i64), (.slice 3)]) (.s 22))), (.u (.alc 5 [(.int .i64 0), (.int .i64 0), (.int .i64 0), (.int .i64 0), .nils])), (.u (.st (.strct [(.int .i64), (.int .i64), (.int .i64), (.int .i64), (.slice 3)]) (.s 5) (.s 23)))]) (.tr [5, 4, 1, 3])) (.seq (.seq (.ops [(.u (.fad 24 0 0 (.int .i64) 79 (.s 5))), (.u (.ld 25 (.int .i64) (.s 24)))]) (.tr [25, 5, 4, 1, 3])) (.block 2 (.seq (.seq (.ops [(.u (.cmp 55 .eql (.s 25) (.c (.int .i64 1)))), (.u (.mov 54 (.s 55)))]) (.tr [54, 25, 5, 4, 1, 3])) (.cond (.s 54) (.seq (.rgn [] [(false, (.u (.mov 56 (.s 3)))), (false, (.u (.mov 57 (.s 3)))), (false, (.u (.fad 58 2 2 (.int .i64) 79 (.s 5)))), (false, (.u (.ld 59 (.int .i64) (.s 58)))), (false, (.u (.iad 60 9 .str (.s 57) (.s 59)))), (false, (.u (.ld 61 .str (.s 60)))), (false, (.u (.cat 62 (.c (.str ⟨#[40]⟩)) (.s 61)))), (false, (.u (.cat 63 (.s 62) (.c (.str ⟨#[32, 38, 32]⟩))))), (false, (.u (.mov 64 (.s 3)))), (false, (.u (.fad 65 3 3 (.int .i64) 79 (.s 5)))), (false, (.u (.ld 66 (.int .i64) (.s 65)))), (false, (.u (.iad 67 9 .str (.s 64) (.s 66)))), (false, (.u (.ld 68 .str (.s 67)))), (false, (.u (.cat 69 (.s 63) (.s 68)))), (false, (.u (.cat 70 (.s 69) (.c (.str ⟨#[41]⟩))))), (false, (.u (.bsl 71 9 .str [(.s 70)]))), (false, (.u (.app 72 9 .str 16 (.s 56) (.s 71)))), (false, (.u (.mov 3 (.s 72))))]) (.tr [4, 1, 3])) (.seq (.seq (.ops [(.u (.cmp 74 .eql (.s 25) (.c (.int .i64 2)))), (.u (.mov 73 (.s 74)))]) (.tr [73, 5, 4, 1, 3])) (.cond (.s 73) (.seq (.rgn [] [(false, (.u (.mov 75 (.s 3)))), (false, (.u (.mov 76 (.s 3)))), (false, (.u (.fad 77 2 2 (.int .i64) 79 (.s 5)))), (false, (.u (.ld 78 (.int .i64) (.s 77)))), (false, (.u (.iad 79 9 .str (.s 76) (.s 78)))), (false, (.u (.ld 80 .str (.s 79)))), (false, (.u (.cat 81 (.c (.str ⟨#[40]⟩)) (.s 80)))), (false, (.u (.cat 82 (.s 81) (.c (.str ⟨#[32, 124, 32]⟩))))), (false, (.u (.mov 83 (.s 3)))), (false, (.u (.fad 84 3 3 (.int .i64) 79 (.s 5)))), (false, (.u (.ld 85 (.int .i64) (.s 84)))), (false, (.u (.iad 86 9 .str (.s 83) (.s 85)))), (false, (.u (.ld 87 .str (.s 86)))), (false, (.u (.cat 88 (.s 82) (.s 87)))), (false, (.u (.cat 89 (.s 88) (.c (.str ⟨#[41]⟩))))), (false, (.u (.bsl 90 9 .str [(.s 89)]))), (false, (.u (.app 91 9 .str 16 (.s 75) (.s 90)))), (false, (.u (.mov 3 (.s 91))))]) (.tr [4, 1, 3])) (.seq (.seq (.ops [(.u (.fad 26 1 1 (.int .i64) 79 (.s 5))), (.u (.ld 27 (.int .i64) (.s 26))), (.u (.call 28 (.c (.clo 47 [])) [(.s 27)] [none] true)), (.u (.cat 29 (.s 28) (.c (.str ⟨#[47, 123]⟩)))), (.u (.mov 6 (.s 29)))]) (.tr [5, 6, 4, 1, 3])) (.seq (.seq (.seq (.ops [(.u (.mov 7 (.c (.int .i64 0))))]) (.tr [5, 7, 6, 4, 1, 3])) (.block 3 (.loop (.seq (.seq (.seq (.ops [(.u (.mov 30 (.s 7))), (.u (.fad 31 4 4 (.slice 3) 79 (.s 5))), (.u (.ld 32 (.slice 3) (.s 31))), (.u (.len 33 false (.s 32))), (.u (.cmp 34 .lss (.s 30) (.s 33)))]) (.tr [34, 7, 5, 6, 4, 1, 3])) (.cond (.s 34) .skip (.exit 3))) (.seq (.block 4 (.seq (.seq (.seq (.ops [(.u (.mov 37 (.s 7))), (.u (.cmp 38 .gtr (.s 37) (.c (.int .i64 0))))]) (.tr [38, 6, 7, 5, 4, 1, 3])) (.cond (.s 38) (.seq (.ops [(.u (.mov 39 (.s 6))), (.u (.cat 40 (.s 39) (.c (.str ⟨#[32]⟩)))), (.u (.mov 6 (.s 40)))]) (.tr [6, 7, 5, 4, 1, 3])) .skip)) (.seq (.ops [(.u (.mov 41 (.s 6))), (.u (.fad 42 4 4 (.slice 3) 79 (.s 5))), (.u (.ld 43 (.slice 3) (.s 42))), (.u (.mov 44 (.s 7))), (.u (.iad 45 3 (.int .i64) (.s 43) (.s 44))), (.u (.ld 46 (.int .i64) (.s 45))), (.u (.call 47 (.c (.clo 47 [])) [(.s 46)] [none] true)), (.u (.cat 48 (.s 41) (.s 47))), (.u (.mov 6 (.s 48)))]) (.tr [7, 5, 6, 4, 1, 3])))) (.seq (.ops [(.u (.mov 35 (.s 7))), (.u (.bin 36 .add .i64 (.s 35) (.c (.int .i64 1)))), (.u (.mov 7 (.s 36)))]) (.tr [5, 7, 6, 4, 1, 3]))))))) (.seq (.ops [(.u (.mov 49 (.s 3))), (.u (.mov 50 (.s 6))), (.u (.cat 51 (.s 50) (.c (.str ⟨#[125]⟩)))), (.u (.bsl 52 9 .str [(.s 51)])), (.u (.app 53 9 .str 16 (.s 49) (.s 52))), (.u (.mov 3 (.s 53)))]) (.tr [4, 1, 3])))))))))))) (.seq (.ops [(.u (.mov 17 (.s 4))), (.u (.bin 18 .add .i64 (.s 17) (.c (.int .i64 1)))), (.u (.mov 4 (.s 18)))]) (.tr [1, 4, 3]))))))) (.seq (.seq (.ops [(.u (.mov 92 (.s 3))), (.u (.mov 93 (.s 3))), (.u (.len 94 false (.s 93))), (.u (.bin 95 .sub .i64 (.s 94) (.c (.int .i64 1)))), (.u (.iad 96 9 .str (.s 92) (.s 95))), (.u (.ld 97 .str (.s 96))), (.u (.mov 2 (.s 97)))]) (.tr [2])) .ret)))))
def rsR6Text : List RV := [(.t 2)]
theorem irR6Text : fnIR Tryd.prog WR6Text 30 = some (icR6Text, rsR6Text) := by kernel_rfl
def spR6Text : FSpec := fun args h nx K => match args with
  | [.agg [.dat (.slice t) d]] => t = 79 ∧ wfP 0 d.l ∧ d.l.length ≤ 1000 ∧ tokL d.l ∧ K (.str (textP d.l)) h
  | _ => False
set_option maxHeartbeats 4000000 in
set_option maxRecDepth 8000 in
theorem vR6Text {E : Nat → Value} (hE : Errs2 Tryd.prog (some 152) E) : Valid Tryd.prog E (gs []) 30 spR6Text := by
  refine valid_go (W := WR6Text) hE (allValid_bot.add (up (vItoa hE))) irR6Text (by decide) (fun args h nx K hsp hok hnm => ?_)
  unfold spR6Text at hsp
  split at hsp
  · rename_i t d
    obtain ⟨rfl, hwf, hlen, htok, hK⟩ := hsp
    refine ⟨by simp [WR6Text, mkW, mkWE, mkWF], fun Q hQ => ?_⟩
    obtain ⟨hd, _⟩ := hok.1
    simp only [SV.ok] at hd
    obtain ⟨hd1, hd2, hd3⟩ := Wt.slice hd; generalize d.l = L at *; subst hd1
    have hwf : wfP 0 L := hwf
    have hlen : L.length ≤ 1000 := hlen
    have htok : tokL L := htok
    have hK : K (.str (textP L)) h := hK
    have ret : ∀ b h' nx', HLe h h' → b = textP L → Q Ex.ret ⟨[(2, .str b)], h', nx'⟩ := fun b h' nx' hh hb => by
      refine (hQ _ ?_).1
      subst hb
      exact fin_t (.str _) rfl rfl hnm hh hK
    have hm : (100000 : Nat) ≤ maxLen := by decide
    have z40 : (#[40] : Array UInt8).size = 1 := rfl
    have z41 : (#[41] : Array UInt8).size = 1 := rfl
    have z38 : (#[32, 38, 32] : Array UInt8).size = 3 := rfl
    have z124 : (#[32, 124, 32] : Array UInt8).size = 3 := rfl
    have z47 : (#[47, 123] : Array UInt8).size = 2 := rfl
    have z125 : (#[125] : Array UInt8).size = 1 := rfl
    have z32 : (#[32] : Array UInt8).size = 1 := rfl
    by_cases hL0 : L.length = 0
    · obtain rfl : L = [] := List.length_eq_zero_iff.1 hL0
      have c0 : (((0 : Nat) : Int) == 0) = true := rfl
      simp only [icR6Text, go_sem, goD_calls, eq_self, implies_true, Int.reduceEq, Int.reduceBEq, Int.reduceBNe, Int.reduceLE, Int.reduceLT, Int.reduceAdd, Int.reduceSub, Int.reduceMul, Int.reduceNeg, Nat.reduceMul, Nat.reduceSub, Nat.reduceLeDiff, Nat.reduceLT, Nat.reduceEqDiff, Nat.reduceAdd, reduceCtorEq, ↓reduceIte, reduceIte, List.length_nil, c0]
      exact ret _ _ _ (by ((try simp only []); repeat first | exact HLe.refl _ | refine HLe.cons (by simp only [hget, Nat.reduceEqDiff, Nat.left_eq_add, Nat.add_eq_left, nm_ne2, nm_en2, nm_ne3, nm_en3, nm_ne4, nm_en4, nm_ne5, nm_en5, reduceIte, ↓reduceIte] <;> first | rfl | ((repeat rw [if_neg (by omega)]) <;> rfl)) ?_ | refine HLe.skip hnm (by omega) ?_ | refine HLe.frz hnm (by omega) ?_ | refine HLe.del hnm (by omega) ?_)) rfl
    have c0 : ((L.length : Int) == 0) = false := beq_eq_false_iff_ne.2 (by omega)
    simp only [icR6Text, go_sem, goD_calls, eq_self, implies_true, Int.reduceEq, Int.reduceBEq, Int.reduceBNe, Int.reduceLE, Int.reduceLT, Int.reduceAdd, Int.reduceSub, Int.reduceMul, Int.reduceNeg, Nat.reduceMul, Nat.reduceSub, Nat.reduceLeDiff, Nat.reduceLT, Nat.reduceEqDiff, Nat.reduceAdd, reduceCtorEq, ↓reduceIte, reduceIte, c0]
    refine go_loop (α := { i : Nat // i ≤ L.length }) (I := fun i => { f := [(1, .ptr nx 0), (4, .int .i64 i.1), (3, .vec (nx + 1))], h := [(nx, .cells [.dat (.slice 79) (.list L)]), (nx + 1, .arr 9 .str (((L.take i.1).foldl stepT []).map D.str))] ++ h, nx := nx + 2 }) (μ := fun i => L.length - i.1) _ _ _ ⟨0, by omega⟩ ?_ (fun i B hB => ?_)
    · refine leq_news [(nx, nx), (nx + 1, nx + 1)] [(nx, .cells [.dat (.slice 79) (.list L)]), (nx + 1, .arr 9 .str [])] (.slot 3 9 .str rfl (.refl _)) (by simp) (by simp <;> omega) (by simp <;> omega) rfl ?_ ?_ ?_ ?_ hnm ?_ (by omega)
      · simp [frIn_cons, frIn_nil, fget_cons, fget_nil, SV.ren, SV.renL, rens]
      · (simp only [frLt_cons, frLt_nil, and_true, SV.lt, SV.ltL, true_and] <;> omega)
      · (simp only [List.mem_cons, List.not_mem_nil, or_false, forall_eq_or_imp, forall_eq]; simp [hget, rens, Tok.ren, SV.ren, SV.renL])
      · (simp only [List.mem_cons, List.not_mem_nil, or_false, forall_eq_or_imp, forall_eq, Tok.lt, SV.lt, SV.ltL, and_true, true_and] <;> omega)
      · ((try simp only []); repeat first | exact HLe.refl _ | refine HLe.cons (by simp only [hget, Nat.reduceEqDiff, Nat.left_eq_add, Nat.add_eq_left, nm_ne2, nm_en2, nm_ne3, nm_en3, nm_ne4, nm_en4, nm_ne5, nm_en5, reduceIte, ↓reduceIte] <;> first | rfl | ((repeat rw [if_neg (by omega)]) <;> rfl)) ?_ | refine HLe.skip hnm (by omega) ?_ | refine HLe.frz hnm (by omega) ?_ | refine HLe.del hnm (by omega) ?_)
    · obtain ⟨i, hi⟩ := i
      simp only at hB
      have hvl := evT_len hi
      by_cases hil : i < L.length
      · have c1 : decide ((i : Int) < (L.length : Int)) = true := decide_eq_true (by omega)
        have hst := evT_step hil
        have hw := hwf i hil
        have hsz : ∀ v ∈ (L.take i).foldl stepT [], v.size ≤ 1024 := fun v hv => htok.2 v (evT_mem hv)
        have htk := htok.1 (L.getD i .nil) (by rw [List.getD_eq_getElem?_getD, List.getElem?_eq_getElem hil]; exact List.getElem_mem hil)
        have next : ∀ vs S', vs = (L.take (i + 1)).foldl stepT [] → Leq nx S' { f := [(1, .ptr nx 0), (4, .int .i64 ((i + 1 : Nat) : Int)), (3, .vec (nx + 1))], h := [(nx, .cells [.dat (.slice 79) (.list L)]), (nx + 1, .arr 9 .str (vs.map D.str))] ++ h, nx := nx + 2 } → B S' := fun vs S' e hl => by
          subst e
          exact hB _ ⟨i + 1, by omega⟩ (by simp only []; omega) hl
        generalize hvs : (L.take i).foldl stepT [] = vs at hvl hst hsz ⊢
        have hvml : (vs.map D.str).length = i := by rw [List.length_map]; exact hvl
        obtain ⟨x, hx⟩ : ∃ x, L.getD i .nil = x := ⟨_, rfl⟩
        rw [hx] at hw htk hst
        by_cases h12 : rK x = 1 ∨ rK x = 2
        · obtain ⟨a0, a1, b0, b1⟩ := hw.resolve_left (fun h => h h12)
          have a0 : 0 ≤ (x.fld 2).i := a0
          have b0 : 0 ≤ (x.fld 3).i := b0
          have a1 : (x.fld 2).i < (i : Int) := by
            have h : (x.fld 2).i < ((0 : Nat) : Int) + (i : Int) := a1
            omega
          have b1 : (x.fld 3).i < (i : Int) := by
            have h : (x.fld 3).i < ((0 : Nat) : Int) + (i : Int) := b1
            omega
          obtain ⟨va, hva⟩ : ∃ v, vs.getD ((x.fld 2).i).toNat noneS = v := ⟨_, rfl⟩
          obtain ⟨vb, hvb⟩ : ∃ v, vs.getD ((x.fld 3).i).toNat noneS = v := ⟨_, rfl⟩
          have sa := getD_sz (i := ((x.fld 2).i).toNat) hsz (by omega)
          have sb := getD_sz (i := ((x.fld 3).i).toNat) hsz (by omega)
          have ga := getD_str (vs := vs) (i := ((x.fld 2).i).toNat) (by omega)
          have gb := getD_str (vs := vs) (i := ((x.fld 3).i).toNat) (by omega)
          rw [hva] at sa ga
          rw [hvb] at sb gb
          by_cases h1 : rK x = 1
          · have c2 : ((x.fld 0).i == 1) = true := beq_iff_eq.2 h1
            have hst : (L.take (i + 1)).foldl stepT [] = vs ++ [(⟨#[40]⟩ : ByteArray) ++ va ++ ⟨#[32, 38, 32]⟩ ++ vb ++ ⟨#[41]⟩] := by rw [hst, stepT_1 h1, ← hva, ← hvb]; rfl
            simp only [go_sem, goD_calls, eq_self, implies_true, Int.reduceEq, Int.reduceBEq, Int.reduceBNe, Int.reduceLE, Int.reduceLT, Int.reduceAdd, Int.reduceSub, Int.reduceMul, Int.reduceNeg, Nat.reduceMul, Nat.reduceSub, Nat.reduceLeDiff, Nat.reduceLT, Nat.reduceEqDiff, Nat.reduceAdd, reduceCtorEq, ↓reduceIte, reduceIte, c1, c2, hx, ga, gb, hvml, Int.toNat_natCast, min_i64, max_i64]
            refine ⟨by omega, by omega, by omega, by simp only [z40]; omega, by simp only [z40, z38]; omega, by omega, by omega, by simp only [z40, z38]; omega, by simp only [z40, z41, z38]; omega, by omega, by omega, ?_⟩
            refine next _ _ hst.symm ?_
            refine leq_news [(nx, nx), (nx + 1, nx + 2 + 1 + 1)] [(nx, .cells [.dat (.slice 79) (.list L)]), (nx + 1, .arr 9 .str ((vs ++ [(⟨#[40]⟩ : ByteArray) ++ va ++ ⟨#[32, 38, 32]⟩ ++ vb ++ ⟨#[41]⟩]).map D.str))] (.refl _) (by simp) (by simp <;> omega) (by simp <;> omega) rfl ?_ ?_ ?_ ?_ hnm ?_ (by omega)
            · simp [frIn_cons, frIn_nil, fget_cons, fget_nil, SV.ren, SV.renL, rens]
            · (simp only [frLt_cons, frLt_nil, and_true, SV.lt, SV.ltL, true_and] <;> omega)
            · (simp only [List.mem_cons, List.not_mem_nil, or_false, forall_eq_or_imp, forall_eq]; simp [hget, rens, Tok.ren, SV.ren, SV.renL])
              all_goals try (rw [if_neg (by omega), if_neg (by omega)])
              all_goals try omega
            · (simp only [List.mem_cons, List.not_mem_nil, or_false, forall_eq_or_imp, forall_eq, Tok.lt, SV.lt, SV.ltL, and_true, true_and] <;> omega)
            · ((try simp only []); repeat first | exact HLe.refl _ | refine HLe.cons (by simp only [hget, Nat.reduceEqDiff, Nat.left_eq_add, Nat.add_eq_left, nm_ne2, nm_en2, nm_ne3, nm_en3, nm_ne4, nm_en4, nm_ne5, nm_en5, reduceIte, ↓reduceIte] <;> first | rfl | ((repeat rw [if_neg (by omega)]) <;> rfl)) ?_ | refine HLe.skip hnm (by omega) ?_ | refine HLe.frz hnm (by omega) ?_ | refine HLe.del hnm (by omega) ?_)
          · have h2 := h12.resolve_left h1
            have c2 : ((x.fld 0).i == 1) = false := beq_eq_false_iff_ne.2 h1
            have c3 : ((x.fld 0).i == 2) = true := beq_iff_eq.2 h2
            have hst : (L.take (i + 1)).foldl stepT [] = vs ++ [(⟨#[40]⟩ : ByteArray) ++ va ++ ⟨#[32, 124, 32]⟩ ++ vb ++ ⟨#[41]⟩] := by rw [hst, stepT_2 h1 h2, ← hva, ← hvb]; rfl
            simp only [go_sem, goD_calls, eq_self, implies_true, Int.reduceEq, Int.reduceBEq, Int.reduceBNe, Int.reduceLE, Int.reduceLT, Int.reduceAdd, Int.reduceSub, Int.reduceMul, Int.reduceNeg, Nat.reduceMul, Nat.reduceSub, Nat.reduceLeDiff, Nat.reduceLT, Nat.reduceEqDiff, Nat.reduceAdd, reduceCtorEq, ↓reduceIte, reduceIte, c1, c2, c3, hx, ga, gb, hvml, Int.toNat_natCast, min_i64, max_i64]
            refine ⟨by omega, by omega, by omega, by simp only [z40]; omega, by simp only [z40, z124]; omega, by omega, by omega, by simp only [z40, z124]; omega, by simp only [z40, z41, z124]; omega, by omega, by omega, ?_⟩
            refine next _ _ hst.symm ?_
            refine leq_news [(nx, nx), (nx + 1, nx + 2 + 1 + 1)] [(nx, .cells [.dat (.slice 79) (.list L)]), (nx + 1, .arr 9 .str ((vs ++ [(⟨#[40]⟩ : ByteArray) ++ va ++ ⟨#[32, 124, 32]⟩ ++ vb ++ ⟨#[41]⟩]).map D.str))] (.refl _) (by simp) (by simp <;> omega) (by simp <;> omega) rfl ?_ ?_ ?_ ?_ hnm ?_ (by omega)
            · simp [frIn_cons, frIn_nil, fget_cons, fget_nil, SV.ren, SV.renL, rens]
            · (simp only [frLt_cons, frLt_nil, and_true, SV.lt, SV.ltL, true_and] <;> omega)
            · (simp only [List.mem_cons, List.not_mem_nil, or_false, forall_eq_or_imp, forall_eq]; simp [hget, rens, Tok.ren, SV.ren, SV.renL])
              all_goals try (rw [if_neg (by omega), if_neg (by omega)])
              all_goals try omega
            · (simp only [List.mem_cons, List.not_mem_nil, or_false, forall_eq_or_imp, forall_eq, Tok.lt, SV.lt, SV.ltL, and_true, true_and] <;> omega)
            · ((try simp only []); repeat first | exact HLe.refl _ | refine HLe.cons (by simp only [hget, Nat.reduceEqDiff, Nat.left_eq_add, Nat.add_eq_left, nm_ne2, nm_en2, nm_ne3, nm_en3, nm_ne4, nm_en4, nm_ne5, nm_en5, reduceIte, ↓reduceIte] <;> first | rfl | ((repeat rw [if_neg (by omega)]) <;> rfl)) ?_ | refine HLe.skip hnm (by omega) ?_ | refine HLe.frz hnm (by omega) ?_ | refine HLe.del hnm (by omega) ?_)
        · have h1 : ¬ rK x = 1 := fun e => h12 (.inl e)
          have h2 : ¬ rK x = 2 := fun e => h12 (.inr e)
          have c2 : ((x.fld 0).i == 1) = false := beq_eq_false_iff_ne.2 h1
          have c3 : ((x.fld 0).i == 2) = false := beq_eq_false_iff_ne.2 h2
          obtain ⟨k0, k1, hml, hmr⟩ := htk.resolve_left h12
          obtain ⟨M, hM⟩ : ∃ M, (x.fld 4).l = M := ⟨_, rfl⟩
          obtain ⟨C, hC⟩ : ∃ C, (x.fld 1).i = C := ⟨_, rfl⟩
          have hM' : rL x = M := hM
          have hC' : rN x = C := hC
          rw [hM'] at hml hmr
          rw [hC'] at k0 k1
          have psz := pfx_size k0 k1 hml hmr
          have isz := itoaS_size k0 k1
          have hst : (L.take (i + 1)).foldl stepT [] = vs ++ [pfxS C M M.length ++ ⟨#[125]⟩] := by
            rw [hst, stepT_0 h1 h2, hM', hC']
            unfold pfxS ofText
            rw [List.take_of_length_le (Nat.le_refl _)]
            rfl
          simp only [go_sem, goD_calls, eq_self, implies_true, Int.reduceEq, Int.reduceBEq, Int.reduceBNe, Int.reduceLE, Int.reduceLT, Int.reduceAdd, Int.reduceSub, Int.reduceMul, Int.reduceNeg, Nat.reduceMul, Nat.reduceSub, Nat.reduceLeDiff, Nat.reduceLT, Nat.reduceEqDiff, Nat.reduceAdd, reduceCtorEq, ↓reduceIte, reduceIte, c1, c2, c3, hx, hC, spItoa, Int.toNat_natCast, min_i64, max_i64]
          refine ⟨by omega, k0, k1, by simp only [z47]; omega, ?_⟩
          refine go_loop (α := { k : Nat // k ≤ M.length }) (I := fun k => { f := [(5, .ptr (nx + 2) 0), (7, .int .i64 k.1), (6, .str (pfxS C M k.1)), (4, .int .i64 i), (1, .ptr nx 0), (3, .vec (nx + 1))], h := [(nx, .cells [.dat (.slice 79) (.list L)]), (nx + 1, .arr 9 .str (vs.map D.str)), (nx + 2, .cells [.int .i64 (x.fld 0).i, .int .i64 C, .int .i64 (x.fld 2).i, .int .i64 (x.fld 3).i, .dat (.slice 3) (x.fld 4)])] ++ h, nx := nx + 3 }) (μ := fun k => M.length - k.1) _ _ _ ⟨0, by omega⟩ ?_ (fun k B2 hB2 => ?_)
          · refine leq_news [(nx, nx), (nx + 1, nx + 1), (nx + 2, nx + 2)] [(nx, .cells [.dat (.slice 79) (.list L)]), (nx + 1, .arr 9 .str (vs.map D.str)), (nx + 2, .cells [.int .i64 (x.fld 0).i, .int .i64 C, .int .i64 (x.fld 2).i, .int .i64 (x.fld 3).i, .dat (.slice 3) (x.fld 4)])] (.refl _) (by simp) (by simp <;> omega) (by simp <;> omega) rfl ?_ ?_ ?_ ?_ hnm ?_ (by omega)
            · simp only [pfx_0]
              simp [frIn_cons, frIn_nil, fget_cons, fget_nil, SV.ren, SV.renL, rens]
              all_goals try rfl
            · (simp only [frLt_cons, frLt_nil, and_true, SV.lt, SV.ltL, true_and] <;> omega)
            · (simp only [List.mem_cons, List.not_mem_nil, or_false, forall_eq_or_imp, forall_eq]; simp [hget, rens, Tok.ren, SV.ren, SV.renL])
            · (simp only [List.mem_cons, List.not_mem_nil, or_false, forall_eq_or_imp, forall_eq, Tok.lt, SV.lt, SV.ltL, and_true, true_and] <;> omega)
            · ((try simp only []); repeat first | exact HLe.refl _ | refine HLe.cons (by simp only [hget, Nat.reduceEqDiff, Nat.left_eq_add, Nat.add_eq_left, nm_ne2, nm_en2, nm_ne3, nm_en3, nm_ne4, nm_en4, nm_ne5, nm_en5, reduceIte, ↓reduceIte] <;> first | rfl | ((repeat rw [if_neg (by omega)]) <;> rfl)) ?_ | refine HLe.skip hnm (by omega) ?_ | refine HLe.frz hnm (by omega) ?_ | refine HLe.del hnm (by omega) ?_)
          · obtain ⟨k, hk⟩ := k
            simp only at hB2
            have pk := psz k
            by_cases hkl : k < M.length
            · have c4 : decide ((k : Int) < (M.length : Int)) = true := decide_eq_true (by omega)
              obtain ⟨n, hn⟩ : ∃ n, (M.getD k .nil).i = n := ⟨_, rfl⟩
              have hnr := hmr (M.getD k .nil) (by rw [List.getD_eq_getElem?_getD, List.getElem?_eq_getElem hkl]; exact List.getElem_mem hkl)
              rw [hn] at hnr
              have nsz := itoaS_size hnr.1 hnr.2
              have next2 : ∀ v S', v = pfxS C M (k + 1) → Leq nx S' { f := [(5, .ptr (nx + 2) 0), (7, .int .i64 ((k + 1 : Nat) : Int)), (6, .str v), (4, .int .i64 i), (1, .ptr nx 0), (3, .vec (nx + 1))], h := [(nx, .cells [.dat (.slice 79) (.list L)]), (nx + 1, .arr 9 .str (vs.map D.str)), (nx + 2, .cells [.int .i64 (x.fld 0).i, .int .i64 C, .int .i64 (x.fld 2).i, .int .i64 (x.fld 3).i, .dat (.slice 3) (x.fld 4)])] ++ h, nx := nx + 3 } → B2 S' := fun v S' e hl => by
                subst e
                exact hB2 _ ⟨k + 1, by omega⟩ (by simp only []; omega) hl
              by_cases hk0 : k = 0
              · subst hk0
                have c5 : decide ((0 : Int) < ((0 : Nat) : Int)) = false := rfl
                have hp := pfx_1 (K := C) hkl
                rw [hn] at hp
                simp only [go_sem, goD_calls, eq_self, implies_true, Int.reduceEq, Int.reduceBEq, Int.reduceBNe, Int.reduceLE, Int.reduceLT, Int.reduceAdd, Int.reduceSub, Int.reduceMul, Int.reduceNeg, Nat.reduceMul, Nat.reduceSub, Nat.reduceLeDiff, Nat.reduceLT, Nat.reduceEqDiff, Nat.reduceAdd, reduceCtorEq, ↓reduceIte, reduceIte, c4, c5, hM, hn, spItoa, Int.toNat_natCast, min_i64, max_i64]
                refine ⟨by omega, hnr.1, hnr.2, by omega, by omega, ?_⟩
                refine next2 _ _ hp.symm ?_
                refine leq_id ?_ (by (simp only [frLt_cons, frLt_nil, and_true, SV.lt, SV.ltL, true_and] <;> omega)) (by ((try simp only []); repeat first | exact HLe.refl _ | refine HLe.cons (by simp only [hget, Nat.reduceEqDiff, Nat.left_eq_add, Nat.add_eq_left, nm_ne2, nm_en2, nm_ne3, nm_en3, nm_ne4, nm_en4, nm_ne5, nm_en5, reduceIte, ↓reduceIte] <;> first | rfl | ((repeat rw [if_neg (by omega)]) <;> rfl)) ?_ | refine HLe.skip hnm (by omega) ?_ | refine HLe.frz hnm (by omega) ?_ | refine HLe.del hnm (by omega) ?_)) (by (repeat first | exact HLt.mono hnm (by simp only [] <;> omega) | refine HLt.cons (by simp only [] <;> omega) (by simp only [Tok.lt, SV.ltL, SV.lt, and_true, true_and] <;> omega) ?_)) (by simp only [] <;> omega)
                simp only [frEq_cons, frEq_nil, frIn_cons, frIn_nil, and_true, fget_cons, Nat.reduceEqDiff, reduceIte, ↓reduceIte, true_and, SV.ren, SV.renL, ren1]
                simp
              · have c5 : decide ((0 : Int) < (k : Int)) = true := decide_eq_true (by omega)
                have hp := pfx_s (K := C) (Nat.pos_of_ne_zero hk0) hkl
                rw [hn] at hp
                have hp : pfxS C M (k + 1) = pfxS C M k ++ (⟨#[32]⟩ : ByteArray) ++ itoaS n := hp
                simp only [go_sem, goD_calls, eq_self, implies_true, Int.reduceEq, Int.reduceBEq, Int.reduceBNe, Int.reduceLE, Int.reduceLT, Int.reduceAdd, Int.reduceSub, Int.reduceMul, Int.reduceNeg, Nat.reduceMul, Nat.reduceSub, Nat.reduceLeDiff, Nat.reduceLT, Nat.reduceEqDiff, Nat.reduceAdd, reduceCtorEq, ↓reduceIte, reduceIte, c4, c5, hM, hn, spItoa, Int.toNat_natCast, min_i64, max_i64]
                refine ⟨by simp only [z32]; omega, by omega, hnr.1, hnr.2, by simp only [z32]; omega, by omega, ?_⟩
                refine next2 _ _ hp.symm ?_
                refine leq_id ?_ (by (simp only [frLt_cons, frLt_nil, and_true, SV.lt, SV.ltL, true_and] <;> omega)) (by ((try simp only []); repeat first | exact HLe.refl _ | refine HLe.cons (by simp only [hget, Nat.reduceEqDiff, Nat.left_eq_add, Nat.add_eq_left, nm_ne2, nm_en2, nm_ne3, nm_en3, nm_ne4, nm_en4, nm_ne5, nm_en5, reduceIte, ↓reduceIte] <;> first | rfl | ((repeat rw [if_neg (by omega)]) <;> rfl)) ?_ | refine HLe.skip hnm (by omega) ?_ | refine HLe.frz hnm (by omega) ?_ | refine HLe.del hnm (by omega) ?_)) (by (repeat first | exact HLt.mono hnm (by simp only [] <;> omega) | refine HLt.cons (by simp only [] <;> omega) (by simp only [Tok.lt, SV.ltL, SV.lt, and_true, true_and] <;> omega) ?_)) (by simp only [] <;> omega)
                simp only [frEq_cons, frEq_nil, frIn_cons, frIn_nil, and_true, fget_cons, Nat.reduceEqDiff, reduceIte, ↓reduceIte, true_and, SV.ren, SV.renL, ren1]
                simp
            · obtain rfl : k = M.length := by omega
              have c4 : decide ((M.length : Int) < (M.length : Int)) = false := decide_eq_false (by omega)
              simp only [go_sem, goD_calls, eq_self, implies_true, Int.reduceEq, Int.reduceBEq, Int.reduceBNe, Int.reduceLE, Int.reduceLT, Int.reduceAdd, Int.reduceSub, Int.reduceMul, Int.reduceNeg, Nat.reduceMul, Nat.reduceSub, Nat.reduceLeDiff, Nat.reduceLT, Nat.reduceEqDiff, Nat.reduceAdd, reduceCtorEq, ↓reduceIte, reduceIte, c4, hM, hvml, Int.toNat_natCast, min_i64, max_i64]
              refine ⟨by simp only [z125]; omega, by omega, by omega, ?_⟩
              refine next _ _ hst.symm ?_
              refine leq_news [(nx, nx), (nx + 1, nx + 3 + 1)] [(nx, .cells [.dat (.slice 79) (.list L)]), (nx + 1, .arr 9 .str ((vs ++ [pfxS C M M.length ++ ⟨#[125]⟩]).map D.str))] (.refl _) (by simp) (by simp <;> omega) (by simp <;> omega) rfl ?_ ?_ ?_ ?_ hnm ?_ (by omega)
              · simp [frIn_cons, frIn_nil, fget_cons, fget_nil, SV.ren, SV.renL, rens]
              · (simp only [frLt_cons, frLt_nil, and_true, SV.lt, SV.ltL, true_and] <;> omega)
              · (simp only [List.mem_cons, List.not_mem_nil, or_false, forall_eq_or_imp, forall_eq]; simp [hget, rens, Tok.ren, SV.ren, SV.renL])
                all_goals try (rw [if_neg (by omega), if_neg (by omega)])
                all_goals try omega
              · (simp only [List.mem_cons, List.not_mem_nil, or_false, forall_eq_or_imp, forall_eq, Tok.lt, SV.lt, SV.ltL, and_true, true_and] <;> omega)
              · ((try simp only []); repeat first | exact HLe.refl _ | refine HLe.cons (by simp only [hget, Nat.reduceEqDiff, Nat.left_eq_add, Nat.add_eq_left, nm_ne2, nm_en2, nm_ne3, nm_en3, nm_ne4, nm_en4, nm_ne5, nm_en5, reduceIte, ↓reduceIte] <;> first | rfl | ((repeat rw [if_neg (by omega)]) <;> rfl)) ?_ | refine HLe.skip hnm (by omega) ?_ | refine HLe.frz hnm (by omega) ?_ | refine HLe.del hnm (by omega) ?_)
      · obtain rfl : i = L.length := by omega
        have c1 : decide ((L.length : Int) < (L.length : Int)) = false := decide_eq_false (by omega)
        have hK2 : textP L = (((L.take L.length).foldl stepT []).getLast?).getD noneS := by rw [List.take_of_length_le (Nat.le_refl _)]; rfl
        generalize (L.take L.length).foldl stepT [] = vs at hvl hK2 ⊢
        have hvml : (vs.map D.str).length = L.length := by rw [List.length_map]; exact hvl
        have e1 : ((L.length : Int) - 1).toNat = L.length - 1 := by omega
        have hgs := getD_str (vs := vs) (i := L.length - 1) (by omega)
        simp only [go_sem, goD_calls, eq_self, implies_true, Int.reduceEq, Int.reduceBEq, Int.reduceBNe, Int.reduceLE, Int.reduceLT, Int.reduceAdd, Int.reduceSub, Int.reduceMul, Int.reduceNeg, Nat.reduceMul, Nat.reduceSub, Nat.reduceLeDiff, Nat.reduceLT, Nat.reduceEqDiff, Nat.reduceAdd, reduceCtorEq, ↓reduceIte, reduceIte, c1, hvml, e1, hgs, Int.toNat_natCast, min_i64, max_i64]
        repeat refine ⟨by omega, ?_⟩
        refine ret _ _ _ (by ((try simp only []); repeat first | exact HLe.refl _ | refine HLe.cons (by simp only [hget, Nat.reduceEqDiff, Nat.left_eq_add, Nat.add_eq_left, nm_ne2, nm_en2, nm_ne3, nm_en3, nm_ne4, nm_en4, nm_ne5, nm_en5, reduceIte, ↓reduceIte] <;> first | rfl | ((repeat rw [if_neg (by omega)]) <;> rfl)) ?_ | refine HLe.skip hnm (by omega) ?_ | refine HLe.frz hnm (by omega) ?_ | refine HLe.del hnm (by omega) ?_)) ?_
        rw [hK2, List.getLast?_eq_getElem?, hvl, List.getD_eq_getElem?_getD]
  · exact hsp.elim
end Go.Proofs.YtkmilijehekdoaaDoor
