/- Chapter 8's functions: the next number; copies; one more behind. -/
import Derived.Test.YtmjenjccinfbaaaDoorSpanB
namespace Go.Proofs.YtmjenjccinfbaaaDoor
set_option linter.unusedVariables false
set_option linter.unusedSimpArgs false
open Go Go.Fw
attribute [local go_sem] walkSet evMdl evMupD evMup evLkp frpL eltP eltV eltK preF preP prePt prePd frzP evNlq ev frOf oget ogets argSs argS evCat evMm frzL evBin evWrp evShf evCmp evUna evNil evBeq evLd evSt evFad evIad evAad evLen evSln evEls evApp evParts evSlc evNlc evMif evPck evFld evBld evTas evIfq evSeq evSl0 evBxf evAgl evAgq evBsf hget hset hdel cellAt arrAt setCellAt setArrAt takeC lenC svCells SV.okc SV.one ldSV Fw.isAgg explode explodeL toD toDL toD1 Ty.size Ty.sizeL frz1 Fr.sub Heap.sub Tok.sub SV.sub SV.subL

theorem topMax (l : List D) (h : ∀ s ∈ l, spT s ≤ 9223372036854775806) : ∀ s ∈ l, spT s ≤ 9223372036854775806 := h
theorem getD_mem {l : List D} {i : Nat} (h : i < l.length) : l.getD i .nil ∈ l := by
  rw [List.getD_eq_getElem?_getD, List.getElem?_eq_getElem h]; exact List.getElem_mem h
theorem firstI_cases (p : D → Bool) (l : List D) : (firstI p l = -1 ∧ ∀ s ∈ l, p s = false) ∨ ∃ k : Nat, k < l.length ∧ firstI p l = k ∧ p (l.getD k .nil) = true := by
  unfold firstI
  cases h : l.findIdx? p with
  | none =>
    left
    rw [List.findIdx?_eq_none_iff] at h
    exact ⟨rfl, h⟩
  | some k =>
    right
    rw [List.findIdx?_eq_some_iff_getElem] at h
    obtain ⟨hk, h1, _⟩ := h
    refine ⟨k, hk, rfl, ?_⟩
    simp only [List.getD_eq_getElem?_getD, List.getElem?_eq_getElem hk, Option.getD_some]
    exact h1

def WSNext : Opts := mkWE 21 [] [] [] 171 [] []
def icSNext : IC := (.seq (.seq (.ops [(.u (.mov 4 (.c (.int .i64 0))))]) (.tr [1, 0])) (.seq (.seq (.ops [(.u (.mov 7 (.s 1))), (.u (.bin 8 .add .i64 (.s 7) (.c (.int .i64 1)))), (.u (.alc 5 [(.int .i64 0)])), (.u (.st (.int .i64) (.s 5) (.s 8)))]) (.tr [0, 5])) (.block 0 (.loop (.block 1 (.seq (.seq (.ops [(.u (.mov 9 (.s 0))), (.u (.clo 10 97 [(.s 5)])), (.u (.call 11 (.c (.clo 96 [])) [(.s 9), (.s 10)] [(some 41), none] true)), (.u (.mov 6 (.s 11)))]) (.tr [6, 0, 5])) (.seq (.seq (.seq (.ops [(.u (.mov 12 (.s 6))), (.u (.cmp 13 .lss (.s 12) (.c (.int .i64 0))))]) (.tr [13, 6, 0, 5])) (.cond (.s 13) (.seq (.seq (.ops [(.u (.ld 14 (.int .i64) (.s 5))), (.u (.mov 4 (.s 14)))]) (.tr [4])) .ret) .skip)) (.seq (.ops [(.u (.mov 15 (.s 0))), (.u (.mov 16 (.s 6))), (.u (.iad 17 41 (.strct [(.int .i64), (.int .i64), (.int .i64)]) (.s 15) (.s 16))), (.u (.fad 18 2 2 (.int .i64) 41 (.s 17))), (.u (.ld 19 (.int .i64) (.s 18))), (.u (.bin 20 .add .i64 (.s 19) (.c (.int .i64 1)))), (.u (.st (.int .i64) (.s 5) (.s 20)))]) (.tr [0, 5])))))))))
def rsSNext : List RV := [(.t 4)]
theorem irSNext : fnIR Tryd.prog WSNext 63 = some (icSNext, rsSNext) := by kernel_rfl
def lowT (l : List D) : Prop := ∀ s ∈ l, spT s ≤ 9223372036854775806
def spSNext : FSpec := fun args h nx K => match args with
  | [.dat (.slice 41) d, .int .i64 n] => n ≤ 9223372036854775806 ∧ lowT d.l ∧ K (.int .i64 (nextF d.l n)) h
  | _ => False
set_option maxHeartbeats 1000000 in
theorem vSNext {E : Nat → Value} (hE : Errs2 Tryd.prog (some 171) E) : Valid Tryd.prog E (gs []) 63 spSNext := by
  refine valid_go (W := WSNext) hE (allValid_bot.add (vSIndexF hE)) irSNext (by decide) (fun args h nx K hsp hok hnm => ?_)
  unfold spSNext at hsp
  split at hsp
  · rename_i d n0
    obtain ⟨hn, hlow, hsp⟩ := hsp
    obtain ⟨hd, hn0, _⟩ := hok
    simp only [SV.ok, min_i64, max_i64] at hd hn0
    obtain ⟨hd1, hd2, hd3⟩ := Wt.slice hd
    generalize d.l = l at hsp hd1 hd2 hd3 hlow
    subst hd1
    have hml : maxLen ≤ 9223372036854775807 := by decide
    refine ⟨by simp [WSNext, mkW, mkWE], fun Q hQ => ?_⟩
    obtain ⟨t, ht⟩ := exists_top l
    simp only [icSNext, go_sem, goD_calls, eq_self, implies_true, Int.reduceEq, Int.reduceBEq, Int.reduceBNe, Int.reduceLE, Int.reduceLT, Int.reduceAdd, Int.reduceSub, Int.reduceMul, Int.reduceNeg, Nat.reduceMul, Nat.reduceSub, Nat.reduceLeDiff, Nat.reduceLT, Nat.reduceEqDiff, Nat.reduceAdd, reduceCtorEq, ↓reduceIte, reduceIte, min_i64, max_i64]
    refine ⟨by omega, ?_⟩
    refine go_loop (α := { n : Int // n0 < n ∧ n ≤ 9223372036854775807 ∧ ∀ k, n0 < k → k < n → ∃ s ∈ l, hasD s k }) (I := fun n => { f := [(0, .dat (.slice 41) (.list l)), (5, .ptr nx 0)], h := (nx, .cells [.int .i64 n.1]) :: h, nx := nx + 1 }) (μ := fun n => (t + 1 - n.1).toNat) _ _ _ ⟨n0 + 1, by omega, by omega, fun k h1 h2 => by omega⟩ ?_ (fun n B hB => ?_)
    · refine leq_id (by simp only [frEq_cons, frEq_nil, frIn_cons, frIn_nil, and_true, fget_cons, Nat.reduceEqDiff, reduceIte, ↓reduceIte, true_and, SV.ren, SV.renL, ren1] <;> (try rfl) <;> (try simp)) (by (simp only [frLt_cons, frLt_nil, and_true, SV.lt, SV.ltL, true_and] <;> omega)) (by ((try simp only []); repeat first | exact HLe.refl _ | refine HLe.cons (by simp only [hget, Nat.reduceEqDiff, Nat.left_eq_add, Nat.add_eq_left, nm_ne2, nm_en2, nm_ne3, nm_en3, nm_ne4, nm_en4, nm_ne5, nm_en5, reduceIte, ↓reduceIte] <;> first | rfl | ((repeat rw [if_neg (by omega)]) <;> rfl)) ?_ | refine HLe.skip hnm (by omega) ?_ | refine HLe.frz hnm (by omega) ?_ | refine HLe.del hnm (by omega) ?_)) (by (repeat first | exact HLt.mono hnm (by simp only [] <;> omega) | refine HLt.cons (by simp only [] <;> omega) (by simp only [Tok.lt, SV.ltL, SV.lt, and_true, true_and] <;> omega) ?_)) (by simp only [] <;> omega)
    · obtain ⟨n, hn1, hn2, hn3⟩ := n
      simp only at hB
      simp only [go_sem, goD_calls, eq_self, implies_true, Int.reduceEq, Int.reduceBEq, Int.reduceBNe, Int.reduceLE, Int.reduceLT, Int.reduceAdd, Int.reduceSub, Int.reduceMul, Int.reduceNeg, Nat.reduceMul, Nat.reduceSub, Nat.reduceLeDiff, Nat.reduceLT, Nat.reduceEqDiff, Nat.reduceAdd, reduceCtorEq, ↓reduceIte, reduceIte, spSIndexF, cOk_some, cI_some, list_l, min_i64, max_i64]
      rcases firstI_cases (hasP n) l with ⟨e, hno⟩ | ⟨k, hk, e, hhas⟩
      · rw [e]
        refine ⟨fun _ => ?_, fun c => absurd c (by decide)⟩
        refine (hQ _ (fin_t (.int .i64 n) rfl rfl hnm (by ((try simp only []); repeat first | exact HLe.refl _ | refine HLe.cons (by simp only [hget, Nat.reduceEqDiff, Nat.left_eq_add, Nat.add_eq_left, nm_ne2, nm_en2, nm_ne3, nm_en3, nm_ne4, nm_en4, nm_ne5, nm_en5, reduceIte, ↓reduceIte] <;> first | rfl | ((repeat rw [if_neg (by omega)]) <;> rfl)) ?_ | refine HLe.skip hnm (by omega) ?_ | refine HLe.frz hnm (by omega) ?_ | refine HLe.del hnm (by omega) ?_)) ?_)).1
        rw [nextF_eq ⟨hn1, fun s hs => by have := hno s hs; simpa [hasP] using this, hn3⟩] at hsp
        exact hsp
      · rw [e]
        have hh : hasD (l.getD k .nil) n := by simpa [hasP] using hhas
        have hm := getD_mem hk
        have h1 := hlow _ hm
        have h2 := ht _ hm
        have hh1 := hh.1
        have hh2 := hh.2
        unfold spT at h1 h2 hh2
        rw [Int.toNat_natCast]
        refine ⟨fun c => absurd (of_decide_eq_true c) (by omega), fun _ => ⟨by omega, rfl, by omega, ?_⟩⟩
        refine hB _ ⟨((l.getD k .nil).fld 2).i + 1, by omega, by omega, fun j h3 h4 => ?_⟩ (by simp only []; omega) ?_
        · by_cases hj : j < n
          · exact hn3 j h3 hj
          · exact ⟨_, hm, by omega, by unfold spT; omega⟩
        · refine leq_id (by simp only [frEq_cons, frEq_nil, frIn_cons, frIn_nil, and_true, fget_cons, Nat.reduceEqDiff, reduceIte, ↓reduceIte, true_and, SV.ren, SV.renL, ren1] <;> (try rfl) <;> (try simp)) (by (simp only [frLt_cons, frLt_nil, and_true, SV.lt, SV.ltL, true_and] <;> omega)) (by ((try simp only []); repeat first | exact HLe.refl _ | refine HLe.cons (by simp only [hget, Nat.reduceEqDiff, Nat.left_eq_add, Nat.add_eq_left, nm_ne2, nm_en2, nm_ne3, nm_en3, nm_ne4, nm_en4, nm_ne5, nm_en5, reduceIte, ↓reduceIte] <;> first | rfl | ((repeat rw [if_neg (by omega)]) <;> rfl)) ?_ | refine HLe.skip hnm (by omega) ?_ | refine HLe.frz hnm (by omega) ?_ | refine HLe.del hnm (by omega) ?_)) (by (repeat first | exact HLt.mono hnm (by simp only [] <;> omega) | refine HLt.cons (by simp only [] <;> omega) (by simp only [Tok.lt, SV.ltL, SV.lt, and_true, true_and] <;> omega) ?_)) (by simp only [] <;> omega)
  · exact hsp.elim

def WSClone : Opts := mkWE 8 [] [] [] 171 [] []
def icSClone : IC := (.seq (.seq (.ops [(.u (.mov 2 (.c .nils)))]) (.tr [0])) (.seq (.seq (.seq (.ops [(.u (.mov 3 (.s 0))), (.u (.nlq 4 false (.s 3)))]) (.tr [4, 0])) (.cond (.s 4) (.seq (.seq (.ops [(.u (.mov 2 (.c .nils)))]) (.tr [2])) .ret) .skip)) (.seq (.seq (.ops [(.u (.bsl 5 41 (.strct [(.int .i64), (.int .i64), (.int .i64)]) [])), (.u (.mov 6 (.s 0))), (.u (.app 7 41 (.strct [(.int .i64), (.int .i64), (.int .i64)]) 24 (.s 5) (.s 6))), (.u (.mov 2 (.s 7)))]) (.tr [2])) .ret)))
def rsSClone : List RV := [(.t 2)]
theorem irSClone : fnIR Tryd.prog WSClone 62 = some (icSClone, rsSClone) := by kernel_rfl
abbrev spanT : Ty := .strct [.int .i64, .int .i64, .int .i64]
def spSClone : FSpec := fun args h nx K => match args with
  | [.dat (.slice 41) d] => d.l.length ≤ 1000000000 ∧ K (.vec nx) ((nx, .arr 41 spanT d.l) :: h)
  | _ => False
theorem vSClone {E : Nat → Value} (hE : Errs2 Tryd.prog (some 171) E) : Valid Tryd.prog E (gs []) 62 spSClone := by
  refine valid_go (W := WSClone) hE allValid_bot irSClone (by decide) (fun args h nx K hsp hok hnm => ?_)
  unfold spSClone at hsp
  split at hsp
  · rename_i d
    obtain ⟨hlen, hsp⟩ := hsp
    refine ⟨by simp [WSClone, mkWE], fun Q hQ => ?_⟩
    simp only [icSClone, go_sem, goD_calls, eq_self, implies_true, Int.reduceEq, Int.reduceBEq, Int.reduceBNe, Int.reduceLE, Int.reduceLT, Int.reduceAdd, Int.reduceSub, Int.reduceMul, Int.reduceNeg, Nat.reduceMul, Nat.reduceSub, Nat.reduceLeDiff, Nat.reduceLT, Nat.reduceEqDiff, Nat.reduceAdd, reduceCtorEq, ↓reduceIte, reduceIte]
    intro b hb
    refine ⟨fun hc => ?_, fun hc => ⟨by (try simp only [List.length_nil]) <;> omega, ?_⟩⟩
    · have hl : d.l = [] := hb hc
      rw [hl] at hsp
      exact (hQ _ (fin_nils 41 spanT rfl (Nat.le_refl _) hnm (by ((try simp only []); repeat first | exact HLe.refl _ | refine HLe.cons (by simp only [hget, Nat.reduceEqDiff, Nat.left_eq_add, Nat.add_eq_left, nm_ne2, nm_en2, nm_ne3, nm_en3, nm_ne4, nm_en4, nm_ne5, nm_en5, reduceIte, ↓reduceIte] <;> first | rfl | ((repeat rw [if_neg (by omega)]) <;> rfl)) ?_ | refine HLe.skip hnm (by omega) ?_ | refine HLe.frz hnm (by omega) ?_ | refine HLe.del hnm (by omega) ?_)) hsp)).1
    · refine (hQ _ (fin_vec rfl (by simp only [hget, ↓reduceIte]; rfl) (by omega) hnm (by ((try simp only []); repeat first | exact HLe.refl _ | refine HLe.cons (by simp only [hget, Nat.reduceEqDiff, Nat.left_eq_add, Nat.add_eq_left, nm_ne2, nm_en2, nm_ne3, nm_en3, nm_ne4, nm_en4, nm_ne5, nm_en5, reduceIte, ↓reduceIte] <;> first | rfl | ((repeat rw [if_neg (by omega)]) <;> rfl)) ?_ | refine HLe.skip hnm (by omega) ?_ | refine HLe.frz hnm (by omega) ?_ | refine HLe.del hnm (by omega) ?_)) (by simpa using hsp))).1
  · exact hsp.elim

theorem validD_isNil {l : List D} (h : (validD l).isNil = true) : validD l = .nil := by
  cases e : validD l <;> simp_all [D.isNil]
/-- The same spans? -/
def keyS (d : D) : Int × Int × Int := (spE d, spF d, spT d)
def sameS (a b : List D) : Bool := a.map keyS == b.map keyS
theorem sameS_len {a b : List D} (h : a.length ≠ b.length) : sameS a b = false := by
  unfold sameS
  rw [beq_eq_false_iff_ne]
  intro e
  exact h (by simpa using congrArg List.length e)
theorem sameS_ne {a b : List D} {i : Nat} (ha : i < a.length) (hb : i < b.length) (h : keyS (a.getD i .nil) ≠ keyS (b.getD i .nil)) : sameS a b = false := by
  unfold sameS
  rw [beq_eq_false_iff_ne]
  intro e
  apply h
  have := congrArg (fun l => l[i]?) e
  simp only [List.getElem?_map, List.getElem?_eq_getElem ha, List.getElem?_eq_getElem hb, Option.map_some, Option.some.injEq] at this
  simpa [List.getD_eq_getElem?_getD, List.getElem?_eq_getElem ha, List.getElem?_eq_getElem hb] using this
theorem sameS_eq {a b : List D} (hl : a.length = b.length) (h : ∀ i, i < a.length → keyS (a.getD i .nil) = keyS (b.getD i .nil)) : sameS a b = true := by
  unfold sameS
  rw [beq_iff_eq]
  apply List.ext_getElem (by simpa using hl)
  intro i h1 h2
  simp only [List.length_map] at h1 h2
  have := h i h1
  simpa [List.getD_eq_getElem?_getD, List.getElem?_eq_getElem h1, List.getElem?_eq_getElem h2] using this
def keyB (x y : D) : Bool := (spE x == spE y) && ((spF x == spF y) && (spT x == spT y))
theorem keyB_iff (x y : D) : keyB x y = true ↔ keyS x = keyS y := by
  unfold keyB keyS
  simp
theorem keyB_not (x y : D) : keyB x y = false ↔ keyS x ≠ keyS y := by
  rw [← Bool.not_eq_true, keyB_iff]

def WSSameSpan : Opts := mkWE 24 [] [] [] 171 [] []
def icSSameSpan : IC := (.seq (.seq (.ops [(.u (.box 2 0 (.s 0))), (.u (.box 3 0 (.s 1))), (.u (.mov 4 (.c (.bool false))))]) (.tr [2, 3])) (.seq (.seq (.ops [(.u (.fad 5 0 0 (.int .i64) 41 (.s 2))), (.u (.ld 6 (.int .i64) (.s 5))), (.u (.fad 7 0 0 (.int .i64) 41 (.s 3))), (.u (.ld 8 (.int .i64) (.s 7))), (.u (.cmp 9 .eql (.s 6) (.s 8))), (.u (.mov 10 (.s 9))), (.g 10 true (some 11) (.fad 11 1 1 (.int .i64) 41 (.s 2))), (.g 10 true (some 12) (.ld 12 (.int .i64) (.s 11))), (.g 10 true (some 13) (.fad 13 1 1 (.int .i64) 41 (.s 3))), (.g 10 true (some 14) (.ld 14 (.int .i64) (.s 13))), (.g 10 true (some 15) (.cmp 15 .eql (.s 12) (.s 14))), (.u (.pck 16 (.s 10) (.s 15) (.c (.bool false)))), (.u (.mov 17 (.s 16))), (.g 17 true (some 18) (.fad 18 2 2 (.int .i64) 41 (.s 2))), (.g 17 true (some 19) (.ld 19 (.int .i64) (.s 18))), (.g 17 true (some 20) (.fad 20 2 2 (.int .i64) 41 (.s 3))), (.g 17 true (some 21) (.ld 21 (.int .i64) (.s 20))), (.g 17 true (some 22) (.cmp 22 .eql (.s 19) (.s 21))), (.u (.pck 23 (.s 17) (.s 22) (.c (.bool false)))), (.u (.mov 4 (.s 23)))]) (.tr [4])) .ret))
def rsSSameSpan : List RV := [(.t 4)]
theorem irSSameSpan : fnIR Tryd.prog WSSameSpan 110 = some (icSSameSpan, rsSSameSpan) := by kernel_rfl
def spSSameSpan : FSpec := fun args h nx K => match args with
  | [.agg [.int .i64 e, .int .i64 f, .int .i64 t], .agg [.int .i64 e', .int .i64 f', .int .i64 t']] => K (.bool ((e == e') && ((f == f') && (t == t')))) h
  | _ => False
theorem vSSameSpan {E : Nat → Value} (hE : Errs2 Tryd.prog (some 171) E) : Valid Tryd.prog E (gs []) 110 spSSameSpan := by
  refine valid_go (W := WSSameSpan) hE allValid_bot irSSameSpan (by decide) (fun args h nx K hsp hok hnm => ?_)
  unfold spSSameSpan at hsp
  split at hsp
  · rename_i e f t e' f' t'
    refine ⟨by simp [WSSameSpan, mkW, mkWE], fun Q hQ => ?_⟩
    have ret : ∀ b h' nx', HLe h h' → b = ((e == e') && ((f == f') && (t == t'))) → Q Ex.ret ⟨[(4, .bool b)], h', nx'⟩ := fun b h' nx' hh hb => by
      subst hb
      refine (hQ _ ?_).1
      exact fin_t (.bool _) rfl rfl hnm hh hsp
    simp only [icSSameSpan, go_sem, goD_calls, eq_self, implies_true, Int.reduceEq, Int.reduceBEq, Int.reduceBNe, Int.reduceLE, Int.reduceLT, Int.reduceAdd, Int.reduceSub, Int.reduceMul, Int.reduceNeg, Nat.reduceMul, Nat.reduceSub, Nat.reduceLeDiff, Nat.reduceLT, Nat.reduceEqDiff, Nat.reduceAdd, reduceCtorEq, ↓reduceIte, reduceIte]
    refine ⟨fun c => ⟨fun c' => ret _ _ _ (by ((try simp only []); repeat first | exact HLe.refl _ | refine HLe.cons (by simp only [hget, Nat.reduceEqDiff, Nat.left_eq_add, Nat.add_eq_left, nm_ne2, nm_en2, nm_ne3, nm_en3, nm_ne4, nm_en4, nm_ne5, nm_en5, reduceIte, ↓reduceIte] <;> first | rfl | ((repeat rw [if_neg (by omega)]) <;> rfl)) ?_ | refine HLe.skip hnm (by omega) ?_ | refine HLe.frz hnm (by omega) ?_ | refine HLe.del hnm (by omega) ?_)) (by rw [c, c']; rfl), fun c' => ret _ _ _ (by ((try simp only []); repeat first | exact HLe.refl _ | refine HLe.cons (by simp only [hget, Nat.reduceEqDiff, Nat.left_eq_add, Nat.add_eq_left, nm_ne2, nm_en2, nm_ne3, nm_en3, nm_ne4, nm_en4, nm_ne5, nm_en5, reduceIte, ↓reduceIte] <;> first | rfl | ((repeat rw [if_neg (by omega)]) <;> rfl)) ?_ | refine HLe.skip hnm (by omega) ?_ | refine HLe.frz hnm (by omega) ?_ | refine HLe.del hnm (by omega) ?_)) (by rw [c, c']; rfl)⟩, fun c => ret _ _ _ (by ((try simp only []); repeat first | exact HLe.refl _ | refine HLe.cons (by simp only [hget, Nat.reduceEqDiff, Nat.left_eq_add, Nat.add_eq_left, nm_ne2, nm_en2, nm_ne3, nm_en3, nm_ne4, nm_en4, nm_ne5, nm_en5, reduceIte, ↓reduceIte] <;> first | rfl | ((repeat rw [if_neg (by omega)]) <;> rfl)) ?_ | refine HLe.skip hnm (by omega) ?_ | refine HLe.frz hnm (by omega) ?_ | refine HLe.del hnm (by omega) ?_)) (by rw [c]; rfl)⟩
  · exact hsp.elim

def WSSameSpans : Opts := mkWE 29 [] [] [] 171 [] []
def icSSameSpans : IC := (.seq (.seq (.ops [(.u (.mov 4 (.c (.bool false))))]) (.tr [0, 1])) (.seq (.seq (.seq (.ops [(.u (.mov 7 (.s 0))), (.u (.len 8 false (.s 7))), (.u (.mov 9 (.s 1))), (.u (.len 10 false (.s 9))), (.u (.cmp 11 .neq (.s 8) (.s 10)))]) (.tr [11, 0, 1])) (.cond (.s 11) (.seq (.seq (.ops [(.u (.mov 4 (.c (.bool false))))]) (.tr [4])) .ret) .skip)) (.seq (.seq (.seq (.ops [(.u (.mov 5 (.c (.int .i64 0))))]) (.tr [0, 1, 5])) (.block 0 (.loop (.seq (.seq (.seq (.ops [(.u (.mov 12 (.s 5))), (.u (.mov 13 (.s 0))), (.u (.len 14 false (.s 13))), (.u (.cmp 15 .lss (.s 12) (.s 14)))]) (.tr [15, 5, 0, 1])) (.cond (.s 15) .skip (.exit 0))) (.seq (.block 1 (.seq (.seq (.rgn [] [(false, (.u (.mov 18 (.s 0)))), (false, (.u (.mov 19 (.s 5)))), (false, (.u (.iad 20 41 (.strct [(.int .i64), (.int .i64), (.int .i64)]) (.s 18) (.s 19)))), (false, (.u (.ld 21 (.strct [(.int .i64), (.int .i64), (.int .i64)]) (.s 20)))), (false, (.u (.mov 22 (.s 1)))), (false, (.u (.mov 23 (.s 5)))), (false, (.u (.iad 24 41 (.strct [(.int .i64), (.int .i64), (.int .i64)]) (.s 22) (.s 23)))), (false, (.u (.ld 25 (.strct [(.int .i64), (.int .i64), (.int .i64)]) (.s 24)))), (false, (.u (.call 26 (.c (.clo 110 [])) [(.s 21), (.s 25)] [none, none] true))), (false, (.u (.mov 6 (.s 26))))]) (.tr [6, 5, 0, 1])) (.seq (.seq (.ops [(.u (.mov 27 (.s 6))), (.u (.una 28 .not (.s 27)))]) (.tr [28, 5, 0, 1])) (.cond (.s 28) (.seq (.seq (.ops [(.u (.mov 4 (.c (.bool false))))]) (.tr [4])) .ret) .skip)))) (.seq (.ops [(.u (.mov 16 (.s 5))), (.u (.bin 17 .add .i64 (.s 16) (.c (.int .i64 1)))), (.u (.mov 5 (.s 17)))]) (.tr [0, 1, 5]))))))) (.seq (.seq (.ops [(.u (.mov 4 (.c (.bool true))))]) (.tr [4])) .ret))))
def rsSSameSpans : List RV := [(.t 4)]
theorem irSSameSpans : fnIR Tryd.prog WSSameSpans 91 = some (icSSameSpans, rsSSameSpans) := by kernel_rfl
def spSameS : FSpec := fun args h nx K => match args with
  | [.dat (.slice 41) a, .dat (.slice 41) b] => K (.bool (sameS a.l b.l)) h
  | _ => False
set_option maxHeartbeats 1000000 in
theorem vSSameSpans {E : Nat → Value} (hE : Errs2 Tryd.prog (some 171) E) : Valid Tryd.prog E (gs []) 91 spSameS := by
  refine valid_go (W := WSSameSpans) hE (allValid_bot.add (vSSameSpan hE)) irSSameSpans (by decide) (fun args h nx K hsp hok hnm => ?_)
  unfold spSameS at hsp
  split at hsp
  · rename_i a b
    obtain ⟨ha, hb, _⟩ := hok
    simp only [SV.ok] at ha hb
    obtain ⟨ha1, ha2, ha3⟩ := Wt.slice ha
    obtain ⟨hb1, hb2, hb3⟩ := Wt.slice hb
    generalize a.l = l at hsp ha1 ha2 ha3
    generalize b.l = m at hsp hb1 hb2 hb3
    subst ha1 hb1
    have hml : maxLen ≤ 9223372036854775807 := by decide
    refine ⟨by simp [WSSameSpans, mkW, mkWE], fun Q hQ => ?_⟩
    have ret : ∀ b h' nx', HLe h h' → b = sameS l m → Q Ex.ret ⟨[(4, .bool b)], h', nx'⟩ := fun b h' nx' hh hb => by
      subst hb
      refine (hQ _ ?_).1
      exact fin_t (.bool _) rfl rfl hnm hh hsp
    by_cases hll : l.length = m.length
    · have c1 : ((l.length : Int) != (m.length : Int)) = false := by rw [bne_eq_false_iff_eq]; omega
      simp only [icSSameSpans, go_sem, goD_calls, eq_self, implies_true, Int.reduceEq, Int.reduceBEq, Int.reduceBNe, Int.reduceLE, Int.reduceLT, Int.reduceAdd, Int.reduceSub, Int.reduceMul, Int.reduceNeg, Nat.reduceMul, Nat.reduceSub, Nat.reduceLeDiff, Nat.reduceLT, Nat.reduceEqDiff, Nat.reduceAdd, reduceCtorEq, ↓reduceIte, reduceIte, c1]
      refine go_loop (α := { i : Nat // i ≤ l.length ∧ ∀ j, j < i → keyS (l.getD j .nil) = keyS (m.getD j .nil) }) (I := fun i => { f := [(0, .dat (.slice 41) (.list l)), (1, .dat (.slice 41) (.list m)), (5, .int .i64 i.1)], h := h, nx := nx }) (μ := fun i => l.length - i.1) _ _ _ ⟨0, by omega, fun j hj => by omega⟩ ?_ (fun i B hB => ?_)
      · refine leq_id ?_ (by (simp only [frLt_cons, frLt_nil, and_true, SV.lt, SV.ltL, true_and] <;> omega)) (by ((try simp only []); repeat first | exact HLe.refl _ | refine HLe.cons (by simp only [hget, Nat.reduceEqDiff, Nat.left_eq_add, Nat.add_eq_left, nm_ne2, nm_en2, nm_ne3, nm_en3, nm_ne4, nm_en4, nm_ne5, nm_en5, reduceIte, ↓reduceIte] <;> first | rfl | ((repeat rw [if_neg (by omega)]) <;> rfl)) ?_ | refine HLe.skip hnm (by omega) ?_ | refine HLe.frz hnm (by omega) ?_ | refine HLe.del hnm (by omega) ?_)) (by (repeat first | exact HLt.mono hnm (by simp only [] <;> omega) | refine HLt.cons (by simp only [] <;> omega) (by simp only [Tok.lt, SV.ltL, SV.lt, and_true, true_and] <;> omega) ?_)) (by simp only [] <;> omega)
        simp only [frEq_cons, frEq_nil, frIn_cons, frIn_nil, and_true, fget_cons, Nat.reduceEqDiff, reduceIte, ↓reduceIte, true_and, SV.ren, SV.renL, ren1]
        rfl
      · obtain ⟨i, hi, hs⟩ := i
        by_cases hil : i < l.length
        · have c2 : decide ((i : Int) < (l.length : Int)) = true := decide_eq_true (by omega)
          simp (maxSteps := 1000000) only [go_sem, goD_calls, eq_self, implies_true, Int.reduceEq, Int.reduceBEq, Int.reduceBNe, Int.reduceLE, Int.reduceLT, Int.reduceAdd, Int.reduceSub, Int.reduceMul, Int.reduceNeg, Nat.reduceMul, Nat.reduceSub, Nat.reduceLeDiff, Nat.reduceLT, Nat.reduceEqDiff, Nat.reduceAdd, reduceCtorEq, ↓reduceIte, reduceIte, c2, Int.toNat_natCast, spSSameSpan, min_i64, max_i64]
          have e : ((((l.getD i .nil).fld 0).i == ((m.getD i .nil).fld 0).i) && ((((l.getD i .nil).fld 1).i == ((m.getD i .nil).fld 1).i) && (((l.getD i .nil).fld 2).i == ((m.getD i .nil).fld 2).i))) = keyB (l.getD i .nil) (m.getD i .nil) := rfl
          rw [e]
          refine ⟨by omega, by omega, fun c => ?_, fun c => ?_⟩
          · have c' : keyB (l.getD i .nil) (m.getD i .nil) = false := by simpa using c
            exact ret _ _ _ (by ((try simp only []); repeat first | exact HLe.refl _ | refine HLe.cons (by simp only [hget, Nat.reduceEqDiff, Nat.left_eq_add, Nat.add_eq_left, nm_ne2, nm_en2, nm_ne3, nm_en3, nm_ne4, nm_en4, nm_ne5, nm_en5, reduceIte, ↓reduceIte] <;> first | rfl | ((repeat rw [if_neg (by omega)]) <;> rfl)) ?_ | refine HLe.skip hnm (by omega) ?_ | refine HLe.frz hnm (by omega) ?_ | refine HLe.del hnm (by omega) ?_)) (sameS_ne hil (by omega) ((keyB_not _ _).1 c')).symm
          · have c' : keyB (l.getD i .nil) (m.getD i .nil) = true := by simpa using c
            refine ⟨by omega, hB _ ⟨i + 1, by omega, fun j hj => ?_⟩ (by simp only []; omega) ?_⟩
            · by_cases e : j = i
              · subst e; exact (keyB_iff _ _).1 c'
              · exact hs j (by omega)
            · refine leq_id ?_ (by (simp only [frLt_cons, frLt_nil, and_true, SV.lt, SV.ltL, true_and] <;> omega)) (by ((try simp only []); repeat first | exact HLe.refl _ | refine HLe.cons (by simp only [hget, Nat.reduceEqDiff, Nat.left_eq_add, Nat.add_eq_left, nm_ne2, nm_en2, nm_ne3, nm_en3, nm_ne4, nm_en4, nm_ne5, nm_en5, reduceIte, ↓reduceIte] <;> first | rfl | ((repeat rw [if_neg (by omega)]) <;> rfl)) ?_ | refine HLe.skip hnm (by omega) ?_ | refine HLe.frz hnm (by omega) ?_ | refine HLe.del hnm (by omega) ?_)) (by (repeat first | exact HLt.mono hnm (by simp only [] <;> omega) | refine HLt.cons (by simp only [] <;> omega) (by simp only [Tok.lt, SV.ltL, SV.lt, and_true, true_and] <;> omega) ?_)) (by simp only [] <;> omega)
              simp only [frEq_cons, frEq_nil, frIn_cons, frIn_nil, and_true, fget_cons, Nat.reduceEqDiff, reduceIte, ↓reduceIte, true_and, SV.ren, SV.renL, ren1]
              simp
        · have c2 : decide ((i : Int) < (l.length : Int)) = false := decide_eq_false (by omega)
          simp only [go_sem, goD_calls, eq_self, implies_true, Int.reduceEq, Int.reduceBEq, Int.reduceBNe, Int.reduceLE, Int.reduceLT, Int.reduceAdd, Int.reduceSub, Int.reduceMul, Int.reduceNeg, Nat.reduceMul, Nat.reduceSub, Nat.reduceLeDiff, Nat.reduceLT, Nat.reduceEqDiff, Nat.reduceAdd, reduceCtorEq, ↓reduceIte, reduceIte, c2]
          exact ret _ _ _ (by ((try simp only []); repeat first | exact HLe.refl _ | refine HLe.cons (by simp only [hget, Nat.reduceEqDiff, Nat.left_eq_add, Nat.add_eq_left, nm_ne2, nm_en2, nm_ne3, nm_en3, nm_ne4, nm_en4, nm_ne5, nm_en5, reduceIte, ↓reduceIte] <;> first | rfl | ((repeat rw [if_neg (by omega)]) <;> rfl)) ?_ | refine HLe.skip hnm (by omega) ?_ | refine HLe.frz hnm (by omega) ?_ | refine HLe.del hnm (by omega) ?_)) (sameS_eq hll (fun j hj => hs j (by omega))).symm
    · have c1 : ((l.length : Int) != (m.length : Int)) = true := by rw [bne_iff_ne]; omega
      simp only [icSSameSpans, go_sem, goD_calls, eq_self, implies_true, Int.reduceEq, Int.reduceBEq, Int.reduceBNe, Int.reduceLE, Int.reduceLT, Int.reduceAdd, Int.reduceSub, Int.reduceMul, Int.reduceNeg, Nat.reduceMul, Nat.reduceSub, Nat.reduceLeDiff, Nat.reduceLT, Nat.reduceEqDiff, Nat.reduceAdd, reduceCtorEq, ↓reduceIte, reduceIte, c1]
      exact ret _ _ _ (by ((try simp only []); repeat first | exact HLe.refl _ | refine HLe.cons (by simp only [hget, Nat.reduceEqDiff, Nat.left_eq_add, Nat.add_eq_left, nm_ne2, nm_en2, nm_ne3, nm_en3, nm_ne4, nm_en4, nm_ne5, nm_en5, reduceIte, ↓reduceIte] <;> first | rfl | ((repeat rw [if_neg (by omega)]) <;> rfl)) ?_ | refine HLe.skip hnm (by omega) ?_ | refine HLe.frz hnm (by omega) ?_ | refine HLe.del hnm (by omega) ?_)) (sameS_len hll).symm
  · exact hsp.elim

def WSSpan : Opts := mkWE 10 [] [] [] 171 [] []
def icSSpan : IC := (.seq (.seq (.ops [(.u (.box 1 0 (.s 0))), (.u (.alc 2 [(.int .i64 0), (.int .i64 0), (.int .i64 0)]))]) (.tr [1, 2])) (.seq (.seq (.ops [(.u (.fad 3 0 0 (.int .i64) 41 (.s 1))), (.u (.ld 4 (.int .i64) (.s 3))), (.u (.fad 5 1 1 (.int .i64) 41 (.s 1))), (.u (.ld 6 (.int .i64) (.s 5))), (.u (.fad 7 2 2 (.int .i64) 41 (.s 1))), (.u (.ld 8 (.int .i64) (.s 7))), (.u (.bld 9 [[(.int .i64 0)], [(.int .i64 0)], [(.int .i64 0)]] [(0, (.s 4)), (1, (.s 6)), (2, (.s 8))])), (.u (.st (.strct [(.int .i64), (.int .i64), (.int .i64)]) (.s 2) (.s 9)))]) (.tr [2])) .ret))
def rsSSpan : List RV := [(.c 2 (.strct [(.int .i64), (.int .i64), (.int .i64)]))]
theorem irSSpan : fnIR Tryd.prog WSSpan 70 = some (icSSpan, rsSSpan) := by kernel_rfl
def spSSpan : FSpec := fun args h nx K => match args with
  | [.agg [.int .i64 e, .int .i64 f, .int .i64 t]] => K (.agg [.int .i64 e, .int .i64 f, .int .i64 t]) h
  | _ => False
theorem vSSpan {E : Nat → Value} (hE : Errs2 Tryd.prog (some 171) E) : Valid Tryd.prog E (gs []) 70 spSSpan := by
  refine valid_go (W := WSSpan) hE allValid_bot irSSpan (by decide) (fun args h nx K hsp hok hnm => ?_)
  unfold spSSpan at hsp
  split at hsp
  · rename_i e f t
    refine ⟨by simp [WSSpan, mkW, mkWE], fun Q hQ => ?_⟩
    simp only [icSSpan, go_sem, goD_calls, eq_self, implies_true, Int.reduceEq, Int.reduceBEq, Int.reduceBNe, Int.reduceLE, Int.reduceLT, Int.reduceAdd, Int.reduceSub, Int.reduceMul, Int.reduceNeg, Nat.reduceMul, Nat.reduceSub, Nat.reduceLeDiff, Nat.reduceLT, Nat.reduceEqDiff, Nat.reduceAdd, reduceCtorEq, ↓reduceIte, reduceIte]
    exact (hQ _ (fin_c _ (by simp only [go_sem, goD_calls, eq_self, implies_true, Int.reduceEq, Int.reduceBEq, Int.reduceBNe, Int.reduceLE, Int.reduceLT, Int.reduceAdd, Int.reduceSub, Int.reduceMul, Int.reduceNeg, Nat.reduceMul, Nat.reduceSub, Nat.reduceLeDiff, Nat.reduceLT, Nat.reduceEqDiff, Nat.reduceAdd, reduceCtorEq, ↓reduceIte, reduceIte, evR] <;> rfl) trivial rfl hnm (by ((try simp only []); repeat first | exact HLe.refl _ | refine HLe.cons (by simp only [hget, Nat.reduceEqDiff, Nat.left_eq_add, Nat.add_eq_left, nm_ne2, nm_en2, nm_ne3, nm_en3, nm_ne4, nm_en4, nm_ne5, nm_en5, reduceIte, ↓reduceIte] <;> first | rfl | ((repeat rw [if_neg (by omega)]) <;> rfl)) ?_ | refine HLe.skip hnm (by omega) ?_ | refine HLe.frz hnm (by omega) ?_ | refine HLe.del hnm (by omega) ?_)) hsp)).1
  · exact hsp.elim

theorem span_eta {E : Nat → Value} {d : D} (h : Wt Tryd.prog E spanT d) : D.node [.int (spE d), .int (spF d), .int (spT d)] = d := by
  obtain ⟨H, cs, h⟩ := h
  cases h with | strct h =>
  cases h with | cons h1 h2 =>
  cases h2 with | cons h3 h4 =>
  cases h4 with | cons h5 h6 =>
  cases h6
  cases h1
  cases h3
  cases h5
  rfl
theorem ty_span : tyOf Tryd.prog 8 41 = spanT := by kernel_rfl

def WSSpans : Opts := mkWE 26 [] [] [] 171 [] []
def icSSpans : IC := (.seq (.seq (.ops [(.u (.mov 2 (.c .nils)))]) (.tr [0])) (.seq (.seq (.seq (.ops [(.u (.mov 5 (.s 0))), (.u (.len 6 false (.s 5))), (.u (.cmp 7 .eql (.s 6) (.c (.int .i64 0))))]) (.tr [7, 0])) (.cond (.s 7) (.seq (.seq (.ops [(.u (.mov 2 (.c .nils)))]) (.tr [2])) .ret) .skip)) (.seq (.seq (.ops [(.u (.mov 8 (.s 0))), (.u (.len 9 false (.s 8))), (.u (.mk 10 41 (.strct [(.int .i64), (.int .i64), (.int .i64)]) 24 (.node [(.int 0), (.int 0), (.int 0)]) (.c (.int .i64 0)) (.s 9))), (.u (.mov 3 (.s 10)))]) (.tr [0, 3])) (.seq (.seq (.seq (.ops [(.u (.mov 4 (.c (.int .i64 0))))]) (.tr [0, 4, 3])) (.block 0 (.loop (.seq (.seq (.seq (.ops [(.u (.mov 11 (.s 4))), (.u (.mov 12 (.s 0))), (.u (.len 13 false (.s 12))), (.u (.cmp 14 .lss (.s 11) (.s 13)))]) (.tr [14, 4, 0, 3])) (.cond (.s 14) .skip (.exit 0))) (.seq (.block 1 (.seq (.ops [(.u (.mov 17 (.s 3))), (.u (.mov 18 (.s 0))), (.u (.mov 19 (.s 4))), (.u (.iad 20 41 (.strct [(.int .i64), (.int .i64), (.int .i64)]) (.s 18) (.s 19))), (.u (.ld 21 (.strct [(.int .i64), (.int .i64), (.int .i64)]) (.s 20))), (.u (.call 22 (.c (.clo 70 [])) [(.s 21)] [none] true)), (.u (.bsl 23 41 (.strct [(.int .i64), (.int .i64), (.int .i64)]) [(.s 22)])), (.u (.app 24 41 (.strct [(.int .i64), (.int .i64), (.int .i64)]) 24 (.s 17) (.s 23))), (.u (.mov 3 (.s 24)))]) (.tr [4, 0, 3]))) (.seq (.ops [(.u (.mov 15 (.s 4))), (.u (.bin 16 .add .i64 (.s 15) (.c (.int .i64 1)))), (.u (.mov 4 (.s 16)))]) (.tr [0, 4, 3]))))))) (.seq (.seq (.ops [(.u (.mov 25 (.s 3))), (.u (.mov 2 (.s 25)))]) (.tr [2])) .ret)))))
def rsSSpans : List RV := [(.t 2)]
theorem irSSpans : fnIR Tryd.prog WSSpans 29 = some (icSSpans, rsSSpans) := by kernel_rfl
set_option maxHeartbeats 1000000 in
theorem vSSpans {E : Nat → Value} (hE : Errs2 Tryd.prog (some 171) E) : Valid Tryd.prog E (gs []) 29 spSClone := by
  refine valid_go (W := WSSpans) hE (allValid_bot.add (vSSpan hE)) irSSpans (by decide) (fun args h nx K hsp hok hnm => ?_)
  unfold spSClone at hsp
  split at hsp
  · rename_i d
    obtain ⟨hlen, hsp⟩ := hsp
    obtain ⟨hd, _⟩ := hok
    simp only [SV.ok] at hd
    obtain ⟨hd1, hd2, hd3⟩ := Wt.slice hd
    generalize d.l = l at hsp hd1 hd2 hd3 hlen
    subst hd1
    have hml : maxLen ≤ 9223372036854775807 := by decide
    refine ⟨by simp [WSSpans, mkW, mkWE], fun Q hQ => ?_⟩
    by_cases h0 : l.length = 0
    · have c1 : ((l.length : Int) == 0) = true := by rw [h0]; rfl
      have : l = [] := List.eq_nil_of_length_eq_zero h0
      rw [this] at hsp
      simp only [icSSpans, go_sem, goD_calls, eq_self, implies_true, Int.reduceEq, Int.reduceBEq, Int.reduceBNe, Int.reduceLE, Int.reduceLT, Int.reduceAdd, Int.reduceSub, Int.reduceMul, Int.reduceNeg, Nat.reduceMul, Nat.reduceSub, Nat.reduceLeDiff, Nat.reduceLT, Nat.reduceEqDiff, Nat.reduceAdd, reduceCtorEq, ↓reduceIte, reduceIte, c1]
      refine (hQ _ ?_).1
      exact fin_nils 41 spanT rfl (Nat.le_refl _) hnm (by ((try simp only []); repeat first | exact HLe.refl _ | refine HLe.cons (by simp only [hget, Nat.reduceEqDiff, Nat.left_eq_add, Nat.add_eq_left, nm_ne2, nm_en2, nm_ne3, nm_en3, nm_ne4, nm_en4, nm_ne5, nm_en5, reduceIte, ↓reduceIte] <;> first | rfl | ((repeat rw [if_neg (by omega)]) <;> rfl)) ?_ | refine HLe.skip hnm (by omega) ?_ | refine HLe.frz hnm (by omega) ?_ | refine HLe.del hnm (by omega) ?_)) hsp
    · have c1 : ((l.length : Int) == 0) = false := by rw [beq_eq_false_iff_ne]; omega
      simp only [icSSpans, go_sem, goD_calls, eq_self, implies_true, Int.reduceEq, Int.reduceBEq, Int.reduceBNe, Int.reduceLE, Int.reduceLT, Int.reduceAdd, Int.reduceSub, Int.reduceMul, Int.reduceNeg, Nat.reduceMul, Nat.reduceSub, Nat.reduceLeDiff, Nat.reduceLT, Nat.reduceEqDiff, Nat.reduceAdd, reduceCtorEq, ↓reduceIte, reduceIte, c1, Int.toNat_natCast, List.replicate_zero]
      refine ⟨by omega, ?_⟩
      refine go_loop (α := { i : Nat // i ≤ l.length }) (I := fun i => { f := [(0, .dat (.slice 41) (.list l)), (4, .int .i64 i.1), (3, .vec nx)], h := (nx, .arr 41 spanT (l.take i.1)) :: h, nx := nx + 1 }) (μ := fun i => l.length - i.1) _ _ _ ⟨0, by omega⟩ ?_ (fun i B hB => ?_)
      · refine leq_id ?_ (by (simp only [frLt_cons, frLt_nil, and_true, SV.lt, SV.ltL, true_and] <;> omega)) (by ((try simp only []); repeat first | exact HLe.refl _ | refine HLe.cons (by simp only [hget, Nat.reduceEqDiff, Nat.left_eq_add, Nat.add_eq_left, nm_ne2, nm_en2, nm_ne3, nm_en3, nm_ne4, nm_en4, nm_ne5, nm_en5, reduceIte, ↓reduceIte] <;> first | rfl | ((repeat rw [if_neg (by omega)]) <;> rfl)) ?_ | refine HLe.skip hnm (by omega) ?_ | refine HLe.frz hnm (by omega) ?_ | refine HLe.del hnm (by omega) ?_)) (by (repeat first | exact HLt.mono hnm (by simp only [] <;> omega) | refine HLt.cons (by simp only [] <;> omega) (by simp only [Tok.lt, SV.ltL, SV.lt, and_true, true_and] <;> omega) ?_)) (by simp only [] <;> omega)
        simp only [frEq_cons, frEq_nil, frIn_cons, frIn_nil, and_true, fget_cons, Nat.reduceEqDiff, reduceIte, ↓reduceIte, true_and, SV.ren, SV.renL, ren1]
        rfl
      · obtain ⟨i, hi⟩ := i
        by_cases hil : i < l.length
        · have c2 : decide ((i : Int) < (l.length : Int)) = true := decide_eq_true (by omega)
          have hx : l.getD i .nil = l[i] := by rw [List.getD_eq_getElem?_getD, List.getElem?_eq_getElem hil]; rfl
          have hw := hd3 _ (List.getElem_mem hil)
          rw [ty_span, ← hx] at hw
          have het := span_eta hw
          unfold spE spF spT at het
          simp (maxSteps := 1000000) only [go_sem, goD_calls, eq_self, implies_true, Int.reduceEq, Int.reduceBEq, Int.reduceBNe, Int.reduceLE, Int.reduceLT, Int.reduceAdd, Int.reduceSub, Int.reduceMul, Int.reduceNeg, Nat.reduceMul, Nat.reduceSub, Nat.reduceLeDiff, Nat.reduceLT, Nat.reduceEqDiff, Nat.reduceAdd, reduceCtorEq, ↓reduceIte, reduceIte, c2, Int.toNat_natCast, spSSpan, min_i64, max_i64, het]
          refine ⟨by omega, by rw [List.length_take]; omega, by omega, hB _ ⟨i + 1, by omega⟩ (by simp only []; omega) ?_⟩
          have hte : l.take i ++ [l.getD i .nil] = l.take (i + 1) := by rw [hx, List.take_succ_eq_append_getElem hil]
          rw [hte]
          refine leq_ren1 nx (nx + 66) (by omega) (by simp only []; omega) ?_ (by (simp only [frLt_cons, frLt_nil, and_true, SV.lt, SV.ltL, true_and] <;> omega)) ?_ (by (repeat first | exact HLt.mono hnm (by simp only [] <;> omega) | refine HLt.cons (by simp only [] <;> omega) (by simp only [Tok.lt, SV.ltL, SV.lt, and_true, true_and] <;> omega) ?_)) (by simp only [] <;> omega)
          · simp only [frEq_cons, frEq_nil, frIn_cons, frIn_nil, and_true, fget_cons, Nat.reduceEqDiff, reduceIte, ↓reduceIte, true_and, SV.ren, SV.renL, ren1]
            simp
          · exact HRen.cons (by rw [ren1_eq]; simp [hget, Tok.ren]) (HRen.base hnm (Nat.le_refl _) (by ((try simp only []); repeat first | exact HLe.refl _ | refine HLe.cons (by simp only [hget, Nat.reduceEqDiff, Nat.left_eq_add, Nat.add_eq_left, nm_ne2, nm_en2, nm_ne3, nm_en3, nm_ne4, nm_en4, nm_ne5, nm_en5, reduceIte, ↓reduceIte] <;> first | rfl | ((repeat rw [if_neg (by omega)]) <;> rfl)) ?_ | refine HLe.skip hnm (by omega) ?_ | refine HLe.frz hnm (by omega) ?_ | refine HLe.del hnm (by omega) ?_)))
        · obtain rfl : i = l.length := by omega
          have c2 : decide ((l.length : Int) < (l.length : Int)) = false := decide_eq_false (by omega)
          simp only [go_sem, goD_calls, eq_self, implies_true, Int.reduceEq, Int.reduceBEq, Int.reduceBNe, Int.reduceLE, Int.reduceLT, Int.reduceAdd, Int.reduceSub, Int.reduceMul, Int.reduceNeg, Nat.reduceMul, Nat.reduceSub, Nat.reduceLeDiff, Nat.reduceLT, Nat.reduceEqDiff, Nat.reduceAdd, reduceCtorEq, ↓reduceIte, reduceIte, c2]
          refine (hQ _ (fin_vec rfl ?_ (Nat.le_refl _) hnm (by ((try simp only []); repeat first | exact HLe.refl _ | refine HLe.cons (by simp only [hget, Nat.reduceEqDiff, Nat.left_eq_add, Nat.add_eq_left, nm_ne2, nm_en2, nm_ne3, nm_en3, nm_ne4, nm_en4, nm_ne5, nm_en5, reduceIte, ↓reduceIte] <;> first | rfl | ((repeat rw [if_neg (by omega)]) <;> rfl)) ?_ | refine HLe.skip hnm (by omega) ?_ | refine HLe.frz hnm (by omega) ?_ | refine HLe.del hnm (by omega) ?_)) hsp)).1
          simp only [hget, if_true, List.take_length]
  · exact hsp.elim
end Go.Proofs.YtmjenjccinfbaaaDoor
