/- Chapter 15: the last of a group. -/
import Derived.Test.YtmjenjccinfbaaaDoorPntK
import Derived.Test.YtmjenjccinfbaaaDoorIter
import Derived.Test.YtmjenjccinfbaaaDoorThaw
namespace Go.Proofs.YtmjenjccinfbaaaDoor
set_option linter.unusedVariables false
set_option linter.unusedSimpArgs false
open Go Go.Fw
attribute [local go_sem] walkSet evMdl evMupD evMup evLkp frpL eltP eltV eltK preF preP prePt prePd frzP evNlq ev frOf oget ogets argSs argS evCat evMm frzL evBin evWrp evShf evCmp evUna evNil evBeq evLd evSt evFad evIad evAad evLen evSln evEls evApp evParts evSlc evNlc evMif evPck evFld evBld evTas evIfq evSeq evSl0 evBxf evAgl evAgq evBsf hget hset hdel cellAt arrAt setCellAt setArrAt takeC lenC svCells SV.okc SV.one ldSV Fw.isAgg explode explodeL toD toDL toD1 Ty.size Ty.sizeL frz1 Fr.sub Heap.sub Tok.sub SV.sub SV.subL

/-- The last of a group up to a number, of the first so many. -/
def lastN (l : List D) (g n : Int) : Nat → Int
  | 0 => 0
  | k + 1 => if ((l.getD k .nil).fld 1).i = g ∧ ((l.getD k .nil).fld 0).i ≤ n then ((l.getD k .nil).fld 0).i else lastN l g n k
theorem lastN_succ (l : List D) (g n : Int) (k : Nat) : lastN l g n (k + 1) = if ((l.getD k .nil).fld 1).i = g ∧ ((l.getD k .nil).fld 0).i ≤ n then ((l.getD k .nil).fld 0).i else lastN l g n k := rfl
/-- What Backward hands on. -/
def backI (l : List D) (k : Nat) : List SV × Heap := ([.int .i64 (k : Int), .agg [.int .i64 ((l.getD k .nil).fld 0).i, .int .i64 ((l.getD k .nil).fld 1).i, .bool ((l.getD k .nil).fld 2).b]], [])
def backL (l : List D) : List (List SV × Heap) := (List.range l.length).map fun j => backI l (l.length - 1 - j)
theorem backL_len (l : List D) : (backL l).length = l.length := by unfold backL; rw [List.length_map, List.length_range]
theorem backL_at (l : List D) {j : Nat} (h : j < l.length) : (backL l)[j]? = some (backI l (l.length - 1 - j)) := by
  unfold backL
  rw [List.getElem?_map, List.getElem?_range h]
  rfl
def WPBack1 : Opts := mkWE 19 [] [] [] 171 [] []
def icPBack1 : IC := (.seq (.seq (.ops [(.u (.ld 4 (.slice 112) (.s 1))), (.u (.len 5 false (.s 4))), (.u (.bin 6 .sub .i64 (.s 5) (.c (.int .i64 1)))), (.u (.mov 3 (.s 6)))]) (.tr [0, 1, 3])) (.block 0 (.loop (.seq (.seq (.seq (.ops [(.u (.mov 7 (.s 3))), (.u (.cmp 8 .geq (.s 7) (.c (.int .i64 0))))]) (.tr [8, 3, 0, 1])) (.cond (.s 8) .skip (.exit 0))) (.seq (.block 1 (.seq (.seq (.ops [(.u (.mov 11 (.s 0))), (.u (.mov 12 (.s 3))), (.u (.ld 13 (.slice 112) (.s 1))), (.u (.mov 14 (.s 3))), (.u (.iad 15 112 (.strct [(.int .i64), (.int .i64), .bool]) (.s 13) (.s 14))), (.u (.ld 16 (.strct [(.int .i64), (.int .i64), .bool]) (.s 15))), (.u (.call 17 (.s 11) [(.s 12), (.s 16)] [none, none] true)), (.u (.una 18 .not (.s 17)))]) (.tr [18, 3, 0, 1])) (.cond (.s 18) .ret .skip))) (.seq (.ops [(.u (.mov 9 (.s 3))), (.u (.bin 10 .sub .i64 (.s 9) (.c (.int .i64 1)))), (.u (.mov 3 (.s 10)))]) (.tr [0, 1, 3])))))))
def rsPBack1 : List RV := []
theorem irPBack1 : fnIR Tryd.prog WPBack1 101 = some (icPBack1, rsPBack1) := by kernel_rfl
def WPBack : Opts := mkWE 4 [] [] [] 171 [] [1]
def icPBack : IC := (.seq (.seq (.ops [(.u (.bxf 1 (.slice 112) none (.s 0))), (.u (.mov 2 (.c (.raw .nilFunc))))]) (.tr [1])) (.seq (.seq (.ops [(.u (.clo 3 101 [(.s 1)])), (.u (.mov 2 (.s 3)))]) (.tr [2])) .ret))
def rsPBack : List RV := [(.t 2)]
theorem irPBack : fnIR Tryd.prog WPBack 73 = some (icPBack, rsPBack) := by kernel_rfl
def WPLastOf : Opts := mkWE 28 [] [] [] 171 [] []
def icPLastOf : IC := (.seq (.seq (.ops [(.u (.box 4 0 (.s 1))), (.u (.box 5 0 (.s 2))), (.u (.alc 6 [(.int .i64 0)]))]) (.tr [0, 15, 4, 5, 6])) (.seq (.seq (.seq (.ops [(.u (.mov 9 (.s 0))), (.u (.nlc 10 (.s 9))), (.u (.fad 11 1 1 (.slice 112) 110 (.s 10))), (.u (.ld 12 (.slice 112) (.s 11))), (.u (.call 13 (.c (.clo 73 [])) [(.s 12)] [(some 112)] true))]) (.tr [13, 15, 4, 5, 6])) (.block 0 (.seq (.rng (.s 13) [14, 15] (.seq (.ops [(.u (.alc 8 [(.int .i64 0), (.int .i64 0), (.bool false)])), (.u (.st (.strct [(.int .i64), (.int .i64), .bool]) (.s 8) (.s 15)))]) (.tr [4, 5, 8, 6])) (.block 1 (.seq (.seq (.ops [(.u (.fad 16 1 1 (.int .i64) 112 (.s 8))), (.u (.ld 17 (.int .i64) (.s 16))), (.u (.ld 18 (.int .i64) (.s 4))), (.u (.cmp 19 .eql (.s 17) (.s 18))), (.u (.mov 20 (.s 19))), (.g 20 true (some 21) (.fad 21 0 0 (.int .i64) 112 (.s 8))), (.g 20 true (some 22) (.ld 22 (.int .i64) (.s 21))), (.g 20 true (some 23) (.ld 23 (.int .i64) (.s 5))), (.g 20 true (some 24) (.cmp 24 .leq (.s 22) (.s 23))), (.u (.pck 25 (.s 20) (.s 24) (.c (.bool false))))]) (.tr [25, 8, 6])) (.cond (.s 25) (.seq (.seq (.ops [(.u (.fad 26 0 0 (.int .i64) 112 (.s 8))), (.u (.ld 27 (.int .i64) (.s 26))), (.u (.st (.int .i64) (.s 6) (.s 27)))]) (.tr [6])) .ret) .skip)))) (.tr [6])))) (.seq (.seq (.ops [(.u (.st (.int .i64) (.s 6) (.c (.int .i64 0))))]) (.tr [6])) .ret)))
def rsPLastOf : List RV := [(.c 6 (.int .i64))]
theorem irPLastOf : fnIR Tryd.prog WPLastOf 36 = some (icPLastOf, rsPLastOf) := by kernel_rfl
attribute [local go_sem] walkY
abbrev sentRT : Ty := .slice 112
def backIt : ItS := fun caps items => ∃ l : List D, caps = [.elt sentRT (.list l)] ∧ l.length ≤ 1000000 ∧ items = backL l
set_option maxHeartbeats 4000000 in
set_option maxRecDepth 8000 in
theorem it_PBack1g {E : Nat → Value} (hE : Errs2 Tryd.prog (some 171) E) : ItValid Tryd.prog E (gs []) 101 backIt := by
  rintro caps items ⟨l, rfl, hlen, rfl⟩
  refine it_of (W := WPBack1) (caps := [.elt sentRT (.list l)]) hE allValid_bot irPBack1 (by kernel_rfl) (show 2 ≤ WPBack1.N by decide) (show _ ∧ _ from ⟨trivial, trivial⟩) (fun x hx ρ ρ' H v hd => ?_) (fun yv hok => ?_)
  · rw [List.mem_singleton] at hx
    subst hx
    cases hd with | elt h1 h2 h3 => exact .elt h1 h2 h3
  have hnm : HLt ([] : Heap) 0 := fun n t h => by cases h
  show goY _ _ _ _ _ _ [] _ _
  simp only [icPBack1, frOf, go_sem, goD_calls, eq_self, implies_true, Int.reduceEq, Int.reduceBEq, Int.reduceBNe, Int.reduceLE, Int.reduceLT, Int.reduceAdd, Int.reduceSub, Int.reduceMul, Int.reduceNeg, Nat.reduceMul, Nat.reduceSub, Nat.reduceLeDiff, Nat.reduceLT, Nat.reduceEqDiff, Nat.reduceAdd, reduceCtorEq, ↓reduceIte, reduceIte]
  have hml : l.length ≤ 1000000 := hlen
  refine ⟨by rw [min_i64, max_i64]; omega, ?_⟩
  refine goY_loop (α := { j : Nat // j ≤ l.length }) (I := fun j => { f := [(3, .int .i64 ((l.length : Int) - 1 - j.1)), (1, .elt sentRT (.list l)), (0, .raw yv)], h := [], nx := 0 }) (ct := fun j => some j.1) (μ := fun j => l.length - j.1) _ _ _ _ _ ⟨0, by omega⟩ ?_ rfl (fun j B hB => ?_)
  · refine leq_id (by simp only [frEq_cons, frEq_nil, frIn_cons, frIn_nil, and_true, fget_cons, Nat.reduceEqDiff, reduceIte, ↓reduceIte, true_and, SV.ren, SV.renL, ren1] <;> (try rfl) <;> (try simp)) (by (simp only [frLt_cons, frLt_nil, and_true, SV.lt, SV.ltL, true_and] <;> omega)) (HLe.refl _) hnm (Nat.le_refl _)
  obtain ⟨j, hj⟩ := j
  simp only at hB ⊢
  by_cases hjl : j < l.length
  · have c1 : decide ((0 : Int) ≤ (l.length : Int) - 1 - (j : Int)) = true := decide_eq_true (by omega)
    have ei : ((l.length : Int) - 1 - (j : Int)).toNat = l.length - 1 - j := by omega
    have ej : (l.length : Int) - 1 - (j : Int) = ((l.length - 1 - j : Nat) : Int) := by omega
    simp only [go_sem, goD_calls, eq_self, implies_true, Int.reduceEq, Int.reduceBEq, Int.reduceBNe, Int.reduceLE, Int.reduceLT, Int.reduceAdd, Int.reduceSub, Int.reduceMul, Int.reduceNeg, Nat.reduceMul, Nat.reduceSub, Nat.reduceLeDiff, Nat.reduceLT, Nat.reduceEqDiff, Nat.reduceAdd, reduceCtorEq, ↓reduceIte, reduceIte, c1, ei, min_i64, max_i64]
    refine ⟨by omega, ?_⟩
    refine ⟨j, backI l (l.length - 1 - j), rfl, backL_at l hjl, rfl, rfl, rfl, ?_, ?_, ?_⟩
    · simp only [frOf, backI, ej]
      refine leq_id (by simp only [frEq_cons, frEq_nil, frIn_cons, frIn_nil, and_true, fget_cons, Nat.reduceEqDiff, reduceIte, ↓reduceIte, true_and, SV.ren, SV.renL, ren1] <;> (try rfl) <;> (try simp)) (by (simp only [frLt_cons, frLt_nil, and_true, SV.lt, SV.ltL, true_and] <;> omega)) (by ((try simp only []); repeat first | exact HLe.refl _ | refine HLe.cons (by simp only [hget, Nat.reduceEqDiff, Nat.left_eq_add, Nat.add_eq_left, nm_ne2, nm_en2, nm_ne3, nm_en3, nm_ne4, nm_en4, nm_ne5, nm_en5, reduceIte, ↓reduceIte] <;> first | rfl | ((repeat rw [if_neg (by omega)]) <;> rfl)) ?_ | refine HLe.skip hnm (by omega) ?_ | refine HLe.frz hnm (by omega) ?_ | refine HLe.del hnm (by omega) ?_)) (by (repeat first | exact HLt.mono hnm (by simp only [] <;> omega) | refine HLt.cons (by simp only [] <;> omega) (by simp only [Tok.lt, SV.ltL, SV.lt, and_true, true_and] <;> omega) ?_)) (Nat.zero_le _)
    · simp only [go_sem, goD_calls, eq_self, implies_true, Int.reduceEq, Int.reduceBEq, Int.reduceBNe, Int.reduceLE, Int.reduceLT, Int.reduceAdd, Int.reduceSub, Int.reduceMul, Int.reduceNeg, Nat.reduceMul, Nat.reduceSub, Nat.reduceLeDiff, Nat.reduceLT, Nat.reduceEqDiff, Nat.reduceAdd, reduceCtorEq, ↓reduceIte, reduceIte, min_i64, max_i64]
      refine ⟨by omega, ?_⟩
      refine hB _ _ ⟨j + 1, by omega⟩ (by simp only []; omega) rfl ?_
      refine leq_id (by simp only [frEq_cons, frEq_nil, frIn_cons, frIn_nil, and_true, fget_cons, Nat.reduceEqDiff, reduceIte, ↓reduceIte, true_and, SV.ren, SV.renL, ren1] <;> (try rfl) <;> (try simp) <;> (try omega)) (by (simp only [frLt_cons, frLt_nil, and_true, SV.lt, SV.ltL, true_and] <;> omega)) (by ((try simp only []); repeat first | exact HLe.refl _ | refine HLe.cons (by simp only [hget, Nat.reduceEqDiff, Nat.left_eq_add, Nat.add_eq_left, nm_ne2, nm_en2, nm_ne3, nm_en3, nm_ne4, nm_en4, nm_ne5, nm_en5, reduceIte, ↓reduceIte] <;> first | rfl | ((repeat rw [if_neg (by omega)]) <;> rfl)) ?_ | refine HLe.skip hnm (by omega) ?_ | refine HLe.frz hnm (by omega) ?_ | refine HLe.del hnm (by omega) ?_)) hnm (Nat.le_refl _)
    · simp only [go_sem, goD_calls, eq_self, implies_true, Int.reduceEq, Int.reduceBEq, Int.reduceBNe, Int.reduceLE, Int.reduceLT, Int.reduceAdd, Int.reduceSub, Int.reduceMul, Int.reduceNeg, Nat.reduceMul, Nat.reduceSub, Nat.reduceLeDiff, Nat.reduceLT, Nat.reduceEqDiff, Nat.reduceAdd, reduceCtorEq, ↓reduceIte, reduceIte]
      exact .inl trivial
  · obtain rfl : j = l.length := by omega
    have c1 : decide ((0 : Int) ≤ (l.length : Int) - 1 - (l.length : Int)) = false := decide_eq_false (by omega)
    simp only [go_sem, goD_calls, eq_self, implies_true, Int.reduceEq, Int.reduceBEq, Int.reduceBNe, Int.reduceLE, Int.reduceLT, Int.reduceAdd, Int.reduceSub, Int.reduceMul, Int.reduceNeg, Nat.reduceMul, Nat.reduceSub, Nat.reduceLeDiff, Nat.reduceLT, Nat.reduceEqDiff, Nat.reduceAdd, reduceCtorEq, ↓reduceIte, reduceIte, c1]
    refine .inr ?_
    rw [backL_len]
theorem itSem_upP {P : Program} {E : Nat → Value} {G G' : Nat → Bool} (hG : ∀ g, G' g = true → G g = true) {g : FuncId} {caps : List SV} {items : List (List SV × Heap)} (h : ItSem P E G' g caps items) : ItSem P E G g caps items := by
  have hE' : ∀ {H : FH} {w : World}, ErrW E G H w → ErrW E G' H w := fun h g a T hg he => h g a T (hG g hg) he
  refine ⟨h.1, fun ρ H lb hd hgl l J Jx hJ hJx hY W h0 hin herr => ?_⟩
  refine h.2 ρ H lb hd (fun k hk => hgl k (hG k hk)) l J (fun W => Jx W) hJ hJx (fun i hi W1 W ρ1 H1 vs a1 a2 a3 a4 a5 a6 a7 a8 a9 a10 => ?_) W h0 hin (hE' herr)
  obtain ⟨fn, tmps, assign, body, h1, h2⟩ := hY i hi W1 W ρ1 H1 vs a1 a2 a3 a4 a5 a6 a7 a8 a9 a10
  refine ⟨fn, tmps, assign, body, h1, h2.mono ?_⟩
  rintro e W' (⟨rfl, b1, b2, b3⟩ | ⟨rfl, b1, b2, b3⟩)
  · exact .inl ⟨rfl, b1, b2, hE' b3⟩
  · exact .inr ⟨rfl, b1, b2, hE' b3⟩
theorem it_PBack1 {E : Nat → Value} {G : Nat → Bool} (hE : Errs2 Tryd.prog (some 171) E) : ItValid Tryd.prog E G 101 backIt :=
  fun caps items h => itSem_upP (fun g hg => by cases hg) (it_PBack1g hE caps items h)
def spPBack : FSpec := fun args h nx K => match args with
  | [.dat (.slice t) d] => t = 112 ∧ K (.clo 101 [.elt sentRT d]) h
  | _ => False
set_option maxHeartbeats 4000000 in
set_option maxRecDepth 8000 in
theorem vPBack {E : Nat → Value} (hE : Errs2 Tryd.prog (some 171) E) : Valid Tryd.prog E (gs []) 73 spPBack := by
  refine valid_go (W := WPBack) hE allValid_bot irPBack (by decide) (fun args h nx K hsp hok hnm => ?_)
  unfold spPBack at hsp
  split at hsp
  · rename_i t d
    obtain ⟨rfl, hK⟩ := hsp
    refine ⟨by simp [WPBack, mkW, mkWE, mkWF], fun Q hQ => ?_⟩
    simp only [icPBack, go_sem, goD_calls, eq_self, implies_true, Int.reduceEq, Int.reduceBEq, Int.reduceBNe, Int.reduceLE, Int.reduceLT, Int.reduceAdd, Int.reduceSub, Int.reduceMul, Int.reduceNeg, Nat.reduceMul, Nat.reduceSub, Nat.reduceLeDiff, Nat.reduceLT, Nat.reduceEqDiff, Nat.reduceAdd, reduceCtorEq, ↓reduceIte, reduceIte]
    refine (hQ _ ?_).1
    exact fin_t (.clo _ _) rfl rfl hnm (by ((try simp only []); repeat first | exact HLe.refl _ | refine HLe.cons (by simp only [hget, Nat.reduceEqDiff, Nat.left_eq_add, Nat.add_eq_left, nm_ne2, nm_en2, nm_ne3, nm_en3, nm_ne4, nm_en4, nm_ne5, nm_en5, reduceIte, ↓reduceIte] <;> first | rfl | ((repeat rw [if_neg (by omega)]) <;> rfl)) ?_ | refine HLe.skip hnm (by omega) ?_ | refine HLe.frz hnm (by omega) ?_ | refine HLe.del hnm (by omega) ?_)) hK
  · exact hsp.elim
/-- LastOf, of what no longer changes. -/
def spPLastF : FSpec := fun args h nx K => match args with
  | [.dat (.ptr t) p, .int .i64 g, .int .i64 n] => ∃ d0 d2 d3 d4 d5 d6 l, t = 110 ∧ p = .ptr (.node [d0, .list l, d2, d3, d4, d5, d6]) ∧ l.length ≤ 1000000 ∧ K (.int .i64 (lastN l g n l.length)) h
  | _ => False
set_option maxHeartbeats 4000000 in
set_option maxRecDepth 8000 in
theorem vPLastOf {E : Nat → Value} (hE : Errs2 Tryd.prog (some 171) E) : Valid Tryd.prog E (gs []) 36 spPLastF := by
  refine valid_go (W := WPLastOf) hE ((allValid_bot.addIt (it_PBack1 hE)).add (up (vPBack hE))) irPLastOf (by decide) (fun args h nx K hsp hok hnm => ?_)
  unfold spPLastF at hsp
  split at hsp
  · rename_i t p g n
    obtain ⟨d0, d2, d3, d4, d5, d6, l, rfl, rfl, hlen, hK⟩ := hsp
    refine ⟨by simp [WPLastOf, mkW, mkWE, mkWF], fun Q hQ => ?_⟩
    have ret : ∀ f h' nx' v, fget f 6 = .ptr (nx + 2) 0 → HLe h h' → hget h' (nx + 2) = some (.cells [.int .i64 v]) → v = lastN l g n l.length → Q Ex.ret ⟨f, h', nx'⟩ := fun f h' nx' v hf hh hg hv => by
      subst hv
      refine (hQ _ ?_).1
      refine fin_same (p := True) (xs := [.int .i64 (lastN l g n l.length)]) ?_ trivial (fun π => rfl) ?_ hnm hh hK
      · simp only [rsPLastOf, evRs, evR, go_sem, goD_calls, eq_self, implies_true, Int.reduceEq, Int.reduceBEq, Int.reduceBNe, Int.reduceLE, Int.reduceLT, Int.reduceAdd, Int.reduceSub, Int.reduceMul, Int.reduceNeg, Nat.reduceMul, Nat.reduceSub, Nat.reduceLeDiff, Nat.reduceLT, Nat.reduceEqDiff, Nat.reduceAdd, reduceCtorEq, ↓reduceIte, reduceIte, hf, hg]
      · exact trivial
    simp only [icPLastOf, go_sem, goD_calls, eq_self, implies_true, Int.reduceEq, Int.reduceBEq, Int.reduceBNe, Int.reduceLE, Int.reduceLT, Int.reduceAdd, Int.reduceSub, Int.reduceMul, Int.reduceNeg, Nat.reduceMul, Nat.reduceSub, Nat.reduceLeDiff, Nat.reduceLT, Nat.reduceEqDiff, Nat.reduceAdd, reduceCtorEq, ↓reduceIte, reduceIte, spPBack]
    refine go_rng _ _ _ [(13, .clo 101 [.elt sentRT (.list l)]), (4, .ptr nx 0), (5, .ptr (nx + 1) 0), (6, .ptr (nx + 2) 0)] 101 [.elt sentRT (.list l)] (backL l) (α := { j : Nat // j ≤ l.length ∧ lastN l g n l.length = lastN l g n (l.length - j) }) (fun j => ((nx + 2, .cells [.int .i64 0]) :: (nx + 1, .cells [.int .i64 n]) :: (nx, .cells [.int .i64 g]) :: h, nx + 3)) (fun j => j.1) ⟨0, by omega, rfl⟩ (nx + 3) (by omega) (by simp only []; omega) ?_ rfl ?_ rfl ⟨l, rfl, hlen, rfl⟩ ?_ (fun j Qa R hj hQa hR hret hext => ?_) (fun j hj => ?_)
    · refine FrLt.all ?_
      (simp only [frLt_cons, frLt_nil, and_true, SV.lt, SV.ltL, true_and] <;> omega)
    · refine leq_id (by simp only [frEq_cons, frEq_nil, frIn_cons, frIn_nil, and_true, fget_cons, Nat.reduceEqDiff, reduceIte, ↓reduceIte, true_and, SV.ren, SV.renL, ren1] <;> (try rfl) <;> (try simp)) (by (simp only [frLt_cons, frLt_nil, and_true, SV.lt, SV.ltL, true_and] <;> omega)) (by ((try simp only []); repeat first | exact HLe.refl _ | refine HLe.cons (by simp only [hget, Nat.reduceEqDiff, Nat.left_eq_add, Nat.add_eq_left, nm_ne2, nm_en2, nm_ne3, nm_en3, nm_ne4, nm_en4, nm_ne5, nm_en5, reduceIte, ↓reduceIte] <;> first | rfl | ((repeat rw [if_neg (by omega)]) <;> rfl)) ?_ | refine HLe.skip hnm (by omega) ?_ | refine HLe.frz hnm (by omega) ?_ | refine HLe.del hnm (by omega) ?_)) (by (repeat first | exact HLt.mono hnm (by simp only [] <;> omega) | refine HLt.cons (by simp only [] <;> omega) (by simp only [Tok.lt, SV.ltL, SV.lt, and_true, true_and] <;> omega) ?_)) (by simp only [] <;> omega)
    · intro it hit
      unfold backL at hit
      obtain ⟨d, _, rfl⟩ := List.mem_map.1 hit
      rfl
    · obtain ⟨j, hj1, hj2⟩ := j
      simp only at hj hR ⊢
      rw [backL_len] at hj
      have ek : (backL l).getD j ([], []) = backI l (l.length - 1 - j) := by
        rw [List.getD_eq_getElem?_getD, backL_at l hj]; rfl
      have es : l.length - j = (l.length - 1 - j) + 1 := by omega
      rw [es, lastN_succ] at hj2
      rw [ek]
      obtain ⟨k, hk⟩ : ∃ k, l.length - 1 - j = k := ⟨_, rfl⟩
      rw [hk] at hj2 ⊢
      simp only [go_sem, goD_calls, eq_self, implies_true, Int.reduceEq, Int.reduceBEq, Int.reduceBNe, Int.reduceLE, Int.reduceLT, Int.reduceAdd, Int.reduceSub, Int.reduceMul, Int.reduceNeg, Nat.reduceMul, Nat.reduceSub, Nat.reduceLeDiff, Nat.reduceLT, Nat.reduceEqDiff, Nat.reduceAdd, reduceCtorEq, ↓reduceIte, reduceIte, backI, zipF_cons, zipF_nil, shH_nil, shH_cons, SV.renL, SV.ren, Tok.ren, shN_def]
      refine hQa _ ?_
      by_cases e1 : ((l.getD k .nil).fld 1).i = g
      · have c1 : (((l.getD k .nil).fld 1).i == g) = true := beq_iff_eq.2 e1
        by_cases e2 : ((l.getD k .nil).fld 0).i ≤ n
        · have c2 : decide (((l.getD k .nil).fld 0).i ≤ n) = true := decide_eq_true e2
          rw [if_pos ⟨e1, e2⟩] at hj2
          simp only [go_sem, goD_calls, eq_self, implies_true, Int.reduceEq, Int.reduceBEq, Int.reduceBNe, Int.reduceLE, Int.reduceLT, Int.reduceAdd, Int.reduceSub, Int.reduceMul, Int.reduceNeg, Nat.reduceMul, Nat.reduceSub, Nat.reduceLeDiff, Nat.reduceLT, Nat.reduceEqDiff, Nat.reduceAdd, reduceCtorEq, ↓reduceIte, reduceIte, c1, c2]
          refine hret _ ?_
          simp only [go_sem, goD_calls, eq_self, implies_true, Int.reduceEq, Int.reduceBEq, Int.reduceBNe, Int.reduceLE, Int.reduceLT, Int.reduceAdd, Int.reduceSub, Int.reduceMul, Int.reduceNeg, Nat.reduceMul, Nat.reduceSub, Nat.reduceLeDiff, Nat.reduceLT, Nat.reduceEqDiff, Nat.reduceAdd, reduceCtorEq, ↓reduceIte, reduceIte]
          exact ret _ _ _ _ rfl (by ((try simp only []); repeat first | exact HLe.refl _ | refine HLe.cons (by simp only [hget, Nat.reduceEqDiff, Nat.left_eq_add, Nat.add_eq_left, nm_ne2, nm_en2, nm_ne3, nm_en3, nm_ne4, nm_en4, nm_ne5, nm_en5, reduceIte, ↓reduceIte] <;> first | rfl | ((repeat rw [if_neg (by omega)]) <;> rfl)) ?_ | refine HLe.skip hnm (by omega) ?_ | refine HLe.frz hnm (by omega) ?_ | refine HLe.del hnm (by omega) ?_)) (by first | (simp only [hget, nm_ne2, nm_en2, nm_ne3, nm_en3, ↓reduceIte, reduceIte, Nat.reduceEqDiff]; done) | rfl | simp [hget]) hj2.symm
        · have c2 : decide (((l.getD k .nil).fld 0).i ≤ n) = false := decide_eq_false e2
          rw [if_neg (fun h => e2 h.2)] at hj2
          simp only [go_sem, goD_calls, eq_self, implies_true, Int.reduceEq, Int.reduceBEq, Int.reduceBNe, Int.reduceLE, Int.reduceLT, Int.reduceAdd, Int.reduceSub, Int.reduceMul, Int.reduceNeg, Nat.reduceMul, Nat.reduceSub, Nat.reduceLeDiff, Nat.reduceLT, Nat.reduceEqDiff, Nat.reduceAdd, reduceCtorEq, ↓reduceIte, reduceIte, c1, c2]
          refine hR _ ⟨j + 1, by omega, by rw [hj2]; congr 1; omega⟩ rfl ?_
          refine leq_id trivial trivial (by ((try simp only []); repeat first | exact HLe.refl _ | refine HLe.cons (by simp only [hget, Nat.reduceEqDiff, Nat.left_eq_add, Nat.add_eq_left, nm_ne2, nm_en2, nm_ne3, nm_en3, nm_ne4, nm_en4, nm_ne5, nm_en5, reduceIte, ↓reduceIte] <;> first | rfl | ((repeat rw [if_neg (by omega)]) <;> rfl)) ?_ | refine HLe.skip hnm (by omega) ?_ | refine HLe.frz hnm (by omega) ?_ | refine HLe.del hnm (by omega) ?_)) (by (repeat first | exact HLt.mono hnm (by simp only [] <;> omega) | refine HLt.cons (by simp only [] <;> omega) (by simp only [Tok.lt, SV.ltL, SV.lt, and_true, true_and] <;> omega) ?_)) (by simp only [] <;> omega)
      · have c1 : (((l.getD k .nil).fld 1).i == g) = false := beq_eq_false_iff_ne.2 e1
        rw [if_neg (fun h => e1 h.1)] at hj2
        simp only [go_sem, goD_calls, eq_self, implies_true, Int.reduceEq, Int.reduceBEq, Int.reduceBNe, Int.reduceLE, Int.reduceLT, Int.reduceAdd, Int.reduceSub, Int.reduceMul, Int.reduceNeg, Nat.reduceMul, Nat.reduceSub, Nat.reduceLeDiff, Nat.reduceLT, Nat.reduceEqDiff, Nat.reduceAdd, reduceCtorEq, ↓reduceIte, reduceIte, c1]
        refine hR _ ⟨j + 1, by omega, by rw [hj2]; congr 1; omega⟩ rfl ?_
        refine leq_id trivial trivial (by ((try simp only []); repeat first | exact HLe.refl _ | refine HLe.cons (by simp only [hget, Nat.reduceEqDiff, Nat.left_eq_add, Nat.add_eq_left, nm_ne2, nm_en2, nm_ne3, nm_en3, nm_ne4, nm_en4, nm_ne5, nm_en5, reduceIte, ↓reduceIte] <;> first | rfl | ((repeat rw [if_neg (by omega)]) <;> rfl)) ?_ | refine HLe.skip hnm (by omega) ?_ | refine HLe.frz hnm (by omega) ?_ | refine HLe.del hnm (by omega) ?_)) (by (repeat first | exact HLt.mono hnm (by simp only [] <;> omega) | refine HLt.cons (by simp only [] <;> omega) (by simp only [Tok.lt, SV.ltL, SV.lt, and_true, true_and] <;> omega) ?_)) (by simp only [] <;> omega)
    · obtain ⟨j, hj1, hj2⟩ := j
      simp only at hj
      rw [backL_len] at hj
      subst hj
      rw [Nat.sub_self] at hj2
      simp only [go_sem, goD_calls, eq_self, implies_true, Int.reduceEq, Int.reduceBEq, Int.reduceBNe, Int.reduceLE, Int.reduceLT, Int.reduceAdd, Int.reduceSub, Int.reduceMul, Int.reduceNeg, Nat.reduceMul, Nat.reduceSub, Nat.reduceLeDiff, Nat.reduceLT, Nat.reduceEqDiff, Nat.reduceAdd, reduceCtorEq, ↓reduceIte, reduceIte]
      exact ret _ _ _ 0 rfl (by ((try simp only []); repeat first | exact HLe.refl _ | refine HLe.cons (by simp only [hget, Nat.reduceEqDiff, Nat.left_eq_add, Nat.add_eq_left, nm_ne2, nm_en2, nm_ne3, nm_en3, nm_ne4, nm_en4, nm_ne5, nm_en5, reduceIte, ↓reduceIte] <;> first | rfl | ((repeat rw [if_neg (by omega)]) <;> rfl)) ?_ | refine HLe.skip hnm (by omega) ?_ | refine HLe.frz hnm (by omega) ?_ | refine HLe.del hnm (by omega) ?_)) (by first | (simp only [hget, nm_ne2, nm_en2, nm_ne3, nm_en3, ↓reduceIte, reduceIte, Nat.reduceEqDiff]; done) | rfl | simp [hget]) hj2.symm
  · exact hsp.elim
end Go.Proofs.YtmjenjccinfbaaaDoor
