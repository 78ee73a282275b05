/- Rows of whole numbers, put together, put in order. -/
import Derived.Test.YtkmilijehekdoaaDoorValues
import Derived.Test.YtkmilijehekdoaaDoorInts
import Derived.Test.YtkmilijehekdoaaDoorFin
import Derived.Test.YtkmilijehekdoaaDoorLeq
import Derived.Test.YtkmilijehekdoaaDoorShelf
import Derived.Sort.OwnSortedInts
import Derived.Shelf.Spec.SlicesGrow
namespace Go.Proofs.YtkmilijehekdoaaDoor
set_option linter.unusedVariables false
set_option linter.unusedSimpArgs false
open Go Go.Fw
attribute [local go_sem] walkSet evMdl evMupD evMup evLkp frpL eltP eltV eltK preF preP prePt prePd frzP evNlq ev frOf oget ogets argSs argS evMm frzL evBin evWrp evShf evCmp evUna evNil evBeq evLd evSt evFad evIad evAad evLen evSln evEls evApp evParts evSlc evNlc evMif evPck evFld evBld evTas evIfq evSeq evSl0 evBxf evAgl evAgq evBsf hget hset hdel cellAt arrAt setCellAt setArrAt takeC lenC svCells SV.okc SV.one ldSV Fw.isAgg explode explodeL toD toDL toD1 Ty.size Ty.sizeL frz1 Fr.sub Heap.sub Tok.sub SV.sub SV.subL

/-- A row of whole numbers, as such. -/
def iL (l : List D) : List D := l.map fun d => D.int d.i
theorem iL_len (l : List D) : (iL l).length = l.length := List.length_map ..
theorem iL_nil : iL [] = [] := rfl

def WAppendSeq : Opts := mkWE 13 [] [] [] 152 [] []
def icAppendSeq : IC := (.seq (.seq (.ops [(.u (.box 2 0 (.s 0))), (.u (.mov 4 (.c .nils)))]) (.tr [1, 4, 7, 2])) (.seq (.seq (.seq (.ops [(.u (.mov 6 (.s 1)))]) (.tr [6, 4, 7, 2])) (.block 0 (.seq (.rng (.s 6) [7] (.seq (.ops [(.u (.mov 5 (.s 7)))]) (.tr [5, 2])) (.block 1 (.seq (.ops [(.u (.ld 8 (.slice 3) (.s 2))), (.u (.mov 9 (.s 5))), (.u (.bsl 10 3 (.int .i64) [(.s 9)])), (.u (.app 11 3 (.int .i64) 8 (.s 8) (.s 10))), (.u (.st (.slice 3) (.s 2) (.s 11)))]) (.tr [])))) (.tr [2])))) (.seq (.seq (.ops [(.u (.ld 12 (.slice 3) (.s 2))), (.u (.mov 4 (.s 12)))]) (.tr [4])) .ret)))
def rsAppendSeq : List RV := [(.t 4)]
theorem irAppendSeq : fnIR Tryd.prog WAppendSeq 59 = some (icAppendSeq, rsAppendSeq) := by kernel_rfl
def spAppendSeq : FSpec := fun args h nx K => match args with
  | [.nils, .clo f [.elt (.slice t) (.list l)]] => f = 50 ∧ t = 3 ∧ l.length ≤ 1000000000 ∧ K (.vec nx) ((nx, .arr 3 (.int .i64) (iL l)) :: h)
  | _ => False
set_option maxHeartbeats 4000000 in
set_option maxRecDepth 8000 in
theorem vAppendSeq {E : Nat → Value} (hE : Errs2 Tryd.prog (some 152) E) : Valid Tryd.prog E (gs []) 59 spAppendSeq := by
  refine valid_go (W := WAppendSeq) hE (allValid_bot.addIt it_values) irAppendSeq (by decide) (fun args h nx K hsp hok hnm => ?_)
  unfold spAppendSeq at hsp
  split at hsp
  · rename_i f t l
    obtain ⟨rfl, rfl, hlen, hK⟩ := hsp
    refine ⟨by simp [WAppendSeq, mkW, mkWE, mkWF], fun Q hQ => ?_⟩
    simp (maxSteps := 4000000) only [icAppendSeq, go_sem, goD_calls, eq_self, implies_true, Int.reduceEq, Int.reduceBEq, Int.reduceBNe, Int.reduceLE, Int.reduceLT, Int.reduceAdd, Int.reduceSub, Int.reduceMul, Int.reduceNeg, Nat.reduceMul, Nat.reduceSub, Nat.reduceLeDiff, Nat.reduceLT, Nat.reduceEqDiff, Nat.reduceAdd, reduceCtorEq, ↓reduceIte, reduceIte]
    refine go_rng _ _ _ [(2, .ptr nx 0), (6, .clo 50 [.elt (.slice 3) (.list l)])] 50 [.elt (.slice 3) (.list l)] (l.map fun d => ([SV.int .i64 d.i], [])) (α := Nat) (fun k => ((nx, .cells [.vec (nx + 1)]) :: (nx + 1, .arr 3 (.int .i64) (iL (l.take k))) :: h, nx + 2)) (fun k => k) 0 (nx + 1) (by omega) (by simp only []; omega) ?_ rfl ?_ rfl ⟨l, rfl, rfl⟩ ?_ (fun k Qa R hk hQa hR hret hext => ?_) (fun k hk => ?_)
    · refine FrLt.all ?_
      (simp only [frLt_cons, frLt_nil, and_true, SV.lt, SV.ltL, true_and] <;> omega)
    · refine leq_nil (.cell nx 0 3 (.int .i64) (by simp only [hget, ↓reduceIte]; rfl) rfl rfl (.refl _)) ?_
      simp only [go_sem, goD_calls, eq_self, implies_true, Int.reduceEq, Int.reduceBEq, Int.reduceBNe, Int.reduceLE, Int.reduceLT, Int.reduceAdd, Int.reduceSub, Int.reduceMul, Int.reduceNeg, Nat.reduceMul, Nat.reduceSub, Nat.reduceLeDiff, Nat.reduceLT, Nat.reduceEqDiff, Nat.reduceAdd, reduceCtorEq, ↓reduceIte, reduceIte]
      refine leq_id ?_ (by (simp only [frLt_cons, frLt_nil, and_true, SV.lt, SV.ltL, true_and] <;> omega)) (by ((try simp only []); repeat first | exact HLe.refl _ | refine HLe.cons (by simp only [hget, Nat.reduceEqDiff, Nat.left_eq_add, Nat.add_eq_left, nm_ne2, nm_en2, nm_ne3, nm_en3, nm_ne4, nm_en4, nm_ne5, nm_en5, reduceIte, ↓reduceIte] <;> first | rfl | ((repeat rw [if_neg (by omega)]) <;> rfl)) ?_ | refine HLe.skip hnm (by omega) ?_ | refine HLe.frz hnm (by omega) ?_ | refine HLe.del hnm (by omega) ?_)) ?_ (by simp only [] <;> omega)
      · simp only [frEq_cons, frEq_nil, frIn_cons, frIn_nil, and_true, fget_cons, Nat.reduceEqDiff, reduceIte, ↓reduceIte, true_and, SV.ren, SV.renL, ren1]
      · (repeat first | exact HLt.mono hnm (by simp only [] <;> omega) | refine HLt.cons (by simp only [] <;> omega) (by simp only [Tok.lt, SV.ltL, SV.lt, and_true, true_and] <;> omega) ?_)
    · simp only [List.mem_map, forall_exists_index, and_imp, forall_apply_eq_imp_iff₂, List.length_cons, List.length_nil, implies_true]
    · rw [List.length_map] at hk
      have ek : (l.map fun d => (([SV.int .i64 d.i], []) : List SV × Heap)).getD k ([], []) = ([SV.int .i64 (l.getD k .nil).i], []) := by
        rw [List.getD_eq_getElem?_getD, List.getElem?_map, List.getElem?_eq_getElem hk, List.getD_eq_getElem?_getD, List.getElem?_eq_getElem hk]; rfl
      have et : iL (l.take k) ++ [.int (l.getD k .nil).i] = iL (l.take (k + 1)) := by
        unfold iL
        rw [List.take_add_one, List.getElem?_eq_getElem hk, List.map_append, List.getD_eq_getElem?_getD, List.getElem?_eq_getElem hk]; rfl
      have hl1 : (iL (l.take k)).length = k := by rw [iL_len, List.length_take]; omega
      rw [ek]
      simp (maxSteps := 4000000) only [go_sem, goD_calls, eq_self, implies_true, Int.reduceEq, Int.reduceBEq, Int.reduceBNe, Int.reduceLE, Int.reduceLT, Int.reduceAdd, Int.reduceSub, Int.reduceMul, Int.reduceNeg, Nat.reduceMul, Nat.reduceSub, Nat.reduceLeDiff, Nat.reduceLT, Nat.reduceEqDiff, Nat.reduceAdd, reduceCtorEq, ↓reduceIte, reduceIte, zipF_cons, zipF_nil, shH_nil, SV.renL, SV.ren]
      refine hQa _ ?_
      simp (maxSteps := 4000000) only [go_sem, goD_calls, eq_self, implies_true, Int.reduceEq, Int.reduceBEq, Int.reduceBNe, Int.reduceLE, Int.reduceLT, Int.reduceAdd, Int.reduceSub, Int.reduceMul, Int.reduceNeg, Nat.reduceMul, Nat.reduceSub, Nat.reduceLeDiff, Nat.reduceLT, Nat.reduceEqDiff, Nat.reduceAdd, reduceCtorEq, ↓reduceIte, reduceIte]
      refine ⟨by rw [hl1]; omega, ?_⟩
      rw [et]
      refine hR _ (k + 1) rfl ?_
      refine leq_ren1 (nx + 1) (nx + 2 + 64 + 1) (Nat.le_refl _) (by simp only []; omega) trivial trivial ?_ (by (repeat first | exact HLt.mono hnm (by simp only [] <;> omega) | refine HLt.cons (by simp only [] <;> omega) (by simp only [Tok.lt, SV.ltL, SV.lt, and_true, true_and] <;> omega) ?_)) (by simp only [] <;> omega)
      refine HRen.cons (by simp [hget, Tok.ren, SV.ren, SV.renL, ren1, show ¬ (nx + 2 + 64 + 1 = nx) by omega, show ¬ (nx + 2 + 64 = nx) by omega]) (HRen.cons (by rw [ren1_eq]; simp [hget, Tok.ren]) (HRen.base hnm (by omega) (by ((try simp only []); repeat first | exact HLe.refl _ | refine HLe.cons (by simp only [hget, Nat.reduceEqDiff, Nat.left_eq_add, Nat.add_eq_left, nm_ne2, nm_en2, nm_ne3, nm_en3, nm_ne4, nm_en4, nm_ne5, nm_en5, reduceIte, ↓reduceIte] <;> first | rfl | ((repeat rw [if_neg (by omega)]) <;> rfl)) ?_ | refine HLe.skip hnm (by omega) ?_ | refine HLe.frz hnm (by omega) ?_ | refine HLe.del hnm (by omega) ?_))))
    · rw [List.length_map] at hk
      subst hk
      rw [List.take_of_length_le (Nat.le_refl _)]
      simp (maxSteps := 4000000) only [go_sem, goD_calls, eq_self, implies_true, Int.reduceEq, Int.reduceBEq, Int.reduceBNe, Int.reduceLE, Int.reduceLT, Int.reduceAdd, Int.reduceSub, Int.reduceMul, Int.reduceNeg, Nat.reduceMul, Nat.reduceSub, Nat.reduceLeDiff, Nat.reduceLT, Nat.reduceEqDiff, Nat.reduceAdd, reduceCtorEq, ↓reduceIte, reduceIte]
      refine (hQ _ ?_).1
      exact fin_vec (m := nx + 1) rfl (by simp only [hget, nm_ne2, nm_en2, Nat.left_eq_add, Nat.add_eq_left, Nat.reduceEqDiff, ↓reduceIte]) (by omega) hnm (by ((try simp only []); repeat first | exact HLe.refl _ | refine HLe.cons (by simp only [hget, Nat.reduceEqDiff, Nat.left_eq_add, Nat.add_eq_left, nm_ne2, nm_en2, nm_ne3, nm_en3, nm_ne4, nm_en4, nm_ne5, nm_en5, reduceIte, ↓reduceIte] <;> first | rfl | ((repeat rw [if_neg (by omega)]) <;> rfl)) ?_ | refine HLe.skip hnm (by omega) ?_ | refine HLe.frz hnm (by omega) ?_ | refine HLe.del hnm (by omega) ?_)) hK
  · exact hsp.elim

def WCollect : Opts := mkWF 5 [] [] [] 152 [] [] [] [] [4]
def icCollect : IC := (.seq (.seq (.ops [(.u (.mov 2 (.c .nils)))]) (.tr [0])) (.seq (.seq (.ops [(.u (.mov 3 (.s 0))), (.u (.call 4 (.c (.clo 59 [])) [(.c .nils), (.s 3)] [none, none] true)), (.u (.mov 2 (.s 4)))]) (.tr [2])) .ret))
def rsCollect : List RV := [(.t 2)]
theorem irCollect : fnIR Tryd.prog WCollect 48 = some (icCollect, rsCollect) := by kernel_rfl
def spCollect : FSpec := fun args h nx K => match args with
  | [.clo f [.elt (.slice t) (.list l)]] => f = 50 ∧ t = 3 ∧ l.length ≤ 1000000000 ∧ K (.vec nx) ((nx, .arr 3 (.int .i64) (iL l)) :: h)
  | _ => False
set_option maxHeartbeats 4000000 in
set_option maxRecDepth 8000 in
theorem vCollect {E : Nat → Value} (hE : Errs2 Tryd.prog (some 152) E) : Valid Tryd.prog E (gs []) 48 spCollect := by
  refine valid_go (W := WCollect) hE (allValid_bot.add (up (vAppendSeq hE))) irCollect (by decide) (fun args h nx K hsp hok hnm => ?_)
  unfold spCollect at hsp
  split at hsp
  · rename_i f t l
    obtain ⟨rfl, rfl, hlen, hK⟩ := hsp
    refine ⟨by simp [WCollect, mkW, mkWE, mkWF], fun Q hQ => ?_⟩
    simp (maxSteps := 4000000) only [icCollect, go_sem, goD_calls, eq_self, implies_true, Int.reduceEq, Int.reduceBEq, Int.reduceBNe, Int.reduceLE, Int.reduceLT, Int.reduceAdd, Int.reduceSub, Int.reduceMul, Int.reduceNeg, Nat.reduceMul, Nat.reduceSub, Nat.reduceLeDiff, Nat.reduceLT, Nat.reduceEqDiff, Nat.reduceAdd, reduceCtorEq, ↓reduceIte, reduceIte, spAppendSeq, hlen]
    refine (hQ _ ?_).1
    exact fin_vec (m := nx) rfl (by simp only [hget, ↓reduceIte]) (by omega) hnm (by ((try simp only []); repeat first | exact HLe.refl _ | refine HLe.cons (by simp only [hget, Nat.reduceEqDiff, Nat.left_eq_add, Nat.add_eq_left, nm_ne2, nm_en2, nm_ne3, nm_en3, nm_ne4, nm_en4, nm_ne5, nm_en5, reduceIte, ↓reduceIte] <;> first | rfl | ((repeat rw [if_neg (by omega)]) <;> rfl)) ?_ | refine HLe.skip hnm (by omega) ?_ | refine HLe.frz hnm (by omega) ?_ | refine HLe.del hnm (by omega) ?_)) hK
  · exact hsp.elim

def WValues : Opts := mkWE 4 [] [] [] 152 [] [1]
def icValues : IC := (.seq (.seq (.ops [(.u (.bxf 1 (.slice 3) none (.s 0))), (.u (.mov 2 (.c (.raw .nilFunc))))]) (.tr [1])) (.seq (.seq (.ops [(.u (.clo 3 50 [(.s 1)])), (.u (.mov 2 (.s 3)))]) (.tr [2])) .ret))
def rsValues : List RV := [(.t 2)]
theorem irValues : fnIR Tryd.prog WValues 32 = some (icValues, rsValues) := by kernel_rfl
def spValues : FSpec := fun args h nx K => match args with
  | [.dat (.slice t) (.list l)] => t = 3 ∧ K (.clo 50 [.elt (.slice 3) (.list l)]) h
  | _ => False
set_option maxHeartbeats 4000000 in
set_option maxRecDepth 8000 in
theorem vValues {E : Nat → Value} (hE : Errs2 Tryd.prog (some 152) E) : Valid Tryd.prog E (gs []) 32 spValues := by
  refine valid_go (W := WValues) hE allValid_bot irValues (by decide) (fun args h nx K hsp hok hnm => ?_)
  unfold spValues at hsp
  split at hsp
  · rename_i t l
    obtain ⟨rfl, hK⟩ := hsp
    refine ⟨by simp [WValues, mkW, mkWE, mkWF], fun Q hQ => ?_⟩
    simp (maxSteps := 4000000) only [icValues, go_sem, goD_calls, eq_self, implies_true, Int.reduceEq, Int.reduceBEq, Int.reduceBNe, Int.reduceLE, Int.reduceLT, Int.reduceAdd, Int.reduceSub, Int.reduceMul, Int.reduceNeg, Nat.reduceMul, Nat.reduceSub, Nat.reduceLeDiff, Nat.reduceLT, Nat.reduceEqDiff, Nat.reduceAdd, reduceCtorEq, ↓reduceIte, reduceIte]
    refine (hQ _ ?_).1
    exact fin_t (.clo _ _) rfl rfl hnm (by ((try simp only []); repeat first | exact HLe.refl _ | refine HLe.cons (by simp only [hget, Nat.reduceEqDiff, Nat.left_eq_add, Nat.add_eq_left, nm_ne2, nm_en2, nm_ne3, nm_en3, nm_ne4, nm_en4, nm_ne5, nm_en5, reduceIte, ↓reduceIte] <;> first | rfl | ((repeat rw [if_neg (by omega)]) <;> rfl)) ?_ | refine HLe.skip hnm (by omega) ?_ | refine HLe.frz hnm (by omega) ?_ | refine HLe.del hnm (by omega) ?_)) hK
  · exact hsp.elim

/-! ### Put in order -/
theorem intsL_rep {P : Program} {E : Nat → Value} {H : FH} : ∀ {l : List D} {xs : List Value}, RepL P E H (List.replicate l.length (.int .i64)) l xs → xs = (l.map D.i).map (Value.int .i64) ∧ l = iL l ∧ ∀ x ∈ l.map D.i, IntKind.i64.min ≤ x ∧ x ≤ IntKind.i64.max
  | [], _, h => by cases h; exact ⟨rfl, rfl, fun x hx => by cases hx⟩
  | d :: l, _, h => by
    rw [List.length_cons, List.replicate_succ] at h
    cases h with
    | cons h h' =>
      obtain ⟨e1, e2, e3⟩ := ints_rep h
      obtain ⟨h1, h2, h3⟩ := intsL_rep h'
      refine ⟨by rw [h1, e2]; rfl, by rw [e1]; show _ = D.int (D.int d.i).i :: iL l; rw [← h2]; rfl, fun x hx => ?_⟩
      rcases List.mem_cons.1 hx with rfl | hx
      · exact e3
      · exact h3 x hx
theorem rep_ints {P : Program} {E : Nat → Value} {H : FH} : ∀ {zs : List Int}, (∀ x ∈ zs, IntKind.i64.min ≤ x ∧ x ≤ IntKind.i64.max) → RepL P E H (List.replicate (zs.map D.int).length (.int .i64)) (zs.map D.int) (zs.map (Value.int .i64))
  | [], _ => .nil
  | z :: zs, h => by
    rw [List.map_cons, List.map_cons, List.length_cons, List.replicate_succ]
    exact .cons (.int (h z (by simp))) (rep_ints (fun x hx => h x (by simp [hx])))
def nOk (r : Option Tok) : Prop := ∃ l, r = some (.arr 3 (.int .i64) l)
def nL (r : Option Tok) : List D := match r with | some (.arr _ _ l) => l | _ => []
theorem nOk_c (l : List D) : nOk (some (.arr 3 (.int .i64) l)) = True := eq_true ⟨l, rfl⟩
theorem nL_c (e : TypeId) (t : Ty) (l : List D) : nL (some (.arr e t l)) = l := rfl
def sortI (zs : List Int) : List Int := zs.mergeSort fun x y => decide (x ≤ y)
def sortL (l : List D) : List D := (sortI (l.map D.i)).map D.int
theorem sortI_len (zs : List Int) : (sortI zs).length = zs.length := List.length_mergeSort zs
theorem sortI_perm (zs : List Int) : (sortI zs).Perm zs := List.mergeSort_perm zs _
theorem sortL_len (l : List D) : (sortL l).length = l.length := by unfold sortL; rw [List.length_map, sortI_len, List.length_map]
def spSort : FSpec := fun args h nx K => match args with
  | [.vec n] => nOk (hget h n) ∧ (nL (hget h n)).length ≤ 1000000000 ∧ K (.tup []) (hset h n (.arr 3 (.int .i64) (sortL (nL (hget h n)))))
  | _ => False
set_option maxHeartbeats 1000000 in
theorem vSort {E : Nat → Value} (hE : Errs2 Tryd.prog (some 152) E) : Valid Tryd.prog E (gs []) 49 spSort := by
  refine valid_raw (by kernel_rfl) (fun args h nx K c ρ H w vs hsp hnb s hden hlt => ?_)
  unfold spSort at hsp
  split at hsp
  · rename_i n
    obtain ⟨⟨l, hl⟩, hlen, hK⟩ := hsp
    rw [hl, nL_c] at hlen hK
    cases hden with
    | cons h1 h2 =>
      cases h2
      cases h1
      obtain ⟨⟨he, xs, hown, hrep, hH⟩, hnx, _⟩ := s.tok hl
      obtain ⟨e1, e2, e3⟩ := intsL_rep hrep
      have e4 : ∀ x ∈ sortI (l.map D.i), IntKind.i64.min ≤ x ∧ x ≤ IntKind.i64.max := fun x hx => e3 x ((sortI_perm _).mem_iff.1 hx)
      have hrep' := rep_ints (P := Tryd.prog) (E := E) (H := H) e4
      have hout : ∀ w', Kept w (fun b => blk (ρ n) = some b) w' → Owns w' 3 1 (ρ n) (sortL l).length ((sortI (l.map D.i)).map (Value.int .i64)) → ∃ v r h' ρ' H' nx', Ending.returned (.tuple #[]) = .returned v ∧ K r h' ∧ Den Tryd.prog E ρ' H' r v ∧ r.lt (nx + 64) ∧ nx' ≤ nx + 64 ∧ Sat Tryd.prog E c ρ' H' { f := [], h := h', nx := nx' } { tmps := [ρ n].toArray, defers := [] } w' := by
        intro w' hk ho
        exact ⟨_, .tup [], _, ρ, H, nx, rfl, hK, .tup .nil, trivial, Nat.le_add_right _ _, s.change hl (.arr 3 (.int .i64) (sortL l)) hk ⟨fun _ => tyInt, _, ho, hrep', hH⟩ trivial⟩
      have hsl : (sortL l).length = l.length := sortL_len l
      rcases hown.2 with ⟨⟨a0, hv⟩, h0⟩ | ⟨g, cap, cur, hv, h0, hh, q1, q2, q3, q4⟩
      · have hn0 : l = [] := List.eq_nil_of_length_eq_zero h0
        subst hn0
        rw [hv]
        refine (Tryd.slices_Sort_int_none a0 0 w).mono ?_
        rintro e w' ⟨rfl, rfl⟩
        rw [hv] at hout
        have z : sortI (([] : List D).map D.i) = [] := by simp [sortI]
        exact hout _ (Kept.refl _ _) ⟨by rw [hsl, z]; rfl, .inl ⟨⟨a0, rfl⟩, by rw [hsl]; rfl⟩⟩
      · rw [hv]
        have hl2 : l.length = (l.map D.i).length := (List.length_map ..).symm
        have hcur : cur.toList.take (l.map D.i).length = (l.map D.i).map (Value.int .i64) := by
          rw [← e1, ← q4, ← hl2]
          simp [Ty.size]
        have hHo := holds_of_blockI (ss := l.map D.i) hh hcur
        have hg := (Array.getElem?_eq_some_iff.1 hh).1
        have := Tryd.slices_Sort_int g 0 cap (l.map D.i) w hHo hg (by rw [← hl2]; omega)
        rw [← hl2] at this
        refine this.mono ?_
        rintro e w' ⟨rfl, nn, os, rfl⟩
        rw [hv] at hout
        have hgr := grownBy_sortedI (w := w) (g := g) (n := nn) (os := os) (sortI (l.map D.i)).toArray
        refine hout _ ⟨hgr.os, hgr.tape, hgr.output, hgr.size, fun b hb hne => hgr.block b hb (fun e => hne (by rw [blk_slice h0]; exact e.symm))⟩ ?_
        have := ownsRow_sortedI (base := 0) (n := nn) (os := os) (ss := l.map D.i) (ts := sortI (l.map D.i)) (sortI_len _) (Nat.zero_le _) hh (by omega) q2 (by rw [q3]; rfl)
        rw [← hl2] at this
        rw [hsl]
        exact Owns.of this
  · exact hsp.elim
end Go.Proofs.YtkmilijehekdoaaDoor
