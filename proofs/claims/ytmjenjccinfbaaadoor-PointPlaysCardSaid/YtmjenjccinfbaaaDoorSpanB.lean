/- Chapter 8's functions: dead ones, the next number, the last one. -/
import Derived.Test.YtmjenjccinfbaaaDoorSpanA
namespace Go.Proofs.YtmjenjccinfbaaaDoor
set_option linter.unusedVariables false
set_option linter.unusedSimpArgs false
open Go Go.Fw
attribute [local go_sem] walkSet evMdl evMupD evMup evLkp frpL eltP eltV eltK preF preP prePt prePd frzP evNlq ev frOf oget ogets argSs argS evCat evMm frzL evBin evWrp evShf evCmp evUna evNil evBeq evLd evSt evFad evIad evAad evLen evSln evEls evApp evParts evSlc evNlc evMif evPck evFld evBld evTas evIfq evSeq evSl0 evBxf evAgl evAgq evBsf hget hset hdel cellAt arrAt setCellAt setArrAt takeC lenC svCells SV.okc SV.one ldSV Fw.isAgg explode explodeL toD toDL toD1 Ty.size Ty.sizeL frz1 Fr.sub Heap.sub Tok.sub SV.sub SV.subL

/-- A cell that holds a number. -/
def cOk (r : Option Tok) : Prop := match r with | some (.cells [.int .i64 _]) => True | _ => False
def cI (r : Option Tok) : Int := match r with | some (.cells [.int .i64 n]) => n | _ => 0
theorem cOk_some (n : Int) : cOk (some (.cells [.int .i64 n])) = True := rfl
theorem cI_some (n : Int) : cI (some (.cells [.int .i64 n])) = n := rfl
theorem cOk_spec {r : Option Tok} (h : cOk r) : r = some (.cells [.int .i64 (cI r)]) := by
  unfold cOk at h
  split at h
  · rfl
  · exact h.elim
/-- The place of the first one of a sort; -1: none is. -/
def firstI (p : D → Bool) (l : List D) : Int := match l.findIdx? p with
  | some k => (k : Int)
  | none => -1
theorem firstI_none {p : D → Bool} {l : List D} (h : ∀ i, i < l.length → p (l.getD i .nil) = false) : firstI p l = -1 := by
  unfold firstI
  have : l.findIdx? p = none := by
    rw [List.findIdx?_eq_none_iff]
    intro x hx
    obtain ⟨i, hi, rfl⟩ := List.getElem_of_mem hx
    have := h i hi
    simpa [List.getD_eq_getElem?_getD, List.getElem?_eq_getElem hi] using this
  rw [this]
theorem firstI_some {p : D → Bool} {l : List D} {k : Nat} (hk : k < l.length) (h : ∀ i, i < k → p (l.getD i .nil) = false) (h2 : p (l.getD k .nil) = true) : firstI p l = k := by
  unfold firstI
  have : l.findIdx? p = some k := by
    rw [List.findIdx?_eq_some_iff_getElem]
    simp only [List.getD_eq_getElem?_getD, List.getElem?_eq_getElem hk, Option.getD_some] at h2
    refine ⟨hk, h2, fun j hj => ?_⟩
    have := h j hj
    simp only [List.getD_eq_getElem?_getD, List.getElem?_eq_getElem (Nat.lt_trans hj hk), Option.getD_some] at this
    simpa using this
  rw [this]
theorem firstI_any (p : D → Bool) (l : List D) : decide (0 ≤ firstI p l) = l.any p := by
  unfold firstI
  cases h : l.findIdx? p with
  | none =>
    rw [List.findIdx?_eq_none_iff] at h
    have : l.any p = false := by rw [List.any_eq_false]; intro x hx; simp [h x hx]
    rw [this]; rfl
  | some k =>
    rw [List.findIdx?_eq_some_iff_getElem] at h
    obtain ⟨hk, h1, _⟩ := h
    have : l.any p = true := List.any_eq_true.2 ⟨_, List.getElem_mem hk, h1⟩
    rw [this]; simp
theorem idxF_first (l : List D) (n : Int) : idxF l n = firstI (fun s => decide (hasD s n)) l := rfl
def deadP (lsn epoch : Int) (s : D) : Bool := decide (epoch < spE s) && decide (hasD s lsn)
theorem hasD_dec (x : D) (n : Int) : decide (hasD x n) = (decide ((x.fld 1).i < n) && decide (n ≤ (x.fld 2).i)) := by
  rw [← Bool.decide_and]; exact decide_eq_decide.2 Iff.rfl
def hasP (n : Int) (s : D) : Bool := decide (hasD s n)

def WSHas : Opts := mkWE 15 [] [] [] 171 [] []
def icSHas : IC := (.seq (.seq (.ops [(.u (.box 2 0 (.s 0))), (.u (.mov 4 (.c (.bool false))))]) (.tr [1, 2])) (.seq (.seq (.ops [(.u (.fad 5 1 1 (.int .i64) 41 (.s 2))), (.u (.ld 6 (.int .i64) (.s 5))), (.u (.mov 7 (.s 1))), (.u (.cmp 8 .lss (.s 6) (.s 7))), (.u (.mov 9 (.s 8))), (.g 9 true (some 10) (.mov 10 (.s 1))), (.g 9 true (some 11) (.fad 11 2 2 (.int .i64) 41 (.s 2))), (.g 9 true (some 12) (.ld 12 (.int .i64) (.s 11))), (.g 9 true (some 13) (.cmp 13 .leq (.s 10) (.s 12))), (.u (.pck 14 (.s 9) (.s 13) (.c (.bool false)))), (.u (.mov 4 (.s 14)))]) (.tr [4])) .ret))
def rsSHas : List RV := [(.t 4)]
theorem irSHas : fnIR Tryd.prog WSHas 98 = some (icSHas, rsSHas) := by kernel_rfl
def spSHas : FSpec := fun args h nx K => match args with
  | [.agg [.int .i64 e, .int .i64 f, .int .i64 t], .int .i64 n] => K (.bool (decide (f < n) && decide (n ≤ t))) h
  | _ => False
theorem vSHas {E : Nat → Value} (hE : Errs2 Tryd.prog (some 171) E) : Valid Tryd.prog E (gs []) 98 spSHas := by
  refine valid_go (W := WSHas) hE allValid_bot irSHas (by decide) (fun args h nx K hsp hok hnm => ?_)
  unfold spSHas at hsp
  split at hsp
  · rename_i e f t n
    refine ⟨by simp [WSHas, mkW, mkWE], fun Q hQ => ?_⟩
    have ret : ∀ b h' nx', HLe h h' → b = (decide (f < n) && decide (n ≤ t)) → Q Ex.ret ⟨[(4, .bool b)], h', nx'⟩ := fun b h' nx' hh hb => by
      subst hb
      refine (hQ _ ?_).1
      exact fin_t (.bool _) rfl rfl hnm hh hsp
    simp only [icSHas, go_sem, goD_calls, eq_self, implies_true, Int.reduceEq, Int.reduceBEq, Int.reduceBNe, Int.reduceLE, Int.reduceLT, Int.reduceAdd, Int.reduceSub, Int.reduceMul, Int.reduceNeg, Nat.reduceMul, Nat.reduceSub, Nat.reduceLeDiff, Nat.reduceLT, Nat.reduceEqDiff, Nat.reduceAdd, reduceCtorEq, ↓reduceIte, reduceIte]
    refine ⟨fun c => ret _ _ _ (by ((try simp only []); repeat first | exact HLe.refl _ | refine HLe.cons (by simp only [hget, Nat.reduceEqDiff, Nat.left_eq_add, Nat.add_eq_left, nm_ne2, nm_en2, nm_ne3, nm_en3, nm_ne4, nm_en4, nm_ne5, nm_en5, reduceIte, ↓reduceIte] <;> first | rfl | ((repeat rw [if_neg (by omega)]) <;> rfl)) ?_ | refine HLe.skip hnm (by omega) ?_ | refine HLe.frz hnm (by omega) ?_ | refine HLe.del hnm (by omega) ?_)) (by rw [c]; rfl), fun c => ret _ _ _ (by ((try simp only []); repeat first | exact HLe.refl _ | refine HLe.cons (by simp only [hget, Nat.reduceEqDiff, Nat.left_eq_add, Nat.add_eq_left, nm_ne2, nm_en2, nm_ne3, nm_en3, nm_ne4, nm_en4, nm_ne5, nm_en5, reduceIte, ↓reduceIte] <;> first | rfl | ((repeat rw [if_neg (by omega)]) <;> rfl)) ?_ | refine HLe.skip hnm (by omega) ?_ | refine HLe.frz hnm (by omega) ?_ | refine HLe.del hnm (by omega) ?_)) (by rw [c]; rfl)⟩
  · exact hsp.elim

def WSNext1 : Opts := mkWE 7 [] [] [] 171 [] []
def icSNext1 : IC := (.seq (.seq (.ops [(.u (.box 2 0 (.s 0))), (.u (.mov 3 (.c (.bool false))))]) (.tr [2, 1])) (.seq (.seq (.ops [(.u (.ld 4 (.strct [(.int .i64), (.int .i64), (.int .i64)]) (.s 2))), (.u (.ld 5 (.int .i64) (.s 1))), (.u (.call 6 (.c (.clo 98 [])) [(.s 4), (.s 5)] [none, none] true)), (.u (.mov 3 (.s 6)))]) (.tr [3])) .ret))
def rsSNext1 : List RV := [(.t 3)]
theorem irSNext1 : fnIR Tryd.prog WSNext1 97 = some (icSNext1, rsSNext1) := by kernel_rfl
def spSNext1 : FSpec := fun args h nx K => match args with
  | [.agg [.int .i64 e, .int .i64 f, .int .i64 t], .ptr pn 0] => cOk (hget h pn) ∧ K (.bool (decide (f < cI (hget h pn)) && decide (cI (hget h pn) ≤ t))) h
  | _ => False
theorem vSNext1 {E : Nat → Value} (hE : Errs2 Tryd.prog (some 171) E) : Valid Tryd.prog E (gs []) 97 spSNext1 := by
  refine valid_go (W := WSNext1) hE (allValid_bot.add (vSHas hE)) irSNext1 (by decide) (fun args h nx K hsp hok hnm => ?_)
  unfold spSNext1 at hsp
  split at hsp
  · rename_i e f t pn
    obtain ⟨h1, hsp⟩ := hsp
    have e1 := cOk_spec h1
    generalize cI (hget h pn) = n at *
    have n1 : (nx = pn) = False := eq_false (by have := (hnm pn _ e1).1; omega)
    refine ⟨by simp [WSNext1, mkW, mkWE], fun Q hQ => ?_⟩
    simp only [icSNext1, go_sem, goD_calls, eq_self, implies_true, Int.reduceEq, Int.reduceBEq, Int.reduceBNe, Int.reduceLE, Int.reduceLT, Int.reduceAdd, Int.reduceSub, Int.reduceMul, Int.reduceNeg, Nat.reduceMul, Nat.reduceSub, Nat.reduceLeDiff, Nat.reduceLT, Nat.reduceEqDiff, Nat.reduceAdd, reduceCtorEq, ↓reduceIte, reduceIte, e1, n1, spSHas]
    exact (hQ _ (fin_t (.bool _) rfl rfl hnm (by ((try simp only []); repeat first | exact HLe.refl _ | refine HLe.cons (by simp only [hget, Nat.reduceEqDiff, Nat.left_eq_add, Nat.add_eq_left, nm_ne2, nm_en2, nm_ne3, nm_en3, nm_ne4, nm_en4, nm_ne5, nm_en5, reduceIte, ↓reduceIte] <;> first | rfl | ((repeat rw [if_neg (by omega)]) <;> rfl)) ?_ | refine HLe.skip hnm (by omega) ?_ | refine HLe.frz hnm (by omega) ?_ | refine HLe.del hnm (by omega) ?_)) hsp)).1
  · exact hsp.elim

def WSIndexF : Opts := mkWE 19 [] [] [] 171 [] []
def icSIndexF : IC := (.seq (.seq (.ops [(.u (.mov 4 (.c (.int .i64 0))))]) (.tr [1, 0])) (.seq (.seq (.seq (.ops [(.u (.mov 6 (.s 0))), (.u (.len 7 false (.s 6))), (.u (.mov 8 (.c (.int .i64 0))))]) (.tr [7, 1, 0, 8])) (.block 0 (.loop (.seq (.seq (.ops [(.u (.cmp 9 .lss (.s 8) (.s 7)))]) (.tr [9, 8, 7, 1, 0])) (.seq (.cond (.s 9) .skip (.exit 0)) (.seq (.block 1 (.seq (.seq (.ops [(.u (.mov 10 (.s 8))), (.u (.mov 5 (.s 10)))]) (.tr [5, 8, 7, 1, 0])) (.seq (.seq (.ops [(.u (.mov 11 (.s 1))), (.u (.mov 12 (.s 0))), (.u (.mov 13 (.s 5))), (.u (.iad 14 41 (.strct [(.int .i64), (.int .i64), (.int .i64)]) (.s 12) (.s 13))), (.u (.ld 15 (.strct [(.int .i64), (.int .i64), (.int .i64)]) (.s 14))), (.u (.call 16 (.s 11) [(.s 15)] [none] true))]) (.tr [16, 5, 8, 7, 1, 0])) (.cond (.s 16) (.seq (.seq (.ops [(.u (.mov 17 (.s 5))), (.u (.mov 4 (.s 17)))]) (.tr [4])) .ret) .skip)))) (.seq (.ops [(.u (.bin 18 .add .i64 (.s 8) (.c (.int .i64 1)))), (.u (.mov 8 (.s 18)))]) (.tr [7, 1, 0, 8])))))))) (.seq (.seq (.ops [(.u (.mov 4 (.c (.int .i64 (-1)))))]) (.tr [4])) .ret)))
def rsSIndexF : List RV := [(.t 4)]
theorem irSIndexF : fnIR Tryd.prog WSIndexF 96 = some (icSIndexF, rsSIndexF) := by kernel_rfl
def spSIndexF : FSpec := fun args h nx K => match args with
  | [.dat (.slice 41) d, .clo f [.ptr pn 0]] => f = 97 ∧ cOk (hget h pn) ∧ K (.int .i64 (firstI (hasP (cI (hget h pn))) d.l)) h
  | _ => False
set_option maxHeartbeats 1000000 in
theorem idx_walk {Γ : Tab} {h : Heap} {nx : Nat} {K : SV → Heap → Prop} (hnm : HLt h nx) {Q : Ex → SSt → Prop} (hQ : ∀ S', Fin nx K rsSIndexF S' → Q .ret S' ∧ Q .nrm S') {l : List D} (hl : l.length ≤ maxLen) {f : FuncId} {caps : List SV} (hc : SV.ltL nx caps) (p : D → Bool)
    (hf : ∀ x K', K' (.bool (p x)) h → Γ f ([.agg [.int .i64 (x.fld 0).i, .int .i64 (x.fld 1).i, .int .i64 (x.fld 2).i]] ++ caps) h nx K') (hK : K (.int .i64 (firstI p l)) h) :
    go Γ nx Q icSIndexF [] { f := frOf 0 [.dat (.slice 41) (.list l), .clo f caps], h := h, nx := nx } := by
  have hml : maxLen ≤ 9223372036854775807 := by decide
  have hren := fun (π : Nat → Nat) (e : ∀ i, i < nx → π i = i) => svL_ren_lt e caps hc
  have hrid : SV.renL (fun n => n) caps = caps := svL_ren_id caps
  simp only [icSIndexF, go_sem, goD_calls, eq_self, implies_true, Int.reduceEq, Int.reduceBEq, Int.reduceBNe, Int.reduceLE, Int.reduceLT, Int.reduceAdd, Int.reduceSub, Int.reduceMul, Int.reduceNeg, Nat.reduceMul, Nat.reduceSub, Nat.reduceLeDiff, Nat.reduceLT, Nat.reduceEqDiff, Nat.reduceAdd, reduceCtorEq, ↓reduceIte, reduceIte, list_l]
  refine go_loop (α := { i : Nat // i ≤ l.length ∧ ∀ j, j < i → p (l.getD j .nil) = false }) (I := fun i => { f := [(7, .int .i64 l.length), (1, .clo f caps), (0, .dat (.slice 41) (.list l)), (8, .int .i64 i.1)], h := h, nx := nx }) (μ := fun i => l.length - i.1) _ _ _ ⟨0, by omega, fun j hj => by omega⟩ ?_ (fun i B hB => ?_)
  · refine leq_id ?_ ?_ (by ((try simp only []); repeat first | exact HLe.refl _ | refine HLe.cons (by simp only [hget, Nat.reduceEqDiff, Nat.left_eq_add, Nat.add_eq_left, nm_ne2, nm_en2, nm_ne3, nm_en3, nm_ne4, nm_en4, nm_ne5, nm_en5, reduceIte, ↓reduceIte] <;> first | rfl | ((repeat rw [if_neg (by omega)]) <;> rfl)) ?_ | refine HLe.skip hnm (by omega) ?_ | refine HLe.frz hnm (by omega) ?_ | refine HLe.del hnm (by omega) ?_)) (by (repeat first | exact HLt.mono hnm (by simp only [] <;> omega) | refine HLt.cons (by simp only [] <;> omega) (by simp only [Tok.lt, SV.ltL, SV.lt, and_true, true_and] <;> omega) ?_)) (by simp only [] <;> omega)
    · simp only [frEq_cons, frEq_nil, frIn_cons, frIn_nil, and_true, fget_cons, Nat.reduceEqDiff, reduceIte, ↓reduceIte, true_and, SV.ren, SV.renL, ren1]
      rfl
    · exact ⟨trivial, hc, trivial, trivial, trivial⟩
  · obtain ⟨i, hi, hno⟩ := i
    by_cases hil : i < l.length
    · have c2 : decide ((i : Int) < (l.length : Int)) = true := decide_eq_true (by omega)
      simp only [go_sem, goD_calls, eq_self, implies_true, Int.reduceEq, Int.reduceBEq, Int.reduceBNe, Int.reduceLE, Int.reduceLT, Int.reduceAdd, Int.reduceSub, Int.reduceMul, Int.reduceNeg, Nat.reduceMul, Nat.reduceSub, Nat.reduceLeDiff, Nat.reduceLT, Nat.reduceEqDiff, Nat.reduceAdd, reduceCtorEq, ↓reduceIte, reduceIte, list_l, c2, Int.toNat_natCast]
      refine ⟨by omega, hf _ _ ?_⟩
      simp only [go_sem, goD_calls, eq_self, implies_true, Int.reduceEq, Int.reduceBEq, Int.reduceBNe, Int.reduceLE, Int.reduceLT, Int.reduceAdd, Int.reduceSub, Int.reduceMul, Int.reduceNeg, Nat.reduceMul, Nat.reduceSub, Nat.reduceLeDiff, Nat.reduceLT, Nat.reduceEqDiff, Nat.reduceAdd, reduceCtorEq, ↓reduceIte, reduceIte]
      refine ⟨fun hp => ?_, fun hp => ⟨by rw [min_i64, max_i64]; omega, hB _ ⟨i + 1, by omega, fun j hj => ?_⟩ (by simp only []; omega) ?_⟩⟩
      · refine (hQ _ (fin_t (.int .i64 i) rfl rfl hnm (by ((try simp only []); repeat first | exact HLe.refl _ | refine HLe.cons (by simp only [hget, Nat.reduceEqDiff, Nat.left_eq_add, Nat.add_eq_left, nm_ne2, nm_en2, nm_ne3, nm_en3, nm_ne4, nm_en4, nm_ne5, nm_en5, reduceIte, ↓reduceIte] <;> first | rfl | ((repeat rw [if_neg (by omega)]) <;> rfl)) ?_ | refine HLe.skip hnm (by omega) ?_ | refine HLe.frz hnm (by omega) ?_ | refine HLe.del hnm (by omega) ?_)) ?_)).1
        rw [← firstI_some hil hno hp]; exact hK
      · by_cases e : j = i
        · subst e; exact hp
        · exact hno j (by omega)
      · refine leq_id ?_ ?_ ?_ ?_ ?_
        · simp only [frEq_cons, frEq_nil, frIn_cons, frIn_nil, and_true, fget_cons, Nat.reduceEqDiff, reduceIte, ↓reduceIte, true_and, SV.ren, SV.renL, ren1]
          simp
        · exact ⟨trivial, SV.ltL_mono (by simp only [] <;> omega) hc, trivial, trivial, trivial⟩
        · ((try simp only []); repeat first | exact HLe.refl _ | refine HLe.cons (by simp only [hget, Nat.reduceEqDiff, Nat.left_eq_add, Nat.add_eq_left, nm_ne2, nm_en2, nm_ne3, nm_en3, nm_ne4, nm_en4, nm_ne5, nm_en5, reduceIte, ↓reduceIte] <;> first | rfl | ((repeat rw [if_neg (by omega)]) <;> rfl)) ?_ | refine HLe.skip hnm (by omega) ?_ | refine HLe.frz hnm (by omega) ?_ | refine HLe.del hnm (by omega) ?_)
        · (repeat first | exact HLt.mono hnm (by simp only [] <;> omega) | refine HLt.cons (by simp only [] <;> omega) (by simp only [Tok.lt, SV.ltL, SV.lt, and_true, true_and] <;> omega) ?_)
        · simp only [] <;> omega
    · have c2 : decide ((i : Int) < (l.length : Int)) = false := decide_eq_false (by omega)
      simp only [go_sem, goD_calls, eq_self, implies_true, Int.reduceEq, Int.reduceBEq, Int.reduceBNe, Int.reduceLE, Int.reduceLT, Int.reduceAdd, Int.reduceSub, Int.reduceMul, Int.reduceNeg, Nat.reduceMul, Nat.reduceSub, Nat.reduceLeDiff, Nat.reduceLT, Nat.reduceEqDiff, Nat.reduceAdd, reduceCtorEq, ↓reduceIte, reduceIte, list_l, c2]
      refine (hQ _ (fin_t (.int .i64 (-1)) rfl rfl hnm (by ((try simp only []); repeat first | exact HLe.refl _ | refine HLe.cons (by simp only [hget, Nat.reduceEqDiff, Nat.left_eq_add, Nat.add_eq_left, nm_ne2, nm_en2, nm_ne3, nm_en3, nm_ne4, nm_en4, nm_ne5, nm_en5, reduceIte, ↓reduceIte] <;> first | rfl | ((repeat rw [if_neg (by omega)]) <;> rfl)) ?_ | refine HLe.skip hnm (by omega) ?_ | refine HLe.frz hnm (by omega) ?_ | refine HLe.del hnm (by omega) ?_)) ?_)).1
      rw [firstI_none (fun j hj => hno j (by omega))] at hK; exact hK

theorem vSIndexF {E : Nat → Value} (hE : Errs2 Tryd.prog (some 171) E) : Valid Tryd.prog E (gs []) 96 spSIndexF := by
  refine valid_go (W := WSIndexF) hE (allValid_bot.add (vSNext1 hE)) irSIndexF (by decide) (fun args h nx K hsp hok hnm => ?_)
  unfold spSIndexF at hsp
  split at hsp
  · rename_i d f pn
    obtain ⟨rfl, h1, hsp⟩ := hsp
    obtain ⟨hd, _⟩ := hok
    simp only [SV.ok] at hd
    obtain ⟨hd1, hd2, hd3⟩ := Wt.slice hd
    have l1 := (hnm pn _ (cOk_spec h1)).1
    generalize d.l = l at hsp hd1 hd2 hd3
    subst hd1
    refine ⟨by simp [WSIndexF, mkW, mkWE], fun Q hQ => ?_⟩
    refine idx_walk hnm hQ hd2 ⟨l1, trivial⟩ (hasP (cI (hget h pn))) (fun x K' hK' => ?_) hsp
    simp only [go_sem, goD_calls, eq_self, implies_true, Int.reduceEq, Int.reduceBEq, Int.reduceBNe, Int.reduceLE, Int.reduceLT, Int.reduceAdd, Int.reduceSub, Int.reduceMul, Int.reduceNeg, Nat.reduceMul, Nat.reduceSub, Nat.reduceLeDiff, Nat.reduceLT, Nat.reduceEqDiff, Nat.reduceAdd, reduceCtorEq, ↓reduceIte, reduceIte, spSNext1]
    refine ⟨h1, ?_⟩
    have : hasP (cI (hget h pn)) x = (decide ((x.fld 1).i < cI (hget h pn)) && decide (cI (hget h pn) ≤ (x.fld 2).i)) := by
      unfold hasP; rw [hasD_dec]
    rw [← this]; exact hK'
  · exact hsp.elim

def WSTop : Opts := mkWE 13 [] [] [] 171 [] []
def icSTop : IC := (.seq (.seq (.ops [(.u (.mov 2 (.c (.int .i64 0))))]) (.tr [0])) (.seq (.seq (.seq (.ops [(.u (.mov 3 (.s 0))), (.u (.len 4 false (.s 3))), (.u (.cmp 5 .eql (.s 4) (.c (.int .i64 0))))]) (.tr [5, 0])) (.cond (.s 5) (.seq (.seq (.ops [(.u (.mov 2 (.c (.int .i64 0))))]) (.tr [2])) .ret) .skip)) (.seq (.seq (.ops [(.u (.mov 6 (.s 0))), (.u (.mov 7 (.s 0))), (.u (.len 8 false (.s 7))), (.u (.bin 9 .sub .i64 (.s 8) (.c (.int .i64 1)))), (.u (.iad 10 41 (.strct [(.int .i64), (.int .i64), (.int .i64)]) (.s 6) (.s 9))), (.u (.fad 11 2 2 (.int .i64) 41 (.s 10))), (.u (.ld 12 (.int .i64) (.s 11))), (.u (.mov 2 (.s 12)))]) (.tr [2])) .ret)))
def rsSTop : List RV := [(.t 2)]
theorem irSTop : fnIR Tryd.prog WSTop 100 = some (icSTop, rsSTop) := by kernel_rfl
def spSTop : FSpec := fun args h nx K => match args with
  | [.dat (.slice 41) d] => K (.int .i64 (topF d.l)) h
  | _ => False
theorem vSTop {E : Nat → Value} (hE : Errs2 Tryd.prog (some 171) E) : Valid Tryd.prog E (gs []) 100 spSTop := by
  refine valid_go (W := WSTop) hE allValid_bot irSTop (by decide) (fun args h nx K hsp hok hnm => ?_)
  unfold spSTop at hsp
  split at hsp
  · rename_i d
    obtain ⟨hd, _⟩ := hok
    simp only [SV.ok] at hd
    obtain ⟨hd1, hd2, hd3⟩ := Wt.slice hd
    generalize d.l = l at hsp hd1 hd2 hd3
    subst hd1
    have hml : maxLen ≤ 9223372036854775807 := by decide
    refine ⟨by simp [WSTop, mkW, mkWE], fun Q hQ => ?_⟩
    by_cases h0 : l.length = 0
    · have c : ((l.length : Int) == 0) = true := by rw [h0]; rfl
      simp only [icSTop, go_sem, goD_calls, eq_self, implies_true, Int.reduceEq, Int.reduceBEq, Int.reduceBNe, Int.reduceLE, Int.reduceLT, Int.reduceAdd, Int.reduceSub, Int.reduceMul, Int.reduceNeg, Nat.reduceMul, Nat.reduceSub, Nat.reduceLeDiff, Nat.reduceLT, Nat.reduceEqDiff, Nat.reduceAdd, reduceCtorEq, ↓reduceIte, reduceIte, list_l, c]
      refine (hQ _ (fin_t (.int .i64 0) rfl rfl hnm (by ((try simp only []); repeat first | exact HLe.refl _ | refine HLe.cons (by simp only [hget, Nat.reduceEqDiff, Nat.left_eq_add, Nat.add_eq_left, nm_ne2, nm_en2, nm_ne3, nm_en3, nm_ne4, nm_en4, nm_ne5, nm_en5, reduceIte, ↓reduceIte] <;> first | rfl | ((repeat rw [if_neg (by omega)]) <;> rfl)) ?_ | refine HLe.skip hnm (by omega) ?_ | refine HLe.frz hnm (by omega) ?_ | refine HLe.del hnm (by omega) ?_)) ?_)).1
      unfold topF at hsp; rw [if_pos h0] at hsp; exact hsp
    · have c : ((l.length : Int) == 0) = false := by rw [beq_eq_false_iff_ne]; omega
      have ei : ((l.length : Int) - 1).toNat = l.length - 1 := by omega
      simp only [icSTop, go_sem, goD_calls, eq_self, implies_true, Int.reduceEq, Int.reduceBEq, Int.reduceBNe, Int.reduceLE, Int.reduceLT, Int.reduceAdd, Int.reduceSub, Int.reduceMul, Int.reduceNeg, Nat.reduceMul, Nat.reduceSub, Nat.reduceLeDiff, Nat.reduceLT, Nat.reduceEqDiff, Nat.reduceAdd, reduceCtorEq, ↓reduceIte, reduceIte, list_l, c, ei, min_i64, max_i64]
      refine ⟨by omega, by omega, rfl, (hQ _ (fin_t (.int .i64 _) rfl rfl hnm (by ((try simp only []); repeat first | exact HLe.refl _ | refine HLe.cons (by simp only [hget, Nat.reduceEqDiff, Nat.left_eq_add, Nat.add_eq_left, nm_ne2, nm_en2, nm_ne3, nm_en3, nm_ne4, nm_en4, nm_ne5, nm_en5, reduceIte, ↓reduceIte] <;> first | rfl | ((repeat rw [if_neg (by omega)]) <;> rfl)) ?_ | refine HLe.skip hnm (by omega) ?_ | refine HLe.frz hnm (by omega) ?_ | refine HLe.del hnm (by omega) ?_)) ?_)).1⟩
      unfold topF at hsp; rw [if_neg h0] at hsp; exact hsp
  · exact hsp.elim
end Go.Proofs.YtmjenjccinfbaaaDoor
