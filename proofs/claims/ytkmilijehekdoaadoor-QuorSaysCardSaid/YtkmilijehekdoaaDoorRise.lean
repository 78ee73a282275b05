/- Numbers rising, each once: the document's Rising; Among. -/
import Derived.Test.YtkmilijehekdoaaDoorErr
import Derived.Test.YtkmilijehekdoaaDoorFin
import Derived.Test.YtkmilijehekdoaaDoorLeq
namespace Go.Proofs.YtkmilijehekdoaaDoor
set_option linter.unusedVariables false
set_option linter.unusedSimpArgs false
open Go Go.Fw
attribute [local go_sem] walkSet evMdl evMupD evMup evLkp frpL eltP eltV eltK preF preP prePt prePd frzP evNlq ev frOf oget ogets argSs argS evMm frzL evBin evWrp evShf evCmp evUna evNil evBeq evLd evSt evFad evIad evAad evLen evSln evEls evApp evParts evSlc evNlc evMif evPck evFld evBld evTas evIfq evSeq evSl0 evBxf evAgl evAgq evBsf hget hset hdel cellAt arrAt setCellAt setArrAt takeC lenC svCells SV.okc SV.one ldSV Fw.isAgg explode explodeL toD toDL toD1 Ty.size Ty.sizeL frz1 Fr.sub Heap.sub Tok.sub SV.sub SV.subL

/-! ### In plain Lean -/
def insI (l : List Int) (x : Int) : List Int := if x ∈ l then l else l.filter (fun y => decide (y < x)) ++ x :: l.filter (fun y => decide (x < y))
def riseI (z : List Int) : List Int := z.foldl insI []
theorem ins_mem {l : List Int} {x y : Int} : y ∈ insI l x ↔ y ∈ l ∨ y = x := by
  unfold insI
  split
  · rename_i h
    constructor
    · exact fun h => .inl h
    · rintro (h1 | rfl)
      · exact h1
      · exact h
  · rename_i h
    simp only [List.mem_append, List.mem_filter, List.mem_cons, decide_eq_true_eq]
    constructor
    · rintro (h1 | h1 | h1)
      · exact .inl h1.1
      · exact .inr h1
      · exact .inl h1.1
    · rintro (h1 | h1)
      · by_cases h2 : y < x
        · exact .inl ⟨h1, h2⟩
        · have : y ≠ x := fun e => h (e ▸ h1)
          exact .inr (.inr ⟨h1, by omega⟩)
      · exact .inr (.inl h1)
theorem ins_sorted {l : List Int} (hl : l.Pairwise (· < ·)) (x : Int) : (insI l x).Pairwise (· < ·) := by
  unfold insI
  split
  · exact hl
  · rw [List.pairwise_append]
    refine ⟨hl.filter _, List.pairwise_cons.2 ⟨fun y hy => ?_, hl.filter _⟩, fun a ha b hb => ?_⟩
    · exact of_decide_eq_true (List.mem_filter.1 hy).2
    · have h1 := of_decide_eq_true (List.mem_filter.1 ha).2
      rcases List.mem_cons.1 hb with rfl | hb
      · exact h1
      · have h2 := of_decide_eq_true (List.mem_filter.1 hb).2
        omega
theorem rise_fold (z : List Int) : ∀ l : List Int, l.Pairwise (· < ·) → (z.foldl insI l).Pairwise (· < ·) ∧ ∀ x, x ∈ z.foldl insI l ↔ x ∈ l ∨ x ∈ z := by
  induction z with
  | nil => exact fun l hl => ⟨hl, fun x => by simp⟩
  | cons a z ih =>
    intro l hl
    obtain ⟨h1, h2⟩ := ih (insI l a) (ins_sorted hl a)
    refine ⟨h1, fun x => ?_⟩
    rw [List.foldl_cons, h2, ins_mem, List.mem_cons, or_assoc]
theorem rise_sorted (z : List Int) : (riseI z).Pairwise (· < ·) := (rise_fold z [] List.Pairwise.nil).1
theorem rise_mem {z : List Int} {x : Int} : x ∈ riseI z ↔ x ∈ z := by rw [riseI, (rise_fold z [] List.Pairwise.nil).2]; simp
theorem nodup_lt {l : List Int} (h : l.Pairwise (· < ·)) : l.Nodup := h.imp (fun h => by omega)
theorem rising_uniq {l m : List Int} (hl : l.Pairwise (· < ·)) (hm : m.Pairwise (· < ·)) (h : ∀ x, x ∈ l ↔ x ∈ m) : l = m :=
  List.Perm.eq_of_pairwise (le := (· ≤ ·)) (fun a b _ _ h1 h2 => by omega) (hl.imp (fun h => by omega)) (hm.imp (fun h => by omega)) ((List.perm_ext_iff_of_nodup (nodup_lt hl) (nodup_lt hm)).2 h)
theorem rise_eq {z w : List Int} (hw : w.Pairwise (· < ·)) (h : ∀ x, x ∈ z ↔ x ∈ w) : riseI z = w := rising_uniq (rise_sorted z) hw (fun x => by rw [rise_mem, h])
theorem rise_id {z : List Int} (h : z.Pairwise (· < ·)) : riseI z = z := rise_eq h (fun _ => Iff.rfl)
theorem rise_snoc (z : List Int) (x : Int) : riseI (z ++ [x]) = insI (riseI z) x := by unfold riseI; rw [List.foldl_append]; rfl
theorem ins_len (l : List Int) (x : Int) : (insI l x).length ≤ l.length + 1 := by
  unfold insI
  split
  · omega
  · rw [List.length_append, List.length_cons]
    have : (l.filter (fun y => decide (y < x))).length + (l.filter (fun y => decide (x < y))).length ≤ l.length := by
      rw [← List.countP_eq_length_filter, ← List.countP_eq_length_filter]
      induction l with
      | nil => simp
      | cons a l ih =>
        have ih := ih (fun h => by rename_i h2; exact h2 (List.mem_cons_of_mem _ h))
        rw [List.countP_cons, List.countP_cons, List.length_cons]
        simp only [decide_eq_true_eq]
        split <;> split <;> omega
    omega
theorem rise_len (z : List Int) : (riseI z).length ≤ z.length := by
  have : ∀ l : List Int, (z.foldl insI l).length ≤ l.length + z.length := by
    induction z with
    | nil => intro l; simp
    | cons a z ih =>
      intro l
      have h1 := ih (insI l a)
      have h2 := ins_len l a
      rw [List.foldl_cons, List.length_cons]
      omega
  have h := this []
  unfold riseI
  simpa using h
/-- Where a number stands in what rises. -/
theorem ins_at {l : List Int} {x : Int} {k : Nat} (hl : l.Pairwise (· < ·)) (hk : k ≤ l.length) (h : ∀ j, j < k → l.getD j 0 < x) (h2 : k < l.length → ¬ l.getD k 0 < x) :
    insI l x = if k < l.length ∧ l.getD k 0 = x then l else l.take k ++ x :: l.drop k := by
  have hlt : ∀ i j : Nat, i < j → j < l.length → l.getD i 0 < l.getD j 0 := fun i j hij hj => by
    have := List.pairwise_iff_getElem.1 hl i j (by omega) hj hij
    rw [List.getD_eq_getElem?_getD, List.getElem?_eq_getElem (by omega), List.getD_eq_getElem?_getD, List.getElem?_eq_getElem hj]
    exact this
  have hge : ∀ i (hi : i < l.length), l[i] = l.getD i 0 := fun i hi => by rw [List.getD_eq_getElem?_getD, List.getElem?_eq_getElem hi]; rfl
  unfold insI
  by_cases hx : x ∈ l
  · rw [if_pos hx]
    obtain ⟨i, hi, e⟩ := List.mem_iff_getElem.1 hx
    rw [hge i hi] at e
    have hik : i = k := by
      rcases Nat.lt_trichotomy i k with h3 | h3 | h3
      · have := h i h3; omega
      · exact h3
      · have h4 := h2 (by omega)
        have := hlt k i h3 hi
        omega
    subst hik
    rw [if_pos ⟨hi, e⟩]
  · rw [if_neg hx]
    have hne : ¬ (k < l.length ∧ l.getD k 0 = x) := fun ⟨h3, h4⟩ => hx (by rw [← h4, ← hge k h3]; exact List.getElem_mem h3)
    rw [if_neg hne]
    have e1 : l.take k ++ l.drop k = l := List.take_append_drop k l
    have f1 : ∀ y ∈ l.take k, y < x := fun y hy => by
      obtain ⟨i, hi, e⟩ := List.mem_iff_getElem.1 hy
      rw [List.length_take] at hi
      rw [List.getElem_take, hge i (by omega)] at e
      rw [← e]
      exact h i (by omega)
    have f2 : ∀ y ∈ l.drop k, x < y := fun y hy => by
      obtain ⟨i, hi, e⟩ := List.mem_iff_getElem.1 hy
      rw [List.length_drop] at hi
      rw [List.getElem_drop, hge (k + i) (by omega)] at e
      have h3 := h2 (by omega)
      have h4 : ¬ l.getD k 0 = x := fun e => hne ⟨by omega, e⟩
      by_cases hi0 : i = 0
      · subst hi0; rw [Nat.add_zero] at e; omega
      · have := hlt k (k + i) (by omega) (by omega)
        omega
    have g1 : l.filter (fun y => decide (y < x)) = l.take k := by
      conv => lhs; rw [← e1]
      rw [List.filter_append, List.filter_eq_self.2 (fun y hy => decide_eq_true (f1 y hy)), List.filter_eq_nil_iff.2 (fun y hy => by have := f2 y hy; simp; omega), List.append_nil]
    have g2 : l.filter (fun y => decide (x < y)) = l.drop k := by
      conv => lhs; rw [← e1]
      rw [List.filter_append, List.filter_eq_self.2 (fun y hy => decide_eq_true (f2 y hy)), List.filter_eq_nil_iff.2 (fun y hy => by have := f1 y hy; simp; omega), List.nil_append]
    rw [g1, g2]

def riseL (l : List D) : List D := (riseI (l.map D.i)).map D.int
theorem riseL_len (l : List D) : (riseL l).length ≤ l.length := by
  unfold riseL
  rw [List.length_map]
  exact Nat.le_trans (rise_len _) (by simp)
theorem getD_int (S : List Int) (i : Nat) : ((S.map D.int).getD i .nil).i = S.getD i 0 := by
  rw [List.getD_eq_getElem?_getD, List.getElem?_map, List.getD_eq_getElem?_getD]
  cases S[i]? <;> rfl
theorem riseL_step {l : List D} {i : Nat} (hi : i < l.length) : riseI ((l.take (i + 1)).map D.i) = insI (riseI ((l.take i).map D.i)) (l.getD i .nil).i := by
  rw [List.take_add_one, List.getElem?_eq_getElem hi, List.getD_eq_getElem?_getD, List.getElem?_eq_getElem hi, List.map_append]
  exact rise_snoc _ _

def WRRising : Opts := mkWE 66 [] [] [] 152 [] []
def icRRising : IC := (.seq (.seq (.ops [(.u (.mov 2 (.c .nils)))]) (.tr [0])) (.seq (.seq (.ops [(.u (.mov 3 (.c .nils)))]) (.tr [0, 3])) (.seq (.seq (.seq (.ops [(.u (.mov 4 (.c (.int .i64 0))))]) (.tr [0, 4, 3])) (.block 0 (.loop (.seq (.seq (.seq (.ops [(.u (.mov 7 (.s 4))), (.u (.mov 8 (.s 0))), (.u (.len 9 false (.s 8))), (.u (.cmp 10 .lss (.s 7) (.s 9)))]) (.tr [10, 4, 0, 3])) (.cond (.s 10) .skip (.exit 0))) (.seq (.block 1 (.seq (.seq (.ops [(.u (.mov 5 (.c (.int .i64 0))))]) (.tr [5, 4, 0, 3])) (.seq (.block 2 (.loop (.seq (.seq (.seq (.rgn [] [(false, (.u (.mov 13 (.s 5)))), (false, (.u (.mov 14 (.s 3)))), (false, (.u (.len 15 false (.s 14)))), (false, (.u (.cmp 16 .lss (.s 13) (.s 15)))), (false, (.u (.mov 17 (.s 16)))), (false, (.g 17 true (some 18) (.mov 18 (.s 3)))), (false, (.g 17 true (some 19) (.mov 19 (.s 5)))), (false, (.g 17 true (some 20) (.iad 20 3 (.int .i64) (.s 18) (.s 19)))), (false, (.g 17 true (some 21) (.ld 21 (.int .i64) (.s 20)))), (false, (.g 17 true (some 22) (.mov 22 (.s 0)))), (false, (.g 17 true (some 23) (.mov 23 (.s 4)))), (false, (.g 17 true (some 24) (.iad 24 3 (.int .i64) (.s 22) (.s 23)))), (false, (.g 17 true (some 25) (.ld 25 (.int .i64) (.s 24)))), (false, (.g 17 true (some 26) (.cmp 26 .lss (.s 21) (.s 25)))), (false, (.u (.pck 27 (.s 17) (.s 26) (.c (.bool false)))))]) (.tr [27, 5, 4, 0, 3])) (.cond (.s 27) .skip (.exit 2))) (.block 3 (.seq (.ops [(.u (.mov 28 (.s 5))), (.u (.bin 29 .add .i64 (.s 28) (.c (.int .i64 1)))), (.u (.mov 5 (.s 29)))]) (.tr [5, 4, 0, 3])))))) (.seq (.seq (.seq (.rgn [] [(false, (.u (.mov 30 (.s 5)))), (false, (.u (.mov 31 (.s 3)))), (false, (.u (.len 32 false (.s 31)))), (false, (.u (.cmp 33 .lss (.s 30) (.s 32)))), (false, (.u (.mov 34 (.s 33)))), (false, (.g 34 true (some 35) (.mov 35 (.s 3)))), (false, (.g 34 true (some 36) (.mov 36 (.s 5)))), (false, (.g 34 true (some 37) (.iad 37 3 (.int .i64) (.s 35) (.s 36)))), (false, (.g 34 true (some 38) (.ld 38 (.int .i64) (.s 37)))), (false, (.g 34 true (some 39) (.mov 39 (.s 0)))), (false, (.g 34 true (some 40) (.mov 40 (.s 4)))), (false, (.g 34 true (some 41) (.iad 41 3 (.int .i64) (.s 39) (.s 40)))), (false, (.g 34 true (some 42) (.ld 42 (.int .i64) (.s 41)))), (false, (.g 34 true (some 43) (.cmp 43 .eql (.s 38) (.s 42)))), (false, (.u (.pck 44 (.s 34) (.s 43) (.c (.bool false)))))]) (.tr [44, 3, 5, 4, 0])) (.cond (.s 44) (.exit 1) .skip)) (.seq (.seq (.rgn [(.s 3)] [(false, (.u (.mov 45 (.s 3)))), (false, (.u (.len 46 false (.s 45)))), (false, (.u (.bin 47 .add .i64 (.s 46) (.c (.int .i64 1))))), (false, (.u (.mov 49 (.s 3)))), (false, (.u (.mov 50 (.s 5)))), (false, (.u (.slc 51 3 (.s 49) none (some (.s 50))))), (false, (.u (.mk 48 3 (.int .i64) 8 (.int 0) (.c (.int .i64 0)) (.s 47)))), (false, (.u (.app 52 3 (.int .i64) 8 (.s 48) (.s 51)))), (false, (.u (.mov 6 (.s 52))))]) (.tr [6, 3, 5, 4, 0])) (.seq (.seq (.ops [(.u (.mov 53 (.s 6))), (.u (.mov 54 (.s 0))), (.u (.mov 55 (.s 4))), (.u (.iad 56 3 (.int .i64) (.s 54) (.s 55))), (.u (.ld 57 (.int .i64) (.s 56))), (.u (.bsl 58 3 (.int .i64) [(.s 57)])), (.u (.app 59 3 (.int .i64) 8 (.s 53) (.s 58))), (.u (.mov 6 (.s 59)))]) (.tr [6, 3, 5, 4, 0])) (.seq (.ops [(.u (.mov 60 (.s 6))), (.u (.mov 61 (.s 3))), (.u (.mov 62 (.s 5))), (.u (.slc 63 3 (.s 61) (some (.s 62)) none)), (.u (.app 64 3 (.int .i64) 8 (.s 60) (.s 63))), (.u (.mov 3 (.s 64)))]) (.tr [4, 0, 3])))))))) (.seq (.ops [(.u (.mov 11 (.s 4))), (.u (.bin 12 .add .i64 (.s 11) (.c (.int .i64 1)))), (.u (.mov 4 (.s 12)))]) (.tr [0, 4, 3]))))))) (.seq (.seq (.ops [(.u (.mov 65 (.s 3))), (.u (.mov 2 (.s 65)))]) (.tr [2])) .ret))))
def rsRRising : List RV := [(.t 2)]
theorem irRRising : fnIR Tryd.prog WRRising 42 = some (icRRising, rsRRising) := by kernel_rfl
def spRRising : FSpec := fun args h nx K => match args with
  | [.dat (.slice t) d] => t = 3 ∧ d.l.length ≤ 1000000000 ∧ K (.dat (.slice 3) (.list (riseL d.l))) h
  | _ => False
set_option maxHeartbeats 4000000 in
set_option maxRecDepth 8000 in
theorem vRRising {E : Nat → Value} (hE : Errs2 Tryd.prog (some 152) E) : Valid Tryd.prog E (gs []) 42 spRRising := by
  refine valid_go (W := WRRising) hE allValid_bot irRRising (by decide) (fun args h nx K hsp hok hnm => ?_)
  unfold spRRising at hsp
  split at hsp
  · rename_i t d
    obtain ⟨rfl, hlen, hK⟩ := hsp
    refine ⟨by simp [WRRising, mkW, mkWE, mkWF], fun Q hQ => ?_⟩
    obtain ⟨hd, _⟩ := hok
    simp only [SV.ok] at hd
    obtain ⟨hd1, hd2, hd3⟩ := Wt.slice hd; generalize d.l = l at *; subst hd1
    have z0 : List.replicate (Int.toNat 0) (D.int 0) = [] := rfl
    simp (maxSteps := 4000000) only [icRRising, go_sem, goD_calls, eq_self, implies_true, Int.reduceEq, Int.reduceBEq, Int.reduceBNe, Int.reduceLE, Int.reduceLT, Int.reduceAdd, Int.reduceSub, Int.reduceMul, Int.reduceNeg, Nat.reduceMul, Nat.reduceSub, Nat.reduceLeDiff, Nat.reduceLT, Nat.reduceEqDiff, Nat.reduceAdd, reduceCtorEq, ↓reduceIte, reduceIte]
    refine go_loop (α := { i : Nat // i ≤ l.length }) (I := fun i => { f := [(4, .int .i64 i.1), (0, .dat (.slice 3) (.list l)), (3, .dat (.slice 3) (.list (riseL (l.take i.1))))], h := h, nx := nx }) (μ := fun i => l.length - i.1) _ _ _ ⟨0, by omega⟩ ?_ (fun i B hB => ?_)
    · refine leq_nil (.slot 3 3 (.int .i64) rfl (.frz nx (.refl _))) ?_
      simp only [go_sem, goD_calls, eq_self, implies_true, Int.reduceEq, Int.reduceBEq, Int.reduceBNe, Int.reduceLE, Int.reduceLT, Int.reduceAdd, Int.reduceSub, Int.reduceMul, Int.reduceNeg, Nat.reduceMul, Nat.reduceSub, Nat.reduceLeDiff, Nat.reduceLT, Nat.reduceEqDiff, Nat.reduceAdd, reduceCtorEq, ↓reduceIte, reduceIte]
      refine leq_id ?_ (by (simp only [frLt_cons, frLt_nil, and_true, SV.lt, SV.ltL, true_and] <;> omega)) (by ((try simp only []); repeat first | exact HLe.refl _ | refine HLe.cons (by simp only [hget, Nat.reduceEqDiff, Nat.left_eq_add, Nat.add_eq_left, nm_ne2, nm_en2, nm_ne3, nm_en3, nm_ne4, nm_en4, nm_ne5, nm_en5, reduceIte, ↓reduceIte] <;> first | rfl | ((repeat rw [if_neg (by omega)]) <;> rfl)) ?_ | refine HLe.skip hnm (by omega) ?_ | refine HLe.frz hnm (by omega) ?_ | refine HLe.del hnm (by omega) ?_)) (by (repeat first | exact HLt.mono hnm (by simp only [] <;> omega) | refine HLt.cons (by simp only [] <;> omega) (by simp only [Tok.lt, SV.ltL, SV.lt, and_true, true_and] <;> omega) ?_)) (by simp only [] <;> omega)
      simp only [frEq_cons, frEq_nil, frIn_cons, frIn_nil, and_true, fget_cons, Nat.reduceEqDiff, reduceIte, ↓reduceIte, true_and, SV.ren, SV.renL, ren1]
      exact ⟨rfl, rfl⟩
    · obtain ⟨i, hi⟩ := i
      simp only at hB
      by_cases hil : i < l.length
      · have c1 : decide ((i : Int) < (l.length : Int)) = true := decide_eq_true (by omega)
        have hst := riseL_step hil
        obtain ⟨x, hx⟩ : ∃ x, (l.getD i .nil).i = x := ⟨_, rfl⟩
        have hRl : (riseI ((l.take i).map D.i)).length ≤ 1000000000 := Nat.le_trans (rise_len _) (by rw [List.length_map, List.length_take]; omega)
        have hRs := rise_sorted ((l.take i).map D.i)
        have e0 : riseL (l.take i) = (riseI ((l.take i).map D.i)).map D.int := rfl
        have e1 : riseL (l.take (i + 1)) = (insI (riseI ((l.take i).map D.i)) x).map D.int := by unfold riseL; rw [hst, hx]
        rw [e0]
        generalize riseI ((l.take i).map D.i) = R at hRl hRs e1
        have hgt : ∀ j, ((R.map D.int).getD j .nil).i = R.getD j 0 := getD_int R
        simp (maxSteps := 4000000) only [go_sem, goD_calls, eq_self, implies_true, Int.reduceEq, Int.reduceBEq, Int.reduceBNe, Int.reduceLE, Int.reduceLT, Int.reduceAdd, Int.reduceSub, Int.reduceMul, Int.reduceNeg, Nat.reduceMul, Nat.reduceSub, Nat.reduceLeDiff, Nat.reduceLT, Nat.reduceEqDiff, Nat.reduceAdd, reduceCtorEq, ↓reduceIte, reduceIte, c1]
        refine go_loop (α := { k : Nat // k ≤ R.length ∧ ∀ j, j < k → R.getD j 0 < x }) (I := fun k => { f := [(5, .int .i64 k.1), (4, .int .i64 i), (0, .dat (.slice 3) (.list l)), (3, .dat (.slice 3) (.list (R.map D.int)))], h := h, nx := nx }) (μ := fun k => R.length - k.1) _ _ _ ⟨0, by omega, fun j hj => absurd hj (by omega)⟩ ?_ (fun k B2 hB2 => ?_)
        · refine leq_id ?_ (by (simp only [frLt_cons, frLt_nil, and_true, SV.lt, SV.ltL, true_and] <;> omega)) (by ((try simp only []); repeat first | exact HLe.refl _ | refine HLe.cons (by simp only [hget, Nat.reduceEqDiff, Nat.left_eq_add, Nat.add_eq_left, nm_ne2, nm_en2, nm_ne3, nm_en3, nm_ne4, nm_en4, nm_ne5, nm_en5, reduceIte, ↓reduceIte] <;> first | rfl | ((repeat rw [if_neg (by omega)]) <;> rfl)) ?_ | refine HLe.skip hnm (by omega) ?_ | refine HLe.frz hnm (by omega) ?_ | refine HLe.del hnm (by omega) ?_)) (by (repeat first | exact HLt.mono hnm (by simp only [] <;> omega) | refine HLt.cons (by simp only [] <;> omega) (by simp only [Tok.lt, SV.ltL, SV.lt, and_true, true_and] <;> omega) ?_)) (by simp only [] <;> omega)
          simp only [frEq_cons, frEq_nil, frIn_cons, frIn_nil, and_true, fget_cons, Nat.reduceEqDiff, reduceIte, ↓reduceIte, true_and, SV.ren, SV.renL, ren1]
          rfl
        · obtain ⟨k, hk, hlow⟩ := k
          simp only at hB2
          have next : ∀ S', Leq nx S' { f := [(4, .int .i64 ((i + 1 : Nat) : Int)), (0, .dat (.slice 3) (.list l)), (3, .dat (.slice 3) (.list ((insI R x).map D.int)))], h := h, nx := nx } → B S' := fun S' hl => by
            refine hB _ ⟨i + 1, by omega⟩ (by simp only []; omega) ?_
            simp only [e1]
            exact hl
          by_cases hkl : k < R.length
          · have c2 : decide ((k : Int) < (R.length : Int)) = true := decide_eq_true (by omega)
            by_cases h1 : R.getD k 0 < x
            · have c3 : decide (R.getD k 0 < x) = true := decide_eq_true h1
              simp (maxSteps := 4000000) only [go_sem, goD_calls, eq_self, implies_true, Int.reduceEq, Int.reduceBEq, Int.reduceBNe, Int.reduceLE, Int.reduceLT, Int.reduceAdd, Int.reduceSub, Int.reduceMul, Int.reduceNeg, Nat.reduceMul, Nat.reduceSub, Nat.reduceLeDiff, Nat.reduceLT, Nat.reduceEqDiff, Nat.reduceAdd, reduceCtorEq, ↓reduceIte, reduceIte, c1, c2, c3, hx, hgt, List.length_map, Int.toNat_natCast, min_i64, max_i64]
              repeat refine ⟨by omega, ?_⟩
              refine hB2 _ ⟨k + 1, by omega, fun j hj => by
                by_cases e : j = k
                · exact e ▸ h1
                · exact hlow j (by omega)⟩ (by simp only []; omega) ?_
              refine leq_id ?_ (by (simp only [frLt_cons, frLt_nil, and_true, SV.lt, SV.ltL, true_and] <;> omega)) (by ((try simp only []); repeat first | exact HLe.refl _ | refine HLe.cons (by simp only [hget, Nat.reduceEqDiff, Nat.left_eq_add, Nat.add_eq_left, nm_ne2, nm_en2, nm_ne3, nm_en3, nm_ne4, nm_en4, nm_ne5, nm_en5, reduceIte, ↓reduceIte] <;> first | rfl | ((repeat rw [if_neg (by omega)]) <;> rfl)) ?_ | refine HLe.skip hnm (by omega) ?_ | refine HLe.frz hnm (by omega) ?_ | refine HLe.del hnm (by omega) ?_)) (by (repeat first | exact HLt.mono hnm (by simp only [] <;> omega) | refine HLt.cons (by simp only [] <;> omega) (by simp only [Tok.lt, SV.ltL, SV.lt, and_true, true_and] <;> omega) ?_)) (by simp only [] <;> omega)
              simp only [frEq_cons, frEq_nil, frIn_cons, frIn_nil, and_true, fget_cons, Nat.reduceEqDiff, reduceIte, ↓reduceIte, true_and, SV.ren, SV.renL, ren1]
              simp
            · have c3 : decide (R.getD k 0 < x) = false := decide_eq_false h1
              have hat := ins_at hRs hk hlow (fun _ => h1)
              by_cases h2 : R.getD k 0 = x
              · have c4 : (R.getD k 0 == x) = true := beq_iff_eq.2 h2
                rw [if_pos ⟨hkl, h2⟩] at hat
                rw [hat] at next
                simp (maxSteps := 4000000) only [go_sem, goD_calls, eq_self, implies_true, Int.reduceEq, Int.reduceBEq, Int.reduceBNe, Int.reduceLE, Int.reduceLT, Int.reduceAdd, Int.reduceSub, Int.reduceMul, Int.reduceNeg, Nat.reduceMul, Nat.reduceSub, Nat.reduceLeDiff, Nat.reduceLT, Nat.reduceEqDiff, Nat.reduceAdd, reduceCtorEq, ↓reduceIte, reduceIte, c1, c2, c3, c4, hx, hgt, List.length_map, Int.toNat_natCast, min_i64, max_i64]
                repeat refine ⟨by omega, ?_⟩
                refine next _ ?_
                refine leq_id ?_ (by (simp only [frLt_cons, frLt_nil, and_true, SV.lt, SV.ltL, true_and] <;> omega)) (by ((try simp only []); repeat first | exact HLe.refl _ | refine HLe.cons (by simp only [hget, Nat.reduceEqDiff, Nat.left_eq_add, Nat.add_eq_left, nm_ne2, nm_en2, nm_ne3, nm_en3, nm_ne4, nm_en4, nm_ne5, nm_en5, reduceIte, ↓reduceIte] <;> first | rfl | ((repeat rw [if_neg (by omega)]) <;> rfl)) ?_ | refine HLe.skip hnm (by omega) ?_ | refine HLe.frz hnm (by omega) ?_ | refine HLe.del hnm (by omega) ?_)) (by (repeat first | exact HLt.mono hnm (by simp only [] <;> omega) | refine HLt.cons (by simp only [] <;> omega) (by simp only [Tok.lt, SV.ltL, SV.lt, and_true, true_and] <;> omega) ?_)) (by simp only [] <;> omega)
                simp only [frEq_cons, frEq_nil, frIn_cons, frIn_nil, and_true, fget_cons, Nat.reduceEqDiff, reduceIte, ↓reduceIte, true_and, SV.ren, SV.renL, ren1]
                simp
              · have c4 : (R.getD k 0 == x) = false := beq_eq_false_iff_ne.2 h2
                rw [if_neg (fun h => h2 h.2)] at hat
                rw [hat] at next
                simp (maxSteps := 4000000) only [go_sem, goD_calls, eq_self, implies_true, Int.reduceEq, Int.reduceBEq, Int.reduceBNe, Int.reduceLE, Int.reduceLT, Int.reduceAdd, Int.reduceSub, Int.reduceMul, Int.reduceNeg, Nat.reduceMul, Nat.reduceSub, Nat.reduceLeDiff, Nat.reduceLT, Nat.reduceEqDiff, Nat.reduceAdd, reduceCtorEq, ↓reduceIte, reduceIte, c1, c2, c3, c4, hx, hgt, z0, List.nil_append, List.length_append, List.length_cons, List.length_nil, List.length_take, List.length_drop, List.length_map, Int.toNat_natCast, min_i64, max_i64]
                repeat refine ⟨by omega, ?_⟩
                refine next _ ?_
                refine leq_nil (.frz (nx + 1 + 1 + 1 + 1) (.refl _)) ?_
                simp only [go_sem, goD_calls, eq_self, implies_true, Int.reduceEq, Int.reduceBEq, Int.reduceBNe, Int.reduceLE, Int.reduceLT, Int.reduceAdd, Int.reduceSub, Int.reduceMul, Int.reduceNeg, Nat.reduceMul, Nat.reduceSub, Nat.reduceLeDiff, Nat.reduceLT, Nat.reduceEqDiff, Nat.reduceAdd, reduceCtorEq, ↓reduceIte, reduceIte]
                refine leq_id ?_ (by (simp only [frLt_cons, frLt_nil, and_true, SV.lt, SV.ltL, true_and] <;> omega)) (by ((try simp only []); repeat first | exact HLe.refl _ | refine HLe.cons (by simp only [hget, Nat.reduceEqDiff, Nat.left_eq_add, Nat.add_eq_left, nm_ne2, nm_en2, nm_ne3, nm_en3, nm_ne4, nm_en4, nm_ne5, nm_en5, reduceIte, ↓reduceIte] <;> first | rfl | ((repeat rw [if_neg (by omega)]) <;> rfl)) ?_ | refine HLe.skip hnm (by omega) ?_ | refine HLe.frz hnm (by omega) ?_ | refine HLe.del hnm (by omega) ?_)) (by (repeat first | exact HLt.mono hnm (by simp only [] <;> omega) | refine HLt.cons (by simp only [] <;> omega) (by simp only [Tok.lt, SV.ltL, SV.lt, and_true, true_and] <;> omega) ?_)) (by simp only [] <;> omega)
                simp only [frEq_cons, frEq_nil, frIn_cons, frIn_nil, and_true, fget_cons, Nat.reduceEqDiff, reduceIte, ↓reduceIte, true_and, SV.ren, SV.renL, ren1]
                simp
          · obtain rfl : k = R.length := by omega
            have c2 : decide ((R.length : Int) < (R.length : Int)) = false := decide_eq_false (by omega)
            have hat := ins_at hRs hk hlow (fun h => absurd h (by omega))
            rw [if_neg (fun h => absurd h.1 (by omega))] at hat
            rw [hat] at next
            simp (maxSteps := 4000000) only [go_sem, goD_calls, eq_self, implies_true, Int.reduceEq, Int.reduceBEq, Int.reduceBNe, Int.reduceLE, Int.reduceLT, Int.reduceAdd, Int.reduceSub, Int.reduceMul, Int.reduceNeg, Nat.reduceMul, Nat.reduceSub, Nat.reduceLeDiff, Nat.reduceLT, Nat.reduceEqDiff, Nat.reduceAdd, reduceCtorEq, ↓reduceIte, reduceIte, c1, c2, hx, hgt, z0, List.nil_append, List.length_append, List.length_cons, List.length_nil, List.length_take, List.length_drop, List.length_map, Int.toNat_natCast, min_i64, max_i64]
            repeat refine ⟨by omega, ?_⟩
            refine next _ ?_
            refine leq_nil (.frz (nx + 1 + 1 + 1 + 1) (.refl _)) ?_
            simp only [go_sem, goD_calls, eq_self, implies_true, Int.reduceEq, Int.reduceBEq, Int.reduceBNe, Int.reduceLE, Int.reduceLT, Int.reduceAdd, Int.reduceSub, Int.reduceMul, Int.reduceNeg, Nat.reduceMul, Nat.reduceSub, Nat.reduceLeDiff, Nat.reduceLT, Nat.reduceEqDiff, Nat.reduceAdd, reduceCtorEq, ↓reduceIte, reduceIte]
            refine leq_id ?_ (by (simp only [frLt_cons, frLt_nil, and_true, SV.lt, SV.ltL, true_and] <;> omega)) (by ((try simp only []); repeat first | exact HLe.refl _ | refine HLe.cons (by simp only [hget, Nat.reduceEqDiff, Nat.left_eq_add, Nat.add_eq_left, nm_ne2, nm_en2, nm_ne3, nm_en3, nm_ne4, nm_en4, nm_ne5, nm_en5, reduceIte, ↓reduceIte] <;> first | rfl | ((repeat rw [if_neg (by omega)]) <;> rfl)) ?_ | refine HLe.skip hnm (by omega) ?_ | refine HLe.frz hnm (by omega) ?_ | refine HLe.del hnm (by omega) ?_)) (by (repeat first | exact HLt.mono hnm (by simp only [] <;> omega) | refine HLt.cons (by simp only [] <;> omega) (by simp only [Tok.lt, SV.ltL, SV.lt, and_true, true_and] <;> omega) ?_)) (by simp only [] <;> omega)
            simp only [frEq_cons, frEq_nil, frIn_cons, frIn_nil, and_true, fget_cons, Nat.reduceEqDiff, reduceIte, ↓reduceIte, true_and, SV.ren, SV.renL, ren1]
            simp
            rw [List.take_of_length_le (by simp), List.drop_eq_nil_of_le (by simp)]
      · obtain rfl : i = l.length := by omega
        have c1 : decide ((l.length : Int) < (l.length : Int)) = false := decide_eq_false (by omega)
        rw [List.take_of_length_le (Nat.le_refl _)]
        simp (maxSteps := 4000000) only [go_sem, goD_calls, eq_self, implies_true, Int.reduceEq, Int.reduceBEq, Int.reduceBNe, Int.reduceLE, Int.reduceLT, Int.reduceAdd, Int.reduceSub, Int.reduceMul, Int.reduceNeg, Nat.reduceMul, Nat.reduceSub, Nat.reduceLeDiff, Nat.reduceLT, Nat.reduceEqDiff, Nat.reduceAdd, reduceCtorEq, ↓reduceIte, reduceIte, c1]
        refine (hQ _ ?_).1
        exact fin_t (.dat (.slice 3) (.list _)) rfl rfl hnm (by ((try simp only []); repeat first | exact HLe.refl _ | refine HLe.cons (by simp only [hget, Nat.reduceEqDiff, Nat.left_eq_add, Nat.add_eq_left, nm_ne2, nm_en2, nm_ne3, nm_en3, nm_ne4, nm_en4, nm_ne5, nm_en5, reduceIte, ↓reduceIte] <;> first | rfl | ((repeat rw [if_neg (by omega)]) <;> rfl)) ?_ | refine HLe.skip hnm (by omega) ?_ | refine HLe.frz hnm (by omega) ?_ | refine HLe.del hnm (by omega) ?_)) hK
  · exact hsp.elim

def amI (l : List D) (v : Int) : Bool := (l.map D.i).contains v
theorem amI_iff {l : List D} {v : Int} : amI l v = true ↔ v ∈ l.map D.i := by unfold amI; rw [List.contains_iff_mem]
theorem amI_not {l : List D} {v : Int} : amI l v = false ↔ v ∉ l.map D.i := by
  rw [← amI_iff]
  cases amI l v <;> simp
def WRAmong : Opts := mkWE 18 [] [] [] 152 [] []
def icRAmong : IC := (.seq (.seq (.ops [(.u (.mov 4 (.c (.bool false))))]) (.tr [0, 1])) (.seq (.seq (.seq (.ops [(.u (.mov 5 (.c (.int .i64 0))))]) (.tr [0, 1, 5])) (.block 0 (.loop (.seq (.seq (.seq (.ops [(.u (.mov 6 (.s 5))), (.u (.mov 7 (.s 0))), (.u (.len 8 false (.s 7))), (.u (.cmp 9 .lss (.s 6) (.s 8)))]) (.tr [9, 5, 0, 1])) (.cond (.s 9) .skip (.exit 0))) (.seq (.block 1 (.seq (.seq (.ops [(.u (.mov 12 (.s 0))), (.u (.mov 13 (.s 5))), (.u (.iad 14 3 (.int .i64) (.s 12) (.s 13))), (.u (.ld 15 (.int .i64) (.s 14))), (.u (.mov 16 (.s 1))), (.u (.cmp 17 .eql (.s 15) (.s 16)))]) (.tr [17, 5, 0, 1])) (.cond (.s 17) (.seq (.seq (.ops [(.u (.mov 4 (.c (.bool true))))]) (.tr [4])) .ret) .skip))) (.seq (.ops [(.u (.mov 10 (.s 5))), (.u (.bin 11 .add .i64 (.s 10) (.c (.int .i64 1)))), (.u (.mov 5 (.s 11)))]) (.tr [0, 1, 5]))))))) (.seq (.seq (.ops [(.u (.mov 4 (.c (.bool false))))]) (.tr [4])) .ret)))
def rsRAmong : List RV := [(.t 4)]
theorem irRAmong : fnIR Tryd.prog WRAmong 27 = some (icRAmong, rsRAmong) := by kernel_rfl
def spRAmong : FSpec := fun args h nx K => match args with
  | [.dat (.slice t) d, .int .i64 v] => t = 3 ∧ K (.bool (amI d.l v)) h
  | _ => False
set_option maxHeartbeats 4000000 in
set_option maxRecDepth 8000 in
theorem vRAmong {E : Nat → Value} (hE : Errs2 Tryd.prog (some 152) E) : Valid Tryd.prog E (gs []) 27 spRAmong := by
  refine valid_go (W := WRAmong) hE allValid_bot irRAmong (by decide) (fun args h nx K hsp hok hnm => ?_)
  unfold spRAmong at hsp
  split at hsp
  · rename_i t d v
    obtain ⟨rfl, hK⟩ := hsp
    refine ⟨by simp [WRAmong, mkW, mkWE, mkWF], fun Q hQ => ?_⟩
    obtain ⟨hd, _⟩ := hok
    simp only [SV.ok] at hd
    obtain ⟨hd1, hd2, hd3⟩ := Wt.slice hd; generalize d.l = l at *; subst hd1
    have hml : maxLen ≤ 9223372036854775807 := by decide
    have ret : ∀ b h' nx', HLe h h' → b = amI l v → Q Ex.ret ⟨[(4, .bool b)], h', nx'⟩ := fun b h' nx' hh hb => by
      subst hb
      refine (hQ _ ?_).1
      exact fin_t (.bool _) rfl rfl hnm hh hK
    simp (maxSteps := 4000000) only [icRAmong, go_sem, goD_calls, eq_self, implies_true, Int.reduceEq, Int.reduceBEq, Int.reduceBNe, Int.reduceLE, Int.reduceLT, Int.reduceAdd, Int.reduceSub, Int.reduceMul, Int.reduceNeg, Nat.reduceMul, Nat.reduceSub, Nat.reduceLeDiff, Nat.reduceLT, Nat.reduceEqDiff, Nat.reduceAdd, reduceCtorEq, ↓reduceIte, reduceIte]
    refine go_loop (α := { i : Nat // i ≤ l.length ∧ ∀ j, j < i → (l.getD j .nil).i ≠ v }) (I := fun i => { f := [(5, .int .i64 i.1), (0, .dat (.slice 3) (.list l)), (1, .int .i64 v)], h := h, nx := nx }) (μ := fun i => l.length - i.1) _ _ _ ⟨0, by omega, fun j hj => absurd hj (by omega)⟩ ?_ (fun i B hB => ?_)
    · refine leq_id ?_ (by (simp only [frLt_cons, frLt_nil, and_true, SV.lt, SV.ltL, true_and] <;> omega)) (by ((try simp only []); repeat first | exact HLe.refl _ | refine HLe.cons (by simp only [hget, Nat.reduceEqDiff, Nat.left_eq_add, Nat.add_eq_left, nm_ne2, nm_en2, nm_ne3, nm_en3, nm_ne4, nm_en4, nm_ne5, nm_en5, reduceIte, ↓reduceIte] <;> first | rfl | ((repeat rw [if_neg (by omega)]) <;> rfl)) ?_ | refine HLe.skip hnm (by omega) ?_ | refine HLe.frz hnm (by omega) ?_ | refine HLe.del hnm (by omega) ?_)) (by (repeat first | exact HLt.mono hnm (by simp only [] <;> omega) | refine HLt.cons (by simp only [] <;> omega) (by simp only [Tok.lt, SV.ltL, SV.lt, and_true, true_and] <;> omega) ?_)) (by simp only [] <;> omega)
      simp only [frEq_cons, frEq_nil, frIn_cons, frIn_nil, and_true, fget_cons, Nat.reduceEqDiff, reduceIte, ↓reduceIte, true_and, SV.ren, SV.renL, ren1]
      simp
    · obtain ⟨i, hi, hno⟩ := i
      simp only at hB
      by_cases hil : i < l.length
      · have c1 : decide ((i : Int) < (l.length : Int)) = true := decide_eq_true (by omega)
        by_cases h1 : (l.getD i .nil).i = v
        · have c2 : ((l.getD i .nil).i == v) = true := beq_iff_eq.2 h1
          simp (maxSteps := 4000000) only [go_sem, goD_calls, eq_self, implies_true, Int.reduceEq, Int.reduceBEq, Int.reduceBNe, Int.reduceLE, Int.reduceLT, Int.reduceAdd, Int.reduceSub, Int.reduceMul, Int.reduceNeg, Nat.reduceMul, Nat.reduceSub, Nat.reduceLeDiff, Nat.reduceLT, Nat.reduceEqDiff, Nat.reduceAdd, reduceCtorEq, ↓reduceIte, reduceIte, c1, c2, Int.toNat_natCast, min_i64, max_i64]
          repeat refine ⟨by omega, ?_⟩
          refine ret _ _ _ (by ((try simp only []); repeat first | exact HLe.refl _ | refine HLe.cons (by simp only [hget, Nat.reduceEqDiff, Nat.left_eq_add, Nat.add_eq_left, nm_ne2, nm_en2, nm_ne3, nm_en3, nm_ne4, nm_en4, nm_ne5, nm_en5, reduceIte, ↓reduceIte] <;> first | rfl | ((repeat rw [if_neg (by omega)]) <;> rfl)) ?_ | refine HLe.skip hnm (by omega) ?_ | refine HLe.frz hnm (by omega) ?_ | refine HLe.del hnm (by omega) ?_)) ?_
          symm
          rw [amI_iff, ← h1, List.getD_eq_getElem?_getD, List.getElem?_eq_getElem hil]
          exact List.mem_map.2 ⟨_, List.getElem_mem hil, rfl⟩
        · have c2 : ((l.getD i .nil).i == v) = false := beq_eq_false_iff_ne.2 h1
          simp (maxSteps := 4000000) only [go_sem, goD_calls, eq_self, implies_true, Int.reduceEq, Int.reduceBEq, Int.reduceBNe, Int.reduceLE, Int.reduceLT, Int.reduceAdd, Int.reduceSub, Int.reduceMul, Int.reduceNeg, Nat.reduceMul, Nat.reduceSub, Nat.reduceLeDiff, Nat.reduceLT, Nat.reduceEqDiff, Nat.reduceAdd, reduceCtorEq, ↓reduceIte, reduceIte, c1, c2, Int.toNat_natCast, min_i64, max_i64]
          repeat refine ⟨by omega, ?_⟩
          refine hB _ ⟨i + 1, by omega, fun j hj => by
            by_cases e : j = i
            · exact e ▸ h1
            · exact hno j (by omega)⟩ (by simp only []; omega) ?_
          refine leq_id ?_ (by (simp only [frLt_cons, frLt_nil, and_true, SV.lt, SV.ltL, true_and] <;> omega)) (by ((try simp only []); repeat first | exact HLe.refl _ | refine HLe.cons (by simp only [hget, Nat.reduceEqDiff, Nat.left_eq_add, Nat.add_eq_left, nm_ne2, nm_en2, nm_ne3, nm_en3, nm_ne4, nm_en4, nm_ne5, nm_en5, reduceIte, ↓reduceIte] <;> first | rfl | ((repeat rw [if_neg (by omega)]) <;> rfl)) ?_ | refine HLe.skip hnm (by omega) ?_ | refine HLe.frz hnm (by omega) ?_ | refine HLe.del hnm (by omega) ?_)) (by (repeat first | exact HLt.mono hnm (by simp only [] <;> omega) | refine HLt.cons (by simp only [] <;> omega) (by simp only [Tok.lt, SV.ltL, SV.lt, and_true, true_and] <;> omega) ?_)) (by simp only [] <;> omega)
          simp only [frEq_cons, frEq_nil, frIn_cons, frIn_nil, and_true, fget_cons, Nat.reduceEqDiff, reduceIte, ↓reduceIte, true_and, SV.ren, SV.renL, ren1]
          simp
      · obtain rfl : i = l.length := by omega
        have c1 : decide ((l.length : Int) < (l.length : Int)) = false := decide_eq_false (by omega)
        simp (maxSteps := 4000000) only [go_sem, goD_calls, eq_self, implies_true, Int.reduceEq, Int.reduceBEq, Int.reduceBNe, Int.reduceLE, Int.reduceLT, Int.reduceAdd, Int.reduceSub, Int.reduceMul, Int.reduceNeg, Nat.reduceMul, Nat.reduceSub, Nat.reduceLeDiff, Nat.reduceLT, Nat.reduceEqDiff, Nat.reduceAdd, reduceCtorEq, ↓reduceIte, reduceIte, c1]
        refine ret _ _ _ (by ((try simp only []); repeat first | exact HLe.refl _ | refine HLe.cons (by simp only [hget, Nat.reduceEqDiff, Nat.left_eq_add, Nat.add_eq_left, nm_ne2, nm_en2, nm_ne3, nm_en3, nm_ne4, nm_en4, nm_ne5, nm_en5, reduceIte, ↓reduceIte] <;> first | rfl | ((repeat rw [if_neg (by omega)]) <;> rfl)) ?_ | refine HLe.skip hnm (by omega) ?_ | refine HLe.frz hnm (by omega) ?_ | refine HLe.del hnm (by omega) ?_)) ?_
        symm
        rw [amI_not]
        intro hm
        obtain ⟨y, hy, e⟩ := List.mem_map.1 hm
        obtain ⟨j, hj, e2⟩ := List.mem_iff_getElem.1 hy
        refine hno j hj ?_
        rw [List.getD_eq_getElem?_getD, List.getElem?_eq_getElem hj]
        simp only [Option.getD_some, e2, e]
  · exact hsp.elim
end Go.Proofs.YtkmilijehekdoaaDoor
