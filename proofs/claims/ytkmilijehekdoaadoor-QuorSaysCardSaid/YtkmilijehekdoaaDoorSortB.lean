/- Rows of whole numbers: each but once, one behind the other. -/
import Derived.Test.YtkmilijehekdoaaDoorSort
import Derived.Lib.SlicesCompact
import Derived.Lib.RowBridge
namespace Go.Proofs.YtkmilijehekdoaaDoor
set_option linter.unusedVariables false
set_option linter.unusedSimpArgs false
open Go Go.Fw Go.RowKit
attribute [local go_sem] walkSet evMdl evMupD evMup evLkp frpL eltP eltV eltK preF preP prePt prePd frzP evNlq ev frOf oget ogets argSs argS evMm frzL evBin evWrp evShf evCmp evUna evNil evBeq evLd evSt evFad evIad evAad evLen evSln evEls evApp evParts evSlc evNlc evMif evPck evFld evBld evTas evIfq evSeq evSl0 evBxf evAgl evAgq evBsf hget hset hdel cellAt arrAt setCellAt setArrAt takeC lenC svCells SV.okc SV.one ldSV Fw.isAgg explode explodeL toD toDL toD1 Ty.size Ty.sizeL frz1 Fr.sub Heap.sub Tok.sub SV.sub SV.subL

def WSorted : Opts := mkWE 9 [] [] [7] 152 [] []
def icSorted : IC := (.seq (.seq (.ops [(.u (.mov 2 (.c .nils)))]) (.tr [0])) (.seq (.seq (.ops [(.u (.mov 4 (.s 0))), (.u (.call 5 (.c (.clo 48 [])) [(.s 4)] [none] true)), (.u (.mov 3 (.s 5)))]) (.tr [3])) (.seq (.seq (.ops [(.u (.mov 6 (.s 3))), (.u (.call 7 (.c (.clo 49 [])) [(.s 6)] [(some 3)] false))]) (.tr [3])) (.seq (.seq (.ops [(.u (.mov 8 (.s 3))), (.u (.mov 2 (.s 8)))]) (.tr [2])) .ret))))
def rsSorted : List RV := [(.t 2)]
theorem irSorted : fnIR Tryd.prog WSorted 31 = some (icSorted, rsSorted) := by kernel_rfl
def spSorted : FSpec := fun args h nx K => match args with
  | [.clo f [.elt (.slice t) (.list l)]] => f = 50 ∧ t = 3 ∧ l.length ≤ 1000000000 ∧ K (.vec nx) ((nx, .arr 3 (.int .i64) (sortL (iL l))) :: h)
  | _ => False
set_option maxHeartbeats 4000000 in
set_option maxRecDepth 8000 in
theorem vSorted {E : Nat → Value} (hE : Errs2 Tryd.prog (some 152) E) : Valid Tryd.prog E (gs []) 31 spSorted := by
  refine valid_go (W := WSorted) hE ((allValid_bot.add (up (vCollect hE))).add (up (vSort hE))) irSorted (by decide) (fun args h nx K hsp hok hnm => ?_)
  unfold spSorted at hsp
  split at hsp
  · rename_i f t l
    obtain ⟨rfl, rfl, hlen, hK⟩ := hsp
    refine ⟨by simp [WSorted, mkW, mkWE, mkWF], fun Q hQ => ?_⟩
    have hl1 : (iL l).length ≤ 1000000000 := by rw [iL_len]; exact hlen
    simp (maxSteps := 4000000) only [icSorted, go_sem, goD_calls, eq_self, implies_true, Int.reduceEq, Int.reduceBEq, Int.reduceBNe, Int.reduceLE, Int.reduceLT, Int.reduceAdd, Int.reduceSub, Int.reduceMul, Int.reduceNeg, Nat.reduceMul, Nat.reduceSub, Nat.reduceLeDiff, Nat.reduceLT, Nat.reduceEqDiff, Nat.reduceAdd, reduceCtorEq, ↓reduceIte, reduceIte, spCollect, spSort, nOk_c, nL_c, hlen, hl1]
    refine (hQ _ ?_).1
    exact fin_vec (m := nx) rfl (by simp only [hget, ↓reduceIte]) (by omega) hnm (by ((try simp only []); repeat first | exact HLe.refl _ | refine HLe.cons (by simp only [hget, Nat.reduceEqDiff, Nat.left_eq_add, Nat.add_eq_left, nm_ne2, nm_en2, nm_ne3, nm_en3, nm_ne4, nm_en4, nm_ne5, nm_en5, reduceIte, ↓reduceIte] <;> first | rfl | ((repeat rw [if_neg (by omega)]) <;> rfl)) ?_ | refine HLe.skip hnm (by omega) ?_ | refine HLe.frz hnm (by omega) ?_ | refine HLe.del hnm (by omega) ?_)) hK
  · exact hsp.elim

def compL (l : List D) : List D := (Lib.compact (l.map D.i)).map D.int
theorem compL_len (l : List D) : (compL l).length ≤ l.length := by
  unfold compL
  rw [List.length_map]
  exact Nat.le_trans (Lib.compact_length_le _) (by rw [List.length_map]; exact Nat.le_refl _)
theorem compact_sub (zs : List Int) : ∀ x ∈ Lib.compact zs, x ∈ zs := by
  intro x hx
  unfold Lib.compact Lib.compactUpTo at hx
  obtain ⟨i, hi, rfl⟩ := List.mem_map.1 hx
  have hi' : i < zs.length := by have := List.mem_range.1 (List.mem_filter.1 hi).1; exact this
  simp [hi']
def spCompact : FSpec := fun args h nx K => match args with
  | [.vec n] => nOk (hget h n) ∧ (nL (hget h n)).length ≤ 1000000000 ∧ K (.vec nx) ((nx, .arr 3 (.int .i64) (compL (nL (hget h n)))) :: hdel h n)
  | _ => False
set_option maxHeartbeats 1000000 in
theorem vCompact {E : Nat → Value} (hE : Errs2 Tryd.prog (some 152) E) : Valid Tryd.prog E (gs []) 56 spCompact := by
  refine valid_raw (by kernel_rfl) (fun args h nx K c ρ H w vs hsp hnb s hden hlt => ?_)
  unfold spCompact at hsp
  split at hsp
  · rename_i n
    obtain ⟨⟨l, hl⟩, hlen, hK⟩ := hsp
    rw [hl, nL_c] at hlen hK
    cases hden with
    | cons h1 h2 =>
      cases h2
      cases h1
      obtain ⟨⟨he, xs, hown, hrep, hH⟩, hnx, _⟩ := s.tok hl
      obtain ⟨e1, e2, e3⟩ := intsL_rep hrep
      have e4 : ∀ x ∈ Lib.compact (l.map D.i), IntKind.i64.min ≤ x ∧ x ≤ IntKind.i64.max := fun x hx => e3 x (compact_sub _ x hx)
      have hrep' := rep_ints (P := Tryd.prog) (E := E) (H := H) e4
      have hout : ∀ w' v, Kept w (fun b => blk (ρ n) = some b) w' → Owns w' 3 1 v (compL l).length ((Lib.compact (l.map D.i)).map (Value.int .i64)) → (∀ b, blk v = some b → blk (ρ n) = some b) → v.oneCell' = true → ∃ v' r h' ρ' H' nx', Ending.returned v = .returned v' ∧ K r h' ∧ Den Tryd.prog E ρ' H' r v' ∧ r.lt (nx + 64) ∧ nx' ≤ nx + 64 ∧ Sat Tryd.prog E c ρ' H' { f := [], h := h', nx := nx' } { tmps := [ρ n].toArray, defers := [] } w' := by
        intro w' v hk ho hb hone
        refine ⟨v, .vec nx, _, upd ρ nx v, H, nx + 1, rfl, hK, ?_, show nx < nx + 64 by omega, by omega, s.renew hl (Nat.le_refl _) (Nat.lt_succ_self _) v (.arr 3 (.int .i64) (compL l)) hk ⟨fun _ => tyInt, _, ?_, hrep', ?_⟩ (fun b h => .inl (hb b h)) trivial⟩
        · have := Den.vec (P := Tryd.prog) (E := E) (ρ := upd ρ nx v) (H := H) (n := nx) (by rw [upd_same]; exact hone)
          rwa [upd_same] at this
        · rw [upd_same]; exact ho
        · rw [upd_same]; intro b h; exact hH b (hb b h)
      rcases hown.2 with ⟨⟨a0, hv⟩, h0⟩ | ⟨g, cap, cur, hv, h0, hh, q1, q2, q3, q4⟩
      · have hn0 : l = [] := List.eq_nil_of_length_eq_zero h0
        subst hn0
        have z : Lib.compact (([] : List D).map D.i) = [] := by simp [Lib.compact, Lib.compactUpTo]
        have z2 : (compL []).length = 0 := by unfold compL; rw [z]; rfl
        rw [hv]
        refine (Tryd.slices_Compact_int_empty a0 0 w).mono ?_
        rintro e w' ⟨rfl, rfl⟩
        rw [hv] at hout
        exact hout _ _ (Kept.refl _ _) ⟨by rw [z2, z]; rfl, .inl ⟨⟨a0, rfl⟩, z2⟩⟩ (fun b h => h) rfl
      · rw [hv]
        have hl2 : l.length = (l.map D.i).length := (List.length_map ..).symm
        have hcur : cur.toList.take (l.map D.i).length = (l.map D.i).map (Value.int .i64) := by
          rw [← e1, ← q4, ← hl2]
          simp [Ty.size]
        have hHo := holds_of_blockI (ss := l.map D.i) hh hcur
        have hg := (Array.getElem?_eq_some_iff.1 hh).1
        have hcl := Lib.compact_length_le (l.map D.i)
        have := Tryd.slices_Compact_int g 0 cap (l.map D.i) w hHo (by rw [← hl2]; omega) (by rw [← hl2]; exact q1)
        rw [← hl2] at this
        refine this.mono ?_
        rintro e w' ⟨rfl, q, rfl⟩
        rw [hv] at hout
        have hw : ∀ d : Array Int, Go.Sort.putRow (Value.int .i64) (Go.Sort.ahead w q) g 0 d = Go.Sort.grow (Go.Sort.putRow (Value.int .i64) (Go.Sort.ahead w q) g 0 d) #[] := fun d => by simp
        have hgr := grownBy_sortedI (w := w) (g := g) (n := q) (os := #[]) (Lib.compact (l.map D.i) ++ List.replicate (l.length - (Lib.compact (l.map D.i)).length) 0).toArray
        have hhp := heap_sortedI (w := w) (g := g) (n := q) (os := #[]) (Lib.compact (l.map D.i) ++ List.replicate (l.length - (Lib.compact (l.map D.i)).length) 0).toArray hh
        rw [← hw] at hgr hhp
        have hts : (Lib.compact (l.map D.i) ++ List.replicate (l.length - (Lib.compact (l.map D.i)).length) 0).length = l.length := by rw [List.length_append, List.length_replicate]; omega
        have htk := take_putCellsI cur (Lib.compact (l.map D.i) ++ List.replicate (l.length - (Lib.compact (l.map D.i)).length) 0) (by rw [hts, q3]; simp [Ty.size]; exact q1)
        refine hout _ _ ⟨hgr.os, hgr.tape, hgr.output, hgr.size, fun b hb hne => hgr.block b hb (fun e => hne (by rw [blk_slice h0]; exact e.symm))⟩ ⟨by simp [compL], .inr ⟨g, cap, _, by simp [compL], h0, hhp, ?_, q2, ?_, ?_⟩⟩ (fun b h => by rw [blk_slice h0] at h ⊢; exact h) rfl
        · unfold compL; rw [List.length_map]; omega
        · simp only [Go.Sort.putCells, Array.size_mapIdx]; rw [q3]; rfl
        · rw [hts] at htk
          have e5 : (compL l).length * 1 = (Lib.compact (l.map D.i)).length := by simp [compL]
          rw [e5]
          have := congrArg (List.take (Lib.compact (l.map D.i)).length) htk
          rw [List.take_take, Nat.min_eq_left (by omega)] at this
          rw [this, List.map_append, List.take_left' (by simp)]
  · exact hsp.elim

/-! ### Room -/
def Tryd.laysGrow_ren : Go.Shelf.Ren := ⟨fun | 4 => 65 | n => n, fun | 0 => 0 | 3 => 3 | 4 => 4 | 9 => 9 | 20 => 20 | 22 => 24 | 25 => 3 | n => n, fun | n => n⟩
theorem Tryd.laysGrow : Go.Proofs.Lays8.n4 Tryd.prog Tryd.laysGrow_ren := {
  mixed := by kernel_rfl
  f4 := ⟨Tryd.f65.name, by decide, Tryd.func65.trans (congrArg some (by kernel_rfl))⟩
  t0 := Tryd.underlying0
  a0 := Tryd.isAgg0
  z0 := Tryd.sizeOf0
  v0 := Tryd.zeroValue0
  t3 := Tryd.underlying3
  a3 := Tryd.isAgg3
  z3 := Tryd.sizeOf3
  v3 := Tryd.zeroValue3
  t4 := Tryd.underlying4
  a4 := Tryd.isAgg4
  z4 := Tryd.sizeOf4
  v4 := Tryd.zeroValue4
  t9 := Tryd.underlying9
  a9 := Tryd.isAgg9
  z9 := Tryd.sizeOf9
  v9 := Tryd.zeroValue9
  t20 := Tryd.underlying20
  a20 := Tryd.isAgg20
  z20 := Tryd.sizeOf20
  v20 := Tryd.zeroValue20
  t22 := Tryd.underlying24
  a22 := Tryd.isAgg24
  z22 := Tryd.sizeOf24
  v22 := Tryd.zeroValue24 }
theorem infoInt : (Tryd.prog.info? 3).map (fun i => (i.zero, i.size, i.bytes)) = some (some (Value.int .i64 0), 1, 8) := by kernel_rfl
def spGrow : FSpec := fun args h nx K => match args with
  | [.nils, .int .i64 n] => 0 ≤ n ∧ n ≤ 1000000000 ∧ K (.vec nx) ((nx, .arr 3 (.int .i64) []) :: h)
  | _ => False
set_option maxHeartbeats 1000000 in
theorem vGrow {E : Nat → Value} (hE : Errs2 Tryd.prog (some 152) E) : Valid Tryd.prog E (gs []) 65 spGrow := by
  refine valid_raw (by kernel_rfl) (fun args h nx K c ρ H w vs hsp hnb s hden hlt => ?_)
  unfold spGrow at hsp
  split at hsp
  · rename_i n
    obtain ⟨h0, h1, hK⟩ := hsp
    obtain ⟨n, rfl⟩ := Int.eq_ofNat_of_zero_le h0
    cases hden with
    | cons d1 d2 =>
      cases d1
      cases d2 with
      | cons d1 d2 =>
        cases d2
        cases d1
        have hout : ∀ w' v, Kept w (fun _ => False) w' → Owns w' 3 1 v 0 [] → (∀ b, blk v = some b → w.heap.size ≤ b) → v.oneCell' = true → ∃ v' r h' ρ' H' nx', Ending.returned v = .returned v' ∧ K r h' ∧ Den Tryd.prog E ρ' H' r v' ∧ r.lt (nx + 64) ∧ nx' ≤ nx + 64 ∧ Sat Tryd.prog E c ρ' H' { f := [], h := h', nx := nx' } { tmps := [Value.slice none 0 0, Value.int .i64 (n : Int)].toArray, defers := [] } w' := by
          intro w' v hk ho hb hone
          refine ⟨v, .vec nx, _, upd ρ nx v, H, nx + 1, rfl, hK, ?_, show nx < nx + 64 by omega, by omega, s.grow (Nat.le_refl _) (Nat.lt_succ_self _) v (.arr 3 (.int .i64) []) hk ⟨fun _ => tyInt, [], ?_, .nil, ?_⟩ hb trivial⟩
          · have := Den.vec (P := Tryd.prog) (E := E) (ρ := upd ρ nx v) (H := H) (n := nx) (by rw [upd_same]; exact hone)
            rwa [upd_same] at this
          · rw [upd_same]; exact ho
          · rw [upd_same]; intro b h o
            exact s.hin.none_new (hb b h) o
        rcases Nat.eq_zero_or_pos n with rfl | hpos
        · refine (Any8.slices_Grow_room Tryd.laysGrow none 0 0 0 w (by omega) (by omega) (by omega) (by omega)).mono ?_
          rintro e w' ⟨rfl, rfl⟩
          exact hout _ _ (Kept.refl _ _) ⟨rfl, .inl ⟨⟨none, rfl⟩, rfl⟩⟩ (fun b h => by simp [blk] at h) rfl
        · obtain ⟨i0, hi, hz0, hz1, hz2⟩ := info_parts infoInt
          refine (Any8.slices_Grow_grow Tryd.laysGrow i0 (Value.int .i64 0) hi hz0 (by rw [hz1]; omega) none 0 0 n [] w (by omega) (by omega) (by rw [hz2]; omega) (by omega) (by simp) (fun _ => rfl) (fun a h => by cases h)).mono ?_
          rintro e w' ⟨rfl, rfl⟩
          have hc1 := grownCap_ge w (0 + n) 0 3
          have hc2 := grownCap_le_maxLen w (0 + n) 0 3 (by unfold maxLen; omega)
          refine hout _ _ ⟨rfl, rfl, rfl, by simp, fun b hb _ => Below.heap_alloc w.drew _ b hb⟩ ⟨rfl, .inr ⟨w.heap.size, _, _, rfl, by show 0 < grownCap w (0 + n) 0 3; omega, World.alloc_heap_new w.drew _, Nat.zero_le _, hc2, ?_, by simp⟩⟩ (fun b h => ?_) rfl
          · have hc3 : 0 + n ≤ grownCap w (0 + n) 0 (Tryd.laysGrow_ren.t 25) := hc1
            show _ = grownCap w (0 + n) 0 (Tryd.laysGrow_ren.t 25) * 1
            simp only [Array.size_append, size_zeroCells, List.size_toArray, List.length_nil]
            have : (Value.int IntKind.i64 0).cells.size = 1 := rfl
            rw [this]
            omega
          · rw [blk_slice (by show 0 < grownCap w (0 + n) 0 3; omega)] at h
            cases h; exact Nat.le_refl _
  · exact hsp.elim

/-! ### Rows one behind the other -/
def catL (l : List D) : List D := l.flatMap D.l
theorem catL_two (a b : D) : catL [a, b] = a.l ++ b.l := by simp [catL]
theorem catL_step {l : List D} {i : Nat} (hi : i < l.length) : catL (l.take (i + 1)) = catL (l.take i) ++ (l.getD i .nil).l := by
  unfold catL
  rw [List.take_add_one, List.flatMap_append, List.getElem?_eq_getElem hi, List.getD_eq_getElem?_getD, List.getElem?_eq_getElem hi]
  simp
theorem catL_mono {l : List D} {i : Nat} : (catL (l.take i)).length ≤ (catL l).length := by
  have : catL l = catL (l.take i) ++ catL (l.drop i) := by unfold catL; rw [← List.flatMap_append, List.take_append_drop]
  rw [this, List.length_append]; omega
def WConcat : Opts := mkWF 36 [] [] [] 152 [] [] [] [] [24]
def icConcat : IC := (.seq (.seq (.ops [(.u (.mov 2 (.c .nils)))]) (.tr [0])) (.seq (.seq (.ops [(.u (.mov 3 (.c (.int .i64 0))))]) (.tr [3, 0])) (.seq (.seq (.seq (.ops [(.u (.mov 9 (.s 0))), (.u (.len 10 false (.s 9))), (.u (.mov 11 (.c (.int .i64 0))))]) (.tr [10, 9, 11, 3, 0])) (.block 0 (.loop (.seq (.seq (.ops [(.u (.cmp 12 .lss (.s 11) (.s 10)))]) (.tr [12, 11, 10, 9, 3, 0])) (.seq (.cond (.s 12) .skip (.exit 0)) (.seq (.block 1 (.seq (.seq (.ops [(.u (.iad 13 24 (.slice 3) (.s 9) (.s 11))), (.u (.ld 14 (.slice 3) (.s 13))), (.u (.mov 5 (.s 14)))]) (.tr [3, 5, 11, 10, 9, 0])) (.seq (.seq (.ops [(.u (.mov 15 (.s 3))), (.u (.mov 16 (.s 5))), (.u (.len 17 false (.s 16))), (.u (.bin 18 .add .i64 (.s 15) (.s 17))), (.u (.mov 3 (.s 18)))]) (.tr [11, 10, 9, 3, 0])) (.seq (.seq (.ops [(.u (.mov 19 (.s 3))), (.u (.cmp 20 .lss (.s 19) (.c (.int .i64 0))))]) (.tr [20, 11, 10, 9, 3, 0])) (.cond (.s 20) .die .skip))))) (.seq (.ops [(.u (.bin 22 .add .i64 (.s 11) (.c (.int .i64 1)))), (.u (.mov 11 (.s 22)))]) (.tr [10, 9, 11, 3, 0])))))))) (.seq (.seq (.ops [(.u (.mov 23 (.s 3))), (.u (.call 24 (.c (.clo 65 [])) [(.c .nils), (.s 23)] [none, none] true)), (.u (.mov 6 (.s 24)))]) (.tr [0, 6])) (.seq (.seq (.seq (.ops [(.u (.mov 25 (.s 0))), (.u (.len 26 false (.s 25))), (.u (.mov 27 (.c (.int .i64 0))))]) (.tr [26, 25, 27, 6])) (.block 2 (.loop (.seq (.seq (.ops [(.u (.cmp 28 .lss (.s 27) (.s 26)))]) (.tr [28, 27, 26, 25, 6])) (.seq (.cond (.s 28) .skip (.exit 2)) (.seq (.block 3 (.seq (.seq (.ops [(.u (.iad 29 24 (.slice 3) (.s 25) (.s 27))), (.u (.ld 30 (.slice 3) (.s 29))), (.u (.mov 8 (.s 30)))]) (.tr [6, 8, 27, 26, 25])) (.seq (.ops [(.u (.mov 31 (.s 6))), (.u (.mov 32 (.s 8))), (.u (.app 33 3 (.int .i64) 8 (.s 31) (.s 32))), (.u (.mov 6 (.s 33)))]) (.tr [27, 26, 25, 6])))) (.seq (.ops [(.u (.bin 34 .add .i64 (.s 27) (.c (.int .i64 1)))), (.u (.mov 27 (.s 34)))]) (.tr [26, 25, 27, 6])))))))) (.seq (.seq (.ops [(.u (.mov 35 (.s 6))), (.u (.mov 2 (.s 35)))]) (.tr [2])) .ret))))))
def rsConcat : List RV := [(.t 2)]
theorem irConcat : fnIR Tryd.prog WConcat 55 = some (icConcat, rsConcat) := by kernel_rfl
def spConcat : FSpec := fun args h nx K => match args with
  | [.dat (.slice t) d] => t = 24 ∧ (catL d.l).length ≤ 1000000000 ∧ d.l.length ≤ 1000000000 ∧ K (.vec nx) ((nx, .arr 3 (.int .i64) (catL d.l)) :: h)
  | _ => False
set_option maxHeartbeats 4000000 in
set_option maxRecDepth 8000 in
theorem vConcat {E : Nat → Value} (hE : Errs2 Tryd.prog (some 152) E) : Valid Tryd.prog E (gs []) 55 spConcat := by
  refine valid_go (W := WConcat) hE (allValid_bot.add (up (vGrow hE))) irConcat (by decide) (fun args h nx K hsp hok hnm => ?_)
  unfold spConcat at hsp
  split at hsp
  · rename_i t d
    obtain ⟨rfl, hlen, hl9, hK⟩ := hsp
    refine ⟨by simp [WConcat, mkW, mkWE, mkWF], fun Q hQ => ?_⟩
    obtain ⟨hd, _⟩ := hok
    simp only [SV.ok] at hd
    obtain ⟨hd1, hd2, hd3⟩ := Wt.slice hd; generalize d.l = l at *; subst hd1
    have hml : maxLen ≤ 9223372036854775807 := by decide
    simp (maxSteps := 4000000) only [icConcat, go_sem, goD_calls, eq_self, implies_true, Int.reduceEq, Int.reduceBEq, Int.reduceBNe, Int.reduceLE, Int.reduceLT, Int.reduceAdd, Int.reduceSub, Int.reduceMul, Int.reduceNeg, Nat.reduceMul, Nat.reduceSub, Nat.reduceLeDiff, Nat.reduceLT, Nat.reduceEqDiff, Nat.reduceAdd, reduceCtorEq, ↓reduceIte, reduceIte]
    refine go_loop (α := { i : Nat // i ≤ l.length }) (I := fun i => { f := [(10, .int .i64 l.length), (9, .dat (.slice 24) (.list l)), (11, .int .i64 i.1), (3, .int .i64 ((catL (l.take i.1)).length)), (0, .dat (.slice 24) (.list l))], h := h, nx := nx }) (μ := fun i => l.length - i.1) _ _ _ ⟨0, by omega⟩ ?_ (fun i B hB => ?_)
    · refine leq_id ?_ (by (simp only [frLt_cons, frLt_nil, and_true, SV.lt, SV.ltL, true_and] <;> omega)) (by ((try simp only []); repeat first | exact HLe.refl _ | refine HLe.cons (by simp only [hget, Nat.reduceEqDiff, Nat.left_eq_add, Nat.add_eq_left, nm_ne2, nm_en2, nm_ne3, nm_en3, nm_ne4, nm_en4, nm_ne5, nm_en5, reduceIte, ↓reduceIte] <;> first | rfl | ((repeat rw [if_neg (by omega)]) <;> rfl)) ?_ | refine HLe.skip hnm (by omega) ?_ | refine HLe.frz hnm (by omega) ?_ | refine HLe.del hnm (by omega) ?_)) (by (repeat first | exact HLt.mono hnm (by simp only [] <;> omega) | refine HLt.cons (by simp only [] <;> omega) (by simp only [Tok.lt, SV.ltL, SV.lt, and_true, true_and] <;> omega) ?_)) (by simp only [] <;> omega)
      simp only [frEq_cons, frEq_nil, frIn_cons, frIn_nil, and_true, fget_cons, Nat.reduceEqDiff, reduceIte, ↓reduceIte, true_and, SV.ren, SV.renL, ren1]
      exact ⟨rfl, rfl⟩
    · obtain ⟨i, hi⟩ := i
      simp only at hB
      by_cases hil : i < l.length
      · have c2 : decide ((i : Int) < (l.length : Int)) = true := decide_eq_true (by omega)
        have hs := congrArg List.length (catL_step hil)
        rw [List.length_append] at hs
        have hm := catL_mono (l := l) (i := i + 1)
        have c3 : decide ((((catL (l.take i)).length : Int) + ((l.getD i .nil).l.length : Int)) < 0) = false := decide_eq_false (by omega)
        simp (maxSteps := 4000000) only [go_sem, goD_calls, eq_self, implies_true, Int.reduceEq, Int.reduceBEq, Int.reduceBNe, Int.reduceLE, Int.reduceLT, Int.reduceAdd, Int.reduceSub, Int.reduceMul, Int.reduceNeg, Nat.reduceMul, Nat.reduceSub, Nat.reduceLeDiff, Nat.reduceLT, Nat.reduceEqDiff, Nat.reduceAdd, reduceCtorEq, ↓reduceIte, reduceIte, c2, c3, Int.toNat_natCast, min_i64, max_i64]
        repeat refine ⟨by omega, ?_⟩
        refine hB _ ⟨i + 1, by omega⟩ (by simp only []; omega) ?_
        refine leq_id ?_ (by (simp only [frLt_cons, frLt_nil, and_true, SV.lt, SV.ltL, true_and] <;> omega)) (by ((try simp only []); repeat first | exact HLe.refl _ | refine HLe.cons (by simp only [hget, Nat.reduceEqDiff, Nat.left_eq_add, Nat.add_eq_left, nm_ne2, nm_en2, nm_ne3, nm_en3, nm_ne4, nm_en4, nm_ne5, nm_en5, reduceIte, ↓reduceIte] <;> first | rfl | ((repeat rw [if_neg (by omega)]) <;> rfl)) ?_ | refine HLe.skip hnm (by omega) ?_ | refine HLe.frz hnm (by omega) ?_ | refine HLe.del hnm (by omega) ?_)) (by (repeat first | exact HLt.mono hnm (by simp only [] <;> omega) | refine HLt.cons (by simp only [] <;> omega) (by simp only [Tok.lt, SV.ltL, SV.lt, and_true, true_and] <;> omega) ?_)) (by simp only [] <;> omega)
        simp only [frEq_cons, frEq_nil, frIn_cons, frIn_nil, and_true, fget_cons, Nat.reduceEqDiff, reduceIte, ↓reduceIte, true_and, SV.ren, SV.renL, ren1]
        simp only [hs, Int.natCast_add, Int.cast_ofNat_Int, and_self, and_true, true_and]
      · obtain rfl : i = l.length := by omega
        have c2 : decide ((l.length : Int) < (l.length : Int)) = false := decide_eq_false (by omega)
        have g1 : ((catL (l.take l.length)).length : Int) ≤ 1000000000 := by have := catL_mono (l := l) (i := l.length); omega
        have g2 : 0 ≤ ((catL (l.take l.length)).length : Int) := by omega
        simp (maxSteps := 4000000) only [go_sem, goD_calls, eq_self, implies_true, Int.reduceEq, Int.reduceBEq, Int.reduceBNe, Int.reduceLE, Int.reduceLT, Int.reduceAdd, Int.reduceSub, Int.reduceMul, Int.reduceNeg, Nat.reduceMul, Nat.reduceSub, Nat.reduceLeDiff, Nat.reduceLT, Nat.reduceEqDiff, Nat.reduceAdd, reduceCtorEq, ↓reduceIte, reduceIte, c2, spGrow, g1, g2]
        refine go_loop (α := { i : Nat // i ≤ l.length }) (I := fun i => { f := [(26, .int .i64 l.length), (25, .dat (.slice 24) (.list l)), (27, .int .i64 i.1), (6, .vec nx)], h := (nx, .arr 3 (.int .i64) (catL (l.take i.1))) :: h, nx := nx + 1 }) (μ := fun i => l.length - i.1) _ _ _ ⟨0, by omega⟩ ?_ (fun i B' hB' => ?_)
        · refine leq_id ?_ (by (simp only [frLt_cons, frLt_nil, and_true, SV.lt, SV.ltL, true_and] <;> omega)) ?_ (by (repeat first | exact HLt.mono hnm (by simp only [] <;> omega) | refine HLt.cons (by simp only [] <;> omega) (by simp only [Tok.lt, SV.ltL, SV.lt, and_true, true_and] <;> omega) ?_)) (by simp only [] <;> omega)
          · simp only [frEq_cons, frEq_nil, frIn_cons, frIn_nil, and_true, fget_cons, Nat.reduceEqDiff, reduceIte, ↓reduceIte, true_and, SV.ren, SV.renL, ren1]
            simp
          · ((try simp only []); repeat first | exact HLe.refl _ | refine HLe.cons (by simp only [hget, Nat.reduceEqDiff, Nat.left_eq_add, Nat.add_eq_left, nm_ne2, nm_en2, nm_ne3, nm_en3, nm_ne4, nm_en4, nm_ne5, nm_en5, reduceIte, ↓reduceIte] <;> first | rfl | ((repeat rw [if_neg (by omega)]) <;> rfl)) ?_ | refine HLe.skip hnm (by omega) ?_ | refine HLe.frz hnm (by omega) ?_ | refine HLe.del hnm (by omega) ?_)
        · obtain ⟨i, hi⟩ := i
          simp only at hB'
          by_cases hil : i < l.length
          · have c2 : decide ((i : Int) < (l.length : Int)) = true := decide_eq_true (by omega)
            have hs := catL_step hil
            have hs2 := congrArg List.length hs
            rw [List.length_append] at hs2
            have hm := catL_mono (l := l) (i := i + 1)
            simp (maxSteps := 4000000) only [go_sem, goD_calls, eq_self, implies_true, Int.reduceEq, Int.reduceBEq, Int.reduceBNe, Int.reduceLE, Int.reduceLT, Int.reduceAdd, Int.reduceSub, Int.reduceMul, Int.reduceNeg, Nat.reduceMul, Nat.reduceSub, Nat.reduceLeDiff, Nat.reduceLT, Nat.reduceEqDiff, Nat.reduceAdd, reduceCtorEq, ↓reduceIte, reduceIte, c2, Int.toNat_natCast, min_i64, max_i64, ← hs]
            repeat refine ⟨by omega, ?_⟩
            refine hB' _ ⟨i + 1, by omega⟩ (by simp only []; omega) ?_
            refine leq_ren1 nx (nx + 1) (by omega) (by simp only []; omega) ?_ (by (simp only [frLt_cons, frLt_nil, and_true, SV.lt, SV.ltL, true_and] <;> omega)) ?_ (by (repeat first | exact HLt.mono hnm (by simp only [] <;> omega) | refine HLt.cons (by simp only [] <;> omega) (by simp only [Tok.lt, SV.ltL, SV.lt, and_true, true_and] <;> omega) ?_)) (by simp only [] <;> omega)
            · simp only [frEq_cons, frEq_nil, frIn_cons, frIn_nil, and_true, fget_cons, Nat.reduceEqDiff, reduceIte, ↓reduceIte, true_and, SV.ren, SV.renL, ren1]
              simp
            · exact HRen.cons (by rw [ren1_eq]; simp [hget, Tok.ren]) (HRen.base hnm (Nat.le_refl _) (by ((try simp only []); repeat first | exact HLe.refl _ | refine HLe.cons (by simp only [hget, Nat.reduceEqDiff, Nat.left_eq_add, Nat.add_eq_left, nm_ne2, nm_en2, nm_ne3, nm_en3, nm_ne4, nm_en4, nm_ne5, nm_en5, reduceIte, ↓reduceIte] <;> first | rfl | ((repeat rw [if_neg (by omega)]) <;> rfl)) ?_ | refine HLe.skip hnm (by omega) ?_ | refine HLe.frz hnm (by omega) ?_ | refine HLe.del hnm (by omega) ?_)))
          · obtain rfl : i = l.length := by omega
            have c2 : decide ((l.length : Int) < (l.length : Int)) = false := decide_eq_false (by omega)
            simp (maxSteps := 4000000) only [go_sem, goD_calls, eq_self, implies_true, Int.reduceEq, Int.reduceBEq, Int.reduceBNe, Int.reduceLE, Int.reduceLT, Int.reduceAdd, Int.reduceSub, Int.reduceMul, Int.reduceNeg, Nat.reduceMul, Nat.reduceSub, Nat.reduceLeDiff, Nat.reduceLT, Nat.reduceEqDiff, Nat.reduceAdd, reduceCtorEq, ↓reduceIte, reduceIte, c2]
            refine (hQ _ ?_).1
            refine fin_vec (m := nx) rfl (by simp only [hget, ↓reduceIte]; rfl) (by omega) hnm (by ((try simp only []); repeat first | exact HLe.refl _ | refine HLe.cons (by simp only [hget, Nat.reduceEqDiff, Nat.left_eq_add, Nat.add_eq_left, nm_ne2, nm_en2, nm_ne3, nm_en3, nm_ne4, nm_en4, nm_ne5, nm_en5, reduceIte, ↓reduceIte] <;> first | rfl | ((repeat rw [if_neg (by omega)]) <;> rfl)) ?_ | refine HLe.skip hnm (by omega) ?_ | refine HLe.frz hnm (by omega) ?_ | refine HLe.del hnm (by omega) ?_)) ?_
            rw [List.take_of_length_le (Nat.le_refl _)]
            exact hK
  · exact hsp.elim
end Go.Proofs.YtkmilijehekdoaaDoor
