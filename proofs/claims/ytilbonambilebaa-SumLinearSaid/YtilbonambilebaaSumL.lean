/- Chapter 1's law of linearity: what it comes to: true. -/
import Derived.Test.YtilbonambilebaaSumC
namespace Go.Proofs.Ytilbonambilebaa
set_option linter.unusedVariables false
set_option linter.unusedSimpArgs false
open Go Go.Fw Go.Crc

def xr (a b c : List D) (j : Nat) : Int := bitI .xor .u8 (bitI .xor .u8 (a.getD j .nil).i (b.getD j .nil).i) (c.getD j .nil).i
def rowX (a b c : List D) (n i : Nat) : List D := (List.range n).map fun j => .int (if j < i then xr a b c j else 0)
theorem rowX_len (a b c : List D) (n i : Nat) : (rowX a b c n i).length = n := by simp [rowX]
theorem rowX_set (a b c : List D) (n i : Nat) (hi : i < n) : (rowX a b c n i).set i (.int (xr a b c i)) = rowX a b c n (i + 1) := by
  apply List.ext_getElem
  · simp [rowX]
  · intro k h1 h2
    simp only [rowX, List.getElem_set, List.getElem_map, List.getElem_range]
    by_cases e : i = k
    · subst e; simp
    · have : (k < i + 1) = (k < i) := by apply propext; omega
      simp only [e, if_false, this]
theorem rowX_zero (a b c : List D) (n : Nat) : List.replicate n (.int 0) = rowX a b c n 0 := by
  apply List.ext_getElem
  · simp [rowX]
  · intro k h1 h2; simp [rowX]
theorem lin_law {a b c : List D} {n : Nat} (ha : n ≤ a.length) (hb : n ≤ b.length) (hc : n ≤ c.length) (ra : ∀ j, j < n → 0 ≤ (a.getD j .nil).i ∧ (a.getD j .nil).i ≤ 255) (rb : ∀ j, j < n → 0 ≤ (b.getD j .nil).i ∧ (b.getD j .nil).i ≤ 255) (rc : ∀ j, j < n → 0 ≤ (c.getD j .nil).i ∧ (c.getD j .nil).i ≤ 255) :
    toI (Crc.add 0#32 (rowX a b c n n)) = bitI .xor .u32 (bitI .xor .u32 (toI (Crc.add 0#32 (a.take n))) (toI (Crc.add 0#32 (b.take n)))) (toI (Crc.add 0#32 (c.take n))) := by
  rw [xor32, xor32, ofI_toI, ofI_toI, ofI_toI, ofI_toI]
  congr 1
  unfold Crc.add
  have h1 : ~~~(0#32) = ~~~(0#32) ^^^ ~~~(0#32) ^^^ ~~~(0#32) := by decide
  have h2 := crc_lin3 (a := a.take n) (b := b.take n) (c := c.take n) n (by simp; omega) (by simp; omega) (by simp; omega) (rowX a b c n n) (by simp [rowX]) (fun i hi => by
    have e : ∀ (l : List D) (hl : n ≤ l.length) (h : i < (l.take n).length), (l.take n)[i]'h = l.getD i .nil := by
      intro l hl h
      rw [List.getElem_take, List.getD_eq_getElem?_getD, List.getElem?_eq_getElem (by omega)]; rfl
    rw [e a ha, e b hb, e c hc]
    simp only [rowX, List.getElem_map, List.getElem_range, hi, if_true, xr]
    have x1 := xor8 (ra i hi) (rb i hi)
    have x2 := xor8 x1.2 (rc i hi)
    show ofI _ = ofI _ ^^^ ofI _ ^^^ ofI _
    rw [int_i, x2.1, x1.1]) (~~~(0#32)) (~~~(0#32)) (~~~(0#32))
  rw [← h1] at h2
  rw [h2]
  apply BitVec.eq_of_getLsbD_eq
  intro i hi
  simp only [BitVec.getLsbD_not, BitVec.getLsbD_xor, hi]
  cases (crc (~~~(0#32)) (a.take n)).getLsbD i <;> cases (crc (~~~(0#32)) (b.take n)).getLsbD i <;> cases (crc (~~~(0#32)) (c.take n)).getLsbD i <;> rfl

def WSumLinear : Opts := mkW 65 [] [] []
def icSumLinear : IC := (.seq (.ops [(.u (.mov 6 (.c (.bool false))))]) (.seq (.ops [(.u (.call 11 6 [] [] true)), (.u (.mov 7 (.s 11)))]) (.seq (.seq (.ops [(.u (.mov 12 (.s 7))), (.u (.una 13 .not (.s 12)))]) (.cond (.s 13) (.seq (.ops [(.u (.mov 6 (.c (.bool false))))]) .ret) .skip)) (.seq (.ops [(.u (.mov 14 (.s 0))), (.u (.len 15 false (.s 14))), (.u (.mov 16 (.s 1))), (.u (.len 17 false (.s 16))), (.u (.mov 18 (.s 2))), (.u (.len 19 false (.s 18))), (.u (.mmx 20 false [(.s 15), (.s 17), (.s 19), (.c (.int .i64 300))])), (.u (.mov 8 (.s 20)))]) (.seq (.ops [(.u (.mov 21 (.s 8))), (.u (.mk 22 5 (.int .u8) 1 (.int 0) (.s 21) (.s 21))), (.u (.mov 9 (.s 22)))]) (.seq (.seq (.ops [(.u (.mov 10 (.c (.int .i64 0))))]) (.block 0 (.loop (.seq (.seq (.ops [(.u (.mov 23 (.s 10))), (.u (.mov 24 (.s 8))), (.u (.cmp 25 .lss (.s 23) (.s 24)))]) (.cond (.s 25) .skip (.exit 0))) (.seq (.block 1 (.rgn [] [(false, (.u (.mov 28 (.s 9)))), (false, (.u (.mov 29 (.s 10)))), (false, (.u (.mov 30 (.s 0)))), (false, (.u (.mov 31 (.s 10)))), (false, (.u (.iad 32 5 (.int .u8) (.s 30) (.s 31)))), (false, (.u (.ld 33 (.int .u8) (.s 32)))), (false, (.u (.mov 34 (.s 1)))), (false, (.u (.mov 35 (.s 10)))), (false, (.u (.iad 36 5 (.int .u8) (.s 34) (.s 35)))), (false, (.u (.ld 37 (.int .u8) (.s 36)))), (false, (.u (.bin 38 .xor .u8 (.s 33) (.s 37)))), (false, (.u (.mov 39 (.s 2)))), (false, (.u (.mov 40 (.s 10)))), (false, (.u (.iad 41 5 (.int .u8) (.s 39) (.s 40)))), (false, (.u (.ld 42 (.int .u8) (.s 41)))), (false, (.u (.bin 43 .xor .u8 (.s 38) (.s 42)))), (false, (.u (.iad 44 5 (.int .u8) (.s 28) (.s 29)))), (false, (.u (.st (.int .u8) (.s 44) (.s 43))))])) (.ops [(.u (.mov 26 (.s 10))), (.u (.bin 27 .add .i64 (.s 26) (.c (.int .i64 1)))), (.u (.mov 10 (.s 27)))])))))) (.seq (.rgn [(.s 9)] [(false, (.u (.mov 45 (.s 7)))), (false, (.u (.mov 46 (.s 45)))), (false, (.g 46 true (some 47) (.mov 47 (.s 9)))), (false, (.g 46 true (some 49) (.mov 49 (.s 0)))), (false, (.g 46 true (some 50) (.mov 50 (.s 8)))), (false, (.g 46 true (some 51) (.slc 51 5 (.s 49) none (some (.s 50))))), (false, (.g 46 true (some 53) (.mov 53 (.s 1)))), (false, (.g 46 true (some 54) (.mov 54 (.s 8)))), (false, (.g 46 true (some 55) (.slc 55 5 (.s 53) none (some (.s 54))))), (false, (.g 46 true (some 58) (.mov 58 (.s 2)))), (false, (.g 46 true (some 59) (.mov 59 (.s 8)))), (false, (.g 46 true (some 60) (.slc 60 5 (.s 58) none (some (.s 59))))), (false, (.g 46 true (some 48) (.call 48 7 [(.s 47)] [(some 5)] true))), (false, (.g 46 true (some 52) (.call 52 7 [(.s 51)] [(some 5)] true))), (false, (.g 46 true (some 56) (.call 56 7 [(.s 55)] [(some 5)] true))), (false, (.g 46 true (some 57) (.bin 57 .xor .u32 (.s 52) (.s 56)))), (false, (.g 46 true (some 61) (.call 61 7 [(.s 60)] [(some 5)] true))), (false, (.g 46 true (some 62) (.bin 62 .xor .u32 (.s 57) (.s 61)))), (false, (.g 46 true (some 63) (.cmp 63 .eql (.s 48) (.s 62)))), (false, (.u (.pck 64 (.s 46) (.s 63) (.c (.bool false))))), (false, (.u (.mov 6 (.s 64))))]) .ret)))))))
def rsSumLinear : List RV := [(.t 6)]
theorem irSumLinear : fnIR Try.prog WSumLinear 4 = some (icSumLinear, rsSumLinear) := by kernel_rfl
def spSumLinear : FSpec := fun args h nx K => match args with
  | [.dat (.slice 5) _, .dat (.slice 5) _, .dat (.slice 5) _] => K (.bool true) h
  | _ => False
set_option maxHeartbeats 1000000 in
theorem vSumLinear {E : Nat → Value} (hE : Errs E) : Valid Try.prog E G0 4 spSumLinear := by
  refine valid_go (W := WSumLinear) hE (Γ1 hE) irSumLinear (by decide) (fun args h nx K hsp hok hnm => ?_)
  unfold spSumLinear at hsp
  split at hsp
  · rename_i da db dc
    refine ⟨by simp [WSumLinear, mkW], fun Q hQ => ?_⟩
    obtain ⟨ha, hb, hc, _⟩ := hok
    simp only [SV.ok] at ha hb hc
    obtain ⟨ha1, ha2, ha3⟩ := Wt.slice ha
    obtain ⟨hb1, hb2, hb3⟩ := Wt.slice hb
    obtain ⟨hc1, hc2, hc3⟩ := Wt.slice hc
    generalize da.l = a at ha1 ha2 ha3
    generalize db.l = b at hb1 hb2 hb3
    generalize dc.l = c at hc1 hc2 hc3
    subst ha1 hb1 hc1
    have hml : maxLen ≤ 9223372036854775807 := by decide
    simp only [icSumLinear, go_rgn, rgnK_def, goD_nil, goD_u, contD_some, goD_call, callD_def, goD_g, gD_bool, evI_true, evI_false, bareK_some, go_seq, go_ops, go_cond, go_block, go_skip, go_ret, go_exit, den_nil, den_seq, den_seq_ret, den_seq_ext, den_blk, den_blk_ret, den_blk_ext, den_lp, den_lp_ret, den_lp_ext, goO_nil, goO_u, noCall, contK_some, goO_g, gK_bool, skipD_some, skipD_none, goO_call, goO_callf, frzK_def, callK_def, condK_bool, put_def, sput_def, ev, frOf, fget_cons, oget, ogets, argSs, argS, evMm, frzL, evBin, evWrp, evShf, evCmp, evUna, evNil, evBeq, evLd, evSt, evFad, evIad, evAad, evLen, evSln, evEls, evApp, evParts, evSlc, evNlc, evMif, evPck, hget, hset, hdel, cellAt, arrAt, setCellAt, setArrAt, takeC, lenC, svCells, SV.okc, SV.one, ldSV, Fw.isAgg, Nat.reduceMul, Nat.reduceSub, Nat.reduceLeDiff, Nat.lt_irrefl, Nat.not_lt_zero, Nat.reduceLT, Nat.add_eq_left, Nat.left_eq_add, List.nil_append, List.length_cons, List.length_nil, List.append_nil, List.cons_append, Nat.zero_lt_one, Bool.false_eq_true, Bool.not_true, Bool.not_false, eq_self, Option.map_some, Option.map_none, true_imp_iff, false_imp_iff, implies_true, Bool.true_eq_false, explode, explodeL, toD, toDL, toD1, Ty.size, Ty.sizeL, frz1, Fr.sub, Heap.sub, Tok.sub, SV.sub, SV.subL, add_def, Nat.reduceEqDiff, Nat.reduceAdd, Nat.zero_add, reduceCtorEq, ↓reduceIte, and_self, and_true, true_and, reduceIte, spFirst, spOf, spAdd, spNumber, spBytes, list_l]
    obtain ⟨n, hn⟩ : ∃ n : Nat, min (min (min (a.length : Int) b.length) c.length) 300 = n := ⟨min (min (min a.length b.length) c.length) 300, by omega⟩
    simp only [hn]
    refine ⟨by omega, ?_⟩
    have rng : ∀ (l : List D), (∀ x ∈ l, Wt Try.prog E (tyOf Try.prog 8 5) x) → ∀ j, j < l.length → 0 ≤ (l.getD j .nil).i ∧ (l.getD j .nil).i ≤ 255 := by
      intro l hl j hj
      have e : l.getD j .nil = l[j] := by rw [List.getD_eq_getElem?_getD, List.getElem?_eq_getElem hj]; rfl
      rw [e]
      have := (hl _ (List.getElem_mem hj)).int.2
      rwa [min_u8, max_u8] at this
    have na : n ≤ a.length := by omega
    have nb : n ≤ b.length := by omega
    have nc : n ≤ c.length := by omega
    have n3 : n ≤ 300 := by omega
    refine go_loop (α := { i : Nat // i ≤ n }) (I := fun i => { f := [(10, .int .i64 i.1), (8, .int .i64 n), (9, .vec (nx + 64)), (7, .bool true), (0, .dat (.slice 5) (.list a)), (1, .dat (.slice 5) (.list b)), (2, .dat (.slice 5) (.list c))], h := (nx + 64, .arr 5 (.int .u8) (rowX a b c n i.1)) :: h, nx := nx + 65 }) (μ := fun i => n - i.1) _ _ _ ⟨0, by omega⟩ ?_ (fun i B hB => ?_)
    · rw [show (Int.toNat (n : Int)) = n by omega, rowX_zero a b c n]
      refine leq_id ?_ (by (simp only [frLt_cons, frLt_nil, and_true, SV.lt, SV.ltL, true_and] <;> omega)) (by (repeat first | exact HLe.refl _ | refine HLe.cons (by simp only [hget, Nat.reduceEqDiff, reduceIte, ↓reduceIte] <;> rfl) ?_ | refine HLe.skip hnm (by omega) ?_ | refine HLe.frz hnm (by omega) ?_ | refine HLe.del hnm (by omega) ?_)) (by (repeat first | exact HLt.mono hnm (by simp only [] <;> omega) | refine HLt.cons (by simp only [] <;> omega) (by simp only [Tok.lt, SV.ltL, SV.lt, and_true, true_and] <;> omega) ?_)) (by simp only [] <;> omega)
      simp only [frEq_cons, frEq_nil, frIn_cons, frIn_nil, and_true, fget_cons, Nat.reduceEqDiff, reduceIte, ↓reduceIte, true_and, SV.ren, SV.renL, ren1]
      rfl
    · obtain ⟨i, hi⟩ := i
      simp (maxSteps := 4000000) only [go_rgn, rgnK_def, goD_nil, goD_u, contD_some, goD_call, callD_def, goD_g, gD_bool, evI_true, evI_false, bareK_some, go_seq, go_ops, go_cond, go_block, go_skip, go_ret, go_exit, den_nil, den_seq, den_seq_ret, den_seq_ext, den_blk, den_blk_ret, den_blk_ext, den_lp, den_lp_ret, den_lp_ext, goO_nil, goO_u, noCall, contK_some, goO_g, gK_bool, skipD_some, skipD_none, goO_call, goO_callf, frzK_def, callK_def, condK_bool, put_def, sput_def, ev, frOf, fget_cons, oget, ogets, argSs, argS, evMm, frzL, evBin, evWrp, evShf, evCmp, evUna, evNil, evBeq, evLd, evSt, evFad, evIad, evAad, evLen, evSln, evEls, evApp, evParts, evSlc, evNlc, evMif, evPck, hget, hset, hdel, cellAt, arrAt, setCellAt, setArrAt, takeC, lenC, svCells, SV.okc, SV.one, ldSV, Fw.isAgg, Nat.reduceMul, Nat.reduceSub, Nat.reduceLeDiff, Nat.lt_irrefl, Nat.not_lt_zero, Nat.reduceLT, Nat.add_eq_left, Nat.left_eq_add, List.nil_append, List.length_cons, List.length_nil, List.append_nil, List.cons_append, Nat.zero_lt_one, Bool.false_eq_true, Bool.not_true, Bool.not_false, eq_self, Option.map_some, Option.map_none, true_imp_iff, false_imp_iff, implies_true, Bool.true_eq_false, explode, explodeL, toD, toDL, toD1, Ty.size, Ty.sizeL, frz1, Fr.sub, Heap.sub, Tok.sub, SV.sub, SV.subL, add_def, Nat.reduceEqDiff, Nat.reduceAdd, Nat.zero_add, reduceCtorEq, ↓reduceIte, and_self, and_true, true_and, reduceIte, spFirst, spOf, spAdd, spNumber, spBytes, list_l, rowX_len]
      refine ⟨fun hc' => ?_, fun hc' => ?_⟩
      · have hi' : i < n := by have := of_decide_eq_true hc'; omega
        have e : (rowX a b c n i).set i (.int (bitI .xor .u8 (bitI .xor .u8 (a.getD i .nil).i (b.getD i .nil).i) (c.getD i .nil).i)) = rowX a b c n (i + 1) := rowX_set a b c n i hi'
        simp only [Int.toNat_natCast, e]
        refine ⟨⟨by omega, by omega⟩, ⟨by omega, by omega⟩, ⟨by omega, by omega⟩, ⟨by omega, by omega⟩, ⟨by omega, by omega⟩, ⟨by rw [min_i64]; omega, by rw [max_i64]; omega⟩, hB _ ⟨i + 1, by omega⟩ (by simp only []; omega) ?_⟩
        refine leq_id ?_ (by (simp only [frLt_cons, frLt_nil, and_true, SV.lt, SV.ltL, true_and] <;> omega)) (by (repeat first | exact HLe.refl _ | refine HLe.cons (by simp only [hget, Nat.reduceEqDiff, reduceIte, ↓reduceIte] <;> rfl) ?_ | refine HLe.skip hnm (by omega) ?_ | refine HLe.frz hnm (by omega) ?_ | refine HLe.del hnm (by omega) ?_)) (by (repeat first | exact HLt.mono hnm (by simp only [] <;> omega) | refine HLt.cons (by simp only [] <;> omega) (by simp only [Tok.lt, SV.ltL, SV.lt, and_true, true_and] <;> omega) ?_)) (by simp only [] <;> omega)
        simp only [frEq_cons, frEq_nil, frIn_cons, frIn_nil, and_true, fget_cons, Nat.reduceEqDiff, reduceIte, ↓reduceIte, true_and, SV.ren, SV.renL, ren1]
        simp
      · have e : i = n := by have := of_decide_eq_false hc'; omega
        subst e
        have law := lin_law na nb nc (fun j hj => rng a ha3 j (by omega)) (fun j hj => rng b hb3 j (by omega)) (fun j hj => rng c hc3 j (by omega))
        refine ⟨⟨by omega, by omega⟩, ⟨by omega, by omega⟩, ⟨by omega, by omega⟩, (hQ _ (fin_t (.bool true) ?_ rfl hnm (by (repeat first | exact HLe.refl _ | refine HLe.cons (by simp only [hget, Nat.reduceEqDiff, reduceIte, ↓reduceIte] <;> rfl) ?_ | refine HLe.skip hnm (by omega) ?_ | refine HLe.frz hnm (by omega) ?_ | refine HLe.del hnm (by omega) ?_)) hsp)).1⟩
        simp only [fget_cons, reduceIte, ↓reduceIte, Nat.reduceEqDiff, Int.toNat_natCast]
        rw [law]
        simp
  · exact hsp.elim
end Go.Proofs.Ytilbonambilebaa
