/- The document's opening comes to the same. -/
import Derived.Test.YtilbonambilebaaDoorSumR
namespace Go.Proofs.YtilbonambilebaaDoor
set_option linter.unusedVariables false
set_option linter.unusedSimpArgs false
open Go Go.Fw Go.Crc

theorem or32 (x y : Int) : bitI .or .u32 x y = toI (ofI x ||| ofI y) := by
  unfold bitI
  simp only []
  show IntKind.u32.wrap _ = _
  rw [wrap32]
  show toI (ofI (((ofI x ||| ofI y).toNat : Nat) : Int)) = _
  exact congrArg toI (ofI_toI (ofI x ||| ofI y))
theorem ofI_nat (n : Nat) : (ofI (n : Int)).toNat = n % 4294967296 := by
  unfold ofI
  rw [BitVec.toNat_ofInt]
  omega
theorem or_nat (a b k : Nat) (hk : a < 2 ^ k) (hb : b * 2 ^ k + a < 4294967296) : bitI .or .u32 (a : Int) ((b * 2 ^ k : Nat) : Int) = ((b * 2 ^ k + a : Nat) : Int) := by
  rw [or32]
  unfold toI
  rw [BitVec.toNat_or, ofI_nat, ofI_nat, Nat.mod_eq_of_lt (by omega), Nat.mod_eq_of_lt (by omega)]
  have := Nat.shiftLeft_add_eq_or_of_lt hk b
  rw [Nat.shiftLeft_eq] at this
  rw [Nat.or_comm, ← this]
theorem u32w {b : Int} (h : 0 ≤ b ∧ b ≤ 4294967295) : IntKind.u32.wrap b = b := wrap_self _ (by rw [min_u32, max_u32]; exact h)
theorem or4 {b0 b1 b2 b3 : Int} (h0 : 0 ≤ b0 ∧ b0 ≤ 255) (h1 : 0 ≤ b1 ∧ b1 ≤ 255) (h2 : 0 ≤ b2 ∧ b2 ≤ 255) (h3 : 0 ≤ b3 ∧ b3 ≤ 255) :
    bitI .or .u32 (bitI .or .u32 (bitI .or .u32 (IntKind.u32.wrap b0) (IntKind.u32.wrap (IntKind.u32.wrap b1 * 2 ^ min (Int.toNat 8) IntKind.u32.bits))) (IntKind.u32.wrap (IntKind.u32.wrap b2 * 2 ^ min (Int.toNat 16) IntKind.u32.bits))) (IntKind.u32.wrap (IntKind.u32.wrap b3 * 2 ^ min (Int.toNat 24) IntKind.u32.bits)) = b0 + 256 * b1 + 65536 * b2 + 16777216 * b3 := by
  have e1 : (2 : Int) ^ min (Int.toNat 8) IntKind.u32.bits = 256 := rfl
  have e2 : (2 : Int) ^ min (Int.toNat 16) IntKind.u32.bits = 65536 := rfl
  have e3 : (2 : Int) ^ min (Int.toNat 24) IntKind.u32.bits = 16777216 := rfl
  rw [e1, e2, e3, u32w (b := b0) (by omega), u32w (b := b1) (by omega), u32w (b := b2) (by omega), u32w (b := b3) (by omega), u32w (by omega), u32w (by omega), u32w (by omega)]
  obtain ⟨a, rfl⟩ := Int.eq_ofNat_of_zero_le h0.1
  obtain ⟨b, rfl⟩ := Int.eq_ofNat_of_zero_le h1.1
  obtain ⟨c, rfl⟩ := Int.eq_ofNat_of_zero_le h2.1
  obtain ⟨d, rfl⟩ := Int.eq_ofNat_of_zero_le h3.1
  have g1 := or_nat a b 8 (by omega) (by omega)
  have g2 := or_nat (b * 2 ^ 8 + a) c 16 (by omega) (by omega)
  have g3 := or_nat (c * 2 ^ 16 + (b * 2 ^ 8 + a)) d 24 (by omega) (by omega)
  have f1 : ((b : Int) * 256) = ((b * 2 ^ 8 : Nat) : Int) := by omega
  have f2 : ((c : Int) * 65536) = ((c * 2 ^ 16 : Nat) : Int) := by omega
  have f3 : ((d : Int) * 16777216) = ((d * 2 ^ 24 : Nat) : Int) := by omega
  rw [f1, f2, f3, g1, g2, g3]
  omega

theorem u8w (n : Int) : IntKind.u8.wrap n = n % 256 := by simp [IntKind.wrap, IntKind.signed, IntKind.bits]
theorem tl_ints (c : W32) : ints (tl c) = [toI c % 256, toI c / 256 % 256, toI c / 65536 % 256, toI c / 16777216 % 256] := by
  have h := toI_lo c
  have e : ∀ n : Int, 0 < n → (toI c).fdiv n = toI c / n := fun n hn => Int.fdiv_eq_ediv_of_nonneg _ (by omega)
  have e1 : (2 : Int) ^ min (Int.toNat 8) IntKind.u32.bits = 256 := rfl
  have e2 : (2 : Int) ^ min (Int.toNat 16) IntKind.u32.bits = 65536 := rfl
  have e3 : (2 : Int) ^ min (Int.toNat 24) IntKind.u32.bits = 16777216 := rfl
  simp only [tl, ints, List.map_cons, List.map_nil, D.i, u8w, e1, e2, e3, e 256 (by omega), e 65536 (by omega), e 16777216 (by omega)]
theorem ints_app (a b : List D) : ints (a ++ b) = ints a ++ ints b := by simp [ints]
theorem last4 {l : List D} {n : Nat} (h : l.length = n + 4) : l.drop n = [l.getD n .nil, l.getD (n + 1) .nil, l.getD (n + 2) .nil, l.getD (n + 3) .nil] := by
  apply List.ext_getElem
  · simp; omega
  · intro i h1 h2
    simp only [List.length_cons, List.length_nil] at h2
    have key : ∀ k (hk : k < (l.drop n).length), (l.drop n)[k] = l.getD (n + k) .nil := by
      intro k hk
      rw [List.getElem_drop, List.getD_eq_getElem?_getD, List.getElem?_eq_getElem (by rw [List.length_drop] at hk; omega)]; rfl
    rw [key i h1]
    match i, h2 with
    | 0, _ => rfl
    | 1, _ => rfl
    | 2, _ => rfl
    | 3, _ => rfl
/-- What the four bytes at the end say. -/
def last (l : List D) (n : Nat) : Int := (l.getD n .nil).i + 256 * (l.getD (n + 1) .nil).i + 65536 * (l.getD (n + 2) .nil).i + 16777216 * (l.getD (n + 3) .nil).i
theorem ok_iff {l : List D} {n : Nat} (h : l.length = n + 4) (hb : ∀ i, i < l.length → 0 ≤ (l.getD i .nil).i ∧ (l.getD i .nil).i ≤ 255) : sameD (sealD (l.take n)) l = (toI (Crc.add 0#32 (l.take n)) == last l n) := by
  have hl : l = l.take n ++ [l.getD n .nil, l.getD (n + 1) .nil, l.getD (n + 2) .nil, l.getD (n + 3) .nil] := by rw [← last4 h, List.take_append_drop]
  have b0 := hb n (by omega)
  have b1 := hb (n + 1) (by omega)
  have b2 := hb (n + 2) (by omega)
  have b3 := hb (n + 3) (by omega)
  have h1 := toI_lo (Crc.add 0#32 (l.take n))
  have h2 := toI_hi (Crc.add 0#32 (l.take n))
  rw [Bool.eq_iff_iff, beq_iff_eq]
  unfold sameD sealD
  rw [beq_iff_eq]
  generalize hc : Crc.add 0#32 (l.take n) = c at *
  have e : ints l = ints (l.take n) ++ [(l.getD n .nil).i, (l.getD (n + 1) .nil).i, (l.getD (n + 2) .nil).i, (l.getD (n + 3) .nil).i] := by
    conv => lhs; rw [hl]
    rw [ints_app]; rfl
  rw [ints_app, e, List.append_right_inj, tl_ints]
  unfold last
  simp only [List.cons.injEq, and_true]
  omega

def WROpen : Opts := mkWE 50 [] [] [] 60 [] []
def icROpen : IC := (.seq (.seq (.ops [(.u (.mov 2 (.c .nils))), (.u (.mov 3 (.c (.int .i64 0))))]) (.tr [0])) (.seq (.seq (.seq (.ops [(.u (.mov 6 (.s 0))), (.u (.len 7 false (.s 6))), (.u (.cmp 8 .lss (.s 7) (.c (.int .i64 4))))]) (.tr [8, 0])) (.cond (.s 8) (.seq (.seq (.ops [(.u (.mov 2 (.c .nils))), (.u (.mov 3 (.c (.int .i64 101))))]) (.tr [2, 3])) .ret) .skip)) (.seq (.seq (.ops [(.u (.mov 9 (.s 0))), (.u (.len 10 false (.s 9))), (.u (.bin 11 .sub .i64 (.s 10) (.c (.int .i64 4)))), (.u (.mov 4 (.s 11)))]) (.tr [0, 4])) (.seq (.seq (.rgn [] [(false, (.u (.mov 12 (.s 0)))), (false, (.u (.mov 13 (.s 4)))), (false, (.u (.iad 14 5 (.int .u8) (.s 12) (.s 13)))), (false, (.u (.ld 15 (.int .u8) (.s 14)))), (false, (.u (.cnv 16 .u32 (.s 15)))), (false, (.u (.mov 17 (.s 0)))), (false, (.u (.mov 18 (.s 4)))), (false, (.u (.bin 19 .add .i64 (.s 18) (.c (.int .i64 1))))), (false, (.u (.iad 20 5 (.int .u8) (.s 17) (.s 19)))), (false, (.u (.ld 21 (.int .u8) (.s 20)))), (false, (.u (.cnv 22 .u32 (.s 21)))), (false, (.u (.shf 23 .shl .u32 (.s 22) (.c (.int .u64 8))))), (false, (.u (.bin 24 .or .u32 (.s 16) (.s 23)))), (false, (.u (.mov 25 (.s 0)))), (false, (.u (.mov 26 (.s 4)))), (false, (.u (.bin 27 .add .i64 (.s 26) (.c (.int .i64 2))))), (false, (.u (.iad 28 5 (.int .u8) (.s 25) (.s 27)))), (false, (.u (.ld 29 (.int .u8) (.s 28)))), (false, (.u (.cnv 30 .u32 (.s 29)))), (false, (.u (.shf 31 .shl .u32 (.s 30) (.c (.int .u64 16))))), (false, (.u (.bin 32 .or .u32 (.s 24) (.s 31)))), (false, (.u (.mov 33 (.s 0)))), (false, (.u (.mov 34 (.s 4)))), (false, (.u (.bin 35 .add .i64 (.s 34) (.c (.int .i64 3))))), (false, (.u (.iad 36 5 (.int .u8) (.s 33) (.s 35)))), (false, (.u (.ld 37 (.int .u8) (.s 36)))), (false, (.u (.cnv 38 .u32 (.s 37)))), (false, (.u (.shf 39 .shl .u32 (.s 38) (.c (.int .u64 24))))), (false, (.u (.bin 40 .or .u32 (.s 32) (.s 39)))), (false, (.u (.mov 5 (.s 40))))]) (.tr [5, 0, 4])) (.seq (.seq (.seq (.ops [(.u (.mov 41 (.s 5))), (.u (.mov 42 (.s 0))), (.u (.mov 43 (.s 4))), (.u (.slc 44 5 (.s 42) none (some (.s 43)))), (.u (.call 45 (.c (.clo 11 [])) [(.s 44)] [(some 5)] true)), (.u (.cmp 46 .neq (.s 41) (.s 45)))]) (.tr [46, 0, 4])) (.cond (.s 46) (.seq (.seq (.ops [(.u (.mov 2 (.c .nils))), (.u (.mov 3 (.c (.int .i64 102))))]) (.tr [2, 3])) .ret) .skip)) (.seq (.seq (.ops [(.u (.mov 47 (.s 0))), (.u (.mov 48 (.s 4))), (.u (.slc 49 5 (.s 47) none (some (.s 48)))), (.u (.mov 2 (.s 49))), (.u (.mov 3 (.c (.int .i64 0))))]) (.tr [2, 3])) .ret))))))
def rsROpen : List RV := [(.t 2), (.t 3)]
theorem irROpen : fnIR Tryd.prog WROpen 8 = some (icROpen, rsROpen) := by kernel_rfl
def spROpen : FSpec := fun args h nx K => match args with
  | [.dat (.slice 5) d] => d.l.length ≤ 1000000000 ∧ if d.l.length < 4 then K (.tup [.nils, .int .i64 101]) h else if sameD (sealD (d.l.take (d.l.length - 4))) d.l = true then K (.tup [.dat (.slice 5) (.list (d.l.take (d.l.length - 4))), .int .i64 0]) h else K (.tup [.nils, .int .i64 102]) h
  | _ => False
set_option maxHeartbeats 1000000 in
theorem vROpen {E : Nat → Value} (hE : Errs2 Tryd.prog (some 60) E) : Valid Tryd.prog E (gs []) 8 spROpen := by
  refine valid_go (W := WROpen) hE (allValid_bot.add (vRSum hE)) irROpen (by decide) (fun args h nx K hsp hok hnm => ?_)
  unfold spROpen at hsp
  split at hsp
  · rename_i d
    obtain ⟨hlen, hsp⟩ := hsp
    have hsp1 : d.l.length < 4 → K (.tup [.nils, .int .i64 101]) h := fun h1 => by rw [if_pos h1] at hsp; exact hsp
    have hsp2 : ¬ d.l.length < 4 → sameD (sealD (d.l.take (d.l.length - 4))) d.l = true → K (.tup [.dat (.slice 5) (.list (d.l.take (d.l.length - 4))), .int .i64 0]) h := fun h1 h2 => by rw [if_neg h1, if_pos h2] at hsp; exact hsp
    have hsp3 : ¬ d.l.length < 4 → sameD (sealD (d.l.take (d.l.length - 4))) d.l = false → K (.tup [.nils, .int .i64 102]) h := fun h1 h2 => by rw [if_neg h1, if_neg (by rw [h2]; simp)] at hsp; exact hsp
    clear hsp
    refine ⟨by simp [WROpen, mkW, mkWE], fun Q hQ => ?_⟩
    obtain ⟨hd, _⟩ := hok
    simp only [SV.ok] at hd
    obtain ⟨hd1, hd2, hd3⟩ := Wt.slice hd
    generalize d.l = l at hsp1 hsp2 hsp3 hlen hd1 hd2 hd3
    subst hd1
    have hb : ∀ i, i < l.length → 0 ≤ (l.getD i .nil).i ∧ (l.getD i .nil).i ≤ 255 := by
      intro i hi
      rw [List.getD_eq_getElem?_getD, List.getElem?_eq_getElem hi]
      exact (hd3 _ (List.getElem_mem hi)).int.2
    simp (maxSteps := 4000000) only [icROpen, go_rgn, rgnK_def, goD_nil, goD_u, contD_some, goD_call, callD_clo, kD_app, goD_g, gD_T, gD_F, evI_true, evI_false, bareK_some, go_seq, go_ops, go_cond, go_block, go_skip, go_tr, trim_def, trim_nil, trim_cons, fget_nil, go_ret, go_exit, den_nil, den_seq, den_seq_ret, den_seq_ext, den_blk, den_blk_ret, den_blk_ext, den_lp, den_lp_ret, den_lp_ext, goO_nil, goO_u, noCall, contK_some, goO_slc, goO_mif, preF, preP, prePt, prePd, frzP, noSp, D.isNil, goO_nlq, nlqK_some, evNlq, goO_g, gK_T, gK_F, skipD_some, skipD_none, goO_call, goO_callf, frzK_def, callK_clo, kO_app, condK_ite, iteT, iteF, put_def, sput_def, ev, frOf, fget_cons, oget, ogets, argSs, argS, evMm, frzL, evBin, evWrp, evShf, evCmp, evUna, evNil, evBeq, evLd, evSt, evFad, evIad, evAad, evLen, evSln, evEls, evApp, evParts, evSlc, evNlc, evMif, evPck, evFld, evBld, evTas, evIfq, evSeq, evSl0, evBxf, List.set_cons_zero, List.set_cons_succ, List.set_nil, List.flatten_cons, List.flatten_nil, List.getD_cons_zero, List.getD_cons_succ, List.contains_cons,  hget, hset, hdel, cellAt, arrAt, setCellAt, setArrAt, takeC, lenC, svCells, SV.okc, SV.one, ldSV, Fw.isAgg, Nat.reduceMul, Nat.reduceSub, Nat.reduceLeDiff, Nat.lt_irrefl, Nat.not_lt_zero, Nat.reduceLT, Nat.add_eq_left, Nat.left_eq_add, List.nil_append, List.length_cons, List.length_nil, List.append_nil, List.cons_append, Nat.zero_lt_one, Bool.false_eq_true, Bool.not_true, Bool.not_false, eq_self, Option.map_some, Option.map_none, true_imp_iff, false_imp_iff, implies_true, Bool.true_eq_false, explode, explodeL, toD, toDL, toD1, Ty.size, Ty.sizeL, frz1, Fr.sub, Heap.sub, Tok.sub, SV.sub, SV.subL, add_def, Nat.reduceEqDiff, Nat.reduceAdd, Nat.zero_add, reduceCtorEq, ↓reduceIte, and_self, and_true, true_and, reduceIte, spOf, list_l]
    refine ⟨fun hc => ?_, fun hc => ?_⟩
    · have hl : l.length < 4 := by have := of_decide_eq_true hc; omega
      exact (hQ _ (fin_t2 .nils (.int .i64 101) rfl rfl rfl rfl hnm (by ((try simp only []); repeat first | exact HLe.refl _ | refine HLe.cons (by simp only [hget, Nat.reduceEqDiff, reduceIte, ↓reduceIte] <;> rfl) ?_ | refine HLe.skip hnm (by omega) ?_ | refine HLe.frz hnm (by omega) ?_ | refine HLe.del hnm (by omega) ?_)) (hsp1 hl))).1
    · have hl : ¬ l.length < 4 := by have := of_decide_eq_false hc; omega
      obtain ⟨n, hn⟩ : ∃ n, l.length = n + 4 := ⟨l.length - 4, by omega⟩
      have hsub : l.length - 4 = n := by omega
      rw [hsub] at hsp2 hsp3
      have hi4 : (l.length : Int) - 4 = (n : Int) := by omega
      have t0 : Int.toNat (n : Int) = n := rfl
      have t1 : Int.toNat ((n : Int) + 1) = n + 1 := by omega
      have t2 : Int.toNat ((n : Int) + 2) = n + 2 := by omega
      have t3 : Int.toNat ((n : Int) + 3) = n + 3 := by omega
      simp only [hi4, t0, t1, t2, t3, or4 (hb n (by omega)) (hb (n + 1) (by omega)) (hb (n + 2) (by omega)) (hb (n + 3) (by omega))]
      have hok := ok_iff hn hb
      simp only [min_i64, max_i64]
      repeat (first | (refine ⟨⟨by omega, by omega⟩, ?_⟩) | (refine ⟨by omega, ?_⟩))
      have hl2 : (l.take n).length = n := by simp; omega
      refine ⟨fun hs => ?_, fun hs => ?_⟩
      · have e : sameD (sealD (l.take n)) l = false := by
          rw [hok]
          have := bne_iff_ne.1 hs
          rw [beq_eq_false_iff_ne]
          exact fun e => this e.symm
        exact (hQ _ (fin_t2 .nils (.int .i64 102) rfl rfl rfl rfl hnm (by ((try simp only []); repeat first | exact HLe.refl _ | refine HLe.cons (by simp only [hget, Nat.reduceEqDiff, reduceIte, ↓reduceIte] <;> rfl) ?_ | refine HLe.skip hnm (by omega) ?_ | refine HLe.frz hnm (by omega) ?_ | refine HLe.del hnm (by omega) ?_)) (hsp3 hl e))).1
      · have e : sameD (sealD (l.take n)) l = true := by
          rw [hok, beq_iff_eq]
          have := bne_eq_false_iff_eq.1 hs
          exact this.symm
        repeat (first | (refine ⟨⟨by omega, by omega⟩, ?_⟩) | (refine ⟨by omega, ?_⟩))
        exact (hQ _ (fin_t2 (.dat (.slice 5) (.list (l.take n))) (.int .i64 0) rfl rfl rfl rfl hnm (by ((try simp only []); repeat first | exact HLe.refl _ | refine HLe.cons (by simp only [hget, Nat.reduceEqDiff, reduceIte, ↓reduceIte] <;> rfl) ?_ | refine HLe.skip hnm (by omega) ?_ | refine HLe.frz hnm (by omega) ?_ | refine HLe.del hnm (by omega) ?_)) (hsp2 hl e))).1
  · exact hsp.elim
end Go.Proofs.YtilbonambilebaaDoor
