/- Chapter 15: look. -/
import Derived.Test.YtmjenjccinfbaaaDoorPntA
namespace Go.Proofs.YtmjenjccinfbaaaDoor
set_option linter.unusedVariables false
set_option linter.unusedSimpArgs false
open Go Go.Fw
attribute [local go_sem] walkSet evMdl evMupD evMup evLkp frpL eltP eltV eltK preF preP prePt prePd frzP evNlq ev frOf oget ogets argSs argS evCat evMm frzL evBin evWrp evShf evCmp evUna evNil evBeq evLd evSt evFad evIad evAad evLen evSln evEls evApp evParts evSlc evNlc evMif evPck evFld evBld evTas evIfq evSeq evSl0 evBxf evAgl evAgq evBsf hget hset hdel cellAt arrAt setCellAt setArrAt takeC lenC svCells SV.okc SV.one ldSV Fw.isAgg explode explodeL toD toDL toD1 Ty.size Ty.sizeL frz1 Fr.sub Heap.sub Tok.sub SV.sub SV.subL

theorem lookF_stop {l sf : List D} {n k : Nat} {c d : Int} (h : ¬ (k < l.length ∧ ((l.getD k .nil).fld 0).i ≤ (sf.getD ((l.getD k .nil).fld 1).i.toNat .nil).i)) : lookF l sf n k c d = (k, c, d) := by
  cases n with
  | zero => rfl
  | succ n => unfold lookF; rw [if_neg h]
theorem lookF_step {l sf : List D} {k : Nat} {c d : Int} (hk : k < l.length) (h : ((l.getD k .nil).fld 0).i ≤ (sf.getD ((l.getD k .nil).fld 1).i.toNat .nil).i) :
    lookF l sf (l.length - k) k c d = lookF l sf (l.length - (k + 1)) (k + 1) ((l.getD k .nil).fld 0).i (if ((l.getD k .nil).fld 2).b then ((l.getD k .nil).fld 0).i else d) := by
  rw [show l.length - k = (l.length - (k + 1)) + 1 from by omega]
  conv => lhs; unfold lookF
  rw [if_pos ⟨hk, h⟩]
/-- How far the looking goes, from a state. -/
def goF (h : Heap) (r : Option Tok) : Nat × Int × Int := lookF (aL (hget h (pU r))) (aL (hget h (pV r))) ((aL (hget h (pU r))).length - (pK r).toNat) (pK r).toNat (pC r) (pD r)
def ptG (r : Option Tok) (x : Nat × Int × Int) : Tok := ptC (pS r) (pU r) (pA r) (pV r) x.1 x.2.1 x.2.2

def WPLook : Opts := mkWE 53 [] [] [] 171 [] []
def icPLook : IC := (.seq .skip (.block 0 (.loop (.seq (.seq (.seq (.rgn [] [(false, (.u (.mov 3 (.s 0)))), (false, (.u (.nlc 4 (.s 3)))), (false, (.u (.fad 5 4 4 (.int .i64) 110 (.s 4)))), (false, (.u (.ld 6 (.int .i64) (.s 5)))), (false, (.u (.mov 7 (.s 0)))), (false, (.u (.nlc 8 (.s 7)))), (false, (.u (.fad 9 1 1 (.slice 112) 110 (.s 8)))), (false, (.u (.ld 10 (.slice 112) (.s 9)))), (false, (.u (.len 11 false (.s 10)))), (false, (.u (.cmp 12 .lss (.s 6) (.s 11))))]) (.tr [12, 0])) (.cond (.s 12) .skip (.exit 0))) (.block 1 (.seq (.seq (.rgn [] [(false, (.u (.mov 13 (.s 0)))), (false, (.u (.nlc 14 (.s 13)))), (false, (.u (.fad 15 1 1 (.slice 112) 110 (.s 14)))), (false, (.u (.ld 16 (.slice 112) (.s 15)))), (false, (.u (.mov 17 (.s 0)))), (false, (.u (.nlc 18 (.s 17)))), (false, (.u (.fad 19 4 4 (.int .i64) 110 (.s 18)))), (false, (.u (.ld 20 (.int .i64) (.s 19)))), (false, (.u (.iad 21 112 (.strct [(.int .i64), (.int .i64), .bool]) (.s 16) (.s 20)))), (false, (.u (.ld 22 (.strct [(.int .i64), (.int .i64), .bool]) (.s 21)))), (false, (.u (.alc 2 [(.int .i64 0), (.int .i64 0), (.bool false)]))), (false, (.u (.st (.strct [(.int .i64), (.int .i64), .bool]) (.s 2) (.s 22))))]) (.tr [2, 0])) (.seq (.seq (.seq (.rgn [] [(false, (.u (.fad 23 0 0 (.int .i64) 112 (.s 2)))), (false, (.u (.ld 24 (.int .i64) (.s 23)))), (false, (.u (.mov 25 (.s 0)))), (false, (.u (.nlc 26 (.s 25)))), (false, (.u (.fad 27 3 3 (.slice 2) 110 (.s 26)))), (false, (.u (.ld 28 (.slice 2) (.s 27)))), (false, (.u (.fad 29 1 1 (.int .i64) 112 (.s 2)))), (false, (.u (.ld 30 (.int .i64) (.s 29)))), (false, (.u (.iad 31 2 (.int .i64) (.s 28) (.s 30)))), (false, (.u (.ld 32 (.int .i64) (.s 31)))), (false, (.u (.cmp 33 .gtr (.s 24) (.s 32))))]) (.tr [33, 2, 0])) (.cond (.s 33) (.exit 0) .skip)) (.seq (.seq (.ops [(.u (.mov 34 (.s 0))), (.u (.nlc 35 (.s 34))), (.u (.fad 36 4 4 (.int .i64) 110 (.s 35))), (.u (.ld 37 (.int .i64) (.s 36))), (.u (.bin 38 .add .i64 (.s 37) (.c (.int .i64 1)))), (.u (.nlc 39 (.s 34))), (.u (.fad 40 4 4 (.int .i64) 110 (.s 39))), (.u (.st (.int .i64) (.s 40) (.s 38)))]) (.tr [2, 0])) (.seq (.seq (.ops [(.u (.mov 41 (.s 0))), (.u (.fad 42 0 0 (.int .i64) 112 (.s 2))), (.u (.ld 43 (.int .i64) (.s 42))), (.u (.nlc 44 (.s 41))), (.u (.fad 45 5 5 (.int .i64) 110 (.s 44))), (.u (.st (.int .i64) (.s 45) (.s 43)))]) (.tr [2, 0])) (.seq (.seq (.ops [(.u (.fad 46 2 2 .bool 112 (.s 2))), (.u (.ld 47 .bool (.s 46)))]) (.tr [47, 2, 0])) (.cond (.s 47) (.seq (.ops [(.u (.mov 48 (.s 0))), (.u (.fad 49 0 0 (.int .i64) 112 (.s 2))), (.u (.ld 50 (.int .i64) (.s 49))), (.u (.nlc 51 (.s 48))), (.u (.fad 52 6 6 (.int .i64) 110 (.s 51))), (.u (.st (.int .i64) (.s 52) (.s 50)))]) (.tr [0])) .skip)))))))))))
def rsPLook : List RV := []
theorem irPLook : fnIR Tryd.prog WPLook 64 = some (icPLook, rsPLook) := by kernel_rfl
def spPLook : FSpec := fun args h nx K => match args with
  | [.ptr p 0] => pOk (hget h p) ∧ sOk (hget h (pU (hget h p))) ∧ iOk (hget h (pV (hget h p))) ∧ (0 ≤ pK (hget h p) ∧ pK (hget h p) ≤ (aL (hget h (pU (hget h p)))).length) ∧ (aL (hget h (pU (hget h p)))).length ≤ 1000000 ∧ grOk (aL (hget h (pU (hget h p)))) (aL (hget h (pV (hget h p)))) ∧
      K (.tup []) (hset h p (ptG (hget h p) (goF h (hget h p))))
  | _ => False
set_option maxHeartbeats 4000000 in
set_option maxRecDepth 8000 in
theorem vPLook {E : Nat → Value} (hE : Errs2 Tryd.prog (some 171) E) : Valid Tryd.prog E (gs []) 64 spPLook := by
  refine valid_go (W := WPLook) hE allValid_bot irPLook (by decide) (fun args h nx K hsp hok hnm => ?_)
  unfold spPLook at hsp
  split at hsp
  · rename_i p
    obtain ⟨⟨sp, u, a, v, k0, c0, d0, hp⟩, hs, hi, hk, hlen, hgr, hK⟩ := hsp
    rw [hp] at hs hi hk hlen hgr hK
    rw [ptC_def] at hs hi hk hlen hgr
    rw [pU_c] at hs
    rw [pV_c] at hi
    obtain ⟨l, hu⟩ := hs
    obtain ⟨sf, hv⟩ := hi
    rw [pU_c, hu, aL_c] at hk hlen hgr
    rw [pK_c] at hk
    rw [pV_c, hv, aL_c] at hgr
    obtain ⟨k, rfl⟩ := Int.eq_ofNat_of_zero_le hk.1
    have hpx := (hnm p _ hp).1
    have hux := (hnm u _ hu).1
    have hvx := (hnm v _ hv).1
    have hpu : p ≠ u := fun e => by rw [e, hu] at hp; cases hp
    have hpv : p ≠ v := fun e => by rw [e, hv] at hp; cases hp
    have hK' : K (.tup []) (hset h p (ptC sp u a v (lookF l sf (l.length - k) k c0 d0).1 (lookF l sf (l.length - k) k c0 d0).2.1 (lookF l sf (l.length - k) k c0 d0).2.2)) := by
      have e : goF h (some (ptC sp u a v (k : Int) c0 d0)) = lookF l sf (l.length - k) k c0 d0 := by
        unfold goF
        rw [ptC_def, pU_c, pV_c, pK_c, pC_c, pD_c, hu, hv, aL_c, aL_c, Int.toNat_natCast]
      rw [e] at hK
      exact hK
    have hst : ∀ k c d, HLt (hset h p (ptC sp u a v k c d)) nx := fun k c d => HLt.hset hnm ⟨trivial, hux, trivial, hvx, trivial, trivial, trivial, trivial⟩
    have hpg : ∀ t, hget (hset h p t) p = some t := fun t => hget_hset' hp
    have hug : ∀ t, hget (hset h p t) u = some (.arr 112 sentT l) := fun t => by rw [hget_hset_ne hpu]; exact hu
    have hvg : ∀ t, hget (hset h p t) v = some (.arr 2 (.int .i64) sf) := fun t => by rw [hget_hset_ne hpv]; exact hv
    have hsg : ∀ t t', hset (hset h p t) p t' = hset h p t' := fun t t' => hset_hset
    refine ⟨by simp [WPLook, mkW, mkWE, mkWF], fun Q hQ => ?_⟩
    have fin : ∀ k' c' d' f' h' nx', (k', c', d') = lookF l sf (l.length - k) k c0 d0 → HLe (hset h p (ptC sp u a v (k' : Nat) c' d')) h' → Q Ex.nrm ⟨f', h', nx'⟩ := fun k' c' d' f' h' nx' e hh => by
      have hK2 : K (.tup []) (hset h p (ptC sp u a v ((k' : Nat) : Int) c' d')) := by rw [← e] at hK'; exact hK'
      exact (hQ ⟨f', h', nx'⟩ (fin_0 (hst _ _ _) hh hK2)).2
    clear hK
    have pn0p : (nx = p) = False := eq_false (by omega)
    have pn1p : ∀ a0 : Nat, (nx + a0 = p) = False := fun a0 => eq_false (by omega)
    have pn2p : ∀ a0 a1 : Nat, (nx + a0 + a1 = p) = False := fun a0 a1 => eq_false (by omega)
    have pn3p : ∀ a0 a1 a2 : Nat, (nx + a0 + a1 + a2 = p) = False := fun a0 a1 a2 => eq_false (by omega)
    have pn4p : ∀ a0 a1 a2 a3 : Nat, (nx + a0 + a1 + a2 + a3 = p) = False := fun a0 a1 a2 a3 => eq_false (by omega)
    have pn5p : ∀ a0 a1 a2 a3 a4 : Nat, (nx + a0 + a1 + a2 + a3 + a4 = p) = False := fun a0 a1 a2 a3 a4 => eq_false (by omega)
    have pn6p : ∀ a0 a1 a2 a3 a4 a5 : Nat, (nx + a0 + a1 + a2 + a3 + a4 + a5 = p) = False := fun a0 a1 a2 a3 a4 a5 => eq_false (by omega)
    have pn7p : ∀ a0 a1 a2 a3 a4 a5 a6 : Nat, (nx + a0 + a1 + a2 + a3 + a4 + a5 + a6 = p) = False := fun a0 a1 a2 a3 a4 a5 a6 => eq_false (by omega)
    have pn0u : (nx = u) = False := eq_false (by omega)
    have pn1u : ∀ a0 : Nat, (nx + a0 = u) = False := fun a0 => eq_false (by omega)
    have pn2u : ∀ a0 a1 : Nat, (nx + a0 + a1 = u) = False := fun a0 a1 => eq_false (by omega)
    have pn3u : ∀ a0 a1 a2 : Nat, (nx + a0 + a1 + a2 = u) = False := fun a0 a1 a2 => eq_false (by omega)
    have pn4u : ∀ a0 a1 a2 a3 : Nat, (nx + a0 + a1 + a2 + a3 = u) = False := fun a0 a1 a2 a3 => eq_false (by omega)
    have pn5u : ∀ a0 a1 a2 a3 a4 : Nat, (nx + a0 + a1 + a2 + a3 + a4 = u) = False := fun a0 a1 a2 a3 a4 => eq_false (by omega)
    have pn6u : ∀ a0 a1 a2 a3 a4 a5 : Nat, (nx + a0 + a1 + a2 + a3 + a4 + a5 = u) = False := fun a0 a1 a2 a3 a4 a5 => eq_false (by omega)
    have pn7u : ∀ a0 a1 a2 a3 a4 a5 a6 : Nat, (nx + a0 + a1 + a2 + a3 + a4 + a5 + a6 = u) = False := fun a0 a1 a2 a3 a4 a5 a6 => eq_false (by omega)
    have pn0v : (nx = v) = False := eq_false (by omega)
    have pn1v : ∀ a0 : Nat, (nx + a0 = v) = False := fun a0 => eq_false (by omega)
    have pn2v : ∀ a0 a1 : Nat, (nx + a0 + a1 = v) = False := fun a0 a1 => eq_false (by omega)
    have pn3v : ∀ a0 a1 a2 : Nat, (nx + a0 + a1 + a2 = v) = False := fun a0 a1 a2 => eq_false (by omega)
    have pn4v : ∀ a0 a1 a2 a3 : Nat, (nx + a0 + a1 + a2 + a3 = v) = False := fun a0 a1 a2 a3 => eq_false (by omega)
    have pn5v : ∀ a0 a1 a2 a3 a4 : Nat, (nx + a0 + a1 + a2 + a3 + a4 = v) = False := fun a0 a1 a2 a3 a4 => eq_false (by omega)
    have pn6v : ∀ a0 a1 a2 a3 a4 a5 : Nat, (nx + a0 + a1 + a2 + a3 + a4 + a5 = v) = False := fun a0 a1 a2 a3 a4 a5 => eq_false (by omega)
    have pn7v : ∀ a0 a1 a2 a3 a4 a5 a6 : Nat, (nx + a0 + a1 + a2 + a3 + a4 + a5 + a6 = v) = False := fun a0 a1 a2 a3 a4 a5 a6 => eq_false (by omega)
    simp (maxSteps := 4000000) only [icPLook, go_sem, goD_calls, eq_self, implies_true, Int.reduceEq, Int.reduceBEq, Int.reduceBNe, Int.reduceLE, Int.reduceLT, Int.reduceAdd, Int.reduceSub, Int.reduceMul, Int.reduceNeg, Nat.reduceMul, Nat.reduceSub, Nat.reduceLeDiff, Nat.reduceLT, Nat.reduceEqDiff, Nat.reduceAdd, reduceCtorEq, ↓reduceIte, reduceIte]
    refine go_loop (α := { x : Nat × Int × Int // x.1 ≤ l.length ∧ lookF l sf (l.length - x.1) x.1 x.2.1 x.2.2 = lookF l sf (l.length - k) k c0 d0 }) (I := fun x => { f := [(0, .ptr p 0)], h := hset h p (ptC sp u a v x.1.1 x.1.2.1 x.1.2.2), nx := nx }) (μ := fun x => l.length - x.1.1) _ _ _ ⟨(k, c0, d0), by simp only []; omega, rfl⟩ ?_ (fun x B hB => ?_)
    · simp only []
      rw [hset_self hp]
      refine leq_id ?_ ?_ (HLe.refl _) hnm (Nat.le_refl _)
      · simp only [frEq_cons, frEq_nil, frIn_cons, frIn_nil, and_true, fget_cons, Nat.reduceEqDiff, reduceIte, ↓reduceIte, true_and, SV.ren, SV.renL, ren1]
        try simp
      · (simp only [frLt_cons, frLt_nil, and_true, SV.lt, SV.ltL, true_and] <;> omega)
    · obtain ⟨⟨i, c, d⟩, hi, he⟩ := x
      simp only at hi he hB
      by_cases hil : i < l.length
      · have c1 : decide ((i : Int) < (l.length : Int)) = true := decide_eq_true (by omega)
        have hg := hgr i hil
        by_cases hc : ((l.getD i .nil).fld 0).i ≤ (sf.getD ((l.getD i .nil).fld 1).i.toNat .nil).i
        · have c2 : decide ((sf.getD ((l.getD i .nil).fld 1).i.toNat .nil).i < ((l.getD i .nil).fld 0).i) = false := decide_eq_false (by omega)
          rw [lookF_step hil hc] at he
          cases hb : ((l.getD i .nil).fld 2).b with
          | true =>
            rw [hb, if_pos rfl] at he
            simp (maxSteps := 4000000) only [go_sem, goD_calls, eq_self, implies_true, Int.reduceEq, Int.reduceBEq, Int.reduceBNe, Int.reduceLE, Int.reduceLT, Int.reduceAdd, Int.reduceSub, Int.reduceMul, Int.reduceNeg, Nat.reduceMul, Nat.reduceSub, Nat.reduceLeDiff, Nat.reduceLT, Nat.reduceEqDiff, Nat.reduceAdd, reduceCtorEq, ↓reduceIte, reduceIte, pn0p, pn1p, pn2p, pn3p, pn4p, pn5p, pn6p, pn7p, pn0u, pn1u, pn2u, pn3u, pn4u, pn5u, pn6u, pn7u, pn0v, pn1v, pn2v, pn3v, pn4v, pn5v, pn6v, pn7v, ptC_def, hpg, hug, hvg, hsg, c1, c2, hb, Int.toNat_natCast, min_i64, max_i64]
            repeat refine ⟨by omega, ?_⟩
            refine hB _ ⟨(i + 1, ((l.getD i .nil).fld 0).i, ((l.getD i .nil).fld 0).i), by simp only []; omega, he⟩ (by simp only []; omega) ?_
            refine leq_id ?_ ?_ (HLe.skip (hst _ _ _) (Nat.le_refl _) (HLe.refl _)) (hst _ _ _) (Nat.le_refl _)
            · simp only [frEq_cons, frEq_nil, frIn_cons, frIn_nil, and_true, fget_cons, Nat.reduceEqDiff, reduceIte, ↓reduceIte, true_and, SV.ren, SV.renL, ren1]
              try simp
            · (simp only [frLt_cons, frLt_nil, and_true, SV.lt, SV.ltL, true_and] <;> omega)
          | false =>
            rw [hb] at he
            simp only [Bool.false_eq_true, if_false] at he
            simp (maxSteps := 4000000) only [go_sem, goD_calls, eq_self, implies_true, Int.reduceEq, Int.reduceBEq, Int.reduceBNe, Int.reduceLE, Int.reduceLT, Int.reduceAdd, Int.reduceSub, Int.reduceMul, Int.reduceNeg, Nat.reduceMul, Nat.reduceSub, Nat.reduceLeDiff, Nat.reduceLT, Nat.reduceEqDiff, Nat.reduceAdd, reduceCtorEq, ↓reduceIte, reduceIte, pn0p, pn1p, pn2p, pn3p, pn4p, pn5p, pn6p, pn7p, pn0u, pn1u, pn2u, pn3u, pn4u, pn5u, pn6u, pn7u, pn0v, pn1v, pn2v, pn3v, pn4v, pn5v, pn6v, pn7v, ptC_def, hpg, hug, hvg, hsg, c1, c2, hb, Int.toNat_natCast, min_i64, max_i64]
            repeat refine ⟨by omega, ?_⟩
            refine hB _ ⟨(i + 1, ((l.getD i .nil).fld 0).i, d), by simp only []; omega, he⟩ (by simp only []; omega) ?_
            refine leq_id ?_ ?_ (HLe.skip (hst _ _ _) (Nat.le_refl _) (HLe.refl _)) (hst _ _ _) (Nat.le_refl _)
            · simp only [frEq_cons, frEq_nil, frIn_cons, frIn_nil, and_true, fget_cons, Nat.reduceEqDiff, reduceIte, ↓reduceIte, true_and, SV.ren, SV.renL, ren1]
              try simp
            · (simp only [frLt_cons, frLt_nil, and_true, SV.lt, SV.ltL, true_and] <;> omega)
        · have c2 : decide ((sf.getD ((l.getD i .nil).fld 1).i.toNat .nil).i < ((l.getD i .nil).fld 0).i) = true := decide_eq_true (by omega)
          rw [lookF_stop (fun x => hc x.2)] at he
          simp (maxSteps := 4000000) only [go_sem, goD_calls, eq_self, implies_true, Int.reduceEq, Int.reduceBEq, Int.reduceBNe, Int.reduceLE, Int.reduceLT, Int.reduceAdd, Int.reduceSub, Int.reduceMul, Int.reduceNeg, Nat.reduceMul, Nat.reduceSub, Nat.reduceLeDiff, Nat.reduceLT, Nat.reduceEqDiff, Nat.reduceAdd, reduceCtorEq, ↓reduceIte, reduceIte, pn0p, pn1p, pn2p, pn3p, pn4p, pn5p, pn6p, pn7p, pn0u, pn1u, pn2u, pn3u, pn4u, pn5u, pn6u, pn7u, pn0v, pn1v, pn2v, pn3v, pn4v, pn5v, pn6v, pn7v, ptC_def, hpg, hug, hvg, hsg, c1, c2, Int.toNat_natCast, min_i64, max_i64]
          repeat refine ⟨by omega, ?_⟩
          exact fin _ _ _ _ _ _ he (HLe.skip (hst _ _ _) (Nat.le_refl _) (HLe.refl _))
      · obtain rfl : i = l.length := by omega
        have c1 : decide ((l.length : Int) < (l.length : Int)) = false := decide_eq_false (by omega)
        rw [lookF_stop (fun x => hil x.1)] at he
        simp (maxSteps := 4000000) only [go_sem, goD_calls, eq_self, implies_true, Int.reduceEq, Int.reduceBEq, Int.reduceBNe, Int.reduceLE, Int.reduceLT, Int.reduceAdd, Int.reduceSub, Int.reduceMul, Int.reduceNeg, Nat.reduceMul, Nat.reduceSub, Nat.reduceLeDiff, Nat.reduceLT, Nat.reduceEqDiff, Nat.reduceAdd, reduceCtorEq, ↓reduceIte, reduceIte, pn0p, pn1p, pn2p, pn3p, pn4p, pn5p, pn6p, pn7p, pn0u, pn1u, pn2u, pn3u, pn4u, pn5u, pn6u, pn7u, pn0v, pn1v, pn2v, pn3v, pn4v, pn5v, pn6v, pn7v, ptC_def, hpg, hug, hvg, hsg, c1]
        exact fin _ _ _ _ _ _ he (HLe.refl _)
  · exact hsp.elim
end Go.Proofs.YtmjenjccinfbaaaDoor
