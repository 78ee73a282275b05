/- Chapter 15: the document's points: what they tell. -/
import Derived.Test.YtmjenjccinfbaaaDoorPntP
import Derived.Test.YtmjenjccinfbaaaDoorPntL
namespace Go.Proofs.YtmjenjccinfbaaaDoor
set_option linter.unusedVariables false
set_option linter.unusedSimpArgs false
open Go Go.Fw
attribute [local go_sem] walkSet evMdl evMupD evMup evLkp frpL eltP eltV eltK preF preP prePt prePd frzP evNlq ev frOf oget ogets argSs argS evCat evMm frzL evBin evWrp evShf evCmp evUna evNil evBeq evLd evSt evFad evIad evAad evLen evSln evEls evApp evParts evSlc evNlc evMif evPck evFld evBld evTas evIfq evSeq evSl0 evBxf evAgl evAgq evBsf hget hset hdel cellAt arrAt setCellAt setArrAt takeC lenC svCells SV.okc SV.one ldSV Fw.isAgg explode explodeL toD toDL toD1 Ty.size Ty.sizeL frz1 Fr.sub Heap.sub Tok.sub SV.sub SV.subL

def WRVDL : Opts := mkWE 50 [] [] [] 171 [] []
def icRVDL : IC := (.seq (.seq (.ops [(.u (.mov 2 (.c (.int .i64 0))))]) (.tr [0])) (.seq (.seq (.ops [(.u (.mov 6 (.s 0))), (.u (.nlc 7 (.s 6))), (.u (.fad 8 1 1 (.int .i64) 82 (.s 7))), (.u (.ld 9 (.int .i64) (.s 8))), (.u (.mov 3 (.s 9)))]) (.tr [0, 3])) (.seq (.seq (.ops [(.u (.mov 10 (.s 0))), (.u (.call 11 (.c (.clo 42 [])) [(.s 10)] [none] true)), (.u (.mov 4 (.s 11)))]) (.tr [4, 0, 3])) (.seq (.seq (.seq (.ops [(.u (.mov 5 (.c (.int .i64 0))))]) (.tr [4, 0, 5, 3])) (.block 0 (.loop (.seq (.seq (.seq (.ops [(.u (.mov 12 (.s 5))), (.u (.mov 13 (.s 0))), (.u (.nlc 14 (.s 13))), (.u (.fad 15 3 3 (.slice 34) 82 (.s 14))), (.u (.ld 16 (.slice 34) (.s 15))), (.u (.len 17 false (.s 16))), (.u (.cmp 18 .lss (.s 12) (.s 17)))]) (.tr [18, 5, 4, 0, 3])) (.cond (.s 18) .skip (.exit 0))) (.seq (.block 1 (.seq (.seq (.ops [(.u (.mov 21 (.s 0))), (.u (.nlc 22 (.s 21))), (.u (.fad 23 3 3 (.slice 34) 82 (.s 22))), (.u (.ld 24 (.slice 34) (.s 23))), (.u (.mov 25 (.s 5))), (.u (.iad 26 34 (.strct [(.int .i64), (.int .i64), (.int .i64), (.int .i64), (.int .i64), (.int .i64), (.int .i64), (.slice 5), (.slice 5), .bool]) (.s 24) (.s 25))), (.u (.fad 27 0 0 (.int .i64) 34 (.s 26))), (.u (.ld 28 (.int .i64) (.s 27))), (.u (.mov 29 (.s 4))), (.u (.cmp 30 .leq (.s 28) (.s 29))), (.u (.mov 31 (.s 30))), (.g 31 true (some 32) (.mov 32 (.s 0))), (.g 31 true (some 33) (.nlc 33 (.s 32))), (.g 31 true (some 34) (.fad 34 3 3 (.slice 34) 82 (.s 33))), (.g 31 true (some 35) (.ld 35 (.slice 34) (.s 34))), (.g 31 true (some 36) (.mov 36 (.s 5))), (.g 31 true (some 37) (.iad 37 34 (.strct [(.int .i64), (.int .i64), (.int .i64), (.int .i64), (.int .i64), (.int .i64), (.int .i64), (.slice 5), (.slice 5), .bool]) (.s 35) (.s 36))), (.g 31 true (some 38) (.fad 38 9 9 .bool 34 (.s 37))), (.g 31 true (some 39) (.ld 39 .bool (.s 38))), (.u (.pck 40 (.s 31) (.s 39) (.c (.bool false))))]) (.tr [40, 5, 4, 0, 3])) (.cond (.s 40) (.seq (.ops [(.u (.mov 41 (.s 0))), (.u (.nlc 42 (.s 41))), (.u (.fad 43 3 3 (.slice 34) 82 (.s 42))), (.u (.ld 44 (.slice 34) (.s 43))), (.u (.mov 45 (.s 5))), (.u (.iad 46 34 (.strct [(.int .i64), (.int .i64), (.int .i64), (.int .i64), (.int .i64), (.int .i64), (.int .i64), (.slice 5), (.slice 5), .bool]) (.s 44) (.s 45))), (.u (.fad 47 0 0 (.int .i64) 34 (.s 46))), (.u (.ld 48 (.int .i64) (.s 47))), (.u (.mov 3 (.s 48)))]) (.tr [5, 4, 0, 3])) .skip))) (.seq (.ops [(.u (.mov 19 (.s 5))), (.u (.bin 20 .add .i64 (.s 19) (.c (.int .i64 1)))), (.u (.mov 5 (.s 20)))]) (.tr [4, 0, 5, 3]))))))) (.seq (.seq (.ops [(.u (.mov 49 (.s 3))), (.u (.mov 2 (.s 49)))]) (.tr [2])) .ret)))))
def rsRVDL : List RV := [(.t 2)]
theorem irRVDL : fnIR Tryd.prog WRVDL 43 = some (icRVDL, rsRVDL) := by kernel_rfl
def spRVDL : FSpec := fun args h nx K => match args with
  | [.ptr p 0] => qOk (hget h p) ∧ rrOk (hget h (qU (hget h p))) ∧ iOk (hget h (qV (hget h p))) ∧ (aL (hget h (qU (hget h p)))).length ≤ 1000000 ∧ grOk ((aL (hget h (qU (hget h p)))).map snt) (aL (hget h (qV (hget h p)))) ∧ risS (qS (hget h p)) ((aL (hget h (qU (hget h p)))).map snt) ∧
      K (.int .i64 (vdA (qS (hget h p)) ((aL (hget h (qU (hget h p)))).map snt) (cntF ((aL (hget h (qU (hget h p)))).map snt) (aL (hget h (qV (hget h p))))))) h
  | _ => False
set_option maxHeartbeats 4000000 in
set_option maxRecDepth 8000 in
theorem vRVDL {E : Nat → Value} (hE : Errs2 Tryd.prog (some 171) E) : Valid Tryd.prog E (gs []) 43 spRVDL := by
  refine valid_go (W := WRVDL) hE (allValid_bot.add (up (vRVCL hE))) irRVDL (by decide) (fun args h nx K hsp hok hnm => ?_)
  unfold spRVDL at hsp
  split at hsp
  · rename_i p
    obtain ⟨⟨g, s, sp, u, v, hp⟩, hs, hi, hlen, hgr, hris, hK⟩ := hsp
    rw [hp] at hs hi hlen hgr hris hK
    rw [rpC_def] at hp hs hi hlen hgr hris hK
    rw [qU_c] at hs
    rw [qV_c] at hi
    obtain ⟨l, hu⟩ := hs
    obtain ⟨sf, hv⟩ := hi
    rw [qU_c, hu, aL_c] at hlen
    rw [qU_c, qS_c, hu, aL_c] at hris
    rw [qU_c, qV_c, hu, hv, aL_c, aL_c] at hgr
    rw [qU_c, qV_c, qS_c, hu, hv, aL_c, aL_c] at hK
    have hpx := (hnm p _ hp).1
    have hux := (hnm u _ hu).1
    have hvx := (hnm v _ hv).1
    refine ⟨by simp [WRVDL, mkW, mkWE, mkWF], fun Q hQ => ?_⟩
    obtain ⟨c, hc⟩ := cnt_ex (l.map snt) sf
    have hcc := cntF_eq hc
    rw [hcc] at hK
    have hcl : c ≤ (l.map snt).length := hc.1
    have hvd := vdR_eq hris hcl (l.map snt).length (Nat.le_refl _)
    rw [Nat.min_eq_right hcl, List.length_map] at hvd
    obtain ⟨vc, hvc⟩ : ∃ x, vcA s (l.map snt) c = x := ⟨_, rfl⟩
    rw [hvc] at hvd
    have pn0p : (nx = p) = False := eq_false (by omega)
    have pn1p : ∀ a0 : Nat, (nx + a0 = p) = False := fun a0 => eq_false (by omega)
    have pn2p : ∀ a0 a1 : Nat, (nx + a0 + a1 = p) = False := fun a0 a1 => eq_false (by omega)
    have pn3p : ∀ a0 a1 a2 : Nat, (nx + a0 + a1 + a2 = p) = False := fun a0 a1 a2 => eq_false (by omega)
    have pn4p : ∀ a0 a1 a2 a3 : Nat, (nx + a0 + a1 + a2 + a3 = p) = False := fun a0 a1 a2 a3 => eq_false (by omega)
    have pn5p : ∀ a0 a1 a2 a3 a4 : Nat, (nx + a0 + a1 + a2 + a3 + a4 = p) = False := fun a0 a1 a2 a3 a4 => eq_false (by omega)
    have pn6p : ∀ a0 a1 a2 a3 a4 a5 : Nat, (nx + a0 + a1 + a2 + a3 + a4 + a5 = p) = False := fun a0 a1 a2 a3 a4 a5 => eq_false (by omega)
    have pn7p : ∀ a0 a1 a2 a3 a4 a5 a6 : Nat, (nx + a0 + a1 + a2 + a3 + a4 + a5 + a6 = p) = False := fun a0 a1 a2 a3 a4 a5 a6 => eq_false (by omega)
    have pn0u : (nx = u) = False := eq_false (by omega)
    have pn1u : ∀ a0 : Nat, (nx + a0 = u) = False := fun a0 => eq_false (by omega)
    have pn2u : ∀ a0 a1 : Nat, (nx + a0 + a1 = u) = False := fun a0 a1 => eq_false (by omega)
    have pn3u : ∀ a0 a1 a2 : Nat, (nx + a0 + a1 + a2 = u) = False := fun a0 a1 a2 => eq_false (by omega)
    have pn4u : ∀ a0 a1 a2 a3 : Nat, (nx + a0 + a1 + a2 + a3 = u) = False := fun a0 a1 a2 a3 => eq_false (by omega)
    have pn5u : ∀ a0 a1 a2 a3 a4 : Nat, (nx + a0 + a1 + a2 + a3 + a4 = u) = False := fun a0 a1 a2 a3 a4 => eq_false (by omega)
    have pn6u : ∀ a0 a1 a2 a3 a4 a5 : Nat, (nx + a0 + a1 + a2 + a3 + a4 + a5 = u) = False := fun a0 a1 a2 a3 a4 a5 => eq_false (by omega)
    have pn7u : ∀ a0 a1 a2 a3 a4 a5 a6 : Nat, (nx + a0 + a1 + a2 + a3 + a4 + a5 + a6 = u) = False := fun a0 a1 a2 a3 a4 a5 a6 => eq_false (by omega)
    have pn0v : (nx = v) = False := eq_false (by omega)
    have pn1v : ∀ a0 : Nat, (nx + a0 = v) = False := fun a0 => eq_false (by omega)
    have pn2v : ∀ a0 a1 : Nat, (nx + a0 + a1 = v) = False := fun a0 a1 => eq_false (by omega)
    have pn3v : ∀ a0 a1 a2 : Nat, (nx + a0 + a1 + a2 = v) = False := fun a0 a1 a2 => eq_false (by omega)
    have pn4v : ∀ a0 a1 a2 a3 : Nat, (nx + a0 + a1 + a2 + a3 = v) = False := fun a0 a1 a2 a3 => eq_false (by omega)
    have pn5v : ∀ a0 a1 a2 a3 a4 : Nat, (nx + a0 + a1 + a2 + a3 + a4 = v) = False := fun a0 a1 a2 a3 a4 => eq_false (by omega)
    have pn6v : ∀ a0 a1 a2 a3 a4 a5 : Nat, (nx + a0 + a1 + a2 + a3 + a4 + a5 = v) = False := fun a0 a1 a2 a3 a4 a5 => eq_false (by omega)
    have pn7v : ∀ a0 a1 a2 a3 a4 a5 a6 : Nat, (nx + a0 + a1 + a2 + a3 + a4 + a5 + a6 = v) = False := fun a0 a1 a2 a3 a4 a5 a6 => eq_false (by omega)
    have hS : ∀ k, k < l.length → (((l.map snt).getD k .nil).fld 0).i = ((l.getD k .nil).fld 0).i ∧ (((l.map snt).getD k .nil).fld 2).b = ((l.getD k .nil).fld 9).b := fun k hk => by
      rw [snt_at hk]
      exact ⟨rfl, rfl⟩
    have hstep : ∀ k, k < l.length → vdR s vc (l.map snt) (k + 1) = if ((l.getD k .nil).fld 0).i ≤ vc ∧ ((l.getD k .nil).fld 9).b = true then ((l.getD k .nil).fld 0).i else vdR s vc (l.map snt) k := fun k hk => by
      rw [← (hS k hk).1, ← (hS k hk).2]
      rfl
    simp (maxSteps := 4000000) only [icRVDL, go_sem, goD_calls, eq_self, implies_true, Int.reduceEq, Int.reduceBEq, Int.reduceBNe, Int.reduceLE, Int.reduceLT, Int.reduceAdd, Int.reduceSub, Int.reduceMul, Int.reduceNeg, Nat.reduceMul, Nat.reduceSub, Nat.reduceLeDiff, Nat.reduceLT, Nat.reduceEqDiff, Nat.reduceAdd, reduceCtorEq, ↓reduceIte, reduceIte, pn0p, pn1p, pn2p, pn3p, pn4p, pn5p, pn6p, pn7p, pn0u, pn1u, pn2u, pn3u, pn4u, pn5u, pn6u, pn7u, pn0v, pn1v, pn2v, pn3v, pn4v, pn5v, pn6v, pn7v, hp, hu, hv, spRVCL, qOk_c, rrOk_c, iOk_c, qU_c, qV_c, qS_c, aL_c, hcc, hvc]
    refine ⟨hlen, hgr, ?_⟩
    refine go_loop (α := { i : Nat // i ≤ l.length }) (I := fun i => { f := [(5, .int .i64 i.1), (4, .int .i64 vc), (0, .ptr p 0), (3, .int .i64 (vdR s vc (l.map snt) i.1))], h := h, nx := nx }) (μ := fun i => l.length - i.1) _ _ _ ⟨0, by omega⟩ ?_ (fun i B hB => ?_)
    · refine leq_id (by simp only [frEq_cons, frEq_nil, frIn_cons, frIn_nil, and_true, fget_cons, Nat.reduceEqDiff, reduceIte, ↓reduceIte, true_and, SV.ren, SV.renL, ren1] <;> (try rfl) <;> (try simp [vdR])) (by (simp only [frLt_cons, frLt_nil, and_true, SV.lt, SV.ltL, true_and] <;> omega)) (by ((try simp only []); repeat first | exact HLe.refl _ | refine HLe.cons (by simp only [hget, Nat.reduceEqDiff, Nat.left_eq_add, Nat.add_eq_left, nm_ne2, nm_en2, nm_ne3, nm_en3, nm_ne4, nm_en4, nm_ne5, nm_en5, reduceIte, ↓reduceIte] <;> first | rfl | ((repeat rw [if_neg (by omega)]) <;> rfl)) ?_ | refine HLe.skip hnm (by omega) ?_ | refine HLe.frz hnm (by omega) ?_ | refine HLe.del hnm (by omega) ?_)) (by (repeat first | exact HLt.mono hnm (by simp only [] <;> omega) | refine HLt.cons (by simp only [] <;> omega) (by simp only [Tok.lt, SV.ltL, SV.lt, and_true, true_and] <;> omega) ?_)) (by simp only [] <;> omega)
    obtain ⟨i, hi⟩ := i
    simp only at hB ⊢
    by_cases hil : i < l.length
    · have d1 : decide ((i : Int) < (l.length : Int)) = true := decide_eq_true (by omega)
      have hst := hstep i hil
      have next : ∀ x S', x = vdR s vc (l.map snt) (i + 1) → Leq nx S' { f := [(5, .int .i64 ((i : Int) + 1)), (4, .int .i64 vc), (0, .ptr p 0), (3, .int .i64 x)], h := h, nx := nx } → B S' := fun x S' hx hl => by
        subst hx
        exact hB _ ⟨i + 1, by omega⟩ (by simp only []; omega) hl
      by_cases h1 : ((l.getD i .nil).fld 0).i ≤ vc
      · have d2 : decide (((l.getD i .nil).fld 0).i ≤ vc) = true := decide_eq_true h1
        rcases Bool.eq_false_or_eq_true ((l.getD i .nil).fld 9).b with hb | hb
        · rw [if_pos ⟨h1, hb⟩] at hst
          simp (maxSteps := 4000000) only [go_sem, goD_calls, eq_self, implies_true, Int.reduceEq, Int.reduceBEq, Int.reduceBNe, Int.reduceLE, Int.reduceLT, Int.reduceAdd, Int.reduceSub, Int.reduceMul, Int.reduceNeg, Nat.reduceMul, Nat.reduceSub, Nat.reduceLeDiff, Nat.reduceLT, Nat.reduceEqDiff, Nat.reduceAdd, reduceCtorEq, ↓reduceIte, reduceIte, pn0p, pn1p, pn2p, pn3p, pn4p, pn5p, pn6p, pn7p, pn0u, pn1u, pn2u, pn3u, pn4u, pn5u, pn6u, pn7u, pn0v, pn1v, pn2v, pn3v, pn4v, pn5v, pn6v, pn7v, hp, hu, hv, d1, d2, hb, Int.toNat_natCast, min_i64, max_i64]
          repeat refine ⟨by first | omega | rfl, ?_⟩
          refine next _ _ hst.symm ?_
          refine leq_id (by simp only [frEq_cons, frEq_nil, frIn_cons, frIn_nil, and_true, fget_cons, Nat.reduceEqDiff, reduceIte, ↓reduceIte, true_and, SV.ren, SV.renL, ren1] <;> (try rfl) <;> (try simp)) (by (simp only [frLt_cons, frLt_nil, and_true, SV.lt, SV.ltL, true_and] <;> omega)) (by ((try simp only []); repeat first | exact HLe.refl _ | refine HLe.cons (by simp only [hget, Nat.reduceEqDiff, Nat.left_eq_add, Nat.add_eq_left, nm_ne2, nm_en2, nm_ne3, nm_en3, nm_ne4, nm_en4, nm_ne5, nm_en5, reduceIte, ↓reduceIte] <;> first | rfl | ((repeat rw [if_neg (by omega)]) <;> rfl)) ?_ | refine HLe.skip hnm (by omega) ?_ | refine HLe.frz hnm (by omega) ?_ | refine HLe.del hnm (by omega) ?_)) (by (repeat first | exact HLt.mono hnm (by simp only [] <;> omega) | refine HLt.cons (by simp only [] <;> omega) (by simp only [Tok.lt, SV.ltL, SV.lt, and_true, true_and] <;> omega) ?_)) (Nat.le_refl _)
        · rw [if_neg (fun h => by rw [hb] at h; exact absurd h.2 (by decide))] at hst
          simp (maxSteps := 4000000) only [go_sem, goD_calls, eq_self, implies_true, Int.reduceEq, Int.reduceBEq, Int.reduceBNe, Int.reduceLE, Int.reduceLT, Int.reduceAdd, Int.reduceSub, Int.reduceMul, Int.reduceNeg, Nat.reduceMul, Nat.reduceSub, Nat.reduceLeDiff, Nat.reduceLT, Nat.reduceEqDiff, Nat.reduceAdd, reduceCtorEq, ↓reduceIte, reduceIte, pn0p, pn1p, pn2p, pn3p, pn4p, pn5p, pn6p, pn7p, pn0u, pn1u, pn2u, pn3u, pn4u, pn5u, pn6u, pn7u, pn0v, pn1v, pn2v, pn3v, pn4v, pn5v, pn6v, pn7v, hp, hu, hv, d1, d2, hb, Int.toNat_natCast, min_i64, max_i64]
          repeat refine ⟨by first | omega | rfl, ?_⟩
          refine next _ _ hst.symm ?_
          refine leq_id (by simp only [frEq_cons, frEq_nil, frIn_cons, frIn_nil, and_true, fget_cons, Nat.reduceEqDiff, reduceIte, ↓reduceIte, true_and, SV.ren, SV.renL, ren1] <;> (try rfl) <;> (try simp)) (by (simp only [frLt_cons, frLt_nil, and_true, SV.lt, SV.ltL, true_and] <;> omega)) (by ((try simp only []); repeat first | exact HLe.refl _ | refine HLe.cons (by simp only [hget, Nat.reduceEqDiff, Nat.left_eq_add, Nat.add_eq_left, nm_ne2, nm_en2, nm_ne3, nm_en3, nm_ne4, nm_en4, nm_ne5, nm_en5, reduceIte, ↓reduceIte] <;> first | rfl | ((repeat rw [if_neg (by omega)]) <;> rfl)) ?_ | refine HLe.skip hnm (by omega) ?_ | refine HLe.frz hnm (by omega) ?_ | refine HLe.del hnm (by omega) ?_)) (by (repeat first | exact HLt.mono hnm (by simp only [] <;> omega) | refine HLt.cons (by simp only [] <;> omega) (by simp only [Tok.lt, SV.ltL, SV.lt, and_true, true_and] <;> omega) ?_)) (Nat.le_refl _)
      · have d2 : decide (((l.getD i .nil).fld 0).i ≤ vc) = false := decide_eq_false h1
        rw [if_neg (fun h => h1 h.1)] at hst
        simp (maxSteps := 4000000) only [go_sem, goD_calls, eq_self, implies_true, Int.reduceEq, Int.reduceBEq, Int.reduceBNe, Int.reduceLE, Int.reduceLT, Int.reduceAdd, Int.reduceSub, Int.reduceMul, Int.reduceNeg, Nat.reduceMul, Nat.reduceSub, Nat.reduceLeDiff, Nat.reduceLT, Nat.reduceEqDiff, Nat.reduceAdd, reduceCtorEq, ↓reduceIte, reduceIte, pn0p, pn1p, pn2p, pn3p, pn4p, pn5p, pn6p, pn7p, pn0u, pn1u, pn2u, pn3u, pn4u, pn5u, pn6u, pn7u, pn0v, pn1v, pn2v, pn3v, pn4v, pn5v, pn6v, pn7v, hp, hu, hv, d1, d2, Int.toNat_natCast, min_i64, max_i64]
        repeat refine ⟨by first | omega | rfl, ?_⟩
        refine next _ _ hst.symm ?_
        refine leq_id (by simp only [frEq_cons, frEq_nil, frIn_cons, frIn_nil, and_true, fget_cons, Nat.reduceEqDiff, reduceIte, ↓reduceIte, true_and, SV.ren, SV.renL, ren1] <;> (try rfl) <;> (try simp)) (by (simp only [frLt_cons, frLt_nil, and_true, SV.lt, SV.ltL, true_and] <;> omega)) (by ((try simp only []); repeat first | exact HLe.refl _ | refine HLe.cons (by simp only [hget, Nat.reduceEqDiff, Nat.left_eq_add, Nat.add_eq_left, nm_ne2, nm_en2, nm_ne3, nm_en3, nm_ne4, nm_en4, nm_ne5, nm_en5, reduceIte, ↓reduceIte] <;> first | rfl | ((repeat rw [if_neg (by omega)]) <;> rfl)) ?_ | refine HLe.skip hnm (by omega) ?_ | refine HLe.frz hnm (by omega) ?_ | refine HLe.del hnm (by omega) ?_)) (by (repeat first | exact HLt.mono hnm (by simp only [] <;> omega) | refine HLt.cons (by simp only [] <;> omega) (by simp only [Tok.lt, SV.ltL, SV.lt, and_true, true_and] <;> omega) ?_)) (Nat.le_refl _)
    · obtain rfl : i = l.length := by omega
      have d1 : decide ((l.length : Int) < (l.length : Int)) = false := decide_eq_false (by omega)
      rw [hvd]
      simp (maxSteps := 4000000) only [go_sem, goD_calls, eq_self, implies_true, Int.reduceEq, Int.reduceBEq, Int.reduceBNe, Int.reduceLE, Int.reduceLT, Int.reduceAdd, Int.reduceSub, Int.reduceMul, Int.reduceNeg, Nat.reduceMul, Nat.reduceSub, Nat.reduceLeDiff, Nat.reduceLT, Nat.reduceEqDiff, Nat.reduceAdd, reduceCtorEq, ↓reduceIte, reduceIte, pn0p, pn1p, pn2p, pn3p, pn4p, pn5p, pn6p, pn7p, pn0u, pn1u, pn2u, pn3u, pn4u, pn5u, pn6u, pn7u, pn0v, pn1v, pn2v, pn3v, pn4v, pn5v, pn6v, pn7v, hp, hu, hv, d1]
      refine (hQ _ ?_).1
      exact fin_t (.int .i64 _) rfl rfl hnm (by ((try simp only []); repeat first | exact HLe.refl _ | refine HLe.cons (by simp only [hget, Nat.reduceEqDiff, Nat.left_eq_add, Nat.add_eq_left, nm_ne2, nm_en2, nm_ne3, nm_en3, nm_ne4, nm_en4, nm_ne5, nm_en5, reduceIte, ↓reduceIte] <;> first | rfl | ((repeat rw [if_neg (by omega)]) <;> rfl)) ?_ | refine HLe.skip hnm (by omega) ?_ | refine HLe.frz hnm (by omega) ?_ | refine HLe.del hnm (by omega) ?_)) hK
  · exact hsp.elim

def WRLeft : Opts := mkWE 30 [] [] [] 171 [] []
def icRLeft : IC := (.seq (.seq (.ops [(.u (.mov 2 (.c (.int .i64 0))))]) (.tr [0])) (.seq (.seq (.ops [(.u (.mov 3 (.c (.int .i64 0))))]) (.tr [0, 3])) (.seq (.seq (.ops [(.u (.mov 6 (.s 0))), (.u (.call 7 (.c (.clo 42 [])) [(.s 6)] [none] true)), (.u (.mov 4 (.s 7)))]) (.tr [0, 4, 3])) (.seq (.seq (.seq (.ops [(.u (.mov 5 (.c (.int .i64 0))))]) (.tr [0, 4, 5, 3])) (.block 0 (.loop (.seq (.seq (.seq (.ops [(.u (.mov 8 (.s 5))), (.u (.mov 9 (.s 0))), (.u (.nlc 10 (.s 9))), (.u (.fad 11 3 3 (.slice 34) 82 (.s 10))), (.u (.ld 12 (.slice 34) (.s 11))), (.u (.len 13 false (.s 12))), (.u (.cmp 14 .lss (.s 8) (.s 13)))]) (.tr [14, 5, 0, 4, 3])) (.cond (.s 14) .skip (.exit 0))) (.seq (.block 1 (.seq (.seq (.ops [(.u (.mov 17 (.s 0))), (.u (.nlc 18 (.s 17))), (.u (.fad 19 3 3 (.slice 34) 82 (.s 18))), (.u (.ld 20 (.slice 34) (.s 19))), (.u (.mov 21 (.s 5))), (.u (.iad 22 34 (.strct [(.int .i64), (.int .i64), (.int .i64), (.int .i64), (.int .i64), (.int .i64), (.int .i64), (.slice 5), (.slice 5), .bool]) (.s 20) (.s 21))), (.u (.fad 23 0 0 (.int .i64) 34 (.s 22))), (.u (.ld 24 (.int .i64) (.s 23))), (.u (.mov 25 (.s 4))), (.u (.cmp 26 .gtr (.s 24) (.s 25)))]) (.tr [26, 5, 0, 4, 3])) (.cond (.s 26) (.seq (.ops [(.u (.mov 27 (.s 3))), (.u (.bin 28 .add .i64 (.s 27) (.c (.int .i64 1)))), (.u (.mov 3 (.s 28)))]) (.tr [5, 0, 4, 3])) .skip))) (.seq (.ops [(.u (.mov 15 (.s 5))), (.u (.bin 16 .add .i64 (.s 15) (.c (.int .i64 1)))), (.u (.mov 5 (.s 16)))]) (.tr [0, 4, 5, 3]))))))) (.seq (.seq (.ops [(.u (.mov 29 (.s 3))), (.u (.mov 2 (.s 29)))]) (.tr [2])) .ret)))))
def rsRLeft : List RV := [(.t 2)]
theorem irRLeft : fnIR Tryd.prog WRLeft 44 = some (icRLeft, rsRLeft) := by kernel_rfl
def spRLeft : FSpec := fun args h nx K => match args with
  | [.ptr p 0] => qOk (hget h p) ∧ rrOk (hget h (qU (hget h p))) ∧ iOk (hget h (qV (hget h p))) ∧ (aL (hget h (qU (hget h p)))).length ≤ 1000000 ∧ grOk ((aL (hget h (qU (hget h p)))).map snt) (aL (hget h (qV (hget h p)))) ∧ risS (qS (hget h p)) ((aL (hget h (qU (hget h p)))).map snt) ∧
      K (.int .i64 ((((aL (hget h (qU (hget h p)))).length - cntF ((aL (hget h (qU (hget h p)))).map snt) (aL (hget h (qV (hget h p)))) : Nat) : Int))) h
  | _ => False
set_option maxHeartbeats 4000000 in
set_option maxRecDepth 8000 in
theorem vRLeft {E : Nat → Value} (hE : Errs2 Tryd.prog (some 171) E) : Valid Tryd.prog E (gs []) 44 spRLeft := by
  refine valid_go (W := WRLeft) hE (allValid_bot.add (up (vRVCL hE))) irRLeft (by decide) (fun args h nx K hsp hok hnm => ?_)
  unfold spRLeft at hsp
  split at hsp
  · rename_i p
    obtain ⟨⟨g, s, sp, u, v, hp⟩, hs, hi, hlen, hgr, hris, hK⟩ := hsp
    rw [hp] at hs hi hlen hgr hris hK
    rw [rpC_def] at hp hs hi hlen hgr hris hK
    rw [qU_c] at hs
    rw [qV_c] at hi
    obtain ⟨l, hu⟩ := hs
    obtain ⟨sf, hv⟩ := hi
    rw [qU_c, hu, aL_c] at hlen
    rw [qU_c, qS_c, hu, aL_c] at hris
    rw [qU_c, qV_c, hu, hv, aL_c, aL_c] at hgr
    rw [qU_c, qV_c, hu, hv, aL_c, aL_c] at hK
    have hpx := (hnm p _ hp).1
    have hux := (hnm u _ hu).1
    have hvx := (hnm v _ hv).1
    refine ⟨by simp [WRLeft, mkW, mkWE, mkWF], fun Q hQ => ?_⟩
    obtain ⟨c, hc⟩ := cnt_ex (l.map snt) sf
    have hcc := cntF_eq hc
    rw [hcc] at hK
    have hcl : c ≤ (l.map snt).length := hc.1
    have hlf := leftR_eq hris hcl (l.map snt).length (Nat.le_refl _)
    rw [List.length_map] at hlf
    obtain ⟨vc, hvc⟩ : ∃ x, vcA s (l.map snt) c = x := ⟨_, rfl⟩
    rw [hvc] at hlf
    have pn0p : (nx = p) = False := eq_false (by omega)
    have pn1p : ∀ a0 : Nat, (nx + a0 = p) = False := fun a0 => eq_false (by omega)
    have pn2p : ∀ a0 a1 : Nat, (nx + a0 + a1 = p) = False := fun a0 a1 => eq_false (by omega)
    have pn3p : ∀ a0 a1 a2 : Nat, (nx + a0 + a1 + a2 = p) = False := fun a0 a1 a2 => eq_false (by omega)
    have pn4p : ∀ a0 a1 a2 a3 : Nat, (nx + a0 + a1 + a2 + a3 = p) = False := fun a0 a1 a2 a3 => eq_false (by omega)
    have pn5p : ∀ a0 a1 a2 a3 a4 : Nat, (nx + a0 + a1 + a2 + a3 + a4 = p) = False := fun a0 a1 a2 a3 a4 => eq_false (by omega)
    have pn6p : ∀ a0 a1 a2 a3 a4 a5 : Nat, (nx + a0 + a1 + a2 + a3 + a4 + a5 = p) = False := fun a0 a1 a2 a3 a4 a5 => eq_false (by omega)
    have pn7p : ∀ a0 a1 a2 a3 a4 a5 a6 : Nat, (nx + a0 + a1 + a2 + a3 + a4 + a5 + a6 = p) = False := fun a0 a1 a2 a3 a4 a5 a6 => eq_false (by omega)
    have pn0u : (nx = u) = False := eq_false (by omega)
    have pn1u : ∀ a0 : Nat, (nx + a0 = u) = False := fun a0 => eq_false (by omega)
    have pn2u : ∀ a0 a1 : Nat, (nx + a0 + a1 = u) = False := fun a0 a1 => eq_false (by omega)
    have pn3u : ∀ a0 a1 a2 : Nat, (nx + a0 + a1 + a2 = u) = False := fun a0 a1 a2 => eq_false (by omega)
    have pn4u : ∀ a0 a1 a2 a3 : Nat, (nx + a0 + a1 + a2 + a3 = u) = False := fun a0 a1 a2 a3 => eq_false (by omega)
    have pn5u : ∀ a0 a1 a2 a3 a4 : Nat, (nx + a0 + a1 + a2 + a3 + a4 = u) = False := fun a0 a1 a2 a3 a4 => eq_false (by omega)
    have pn6u : ∀ a0 a1 a2 a3 a4 a5 : Nat, (nx + a0 + a1 + a2 + a3 + a4 + a5 = u) = False := fun a0 a1 a2 a3 a4 a5 => eq_false (by omega)
    have pn7u : ∀ a0 a1 a2 a3 a4 a5 a6 : Nat, (nx + a0 + a1 + a2 + a3 + a4 + a5 + a6 = u) = False := fun a0 a1 a2 a3 a4 a5 a6 => eq_false (by omega)
    have pn0v : (nx = v) = False := eq_false (by omega)
    have pn1v : ∀ a0 : Nat, (nx + a0 = v) = False := fun a0 => eq_false (by omega)
    have pn2v : ∀ a0 a1 : Nat, (nx + a0 + a1 = v) = False := fun a0 a1 => eq_false (by omega)
    have pn3v : ∀ a0 a1 a2 : Nat, (nx + a0 + a1 + a2 = v) = False := fun a0 a1 a2 => eq_false (by omega)
    have pn4v : ∀ a0 a1 a2 a3 : Nat, (nx + a0 + a1 + a2 + a3 = v) = False := fun a0 a1 a2 a3 => eq_false (by omega)
    have pn5v : ∀ a0 a1 a2 a3 a4 : Nat, (nx + a0 + a1 + a2 + a3 + a4 = v) = False := fun a0 a1 a2 a3 a4 => eq_false (by omega)
    have pn6v : ∀ a0 a1 a2 a3 a4 a5 : Nat, (nx + a0 + a1 + a2 + a3 + a4 + a5 = v) = False := fun a0 a1 a2 a3 a4 a5 => eq_false (by omega)
    have pn7v : ∀ a0 a1 a2 a3 a4 a5 a6 : Nat, (nx + a0 + a1 + a2 + a3 + a4 + a5 + a6 = v) = False := fun a0 a1 a2 a3 a4 a5 a6 => eq_false (by omega)
    have hstep : ∀ k, k < l.length → leftR vc (l.map snt) (k + 1) = if vc < ((l.getD k .nil).fld 0).i then leftR vc (l.map snt) k + 1 else leftR vc (l.map snt) k := fun k hk => by
      show (if vc < (((l.map snt).getD k .nil).fld 0).i then _ else _) = _
      rw [snt_at hk]
      rfl
    have hle : ∀ k, leftR vc (l.map snt) k ≤ k := fun k => by
      induction k with
      | zero => exact Nat.le_refl _
      | succ k ih =>
        show (if vc < (((l.map snt).getD k .nil).fld 0).i then leftR vc (l.map snt) k + 1 else leftR vc (l.map snt) k) ≤ _
        split <;> omega
    simp (maxSteps := 4000000) only [icRLeft, go_sem, goD_calls, eq_self, implies_true, Int.reduceEq, Int.reduceBEq, Int.reduceBNe, Int.reduceLE, Int.reduceLT, Int.reduceAdd, Int.reduceSub, Int.reduceMul, Int.reduceNeg, Nat.reduceMul, Nat.reduceSub, Nat.reduceLeDiff, Nat.reduceLT, Nat.reduceEqDiff, Nat.reduceAdd, reduceCtorEq, ↓reduceIte, reduceIte, pn0p, pn1p, pn2p, pn3p, pn4p, pn5p, pn6p, pn7p, pn0u, pn1u, pn2u, pn3u, pn4u, pn5u, pn6u, pn7u, pn0v, pn1v, pn2v, pn3v, pn4v, pn5v, pn6v, pn7v, hp, hu, hv, spRVCL, qOk_c, rrOk_c, iOk_c, qU_c, qV_c, qS_c, aL_c, hcc, hvc]
    refine ⟨hlen, hgr, ?_⟩
    refine go_loop (α := { i : Nat // i ≤ l.length }) (I := fun i => { f := [(5, .int .i64 i.1), (4, .int .i64 vc), (0, .ptr p 0), (3, .int .i64 (leftR vc (l.map snt) i.1))], h := h, nx := nx }) (μ := fun i => l.length - i.1) _ _ _ ⟨0, by omega⟩ ?_ (fun i B hB => ?_)
    · refine leq_id (by simp only [frEq_cons, frEq_nil, frIn_cons, frIn_nil, and_true, fget_cons, Nat.reduceEqDiff, reduceIte, ↓reduceIte, true_and, SV.ren, SV.renL, ren1] <;> (try rfl) <;> (try simp [leftR])) (by (simp only [frLt_cons, frLt_nil, and_true, SV.lt, SV.ltL, true_and] <;> omega)) (by ((try simp only []); repeat first | exact HLe.refl _ | refine HLe.cons (by simp only [hget, Nat.reduceEqDiff, Nat.left_eq_add, Nat.add_eq_left, nm_ne2, nm_en2, nm_ne3, nm_en3, nm_ne4, nm_en4, nm_ne5, nm_en5, reduceIte, ↓reduceIte] <;> first | rfl | ((repeat rw [if_neg (by omega)]) <;> rfl)) ?_ | refine HLe.skip hnm (by omega) ?_ | refine HLe.frz hnm (by omega) ?_ | refine HLe.del hnm (by omega) ?_)) (by (repeat first | exact HLt.mono hnm (by simp only [] <;> omega) | refine HLt.cons (by simp only [] <;> omega) (by simp only [Tok.lt, SV.ltL, SV.lt, and_true, true_and] <;> omega) ?_)) (by simp only [] <;> omega)
    obtain ⟨i, hi⟩ := i
    simp only at hB ⊢
    have hlei := hle i
    by_cases hil : i < l.length
    · have d1 : decide ((i : Int) < (l.length : Int)) = true := decide_eq_true (by omega)
      have hst := hstep i hil
      have next : ∀ x S', x = leftR vc (l.map snt) (i + 1) → Leq nx S' { f := [(5, .int .i64 ((i : Int) + 1)), (4, .int .i64 vc), (0, .ptr p 0), (3, .int .i64 (x : Nat))], h := h, nx := nx } → B S' := fun x S' hx hl => by
        subst hx
        exact hB _ ⟨i + 1, by omega⟩ (by simp only []; omega) hl
      by_cases h1 : vc < ((l.getD i .nil).fld 0).i
      · have d2 : decide (vc < ((l.getD i .nil).fld 0).i) = true := decide_eq_true h1
        rw [if_pos h1] at hst
        simp (maxSteps := 4000000) only [go_sem, goD_calls, eq_self, implies_true, Int.reduceEq, Int.reduceBEq, Int.reduceBNe, Int.reduceLE, Int.reduceLT, Int.reduceAdd, Int.reduceSub, Int.reduceMul, Int.reduceNeg, Nat.reduceMul, Nat.reduceSub, Nat.reduceLeDiff, Nat.reduceLT, Nat.reduceEqDiff, Nat.reduceAdd, reduceCtorEq, ↓reduceIte, reduceIte, pn0p, pn1p, pn2p, pn3p, pn4p, pn5p, pn6p, pn7p, pn0u, pn1u, pn2u, pn3u, pn4u, pn5u, pn6u, pn7u, pn0v, pn1v, pn2v, pn3v, pn4v, pn5v, pn6v, pn7v, hp, hu, hv, d1, d2, Int.toNat_natCast, min_i64, max_i64]
        repeat refine ⟨by first | omega | rfl, ?_⟩
        refine next _ _ hst.symm ?_
        refine leq_id (by simp only [frEq_cons, frEq_nil, frIn_cons, frIn_nil, and_true, fget_cons, Nat.reduceEqDiff, reduceIte, ↓reduceIte, true_and, SV.ren, SV.renL, ren1] <;> (try rfl) <;> (try simp)) (by (simp only [frLt_cons, frLt_nil, and_true, SV.lt, SV.ltL, true_and] <;> omega)) (by ((try simp only []); repeat first | exact HLe.refl _ | refine HLe.cons (by simp only [hget, Nat.reduceEqDiff, Nat.left_eq_add, Nat.add_eq_left, nm_ne2, nm_en2, nm_ne3, nm_en3, nm_ne4, nm_en4, nm_ne5, nm_en5, reduceIte, ↓reduceIte] <;> first | rfl | ((repeat rw [if_neg (by omega)]) <;> rfl)) ?_ | refine HLe.skip hnm (by omega) ?_ | refine HLe.frz hnm (by omega) ?_ | refine HLe.del hnm (by omega) ?_)) (by (repeat first | exact HLt.mono hnm (by simp only [] <;> omega) | refine HLt.cons (by simp only [] <;> omega) (by simp only [Tok.lt, SV.ltL, SV.lt, and_true, true_and] <;> omega) ?_)) (Nat.le_refl _)
      · have d2 : decide (vc < ((l.getD i .nil).fld 0).i) = false := decide_eq_false h1
        rw [if_neg h1] at hst
        simp (maxSteps := 4000000) only [go_sem, goD_calls, eq_self, implies_true, Int.reduceEq, Int.reduceBEq, Int.reduceBNe, Int.reduceLE, Int.reduceLT, Int.reduceAdd, Int.reduceSub, Int.reduceMul, Int.reduceNeg, Nat.reduceMul, Nat.reduceSub, Nat.reduceLeDiff, Nat.reduceLT, Nat.reduceEqDiff, Nat.reduceAdd, reduceCtorEq, ↓reduceIte, reduceIte, pn0p, pn1p, pn2p, pn3p, pn4p, pn5p, pn6p, pn7p, pn0u, pn1u, pn2u, pn3u, pn4u, pn5u, pn6u, pn7u, pn0v, pn1v, pn2v, pn3v, pn4v, pn5v, pn6v, pn7v, hp, hu, hv, d1, d2, Int.toNat_natCast, min_i64, max_i64]
        repeat refine ⟨by first | omega | rfl, ?_⟩
        refine next _ _ hst.symm ?_
        refine leq_id (by simp only [frEq_cons, frEq_nil, frIn_cons, frIn_nil, and_true, fget_cons, Nat.reduceEqDiff, reduceIte, ↓reduceIte, true_and, SV.ren, SV.renL, ren1] <;> (try rfl) <;> (try simp)) (by (simp only [frLt_cons, frLt_nil, and_true, SV.lt, SV.ltL, true_and] <;> omega)) (by ((try simp only []); repeat first | exact HLe.refl _ | refine HLe.cons (by simp only [hget, Nat.reduceEqDiff, Nat.left_eq_add, Nat.add_eq_left, nm_ne2, nm_en2, nm_ne3, nm_en3, nm_ne4, nm_en4, nm_ne5, nm_en5, reduceIte, ↓reduceIte] <;> first | rfl | ((repeat rw [if_neg (by omega)]) <;> rfl)) ?_ | refine HLe.skip hnm (by omega) ?_ | refine HLe.frz hnm (by omega) ?_ | refine HLe.del hnm (by omega) ?_)) (by (repeat first | exact HLt.mono hnm (by simp only [] <;> omega) | refine HLt.cons (by simp only [] <;> omega) (by simp only [Tok.lt, SV.ltL, SV.lt, and_true, true_and] <;> omega) ?_)) (Nat.le_refl _)
    · obtain rfl : i = l.length := by omega
      have d1 : decide ((l.length : Int) < (l.length : Int)) = false := decide_eq_false (by omega)
      rw [hlf]
      simp (maxSteps := 4000000) only [go_sem, goD_calls, eq_self, implies_true, Int.reduceEq, Int.reduceBEq, Int.reduceBNe, Int.reduceLE, Int.reduceLT, Int.reduceAdd, Int.reduceSub, Int.reduceMul, Int.reduceNeg, Nat.reduceMul, Nat.reduceSub, Nat.reduceLeDiff, Nat.reduceLT, Nat.reduceEqDiff, Nat.reduceAdd, reduceCtorEq, ↓reduceIte, reduceIte, pn0p, pn1p, pn2p, pn3p, pn4p, pn5p, pn6p, pn7p, pn0u, pn1u, pn2u, pn3u, pn4u, pn5u, pn6u, pn7u, pn0v, pn1v, pn2v, pn3v, pn4v, pn5v, pn6v, pn7v, hp, hu, hv, d1]
      refine (hQ _ ?_).1
      exact fin_t (.int .i64 _) rfl rfl hnm (by ((try simp only []); repeat first | exact HLe.refl _ | refine HLe.cons (by simp only [hget, Nat.reduceEqDiff, Nat.left_eq_add, Nat.add_eq_left, nm_ne2, nm_en2, nm_ne3, nm_en3, nm_ne4, nm_en4, nm_ne5, nm_en5, reduceIte, ↓reduceIte] <;> first | rfl | ((repeat rw [if_neg (by omega)]) <;> rfl)) ?_ | refine HLe.skip hnm (by omega) ?_ | refine HLe.frz hnm (by omega) ?_ | refine HLe.del hnm (by omega) ?_)) hK
  · exact hsp.elim

def WRLastOf : Opts := mkWE 49 [] [] [] 171 [] []
def icRLastOf : IC := (.seq (.seq (.ops [(.u (.mov 6 (.c (.int .i64 0))))]) (.tr [1, 2, 0])) (.seq (.seq (.ops [(.u (.mov 7 (.c (.int .i64 0))))]) (.tr [1, 2, 0, 7])) (.seq (.seq (.seq (.ops [(.u (.mov 8 (.c (.int .i64 0))))]) (.tr [1, 2, 0, 8, 7])) (.block 0 (.loop (.seq (.seq (.seq (.ops [(.u (.mov 9 (.s 8))), (.u (.mov 10 (.s 0))), (.u (.nlc 11 (.s 10))), (.u (.fad 12 3 3 (.slice 34) 82 (.s 11))), (.u (.ld 13 (.slice 34) (.s 12))), (.u (.len 14 false (.s 13))), (.u (.cmp 15 .lss (.s 9) (.s 14)))]) (.tr [15, 8, 1, 2, 0, 7])) (.cond (.s 15) .skip (.exit 0))) (.seq (.block 1 (.seq (.seq (.ops [(.u (.mov 18 (.s 0))), (.u (.nlc 19 (.s 18))), (.u (.fad 20 3 3 (.slice 34) 82 (.s 19))), (.u (.ld 21 (.slice 34) (.s 20))), (.u (.mov 22 (.s 8))), (.u (.iad 23 34 (.strct [(.int .i64), (.int .i64), (.int .i64), (.int .i64), (.int .i64), (.int .i64), (.int .i64), (.slice 5), (.slice 5), .bool]) (.s 21) (.s 22))), (.u (.fad 24 3 3 (.int .i64) 34 (.s 23))), (.u (.ld 25 (.int .i64) (.s 24))), (.u (.mov 26 (.s 1))), (.u (.cmp 27 .eql (.s 25) (.s 26))), (.u (.mov 28 (.s 27))), (.g 28 true (some 29) (.mov 29 (.s 0))), (.g 28 true (some 30) (.nlc 30 (.s 29))), (.g 28 true (some 31) (.fad 31 3 3 (.slice 34) 82 (.s 30))), (.g 28 true (some 32) (.ld 32 (.slice 34) (.s 31))), (.g 28 true (some 33) (.mov 33 (.s 8))), (.g 28 true (some 34) (.iad 34 34 (.strct [(.int .i64), (.int .i64), (.int .i64), (.int .i64), (.int .i64), (.int .i64), (.int .i64), (.slice 5), (.slice 5), .bool]) (.s 32) (.s 33))), (.g 28 true (some 35) (.fad 35 0 0 (.int .i64) 34 (.s 34))), (.g 28 true (some 36) (.ld 36 (.int .i64) (.s 35))), (.g 28 true (some 37) (.mov 37 (.s 2))), (.g 28 true (some 38) (.cmp 38 .leq (.s 36) (.s 37))), (.u (.pck 39 (.s 28) (.s 38) (.c (.bool false))))]) (.tr [39, 8, 1, 2, 0, 7])) (.cond (.s 39) (.seq (.ops [(.u (.mov 40 (.s 0))), (.u (.nlc 41 (.s 40))), (.u (.fad 42 3 3 (.slice 34) 82 (.s 41))), (.u (.ld 43 (.slice 34) (.s 42))), (.u (.mov 44 (.s 8))), (.u (.iad 45 34 (.strct [(.int .i64), (.int .i64), (.int .i64), (.int .i64), (.int .i64), (.int .i64), (.int .i64), (.slice 5), (.slice 5), .bool]) (.s 43) (.s 44))), (.u (.fad 46 0 0 (.int .i64) 34 (.s 45))), (.u (.ld 47 (.int .i64) (.s 46))), (.u (.mov 7 (.s 47)))]) (.tr [8, 1, 2, 0, 7])) .skip))) (.seq (.ops [(.u (.mov 16 (.s 8))), (.u (.bin 17 .add .i64 (.s 16) (.c (.int .i64 1)))), (.u (.mov 8 (.s 17)))]) (.tr [1, 2, 0, 8, 7]))))))) (.seq (.seq (.ops [(.u (.mov 48 (.s 7))), (.u (.mov 6 (.s 48)))]) (.tr [6])) .ret))))
def rsRLastOf : List RV := [(.t 6)]
theorem irRLastOf : fnIR Tryd.prog WRLastOf 45 = some (icRLastOf, rsRLastOf) := by kernel_rfl
def spRLastOf : FSpec := fun args h nx K => match args with
  | [.ptr p 0, .int .i64 g, .int .i64 n] => qOk (hget h p) ∧ rrOk (hget h (qU (hget h p))) ∧ (aL (hget h (qU (hget h p)))).length ≤ 1000000 ∧
      K (.int .i64 (lastN ((aL (hget h (qU (hget h p)))).map snt) g n (aL (hget h (qU (hget h p)))).length)) h
  | _ => False
set_option maxHeartbeats 4000000 in
set_option maxRecDepth 8000 in
theorem vRLastOf {E : Nat → Value} (hE : Errs2 Tryd.prog (some 171) E) : Valid Tryd.prog E (gs []) 45 spRLastOf := by
  refine valid_go (W := WRLastOf) hE allValid_bot irRLastOf (by decide) (fun args h nx K hsp hok hnm => ?_)
  unfold spRLastOf at hsp
  split at hsp
  · rename_i p g n
    obtain ⟨⟨g0, s, sp, u, v, hp⟩, hs, hlen, hK⟩ := hsp
    rw [hp] at hs hlen hK
    rw [rpC_def] at hp hs hlen hK
    rw [qU_c] at hs
    obtain ⟨l, hu⟩ := hs
    rw [qU_c, hu, aL_c] at hlen hK
    have hpx := (hnm p _ hp).1
    have hux := (hnm u _ hu).1
    refine ⟨by simp [WRLastOf, mkW, mkWE, mkWF], fun Q hQ => ?_⟩
    have pn0p : (nx = p) = False := eq_false (by omega)
    have pn1p : ∀ a0 : Nat, (nx + a0 = p) = False := fun a0 => eq_false (by omega)
    have pn2p : ∀ a0 a1 : Nat, (nx + a0 + a1 = p) = False := fun a0 a1 => eq_false (by omega)
    have pn3p : ∀ a0 a1 a2 : Nat, (nx + a0 + a1 + a2 = p) = False := fun a0 a1 a2 => eq_false (by omega)
    have pn4p : ∀ a0 a1 a2 a3 : Nat, (nx + a0 + a1 + a2 + a3 = p) = False := fun a0 a1 a2 a3 => eq_false (by omega)
    have pn5p : ∀ a0 a1 a2 a3 a4 : Nat, (nx + a0 + a1 + a2 + a3 + a4 = p) = False := fun a0 a1 a2 a3 a4 => eq_false (by omega)
    have pn6p : ∀ a0 a1 a2 a3 a4 a5 : Nat, (nx + a0 + a1 + a2 + a3 + a4 + a5 = p) = False := fun a0 a1 a2 a3 a4 a5 => eq_false (by omega)
    have pn7p : ∀ a0 a1 a2 a3 a4 a5 a6 : Nat, (nx + a0 + a1 + a2 + a3 + a4 + a5 + a6 = p) = False := fun a0 a1 a2 a3 a4 a5 a6 => eq_false (by omega)
    have pn0u : (nx = u) = False := eq_false (by omega)
    have pn1u : ∀ a0 : Nat, (nx + a0 = u) = False := fun a0 => eq_false (by omega)
    have pn2u : ∀ a0 a1 : Nat, (nx + a0 + a1 = u) = False := fun a0 a1 => eq_false (by omega)
    have pn3u : ∀ a0 a1 a2 : Nat, (nx + a0 + a1 + a2 = u) = False := fun a0 a1 a2 => eq_false (by omega)
    have pn4u : ∀ a0 a1 a2 a3 : Nat, (nx + a0 + a1 + a2 + a3 = u) = False := fun a0 a1 a2 a3 => eq_false (by omega)
    have pn5u : ∀ a0 a1 a2 a3 a4 : Nat, (nx + a0 + a1 + a2 + a3 + a4 = u) = False := fun a0 a1 a2 a3 a4 => eq_false (by omega)
    have pn6u : ∀ a0 a1 a2 a3 a4 a5 : Nat, (nx + a0 + a1 + a2 + a3 + a4 + a5 = u) = False := fun a0 a1 a2 a3 a4 a5 => eq_false (by omega)
    have pn7u : ∀ a0 a1 a2 a3 a4 a5 a6 : Nat, (nx + a0 + a1 + a2 + a3 + a4 + a5 + a6 = u) = False := fun a0 a1 a2 a3 a4 a5 a6 => eq_false (by omega)
    have hstep : ∀ k, k < l.length → lastN (l.map snt) g n (k + 1) = if ((l.getD k .nil).fld 3).i = g ∧ ((l.getD k .nil).fld 0).i ≤ n then ((l.getD k .nil).fld 0).i else lastN (l.map snt) g n k := fun k hk => by
      rw [lastN_succ, snt_at hk]
      rfl
    simp (maxSteps := 4000000) only [icRLastOf, go_sem, goD_calls, eq_self, implies_true, Int.reduceEq, Int.reduceBEq, Int.reduceBNe, Int.reduceLE, Int.reduceLT, Int.reduceAdd, Int.reduceSub, Int.reduceMul, Int.reduceNeg, Nat.reduceMul, Nat.reduceSub, Nat.reduceLeDiff, Nat.reduceLT, Nat.reduceEqDiff, Nat.reduceAdd, reduceCtorEq, ↓reduceIte, reduceIte, pn0p, pn1p, pn2p, pn3p, pn4p, pn5p, pn6p, pn7p, pn0u, pn1u, pn2u, pn3u, pn4u, pn5u, pn6u, pn7u, hp, hu]
    refine go_loop (α := { i : Nat // i ≤ l.length }) (I := fun i => { f := [(8, .int .i64 i.1), (1, .int .i64 g), (2, .int .i64 n), (0, .ptr p 0), (7, .int .i64 (lastN (l.map snt) g n i.1))], h := h, nx := nx }) (μ := fun i => l.length - i.1) _ _ _ ⟨0, by omega⟩ ?_ (fun i B hB => ?_)
    · refine leq_id (by simp only [frEq_cons, frEq_nil, frIn_cons, frIn_nil, and_true, fget_cons, Nat.reduceEqDiff, reduceIte, ↓reduceIte, true_and, SV.ren, SV.renL, ren1] <;> (try rfl) <;> (try simp [lastN])) (by (simp only [frLt_cons, frLt_nil, and_true, SV.lt, SV.ltL, true_and] <;> omega)) (by ((try simp only []); repeat first | exact HLe.refl _ | refine HLe.cons (by simp only [hget, Nat.reduceEqDiff, Nat.left_eq_add, Nat.add_eq_left, nm_ne2, nm_en2, nm_ne3, nm_en3, nm_ne4, nm_en4, nm_ne5, nm_en5, reduceIte, ↓reduceIte] <;> first | rfl | ((repeat rw [if_neg (by omega)]) <;> rfl)) ?_ | refine HLe.skip hnm (by omega) ?_ | refine HLe.frz hnm (by omega) ?_ | refine HLe.del hnm (by omega) ?_)) (by (repeat first | exact HLt.mono hnm (by simp only [] <;> omega) | refine HLt.cons (by simp only [] <;> omega) (by simp only [Tok.lt, SV.ltL, SV.lt, and_true, true_and] <;> omega) ?_)) (by simp only [] <;> omega)
    obtain ⟨i, hi⟩ := i
    simp only at hB ⊢
    by_cases hil : i < l.length
    · have d1 : decide ((i : Int) < (l.length : Int)) = true := decide_eq_true (by omega)
      have hst := hstep i hil
      have next : ∀ x S', x = lastN (l.map snt) g n (i + 1) → Leq nx S' { f := [(8, .int .i64 ((i : Int) + 1)), (1, .int .i64 g), (2, .int .i64 n), (0, .ptr p 0), (7, .int .i64 x)], h := h, nx := nx } → B S' := fun x S' hx hl => by
        subst hx
        exact hB _ ⟨i + 1, by omega⟩ (by simp only []; omega) hl
      by_cases h1 : ((l.getD i .nil).fld 3).i = g
      · have d2 : (((l.getD i .nil).fld 3).i == g) = true := beq_iff_eq.2 h1
        by_cases h2 : ((l.getD i .nil).fld 0).i ≤ n
        · have d3 : decide (((l.getD i .nil).fld 0).i ≤ n) = true := decide_eq_true h2
          rw [if_pos ⟨h1, h2⟩] at hst
          simp (maxSteps := 4000000) only [go_sem, goD_calls, eq_self, implies_true, Int.reduceEq, Int.reduceBEq, Int.reduceBNe, Int.reduceLE, Int.reduceLT, Int.reduceAdd, Int.reduceSub, Int.reduceMul, Int.reduceNeg, Nat.reduceMul, Nat.reduceSub, Nat.reduceLeDiff, Nat.reduceLT, Nat.reduceEqDiff, Nat.reduceAdd, reduceCtorEq, ↓reduceIte, reduceIte, pn0p, pn1p, pn2p, pn3p, pn4p, pn5p, pn6p, pn7p, pn0u, pn1u, pn2u, pn3u, pn4u, pn5u, pn6u, pn7u, hp, hu, d1, d2, d3, Int.toNat_natCast, min_i64, max_i64]
          repeat refine ⟨by first | omega | rfl, ?_⟩
          refine next _ _ hst.symm ?_
          refine leq_id (by simp only [frEq_cons, frEq_nil, frIn_cons, frIn_nil, and_true, fget_cons, Nat.reduceEqDiff, reduceIte, ↓reduceIte, true_and, SV.ren, SV.renL, ren1] <;> (try rfl) <;> (try simp)) (by (simp only [frLt_cons, frLt_nil, and_true, SV.lt, SV.ltL, true_and] <;> omega)) (by ((try simp only []); repeat first | exact HLe.refl _ | refine HLe.cons (by simp only [hget, Nat.reduceEqDiff, Nat.left_eq_add, Nat.add_eq_left, nm_ne2, nm_en2, nm_ne3, nm_en3, nm_ne4, nm_en4, nm_ne5, nm_en5, reduceIte, ↓reduceIte] <;> first | rfl | ((repeat rw [if_neg (by omega)]) <;> rfl)) ?_ | refine HLe.skip hnm (by omega) ?_ | refine HLe.frz hnm (by omega) ?_ | refine HLe.del hnm (by omega) ?_)) (by (repeat first | exact HLt.mono hnm (by simp only [] <;> omega) | refine HLt.cons (by simp only [] <;> omega) (by simp only [Tok.lt, SV.ltL, SV.lt, and_true, true_and] <;> omega) ?_)) (Nat.le_refl _)
        · have d3 : decide (((l.getD i .nil).fld 0).i ≤ n) = false := decide_eq_false h2
          rw [if_neg (fun h => h2 h.2)] at hst
          simp (maxSteps := 4000000) only [go_sem, goD_calls, eq_self, implies_true, Int.reduceEq, Int.reduceBEq, Int.reduceBNe, Int.reduceLE, Int.reduceLT, Int.reduceAdd, Int.reduceSub, Int.reduceMul, Int.reduceNeg, Nat.reduceMul, Nat.reduceSub, Nat.reduceLeDiff, Nat.reduceLT, Nat.reduceEqDiff, Nat.reduceAdd, reduceCtorEq, ↓reduceIte, reduceIte, pn0p, pn1p, pn2p, pn3p, pn4p, pn5p, pn6p, pn7p, pn0u, pn1u, pn2u, pn3u, pn4u, pn5u, pn6u, pn7u, hp, hu, d1, d2, d3, Int.toNat_natCast, min_i64, max_i64]
          repeat refine ⟨by first | omega | rfl, ?_⟩
          refine next _ _ hst.symm ?_
          refine leq_id (by simp only [frEq_cons, frEq_nil, frIn_cons, frIn_nil, and_true, fget_cons, Nat.reduceEqDiff, reduceIte, ↓reduceIte, true_and, SV.ren, SV.renL, ren1] <;> (try rfl) <;> (try simp)) (by (simp only [frLt_cons, frLt_nil, and_true, SV.lt, SV.ltL, true_and] <;> omega)) (by ((try simp only []); repeat first | exact HLe.refl _ | refine HLe.cons (by simp only [hget, Nat.reduceEqDiff, Nat.left_eq_add, Nat.add_eq_left, nm_ne2, nm_en2, nm_ne3, nm_en3, nm_ne4, nm_en4, nm_ne5, nm_en5, reduceIte, ↓reduceIte] <;> first | rfl | ((repeat rw [if_neg (by omega)]) <;> rfl)) ?_ | refine HLe.skip hnm (by omega) ?_ | refine HLe.frz hnm (by omega) ?_ | refine HLe.del hnm (by omega) ?_)) (by (repeat first | exact HLt.mono hnm (by simp only [] <;> omega) | refine HLt.cons (by simp only [] <;> omega) (by simp only [Tok.lt, SV.ltL, SV.lt, and_true, true_and] <;> omega) ?_)) (Nat.le_refl _)
      · have d2 : (((l.getD i .nil).fld 3).i == g) = false := beq_eq_false_iff_ne.2 h1
        rw [if_neg (fun h => h1 h.1)] at hst
        simp (maxSteps := 4000000) only [go_sem, goD_calls, eq_self, implies_true, Int.reduceEq, Int.reduceBEq, Int.reduceBNe, Int.reduceLE, Int.reduceLT, Int.reduceAdd, Int.reduceSub, Int.reduceMul, Int.reduceNeg, Nat.reduceMul, Nat.reduceSub, Nat.reduceLeDiff, Nat.reduceLT, Nat.reduceEqDiff, Nat.reduceAdd, reduceCtorEq, ↓reduceIte, reduceIte, pn0p, pn1p, pn2p, pn3p, pn4p, pn5p, pn6p, pn7p, pn0u, pn1u, pn2u, pn3u, pn4u, pn5u, pn6u, pn7u, hp, hu, d1, d2, Int.toNat_natCast, min_i64, max_i64]
        repeat refine ⟨by first | omega | rfl, ?_⟩
        refine next _ _ hst.symm ?_
        refine leq_id (by simp only [frEq_cons, frEq_nil, frIn_cons, frIn_nil, and_true, fget_cons, Nat.reduceEqDiff, reduceIte, ↓reduceIte, true_and, SV.ren, SV.renL, ren1] <;> (try rfl) <;> (try simp)) (by (simp only [frLt_cons, frLt_nil, and_true, SV.lt, SV.ltL, true_and] <;> omega)) (by ((try simp only []); repeat first | exact HLe.refl _ | refine HLe.cons (by simp only [hget, Nat.reduceEqDiff, Nat.left_eq_add, Nat.add_eq_left, nm_ne2, nm_en2, nm_ne3, nm_en3, nm_ne4, nm_en4, nm_ne5, nm_en5, reduceIte, ↓reduceIte] <;> first | rfl | ((repeat rw [if_neg (by omega)]) <;> rfl)) ?_ | refine HLe.skip hnm (by omega) ?_ | refine HLe.frz hnm (by omega) ?_ | refine HLe.del hnm (by omega) ?_)) (by (repeat first | exact HLt.mono hnm (by simp only [] <;> omega) | refine HLt.cons (by simp only [] <;> omega) (by simp only [Tok.lt, SV.ltL, SV.lt, and_true, true_and] <;> omega) ?_)) (Nat.le_refl _)
    · obtain rfl : i = l.length := by omega
      have d1 : decide ((l.length : Int) < (l.length : Int)) = false := decide_eq_false (by omega)
      simp (maxSteps := 4000000) only [go_sem, goD_calls, eq_self, implies_true, Int.reduceEq, Int.reduceBEq, Int.reduceBNe, Int.reduceLE, Int.reduceLT, Int.reduceAdd, Int.reduceSub, Int.reduceMul, Int.reduceNeg, Nat.reduceMul, Nat.reduceSub, Nat.reduceLeDiff, Nat.reduceLT, Nat.reduceEqDiff, Nat.reduceAdd, reduceCtorEq, ↓reduceIte, reduceIte, pn0p, pn1p, pn2p, pn3p, pn4p, pn5p, pn6p, pn7p, pn0u, pn1u, pn2u, pn3u, pn4u, pn5u, pn6u, pn7u, hp, hu, d1]
      refine (hQ _ ?_).1
      exact fin_t (.int .i64 _) rfl rfl hnm (by ((try simp only []); repeat first | exact HLe.refl _ | refine HLe.cons (by simp only [hget, Nat.reduceEqDiff, Nat.left_eq_add, Nat.add_eq_left, nm_ne2, nm_en2, nm_ne3, nm_en3, nm_ne4, nm_en4, nm_ne5, nm_en5, reduceIte, ↓reduceIte] <;> first | rfl | ((repeat rw [if_neg (by omega)]) <;> rfl)) ?_ | refine HLe.skip hnm (by omega) ?_ | refine HLe.frz hnm (by omega) ?_ | refine HLe.del hnm (by omega) ?_)) hK
  · exact hsp.elim
end Go.Proofs.YtmjenjccinfbaaaDoor
