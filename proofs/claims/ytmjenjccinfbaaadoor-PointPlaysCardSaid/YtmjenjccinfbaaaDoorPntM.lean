/- Chapter 15: LastOf, of points that go on. -/
import Derived.Test.YtmjenjccinfbaaaDoorPntL
namespace Go.Proofs.YtmjenjccinfbaaaDoor
set_option linter.unusedVariables false
set_option linter.unusedSimpArgs false
open Go Go.Fw

abbrev pointsT : Ty := .strct [.slice 41, .slice 112, .int .i64, .slice 2, .int .i64, .int .i64, .int .i64]
theorem pointsT_ty : tyOf Tryd.prog 8 110 = pointsT := by kernel_rfl
def spPLastO : FSpec := fun args h nx K => match args with
  | [.ptr p 0, .int .i64 g, .int .i64 n] => pOk (hget h p) ∧ sOk (hget h (pU (hget h p))) ∧ iOk (hget h (pV (hget h p))) ∧ (aL (hget h (pU (hget h p)))).length ≤ 1000000 ∧ K (.int .i64 (lastN (aL (hget h (pU (hget h p)))) g n (aL (hget h (pU (hget h p)))).length)) h
  | _ => False
theorem vPLastO {E : Nat → Value} (hE : Errs2 Tryd.prog (some 171) E) : Valid Tryd.prog E (gs []) 36 spPLastO := by
  refine valid_thaw (vPLastOf hE) (fun args h nx K hsp => ?_)
  unfold spPLastO at hsp
  split at hsp
  · rename_i p g n
    obtain ⟨⟨sp, u, a, v, k, c, d, hp⟩, hs, hi, hlen, hK⟩ := hsp
    rw [hp] at hs hi hlen hK
    rw [ptC_def] at hp hs hi hlen hK
    rw [pU_c] at hs hlen hK
    rw [pV_c] at hi
    obtain ⟨l, hu⟩ := hs
    obtain ⟨sf, hv⟩ := hi
    rw [hu, aL_c] at hlen hK
    have hpu : p ≠ u := fun e => by rw [e, hu] at hp; cases hp
    have hpv : p ≠ v := fun e => by rw [e, hv] at hp; cases hp
    have huv : u ≠ v := fun e => by rw [e, hv] at hu; cases hu
    have e1 : frz1 u { f := frOf 0 [.ptr p 0, .int .i64 g, .int .i64 n], h := h, nx := nx } = { f := frOf 0 [.ptr p 0, .int .i64 g, .int .i64 n], h := Heap.sub u (.dat (.slice 112) (.list l)) (hdel h u), nx := nx } := by
      unfold frz1
      simp only [hu, frOf, Fr.sub, SV.sub, if_neg hpu]
    have hv1 : hget (Heap.sub u (.dat (.slice 112) (.list l)) (hdel h u)) v = some (.arr 2 (.int .i64) sf) := by
      rw [hget_sub', hget_hdelA, if_neg huv, hv]; rfl
    have e2 : frz1 v { f := frOf 0 [.ptr p 0, .int .i64 g, .int .i64 n], h := Heap.sub u (.dat (.slice 112) (.list l)) (hdel h u), nx := nx } = { f := frOf 0 [.ptr p 0, .int .i64 g, .int .i64 n], h := Heap.sub v (.dat (.slice 2) (.list sf)) (hdel (Heap.sub u (.dat (.slice 112) (.list l)) (hdel h u)) v), nx := nx } := by
      unfold frz1
      simp only [hv1, frOf, Fr.sub, SV.sub, if_neg hpv]
    have hp1 : hget (Heap.sub v (.dat (.slice 2) (.list sf)) (hdel (Heap.sub u (.dat (.slice 112) (.list l)) (hdel h u)) v)) p = some (.cells [.dat (.slice 41) (.list sp), .dat (.slice 112) (.list l), .int .i64 a, .dat (.slice 2) (.list sf), .int .i64 k, .int .i64 c, .int .i64 d]) := by
      rw [hget_sub', hget_hdelA, if_neg hpv.symm, hget_sub', hget_hdelA, if_neg hpu.symm, hp]
      simp only [Option.map_some, Tok.sub, SV.subL, SV.sub, if_neg huv.symm, ↓reduceIte]
    refine ⟨preP (.ptr 110) pointsT (.ptr p 0) { f := frOf 0 [.ptr p 0, .int .i64 g, .int .i64 n], h := Heap.sub v (.dat (.slice 2) (.list sf)) (hdel (Heap.sub u (.dat (.slice 112) (.list l)) (hdel h u)) v), nx := nx }, FrzTo.vec u (by rw [e1]; exact FrzTo.vec v (by rw [e2]; exact FrzTo.box 110 pointsT pointsT_ty (.ptr p 0) (.refl _))), ?_⟩
    simp only [preP, prePt, hp1, prePd, toD, toDL, toD1, frzP, frOf, Fr.sub, SV.sub, ↓reduceIte, slotsOf_cons, slotsOf_nil, ogets, oget, fget, Nat.zero_add, Nat.reduceAdd, Nat.reduceEqDiff, reduceCtorEq]
    exact ⟨_, _, _, _, _, _, l, rfl, rfl, hlen, rfl, hK⟩
  · exact hsp.elim
end Go.Proofs.YtmjenjccinfbaaaDoor
