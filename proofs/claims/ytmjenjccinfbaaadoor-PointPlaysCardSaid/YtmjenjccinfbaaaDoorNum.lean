/- A number from 0 to below a bound, of any. -/
import Derived.Test.YtmjenjccinfbaaaDoorErr
namespace Go.Proofs.YtmjenjccinfbaaaDoor
set_option linter.unusedVariables false
set_option linter.unusedSimpArgs false
open Go Go.Fw
attribute [local go_sem] walkSet evMdl evMupD evMup evLkp frpL eltP eltV eltK preF preP prePt prePd frzP evNlq ev frOf oget ogets argSs argS evCat evMm frzL evBin evWrp evShf evCmp evUna evNil evBeq evLd evSt evFad evIad evAad evLen evSln evEls evApp evParts evSlc evNlc evMif evPck evFld evBld evTas evIfq evSeq evSl0 evBxf evAgl evAgq evBsf hget hset hdel cellAt arrAt setCellAt setArrAt takeC lenC svCells SV.okc SV.one ldSV Fw.isAgg explode explodeL toD toDL toD1 Ty.size Ty.sizeL frz1 Fr.sub Heap.sub Tok.sub SV.sub SV.subL

def WNumber : Opts := mkWE 15 [] [] [] 171 [] []
def icNumber : IC := (.seq (.seq (.ops [(.u (.mov 4 (.c (.int .i64 0))))]) (.tr [0, 1])) (.seq (.seq (.ops [(.u (.mov 6 (.s 0))), (.u (.mov 7 (.s 1))), (.u (.bin 8 .rem .i64 (.s 6) (.s 7))), (.u (.mov 5 (.s 8)))]) (.tr [1, 5])) (.seq (.seq (.seq (.ops [(.u (.mov 9 (.s 5))), (.u (.cmp 10 .lss (.s 9) (.c (.int .i64 0))))]) (.tr [10, 1, 5])) (.cond (.s 10) (.seq (.ops [(.u (.mov 11 (.s 5))), (.u (.mov 12 (.s 1))), (.u (.bin 13 .add .i64 (.s 11) (.s 12))), (.u (.mov 5 (.s 13)))]) (.tr [5])) .skip)) (.seq (.seq (.ops [(.u (.mov 14 (.s 5))), (.u (.mov 4 (.s 14)))]) (.tr [4])) .ret))))
def rsNumber : List RV := [(.t 4)]
theorem irNumber : fnIR Tryd.prog WNumber 18 = some (icNumber, rsNumber) := by kernel_rfl
def spNumber : FSpec := fun args h nx K => match args with
  | [.int .i64 a, .int .i64 b] => 0 < b ∧ K (.int .i64 (a % b)) h
  | _ => False

set_option maxHeartbeats 400000 in
theorem vNumber {E : Nat → Value} (hE : Errs2 Tryd.prog (some 171) E) : Valid Tryd.prog E (gs []) 18 spNumber := by
  refine valid_go (W := WNumber) hE allValid_bot irNumber (by decide) (fun args h nx K hsp hok hnm => ?_)
  unfold spNumber at hsp
  split at hsp
  · rename_i a b
    obtain ⟨hb, hK⟩ := hsp
    refine ⟨by simp [WNumber, mkW, mkWE], fun Q hQ => ?_⟩
    simp only [icNumber, go_sem, goD_calls, eq_self, implies_true, Int.reduceEq, Int.reduceBEq, Int.reduceBNe, Int.reduceLE, Int.reduceLT, Int.reduceAdd, Int.reduceSub, Int.reduceMul, Int.reduceNeg, Nat.reduceMul, Nat.reduceSub, Nat.reduceLeDiff, Nat.reduceLT, Nat.reduceEqDiff, Nat.reduceAdd, reduceCtorEq, ↓reduceIte, reduceIte]
    have h1 := Int.tmod_nonneg b (a := a)
    have key : 0 ≤ a % b ∧ a % b < b := ⟨Int.emod_nonneg _ (by omega), Int.emod_lt_of_pos _ hb⟩
    have e : a.tmod b = if 0 ≤ a ∨ a % b = 0 then a % b else a % b - b := by
      rw [Int.tmod_eq_emod]
      have : (b ∣ a) ↔ a % b = 0 := Int.dvd_iff_emod_eq_zero
      simp only [this]
      split
      · simp
      · omega
    refine ⟨by omega, fun hc => ⟨?_, (hQ _ (fin_t (.int .i64 (a % b)) ?_ rfl hnm (fun _ _ h => h) hK)).1⟩, fun hc => (hQ _ (fin_t (.int .i64 (a % b)) ?_ rfl hnm (fun _ _ h => h) hK)).1⟩
    · have := hok.1
      have := hok.2.1
      simp only [SV.ok, min_i64, max_i64] at *
      have := of_decide_eq_true hc
      omega
    · have : a.tmod b + b = a % b := by have := of_decide_eq_true hc; rw [e] at this ⊢; split at this <;> omega
      rw [← this]; rfl
    · have : a.tmod b = a % b := by have := of_decide_eq_false hc; rw [e] at this ⊢; split at this <;> simp_all; omega
      rw [← this]; rfl
  · exact hsp.elim

end Go.Proofs.YtmjenjccinfbaaaDoor
