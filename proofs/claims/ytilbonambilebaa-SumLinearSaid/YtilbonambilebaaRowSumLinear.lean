/- sextet/sextetlaw1.SumLinear returns true whatever it is handed, and its arguments read as they did: the given statement; no condition. -/
import Derived.Test.YtilbonambilebaaRows
import Derived.Test.YtilbonambilebaaSumL
import Derived.WalkKit
import Derived.ProofKit
import Derived.OpenShut
import Derived.ShutString
import Derived.ChangeOld
import Derived.Below
import Derived.KernelRfl
namespace Go.Proofs.Ytilbonambilebaa.sumLinear
open Go.ChangeShapes Go.WideShapes Go.ChangeAt Go.RowKit Go.Fw
set_option linter.unusedVariables false

theorem own : ownKnob Try.prog.godebug = none := by kernel_rfl
theorem laidOut : laidOutB Try.prog = true := by kernel_rfl
def els : List TypeId := [5]
theorem els_good : goodS Try.prog els = true := by kernel_rfl
theorem errs0 : Errs (fun _ => .iface 0 (.bool true)) := fun _ => ⟨_, _, rfl⟩
theorem ty0 : tyOf Try.prog 8 22 = .slice 5 := by kernel_rfl
theorem good0 : goodP Try.prog els 22 = true := by kernel_rfl
theorem ty1 : tyOf Try.prog 8 22 = .slice 5 := by kernel_rfl
theorem good1 : goodP Try.prog els 22 = true := by kernel_rfl
theorem ty2 : tyOf Try.prog 8 22 = .slice 5 := by kernel_rfl
theorem good2 : goodP Try.prog els 22 = true := by kernel_rfl
set_option maxRecDepth 100000 in
theorem lifted (os : Os) (started : os.Started) (H : Type) (enc : TypeId × Value → H) :
    ReturnsInHanded {} Try.checked os 4 .any (Rows.sumLinearSpec.pre6 enc Try.prog Try.f4 Rows.sumLinearRow.domain false) (Rows.sumLinearSpec.post enc Try.prog Try.f4 false true false false) := by
  refine returnsInHanded_of_change (C := Try.checked) own started (by kernel_rfl) Try.func4
    (ChangeSpec.witness6 (enc := enc) (C := Try.checked) false ⟨#[], #[.slice none 0 0, .slice none 0 0, .slice none 0 0], []⟩ 8 (by kernel_rfl) (by kernel_rfl) (by kernel_rfl) (by kernel_rfl)) ?_
  intro W base args ds gs before hval0 hW hcnd _
  have hval : ∀ (j : Nat) t v, Try.f4.params[j]? = some t → args[j]? = some v → Value.okWide Try.prog W .any base t v := hval0
  have hW' := hW
  obtain ⟨p, q, hA0, hV, rfl, hfz, hnd⟩ := hW
  have hA : DataW.TrodAll enc Try.prog W 0 (fun _ => true) true Try.f4.params.toList args.toList ds p := hA0
  rw [Try.params4] at hA hval
  obtain ⟨v0, vs0, d0, ds0, p0, q0, hargs, rfl, rfl, h0, r0⟩ := trodAll_cons hA
  obtain ⟨v1, vs1, d1, ds1, p1, q1, rfl, rfl, rfl, h1, r1⟩ := trodAll_cons r0
  obtain ⟨v2, vs2, d2, ds2, p2, q2, rfl, rfl, rfl, h2, r2⟩ := trodAll_cons r1
  obtain ⟨rfl, rfl, rfl⟩ := trodAll_nil r2
  obtain rfl : args = #[v0, v1, v2] := by cases args; simp_all
  obtain ⟨rfl, rfl⟩ := trodVars_none hV
  have lt0 : ∀ x ∈ p0, x.block < W.heap.size := by obtain ⟨m, hm⟩ := h0; exact DataW.trod_lt m _ _ _ hm
  obtain ⟨x0, ax0, dx0⟩ := arg_of_trod (E := fun _ => .iface 0 (.bool true)) els_good good0 (hval 0 22 v0 rfl rfl) h0 (fun _ => undef)
  rw [ty0] at ax0
  obtain ⟨y0, rfl⟩ := ax0
  have lt1 : ∀ x ∈ p1, x.block < W.heap.size := by obtain ⟨m, hm⟩ := h1; exact DataW.trod_lt m _ _ _ hm
  obtain ⟨x1, ax1, dx1⟩ := arg_of_trod (E := fun _ => .iface 0 (.bool true)) els_good good1 (hval 1 22 v1 rfl rfl) h1 (fun _ => undef)
  rw [ty1] at ax1
  obtain ⟨y1, rfl⟩ := ax1
  have lt2 : ∀ x ∈ p2, x.block < W.heap.size := by obtain ⟨m, hm⟩ := h2; exact DataW.trod_lt m _ _ _ hm
  obtain ⟨x2, ax2, dx2⟩ := arg_of_trod (E := fun _ => .iface 0 (.bool true)) els_good good2 (hval 2 22 v2 rfl rfl) h2 (fun _ => undef)
  rw [ty2] at ax2
  obtain ⟨y2, rfl⟩ := ax2
  clear hA0 hval0
  have walk : Calls Try.prog 4 [v0, v1, v2].toArray W fun e w' => e = .returned (.bool true) ∧ Below W.heap.size W w' :=
    calls_of_valid (vSumLinear errs0) (fun g h => by simp [G0] at h) (.cons dx0 (.cons dx1 (.cons dx2 .nil))) ⟨trivial, trivial, trivial, trivial⟩ ⟨rfl, rfl⟩
  refine walk.mono fun e W' ⟨he, bel⟩ => ?_
  subst he
  exact ⟨_, rfl, _, _, _, [], _, [], hW', trodAll_mk1 (shut_bool Try.underlying4 _), (trodAll_cons_mk (Below.trod laidOut (by kernel_rfl) (of_decide_eq_true (by kernel_rfl)) h0 bel lt0) (trodAll_cons_mk (Below.trod laidOut (by kernel_rfl) (of_decide_eq_true (by kernel_rfl)) h1 bel lt1) (trodAll_cons_mk (Below.trod laidOut (by kernel_rfl) (of_decide_eq_true (by kernel_rfl)) h2 bel lt2) trodAll_mk0))), rfl, bel.frame _, fun h => by cases h⟩

theorem over : Rows.sumLinearRow.holds Try.pinned (OpenSpec.ofChange Rows.sumLinearSpec) :=
  OpenClaim.holds_of_wide 4 Try.f4 rfl rfl rfl rfl rfl rfl rfl ⟨rfl, rfl, rfl, rfl, rfl⟩ rfl rfl rfl rfl rfl (by kernel_rfl) Try.func4 (by kernel_rfl)
    (of_decide_eq_true (by kernel_rfl)) (by unfold Func.isWrapper; first | (rw [if_pos (by decide +kernel)]; kernel_rfl) | (rw [if_neg (by decide +kernel)]; exact ⟨rfl, rfl⟩))
    (fun os started H enc _ => lifted os started H enc)

/-- The given statement. -/
theorem proved : Rows.SumLinearSaid := over
#print axioms proved
end Go.Proofs.Ytilbonambilebaa.sumLinear
