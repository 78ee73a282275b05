/- The frame-work, part W: how code is gone through, step by step. -/
import Derived.Test.YtnpjmmimlhgipaaDoorFwV
namespace Go.Fw
set_option linter.unusedVariables false
set_option linter.unusedSimpArgs false
open Go

/-- A function's code and results in our form. -/
def fnIR (P : Program) (W : Opts) (f : FuncId) : Option (IC × List RV) :=
  match P.funcs[f]? with
  | some fn => match fn.body with
    | some code => if fn.ntmps = W.N ∧ callOk P f = true then match compC P W code, compR P fn.results.toList with
      | some ic, some rs => some ((trimIC (rvSl rs) ic (rvSl rs) []).1, rs)
      | _, _ => none else none
    | none => none
  | none => none

inductive Fm where
  | seq (b : IC)
  | blk (id : Nat)
  | lp (B : SSt → Prop)

section
variable (Γ : FuncId → FSpec) (nb : Nat) (Q : Ex → SSt → Prop)

def den : List Fm → Ex → SSt → Prop
  | [], ex, S => Q ex S
  | .seq b :: κ, ex, S => match ex with
    | .nrm => vc Γ nb b (den κ) S
    | ex => den κ ex S
  | .blk id :: κ, ex, S => match ex with
    | .ext j => if j = id then den κ .nrm S else den κ (.ext j) S
    | ex => den κ ex S
  | .lp B :: κ, ex, S => match ex with
    | .nrm => B S
    | ex => den κ ex S

def go (ic : IC) (κ : List Fm) (S : SSt) : Prop := vc Γ nb ic (den Γ nb Q κ) S
def goO (l : List GOp) (κ : List Fm) (S : SSt) : Prop := vOps Γ l (den Γ nb Q κ .nrm) S

theorem den_nil (ex : Ex) (S : SSt) : den Γ nb Q [] ex S = Q ex S := rfl
theorem den_seq (b : IC) (κ : List Fm) (S : SSt) : den Γ nb Q (.seq b :: κ) .nrm S = go Γ nb Q b κ S := rfl
theorem den_seq_ret (b : IC) (κ : List Fm) (S : SSt) : den Γ nb Q (.seq b :: κ) .ret S = den Γ nb Q κ .ret S := rfl
theorem den_seq_ext (b : IC) (κ : List Fm) (j : Nat) (S : SSt) : den Γ nb Q (.seq b :: κ) (.ext j) S = den Γ nb Q κ (.ext j) S := rfl
theorem den_blk (id : Nat) (κ : List Fm) (S : SSt) : den Γ nb Q (.blk id :: κ) .nrm S = den Γ nb Q κ .nrm S := rfl
theorem den_blk_ret (id : Nat) (κ : List Fm) (S : SSt) : den Γ nb Q (.blk id :: κ) .ret S = den Γ nb Q κ .ret S := rfl
theorem den_blk_ext (id : Nat) (κ : List Fm) (j : Nat) (S : SSt) : den Γ nb Q (.blk id :: κ) (.ext j) S = if j = id then den Γ nb Q κ .nrm S else den Γ nb Q κ (.ext j) S := rfl
theorem den_lp (B : SSt → Prop) (κ : List Fm) (S : SSt) : den Γ nb Q (.lp B :: κ) .nrm S = B S := rfl
theorem den_lp_ret (B : SSt → Prop) (κ : List Fm) (S : SSt) : den Γ nb Q (.lp B :: κ) .ret S = den Γ nb Q κ .ret S := rfl
theorem den_lp_ext (B : SSt → Prop) (κ : List Fm) (j : Nat) (S : SSt) : den Γ nb Q (.lp B :: κ) (.ext j) S = den Γ nb Q κ (.ext j) S := rfl

theorem go_skip (κ : List Fm) (S : SSt) : go Γ nb Q .skip κ S = den Γ nb Q κ .nrm S := rfl
theorem go_ops (l : List GOp) (κ : List Fm) (S : SSt) : go Γ nb Q (.ops l) κ S = goO Γ nb Q l κ S := rfl
theorem go_seq (a b : IC) (κ : List Fm) (S : SSt) : go Γ nb Q (.seq a b) κ S = go Γ nb Q a (.seq b :: κ) S := by
  unfold go
  rw [vc]
  congr 1
def condK (v : SV) (t e : IC) (κ : List Fm) (S : SSt) : Prop := match v with
  | .bool b => (b = true → go Γ nb Q t κ S) ∧ (b = false → go Γ nb Q e κ S)
  | _ => False
theorem go_cond (c : Opd) (t e : IC) (κ : List Fm) (S : SSt) : go Γ nb Q (.cond c t e) κ S = condK Γ nb Q (oget c S.f) t e κ S := by
  unfold go condK
  rw [vc]
  rfl
theorem condK_bool (b : Bool) (t e : IC) (κ : List Fm) (S : SSt) : condK Γ nb Q (.bool b) t e κ S = ((b = true → go Γ nb Q t κ S) ∧ (b = false → go Γ nb Q e κ S)) := rfl
theorem go_block (id : Nat) (b : IC) (κ : List Fm) (S : SSt) : go Γ nb Q (.block id b) κ S = go Γ nb Q b (.blk id :: κ) S := by
  unfold go
  rw [vc]
  congr 1
theorem go_tr (lv : List Nat) (κ : List Fm) (S : SSt) : go Γ nb Q (.tr lv) κ S = den Γ nb Q κ .nrm (S.trim lv) := rfl
theorem go_frp (xs : List (Nat × TypeId × Ty)) (κ : List Fm) (S : SSt) : go Γ nb Q (.frp xs) κ S = den Γ nb Q κ .nrm (frpL xs S) := rfl
theorem go_exit (id : Nat) (κ : List Fm) (S : SSt) : go Γ nb Q (.exit id) κ S = den Γ nb Q κ (.ext id) S := rfl
theorem go_ret (κ : List Fm) (S : SSt) : go Γ nb Q .ret κ S = den Γ nb Q κ .ret S := rfl

/-- A loop: what holds at each round's head, for some x; a measure. -/
theorem go_loop {α : Type} (I : α → SSt) (μ : α → Nat) (x0 : α) {b : IC} {κ : List Fm} {S : SSt} (h0 : Leq nb S (I x0))
    (h : ∀ x (B : SSt → Prop), (∀ S' x', μ x' < μ x → Leq nb S' (I x') → B S') → go Γ nb Q b (.lp B :: κ) (I x)) : go Γ nb Q (.loop b) κ S := by
  unfold go
  rw [vc]
  refine ⟨α, I, μ, x0, h0, fun x => ?_⟩
  have := h x (fun S' => ∃ x', μ x' < μ x ∧ Leq nb S' (I x')) (fun S' x' h1 h2 => ⟨x', h1, h2⟩)
  unfold go at this
  refine Eq.mp ?_ this
  congr 1

def goD (l : List (Bool × GOp)) (κ : List Fm) (S : SSt) : Prop := vD Γ l (den Γ nb Q κ .nrm) S
def rgnK (vs : List SV) (l : List (Bool × GOp)) (κ : List Fm) (S : SSt) : Prop := goD Γ nb Q l κ (frzL vs S)
theorem rgnK_def (vs : List SV) (l : List (Bool × GOp)) (κ : List Fm) (S : SSt) : rgnK Γ nb Q vs l κ S = goD Γ nb Q l κ (frzL vs S) := rfl
theorem go_rgn (fz : List Opd) (l : List (Bool × GOp)) (κ : List Fm) (S : SSt) : go Γ nb Q (.rgn fz l) κ S = rgnK Γ nb Q (ogets fz S.f) l κ S := rfl
theorem goD_nil (κ : List Fm) (S : SSt) : goD Γ nb Q [] κ S = den Γ nb Q κ .nrm S := rfl
def contD (r : Out) (l : List (Bool × GOp)) (κ : List Fm) : Prop := match r with
  | some (p, S') => p ∧ goD Γ nb Q l κ S'
  | none => False
theorem contD_some (p : Prop) (S : SSt) (l : List (Bool × GOp)) (κ : List Fm) : contD Γ nb Q (some (p, S)) l κ = (p ∧ goD Γ nb Q l κ S) := rfl
theorem goD_u {i : IOp} (hi : isCall i = false) (fl : Bool) (l : List (Bool × GOp)) (κ : List Fm) (S : SSt) : goD Γ nb Q ((fl, .u i) :: l) κ S = contD Γ nb Q (evI fl i S) l κ := by
  cases i <;> first | (cases hi; done) | rfl
def callD (v : SV) (args : List SV) (d : Nat) (l : List (Bool × GOp)) (κ : List Fm) (S : SSt) : Prop := callP Γ v args S.h S.nx (fun r h' => goD Γ nb Q l κ { f := (d, r) :: S.f, h := h', nx := S.nx + 64 })
/-- What follows behind a call's result. -/
def kD (d : Nat) (l : List (Bool × GOp)) (κ : List Fm) (f : Fr) (nx : Nat) : SV → Heap → Prop := fun r h' => goD Γ nb Q l κ { f := (d, r) :: f, h := h', nx := nx }
theorem kD_app (d : Nat) (l : List (Bool × GOp)) (κ : List Fm) (f : Fr) (nx : Nat) (r : SV) (h' : Heap) : kD Γ nb Q d l κ f nx r h' = goD Γ nb Q l κ { f := (d, r) :: f, h := h', nx := nx } := rfl
theorem callD_clo (fid : FuncId) (caps : List SV) (args : List SV) (d : Nat) (l : List (Bool × GOp)) (κ : List Fm) (f : Fr) (h : Heap) (nx : Nat) : callD Γ nb Q (.clo fid caps) args d l κ ⟨f, h, nx⟩ = Γ fid (args ++ caps) h nx (kD Γ nb Q d l κ f (nx + 64)) := rfl
theorem goD_call (d : Nat) (f : Opd) (args : List Opd) (ts : List (Option TypeId)) (fz : Bool) (l : List (Bool × GOp)) (κ : List Fm) (S : SSt) : goD Γ nb Q ((false, .u (.call d f args ts fz)) :: l) κ S = callD Γ nb Q (oget f S.f) (argSs ts (ogets args S.f)) d l κ S := rfl
/-- The same, of a call that leaves owned memory as it is. -/
def kDp (h0 : Heap) (d : Nat) (l : List (Bool × GOp)) (κ : List Fm) (f : Fr) (nx : Nat) : SV → Heap → Prop := fun r h' => h' = h0 ∧ goD Γ nb Q l κ { f := (d, r) :: f, h := h', nx := nx }
theorem kDp_app (h0 : Heap) (d : Nat) (l : List (Bool × GOp)) (κ : List Fm) (f : Fr) (nx : Nat) (r : SV) (h' : Heap) : kDp Γ nb Q h0 d l κ f nx r h' = (h' = h0 ∧ goD Γ nb Q l κ { f := (d, r) :: f, h := h', nx := nx }) := rfl
def callDp (v : SV) (args : List SV) (d : Nat) (l : List (Bool × GOp)) (κ : List Fm) (S : SSt) : Prop := callP Γ v args S.h S.nx (fun r h' => h' = S.h ∧ goD Γ nb Q l κ { f := (d, r) :: S.f, h := h', nx := S.nx + 64 })
theorem callDp_clo (fid : FuncId) (caps : List SV) (args : List SV) (d : Nat) (l : List (Bool × GOp)) (κ : List Fm) (f : Fr) (h : Heap) (nx : Nat) : callDp Γ nb Q (.clo fid caps) args d l κ ⟨f, h, nx⟩ = Γ fid (args ++ caps) h nx (kDp Γ nb Q h d l κ f (nx + 64)) := rfl
theorem goD_callp (d : Nat) (f : Opd) (args : List Opd) (ts : List (Option TypeId)) (fz : Bool) (l : List (Bool × GOp)) (κ : List Fm) (S : SSt) : goD Γ nb Q ((true, .u (.call d f args ts fz)) :: l) κ S = callDp Γ nb Q (oget f S.f) (argSs ts (ogets args S.f)) d l κ S := rfl
def gD (v : SV) (fl : Bool) (t : Nat) (b : Bool) (d : Option Nat) (i : IOp) (l : List (Bool × GOp)) (κ : List Fm) (S : SSt) : Prop := match v with
  | .bool v => (v = b → goD Γ nb Q ((fl, .u i) :: l) κ (S.put t (.bool b))) ∧ (v = !b → goD Γ nb Q l κ (skipD d (S.put t (.bool (!b)))))
  | .tup [] => goD Γ nb Q l κ (skipD d S)
  | _ => False
theorem gD_U (fl : Bool) (t : Nat) (b : Bool) (d : Option Nat) (i : IOp) (l : List (Bool × GOp)) (κ : List Fm) (S : SSt) : gD Γ nb Q (.tup []) fl t b d i l κ S = goD Γ nb Q l κ (skipD d S) := rfl
theorem gD_bool (v fl : Bool) (t : Nat) (b : Bool) (d : Option Nat) (i : IOp) (l : List (Bool × GOp)) (κ : List Fm) (S : SSt) : gD Γ nb Q (.bool v) fl t b d i l κ S = ((v = b → goD Γ nb Q ((fl, .u i) :: l) κ (S.put t (.bool b))) ∧ (v = !b → goD Γ nb Q l κ (skipD d (S.put t (.bool (!b)))))) := rfl
theorem goD_g (fl : Bool) (t : Nat) (b : Bool) (d : Option Nat) (i : IOp) (l : List (Bool × GOp)) (κ : List Fm) (S : SSt) : goD Γ nb Q ((fl, .g t b d i) :: l) κ S = gD Γ nb Q (fget S.f t) fl t b d i l κ S := by
  unfold goD gD
  rw [vD]
  rfl
theorem goO_nil (κ : List Fm) (S : SSt) : goO Γ nb Q [] κ S = den Γ nb Q κ .nrm S := rfl
def contK (r : Out) (l : List GOp) (κ : List Fm) : Prop := match r with
  | some (p, S') => p ∧ goO Γ nb Q l κ S'
  | none => False
theorem contK_some (p : Prop) (S : SSt) (l : List GOp) (κ : List Fm) : contK Γ nb Q (some (p, S)) l κ = (p ∧ goO Γ nb Q l κ S) := rfl
theorem goO_u {i : IOp} (hi : isSp i = false) (l : List GOp) (κ : List Fm) (S : SSt) : goO Γ nb Q (.u i :: l) κ S = contK Γ nb Q (ev i S) l κ := by
  cases i <;> first | (cases hi; done) | rfl
theorem goO_slc (d : Nat) (eid : TypeId) (x : Opd) (lo hi : Option Opd) (l : List GOp) (κ : List Fm) (S : SSt) : goO Γ nb Q (.u (.slc d eid x lo hi) :: l) κ S = contK Γ nb Q (ev (.slc d eid x lo hi) (preF (oget x S.f) S)) l κ := rfl
theorem goO_mif (d : Nat) (t : TypeId) (ty e : Ty) (x : Opd) (l : List GOp) (κ : List Fm) (S : SSt) : goO Γ nb Q (.u (.mif d t ty e x) :: l) κ S = contK Γ nb Q (ev (.mif d t ty e x) (preP ty e (oget x S.f) S)) l κ := rfl
def callK (v : SV) (args : List SV) (d : Nat) (l : List GOp) (κ : List Fm) (S : SSt) : Prop := callP Γ v args S.h S.nx (fun r h' => goO Γ nb Q l κ { f := (d, r) :: S.f, h := h', nx := S.nx + 64 })
def kO (d : Nat) (l : List GOp) (κ : List Fm) (f : Fr) (nx : Nat) : SV → Heap → Prop := fun r h' => goO Γ nb Q l κ { f := (d, r) :: f, h := h', nx := nx }
theorem kO_app (d : Nat) (l : List GOp) (κ : List Fm) (f : Fr) (nx : Nat) (r : SV) (h' : Heap) : kO Γ nb Q d l κ f nx r h' = goO Γ nb Q l κ { f := (d, r) :: f, h := h', nx := nx } := rfl
theorem callK_clo (fid : FuncId) (caps : List SV) (args : List SV) (d : Nat) (l : List GOp) (κ : List Fm) (f : Fr) (h : Heap) (nx : Nat) : callK Γ nb Q (.clo fid caps) args d l κ ⟨f, h, nx⟩ = Γ fid (args ++ caps) h nx (kO Γ nb Q d l κ f (nx + 64)) := rfl
theorem goO_call (d : Nat) (f : Opd) (args : List Opd) (ts : List (Option TypeId)) (l : List GOp) (κ : List Fm) (S : SSt) : goO Γ nb Q (.u (.call d f args ts false) :: l) κ S = callK Γ nb Q (oget f S.f) (argSs ts (ogets args S.f)) d l κ S := rfl
def frzK (vs : List SV) (args : List Opd) (ts : List (Option TypeId)) (f : Opd) (d : Nat) (l : List GOp) (κ : List Fm) (S : SSt) : Prop := goO Γ nb Q (.u (.call d f args ts false) :: l) κ (frzL vs S)
theorem frzK_def (vs : List SV) (args : List Opd) (ts : List (Option TypeId)) (f : Opd) (d : Nat) (l : List GOp) (κ : List Fm) (S : SSt) : frzK Γ nb Q vs args ts f d l κ S = goO Γ nb Q (.u (.call d f args ts false) :: l) κ (frzL vs S) := rfl
theorem goO_callf (d : Nat) (f : Opd) (args : List Opd) (ts : List (Option TypeId)) (l : List GOp) (κ : List Fm) (S : SSt) : goO Γ nb Q (.u (.call d f args ts true) :: l) κ S = frzK Γ nb Q (ogets args S.f) args ts f d l κ S := rfl
def nlqK (r : Option (Prop × Prop)) (d : Nat) (neg : Bool) (l : List GOp) (κ : List Fm) (S : SSt) : Prop := match r with
  | some (p, q) => ∀ b : Bool, (b = true → p) → (q → b = true) → goO Γ nb Q l κ (S.put d (.bool (if neg then !b else b)))
  | none => False
theorem nlqK_some (p q : Prop) (d : Nat) (neg : Bool) (l : List GOp) (κ : List Fm) (S : SSt) : nlqK Γ nb Q (some (p, q)) d neg l κ S = ∀ b : Bool, (b = true → p) → (q → b = true) → goO Γ nb Q l κ (S.put d (.bool (if neg then !b else b))) := rfl
theorem goO_nlq (d : Nat) (neg : Bool) (x : Opd) (l : List GOp) (κ : List Fm) (S : SSt) : goO Γ nb Q (.u (.nlq d neg x) :: l) κ S = nlqK Γ nb Q (evNlq (oget x S.f) S.h) d neg l κ S := rfl
def gK (v : SV) (t : Nat) (b : Bool) (d : Option Nat) (i : IOp) (l : List GOp) (κ : List Fm) (S : SSt) : Prop := match v with
  | .bool v => (v = b → goO Γ nb Q (.u i :: l) κ (S.put t (.bool b))) ∧ (v = !b → goO Γ nb Q l κ (skipD d (S.put t (.bool (!b)))))
  | .tup [] => goO Γ nb Q l κ (skipD d S)
  | _ => False
theorem gK_U (t : Nat) (b : Bool) (d : Option Nat) (i : IOp) (l : List GOp) (κ : List Fm) (S : SSt) : gK Γ nb Q (.tup []) t b d i l κ S = goO Γ nb Q l κ (skipD d S) := rfl
theorem gK_bool (v : Bool) (t : Nat) (b : Bool) (d : Option Nat) (i : IOp) (l : List GOp) (κ : List Fm) (S : SSt) : gK Γ nb Q (.bool v) t b d i l κ S = ((v = b → goO Γ nb Q (.u i :: l) κ (S.put t (.bool b))) ∧ (v = !b → goO Γ nb Q l κ (skipD d (S.put t (.bool (!b)))))) := rfl
theorem goO_g (t : Nat) (b : Bool) (d : Option Nat) (i : IOp) (l : List GOp) (κ : List Fm) (S : SSt) : goO Γ nb Q (.g t b d i :: l) κ S = gK Γ nb Q (fget S.f t) t b d i l κ S := by
  unfold goO gK
  rw [vOps]
  rfl
end

theorem iteT (v : Bool) (A B : Prop) : (if v = true then A else B) = ((v = true → A) ∧ (v = false → B)) := by cases v <;> simp
theorem iteF (v : Bool) (A B : Prop) : (if v = false then A else B) = ((v = false → A) ∧ (v = true → B)) := by cases v <;> simp
theorem condK_ite (Γ : FuncId → FSpec) (nb : Nat) (Q : Ex → SSt → Prop) (b : Bool) (t e : IC) (κ : List Fm) (S : SSt) : condK Γ nb Q (.bool b) t e κ S = if b = true then go Γ nb Q t κ S else go Γ nb Q e κ S := by rw [iteT]; rfl
theorem gK_T (Γ : FuncId → FSpec) (nb : Nat) (Q : Ex → SSt → Prop) (v : Bool) (t : Nat) (d : Option Nat) (i : IOp) (l : List GOp) (κ : List Fm) (S : SSt) : gK Γ nb Q (.bool v) t true d i l κ S = if v = true then goO Γ nb Q (.u i :: l) κ (S.put t (.bool true)) else goO Γ nb Q l κ (skipD d (S.put t (.bool false))) := by rw [iteT]; rfl
theorem gK_F (Γ : FuncId → FSpec) (nb : Nat) (Q : Ex → SSt → Prop) (v : Bool) (t : Nat) (d : Option Nat) (i : IOp) (l : List GOp) (κ : List Fm) (S : SSt) : gK Γ nb Q (.bool v) t false d i l κ S = if v = false then goO Γ nb Q (.u i :: l) κ (S.put t (.bool false)) else goO Γ nb Q l κ (skipD d (S.put t (.bool true))) := by rw [iteF]; rfl
theorem gD_T (Γ : FuncId → FSpec) (nb : Nat) (Q : Ex → SSt → Prop) (v fl : Bool) (t : Nat) (d : Option Nat) (i : IOp) (l : List (Bool × GOp)) (κ : List Fm) (S : SSt) : gD Γ nb Q (.bool v) fl t true d i l κ S = if v = true then goD Γ nb Q ((fl, .u i) :: l) κ (S.put t (.bool true)) else goD Γ nb Q l κ (skipD d (S.put t (.bool false))) := by rw [iteT]; rfl
theorem gD_F (Γ : FuncId → FSpec) (nb : Nat) (Q : Ex → SSt → Prop) (v fl : Bool) (t : Nat) (d : Option Nat) (i : IOp) (l : List (Bool × GOp)) (κ : List Fm) (S : SSt) : gD Γ nb Q (.bool v) fl t false d i l κ S = if v = false then goD Γ nb Q ((fl, .u i) :: l) κ (S.put t (.bool false)) else goD Γ nb Q l κ (skipD d (S.put t (.bool true))) := by rw [iteF]; rfl

def bareK (S : SSt) : Out → Out
  | some (p, S') => some (p, ⟨S'.f, S.h, S'.nx⟩)
  | none => none
theorem evI_true (i : IOp) (f : Fr) (h : Heap) (nx : Nat) : evI true i ⟨f, h, nx⟩ = bareK ⟨f, h, nx⟩ (ev i ⟨f, [], nx⟩) := rfl
theorem evI_false (i : IOp) (S : SSt) : evI false i S = ev i S := rfl
theorem bareK_some (S S' : SSt) (p : Prop) : bareK S (some (p, S')) = some (p, ⟨S'.f, S.h, S'.nx⟩) := rfl
theorem trim_def (f : Fr) (h : Heap) (nx : Nat) (lv : List Nat) : SSt.trim ⟨f, h, nx⟩ lv = ⟨Fr.trim f lv, h, nx⟩ := rfl
theorem trim_nil (f : Fr) : Fr.trim f [] = [] := rfl
theorem trim_cons (f : Fr) (i : Nat) (r : List Nat) : Fr.trim f (i :: r) = (i, fget f i) :: Fr.trim f r := rfl
theorem fget_nil (i : Nat) : fget [] i = .any := rfl
theorem put_def (f : Fr) (h : Heap) (nx d : Nat) (x : SV) : SSt.put ⟨f, h, nx⟩ d x = ⟨(d, x) :: f, h, nx⟩ := rfl
theorem skipD_some (d : Nat) (S : SSt) : skipD (some d) S = S.put d (.tup []) := rfl
theorem skipD_none (S : SSt) : skipD none S = S := rfl
theorem sput_def (S : SSt) (d : Nat) (p : Prop) (v : SV) : sput S d (some (p, v)) = some (p, S.put d v) := rfl

section
variable {P : Program} {E : Nat → Value}

theorem valid_go {W : Opts} (hE : Errs2 P W.et E) {Γ : FuncId → FSpec} (hΓ : AllValid P E W.gl Γ) {f : FuncId} {ic : IC} {rs : List RV} (hir : fnIR P W f = some (ic, rs)) (h3 : rs.length ≤ 3) {sp : FSpec}
    (h : ∀ args h nx K, sp args h nx K → SV.okL P E args → (∀ n t, hget h n = some t → n < nx ∧ t.lt nx) → args.length ≤ W.N ∧
      ∀ Q : Ex → SSt → Prop, (∀ S', Fin nx K rs S' → Q .ret S' ∧ Q .nrm S') → go Γ nx Q ic [] { f := frOf 0 args, h := h, nx := nx }) : Valid P E W.gl f sp := by
  unfold fnIR at hir
  split at hir
  · rename_i fn hf
    split at hir
    · rename_i code hb
      split at hir
      · rename_i hN
        split at hir
        · rename_i ic' rs' hc hr
          cases hir
          refine valid_of hE hΓ hf hN.2 hb hN.1 hc hr h3 (fun args h0 nx K hsp hok hnm => ?_)
          obtain ⟨h1, h2⟩ := h args h0 nx K hsp hok hnm
          refine ⟨h1, ?_⟩
          have := h2 (fun ex S' => match ex with | .ext _ => False | _ => Fin nx K rs S') (fun S' hf => ⟨hf, hf⟩)
          exact this
        · cases hir
      · cases hir
    · cases hir
  · cases hir
/-- The same, the table chosen for the arguments at hand. -/
theorem valid_goG {W : Opts} (hE : Errs2 P W.et E) {f : FuncId} {ic : IC} {rs : List RV} (hir : fnIR P W f = some (ic, rs)) (h3 : rs.length ≤ 3) {sp : FSpec}
    (h : ∀ args h nx K, sp args h nx K → SV.okL P E args → (∀ n t, hget h n = some t → n < nx ∧ t.lt nx) → args.length ≤ W.N ∧
      ∃ Γ, AllValid P E W.gl Γ ∧ ∀ Q : Ex → SSt → Prop, (∀ S', Fin nx K rs S' → Q .ret S' ∧ Q .nrm S') → go Γ nx Q ic [] { f := frOf 0 args, h := h, nx := nx }) : Valid P E W.gl f sp := by
  intro args h0 o nx K ρ H w vs hsp hhs hden hlt hnm
  obtain ⟨h1, Γ, hΓ, h2⟩ := h args h0 nx K hsp hden.ok (fun n t hn => hnm n t (by rw [hget_append, hn]))
  have := valid_go hE hΓ hir h3 (sp := fun a b c d => a = args ∧ b = h0 ∧ c = nx ∧ d = K) (fun a b c d he _ _ => by
    obtain ⟨rfl, rfl, rfl, rfl⟩ := he
    exact ⟨h1, h2⟩)
  exact this args h0 o nx K ρ H w vs ⟨rfl, rfl, rfl, rfl⟩ hhs hden hlt hnm
end
end Go.Fw
