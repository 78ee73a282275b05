/- Iterators of the program: how their code is gone through. -/
import Derived.Test.YtkmilijehekdoaaDoorIter
namespace Go.Fw
set_option linter.unusedVariables false
set_option linter.unusedSimpArgs false
open Go

inductive Fy where
  | seq (b : IC)
  | blk (id : Nat)
  | lp (B : Option Nat → SSt → Prop)

section
variable (Γ : Tab) (yv : Value) (items : List (List SV × Heap)) (cf : Fr) (Q : Ex → Option Nat → SSt → Prop)

def denY : List Fy → Ex → Option Nat → SSt → Prop
  | [], ex, k, S => Q ex k S
  | .seq b :: κ, ex, k, S => match ex with
    | .nrm => vy Γ yv items cf b (denY κ) k S
    | ex => denY κ ex k S
  | .blk id :: κ, ex, k, S => match ex with
    | .ext j => if j = id then denY κ .nrm k S else denY κ (.ext j) k S
    | ex => denY κ ex k S
  | .lp B :: κ, ex, k, S => match ex with
    | .nrm => B k S
    | ex => denY κ ex k S
def goY (ic : IC) (κ : List Fy) (k : Option Nat) (S : SSt) : Prop := vy Γ yv items cf ic (denY Γ yv items cf Q κ) k S
def goYO (l : List GOp) (κ : List Fy) (k : Option Nat) (S : SSt) : Prop := vyOps Γ yv items cf l (denY Γ yv items cf Q κ .nrm) k S
def yE (κ : List Fy) (k : Option Nat) : Ex → SSt → Prop := fun ex S' => denY Γ yv items cf Q κ ex k S'
def yQ (l : List GOp) (κ : List Fy) (k : Option Nat) : Ex → SSt → Prop := fun _ S' => goYO Γ yv items cf Q l κ k S'
def yKO (l : List GOp) (κ : List Fy) : Option Nat → SSt → Prop := fun k S' => goYO Γ yv items cf Q l κ k S'
theorem yE_app (κ : List Fy) (k : Option Nat) (ex : Ex) (S : SSt) : yE Γ yv items cf Q κ k ex S = denY Γ yv items cf Q κ ex k S := rfl
theorem yQ_app (l : List GOp) (κ : List Fy) (k : Option Nat) (ex : Ex) (S : SSt) : yQ Γ yv items cf Q l κ k ex S = goYO Γ yv items cf Q l κ k S := rfl
theorem yKO_app (l : List GOp) (κ : List Fy) (k : Option Nat) (S : SSt) : yKO Γ yv items cf Q l κ k S = goYO Γ yv items cf Q l κ k S := rfl
theorem denY_nil (ex : Ex) (k : Option Nat) (S : SSt) : denY Γ yv items cf Q [] ex k S = Q ex k S := rfl
theorem denY_seq (b : IC) (κ : List Fy) (k : Option Nat) (S : SSt) : denY Γ yv items cf Q (.seq b :: κ) .nrm k S = goY Γ yv items cf Q b κ k S := rfl
theorem denY_seq_ret (b : IC) (κ : List Fy) (k : Option Nat) (S : SSt) : denY Γ yv items cf Q (.seq b :: κ) .ret k S = denY Γ yv items cf Q κ .ret k S := rfl
theorem denY_seq_ext (b : IC) (κ : List Fy) (j : Nat) (k : Option Nat) (S : SSt) : denY Γ yv items cf Q (.seq b :: κ) (.ext j) k S = denY Γ yv items cf Q κ (.ext j) k S := rfl
theorem denY_blk (id : Nat) (κ : List Fy) (k : Option Nat) (S : SSt) : denY Γ yv items cf Q (.blk id :: κ) .nrm k S = denY Γ yv items cf Q κ .nrm k S := rfl
theorem denY_blk_ret (id : Nat) (κ : List Fy) (k : Option Nat) (S : SSt) : denY Γ yv items cf Q (.blk id :: κ) .ret k S = denY Γ yv items cf Q κ .ret k S := rfl
theorem denY_blk_ext (id : Nat) (κ : List Fy) (j : Nat) (k : Option Nat) (S : SSt) : denY Γ yv items cf Q (.blk id :: κ) (.ext j) k S = if j = id then denY Γ yv items cf Q κ .nrm k S else denY Γ yv items cf Q κ (.ext j) k S := rfl
theorem denY_lp (B : Option Nat → SSt → Prop) (κ : List Fy) (k : Option Nat) (S : SSt) : denY Γ yv items cf Q (.lp B :: κ) .nrm k S = B k S := rfl
theorem denY_lp_ret (B : Option Nat → SSt → Prop) (κ : List Fy) (k : Option Nat) (S : SSt) : denY Γ yv items cf Q (.lp B :: κ) .ret k S = denY Γ yv items cf Q κ .ret k S := rfl
theorem denY_lp_ext (B : Option Nat → SSt → Prop) (κ : List Fy) (j : Nat) (k : Option Nat) (S : SSt) : denY Γ yv items cf Q (.lp B :: κ) (.ext j) k S = denY Γ yv items cf Q κ (.ext j) k S := rfl
theorem goY_skip (κ : List Fy) (k : Option Nat) (S : SSt) : goY Γ yv items cf Q .skip κ k S = denY Γ yv items cf Q κ .nrm k S := rfl
theorem goY_seq (a b : IC) (κ : List Fy) (k : Option Nat) (S : SSt) : goY Γ yv items cf Q (.seq a b) κ k S = goY Γ yv items cf Q a (.seq b :: κ) k S := by
  unfold goY
  rw [vy]
  congr 1
def condY (v : SV) (t e : IC) (κ : List Fy) (k : Option Nat) (S : SSt) : Prop := match v with
  | .bool b => (b = true → goY Γ yv items cf Q t κ k S) ∧ (b = false → goY Γ yv items cf Q e κ k S)
  | _ => False
theorem goY_cond (c : Opd) (t e : IC) (κ : List Fy) (k : Option Nat) (S : SSt) : goY Γ yv items cf Q (.cond c t e) κ k S = condY Γ yv items cf Q (oget c S.f) t e κ k S := by
  unfold goY condY
  rw [vy]
  rfl
theorem condY_ite (b : Bool) (t e : IC) (κ : List Fy) (k : Option Nat) (S : SSt) : condY Γ yv items cf Q (.bool b) t e κ k S = if b = true then goY Γ yv items cf Q t κ k S else goY Γ yv items cf Q e κ k S := by rw [iteT]; rfl
theorem goY_block (id : Nat) (b : IC) (κ : List Fy) (k : Option Nat) (S : SSt) : goY Γ yv items cf Q (.block id b) κ k S = goY Γ yv items cf Q b (.blk id :: κ) k S := by
  unfold goY
  rw [vy]
  congr 1
theorem goY_tr (lv : List Nat) (κ : List Fy) (k : Option Nat) (S : SSt) : goY Γ yv items cf Q (.tr lv) κ k S = denY Γ yv items cf Q κ .nrm k (S.trim lv) := rfl
theorem goY_exit (id : Nat) (κ : List Fy) (k : Option Nat) (S : SSt) : goY Γ yv items cf Q (.exit id) κ k S = denY Γ yv items cf Q κ (.ext id) k S := rfl
theorem goY_ret (κ : List Fy) (k : Option Nat) (S : SSt) : goY Γ yv items cf Q .ret κ k S = denY Γ yv items cf Q κ .ret k S := rfl
theorem goY_rgn (fz : List Opd) (l : List (Bool × GOp)) (κ : List Fy) (k : Option Nat) (S : SSt) : goY Γ yv items cf Q (.rgn fz l) κ k S = go Γ 0 (yE Γ yv items cf Q κ k) (.rgn fz l) [] S := rfl
theorem goY_ops (l : List GOp) (κ : List Fy) (k : Option Nat) (S : SSt) : goY Γ yv items cf Q (.ops l) κ k S = if allU l = true then goYO Γ yv items cf Q l κ k S else goO Γ 0 (yE Γ yv items cf Q κ k) l [] S := by
  unfold goY
  rw [vy]
  rfl
theorem goYO_nil (κ : List Fy) (k : Option Nat) (S : SSt) : goYO Γ yv items cf Q [] κ k S = denY Γ yv items cf Q κ .nrm k S := rfl
theorem goYO_u {i : IOp} (hi : isCall i = false) (l : List GOp) (κ : List Fy) (k : Option Nat) (S : SSt) : goYO Γ yv items cf Q (.u i :: l) κ k S = goO Γ 0 (yQ Γ yv items cf Q l κ k) [.u i] [] S := by
  cases i <;> first | (cases hi; done) | rfl
theorem goYO_nlq (d : Nat) (neg : Bool) (x : Opd) (l : List GOp) (κ : List Fy) (k : Option Nat) (S : SSt) : goYO Γ yv items cf Q (.u (.nlq d neg x) :: l) κ k S = goO Γ 0 (yQ Γ yv items cf Q l κ k) [.u (.nlq d neg x)] [] S := rfl
def callY (d : Nat) (f : Opd) (xs : List Opd) (ts : List (Option TypeId)) (fz : Bool) (l : List GOp) (κ : List Fy) (k : Option Nat) (S : SSt) (v : SV) : Prop := yOr Γ yv items cf d f xs ts fz S (yKO Γ yv items cf Q l κ) k v
theorem goYO_call (d : Nat) (f : Opd) (xs : List Opd) (ts : List (Option TypeId)) (fz : Bool) (l : List GOp) (κ : List Fy) (k : Option Nat) (S : SSt) : goYO Γ yv items cf Q (.u (.call d f xs ts fz) :: l) κ k S = callY Γ yv items cf Q d f xs ts fz l κ k S (oget f S.f) := rfl
theorem callY_clo (d : Nat) (f : Opd) (xs : List Opd) (ts : List (Option TypeId)) (fz : Bool) (l : List GOp) (κ : List Fy) (k : Option Nat) (S : SSt) (g : FuncId) (cs : List SV) : callY Γ yv items cf Q d f xs ts fz l κ k S (.clo g cs) = goO Γ 0 (yQ Γ yv items cf Q l κ k) [.u (.call d f xs ts fz)] [] S := rfl
theorem callY_raw (d : Nat) (f : Opd) (xs : List Opd) (ts : List (Option TypeId)) (fz : Bool) (l : List GOp) (κ : List Fy) (k : Option Nat) (S : SSt) (v : Value) : callY Γ yv items cf Q d f xs ts fz l κ k S (.raw v) = (v = yv ∧ yieldVC items cf d (ogets xs S.f) S (yKO Γ yv items cf Q l κ) k) := rfl
theorem allU_nil : allU [] = true := rfl
theorem allU_u (i : IOp) (r : List GOp) : allU (.u i :: r) = allU r := rfl
theorem allU_g (t : Nat) (b : Bool) (d : Option Nat) (i : IOp) (r : List GOp) : allU (.g t b d i :: r) = false := rfl
theorem keepF_nil : keepF [] = [] := rfl
theorem keepF_cons (i : Nat) (x : SV) (r : Fr) : keepF ((i, x) :: r) = (i, match x with | .int k n => .int k n | .bool b => .bool b | _ => .any) :: keepF r := rfl
/-- A loop, items being handed on in it. -/
theorem goY_loop {α : Type} (I : α → SSt) (ct : α → Option Nat) (μ : α → Nat) (x0 : α) {b : IC} {κ : List Fy} {k : Option Nat} {S : SSt} (h0 : Leq 0 S (I x0)) (hk : ct x0 = k)
    (h : ∀ x (B : Option Nat → SSt → Prop), (∀ k' S' x', μ x' < μ x → ct x' = k' → Leq 0 S' (I x') → B k' S') → goY Γ yv items cf Q b (.lp B :: κ) (ct x) (I x)) : goY Γ yv items cf Q (.loop b) κ k S := by
  unfold goY
  rw [vy]
  refine ⟨α, I, ct, μ, x0, h0, hk, fun x => ?_⟩
  have := h x (fun k' S' => ∃ x', μ x' < μ x ∧ ct x' = k' ∧ Leq 0 S' (I x')) (fun k' S' x' h1 h2 h3 => ⟨x', h1, h2, h3⟩)
  unfold goY at this
  refine Eq.mp ?_ this
  congr 1
end
theorem walkY : type_of% (And.intro @yE_app <| And.intro @yQ_app <| And.intro @yKO_app <| And.intro @denY_nil <| And.intro @denY_seq <| And.intro @denY_seq_ret <| And.intro @denY_seq_ext <| And.intro @denY_blk <| And.intro @denY_blk_ret <| And.intro @denY_blk_ext <| And.intro @denY_lp <| And.intro @denY_lp_ret <| And.intro @denY_lp_ext <| And.intro @goY_skip <| And.intro @goY_seq <| And.intro @goY_cond <| And.intro @condY_ite <| And.intro @goY_block <| And.intro @goY_tr <| And.intro @goY_exit <| And.intro @goY_ret <| And.intro @goY_rgn <| And.intro @goY_ops <| And.intro @goYO_nil <| And.intro @goYO_u <| And.intro @goYO_nlq <| And.intro @goYO_call <| And.intro @callY_clo <| And.intro @callY_raw <| And.intro @allU_nil <| And.intro @allU_u <| And.intro @allU_g <| And.intro @keepF_nil <| @keepF_cons) :=
  And.intro @yE_app <| And.intro @yQ_app <| And.intro @yKO_app <| And.intro @denY_nil <| And.intro @denY_seq <| And.intro @denY_seq_ret <| And.intro @denY_seq_ext <| And.intro @denY_blk <| And.intro @denY_blk_ret <| And.intro @denY_blk_ext <| And.intro @denY_lp <| And.intro @denY_lp_ret <| And.intro @denY_lp_ext <| And.intro @goY_skip <| And.intro @goY_seq <| And.intro @goY_cond <| And.intro @condY_ite <| And.intro @goY_block <| And.intro @goY_tr <| And.intro @goY_exit <| And.intro @goY_ret <| And.intro @goY_rgn <| And.intro @goY_ops <| And.intro @goYO_nil <| And.intro @goYO_u <| And.intro @goYO_nlq <| And.intro @goYO_call <| And.intro @callY_clo <| And.intro @callY_raw <| And.intro @allU_nil <| And.intro @allU_u <| And.intro @allU_g <| And.intro @keepF_nil <| @keepF_cons
end Go.Fw
