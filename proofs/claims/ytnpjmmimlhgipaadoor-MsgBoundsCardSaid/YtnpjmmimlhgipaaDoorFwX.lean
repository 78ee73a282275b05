/- The frame-work, part X: tables of specifications; words for the walk. -/
import Derived.Test.YtnpjmmimlhgipaaDoorFwW
namespace Go.Fw
set_option linter.unusedVariables false
set_option linter.unusedSimpArgs false
open Go

/-- A function's options by lists: slots that may go round, variables that are known, calls that leave what is owned. -/
def mkW (n : Nat) (wr gl keep : List Nat) : Opts := { N := n, wr := fun d => wr.contains d, gl := fun d => gl.contains d, keep := fun d => keep.contains d }
/-- The same, with the known errors' type, and which of them are held against one another. -/
def mkWE (n : Nat) (wr gl keep : List Nat) (et : TypeId) (es fb : List Nat) : Opts := { N := n, wr := fun d => wr.contains d, gl := fun d => gl.contains d, keep := fun d => keep.contains d, et := some et, es := es, fb := fb }
/-- The same, with cells that no longer change from a region on, calls that leave owned memory as it is. -/
def mkWF (n : Nat) (wr gl keep : List Nat) (et : TypeId) (es fb : List Nat) (fp : List (Nat × TypeId)) (pu : List Nat := []) : Opts := { pu := pu, N := n, wr := fun d => wr.contains d, gl := fun d => gl.contains d, keep := fun d => keep.contains d, et := some et, es := es, fb := fb, fp := fp }
theorem noCall : (∀ d x, isCall (.mov d x) = false) ∧ (∀ d op k x y, isCall (.bin d op k x y) = false) ∧ (∀ d op k x y, isCall (.wrp d op k x y) = false) ∧ (∀ d op k x y, isCall (.shf d op k x y) = false) ∧ (∀ d op x y, isCall (.cmp d op x y) = false) ∧ (∀ d n k x, isCall (.eqb d n k x) = false) ∧ (∀ d n x y, isCall (.beq d n x y) = false) ∧ (∀ d op x, isCall (.una d op x) = false) ∧ (∀ d k x, isCall (.cnv d k x) = false) ∧ (∀ d g, isCall (.gld d g) = false) ∧ (∀ d z, isCall (.alc d z) = false) ∧ (∀ d n x, isCall (.box d n x) = false) ∧ (∀ d t x, isCall (.ld d t x) = false) ∧ (∀ t a x, isCall (.st t a x) = false) ∧ (∀ d k o t i x, isCall (.fad d k o t i x) = false) ∧ (∀ d i e x y, isCall (.iad d i e x y) = false) ∧ (∀ d n e x i, isCall (.aad d n e x i) = false) ∧ (∀ d s x, isCall (.len d s x) = false) ∧ (∀ d i e b x y, isCall (.app d i e b x y) = false) ∧ (∀ d i e b z l c, isCall (.mk d i e b z l c) = false) ∧ (∀ d i e p, isCall (.bsl d i e p) = false) ∧ (∀ d i x l h, isCall (.slc d i x l h) = false) ∧ (∀ d x, isCall (.nlc d x) = false) ∧ (∀ d i x, isCall (.ext d i x) = false) ∧ (∀ d t y e x, isCall (.mif d t y e x) = false) ∧ (∀ d c x y, isCall (.pck d c x y) = false) ∧ (∀ d x, isCall (.cvs d x) = false) ∧ (∀ d m l, isCall (.mmx d m l) = false) ∧ (∀ d a b c x, isCall (.fld d a b c x) = false) ∧ (∀ d z p, isCall (.bld d z p) = false) ∧ (∀ d et t e x, isCall (.tas d et t e x) = false) ∧ (∀ d neg et es x y, isCall (.ifq d neg et es x y) = false) ∧ (∀ d i e x, isCall (.sl0 d i e x) = false) ∧ (∀ d f c, isCall (.clo d f c) = false) ∧ (∀ d t x, isCall (.bxf d t x) = false) ∧ (∀ d n x y, isCall (.seq d n x y) = false) ∧ (∀ d n k x y, isCall (.agq d n k x y) = false) ∧ (∀ d i e l, isCall (.bsf d i e l) = false) ∧ (∀ d a b, isCall (.mkm d a b) = false) ∧ (∀ d a b k t z o x i, isCall (.lkp d a b k t z o x i) = false) ∧ (∀ a b k t x i v, isCall (.mup a b k t x i v) = false) ∧ (∀ d a b k x i, isCall (.mdl d a b k x i) = false) := by refine ⟨?_, ?_⟩ <;> (repeat' (first | (intros; rfl) | constructor))
theorem noSp : (∀ d x, isSp (.mov d x) = false) ∧ (∀ d op k x y, isSp (.bin d op k x y) = false) ∧ (∀ d op k x y, isSp (.wrp d op k x y) = false) ∧ (∀ d op k x y, isSp (.shf d op k x y) = false) ∧ (∀ d op x y, isSp (.cmp d op x y) = false) ∧ (∀ d n k x, isSp (.eqb d n k x) = false) ∧ (∀ d n x y, isSp (.beq d n x y) = false) ∧ (∀ d op x, isSp (.una d op x) = false) ∧ (∀ d k x, isSp (.cnv d k x) = false) ∧ (∀ d g, isSp (.gld d g) = false) ∧ (∀ d z, isSp (.alc d z) = false) ∧ (∀ d n x, isSp (.box d n x) = false) ∧ (∀ d t x, isSp (.ld d t x) = false) ∧ (∀ t a x, isSp (.st t a x) = false) ∧ (∀ d k o t i x, isSp (.fad d k o t i x) = false) ∧ (∀ d i e x y, isSp (.iad d i e x y) = false) ∧ (∀ d n e x i, isSp (.aad d n e x i) = false) ∧ (∀ d s x, isSp (.len d s x) = false) ∧ (∀ d i e b x y, isSp (.app d i e b x y) = false) ∧ (∀ d i e b z l c, isSp (.mk d i e b z l c) = false) ∧ (∀ d i e p, isSp (.bsl d i e p) = false) ∧ (∀ d x, isSp (.nlc d x) = false) ∧ (∀ d i x, isSp (.ext d i x) = false) ∧ (∀ d c x y, isSp (.pck d c x y) = false) ∧ (∀ d x, isSp (.cvs d x) = false) ∧ (∀ d m l, isSp (.mmx d m l) = false) ∧ (∀ d a b c x, isSp (.fld d a b c x) = false) ∧ (∀ d z p, isSp (.bld d z p) = false) ∧ (∀ d et t e x, isSp (.tas d et t e x) = false) ∧ (∀ d neg et es x y, isSp (.ifq d neg et es x y) = false) ∧ (∀ d i e x, isSp (.sl0 d i e x) = false) ∧ (∀ d f c, isSp (.clo d f c) = false) ∧ (∀ d t x, isSp (.bxf d t x) = false) ∧ (∀ d n x y, isSp (.seq d n x y) = false) ∧ (∀ d n k x y, isSp (.agq d n k x y) = false) ∧ (∀ d i e l, isSp (.bsf d i e l) = false) ∧ (∀ d a b, isSp (.mkm d a b) = false) ∧ (∀ d a b k t z o x i, isSp (.lkp d a b k t z o x i) = false) ∧ (∀ a b k t x i v, isSp (.mup a b k t x i v) = false) ∧ (∀ d a b k x i, isSp (.mdl d a b k x i) = false) := by refine ⟨?_, ?_⟩ <;> (repeat' (first | (intros; rfl) | constructor))
def bot : FuncId → FSpec := fun _ _ _ _ _ => False
def add (Γ : FuncId → FSpec) (f : FuncId) (sp : FSpec) : FuncId → FSpec := fun g => if g = f then sp else Γ g
theorem add_def (Γ : FuncId → FSpec) (f : FuncId) (sp : FSpec) (g : FuncId) : add Γ f sp g = if g = f then sp else Γ g := rfl
section
variable {P : Program} {E : Nat → Value} {G : Nat → Bool}
theorem allValid_bot : AllValid P E G bot := fun f args h o nx K ρ H w vs hsp => hsp.elim
theorem AllValid.add {Γ : FuncId → FSpec} (h : AllValid P E G Γ) {f : FuncId} {sp : FSpec} (hs : Valid P E G f sp) : AllValid P E G (add Γ f sp) := by
  intro g
  unfold Fw.add
  split
  · rename_i e; subst e; exact hs
  · exact h g
end

mutual
theorem sv_ren_id : ∀ x : SV, x.ren (fun n => n) = x
  | .agg l => by simp only [SV.ren]; rw [svL_ren_id l]
  | .tup l => by simp only [SV.ren]; rw [svL_ren_id l]
  | .clo f l => by simp only [SV.ren]; rw [svL_ren_id l]
  | .ifc t x => by simp only [SV.ren]; rw [sv_ren_id x]
  | .ptr .. | .vec _ | .eltv .. | .eltc .. | .int .. | .bool _ | .str _ | .dat .. | .elt .. | .arrc .. | .nils | .raw _ | .any => by simp only [SV.ren]
theorem svL_ren_id : ∀ l : List SV, SV.renL (fun n => n) l = l
  | [] => by simp only [SV.renL]
  | x :: l => by simp only [SV.renL]; rw [sv_ren_id x, svL_ren_id l]
end
theorem tok_ren_id (t : Tok) : t.ren (fun n => n) = t := by
  cases t with
  | arr _ _ _ => rfl
  | map _ _ _ => rfl
  | cells l => simp only [Tok.ren]; rw [svL_ren_id l]

/-- The end of a function that leaves what its caller owns as it is, its result no memory of its own. -/
theorem fin_same {nb : Nat} {h : Heap} {K : SV → Heap → Prop} {rs : List RV} {S : SSt} {p : Prop} {xs : List SV} (he : evRs rs S = some (p, xs)) (hp : p) (hl : ∀ π, (mkR xs).ren π = mkR xs) (hlt : (mkR xs).lt nb) (hh : ∀ n t, hget h n = some t → n < nb ∧ t.lt nb)
    (hs : ∀ n t, hget h n = some t → hget S.h n = some t) (hk : K (mkR xs) h) : Fin nb K rs S := by
  unfold Fin
  rw [he]
  refine ⟨hp, mkR xs, h, Leq0.leq ⟨fun n => n, fun i => ?_, fun n t hn => ?_, fun n m t u _ _ hne => hne, fun _ _ => rfl, fun i => ?_, fun n t hn => ?_, Nat.le_add_right _ _⟩, hk⟩
  · simp only [fget]
    split
    · exact .inl (hl _)
    · exact .inr rfl
  · have hid : t.ren (fun n => n) = t := tok_ren_id t
    rw [hid]; exact hs n t hn
  · simp only [fget]
    split
    · exact SV.lt_mono (Nat.le_add_right _ _) hlt
    · exact trivial
  · have := hh n t hn
    exact ⟨Nat.lt_of_lt_of_le this.1 (Nat.le_add_right _ _), Tok.lt_mono (Nat.le_add_right _ _) this.2⟩

mutual
/-- It names no memory of the function's own. -/
def SV.nn : SV → Bool
  | .ptr _ _ | .vec _ | .eltv _ _ _ _ | .eltc _ _ _ _ => false
  | .agg l | .tup l | .clo _ l => SV.nnL l
  | .ifc _ x => SV.nn x
  | _ => true
def SV.nnL : List SV → Bool
  | [] => true
  | x :: l => SV.nn x && SV.nnL l
end
mutual
theorem nn_ren {π : Nat → Nat} : ∀ {x : SV}, x.nn = true → x.ren π = x
  | .agg l, h => by simp only [SV.ren]; rw [nnL_ren (l := l) (by simpa [SV.nn] using h)]
  | .tup l, h => by simp only [SV.ren]; rw [nnL_ren (l := l) (by simpa [SV.nn] using h)]
  | .clo f l, h => by simp only [SV.ren]; rw [nnL_ren (l := l) (by simpa [SV.nn] using h)]
  | .ifc t x, h => by simp only [SV.ren]; rw [nn_ren (x := x) (by simpa [SV.nn] using h)]
  | .ptr .., h | .vec _, h | .eltv .., h | .eltc .., h => by simp [SV.nn] at h
  | .int .., _ | .bool _, _ | .str _, _ | .dat .., _ | .elt .., _ | .arrc .., _ | .nils, _ | .raw _, _ | .any, _ => by simp only [SV.ren]
theorem nnL_ren {π : Nat → Nat} : ∀ {l : List SV}, SV.nnL l = true → SV.renL π l = l
  | [], _ => by simp only [SV.renL]
  | x :: l, h => by
    simp only [SV.nnL, Bool.and_eq_true] at h
    simp only [SV.renL]; rw [nn_ren h.1, nnL_ren h.2]
end
mutual
theorem nn_lt {nx : Nat} : ∀ {x : SV}, x.nn = true → x.lt nx
  | .agg l, h => nnL_lt (l := l) (by simpa [SV.nn] using h)
  | .tup l, h => nnL_lt (l := l) (by simpa [SV.nn] using h)
  | .clo f l, h => nnL_lt (l := l) (by simpa [SV.nn] using h)
  | .ifc t x, h => nn_lt (x := x) (by simpa [SV.nn] using h)
  | .ptr .., h | .vec _, h | .eltv .., h | .eltc .., h => by simp [SV.nn] at h
  | .int .., _ | .bool _, _ | .str _, _ | .dat .., _ | .elt .., _ | .arrc .., _ | .nils, _ | .raw _, _ | .any, _ => trivial
theorem nnL_lt {nx : Nat} : ∀ {l : List SV}, SV.nnL l = true → SV.ltL nx l
  | [], _ => trivial
  | x :: l, h => by
    simp only [SV.nnL, Bool.and_eq_true] at h
    exact ⟨nn_lt h.1, nnL_lt h.2⟩
end

/-- One result out of a slot. -/
theorem fin_t {nb : Nat} {h : Heap} {K : SV → Heap → Prop} {s : Nat} {S : SSt} (x : SV) (hx : fget S.f s = x) (hn : x.nn = true) (hh : ∀ n t, hget h n = some t → n < nb ∧ t.lt nb) (hs : ∀ n t, hget h n = some t → hget S.h n = some t) (hk : K x h) : Fin nb K [.t s] S := by
  subst hx
  exact fin_same (p := True ∧ True) (xs := [fget S.f s]) rfl ⟨trivial, trivial⟩ (fun _ => nn_ren hn) (nn_lt hn) hh hs hk
/-- One result out of a cell of its own. -/
theorem fin_c {nb : Nat} {h : Heap} {K : SV → Heap → Prop} {s : Nat} {ty : Ty} {S : SSt} {p : Prop} (x : SV) (hx : evR (.c s ty) S = some (p, x)) (hp : p) (hn : x.nn = true) (hh : ∀ n t, hget h n = some t → n < nb ∧ t.lt nb) (hs : ∀ n t, hget h n = some t → hget S.h n = some t) (hk : K x h) : Fin nb K [.c s ty] S := by
  refine fin_same (p := p ∧ True) (xs := [x]) ?_ ⟨hp, trivial⟩ (fun _ => nn_ren hn) (nn_lt hn) hh hs hk
  simp [evRs, hx]

theorem D_i (n : Int) : (D.int n).i = n := rfl
theorem D_b (b : Bool) : (D.bool b).b = b := rfl
theorem D_s (s : ByteArray) : (D.str s).s = s := rfl
theorem D_l (l : List D) : (D.list l).l = l := rfl
theorem D_tgt (d : D) : (D.ptr d).tgt = d := rfl
theorem nil_nil : D.nil.isNil = true := rfl
theorem nil_err (k : Nat) : (D.err k).isNil = false := rfl
theorem nil_ifc (t : TypeId) (d : D) : (D.ifc t d).isNil = false := rfl
theorem nil_ptr (d : D) : (D.ptr d).isNil = false := rfl
theorem nil_node (l : List D) : (D.node l).isNil = false := rfl
theorem D_fld0 (x0 : D) (l : List D) : (D.node (x0 :: l)).fld 0 = x0 := rfl
theorem D_fld1 (x0 x1 : D) (l : List D) : (D.node (x0 :: x1 :: l)).fld 1 = x1 := rfl
theorem D_fld2 (x0 x1 x2 : D) (l : List D) : (D.node (x0 :: x1 :: x2 :: l)).fld 2 = x2 := rfl
theorem D_fld3 (x0 x1 x2 x3 : D) (l : List D) : (D.node (x0 :: x1 :: x2 :: x3 :: l)).fld 3 = x3 := rfl
theorem D_fld4 (x0 x1 x2 x3 x4 : D) (l : List D) : (D.node (x0 :: x1 :: x2 :: x3 :: x4 :: l)).fld 4 = x4 := rfl
theorem D_fld5 (x0 x1 x2 x3 x4 x5 : D) (l : List D) : (D.node (x0 :: x1 :: x2 :: x3 :: x4 :: x5 :: l)).fld 5 = x5 := rfl
theorem D_fld6 (x0 x1 x2 x3 x4 x5 x6 : D) (l : List D) : (D.node (x0 :: x1 :: x2 :: x3 :: x4 :: x5 :: x6 :: l)).fld 6 = x6 := rfl
theorem D_fld7 (x0 x1 x2 x3 x4 x5 x6 x7 : D) (l : List D) : (D.node (x0 :: x1 :: x2 :: x3 :: x4 :: x5 :: x6 :: x7 :: l)).fld 7 = x7 := rfl
theorem D_fld8 (x0 x1 x2 x3 x4 x5 x6 x7 x8 : D) (l : List D) : (D.node (x0 :: x1 :: x2 :: x3 :: x4 :: x5 :: x6 :: x7 :: x8 :: l)).fld 8 = x8 := rfl
theorem D_fld9 (x0 x1 x2 x3 x4 x5 x6 x7 x8 x9 : D) (l : List D) : (D.node (x0 :: x1 :: x2 :: x3 :: x4 :: x5 :: x6 :: x7 :: x8 :: x9 :: l)).fld 9 = x9 := rfl
theorem D_fld10 (x0 x1 x2 x3 x4 x5 x6 x7 x8 x9 x10 : D) (l : List D) : (D.node (x0 :: x1 :: x2 :: x3 :: x4 :: x5 :: x6 :: x7 :: x8 :: x9 :: x10 :: l)).fld 10 = x10 := rfl
theorem D_fld11 (x0 x1 x2 x3 x4 x5 x6 x7 x8 x9 x10 x11 : D) (l : List D) : (D.node (x0 :: x1 :: x2 :: x3 :: x4 :: x5 :: x6 :: x7 :: x8 :: x9 :: x10 :: x11 :: l)).fld 11 = x11 := rfl
theorem D_fld12 (x0 x1 x2 x3 x4 x5 x6 x7 x8 x9 x10 x11 x12 : D) (l : List D) : (D.node (x0 :: x1 :: x2 :: x3 :: x4 :: x5 :: x6 :: x7 :: x8 :: x9 :: x10 :: x11 :: x12 :: l)).fld 12 = x12 := rfl
theorem D_fld13 (x0 x1 x2 x3 x4 x5 x6 x7 x8 x9 x10 x11 x12 x13 : D) (l : List D) : (D.node (x0 :: x1 :: x2 :: x3 :: x4 :: x5 :: x6 :: x7 :: x8 :: x9 :: x10 :: x11 :: x12 :: x13 :: l)).fld 13 = x13 := rfl
theorem D_fld14 (x0 x1 x2 x3 x4 x5 x6 x7 x8 x9 x10 x11 x12 x13 x14 : D) (l : List D) : (D.node (x0 :: x1 :: x2 :: x3 :: x4 :: x5 :: x6 :: x7 :: x8 :: x9 :: x10 :: x11 :: x12 :: x13 :: x14 :: l)).fld 14 = x14 := rfl
theorem D_fld15 (x0 x1 x2 x3 x4 x5 x6 x7 x8 x9 x10 x11 x12 x13 x14 x15 : D) (l : List D) : (D.node (x0 :: x1 :: x2 :: x3 :: x4 :: x5 :: x6 :: x7 :: x8 :: x9 :: x10 :: x11 :: x12 :: x13 :: x14 :: x15 :: l)).fld 15 = x15 := rfl
theorem nm_ne2 (n a0 a1 : Nat) : (n + a0 + a1 = n) = (a0 + a1 = 0) := by apply propext; omega
theorem nm_en2 (n a0 a1 : Nat) : (n = n + a0 + a1) = (a0 + a1 = 0) := by apply propext; omega
theorem nm_ne3 (n a0 a1 a2 : Nat) : (n + a0 + a1 + a2 = n) = (a0 + a1 + a2 = 0) := by apply propext; omega
theorem nm_en3 (n a0 a1 a2 : Nat) : (n = n + a0 + a1 + a2) = (a0 + a1 + a2 = 0) := by apply propext; omega
theorem nm_ne4 (n a0 a1 a2 a3 : Nat) : (n + a0 + a1 + a2 + a3 = n) = (a0 + a1 + a2 + a3 = 0) := by apply propext; omega
theorem nm_en4 (n a0 a1 a2 a3 : Nat) : (n = n + a0 + a1 + a2 + a3) = (a0 + a1 + a2 + a3 = 0) := by apply propext; omega
theorem nm_ne5 (n a0 a1 a2 a3 a4 : Nat) : (n + a0 + a1 + a2 + a3 + a4 = n) = (a0 + a1 + a2 + a3 + a4 = 0) := by apply propext; omega
theorem nm_en5 (n a0 a1 a2 a3 a4 : Nat) : (n = n + a0 + a1 + a2 + a3 + a4) = (a0 + a1 + a2 + a3 + a4 = 0) := by apply propext; omega
theorem nm_ne6 (n a0 a1 a2 a3 a4 a5 : Nat) : (n + a0 + a1 + a2 + a3 + a4 + a5 = n) = (a0 + a1 + a2 + a3 + a4 + a5 = 0) := by apply propext; omega
theorem nm_en6 (n a0 a1 a2 a3 a4 a5 : Nat) : (n = n + a0 + a1 + a2 + a3 + a4 + a5) = (a0 + a1 + a2 + a3 + a4 + a5 = 0) := by apply propext; omega
theorem nm_ne7 (n a0 a1 a2 a3 a4 a5 a6 : Nat) : (n + a0 + a1 + a2 + a3 + a4 + a5 + a6 = n) = (a0 + a1 + a2 + a3 + a4 + a5 + a6 = 0) := by apply propext; omega
theorem nm_en7 (n a0 a1 a2 a3 a4 a5 a6 : Nat) : (n = n + a0 + a1 + a2 + a3 + a4 + a5 + a6) = (a0 + a1 + a2 + a3 + a4 + a5 + a6 = 0) := by apply propext; omega
theorem nm_ne8 (n a0 a1 a2 a3 a4 a5 a6 a7 : Nat) : (n + a0 + a1 + a2 + a3 + a4 + a5 + a6 + a7 = n) = (a0 + a1 + a2 + a3 + a4 + a5 + a6 + a7 = 0) := by apply propext; omega
theorem nm_en8 (n a0 a1 a2 a3 a4 a5 a6 a7 : Nat) : (n = n + a0 + a1 + a2 + a3 + a4 + a5 + a6 + a7) = (a0 + a1 + a2 + a3 + a4 + a5 + a6 + a7 = 0) := by apply propext; omega
theorem nm_ne9 (n a0 a1 a2 a3 a4 a5 a6 a7 a8 : Nat) : (n + a0 + a1 + a2 + a3 + a4 + a5 + a6 + a7 + a8 = n) = (a0 + a1 + a2 + a3 + a4 + a5 + a6 + a7 + a8 = 0) := by apply propext; omega
theorem nm_en9 (n a0 a1 a2 a3 a4 a5 a6 a7 a8 : Nat) : (n = n + a0 + a1 + a2 + a3 + a4 + a5 + a6 + a7 + a8) = (a0 + a1 + a2 + a3 + a4 + a5 + a6 + a7 + a8 = 0) := by apply propext; omega
theorem nm_ne10 (n a0 a1 a2 a3 a4 a5 a6 a7 a8 a9 : Nat) : (n + a0 + a1 + a2 + a3 + a4 + a5 + a6 + a7 + a8 + a9 = n) = (a0 + a1 + a2 + a3 + a4 + a5 + a6 + a7 + a8 + a9 = 0) := by apply propext; omega
theorem nm_en10 (n a0 a1 a2 a3 a4 a5 a6 a7 a8 a9 : Nat) : (n = n + a0 + a1 + a2 + a3 + a4 + a5 + a6 + a7 + a8 + a9) = (a0 + a1 + a2 + a3 + a4 + a5 + a6 + a7 + a8 + a9 = 0) := by apply propext; omega
theorem bq_tt : (true == true) = true := rfl
theorem bq_tf : (true == false) = false := rfl
theorem bq_ft : (false == true) = false := rfl
theorem bq_ff : (false == false) = true := rfl
theorem min_i64 : IntKind.i64.min = -9223372036854775808 := rfl
theorem max_i64 : IntKind.i64.max = 9223372036854775807 := rfl
theorem min_u32 : IntKind.u32.min = 0 := rfl
theorem max_u32 : IntKind.u32.max = 4294967295 := rfl
theorem min_u64 : IntKind.u64.min = 0 := rfl
theorem max_u64 : IntKind.u64.max = 18446744073709551615 := rfl
theorem min_u8 : IntKind.u8.min = 0 := rfl
theorem max_u8 : IntKind.u8.max = 255 := rfl
end Go.Fw
