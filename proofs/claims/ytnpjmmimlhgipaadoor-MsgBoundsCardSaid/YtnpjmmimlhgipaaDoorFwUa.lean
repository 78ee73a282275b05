/- The frame-work, part Ua: regions that draw their order. -/
import Derived.Test.YtnpjmmimlhgipaaDoorFwU
import Derived.Orders
namespace Go.Fw
set_option linter.unusedVariables false
set_option linter.unusedSimpArgs false
open Go

def Opd.sl : Opd → List Nat
  | .s n => [n]
  | .c _ => []
def slots : List Opd → List Nat
  | [] => []
  | x :: l => x.sl ++ slots l
def oslots : Option Opd → List Nat
  | some x => x.sl
  | none => []

/-- Quiet operations: a value out of the frame and the heap. -/
def quietOf : IOp → Option (Nat × (Fr → Heap → Option (Prop × SV)))
  | .mov d x => some (d, fun f _ => some (True, oget x f))
  | .bin d op k x y => some (d, fun f _ => evBin op k (oget x f) (oget y f))
  | .wrp d op k x y => some (d, fun f _ => evWrp op k (oget x f) (oget y f))
  | .shf d op k x y => some (d, fun f _ => evShf op k (oget x f) (oget y f))
  | .cmp d op x y => some (d, fun f _ => evCmp op (oget x f) (oget y f))
  | .eqb d neg k x => some (d, fun f _ => match evNil k (oget x f) with | some b => some (True, .bool (if neg then !b else b)) | none => none)
  | .beq d neg x y => some (d, fun f _ => match evBeq (oget x f) (oget y f) with | some b => some (True, .bool (if neg then !b else b)) | none => none)
  | .una d op x => some (d, fun f _ => evUna op (oget x f))
  | .cnv d k x => some (d, fun f _ => match oget x f with | .int _ n => some (True, .int k (k.wrap n)) | _ => none)
  | .gld d g => some (d, fun _ _ => some (True, .dat .iface (.err g)))
  | .ld d t x => some (d, fun f h => evLd t (oget x f) h)
  | .fad d k off t sid x => some (d, fun f _ => evFad k off t sid (oget x f))
  | .iad d eid e x i => some (d, fun f h => evIad eid e (oget x f) (oget i f) h)
  | .aad d n e x i => some (d, fun f _ => evAad n e (oget x f) (oget i f))
  | .len d str x => some (d, fun f h => if str then evSln (oget x f) else evLen (oget x f) h)
  | .slc d eid x lo hi => some (d, fun f _ => evSlc eid (oget x f) (lo.map (oget · f)) (hi.map (oget · f)))
  | .nlc d x => some (d, fun f _ => evNlc (oget x f))
  | .ext d i x => some (d, fun f _ => match oget x f with | .tup l => (match l[i]? with | some y => some (True, y) | none => none) | _ => none)
  | .mif d t ty _ x => some (d, fun f _ => evMif t ty (oget x f))
  | .pck d c x y => some (d, fun f _ => evPck (oget c f) (oget x f) (oget y f))
  | .mmx d mx xs => some (d, fun f _ => match ogets xs f with | .int k a :: r => (match evMm mx (.int k a) r with | some v => some (True, v) | none => none) | _ => none)
  | .fld d off sz ag x => some (d, fun f _ => evFld off sz ag (oget x f))
  | .bld d zs ps => some (d, fun f _ => match evBld f zs ps with | some (p, l) => some (p, .agg l) | none => none)
  | .tas d et t e x => some (d, fun f _ => evTas et t e (oget x f))
  | .ifq d neg et es x y => some (d, fun f _ => match evIfq et es (oget x f) (oget y f) with | some (p, b) => some (p, .bool (if neg then !b else b)) | none => none)
  | .seq d neg x y => some (d, fun f _ => match evSeq (oget x f) (oget y f) with | some (p, b) => some (p, .bool (if neg then !b else b)) | none => none)
  | .agq d neg n x y => some (d, fun f _ => match evAgq n (oget x f) (oget y f) with | some (p, b) => some (p, .bool (if neg then !b else b)) | none => none)
  | .bsf d eid e xs => some (d, fun f _ => evBsf eid e (ogets xs f))
  | .bxf d t x => some (d, fun f _ => evBxf t (oget x f))
  | .clo d fid caps => some (d, fun f _ => some (True, .clo fid (ogets caps f)))
  | .lkp d kt vt k t z ok x i => some (d, fun f h => evLkp kt vt k t z ok (oget x f) (oget i f) h)
  | _ => none

def fslots : List (Nat × Opd) → List Nat
  | [] => []
  | (_, x) :: r => x.sl ++ fslots r
def IOp.looks : IOp → List Nat
  | .mov _ x | .eqb _ _ _ x | .una _ _ x | .cnv _ _ x | .box _ _ x | .ld _ _ x | .fad _ _ _ _ _ x | .len _ _ x | .nlc _ x | .nlq _ _ x | .ext _ _ x | .mif _ _ _ _ x | .cvs _ x | .fld _ _ _ _ x | .tas _ _ _ _ x | .sl0 _ _ _ x | .bxf _ _ x => x.sl
  | .bin _ _ _ x y | .wrp _ _ _ x y | .shf _ _ _ x y | .cmp _ _ x y | .beq _ _ x y | .st _ x y | .iad _ _ _ x y | .aad _ _ _ x y | .app _ _ _ _ x y | .mk _ _ _ _ _ x y | .ifq _ _ _ _ x y | .seq _ _ x y | .agq _ _ _ x y => x.sl ++ y.sl
  | .gld _ _ | .alc _ _ | .mkm _ _ _ => []
  | .lkp _ _ _ _ _ _ _ x i => x.sl ++ i.sl
  | .mup _ _ _ _ x i v => x.sl ++ (i.sl ++ v.sl)
  | .mdl _ _ _ _ x i => x.sl ++ i.sl
  | .bsl _ _ _ l | .bsf _ _ _ l | .mmx _ _ l | .clo _ _ l => slots l
  | .call _ f l _ _ => f.sl ++ slots l
  | .slc _ _ x lo hi => x.sl ++ (oslots lo ++ oslots hi)
  | .pck _ c x y => c.sl ++ (x.sl ++ y.sl)
  | .bld _ _ ps => fslots ps
def IOp.dst : IOp → Option Nat
  | .mov d _ | .eqb d _ _ _ | .una d _ _ | .cnv d _ _ | .box d _ _ | .ld d _ _ | .fad d _ _ _ _ _ | .len d _ _ | .nlc d _ | .nlq d _ _ | .ext d _ _ | .mif d _ _ _ _ | .cvs d _ | .fld d _ _ _ _ | .tas d _ _ _ _ | .ifq d _ _ _ _ _ | .bld d _ _ | .sl0 d _ _ _ | .bxf d _ _ | .clo d _ _ | .seq d _ _ _ | .agq d _ _ _ _ => some d
  | .bin d _ _ _ _ | .wrp d _ _ _ _ | .shf d _ _ _ _ | .cmp d _ _ _ | .beq d _ _ _ | .iad d _ _ _ _ | .aad d _ _ _ _ | .app d _ _ _ _ _ | .mk d _ _ _ _ _ _ => some d
  | .gld d _ | .alc d _ => some d
  | .mkm d _ _ | .lkp d _ _ _ _ _ _ _ _ | .mdl d _ _ _ _ _ => some d
  | .mup _ _ _ _ _ _ _ => none
  | .bsl d _ _ _ | .bsf d _ _ _ | .mmx d _ _ | .call d _ _ _ _ => some d
  | .slc d _ _ _ _ => some d
  | .pck d _ _ _ => some d
  | .st _ _ _ => none
def heapy : IOp → Bool
  | .ld _ _ _ | .iad _ _ _ _ _ | .lkp _ _ _ _ _ _ _ _ _ => true
  | .len _ s _ => !s
  | _ => false
def isCvs : IOp → Bool
  | .cvs _ _ => true
  | _ => false
def IOp.quiet (i : IOp) : Bool := (quietOf i).isSome

theorem quiet_ev {i : IOp} {d : Nat} {v : Fr → Heap → Option (Prop × SV)} (h : quietOf i = some (d, v)) (f : Fr) (hp : Heap) (nx : Nat) : ev i ⟨f, hp, nx⟩ = match v f hp with
    | some (p, y) => some (p, ⟨(d, y) :: f, hp, nx⟩)
    | none => none := by
  cases i <;> simp only [quietOf] at h <;> cases h <;> simp only [ev, SSt.put, sput] <;> (repeat' split) <;> simp_all [SSt.put, sput]

theorem oget_par {x : Opd} {f f' : Fr} (h : ∀ n ∈ x.sl, fget f' n = fget f n) : oget x f' = oget x f := by
  cases x with
  | s n => exact h n (by simp [Opd.sl])
  | c _ => rfl
theorem ogets_par {f f' : Fr} : ∀ {l : List Opd}, (∀ n ∈ slots l, fget f' n = fget f n) → ogets l f' = ogets l f
  | [], _ => rfl
  | x :: l, h => by
    simp only [ogets]
    rw [oget_par (fun n hn => h n (by simp [slots, hn])), ogets_par (fun n hn => h n (by simp [slots, hn]))]
theorem omap_par {f f' : Fr} {x : Option Opd} (h : ∀ n ∈ oslots x, fget f' n = fget f n) : x.map (oget · f') = x.map (oget · f) := by
  cases x with
  | none => rfl
  | some x => simp only [Option.map_some]; rw [oget_par h]

theorem evBld_par {f f' : Fr} : ∀ {ps : List (Nat × Opd)} {zs : List (List SV)}, (∀ n ∈ fslots ps, fget f' n = fget f n) → evBld f' zs ps = evBld f zs ps
  | [], _, _ => rfl
  | (i, x) :: r, zs, h => by
    simp only [evBld]; rw [oget_par (x := x) (fun n hn => h n (by simp [fslots, hn])), evBld_par (ps := r) (fun n hn => h n (by simp [fslots, hn]))]
theorem quiet_par {i : IOp} {d : Nat} {v : Fr → Heap → Option (Prop × SV)} (h : quietOf i = some (d, v)) {f f' : Fr} (hf : ∀ n ∈ i.looks, fget f' n = fget f n) (hp : Heap) : v f' hp = v f hp := by
  cases i <;> simp only [quietOf] at h <;> cases h <;> simp only [IOp.looks, List.mem_append] at hf
  case gld => rfl
  case slc x lo hi =>
    simp only []
    rw [oget_par (x := x) (fun n hn => hf n (.inl hn)), omap_par (x := lo) (fun n hn => hf n (.inr (.inl hn))), omap_par (x := hi) (fun n hn => hf n (.inr (.inr hn)))]
  case pck c x y =>
    simp only []
    rw [oget_par (x := c) (fun n hn => hf n (.inl hn)), oget_par (x := x) (fun n hn => hf n (.inr (.inl hn))), oget_par (x := y) (fun n hn => hf n (.inr (.inr hn)))]
  case mmx xs => simp only []; rw [ogets_par hf]
  case bsf xs => simp only []; rw [ogets_par hf]
  case agq x y => simp only []; rw [oget_par (x := x) (fun n hn => hf n (.inl hn)), oget_par (x := y) (fun n hn => hf n (.inr hn))]
  case bin x y => simp only []; rw [oget_par (x := x) (fun n hn => hf n (.inl hn)), oget_par (x := y) (fun n hn => hf n (.inr hn))]
  case wrp x y => simp only []; rw [oget_par (x := x) (fun n hn => hf n (.inl hn)), oget_par (x := y) (fun n hn => hf n (.inr hn))]
  case shf x y => simp only []; rw [oget_par (x := x) (fun n hn => hf n (.inl hn)), oget_par (x := y) (fun n hn => hf n (.inr hn))]
  case cmp x y => simp only []; rw [oget_par (x := x) (fun n hn => hf n (.inl hn)), oget_par (x := y) (fun n hn => hf n (.inr hn))]
  case beq x y => simp only []; rw [oget_par (x := x) (fun n hn => hf n (.inl hn)), oget_par (x := y) (fun n hn => hf n (.inr hn))]
  case bld zs ps => simp only []; rw [evBld_par hf]
  case clo caps => simp only []; rw [ogets_par hf]
  case seq x y => simp only []; rw [oget_par (x := x) (fun n hn => hf n (.inl hn)), oget_par (x := y) (fun n hn => hf n (.inr hn))]
  case ifq x y => simp only []; rw [oget_par (x := x) (fun n hn => hf n (.inl hn)), oget_par (x := y) (fun n hn => hf n (.inr hn))]
  case iad x y => simp only []; rw [oget_par (x := x) (fun n hn => hf n (.inl hn)), oget_par (x := y) (fun n hn => hf n (.inr hn))]
  case lkp x y => simp only []; rw [oget_par (x := x) (fun n hn => hf n (.inl hn)), oget_par (x := y) (fun n hn => hf n (.inr hn))]
  case aad x y => simp only []; rw [oget_par (x := x) (fun n hn => hf n (.inl hn)), oget_par (x := y) (fun n hn => hf n (.inr hn))]
  all_goals (simp only []; rw [oget_par hf])

theorem quiet_heap {i : IOp} {d : Nat} {v : Fr → Heap → Option (Prop × SV)} (h : quietOf i = some (d, v)) (hh : heapy i = false) (f : Fr) (h1 h2 : Heap) : v f h1 = v f h2 := by
  cases i <;> simp only [quietOf] at h <;> cases h <;> first | (cases hh; done) | rfl | skip
  rename_i str x
  simp only [heapy, Bool.not_eq_false'] at hh
  simp only [hh, if_true]
theorem quiet_mono {i : IOp} {d : Nat} {v : Fr → Heap → Option (Prop × SV)} (h : quietOf i = some (d, v)) {f : Fr} {z : Prop × SV} (hz : v f [] = some z) (h1 : Heap) : v f h1 = some z := by
  by_cases hh : heapy i = true
  · cases i <;> first | (cases hh; done) | skip
    · simp only [quietOf] at h; cases h
      simp only [evLd] at hz ⊢
      split at hz <;> simp_all [hget]
    · simp only [quietOf] at h; cases h
      simp only [evIad] at hz ⊢
      split at hz <;> simp_all [hget]
    · simp only [quietOf] at h; cases h
      simp only [heapy, Bool.not_eq_true'] at hh
      subst hh
      simp only [evLen, Bool.false_eq_true, if_false] at hz ⊢
      generalize oget _ f = y at hz ⊢
      split at hz <;> simp_all [hget]
    · simp only [quietOf] at h; cases h
      simp only [evLkp] at hz ⊢
      split at hz <;> simp_all [hget]
  · rw [quiet_heap h (by simpa using hh) f h1 []]; exact hz
end Go.Fw
