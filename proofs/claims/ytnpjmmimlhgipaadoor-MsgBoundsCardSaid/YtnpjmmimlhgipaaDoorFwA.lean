/- The frame-work, part A: data, types, symbolic values, and what they mean in a memory. -/
import Derived.WalkKit
import Derived.ProofKit
import Derived.Below
import Derived.MapKept
namespace Go.Fw
set_option linter.unusedVariables false
set_option linter.unusedSimpArgs false
open Go

/-- Plain data. -/
inductive D where
  | int (n : Int)
  | bool (b : Bool)
  | str (s : ByteArray)
  | list (l : List D)
  | node (l : List D)
  | nil
  | ptr (d : D)
  | err (k : Nat)
  | ifc (t : TypeId) (d : D)
  deriving Inhabited

def D.i : D → Int | .int n => n | _ => 0
def D.b : D → Bool | .bool b => b | _ => false
def D.s : D → ByteArray | .str s => s | _ => ByteArray.empty
def D.l : D → List D | .list l => l | _ => []
def D.fs : D → List D | .node l => l | _ => []
def D.fld (d : D) (k : Nat) : D := d.fs.getD k .nil
def D.isNil : D → Bool | .nil => true | _ => false
def D.tgt : D → D | .ptr d => d | _ => .nil

/-- The shapes of types. -/
inductive Ty where
  | int (k : IntKind)
  | bool
  | str
  | slice (e : TypeId)
  | ptr (e : TypeId)
  | iface
  | strct (ts : List Ty)
  | arr (n : Nat) (e : Ty)
  | fn
  | map (k v : TypeId)
  | other
  deriving Inhabited

mutual
def Ty.size : Ty → Nat
  | .strct ts => Ty.sizeL ts
  | .arr n e => n * e.size
  | _ => 1
def Ty.sizeL : List Ty → Nat
  | [] => 0
  | t :: ts => t.size + Ty.sizeL ts
end

def tyOf (P : Program) : Nat → TypeId → Ty
  | 0, _ => .other
  | n + 1, t =>
    match P.underlying t with
    | some (.int k) => .int k
    | some .bool => .bool
    | some .string => .str
    | some (.slice e) => .slice e
    | some (.pointer e) => .ptr e
    | some (.interface _) => .iface
    | some (.struct fs) => .strct (fs.toList.map fun f => tyOf P n f.type)
    | some (.array m e) => .arr m (tyOf P n e)
    | some (.map k v) => .map k v
    | some (.func ..) => .fn
    | _ => .other

/-- Symbolic values; a list of them is a row of cells ('arrc' covers several). Names of memory of the function's own are numbers. -/
inductive SV where
  | int (k : IntKind) (n : Int)
  | bool (b : Bool)
  | str (s : ByteArray)
  | dat (t : Ty) (d : D)
  | elt (t : Ty) (d : D)
  | ptr (n off : Nat)
  | vec (n : Nat)
  | eltv (n : Nat) (i : Int) (sz off : Nat)
  | eltc (n off : Nat) (e : Ty) (i : Int)
  | arrc (e : Ty) (ds : List D)
  | agg (l : List SV)
  | tup (l : List SV)
  | clo (f : FuncId) (caps : List SV)
  | nils
  | ifc (t : TypeId) (x : SV)
  | raw (v : Value)
  | any
  deriving Inhabited

inductive Tok where
  | cells (l : List SV)
  | arr (eid : TypeId) (e : Ty) (l : List D)
  | map (kt vt : TypeId) (f : Int → Option D)
  deriving Inhabited

abbrev Heap := List (Nat × Tok)
def hget : Heap → Nat → Option Tok
  | [], _ => none
  | (m, t) :: r, n => if m = n then some t else hget r n
def hset : Heap → Nat → Tok → Heap
  | [], _, _ => []
  | (m, t) :: r, n, u => if m = n then (m, u) :: r else (m, t) :: hset r n u
def hdel : Heap → Nat → Heap
  | [], _ => []
  | (m, t) :: r, n => if m = n then hdel r n else (m, t) :: hdel r n

abbrev Fr := List (Nat × SV)
def fget : Fr → Nat → SV
  | [], _ => .any
  | (i, v) :: r, j => if i = j then v else fget r j

/-- Memory that no longer changes. -/
abbrev FH := Nat → Nat → Option Value

section
variable (P : Program) (E : Nat → Value)

mutual
/-- These cells hold this datum. -/
inductive Rep (H : FH) : Ty → D → List Value → Prop
  | int {k : IntKind} {n : Int} (h : k.min ≤ n ∧ n ≤ k.max) : Rep H (.int k) (.int n) [.int k n]
  | bool {b : Bool} : Rep H .bool (.bool b) [.bool b]
  | str {s : ByteArray} (h : s.size ≤ maxLen) : Rep H .str (.str s) [.string s]
  | slice {e : TypeId} {l : List D} {a : Option Addr} {cap : Nat} (css : Nat → List Value) (hc : l.length ≤ cap) (hcap : cap ≤ maxLen) (hn : l ≠ [] → ∃ ad, a = some ad ∧ ad.spot = none) (hz : a = none → cap = 0)
      (hm : ∀ i, i < l.length → ∀ ad, a = some ad → ∀ j v, (css i)[j]? = some v → H ad.block (ad.off + i * (tyOf P 8 e).size + j) = some v)
      (hr : ∀ i (hi : i < l.length), Rep H (tyOf P 8 e) l[i] (css i)) : Rep H (.slice e) (.list l) [.slice a l.length cap]
  | strct {ts : List Ty} {ds : List D} {cs : List Value} (h : RepL H ts ds cs) : Rep H (.strct ts) (.node ds) cs
  | arr {n : Nat} {e : Ty} {ds : List D} {cs : List Value} (hn : ds.length = n) (h : RepL H (List.replicate n e) ds cs) : Rep H (.arr n e) (.list ds) cs
  | pnil {e : TypeId} : Rep H (.ptr e) .nil [.pointer none]
  | ptr {e : TypeId} {d : D} {a : Addr} {cs : List Value} (hs : a.spot = none) (hm : ∀ j v, cs[j]? = some v → H a.block (a.off + j) = some v) (h : Rep H (tyOf P 8 e) d cs) : Rep H (.ptr e) (.ptr d) [.pointer (some a)]
  | inil : Rep H .iface .nil [.nilIface]
  | err {k : Nat} : Rep H .iface (.err k) [E k]
  | ifc {t : TypeId} {d : D} {v : Value} (h : Rep H (tyOf P 8 t) d [v]) : Rep H .iface (.ifc t d) [.iface t v]
inductive RepL (H : FH) : List Ty → List D → List Value → Prop
  | nil : RepL H [] [] []
  | cons {t : Ty} {ts : List Ty} {d : D} {ds : List D} {cs cs' : List Value} (h : Rep H t d cs) (h' : RepL H ts ds cs') : RepL H (t :: ts) (d :: ds) (cs ++ cs')
end

def FH.le (H H' : FH) : Prop := ∀ b o v, H b o = some v → H' b o = some v
theorem FH.le_refl (H : FH) : H.le H := fun _ _ _ h => h
theorem FH.le_trans {H H' H'' : FH} (h : H.le H') (h' : H'.le H'') : H.le H'' := fun b o v hv => h' b o v (h b o v hv)

mutual
theorem Rep.mono {H H' : FH} (hh : H.le H') : ∀ {t d cs}, Rep P E H t d cs → Rep P E H' t d cs
  | _, _, _, .int h => .int h
  | _, _, _, .bool => .bool
  | _, _, _, .str h => .str h
  | _, _, _, .slice css hc hcap hn hz hm hr => .slice css hc hcap hn hz (fun i hi ad ha j v hv => hh _ _ _ (hm i hi ad ha j v hv)) (fun i hi => Rep.mono hh (hr i hi))
  | _, _, _, .strct h => .strct (RepL.mono hh h)
  | _, _, _, .arr hn h => .arr hn (RepL.mono hh h)
  | _, _, _, .pnil => .pnil
  | _, _, _, .ptr hs hm h => .ptr hs (fun j v hv => hh _ _ _ (hm j v hv)) (Rep.mono hh h)
  | _, _, _, .inil => .inil
  | _, _, _, .err => .err
  | _, _, _, .ifc h => .ifc (Rep.mono hh h)
theorem RepL.mono {H H' : FH} (hh : H.le H') : ∀ {ts ds cs}, RepL P E H ts ds cs → RepL P E H' ts ds cs
  | _, _, _, .nil => .nil
  | _, _, _, .cons h h' => .cons (Rep.mono hh h) (RepL.mono hh h')
end
end
end Go.Fw
