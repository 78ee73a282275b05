import Derived.Test.YtmjenjccinfbaaaDoorFwE
/- The frame-work, part F: operations, and what they do to a state. -/
namespace Go.Fw
set_option linter.unusedVariables false
set_option linter.unusedSimpArgs false
open Go

inductive Opd where
  | s (n : Nat)
  | c (x : SV)
  deriving Inhabited

inductive IOp where
  | mov (d : Nat) (x : Opd)
  | bin (d : Nat) (op : BinOp) (k : IntKind) (x y : Opd)
  | wrp (d : Nat) (op : BinOp) (k : IntKind) (x y : Opd)
  | shf (d : Nat) (op : BinOp) (k : IntKind) (x y : Opd)
  | cmp (d : Nat) (op : BinOp) (x y : Opd)
  | eqb (d : Nat) (neg : Bool) (kind : Nat) (x : Opd)
  | beq (d : Nat) (neg : Bool) (x y : Opd)
  | una (d : Nat) (op : UnOp) (x : Opd)
  | cnv (d : Nat) (k : IntKind) (x : Opd)
  | gld (d : Nat) (g : Nat)
  | alc (d : Nat) (zero : List SV)
  | box (d : Nat) (n : Nat) (x : Opd)
  | ld (d : Nat) (t : Ty) (x : Opd)
  | st (t : Ty) (a x : Opd)
  | fad (d : Nat) (k off : Nat) (t : Ty) (sid : TypeId) (x : Opd)
  | iad (d : Nat) (eid : TypeId) (e : Ty) (x i : Opd)
  | aad (d : Nat) (n : Nat) (e : Ty) (x i : Opd)
  | len (d : Nat) (str : Bool) (x : Opd)
  | app (d : Nat) (eid : TypeId) (e : Ty) (bytes : Nat) (x y : Opd)
  | mk (d : Nat) (eid : TypeId) (e : Ty) (bytes : Nat) (zero : D) (l c : Opd)
  | bsl (d : Nat) (eid : TypeId) (e : Ty) (parts : List Opd)
  | slc (d : Nat) (eid : TypeId) (x : Opd) (lo hi : Option Opd)
  | nlc (d : Nat) (x : Opd)
  | nlq (d : Nat) (neg : Bool) (x : Opd)
  | ext (d : Nat) (i : Nat) (x : Opd)
  | mif (d : Nat) (t : TypeId) (ty e : Ty) (x : Opd)
  | pck (d : Nat) (c x y : Opd)
  | cvs (d : Nat) (x : Opd)
  | fld (d : Nat) (off sz : Nat) (ag : Bool) (x : Opd)
  | bld (d : Nat) (zs : List (List SV)) (ps : List (Nat × Opd))
  | tas (d : Nat) (et t e : TypeId) (x : Opd)
  | ifq (d : Nat) (neg : Bool) (et : TypeId) (es : List Nat) (x y : Opd)
  | mmx (d : Nat) (mx : Bool) (xs : List Opd)
  | sl0 (d : Nat) (eid : TypeId) (e : Ty) (x : Opd)
  | bxf (d : Nat) (t : Ty) (pe : Option TypeId) (x : Opd)
  | clo (d : Nat) (f : FuncId) (caps : List Opd)
  | seq (d : Nat) (neg : Bool) (x y : Opd)
  | cat (d : Nat) (x y : Opd)
  | agq (d : Nat) (neg : Bool) (n : Nat) (x y : Opd)
  | bsf (d : Nat) (eid : TypeId) (e : Ty) (parts : List Opd)
  | mkm (d : Nat) (kt vt : TypeId)
  | lkp (d : Nat) (kt vt : TypeId) (k : IntKind) (t : Ty) (z : D) (ok : Bool) (x i : Opd)
  | mup (kt vt : TypeId) (k : IntKind) (t : Ty) (x i v : Opd)
  | mdl (d : Nat) (kt vt : TypeId) (k : IntKind) (x i : Opd)
  | mdn (kt vt : TypeId) (k : IntKind) (x i : Opd)
  | call (d : Nat) (f : Opd) (args : List Opd) (ts : List (Option TypeId)) (fz : Bool)
  deriving Inhabited

def oget (x : Opd) (f : Fr) : SV := match x with | .s n => fget f n | .c v => v
def ogets : List Opd → Fr → List SV
  | [], _ => []
  | x :: l, f => oget x f :: ogets l f

/-- Nothing of a slice's type, handed on. -/
def argS : Option TypeId → SV → SV
  | some e, .nils => .dat (.slice e) (.list [])
  | _, x => x
def argSs : List (Option TypeId) → List SV → List SV
  | t :: ts, x :: xs => argS t x :: argSs ts xs
  | _, xs => xs

def SSt.put (S : SSt) (d : Nat) (x : SV) : SSt := { f := (d, x) :: S.f, h := S.h, nx := S.nx }

/-- The cell at a place of a row. -/
def cellAt : List SV → Nat → Option SV
  | [], _ => none
  | .arrc e ds :: r, o => if ds.length * e.size ≤ o then cellAt r (o - ds.length * e.size) else none
  | x :: _, 0 => some x
  | _ :: r, o + 1 => cellAt r o
/-- The array that begins at a place of a row. -/
def arrAt : List SV → Nat → Option (Ty × List D)
  | [], _ => none
  | .arrc e ds :: r, o => if o = 0 then some (e, ds) else if ds.length * e.size ≤ o then arrAt r (o - ds.length * e.size) else none
  | _ :: _, 0 => none
  | _ :: r, o + 1 => arrAt r o
/-- A row of so many cells, and what is behind. -/
def takeC : Nat → List SV → Option (List SV × List SV)
  | 0, l => some ([], l)
  | _ + 1, [] => none
  | n + 1, .arrc e ds :: r => if ds.length * e.size ≤ n + 1 ∧ 0 < ds.length * e.size then match takeC (n + 1 - ds.length * e.size) r with | some (a, b) => some (.arrc e ds :: a, b) | none => none else none
  | n + 1, x :: r => match takeC n r with | some (a, b) => some (x :: a, b) | none => none
  termination_by n => n
  decreasing_by all_goals first | omega | (simp_wf; omega)
/-- A cell of a row is another one. -/
def setCellAt : List SV → Nat → SV → Option (List SV)
  | [], _, _ => none
  | .arrc e ds :: r, o, y => if ds.length * e.size ≤ o then (setCellAt r (o - ds.length * e.size) y).map (.arrc e ds :: ·) else none
  | _ :: r, 0, y => some (y :: r)
  | x :: r, o + 1, y => (setCellAt r o y).map (x :: ·)
/-- An array of a row has another element. -/
def setArrAt : List SV → Nat → Nat → D → Option (List SV)
  | [], _, _, _ => none
  | .arrc e ds :: r, o, i, d => if o = 0 then some (.arrc e (ds.set i d) :: r) else if ds.length * e.size ≤ o then (setArrAt r (o - ds.length * e.size) i d).map (.arrc e ds :: ·) else none
  | _ :: _, 0, _, _ => none
  | x :: r, o + 1, i, d => (setArrAt r o i d).map (x :: ·)

/-- What is read of a datum. -/
def ldSV : Ty → D → SV
  | .int k, d => .int k d.i
  | .bool, d => .bool d.b
  | .str, d => .str d.s
  | .strct ts, d => .agg (explode (.strct ts) d)
  | .arr n e, d => .agg (explode (.arr n e) d)
  | .slice e, d => .dat (.slice e) d
  | .ptr e, d => .dat (.ptr e) d
  | .iface, d => .dat .iface d
  | .fn, d => .dat .fn d
  | .map k v, d => .dat (.map k v) d
  | .other, d => .dat .other d

def isAgg : Ty → Bool
  | .strct _ | .arr _ _ => true
  | _ => false

def arI (op : BinOp) (x y : Int) : Int := match op with | .add => x + y | .sub => x - y | _ => x * y
def isAr (op : BinOp) : Prop := match op with | .add | .sub | .mul => True | _ => False
def bitI (op : BinOp) (k : IntKind) (x y : Int) : Int :=
  let a := BitVec.ofInt k.bits x
  let b := BitVec.ofInt k.bits y
  match op with
  | .and => k.wrap (a &&& b).toNat
  | .or => k.wrap (a ||| b).toNat
  | .xor => k.wrap (a ^^^ b).toNat
  | _ => k.wrap (a &&& ~~~b).toNat
def cmpB (op : BinOp) (x y : Int) : Bool := match op with
  | .eql => x == y
  | .neq => x != y
  | .lss => decide (x < y)
  | .leq => decide (x ≤ y)
  | .gtr => decide (y < x)
  | _ => decide (y ≤ x)

abbrev Out := Option (Prop × SSt)

/-- On whole numbers. -/
def evBin (op : BinOp) (k : IntKind) (x y : SV) : Option (Prop × SV) :=
  match x, y with
  | .int k1 a, .int k2 b =>
    if k1 = k ∧ k2 = k then
      match op with
      | .add => some (k.min ≤ a + b ∧ a + b ≤ k.max, .int k (a + b))
      | .sub => some (k.min ≤ a - b ∧ a - b ≤ k.max, .int k (a - b))
      | .mul => some (k.min ≤ a * b ∧ a * b ≤ k.max, .int k (a * b))
      | .quo => some (b ≠ 0 ∧ k.min ≤ a.tdiv b ∧ a.tdiv b ≤ k.max, .int k (a.tdiv b))
      | .rem => some (b ≠ 0, .int k (a.tmod b))
      | .and => some (True, .int k (bitI .and k a b))
      | .or => some (True, .int k (bitI .or k a b))
      | .xor => some (True, .int k (bitI .xor k a b))
      | .andNot => some (True, .int k (bitI .andNot k a b))
      | _ => none
    else none
  | _, _ => none
def evWrp (op : BinOp) (k : IntKind) (x y : SV) : Option (Prop × SV) :=
  match x, y with
  | .int k1 a, .int k2 b =>
    if k1 = k ∧ k2 = k then
      match op with
      | .add => some (True, .int k (k.wrap (a + b)))
      | .sub => some (True, .int k (k.wrap (a - b)))
      | .mul => some (True, .int k (k.wrap (a * b)))
      | _ => none
    else none
  | _, _ => none
def evShf (op : BinOp) (k : IntKind) (x y : SV) : Option (Prop × SV) :=
  match x, y with
  | .int k1 a, .int _ b =>
    if k1 = k then
      match op with
      | .shl => some (0 ≤ b, .int k (k.wrap (a * 2 ^ min b.toNat k.bits)))
      | .shr => some (0 ≤ b, .int k (a.fdiv (2 ^ min b.toNat k.bits)))
      | _ => none
    else none
  | _, _ => none
def evCmp (op : BinOp) (x y : SV) : Option (Prop × SV) :=
  match x, y with
  | .int k1 a, .int k2 b =>
    if k1 = k2 then
      match op with
      | .eql => some (True, .bool (a == b))
      | .neq => some (True, .bool (a != b))
      | .lss => some (True, .bool (decide (a < b)))
      | .leq => some (True, .bool (decide (a ≤ b)))
      | .gtr => some (True, .bool (decide (b < a)))
      | .geq => some (True, .bool (decide (b ≤ a)))
      | _ => none
    else none
  | _, _ => none
def evUna (op : UnOp) (x : SV) : Option (Prop × SV) :=
  match op, x with
  | .neg, .int k n => some (True, .int k (k.wrap (0 - n)))
  | .xor, .int k n => some (True, .int k (bitI .xor k (if k.signed then -1 else k.max) n))
  | .not, .bool b => some (True, .bool (!b))
  | _, _ => none
/-- Is it nothing? (An interface value, a pointer, a slice.) -/
def evNil (kind : Nat) (x : SV) : Option Bool :=
  match kind, x with
  | 0, .dat .iface d => some d.isNil
  | 0, .ifc _ _ => some false
  | 1, .dat (.ptr _) d => some d.isNil
  | 1, .ptr _ _ => some false
  | 1, .elt _ _ => some false
  | 1, .raw (.pointer none) => some true
  | 2, .nils => some true
  | _, _ => none
def evBeq (x y : SV) : Option Bool :=
  match x, y with
  | .bool a, .bool b => some (a == b)
  | _, _ => none
def evLd (t : Ty) (x : SV) (h : Heap) : Option (Prop × SV) :=
  match x with
  | .elt t' d => some (t' = t, ldSV t d)
  | .ptr n off =>
    match hget h n with
    | some (.cells l) =>
      if isAgg t then
        match takeC off l with
        | some (_, r) => match takeC t.size r with
          | some (a, _) => some (True, .agg a)
          | none => none
        | none => none
      else match cellAt l off with
        | some v => some (True, v)
        | none => none
    | _ => none
  | .eltv n i sz off =>
    match hget h n with
    | some (.arr _ e l) =>
      if isAgg t = isAgg e then some (0 ≤ i ∧ i < l.length ∧ t = e ∧ off = 0 ∧ sz = e.size, ldSV e (l.getD i.toNat .nil))
      else
        match cellAt (explode e (l.getD i.toNat .nil)) off with
        | some v => some (0 ≤ i ∧ i < l.length ∧ isAgg t = false ∧ sz = e.size, v)
        | none => none
    | _ => none
  | .eltc n off e i =>
    match hget h n with
    | some (.cells l) =>
      match arrAt l off with
      | some (e', ds) => some (0 ≤ i ∧ i < ds.length ∧ e' = e ∧ t = e, ldSV e (ds.getD i.toNat .nil))
      | none => none
    | _ => none
  | _ => none
/-- A value of one cell. -/
def SV.one : SV → Bool
  | .agg _ | .tup _ | .any | .arrc _ _ => false
  | _ => true
def SV.okc : SV → Bool
  | .tup _ | .any | .arrc _ _ => false
  | _ => true
def svCells (x : SV) : List SV := match x with | .agg m => m | x => [x]
def lenC : List SV → Nat
  | [] => 0
  | .arrc e ds :: r => ds.length * e.size + lenC r
  | _ :: r => lenC r + 1
def evSt (t : Ty) (a x : SV) (h : Heap) : Option (Prop × Heap) :=
  match a with
  | .ptr n off =>
    match hget h n with
    | some (.cells l) =>
      match x with
      | .agg m =>
        match takeC off l with
        | some (a, r) => match takeC t.size r with
          | some (_, r') => some (lenC m = t.size, hset h n (.cells (a ++ (m ++ r'))))
          | none => none
        | none => none
      | x => match setCellAt l off x with
        | some l' => some (x.one = true ∧ isAgg t = false, hset h n (.cells l'))
        | none => none
    | _ => none
  | .eltv n i sz off =>
    match hget h n with
    | some (.arr eid e l) =>
      match toD e (svCells x) with
      | some (d, []) => some (0 ≤ i ∧ i < l.length ∧ t = e ∧ off = 0 ∧ sz = e.size ∧ x.okc = true, hset h n (.arr eid e (l.set i.toNat d)))
      | _ => match setCellAt (explode e (l.getD i.toNat .nil)) off x with
        | some m => match toD e m with
          | some (d, []) => some (0 ≤ i ∧ i < l.length ∧ isAgg t = false ∧ sz = e.size ∧ x.one = true, hset h n (.arr eid e (l.set i.toNat d)))
          | _ => none
        | none => none
    | _ => none
  | .eltc n off e i =>
    match hget h n with
    | some (.cells l) =>
      match arrAt l off, toD e (svCells x) with
      | some (e', ds), some (d, []) => match setArrAt l off i.toNat d with
        | some l' => some (0 ≤ i ∧ i < ds.length ∧ e' = e ∧ t = e ∧ x.okc = true, hset h n (.cells l'))
        | none => none
      | _, _ => none
    | _ => none
  | _ => none
def evFad (k off : Nat) (t : Ty) (sid : TypeId) (x : SV) : Option (Prop × SV) :=
  match x with
  | .elt (.strct ts) d => some (ts[k]? = some t ∧ Ty.sizeL (ts.take k) = off, .elt t (d.fld k))
  | .ptr n o => some (True, .ptr n (o + off))
  | .eltv n i s o => some (True, .eltv n i s (o + off))
  | .dat (.ptr e) d => some (e = sid ∧ d.isNil = false, .elt t (d.tgt.fld k))
  | _ => none
def evIad (eid : TypeId) (e : Ty) (x i : SV) (h : Heap) : Option (Prop × SV) :=
  match x, i with
  | .dat (.slice eid') d, .int _ i => some (eid' = eid ∧ 0 ≤ i ∧ i < d.l.length, .elt e (d.l.getD i.toNat .nil))
  | .vec n, .int _ i =>
    match hget h n with
    | some (.arr eid' _ l) => some (eid' = eid ∧ 0 ≤ i ∧ i < l.length, .eltv n i e.size 0)
    | _ => none
  | _, _ => none
def evAad (n : Nat) (e : Ty) (x i : SV) : Option (Prop × SV) :=
  match x, i with
  | .ptr m off, .int _ i => some (0 ≤ i ∧ i < n, .eltc m off e i)
  | _, _ => none
def evLen (x : SV) (h : Heap) : Option (Prop × SV) :=
  match x with
  | .dat (.slice _) d => some (True, .int .i64 d.l.length)
  | .vec n => match hget h n with
    | some (.arr _ _ l) => some (True, .int .i64 l.length)
    | _ => none
  | .nils => some (True, .int .i64 0)
  | _ => none
def evSln (x : SV) : Option (Prop × SV) :=
  match x with
  | .str s => some (True, .int .i64 s.size)
  | _ => none
/-- The elements of a slice. -/
def evEls (eid : TypeId) (x : SV) (h : Heap) : Option (List D) :=
  match x with
  | .dat (.slice eid') d => if eid' = eid then some d.l else none
  | .vec n => match hget h n with
    | some (.arr eid' _ l) => if eid' = eid then some l else none
    | _ => none
  | .nils => some []
  | _ => none
def evApp (eid : TypeId) (e : Ty) (bytes : Nat) (x y : SV) (h : Heap) (nx : Nat) : Option (Prop × SV × Heap) :=
  match evEls eid y h with
  | none => none
  | some ys =>
    match x with
    | .nils => some (ys.length * bytes ≤ 140737488355328, .vec nx, (nx, .arr eid e ys) :: h)
    | .vec n => match hget h n with
      | some (.arr eid' e' xs) => if eid' = eid then some (e' = e ∧ (xs.length + ys.length) * bytes ≤ 140737488355328, .vec nx, (nx, .arr eid e (xs ++ ys)) :: hdel h n) else none
      | _ => none
    | _ => none
def evParts (e : Ty) : List SV → Option (List D)
  | [] => some []
  | x :: r => match toD e (svCells x), evParts e r with
    | some (d, []), some ds => if x.okc then some (d :: ds) else none
    | _, _ => none
def evSlc (eid : TypeId) (x : SV) (lo hi : Option SV) : Option (Prop × SV) :=
  match x, lo, hi with
  | .dat (.slice eid') d, none, some (.int _ b) => some (eid' = eid ∧ 0 ≤ b ∧ b ≤ d.l.length, .dat (.slice eid) (.list (d.l.take b.toNat)))
  | .dat (.slice eid') d, some (.int _ a), none => some (eid' = eid ∧ 0 ≤ a ∧ a ≤ d.l.length, .dat (.slice eid) (.list (d.l.drop a.toNat)))
  | .dat (.slice eid') d, some (.int _ a), some (.int _ b) => some (eid' = eid ∧ 0 ≤ a ∧ a ≤ b ∧ b ≤ d.l.length, .dat (.slice eid) (.list ((d.l.take b.toNat).drop a.toNat)))
  | .dat (.slice eid') d, none, none => some (eid' = eid, .dat (.slice eid) d)
  | .nils, none, none => some (True, .nils)
  | _, _, _ => none
def evNlc (x : SV) : Option (Prop × SV) :=
  match x with
  | .dat (.ptr e) d => some (d.isNil = false, .dat (.ptr e) d)
  | .elt t d => some (True, .elt t d)
  | .ptr n o => some (True, .ptr n o)
  | .eltv n i s o => some (True, .eltv n i s o)
  | .eltc n o e i => some (True, .eltc n o e i)
  | _ => none

def evMif (t : TypeId) (ty : Ty) (x : SV) : Option (Prop × SV) :=
  match x with
  | .dat ty' dd => some (ty' = ty, .dat .iface (.ifc t dd))
  | .ptr n o => some (True, .ifc t (.ptr n o))
  | _ => none
def evMm (mx : Bool) : SV → List SV → Option SV
  | x, [] => some x
  | .int k a, .int k' b :: r => if k' = k then evMm mx (.int k (if mx then max a b else min a b)) r else none
  | _, _ => none
def evPck (c x y : SV) : Option (Prop × SV) :=
  match c with
  | .bool true => some (True, x)
  | .bool false => some (True, y)
  | _ => none

/-- A part of a struct. -/
def evFld (off sz : Nat) (ag : Bool) (x : SV) : Option (Prop × SV) :=
  match x with
  | .agg l => match ag with
    | true => match takeC off l with
      | some (_, r) => match takeC sz r with
        | some (a, _) => some (True, .agg a)
        | none => none
      | none => none
    | false => match cellAt l off with
      | some v => some (True, v)
      | none => none
  | _ => none
/-- A struct out of its parts: what each field is if nothing is said, what is said. -/
def evBld (f : Fr) : List (List SV) → List (Nat × Opd) → Option (Prop × List SV)
  | zs, [] => some (True, zs.flatten)
  | zs, (i, x) :: r => match evBld f (zs.set i (svCells (oget x f))) r with
    | some (p, l) => some ((lenC (svCells (oget x f)) = lenC (zs.getD i []) ∧ (oget x f).okc = true ∧ i < zs.length) ∧ p, l)
    | none => none
/-- Is an interface value one of this pointer type? -/
def evTas (et t e : TypeId) (x : SV) : Option (Prop × SV) :=
  match x with
  | .dat .iface .nil => some (True, .tup [.dat (.ptr e) .nil, .bool false])
  | .dat .iface (.err _) => some (et ≠ t, .tup [.dat (.ptr e) .nil, .bool false])
  | .dat .iface (.ifc t' d) => if t' = t then some (True, .tup [.dat (.ptr e) d, .bool true]) else some (True, .tup [.dat (.ptr e) .nil, .bool false])
  | .ifc t' x => if t' = t then some (True, .tup [x, .bool true]) else some (True, .tup [.dat (.ptr e) .nil, .bool false])
  | _ => none
/-- Two interface values: both known ones. -/
def evIfq (et : TypeId) (es : List Nat) (x y : SV) : Option (Prop × Bool) :=
  match x, y with
  | .dat .iface .nil, .dat .iface (.err _) => some (True, false)
  | .dat .iface (.err _), .dat .iface .nil => some (True, false)
  | .dat .iface (.err j), .dat .iface (.err k) => some (j ∈ es ∧ k ∈ es, j == k)
  | .dat .iface (.err _), .dat .iface (.ifc t _) => some (t ≠ et, false)
  | .dat .iface (.ifc t _), .dat .iface (.err _) => some (t ≠ et, false)
  | _, _ => none

/-- A slice of which it is not known whether it is nil: what it then has to be, and what makes it so. -/
def evNlq (x : SV) (h : Heap) : Option (Prop × Prop) :=
  match x with
  | .nils => some (True, True)
  | .dat (.slice _) d => some (d.l = [], False)
  | .vec n => match hget h n with
    | some (.arr _ _ l) => some (l = [], False)
    | _ => none
  | _ => none

/-- A box that does not change. -/
def evBxf (t : Ty) (pe : Option TypeId) (x : SV) : Option (Prop × SV) :=
  match toD t (svCells x) with
  | some (dd, []) => some (x.okc = true, match pe with
    | none => .elt t dd
    | some e => .dat (.ptr e) (.ptr dd))
  | _ => none

/-- Two strings. -/
def evSeq (x y : SV) : Option (Prop × Bool) :=
  match x, y with
  | .str a, .str b => some (True, a.toList == b.toList)
  | _, _ => none
/-- Two strings, one behind the other. -/
def evCat (x y : SV) : Option (Prop × SV) :=
  match x, y with
  | .str a, .str b => some (a.size + b.size ≤ maxLen, .str (a ++ b))
  | _, _ => none
/-- Two rows of whole numbers. -/
def evAgl : List SV → List SV → Option Bool
  | [], [] => some true
  | .int k a :: l, .int k' b :: m => if k = k' then match evAgl l m with
    | some r => some (a == b && r)
    | none => none else none
  | _, _ => none
def evAgq (n : Nat) (x y : SV) : Option (Prop × Bool) :=
  match x, y with
  | .agg l, .agg m => match evAgl l m with
    | some r => some (l.length = n, r)
    | none => none
  | _, _ => none
/-- A slice that is written out, and does not change. -/
def evBsf (eid : TypeId) (e : Ty) (xs : List SV) : Option (Prop × SV) :=
  match evParts e xs with
  | some ds => some (ds ≠ [], .dat (.slice eid) (.list ds))
  | none => none
/-- What may be cut to nothing. -/
def evSl0 (eid : TypeId) (x : SV) (h : Heap) : Option Prop :=
  match x with
  | .dat (.slice eid') _ => some (eid' = eid)
  | .vec n => match hget h n with
    | some (.arr _ _ _) => some True
    | _ => none
  | .nils => some True
  | _ => none

/-! Maps by whole numbers. -/
def mEmpty : Int → Option D := fun _ => none
def mSet (f : Int → Option D) (i : Int) (d : D) : Int → Option D := fun j => if j = i then some d else f j
def mDel (f : Int → Option D) (i : Int) : Int → Option D := fun j => if j = i then none else f j
def mGet (f : Int → Option D) (z : D) (i : Int) : D := (f i).getD z
def evLkp (kt vt : TypeId) (k : IntKind) (t : Ty) (z : D) (ok : Bool) (x i : SV) (h : Heap) : Option (Prop × SV) :=
  match x, i with
  | .vec n, .int k' a => match hget h n with
    | some (.map kt' vt' f) => match ok with
      | true => some (kt' = kt ∧ vt' = vt ∧ k' = k, .tup [ldSV t (mGet f z a), .bool (f a).isSome])
      | false => some (kt' = kt ∧ vt' = vt ∧ k' = k, ldSV t (mGet f z a))
    | _ => none
  | _, _ => none
def evMupD (t : Ty) (v : SV) : Option (Prop × D) := match v with
  | .agg m => match toD t m with
    | some (d, []) => some (isAgg t = true, d)
    | _ => none
  | v => match toD t [v] with
    | some (d, []) => some (v.one = true ∧ isAgg t = false, d)
    | _ => none
def evMup (kt vt : TypeId) (k : IntKind) (t : Ty) (x i v : SV) (h : Heap) : Option (Prop × Heap) :=
  match x, i with
  | .vec n, .int k' a => match hget h n with
    | some (.map kt' vt' f) => match evMupD t v with
      | some (p, d) => some (p ∧ kt' = kt ∧ vt' = vt ∧ k' = k, hset h n (.map kt vt (mSet f a d)))
      | none => none
    | _ => none
  | _, _ => none
def evMdl (kt vt : TypeId) (k : IntKind) (x i : SV) (h : Heap) : Option (Prop × Heap) :=
  match x, i with
  | .vec n, .int k' a => match hget h n with
    | some (.map kt' vt' f) => some (kt' = kt ∧ vt' = vt ∧ k' = k, hset h n (.map kt vt (mDel f a)))
    | _ => none
  | _, _ => none

def sput (S : SSt) (d : Nat) : Option (Prop × SV) → Out
  | some (p, v) => some (p, S.put d v)
  | none => none

def Fr.sub (n : Nat) (y : SV) : Fr → Fr
  | [] => []
  | (i, x) :: r => (i, SV.sub n y x) :: Fr.sub n y r
def Tok.sub (n : Nat) (y : SV) : Tok → Tok
  | .cells l => .cells (SV.subL n y l)
  | .arr i e l => .arr i e l
  | .map k v f => .map k v f
def Heap.sub (n : Nat) (y : SV) : Heap → Heap
  | [] => []
  | (m, t) :: r => (m, Tok.sub n y t) :: Heap.sub n y r

def frz1 (n : Nat) (S : SSt) : SSt :=
  match hget S.h n with
  | some (.arr eid _ l) => { f := Fr.sub n (.dat (.slice eid) (.list l)) S.f, h := Heap.sub n (.dat (.slice eid) (.list l)) (hdel S.h n), nx := S.nx }
  | _ => S
def frzL : List SV → SSt → SSt
  | [], S => S
  | .vec n :: r, S => frzL r (frz1 n S)
  | _ :: r, S => frzL r S

/-- A slice of the function's own, of which a part is taken, no longer changes. -/
def preF (v : SV) (S : SSt) : SSt := match v with
  | .vec n => frz1 n S
  | _ => S
/-- What an interface value points to no longer changes. -/
def frzP (n : Nat) (y : SV) (S : SSt) : SSt := { f := Fr.sub n y S.f, h := Heap.sub n y (hdel S.h n), nx := S.nx }
def prePd (n : Nat) (ty : Ty) (r : Option (D × List SV)) (S : SSt) : SSt := match r with
  | some (dd, []) => frzP n (.dat ty (.ptr dd)) S
  | _ => S
def prePt (n : Nat) (ty e : Ty) (t : Option Tok) (S : SSt) : SSt := match t with
  | some (.cells l) => prePd n ty (toD e l) S
  | _ => S
def preP (ty e : Ty) (v : SV) (S : SSt) : SSt := match v with
  | .ptr n 0 => prePt n ty e (hget S.h n) S
  | _ => S

def ev (o : IOp) (S : SSt) : Out :=
  match o with
  | .mov d x => some (True, S.put d (oget x S.f))
  | .bin d op k x y => sput S d (evBin op k (oget x S.f) (oget y S.f))
  | .wrp d op k x y => sput S d (evWrp op k (oget x S.f) (oget y S.f))
  | .shf d op k x y => sput S d (evShf op k (oget x S.f) (oget y S.f))
  | .cmp d op x y => sput S d (evCmp op (oget x S.f) (oget y S.f))
  | .eqb d neg k x => match evNil k (oget x S.f) with
    | some b => some (True, S.put d (.bool (if neg then !b else b)))
    | none => none
  | .beq d neg x y => match evBeq (oget x S.f) (oget y S.f) with
    | some b => some (True, S.put d (.bool (if neg then !b else b)))
    | none => none
  | .una d op x => sput S d (evUna op (oget x S.f))
  | .cnv d k x => match oget x S.f with
    | .int _ n => some (True, S.put d (.int k (k.wrap n)))
    | _ => none
  | .gld d g => some (True, S.put d (.dat .iface (.err g)))
  | .alc d z => some (True, { f := (d, .ptr S.nx 0) :: S.f, h := (S.nx, .cells z) :: S.h, nx := S.nx + 1 })
  | .box d _ x => match oget x S.f with
    | .agg l => some (True, { f := (d, .ptr S.nx 0) :: S.f, h := (S.nx, .cells l) :: S.h, nx := S.nx + 1 })
    | y => some (y.one = true, { f := (d, .ptr S.nx 0) :: S.f, h := (S.nx, .cells [y]) :: S.h, nx := S.nx + 1 })
  | .ld d t x => sput S d (evLd t (oget x S.f) S.h)
  | .st t a x => match evSt t (oget a S.f) (oget x S.f) S.h with
    | some (p, h) => some (p, { f := S.f, h := h, nx := S.nx })
    | none => none
  | .fad d k off t sid x => sput S d (evFad k off t sid (oget x S.f))
  | .iad d eid e x i => sput S d (evIad eid e (oget x S.f) (oget i S.f) S.h)
  | .aad d n e x i => sput S d (evAad n e (oget x S.f) (oget i S.f))
  | .len d str x => sput S d (if str then evSln (oget x S.f) else evLen (oget x S.f) S.h)
  | .app d eid e by_ x y => match evApp eid e by_ (oget x S.f) (oget y S.f) S.h S.nx with
    | some (p, v, h) => some (p, { f := (d, v) :: S.f, h := h, nx := S.nx + 1 })
    | none => none
  | .mk d eid e by_ z l c => match oget l S.f, oget c S.f with
    | .int _ l, .int _ c => some (0 ≤ l ∧ l ≤ c ∧ c * by_ ≤ 140737488355328, { f := (d, .vec S.nx) :: S.f, h := (S.nx, .arr eid e (List.replicate l.toNat z)) :: S.h, nx := S.nx + 1 })
    | _, _ => none
  | .bsl d eid e xs => match evParts e (ogets xs S.f) with
    | some ds => some (True, { f := (d, .vec S.nx) :: S.f, h := (S.nx, .arr eid e ds) :: S.h, nx := S.nx + 1 })
    | none => none
  | .slc d eid x lo hi => sput S d (evSlc eid (oget x S.f) (lo.map (oget · S.f)) (hi.map (oget · S.f)))
  | .nlc d x => sput S d (evNlc (oget x S.f))
  | .nlq _ _ _ => none
  | .ext d i x => match oget x S.f with
    | .tup l => match l[i]? with
      | some y => some (True, S.put d y)
      | none => none
    | _ => none
  | .mif d t ty _ x => sput S d (evMif t ty (oget x S.f))
  | .pck d c x y => sput S d (evPck (oget c S.f) (oget x S.f) (oget y S.f))
  | .cvs d x => match oget x S.f with
    | .vec n => match hget S.h n with
      | some (.arr eid _ l) => some (l ≠ [], (frz1 n S).put d (.dat (.slice eid) (.list l)))
      | _ => none
    | _ => none
  | .mmx d mx xs => match ogets xs S.f with
    | .int k a :: r => match evMm mx (.int k a) r with
      | some v => some (True, S.put d v)
      | none => none
    | _ => none
  | .fld d off sz ag x => sput S d (evFld off sz ag (oget x S.f))
  | .bld d zs ps => match evBld S.f zs ps with
    | some (p, l) => some (p, S.put d (.agg l))
    | none => none
  | .tas d et t e x => sput S d (evTas et t e (oget x S.f))
  | .ifq d neg et es x y => match evIfq et es (oget x S.f) (oget y S.f) with
    | some (p, b) => some (p, S.put d (.bool (if neg then !b else b)))
    | none => none
  | .seq d neg x y => match evSeq (oget x S.f) (oget y S.f) with
    | some (p, b) => some (p, S.put d (.bool (if neg then !b else b)))
    | none => none
  | .cat d x y => sput S d (evCat (oget x S.f) (oget y S.f))
  | .agq d neg n x y => match evAgq n (oget x S.f) (oget y S.f) with
    | some (p, b) => some (p, S.put d (.bool (if neg then !b else b)))
    | none => none
  | .bsf d eid e xs => sput S d (evBsf eid e (ogets xs S.f))
  | .bxf d t pe x => sput S d (evBxf t pe (oget x S.f))
  | .clo d f caps => some (True, S.put d (.clo f (ogets caps S.f)))
  | .sl0 d eid e x => match evSl0 eid (oget x S.f) S.h with
    | some p => some (p, { f := (d, .vec S.nx) :: S.f, h := (S.nx, .arr eid e []) :: S.h, nx := S.nx + 1 })
    | none => none
  | .mkm d kt vt => some (True, { f := (d, .vec S.nx) :: S.f, h := (S.nx, .map kt vt mEmpty) :: S.h, nx := S.nx + 1 })
  | .lkp d kt vt k t z ok x i => sput S d (evLkp kt vt k t z ok (oget x S.f) (oget i S.f) S.h)
  | .mup kt vt k t x i v => match evMup kt vt k t (oget x S.f) (oget i S.f) (oget v S.f) S.h with
    | some (p, h) => some (p, { f := S.f, h := h, nx := S.nx })
    | none => none
  | .mdl d kt vt k x i => match evMdl kt vt k (oget x S.f) (oget i S.f) S.h with
    | some (p, h) => some (p, { f := (d, .tup []) :: S.f, h := h, nx := S.nx })
    | none => none
  | .mdn kt vt k x i => match evMdl kt vt k (oget x S.f) (oget i S.f) S.h with
    | some (p, h) => some (p, { f := S.f, h := h, nx := S.nx })
    | none => none
  | .call .. => none
end Go.Fw

/- The frame-work, part G: the machine does what 'ev' says: operations on values. -/
namespace Go.Fw
set_option linter.unusedVariables false
set_option linter.unusedSimpArgs false
open Go

section
variable {P : Program} {E : Nat → Value}

theorem wrap_range (k : IntKind) (n : Int) : k.min ≤ k.wrap n ∧ k.wrap n ≤ k.max := by
  cases k <;> simp only [IntKind.min, IntKind.max, IntKind.wrap, IntKind.signed, IntKind.bits] <;> simp <;> (try split) <;> omega
theorem wrap_self (k : IntKind) {n : Int} (h : k.min ≤ n ∧ n ≤ k.max) : k.wrap n = n := by
  obtain ⟨h1, h2⟩ := h
  cases k <;> simp only [IntKind.min, IntKind.max, IntKind.wrap, IntKind.signed, IntKind.bits] at h1 h2 ⊢ <;> simp at h1 h2 ⊢ <;> (try split) <;> omega
theorem bitI_range (op : BinOp) (k : IntKind) (x y : Int) : k.min ≤ bitI op k x y ∧ bitI op k x y ≤ k.max := by
  unfold bitI
  split <;> exact wrap_range _ _

theorem min_le_zero (k : IntKind) : k.min ≤ 0 := by cases k <;> simp [IntKind.min, IntKind.signed, IntKind.bits]
theorem tmod_range (k : IntKind) {a : Int} (h : k.min ≤ a ∧ a ≤ k.max) (b : Int) : k.min ≤ a.tmod b ∧ a.tmod b ≤ k.max := by
  have h1 := Int.natAbs_tmod a b
  have h2 := Nat.mod_le a.natAbs b.natAbs
  have h3 := min_le_zero k
  have h0 : 0 ≤ k.max := by cases k <;> simp [IntKind.max, IntKind.signed, IntKind.bits]
  rcases Int.le_total 0 a with ha | ha
  · have := Int.tmod_nonneg b ha
    omega
  · have := Int.tmod_nonneg b (a := -a) (by omega)
    rw [Int.neg_tmod] at this
    omega
theorem fdiv_range (k : IntKind) {a : Int} (h : k.min ≤ a ∧ a ≤ k.max) (n : Nat) : k.min ≤ a.fdiv (2 ^ n) ∧ a.fdiv (2 ^ n) ≤ k.max := by
  have hp : (0 : Int) < 2 ^ n := by exact_mod_cast Nat.two_pow_pos n
  have h3 := min_le_zero k
  have h0 : 0 ≤ k.max := by cases k <;> simp [IntKind.max, IntKind.signed, IntKind.bits]
  rw [Int.fdiv_eq_ediv_of_nonneg _ (by omega)]
  rcases Int.le_total 0 a with ha | ha
  · have h1 := Int.ediv_nonneg ha (by omega : (0 : Int) ≤ 2 ^ n)
    have h2 := Int.ediv_le_self (2 ^ n) ha
    omega
  · have h1 : a ≤ a / 2 ^ n := by
      refine (Int.le_ediv_iff_mul_le hp).2 ?_
      have : a * 2 ^ n ≤ a * 1 := Int.mul_le_mul_of_nonpos_left ha (by omega)
      omega
    have h2 : a / 2 ^ n ≤ 0 := by
      have := Int.ediv_le_ediv hp ha
      simpa using this
    omega

def constSV : Value → Option SV
  | .int k n => if k.min ≤ n ∧ n ≤ k.max then some (.int k n) else none
  | .bool b => some (.bool b)
  | .string s => if s.size ≤ 65536 then some (.str s) else none
  | .nilIface => some (.dat .iface .nil)
  | .slice none 0 0 => some .nils
  | .pointer none => some (.raw (.pointer none))
  | .nilFunc => some (.raw .nilFunc)
  | _ => none
theorem constSV_den {v : Value} {x : SV} (h : constSV v = some x) (ρ : Nat → Value) (H : FH) : Den P E ρ H x v ∧ ∀ n, x.lt n := by
  unfold constSV at h
  split at h
  · split at h
    · cases h; exact ⟨.int ‹_›, fun _ => trivial⟩
    · cases h
  · cases h; exact ⟨.bool, fun _ => trivial⟩
  · split at h
    · cases h; exact ⟨.str (by unfold maxLen; omega), fun _ => trivial⟩
    · cases h
  · cases h; exact ⟨.dat rfl .inil, fun _ => trivial⟩
  · cases h; exact ⟨.nils, fun _ => trivial⟩
  · cases h; exact ⟨.raw rfl, fun _ => trivial⟩
  · cases h; exact ⟨.raw rfl, fun _ => trivial⟩
  · cases h

def cOpd : Operand → Option Opd
  | .tmp n => some (.s n)
  | .const v => (constSV v).map .c
  | .func f => some (.c (.clo f []))
  | .global _ => none

theorem Sat.opd {c : Ctx} {ρ : Nat → Value} {H : FH} {S : SSt} {a : Act} {w : World} (s : Sat P E c ρ H S a w) {x : Operand} {x' : Opd} (h : cOpd x = some x') : Den P E ρ H (oget x' S.f) (a.eval x) ∧ (oget x' S.f).lt S.nx := by
  cases x with
  | tmp n => simp only [cOpd] at h; cases h; exact ⟨s.fr n, s.flt n⟩
  | const v =>
    simp only [cOpd, Option.map_eq_some_iff] at h
    obtain ⟨y, h1, rfl⟩ := h
    have := constSV_den (P := P) (E := E) h1 ρ H
    exact ⟨this.1, this.2 _⟩
  | func f => simp only [cOpd] at h; cases h; exact ⟨.clo .nil, trivial⟩
  | global g => simp [cOpd] at h

/-- One operation that hands back a value. -/
theorem wp_value {o : Oper} {a : Act} {w w' : World} {v : Value} {d : Nat} {K : Act → World → Prop} {Q : Exit → Act → World → Prop} (h : (execOp a.eval o).run P w = .ok (.value v) w') (hd : o.dst = some d) (hK : K (a.put (some d) v) w') : o.wp P a w K Q := by
  simp only [Oper.wp, h, Oper.upon, hd]
  exact hK
theorem wp_skipped {o : Oper} {a : Act} {w w' : World} {K : Act → World → Prop} {Q : Exit → Act → World → Prop} (h : (execOp a.eval o).run P w = .ok .skip w') (hd : o.dst = none) (hK : K a w') : o.wp P a w K Q := by
  simp only [Oper.wp, h, Oper.upon, hd]
  exact hK

theorem run_mov (a : Act) (o : Oper) (x : Operand) (w : World) (ho : o.op = .move x ∨ o.op = .assign x) : (execOp a.eval o).run P w = .ok (.value (a.eval x)) w := by
  rcases ho with ho | ho <;> simp [execOp, ho, Sem.run, pure]

theorem run_v (s : Sem Value) (w w' : World) (v : Value) (h : s.run P w = .ok v w') : (do pure (Next.value (← s)) : Sem Next).run P w = .ok (.value v) w' := by
  simp [Sem.run_bind, h, Sem.run, pure]

theorem run_bin {op : BinOp} {k : IntKind} {x y : SV} {p : Prop} {v : SV} (h : evBin op k x y = some (p, v)) (hp : p) {ρ : Nat → Value} {H : FH} {vx vy : Value} (hx : Den P E ρ H x vx) (hy : Den P E ρ H y vy) (t : TypeId) (w : World) :
    ∃ u, (binOp op t vx vy).run P w = .ok u w ∧ Den P E ρ H v u ∧ (∀ n, v.lt n) ∧ (∃ k n, vx = .int k n) := by
  unfold evBin at h
  split at h
  · rename_i k1 a k2 b
    split at h
    · rename_i hk; obtain ⟨rfl, rfl⟩ := hk
      cases hx with | int h1 => cases hy with | int h2 =>
      split at h <;> cases h
      · exact ⟨_, by simp [binOp, Op.intArith, Sem.run, pure, wrap_self _ hp], .int hp, fun _ => trivial, _, _, rfl⟩
      · exact ⟨_, by simp [binOp, Op.intArith, Sem.run, pure, wrap_self _ hp], .int hp, fun _ => trivial, _, _, rfl⟩
      · exact ⟨_, by simp [binOp, Op.intArith, Sem.run, pure, wrap_self _ hp], .int hp, fun _ => trivial, _, _, rfl⟩
      · exact ⟨_, by simp [binOp, Op.intDiv, Sem.run, pure, hp.1, wrap_self _ hp.2], .int hp.2, fun _ => trivial, _, _, rfl⟩
      · refine ⟨_, by simp [binOp, Op.intDiv, Sem.run, pure, hp], .int ?_, fun _ => trivial, _, _, rfl⟩
        exact tmod_range _ h1 _
      · exact ⟨_, by simp [binOp, Op.intBits, Sem.run, pure, bitI], .int (bitI_range _ _ _ _), fun _ => trivial, _, _, rfl⟩
      · exact ⟨_, by simp [binOp, Op.intBits, Sem.run, pure, bitI], .int (bitI_range _ _ _ _), fun _ => trivial, _, _, rfl⟩
      · exact ⟨_, by simp [binOp, Op.intBits, Sem.run, pure, bitI], .int (bitI_range _ _ _ _), fun _ => trivial, _, _, rfl⟩
      · exact ⟨_, by simp [binOp, Op.intBits, Sem.run, pure, bitI], .int (bitI_range _ _ _ _), fun _ => trivial, _, _, rfl⟩
    · cases h
  · cases h

theorem run_wrp {op : BinOp} {k : IntKind} {x y : SV} {p : Prop} {v : SV} (h : evWrp op k x y = some (p, v)) {ρ : Nat → Value} {H : FH} {vx vy : Value} (hx : Den P E ρ H x vx) (hy : Den P E ρ H y vy) (t : TypeId) (w : World) :
    ∃ u, (binOp op t vx vy).run P w = .ok u w ∧ Den P E ρ H v u ∧ (∀ n, v.lt n) ∧ (∃ k n, vx = .int k n) := by
  unfold evWrp at h
  split at h
  · rename_i k1 a k2 b
    split at h
    · rename_i hk; obtain ⟨rfl, rfl⟩ := hk
      cases hx with | int h1 => cases hy with | int h2 =>
      split at h <;> cases h
      all_goals exact ⟨_, by simp [binOp, Op.intArith, Sem.run, pure], .int (wrap_range _ _), fun _ => trivial, _, _, rfl⟩
    · cases h
  · cases h

theorem run_shf {op : BinOp} {k : IntKind} {x y : SV} {p : Prop} {v : SV} (h : evShf op k x y = some (p, v)) (hp : p) {ρ : Nat → Value} {H : FH} {vx vy : Value} (hx : Den P E ρ H x vx) (hy : Den P E ρ H y vy) (t : TypeId) (w : World) :
    ∃ u, (binOp op t vx vy).run P w = .ok u w ∧ Den P E ρ H v u ∧ (∀ n, v.lt n) ∧ (∃ k n, vx = .int k n) := by
  unfold evShf at h
  split at h
  · rename_i k1 a k2 b
    split at h
    · rename_i hk; subst hk
      cases hx with | int h1 => cases hy with | int h2 =>
      split at h <;> cases h
      · exact ⟨_, by simp [binOp, Op.shift, Sem.run, pure, Int.not_lt.2 hp], .int (wrap_range _ _), fun _ => trivial, _, _, rfl⟩
      · exact ⟨_, by simp [binOp, Op.shift, Sem.run, pure, Int.not_lt.2 hp], .int (fdiv_range _ h1 _), fun _ => trivial, _, _, rfl⟩
    · cases h
  · cases h

theorem run_cmp {op : BinOp} {x y : SV} {p : Prop} {v : SV} (h : evCmp op x y = some (p, v)) {ρ : Nat → Value} {H : FH} {vx vy : Value} (hx : Den P E ρ H x vx) (hy : Den P E ρ H y vy) (t : TypeId) (w : World) :
    ∃ u, (binOp op t vx vy).run P w = .ok u w ∧ Den P E ρ H v u ∧ (∀ n, v.lt n) ∧ (∃ k n, vx = .int k n) := by
  unfold evCmp at h
  split at h
  · rename_i k1 a k2 b
    split at h
    · rename_i hk; subst hk
      cases hx with | int h1 => cases hy with | int h2 =>
      split at h <;> cases h
      all_goals exact ⟨_, by simp [binOp, Op.intCmp, Sem.run, pure] <;> rfl, .bool, fun _ => trivial, _, _, rfl⟩
    · cases h
  · cases h

theorem run_una {op : UnOp} {x : SV} {p : Prop} {v : SV} (h : evUna op x = some (p, v)) {ρ : Nat → Value} {H : FH} {vx : Value} (hx : Den P E ρ H x vx) (w : World) :
    ∃ u, (Op.unary op vx).run P w = .ok u w ∧ Den P E ρ H v u ∧ (∀ n, v.lt n) := by
  unfold evUna at h
  split at h
  · cases h
    cases hx with | int h1 =>
    exact ⟨_, by simp [Op.unary, Op.intArith, Sem.run, pure], .int (wrap_range _ _), fun _ => trivial⟩
  · cases h
    cases hx with | int h1 =>
    exact ⟨_, by simp [Op.unary, Op.intBits, Sem.run, pure, bitI], .int (bitI_range _ _ _ _), fun _ => trivial⟩
  · cases h
    cases hx with | bool =>
    exact ⟨_, by simp [Op.unary, Sem.run, pure], .bool, fun _ => trivial⟩
  · cases h

/-- An operation on two values of which the first is a whole number passes the guard on equality. -/
theorem run_binop_int {a : Act} {o : Oper} {op : BinOp} {t t' : TypeId} {x y : Operand} (ho : o.op = .binOp op t x y t') {w : World} {u : Value} (hi : ∃ k n, a.eval x = .int k n) (h : (binOp op t (a.eval x) (a.eval y)).run P w = .ok u w) :
    (execOp a.eval o).run P w = .ok (.value u) w := by
  obtain ⟨k, n, hi⟩ := hi
  simp only [execOp, ho]
  refine run_v _ w w u ?_
  rw [hi] at h ⊢
  simp only [Sem.run_bind]
  have hg : (eqGuard op t x y (.int k n) (a.eval y)).run P w = .ok () w := by
    unfold eqGuard
    split <;> first | rfl | (split <;> rfl)
  rw [hg]
  exact h
end
end Go.Fw

/- The frame-work, part H: the machine does what 'ev' says: reading memory. -/
namespace Go.Fw
set_option linter.unusedVariables false
set_option linter.unusedSimpArgs false
open Go

section
variable {P : Program} {E : Nat → Value}

theorem cellAt_den {ρ : Nat → Value} {H : FH} : ∀ {l : List SV} {cs : List Value} {o : Nat} {x : SV}, DenC P E ρ H l cs → cellAt l o = some x → ∃ v, cs[o]? = some v ∧ Den P E ρ H x v ∧ v.oneCell' = true := by
  intro l
  induction l with
  | nil => intro cs o x _ h; simp [cellAt] at h
  | cons y r ih =>
    intro cs o x hd h
    cases hd with
    | arrc h1 h2 =>
      rename_i e ds cs1 cs2
      simp only [cellAt] at h
      split at h
      · rename_i hle
        have hl := repL_len h1
        rw [sizeL_replicate] at hl
        obtain ⟨v, hv, h3⟩ := ih h2 h
        exact ⟨v, by rw [List.getElem?_append_right (by omega), hl]; exact hv, h3⟩
      · cases h
    | one h1 h1' h2 =>
      rename_i v cs'
      have key : cellAt (y :: r) o = match o with | 0 => some y | o + 1 => cellAt r o := by
        cases y <;> first | (cases h1; done) | (cases o <;> rfl)
      rw [key] at h
      cases o with
      | zero => cases h; exact ⟨v, rfl, h1, h1'⟩
      | succ o => obtain ⟨u, hu, h3⟩ := ih h2 h; exact ⟨u, by simpa using hu, h3⟩

theorem cellAt_lt {nx : Nat} : ∀ {l : List SV} {o : Nat} {x : SV}, SV.ltL nx l → cellAt l o = some x → x.lt nx := by
  intro l
  induction l with
  | nil => intro o x _ h; simp [cellAt] at h
  | cons y r ih =>
    intro o x hl h
    have key : (∃ e ds, y = .arrc e ds) ∨ cellAt (y :: r) o = match o with | 0 => some y | o + 1 => cellAt r o := by
      cases y <;> first | exact .inl ⟨_, _, rfl⟩ | (cases o <;> exact .inr rfl)
    rcases key with ⟨e, ds, rfl⟩ | key
    · simp only [cellAt] at h
      split at h
      · exact ih hl.2 h
      · cases h
    · rw [key] at h
      cases o with
      | zero => cases h; exact hl.1
      | succ o => exact ih hl.2 h

theorem takeC_den {ρ : Nat → Value} {H : FH} : ∀ (n : Nat) {l a r : List SV} {cs : List Value}, DenC P E ρ H l cs → takeC n l = some (a, r) → ∃ c1 c2, cs = c1 ++ c2 ∧ c1.length = n ∧ DenC P E ρ H a c1 ∧ DenC P E ρ H r c2 := by
  intro n
  induction n using Nat.strongRecOn with
  | _ n ih =>
    intro l a r cs hd h
    cases n with
    | zero => simp only [takeC] at h; cases h; exact ⟨[], cs, rfl, rfl, .nil, hd⟩
    | succ n =>
      cases l with
      | nil => simp [takeC] at h
      | cons y q =>
        cases hd with
        | arrc h1 h2 =>
          rename_i e ds cs1 cs2
          have hl := repL_len h1
          rw [sizeL_replicate] at hl
          rw [takeC] at h
          split at h
          · rename_i hc
            split at h
            · rename_i a' b' e'
              cases h
              obtain ⟨c1, c2, g1, g2, g3, g4⟩ := ih (n + 1 - ds.length * e.size) (by omega) h2 e'
              exact ⟨cs1 ++ c1, c2, by rw [g1, List.append_assoc], by rw [List.length_append, g2]; omega, .arrc h1 g3, g4⟩
            · cases h
          · cases h
        | one h1 h1' h2 =>
          have key : takeC (n + 1) (y :: q) = match takeC n q with | some (a, b) => some (y :: a, b) | none => none := by
            cases y <;> first | (cases h1; done) | (rw [takeC] <;> first | (intro _ _ h; cases h; done) | (cases takeC n q <;> rfl))
          rw [key] at h
          split at h
          · rename_i a' b' e'
            cases h
            obtain ⟨c1, c2, g1, g2, g3, g4⟩ := ih n (by omega) h2 e'
            exact ⟨_ :: c1, c2, by rw [g1]; rfl, by simp [g2], .one h1 h1' g3, g4⟩
          · cases h

theorem takeC_lt {nx : Nat} : ∀ (n : Nat) {l a r : List SV}, SV.ltL nx l → takeC n l = some (a, r) → SV.ltL nx a ∧ SV.ltL nx r := by
  intro n
  induction n using Nat.strongRecOn with
  | _ n ih =>
    intro l a r hl h
    cases n with
    | zero => simp only [takeC] at h; cases h; exact ⟨trivial, hl⟩
    | succ n =>
      cases l with
      | nil => simp [takeC] at h
      | cons y q =>
        have key : (∃ e ds, y = .arrc e ds) ∨ takeC (n + 1) (y :: q) = match takeC n q with | some (a, b) => some (y :: a, b) | none => none := by
          cases y <;> first | exact .inl ⟨_, _, rfl⟩ | (right; rw [takeC] <;> first | (intro _ _ h; cases h; done) | (cases takeC n q <;> rfl))
        rcases key with ⟨e, ds, rfl⟩ | key
        · rw [takeC] at h
          split at h
          · split at h
            · rename_i e'
              cases h
              have := ih (n + 1 - ds.length * e.size) (by omega) hl.2 e'
              exact ⟨⟨trivial, this.1⟩, this.2⟩
            · cases h
          · cases h
        · rw [key] at h
          split at h
          · rename_i e'
            cases h
            have := ih n (by omega) hl.2 e'
            exact ⟨⟨hl.1, this.1⟩, this.2⟩
          · cases h

mutual
theorem explode_lt (nx : Nat) : ∀ (t : Ty) (d : D), SV.ltL nx (explode t d)
  | .int _, _ => by simp only [explode]; exact ⟨trivial, trivial⟩
  | .bool, _ => by simp only [explode]; exact ⟨trivial, trivial⟩
  | .str, _ => by simp only [explode]; exact ⟨trivial, trivial⟩
  | .slice _, _ => by simp only [explode]; exact ⟨trivial, trivial⟩
  | .ptr _, _ => by simp only [explode]; exact ⟨trivial, trivial⟩
  | .iface, _ => by simp only [explode]; exact ⟨trivial, trivial⟩
  | .fn, _ => by simp only [explode]; exact ⟨trivial, trivial⟩
  | .map _ _, _ => by simp only [explode]; exact ⟨trivial, trivial⟩
  | .other, _ => by simp only [explode]; exact ⟨trivial, trivial⟩
  | .arr _ _, _ => by simp only [explode]; exact ⟨trivial, trivial⟩
  | .strct ts, d => by simp only [explode]; exact explodeL_lt nx ts d 0
theorem explodeL_lt (nx : Nat) : ∀ (ts : List Ty) (d : D) (k : Nat), SV.ltL nx (explodeL ts d k)
  | [], _, _ => by simp only [explodeL]; exact trivial
  | t :: ts, d, k => by
    simp only [explodeL]
    have h1 := explode_lt nx t (d.fld k)
    have h2 := explodeL_lt nx ts d (k + 1)
    revert h1
    generalize explode t (d.fld k) = a
    intro h1
    induction a with
    | nil => exact h2
    | cons x a ih => exact ⟨h1.1, ih h1.2⟩
end

theorem ldSV_lt (nx : Nat) (t : Ty) (d : D) : (ldSV t d).lt nx := by
  cases t <;> simp only [ldSV] <;> first | trivial | exact explode_lt nx _ d

theorem denC_one {ρ : Nat → Value} {H : FH} {x : SV} {cs : List Value} (h : DenC P E ρ H [x] cs) (hx : ∀ e ds, x ≠ .arrc e ds) : ∃ v, cs = [v] ∧ Den P E ρ H x v ∧ v.oneCell' = true := by
  cases h with
  | one h1 h2 h3 => cases h3; exact ⟨_, rfl, h1, h2⟩
  | arrc => exact absurd rfl (hx _ _)

/-- What is read of cells that hold a datum. -/
theorem ldSV_den (hE : ∀ k, (E k).oneCell' = true) {ρ : Nat → Value} {H : FH} {t : Ty} {d : D} {cs : List Value} (h : Rep P E H t d cs) :
    (isAgg t = true → Den P E ρ H (ldSV t d) (.agg cs.toArray)) ∧ (isAgg t = false → ∃ v, cs = [v] ∧ Den P E ρ H (ldSV t d) v ∧ v.oneCell' = true) := by
  have hx := rep_explode (ρ := ρ) hE h
  cases t <;> simp only [isAgg, ldSV, explode] at hx ⊢ <;> refine ⟨fun h => ?_, fun h => ?_⟩ <;> first | (cases h; done) | exact denC_one hx (fun _ _ => by simp) | (exact .agg (by simpa only [explode] using hx))

theorem run_isAgg (tid : TypeId) (hu : (P.underlying tid).isSome = true) (w : World) : (_root_.Go.isAgg tid).run P w = .ok (isAgg (tyOf P 8 tid)) w := by
  obtain ⟨d, hd⟩ := Option.isSome_iff_exists.1 hu
  simp only [_root_.Go.isAgg, Sem.run_bind, run_underlying hd, tyOf, hd]
  cases d <;> rfl

theorem run_sizeOf (tid : TypeId) {n : Nat} (hs : (P.info? tid).map (·.size) = some n) (w : World) : (sizeOf tid).run P w = .ok n w := by
  obtain ⟨i, hi, rfl⟩ := Option.map_eq_some_iff.1 hs
  simp [sizeOf, typeInfo, hi, Sem.run_bind, program, Sem.run, pure]

/-- A variable is read. -/
theorem run_loadVar (tid : TypeId) (hu : (P.underlying tid).isSome = true) {cs : List Value} (hs : (P.info? tid).map (·.size) = some cs.length) (a : Addr) (w : World) (h : ∀ j v, cs[j]? = some v → w.cell? (a.add j) = some v) :
    (isAgg (tyOf P 8 tid) = true → (loadVar tid a).run P w = .ok (.agg cs.toArray) w) ∧ (isAgg (tyOf P 8 tid) = false → ∀ v, cs = [v] → (loadVar tid a).run P w = .ok v w) := by
  constructor
  · intro hg
    simp only [loadVar, Sem.run_bind, run_isAgg tid hu, hg, if_true, run_sizeOf tid hs, Result.andThen_ok]
    rw [run_loadCells_list w a cs h]
    rfl
  · intro hg v hv
    subst hv
    have h0 := h 0 v rfl
    simp only [loadVar, Sem.run_bind, run_isAgg tid hu, hg, Result.andThen_ok]
    rw [show a.add 0 = a from by simp [Addr.add]] at h0
    simp [load, Sem.run, h0]
end
end Go.Fw
