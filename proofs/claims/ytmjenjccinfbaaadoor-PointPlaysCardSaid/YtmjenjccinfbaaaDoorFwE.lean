import Derived.WalkKit
import Derived.ProofKit
import Derived.Below
import Derived.MapKept
/- The frame-work, part A: data, types, symbolic values, and what they mean in a memory. -/
namespace Go.Fw
set_option linter.unusedVariables false
set_option linter.unusedSimpArgs false
open Go

/-- Plain data. -/
inductive D where
  | int (n : Int)
  | bool (b : Bool)
  | str (s : ByteArray)
  | list (l : List D)
  | node (l : List D)
  | nil
  | ptr (d : D)
  | err (k : Nat)
  | ifc (t : TypeId) (d : D)
  deriving Inhabited

def D.i : D → Int | .int n => n | _ => 0
def D.b : D → Bool | .bool b => b | _ => false
def D.s : D → ByteArray | .str s => s | _ => ByteArray.empty
def D.l : D → List D | .list l => l | _ => []
def D.fs : D → List D | .node l => l | _ => []
def D.fld (d : D) (k : Nat) : D := d.fs.getD k .nil
def D.isNil : D → Bool | .nil => true | _ => false
def D.tgt : D → D | .ptr d => d | _ => .nil

/-- The shapes of types. -/
inductive Ty where
  | int (k : IntKind)
  | bool
  | str
  | slice (e : TypeId)
  | ptr (e : TypeId)
  | iface
  | strct (ts : List Ty)
  | arr (n : Nat) (e : Ty)
  | fn
  | map (k v : TypeId)
  | other
  deriving Inhabited

mutual
def Ty.size : Ty → Nat
  | .strct ts => Ty.sizeL ts
  | .arr n e => n * e.size
  | _ => 1
def Ty.sizeL : List Ty → Nat
  | [] => 0
  | t :: ts => t.size + Ty.sizeL ts
end

def tyOf (P : Program) : Nat → TypeId → Ty
  | 0, _ => .other
  | n + 1, t =>
    match P.underlying t with
    | some (.int k) => .int k
    | some .bool => .bool
    | some .string => .str
    | some (.slice e) => .slice e
    | some (.pointer e) => .ptr e
    | some (.interface _) => .iface
    | some (.struct fs) => .strct (fs.toList.map fun f => tyOf P n f.type)
    | some (.array m e) => .arr m (tyOf P n e)
    | some (.map k v) => .map k v
    | some (.func ..) => .fn
    | _ => .other

/-- Symbolic values; a list of them is a row of cells ('arrc' covers several). Names of memory of the function's own are numbers. -/
inductive SV where
  | int (k : IntKind) (n : Int)
  | bool (b : Bool)
  | str (s : ByteArray)
  | dat (t : Ty) (d : D)
  | elt (t : Ty) (d : D)
  | ptr (n off : Nat)
  | vec (n : Nat)
  | eltv (n : Nat) (i : Int) (sz off : Nat)
  | eltc (n off : Nat) (e : Ty) (i : Int)
  | arrc (e : Ty) (ds : List D)
  | agg (l : List SV)
  | tup (l : List SV)
  | clo (f : FuncId) (caps : List SV)
  | nils
  | ifc (t : TypeId) (x : SV)
  | raw (v : Value)
  | any
  deriving Inhabited

inductive Tok where
  | cells (l : List SV)
  | arr (eid : TypeId) (e : Ty) (l : List D)
  | map (kt vt : TypeId) (f : Int → Option D)
  deriving Inhabited

abbrev Heap := List (Nat × Tok)
def hget : Heap → Nat → Option Tok
  | [], _ => none
  | (m, t) :: r, n => if m = n then some t else hget r n
def hset : Heap → Nat → Tok → Heap
  | [], _, _ => []
  | (m, t) :: r, n, u => if m = n then (m, u) :: r else (m, t) :: hset r n u
def hdel : Heap → Nat → Heap
  | [], _ => []
  | (m, t) :: r, n => if m = n then hdel r n else (m, t) :: hdel r n

abbrev Fr := List (Nat × SV)
def fget : Fr → Nat → SV
  | [], _ => .any
  | (i, v) :: r, j => if i = j then v else fget r j

/-- Memory that no longer changes. -/
abbrev FH := Nat → Nat → Option Value

section
variable (P : Program) (E : Nat → Value)

mutual
/-- These cells hold this datum. -/
inductive Rep (H : FH) : Ty → D → List Value → Prop
  | int {k : IntKind} {n : Int} (h : k.min ≤ n ∧ n ≤ k.max) : Rep H (.int k) (.int n) [.int k n]
  | bool {b : Bool} : Rep H .bool (.bool b) [.bool b]
  | str {s : ByteArray} (h : s.size ≤ maxLen) : Rep H .str (.str s) [.string s]
  | slice {e : TypeId} {l : List D} {a : Option Addr} {cap : Nat} (css : Nat → List Value) (hc : l.length ≤ cap) (hcap : cap ≤ maxLen) (hn : l ≠ [] → ∃ ad, a = some ad ∧ ad.spot = none) (hz : a = none → cap = 0)
      (hm : ∀ i, i < l.length → ∀ ad, a = some ad → ∀ j v, (css i)[j]? = some v → H ad.block (ad.off + i * (tyOf P 8 e).size + j) = some v)
      (hr : ∀ i (hi : i < l.length), Rep H (tyOf P 8 e) l[i] (css i)) : Rep H (.slice e) (.list l) [.slice a l.length cap]
  | strct {ts : List Ty} {ds : List D} {cs : List Value} (h : RepL H ts ds cs) : Rep H (.strct ts) (.node ds) cs
  | arr {n : Nat} {e : Ty} {ds : List D} {cs : List Value} (hn : ds.length = n) (h : RepL H (List.replicate n e) ds cs) : Rep H (.arr n e) (.list ds) cs
  | pnil {e : TypeId} : Rep H (.ptr e) .nil [.pointer none]
  | ptr {e : TypeId} {d : D} {a : Addr} {cs : List Value} (hs : a.spot = none) (hm : ∀ j v, cs[j]? = some v → H a.block (a.off + j) = some v) (h : Rep H (tyOf P 8 e) d cs) : Rep H (.ptr e) (.ptr d) [.pointer (some a)]
  | inil : Rep H .iface .nil [.nilIface]
  | err {k : Nat} : Rep H .iface (.err k) [E k]
  | ifc {t : TypeId} {d : D} {v : Value} (h : Rep H (tyOf P 8 t) d [v]) : Rep H .iface (.ifc t d) [.iface t v]
inductive RepL (H : FH) : List Ty → List D → List Value → Prop
  | nil : RepL H [] [] []
  | cons {t : Ty} {ts : List Ty} {d : D} {ds : List D} {cs cs' : List Value} (h : Rep H t d cs) (h' : RepL H ts ds cs') : RepL H (t :: ts) (d :: ds) (cs ++ cs')
end

def FH.le (H H' : FH) : Prop := ∀ b o v, H b o = some v → H' b o = some v
theorem FH.le_refl (H : FH) : H.le H := fun _ _ _ h => h
theorem FH.le_trans {H H' H'' : FH} (h : H.le H') (h' : H'.le H'') : H.le H'' := fun b o v hv => h' b o v (h b o v hv)

mutual
theorem Rep.mono {H H' : FH} (hh : H.le H') : ∀ {t d cs}, Rep P E H t d cs → Rep P E H' t d cs
  | _, _, _, .int h => .int h
  | _, _, _, .bool => .bool
  | _, _, _, .str h => .str h
  | _, _, _, .slice css hc hcap hn hz hm hr => .slice css hc hcap hn hz (fun i hi ad ha j v hv => hh _ _ _ (hm i hi ad ha j v hv)) (fun i hi => Rep.mono hh (hr i hi))
  | _, _, _, .strct h => .strct (RepL.mono hh h)
  | _, _, _, .arr hn h => .arr hn (RepL.mono hh h)
  | _, _, _, .pnil => .pnil
  | _, _, _, .ptr hs hm h => .ptr hs (fun j v hv => hh _ _ _ (hm j v hv)) (Rep.mono hh h)
  | _, _, _, .inil => .inil
  | _, _, _, .err => .err
  | _, _, _, .ifc h => .ifc (Rep.mono hh h)
theorem RepL.mono {H H' : FH} (hh : H.le H') : ∀ {ts ds cs}, RepL P E H ts ds cs → RepL P E H' ts ds cs
  | _, _, _, .nil => .nil
  | _, _, _, .cons h h' => .cons (Rep.mono hh h) (RepL.mono hh h')
end
end
end Go.Fw

/- The frame-work, part B: what a symbolic value is worth in a memory; what a function owns; states. -/
namespace Go.Fw
set_option linter.unusedVariables false
set_option linter.unusedSimpArgs false
open Go

def Ty.sc : Ty → Bool
  | .slice _ | .ptr _ | .iface | .fn | .map .. | .other => true
  | _ => false

section
variable (P : Program) (E : Nat → Value)

mutual
inductive Den (ρ : Nat → Value) (H : FH) : SV → Value → Prop
  | int {k : IntKind} {n : Int} (h : k.min ≤ n ∧ n ≤ k.max) : Den ρ H (.int k n) (.int k n)
  | bool {b : Bool} : Den ρ H (.bool b) (.bool b)
  | str {s : ByteArray} (h : s.size ≤ maxLen) : Den ρ H (.str s) (.string s)
  | dat {t : Ty} {d : D} {v : Value} (hs : t.sc = true) (h : Rep P E H t d [v]) : Den ρ H (.dat t d) v
  | elt {t : Ty} {d : D} {a : Addr} {cs : List Value} (hs : a.spot = none) (hm : ∀ j v, cs[j]? = some v → H a.block (a.off + j) = some v) (h : Rep P E H t d cs) : Den ρ H (.elt t d) (.pointer (some a))
  | ptr {n off b : Nat} (h : ρ n = .pointer (some ⟨b, 0, none⟩)) : Den ρ H (.ptr n off) (.pointer (some ⟨b, off, none⟩))
  | vec {n : Nat} (h : (ρ n).oneCell' = true) : Den ρ H (.vec n) (ρ n)
  | eltv {n : Nat} {i : Int} {sz off b len cap : Nat} (h : ρ n = .slice (some ⟨b, 0, none⟩) len cap) : Den ρ H (.eltv n i sz off) (.pointer (some ⟨b, i.toNat * sz + off, none⟩))
  | eltc {n off : Nat} {e : Ty} {i : Int} {b : Nat} (h : ρ n = .pointer (some ⟨b, 0, none⟩)) : Den ρ H (.eltc n off e i) (.pointer (some ⟨b, off + i.toNat * e.size, none⟩))
  | agg {l : List SV} {cs : List Value} (h : DenC ρ H l cs) : Den ρ H (.agg l) (.agg cs.toArray)
  | tup {l : List SV} {vs : List Value} (h : DenV ρ H l vs) : Den ρ H (.tup l) (.tuple vs.toArray)
  | clo {f : FuncId} {l : List SV} {vs : List Value} (h : DenV ρ H l vs) : Den ρ H (.clo f l) (.func (.func f) #[] vs.toArray)
  | nils : Den ρ H .nils (.slice none 0 0)
  | ifc {t : TypeId} {x : SV} {v : Value} (h : Den ρ H x v) : Den ρ H (.ifc t x) (.iface t v)
  | raw {v : Value} (h : v.oneCell' = true) : Den ρ H (.raw v) v
  | any {v : Value} : Den ρ H .any v
/-- A row of cells. -/
inductive DenC (ρ : Nat → Value) (H : FH) : List SV → List Value → Prop
  | nil : DenC ρ H [] []
  | one {x : SV} {v : Value} {l : List SV} {cs : List Value} (h : Den ρ H x v) (h1 : v.oneCell' = true) (h' : DenC ρ H l cs) : DenC ρ H (x :: l) (v :: cs)
  | arrc {e : Ty} {ds : List D} {cs : List Value} {l : List SV} {cs' : List Value} (h : RepL P E H (List.replicate ds.length e) ds cs) (h' : DenC ρ H l cs') : DenC ρ H (.arrc e ds :: l) (cs ++ cs')
/-- Values one by one. -/
inductive DenV (ρ : Nat → Value) (H : FH) : List SV → List Value → Prop
  | nil : DenV ρ H [] []
  | cons {x : SV} {v : Value} {l : List SV} {vs : List Value} (h : Den ρ H x v) (h' : DenV ρ H l vs) : DenV ρ H (x :: l) (v :: vs)
end

mutual
/-- All names in it lie below. -/
def SV.lt (nx : Nat) : SV → Prop
  | .ptr n _ | .vec n | .eltv n _ _ _ | .eltc n _ _ _ => n < nx
  | .agg l | .tup l | .clo _ l => SV.ltL nx l
  | .ifc _ x => SV.lt nx x
  | _ => True
def SV.ltL (nx : Nat) : List SV → Prop
  | [] => True
  | x :: l => SV.lt nx x ∧ SV.ltL nx l
end

mutual
theorem Den.congr {ρ ρ' : Nat → Value} {H H' : FH} {nx : Nat} (hρ : ∀ n, n < nx → ρ' n = ρ n) (hH : H.le H') : ∀ {x v}, x.lt nx → Den P E ρ H x v → Den P E ρ' H' x v
  | _, _, _, .int h => .int h
  | _, _, _, .bool => .bool
  | _, _, _, .str h => .str h
  | _, _, _, .dat hs h => .dat hs (Rep.mono P E hH h)
  | _, _, _, .elt hs hm h => .elt hs (fun j v hv => hH _ _ _ (hm j v hv)) (Rep.mono P E hH h)
  | _, _, hl, .ptr h => .ptr ((hρ _ hl).trans h)
  | _, _, hl, .vec h => by rw [← hρ _ hl] at h ⊢; exact .vec h
  | _, _, hl, .eltv h => .eltv ((hρ _ hl).trans h)
  | _, _, hl, .eltc h => .eltc ((hρ _ hl).trans h)
  | _, _, hl, .agg h => .agg (DenC.congr hρ hH hl h)
  | _, _, hl, .tup h => .tup (DenV.congr hρ hH hl h)
  | _, _, hl, .clo h => .clo (DenV.congr hρ hH hl h)
  | _, _, _, .nils => .nils
  | _, _, hl, .ifc h => .ifc (Den.congr hρ hH hl h)
  | _, _, _, .raw h => .raw h
  | _, _, _, .any => .any
theorem DenC.congr {ρ ρ' : Nat → Value} {H H' : FH} {nx : Nat} (hρ : ∀ n, n < nx → ρ' n = ρ n) (hH : H.le H') : ∀ {l cs}, SV.ltL nx l → DenC P E ρ H l cs → DenC P E ρ' H' l cs
  | _, _, _, .nil => .nil
  | _, _, hl, .one h h1 h' => .one (Den.congr hρ hH hl.1 h) h1 (DenC.congr hρ hH hl.2 h')
  | _, _, hl, .arrc h h' => .arrc (RepL.mono P E hH h) (DenC.congr hρ hH hl.2 h')
theorem DenV.congr {ρ ρ' : Nat → Value} {H H' : FH} {nx : Nat} (hρ : ∀ n, n < nx → ρ' n = ρ n) (hH : H.le H') : ∀ {l vs}, SV.ltL nx l → DenV P E ρ H l vs → DenV P E ρ' H' l vs
  | _, _, _, .nil => .nil
  | _, _, hl, .cons h h' => .cons (Den.congr hρ hH hl.1 h) (DenV.congr hρ hH hl.2 h')
end

mutual
theorem SV.lt_mono {nx ny : Nat} (hn : nx ≤ ny) : ∀ {x : SV}, x.lt nx → x.lt ny
  | .ptr n _, h => Nat.lt_of_lt_of_le (show n < nx from h) hn
  | .vec n, h => Nat.lt_of_lt_of_le (show n < nx from h) hn
  | .eltv n _ _ _, h => Nat.lt_of_lt_of_le (show n < nx from h) hn
  | .eltc n _ _ _, h => Nat.lt_of_lt_of_le (show n < nx from h) hn
  | .agg l, h => SV.ltL_mono hn (l := l) h
  | .tup l, h => SV.ltL_mono hn (l := l) h
  | .clo _ l, h => SV.ltL_mono hn (l := l) h
  | .ifc _ x, h => SV.lt_mono hn (x := x) h
  | .int .., _ | .bool _, _ | .str _, _ | .dat .., _ | .elt .., _ | .arrc .., _ | .nils, _ | .raw _, _ | .any, _ => trivial
theorem SV.ltL_mono {nx ny : Nat} (hn : nx ≤ ny) : ∀ {l : List SV}, SV.ltL nx l → SV.ltL ny l
  | [], _ => trivial
  | _ :: _, h => ⟨SV.lt_mono hn h.1, SV.ltL_mono hn h.2⟩
end

def Tok.lt (nx : Nat) : Tok → Prop
  | .cells l => SV.ltL nx l
  | .arr _ _ _ => True
  | .map _ _ _ => True
theorem Tok.lt_mono {nx ny : Nat} (hn : nx ≤ ny) : ∀ {t : Tok}, t.lt nx → t.lt ny
  | .cells _, h => SV.ltL_mono hn h
  | .arr _ _ _, _ => trivial
  | .map _ _ _, _ => trivial

def blk : Value → Option Nat
  | .pointer (some a) => some a.block
  | .slice (some a) _ cap => if cap = 0 then none else some a.block
  | .map (some b) => some b
  | _ => none

/-- A slice of the function's own: of no room, wherever it points; or at the front of a block of its own. -/
def Owns (w : World) (e : TypeId) (size : Nat) (v : Value) (n : Nat) (xs : List Value) : Prop :=
  xs.length = n * size ∧ (((∃ a, v = .slice a 0 0) ∧ n = 0) ∨
    ∃ g cap cur, v = .slice (some ⟨g, 0, none⟩) n cap ∧ 0 < cap ∧ w.heap[g]? = some (.cells cur e (0, 0)) ∧ n ≤ cap ∧ cap ≤ maxLen ∧ cur.size = cap * size ∧ cur.toList.take (n * size) = xs)
theorem Owns.of {w : World} {base : Nat} {e : TypeId} {size : Nat} {v : Value} {n : Nat} {xs : List Value} (h : w.ownsRow base e size v n xs) : Owns w e size v n xs := by
  refine ⟨h.1, ?_⟩
  rcases h.2 with ⟨h1, h2⟩ | ⟨g, cap, cur, hv, _, hh, h1, h2, h3, h4⟩
  · exact .inl ⟨⟨none, h1⟩, h2⟩
  · rcases Nat.eq_zero_or_pos cap with h5 | h5
    · subst h5
      have : n = 0 := by omega
      subst this
      exact .inl ⟨⟨_, hv⟩, rfl⟩
    · exact .inr ⟨g, cap, cur, hv, h5, hh, h1, h2, h3, h4⟩
theorem Owns.cells {w : World} {e : TypeId} {size : Nat} {v : Value} {n : Nat} {xs : List Value} (h : Owns w e size v n xs) {g : Nat} (hg : blk v = some g) : ∀ j u, xs[j]? = some u → w.cell? ⟨g, j, none⟩ = some u := by
  intro j u hu
  rcases h.2 with ⟨⟨a, rfl⟩, _⟩ | ⟨g', cap, cur, hv, h0, hh, h1, h2, h3, h4⟩
  · cases a <;> simp [blk] at hg
  · rw [hv] at hg
    simp only [blk] at hg
    rw [if_neg (by omega), Option.some.injEq] at hg
    subst hg
    rw [← h4, List.getElem?_take] at hu
    split at hu
    · simp only [World.cell?, hh]; simpa using hu
    · cases hu

def Ty.ag : Ty → Bool
  | .strct _ | .arr _ _ => true
  | _ => false
/-- A map by whole numbers: what it holds. -/
structure MapRep (H : FH) (k : IntKind) (t : Ty) (es : Array MapEntry) (clock : Nat) (f : Int → Option D) : Prop where
  st : MapKept.Stamped es clock
  key : ∀ x ∈ es.toList, ∃ i, x.key = .int k i ∧ k.min ≤ i ∧ i ≤ k.max
  yes : ∀ i d, f i = some d → ∃ x ∈ es.toList, x.key = .int k i ∧ ∃ cs, Rep P E H t d cs ∧ (t.ag = true → x.val = .agg cs.toArray) ∧ (t.ag = false → cs = [x.val])
  no : ∀ i, f i = none → ∀ x ∈ es.toList, x.key ≠ .int k i
theorem MapRep.mono {H H' : FH} (hh : H.le H') {k : IntKind} {t : Ty} {es : Array MapEntry} {clock : Nat} {f : Int → Option D} (h : MapRep P E H k t es clock f) : MapRep P E H' k t es clock f :=
  ⟨h.st, h.key, fun i d hf => by obtain ⟨x, h1, h2, cs, h3, h4⟩ := h.yes i d hf; exact ⟨x, h1, h2, cs, Rep.mono P E hh h3, h4⟩, h.no⟩
def TokSat (ρ : Nat → Value) (H : FH) (w : World) (n : Nat) : Tok → Prop
  | .cells l => ∃ b t cs, ρ n = .pointer (some ⟨b, 0, none⟩) ∧ w.heap[b]? = some (.cells cs.toArray t (0, 0)) ∧ DenC P E ρ H l cs ∧ ∀ o, H b o = none
  | .arr eid e l => (l ≠ [] → tyOf P 8 eid = e) ∧ ∃ xs, Owns w eid e.size (ρ n) l.length xs ∧ RepL P E H (List.replicate l.length e) l xs ∧ ∀ b, blk (ρ n) = some b → ∀ o, H b o = none
  | .map kt vt f => ∃ b es clock k, ρ n = .map (some b) ∧ w.heap[b]? = some (.map es clock) ∧ P.underlying kt = some (.int k) ∧ MapRep P E H k (tyOf P 8 vt) es clock f ∧ ∀ o, H b o = none

/-- The frozen cells are there. -/
def FHin (H : FH) (w : World) : Prop := ∀ b o v, H b o = some v → w.cell? ⟨b, o, none⟩ = some v

/-- Of what was there only owned blocks have changed. -/
structure Kept (w0 : World) (own : Nat → Prop) (w : World) : Prop where
  os : w.os = w0.os
  tape : w.tape = w0.tape
  output : w.output = w0.output
  size : w0.heap.size ≤ w.heap.size
  block : ∀ b, b < w0.heap.size → ¬ own b → w.heap[b]? = w0.heap[b]?

structure HSat (ρ : Nat → Value) (H : FH) (w : World) (h : Heap) : Prop where
  tok : ∀ n t, hget h n = some t → TokSat P E ρ H w n t
  dis : ∀ n m t u b, hget h n = some t → hget h m = some u → n ≠ m → blk (ρ n) = some b → blk (ρ m) ≠ some b

structure SSt where
  f : Fr
  h : Heap
  nx : Nat

/-- What is neither cells nor a map: no token has it. -/
def oddO : Obj → Bool
  | .cells .. => false
  | .map .. => false
  | _ => true

structure Ctx where
  w0 : World
  own : Nat → Prop
  N : Nat
  o : Heap
  nb : Nat
  G : Nat → Bool
  ρ0 : Nat → Value
  H0 : FH
  dfs : List Nat := []
  ks : List (Nat × Obj) := []

/-- The deferred calls are marks of loops over functions; the blocks of these lie as they lay. -/
structure DfOk (c : Ctx) (ds : List Deferred) (w : World) : Prop where
  eq : ds = c.dfs.map fun D => { target := .collected D, args := #[] }
  sub : ∀ D ∈ c.dfs, (D, Obj.deferred (some [])) ∈ c.ks
  ks : ∀ x ∈ c.ks, w.heap[x.1]? = some x.2 ∧ oddO x.2 = true ∧ c.w0.heap.size ≤ x.1
  nd : c.dfs.Nodup

structure Sat (c : Ctx) (ρ : Nat → Value) (H : FH) (S : SSt) (a : Act) (w : World) : Prop where
  fr : ∀ i, Den P E ρ H (fget S.f i) (a.tmps.getD i undef)
  sz : a.tmps.size = c.N
  df : DfOk c a.defers w
  hs : HSat P E ρ H w (S.h ++ c.o)
  hin : FHin H w
  kept : Kept c.w0 c.own w
  ownb : ∀ n t b, hget (S.h ++ c.o) n = some t → blk (ρ n) = some b → c.own b ∨ c.w0.heap.size ≤ b
  flt : ∀ i, (fget S.f i).lt S.nx
  hlt : ∀ n t, hget (S.h ++ c.o) n = some t → n < S.nx ∧ t.lt S.nx
  olt : ∀ n t, hget c.o n = some t → n < c.nb ∧ t.lt c.nb
  nbx : c.nb ≤ S.nx
  sep : ∀ n t, hget S.h n = some t → hget c.o n = none
  glob : ∀ g, c.G g = true → H g 0 = some (E g)
  rho : ∀ n, n < c.nb → ρ n = c.ρ0 n
  hle : c.H0.le H
end
end Go.Fw

/- The frame-work, part C: how a state is kept while memory changes. -/
namespace Go.Fw
set_option linter.unusedVariables false
set_option linter.unusedSimpArgs false
open Go

section
variable {P : Program} {E : Nat → Value}

theorem blk_slice {a : Addr} {n cap : Nat} (h : 0 < cap) : blk (.slice (some a) n cap) = some a.block := by simp only [blk]; rw [if_neg (by omega)]
theorem blk_none {a : Option Addr} {n : Nat} : blk (.slice a n 0) = none := by cases a <;> simp [blk]
theorem ownBlock_blk {v : Value} {b : Nat} (h : blk v = some b) : (∃ a n c, v = .slice a n c) → v.ownBlock = some b := by
  rintro ⟨a, n, c, rfl⟩
  cases a with
  | none => simp [blk] at h
  | some a =>
    simp only [blk] at h
    split at h
    · cases h
    · exact h
theorem Owns.block {w w' : World} {e : TypeId} {size : Nat} {v : Value} {n : Nat} {xs : List Value} (h : Owns w e size v n xs)
    (hb : ∀ b, blk v = some b → w'.heap[b]? = w.heap[b]?) : Owns w' e size v n xs := by
  obtain ⟨h1, h2⟩ := h
  refine ⟨h1, ?_⟩
  rcases h2 with h2 | ⟨g, cap, cur, hv, hg, hh, r⟩
  · exact .inl h2
  · exact .inr ⟨g, cap, cur, hv, hg, by rw [hb g (by rw [hv]; exact blk_slice hg)]; exact hh, r⟩

theorem tokSat_keep {ρ ρ' : Nat → Value} {H H' : FH} {w w' : World} {n nx : Nat} {t : Tok} (h : TokSat P E ρ H w n t) (hn : n < nx) (ht : t.lt nx) (hρ : ∀ n, n < nx → ρ' n = ρ n) (hH : H.le H')
    (hb : ∀ b, blk (ρ n) = some b → w'.heap[b]? = w.heap[b]?) (hf : ∀ b, blk (ρ n) = some b → ∀ o, H' b o = none) : TokSat P E ρ' H' w' n t := by
  cases t with
  | cells l =>
    obtain ⟨b, t, cs, h1, h2, h3, h4⟩ := h
    exact ⟨b, t, cs, (hρ n hn).trans h1, by rw [hb b (by rw [h1]; rfl)]; exact h2, DenC.congr P E hρ hH ht h3, hf b (by rw [h1]; rfl)⟩
  | arr eid e l =>
    obtain ⟨he, xs, h1, h2, h3⟩ := h
    refine ⟨he, xs, ?_, RepL.mono P E hH h2, ?_⟩
    · rw [hρ n hn]; exact h1.block hb
    · rw [hρ n hn]; exact fun b hb' => hf b hb'
  | map kt vt f =>
    obtain ⟨b, es, clock, k, h1, h2, h3, h4, h5⟩ := h
    exact ⟨b, es, clock, k, (hρ n hn).trans h1, by rw [hb b (by rw [h1]; rfl)]; exact h2, h3, h4.mono P E hH, hf b (by rw [h1]; rfl)⟩

theorem tokSat_new {ρ : Nat → Value} {H : FH} {w : World} {n : Nat} {t : Tok} (h : TokSat P E ρ H w n t) : ∀ b, blk (ρ n) = some b → b < w.heap.size ∧ ∀ o, H b o = none := by
  intro b hb
  cases t with
  | cells l =>
    obtain ⟨b', t, cs, h1, h2, h3, h4⟩ := h
    rw [h1] at hb
    simp only [blk, Option.some.injEq] at hb
    subst hb
    exact ⟨(Array.getElem?_eq_some_iff.1 h2).1, h4⟩
  | arr eid e l =>
    obtain ⟨_, xs, ⟨_, h1⟩, _, h3⟩ := h
    rcases h1 with ⟨⟨a, h1⟩, _⟩ | ⟨g, cap, cur, hv, h0, hh, _⟩
    · rw [h1, blk_none] at hb; cases hb
    · have hb' := hb
      rw [hv, blk_slice h0, Option.some.injEq] at hb
      subst hb
      exact ⟨(Array.getElem?_eq_some_iff.1 hh).1, h3 _ hb'⟩
  | map kt vt f =>
    obtain ⟨b', es, clock, k, h1, h2, h3, h4, h5⟩ := h
    rw [h1] at hb
    simp only [blk, Option.some.injEq] at hb
    subst hb
    exact ⟨(Array.getElem?_eq_some_iff.1 h2).1, h5⟩

theorem tokSat_odd {ρ : Nat → Value} {H : FH} {w : World} {n : Nat} {t : Tok} (h : TokSat P E ρ H w n t) {b : Nat} (hb : blk (ρ n) = some b) {o : Obj} (ho : w.heap[b]? = some o) : oddO o = false := by
  cases t with
  | cells l =>
    obtain ⟨b', t, cs, h1, h2, h3, h4⟩ := h
    rw [h1] at hb
    simp only [blk, Option.some.injEq] at hb
    subst hb
    rw [h2] at ho; cases ho; rfl
  | arr eid e l =>
    obtain ⟨he, xs, h1, h2, h3⟩ := h
    rcases h1.2 with ⟨⟨a, hv⟩, _⟩ | ⟨g, cap, cur, hv, h0, hh, _⟩
    · rw [hv, blk_none] at hb; cases hb
    · rw [hv, blk_slice h0, Option.some.injEq] at hb
      subst hb
      simp only at ho
      rw [hh] at ho; cases ho; rfl
  | map kt vt f =>
    obtain ⟨b', es, clock, k, h1, h2, h3, h4, h5⟩ := h
    rw [h1] at hb
    simp only [blk, Option.some.injEq] at hb
    subst hb
    rw [h2] at ho; cases ho; rfl
theorem DfOk.keep {c : Ctx} {ds : List Deferred} {w w' : World} (h : DfOk c ds w) (hb : ∀ (b : Nat) (o : Obj), w.heap[b]? = some o → oddO o = true → w'.heap[b]? = some o) : DfOk c ds w' :=
  ⟨h.eq, h.sub, fun x hx => ⟨hb _ _ (h.ks x hx).1 (h.ks x hx).2.1, (h.ks x hx).2⟩, h.nd⟩

theorem FHin.lt {H : FH} {w : World} (h : FHin H w) {b o : Nat} {v : Value} (hv : H b o = some v) : b < w.heap.size := World.block_lt_of_cell? w _ (h b o v hv)
theorem FHin.none_new {H : FH} {w : World} (h : FHin H w) {b : Nat} (hb : w.heap.size ≤ b) (o : Nat) : H b o = none := by
  cases hv : H b o with
  | none => rfl
  | some v => have := h.lt hv; omega

/-- Frozen cells lie in no owned block: they stay while owned blocks change. -/
theorem FHin.keep {H : FH} {w w' : World} (h : FHin H w) (hb : ∀ b, b < w.heap.size → (∃ o v, H b o = some v) → w'.heap[b]? = w.heap[b]?) : FHin H w' := by
  intro b o v hv
  have := h b o v hv
  have hk := hb b (h.lt hv) ⟨o, v, hv⟩
  rw [← this]
  exact World.cell?_of_block hk

theorem Kept.trans {w0 w w' : World} {own own' : Nat → Prop} (h : Kept w0 own w) (h' : Kept w own' w') (ho : ∀ b, own' b → own b ∨ w0.heap.size ≤ b) : Kept w0 own w' :=
  ⟨h'.os.trans h.os, h'.tape.trans h.tape, h'.output.trans h.output, Nat.le_trans h.size h'.size, fun b hb hn => by
    rw [h'.block b (Nat.lt_of_lt_of_le hb h.size) (fun hc => by rcases ho b hc with h1 | h1; exact hn h1; omega)]
    exact h.block b hb hn⟩
theorem Kept.refl (w : World) (own : Nat → Prop) : Kept w own w := ⟨rfl, rfl, rfl, Nat.le_refl _, fun _ _ _ => rfl⟩

theorem hget_append {h o : Heap} {n : Nat} : hget (h ++ o) n = match hget h n with | some t => some t | none => hget o n := by
  induction h with
  | nil => rfl
  | cons x r ih =>
    obtain ⟨m, t⟩ := x
    simp only [List.cons_append, hget]
    by_cases h : m = n
    · simp [h]
    · simp [h, ih]

/-- The whole step: a new memory, new names. -/
theorem Sat.next {c : Ctx} {ρ ρ' : Nat → Value} {H H' : FH} {S : SSt} {a : Act} {w w' : World} {h' : Heap} {nx' : Nat} (s : Sat P E c ρ H S a w)
    (hn : S.nx ≤ nx') (hρ : ∀ n, n < S.nx → ρ' n = ρ n) (hH : H.le H') (hin : FHin H' w') (hs : HSat P E ρ' H' w' (h' ++ c.o)) (hk : Kept w (fun b => ∃ n t, hget (S.h ++ c.o) n = some t ∧ blk (ρ n) = some b) w')
    (ho : ∀ n t b, hget (h' ++ c.o) n = some t → blk (ρ' n) = some b → (∃ m u, hget (S.h ++ c.o) m = some u ∧ blk (ρ m) = some b) ∨ w.heap.size ≤ b)
    (hl : ∀ n t, hget (h' ++ c.o) n = some t → n < nx' ∧ t.lt nx') (hsep : ∀ n t, hget h' n = some t → hget c.o n = none) : Sat P E c ρ' H' { f := S.f, h := h', nx := nx' } a w' where
  fr := fun i => Den.congr P E hρ hH (s.flt i) (s.fr i)
  sz := s.sz
  df := s.df.keep fun b o hb hod => by
    rw [hk.block b (Array.getElem?_eq_some_iff.1 hb).1 (fun ⟨n, t, h1, h2⟩ => by have := tokSat_odd (s.hs.tok n t h1) h2 hb; rw [hod] at this; cases this)]
    exact hb
  hs := hs
  hin := hin
  kept := s.kept.trans hk (fun b ⟨n, t, h1, h2⟩ => s.ownb n t b h1 h2)
  ownb := fun n t b h1 h2 => by
    rcases ho n t b h1 h2 with ⟨m, u, h3, h4⟩ | h3
    · exact s.ownb m u b h3 h4
    · exact .inr (Nat.le_trans s.kept.size h3)
  flt := fun i => SV.lt_mono hn (s.flt i)
  hlt := hl
  olt := s.olt
  nbx := Nat.le_trans s.nbx hn
  sep := hsep
  glob := fun g hg => hH _ _ _ (s.glob g hg)
  rho := fun n hn => (hρ n (Nat.lt_of_lt_of_le hn s.nbx)).trans (s.rho n hn)
  hle := FH.le_trans s.hle hH

theorem fget_cons (i j : Nat) (v : SV) (f : Fr) : fget ((i, v) :: f) j = if i = j then v else fget f j := rfl

theorem Sat.put {c : Ctx} {ρ : Nat → Value} {H : FH} {S : SSt} {a : Act} {w : World} (s : Sat P E c ρ H S a w) {d : Nat} {x : SV} {v : Value} (hx : Den P E ρ H x v) (hl : x.lt S.nx) (hd : d < c.N) :
    Sat P E c ρ H { S with f := (d, x) :: S.f } (a.put (some d) v) w where
  fr := fun i => by
    simp only [fget_cons, Act.put]
    split
    · rename_i h; subst h
      rw [Array.getD_eq_getD_getElem?, Array.getElem?_setIfInBounds_self_of_lt (by rw [s.sz]; exact hd)]
      exact hx
    · rename_i h
      rw [Array.getD_eq_getD_getElem?, Array.getElem?_setIfInBounds_ne h, ← Array.getD_eq_getD_getElem?]
      exact s.fr i
  sz := by simp [Act.put, s.sz]
  df := s.df
  hs := s.hs
  hin := s.hin
  kept := s.kept
  ownb := s.ownb
  flt := fun i => by
    simp only [fget_cons]
    split
    · exact hl
    · exact s.flt i
  hlt := s.hlt
  olt := s.olt
  nbx := s.nbx
  sep := s.sep
  glob := s.glob
  rho := s.rho
  hle := s.hle

def upd (ρ : Nat → Value) (n : Nat) (v : Value) : Nat → Value := fun m => if m = n then v else ρ m
theorem upd_lt (ρ : Nat → Value) {n nx : Nat} (v : Value) (h : nx ≤ n) : ∀ m, m < nx → upd ρ n v m = ρ m := fun m hm => if_neg (by omega)
theorem upd_same (ρ : Nat → Value) (n : Nat) (v : Value) : upd ρ n v n = v := if_pos rfl

/-- A new token under a new name, the memory grown by new blocks. -/
theorem Sat.grow {c : Ctx} {ρ : Nat → Value} {H : FH} {S : SSt} {a : Act} {w w' : World} (s : Sat P E c ρ H S a w) {N nx' : Nat} (hN : S.nx ≤ N) (hx : N < nx') (v : Value) (t : Tok)
    (hk : Kept w (fun _ => False) w') (ht : TokSat P E (upd ρ N v) H w' N t) (hnew : ∀ b, blk v = some b → w.heap.size ≤ b) (hl : t.lt nx') :
    Sat P E c (upd ρ N v) H { f := S.f, h := (N, t) :: S.h, nx := nx' } a w' := by
  have hkeep : ∀ n t, hget (S.h ++ c.o) n = some t → TokSat P E (upd ρ N v) H w' n t := fun n t h =>
    tokSat_keep (s.hs.tok n t h) (s.hlt n t h).1 (s.hlt n t h).2 (upd_lt ρ v hN) (FH.le_refl H)
      (fun b hb => hk.block b (tokSat_new (s.hs.tok n t h) b hb).1 (fun h => h)) (fun b hb => (tokSat_new (s.hs.tok n t h) b hb).2)
  refine s.next (by omega) (upd_lt ρ v hN) (FH.le_refl H) (s.hin.keep fun b hb _ => hk.block b hb (fun h => h)) ⟨?_, ?_⟩ ⟨hk.os, hk.tape, hk.output, hk.size, fun b hb _ => hk.block b hb (fun h => h)⟩ ?_ ?_ ?_
  · intro n u h
    simp only [List.cons_append, hget] at h
    split at h
    · rename_i e; subst e; cases h; exact ht
    · exact hkeep n u h
  · intro n m u u' b h1 h2 hne hb
    simp only [List.cons_append, hget] at h1 h2
    split at h1
    · rename_i e; subst e
      rw [if_neg hne] at h2
      rw [upd_same] at hb
      rw [upd_lt ρ v hN m (s.hlt m _ h2).1]
      intro hc
      have := (tokSat_new (s.hs.tok m _ h2) b hc).1
      have := hnew b hb
      omega
    · split at h2
      · rename_i e; subst e
        rw [upd_same]
        rw [upd_lt ρ v hN n (s.hlt n _ h1).1] at hb
        intro hc
        have := (tokSat_new (s.hs.tok n _ h1) b hb).1
        have := hnew b hc
        omega
      · rw [upd_lt ρ v hN n (s.hlt n _ h1).1] at hb
        rw [upd_lt ρ v hN m (s.hlt m _ h2).1]
        exact s.hs.dis n m u u' b h1 h2 hne hb
  · intro n u b h hb
    simp only [List.cons_append, hget] at h
    split at h
    · rename_i e; subst e
      rw [upd_same] at hb
      exact .inr (hnew b hb)
    · rw [upd_lt ρ v hN n (s.hlt n _ h).1] at hb
      exact .inl ⟨n, u, h, hb⟩
  · intro n u h
    simp only [List.cons_append, hget] at h
    split at h
    · rename_i e; subst e; cases h; exact ⟨hx, hl⟩
    · exact ⟨by have := (s.hlt n u h).1; omega, Tok.lt_mono (by omega) (s.hlt n u h).2⟩
  · intro n u h
    simp only [hget] at h
    split at h
    · rename_i e; subst e
      cases ho : hget c.o N with
      | none => rfl
      | some t => have := (s.olt N t ho).1; have := s.nbx; omega
    · exact s.sep n u h

theorem hget_hset {h : Heap} {n m : Nat} {t u : Tok} (hn : hget h n = some u) : hget (hset h n t) m = if n = m then some t else hget h m := by
  induction h with
  | nil => simp [hget] at hn
  | cons x r ih =>
    obtain ⟨k, v⟩ := x
    simp only [hset, hget] at hn ⊢
    by_cases hk : k = n
    · subst hk
      simp only [if_true, hget]
      split <;> rfl
    · rw [if_neg hk] at hn ⊢
      simp only [hget]
      rw [ih hn]
      by_cases hkm : k = m
      · subst hkm
        rw [if_pos rfl, if_neg (fun e => hk e.symm), if_pos rfl]
      · rw [if_neg hkm]
        split <;> simp_all

theorem hget_hdel {h : Heap} {n m : Nat} : hget (hdel h n) m = if n = m then none else hget h m := by
  induction h with
  | nil => simp [hdel, hget]
  | cons x r ih =>
    obtain ⟨k, v⟩ := x
    simp only [hdel, hget]
    by_cases hk : k = n
    · subst hk
      rw [if_pos rfl, ih]
      by_cases hm : k = m
      · simp [hm]
      · simp [hm]
    · rw [if_neg hk]
      simp only [hget, ih]
      by_cases hm : k = m
      · subst hm
        rw [if_pos rfl, if_neg (fun e => hk e.symm), if_pos rfl]
      · simp [hm]

/-- One owned block is another one's content: the same name and value, another token. -/
theorem Sat.change {c : Ctx} {ρ : Nat → Value} {H : FH} {S : SSt} {a : Act} {w w' : World} (s : Sat P E c ρ H S a w) {n : Nat} {u : Tok} (hn : hget S.h n = some u) (t : Tok)
    (hk : Kept w (fun b => blk (ρ n) = some b) w') (ht : TokSat P E ρ H w' n t) (hl : t.lt S.nx) :
    Sat P E c ρ H { f := S.f, h := hset S.h n t, nx := S.nx } a w' := by
  have hg : ∀ m, hget (hset S.h n t ++ c.o) m = if n = m then some t else hget (S.h ++ c.o) m := by
    intro m
    rw [hget_append, hget_append, hget_hset hn]
    by_cases e : n = m <;> simp [e]
  have hn' : hget (S.h ++ c.o) n = some u := by rw [hget_append, hn]
  have hne : ∀ m k, hget (S.h ++ c.o) m = some k → n ≠ m → ∀ b, blk (ρ m) = some b → blk (ρ n) ≠ some b := fun m k hm e b hb => s.hs.dis m n k u b hm hn' (fun e' => e e'.symm) hb
  refine s.next (Nat.le_refl _) (fun _ _ => rfl) (FH.le_refl H) (s.hin.keep fun b hb ⟨o, v, hv⟩ => hk.block b hb (fun hc => ?_)) ⟨?_, ?_⟩ ⟨hk.os, hk.tape, hk.output, hk.size, fun b hb hb' => hk.block b hb (fun hc => hb' ⟨n, u, hn', hc⟩)⟩ ?_ ?_ ?_
  · have := (tokSat_new (s.hs.tok n u hn') b hc).2 o
    rw [this] at hv; cases hv
  · intro m k h
    rw [hg] at h
    split at h
    · rename_i e; subst e; cases h; exact ht
    · rename_i e
      exact tokSat_keep (s.hs.tok m k h) (s.hlt m k h).1 (s.hlt m k h).2 (fun _ _ => rfl) (FH.le_refl H)
        (fun b hb => hk.block b (tokSat_new (s.hs.tok m k h) b hb).1 (hne m k h e b hb)) (fun b hb => (tokSat_new (s.hs.tok m k h) b hb).2)
  · intro m m' k k' b h1 h2 e hb
    rw [hg] at h1 h2
    have h1' : ∃ k, hget (S.h ++ c.o) m = some k := by
      split at h1
      · rename_i e; subst e; exact ⟨u, hn'⟩
      · exact ⟨k, h1⟩
    have h2' : ∃ k, hget (S.h ++ c.o) m' = some k := by
      split at h2
      · rename_i e; subst e; exact ⟨u, hn'⟩
      · exact ⟨k', h2⟩
    obtain ⟨_, h1'⟩ := h1'
    obtain ⟨_, h2'⟩ := h2'
    exact s.hs.dis m m' _ _ b h1' h2' e hb
  · intro m k b h hb
    rw [hg] at h
    split at h
    · rename_i e; subst e; exact .inl ⟨n, u, hn', hb⟩
    · exact .inl ⟨m, k, h, hb⟩
  · intro m k h
    rw [hg] at h
    split at h
    · rename_i e; subst e; cases h; exact ⟨(s.hlt n u hn').1, hl⟩
    · exact s.hlt m k h
  · intro m k h
    rw [hget_hset hn] at h
    split at h
    · rename_i e; subst e; exact s.sep n u hn
    · exact s.sep m k h

/-- What an owned block was is let go; a new name has what became of it. -/
theorem Sat.renew {c : Ctx} {ρ : Nat → Value} {H : FH} {S : SSt} {a : Act} {w w' : World} (s : Sat P E c ρ H S a w) {n : Nat} {u : Tok} (hn : hget S.h n = some u) {N nx' : Nat} (hN : S.nx ≤ N) (hx : N < nx') (v : Value) (t : Tok)
    (hk : Kept w (fun b => blk (ρ n) = some b) w') (ht : TokSat P E (upd ρ N v) H w' N t) (hv : ∀ b, blk v = some b → blk (ρ n) = some b ∨ w.heap.size ≤ b) (hl : t.lt nx') :
    Sat P E c (upd ρ N v) H { f := S.f, h := (N, t) :: hdel S.h n, nx := nx' } a w' := by
  have hn' : hget (S.h ++ c.o) n = some u := by rw [hget_append, hn]
  have hnN : n < N := Nat.lt_of_lt_of_le (s.hlt n u hn').1 hN
  have hoN : hget c.o N = none := by
    cases ho : hget c.o N with
    | none => rfl
    | some t => have := (s.olt N t ho).1; have := s.nbx; omega
  have hg : ∀ m, hget (((N, t) :: hdel S.h n) ++ c.o) m = if N = m then some t else if n = m then none else hget (S.h ++ c.o) m := by
    intro m
    rw [List.cons_append]
    show (if N = m then some t else hget (hdel S.h n ++ c.o) m) = _
    rw [hget_append, hget_hdel, hget_append]
    by_cases e : n = m
    · subst e
      simp [s.sep n u hn]
    · simp [e]
  have hne : ∀ m k, hget (S.h ++ c.o) m = some k → n ≠ m → ∀ b, blk (ρ m) = some b → blk (ρ n) ≠ some b := fun m k hm e b hb => s.hs.dis m n k u b hm hn' (fun e' => e e'.symm) hb
  have hu : ∀ m k, hget (S.h ++ c.o) m = some k → upd ρ N v m = ρ m := fun m k h => upd_lt ρ v hN m (s.hlt m k h).1
  refine s.next (by omega) (upd_lt ρ v hN) (FH.le_refl H) (s.hin.keep fun b hb ⟨o, v, hv⟩ => hk.block b hb (fun hc => ?_)) ⟨?_, ?_⟩ ⟨hk.os, hk.tape, hk.output, hk.size, fun b hb hb' => hk.block b hb (fun hc => hb' ⟨n, u, hn', hc⟩)⟩ ?_ ?_ ?_
  · have := (tokSat_new (s.hs.tok n u hn') b hc).2 o
    rw [this] at hv; cases hv
  · intro m k h
    rw [hg] at h
    split at h
    · rename_i e; subst e; cases h; exact ht
    · split at h
      · cases h
      · rename_i e
        exact tokSat_keep (s.hs.tok m k h) (s.hlt m k h).1 (s.hlt m k h).2 (upd_lt ρ v hN) (FH.le_refl H)
          (fun b hb => hk.block b (tokSat_new (s.hs.tok m k h) b hb).1 (hne m k h e b hb)) (fun b hb => (tokSat_new (s.hs.tok m k h) b hb).2)
  · intro m m' k k' b h1 h2 e hb hc
    rw [hg] at h1 h2
    split at h1
    · rename_i e1; subst e1
      rw [if_neg e] at h2
      split at h2
      · cases h2
      · rename_i e2
        rw [upd_same] at hb
        rw [hu _ _ h2] at hc
        rcases hv b hb with h3 | h3
        · exact hne _ _ h2 e2 b hc h3
        · have := (tokSat_new (s.hs.tok _ _ h2) b hc).1; omega
    · split at h1
      · cases h1
      · rename_i e1
        rw [hu _ _ h1] at hb
        split at h2
        · rename_i e2; subst e2
          rw [upd_same] at hc
          rcases hv b hc with h3 | h3
          · exact hne _ _ h1 e1 b hb h3
          · have := (tokSat_new (s.hs.tok _ _ h1) b hb).1; omega
        · split at h2
          · cases h2
          · rw [hu _ _ h2] at hc
            exact s.hs.dis m m' _ _ b h1 h2 e hb hc
  · intro m k b h hb
    rw [hg] at h
    split at h
    · rename_i e; subst e
      rw [upd_same] at hb
      rcases hv b hb with h3 | h3
      · exact .inl ⟨n, u, hn', h3⟩
      · exact .inr h3
    · split at h
      · cases h
      · rw [hu _ _ h] at hb
        exact .inl ⟨m, k, h, hb⟩
  · intro m k h
    rw [hg] at h
    split at h
    · rename_i e; subst e; cases h; exact ⟨hx, hl⟩
    · split at h
      · cases h
      · exact ⟨by have := (s.hlt m k h).1; omega, Tok.lt_mono (by omega) (s.hlt m k h).2⟩
  · intro m k h
    simp only [hget] at h
    split at h
    · rename_i e; subst e; exact hoN
    · rw [hget_hdel] at h
      split at h
      · cases h
      · exact s.sep m k h

/-- A step that changes nothing that is told. -/
theorem Sat.still {c : Ctx} {ρ : Nat → Value} {H : FH} {S : SSt} {a : Act} {w w' : World} (s : Sat P E c ρ H S a w) (hh : w'.heap = w.heap) (ho : w'.os = w.os) (ht : w'.tape = w.tape) (hp : w'.output = w.output) : Sat P E c ρ H S a w' :=
  s.next (Nat.le_refl _) (fun _ _ => rfl) (FH.le_refl H) (s.hin.keep fun b _ _ => by rw [hh]) ⟨fun n t h => tokSat_keep (s.hs.tok n t h) (s.hlt n t h).1 (s.hlt n t h).2 (fun _ _ => rfl) (FH.le_refl H) (fun b _ => by rw [hh]) (fun b hb => (tokSat_new (s.hs.tok n t h) b hb).2), s.hs.dis⟩
    ⟨ho, ht, hp, by rw [hh]; exact Nat.le_refl _, fun b _ _ => by rw [hh]⟩ (fun n t b h hb => .inl ⟨n, t, h, hb⟩) s.hlt s.sep

/-! ### Fewer things told, under other names -/
mutual
def SV.ren (π : Nat → Nat) : SV → SV
  | .ptr n o => .ptr (π n) o
  | .vec n => .vec (π n)
  | .eltv n i s o => .eltv (π n) i s o
  | .eltc n o e i => .eltc (π n) o e i
  | .agg l => .agg (SV.renL π l)
  | .tup l => .tup (SV.renL π l)
  | .clo f l => .clo f (SV.renL π l)
  | .ifc t x => .ifc t (SV.ren π x)
  | .int k n => .int k n
  | .bool b => .bool b
  | .str s => .str s
  | .dat t d => .dat t d
  | .elt t d => .elt t d
  | .arrc e ds => .arrc e ds
  | .nils => .nils
  | .raw v => .raw v
  | .any => .any
def SV.renL (π : Nat → Nat) : List SV → List SV
  | [] => []
  | x :: l => SV.ren π x :: SV.renL π l
end
def Tok.ren (π : Nat → Nat) : Tok → Tok
  | .cells l => .cells (SV.renL π l)
  | .arr i e l => .arr i e l
  | .map k v f => .map k v f

theorem SV.ren_any {π : Nat → Nat} : (SV.any).ren π = .any := by simp [SV.ren]

mutual
theorem Den.unren {ρ : Nat → Value} {H : FH} {π : Nat → Nat} : ∀ {x : SV} {v}, Den P E ρ H (x.ren π) v → Den P E (fun n => ρ (π n)) H x v
  | .ptr n o, v, h => by simp only [SV.ren] at h; cases h with | ptr h => exact .ptr h
  | .vec n, v, h => by simp only [SV.ren] at h; cases h with | vec h => exact .vec h
  | .eltv n i s o, v, h => by simp only [SV.ren] at h; cases h with | eltv h => exact .eltv h
  | .eltc n o e i, v, h => by simp only [SV.ren] at h; cases h with | eltc h => exact .eltc h
  | .agg l, v, h => by simp only [SV.ren] at h; cases h with | agg h => exact .agg (DenC.unren h)
  | .tup l, v, h => by simp only [SV.ren] at h; cases h with | tup h => exact .tup (DenV.unren h)
  | .clo f l, v, h => by simp only [SV.ren] at h; cases h with | clo h => exact .clo (DenV.unren h)
  | .ifc t x, v, h => by simp only [SV.ren] at h; cases h with | ifc h => exact .ifc (Den.unren h)
  | .int k n, v, h => by simp only [SV.ren] at h; cases h with | int h => exact .int h
  | .bool b, v, h => by simp only [SV.ren] at h; cases h with | bool => exact .bool
  | .str s, v, h => by simp only [SV.ren] at h; cases h with | str h => exact .str h
  | .dat t d, v, h => by simp only [SV.ren] at h; cases h with | dat h1 h2 => exact .dat h1 h2
  | .elt t d, v, h => by simp only [SV.ren] at h; cases h with | elt h1 h2 h3 => exact .elt h1 h2 h3
  | .arrc e ds, v, h => by simp only [SV.ren] at h; cases h
  | .nils, v, h => by simp only [SV.ren] at h; cases h with | nils => exact .nils
  | .raw u, v, h => by simp only [SV.ren] at h; cases h with | raw h => exact .raw h
  | .any, v, h => .any
theorem DenC.unren {ρ : Nat → Value} {H : FH} {π : Nat → Nat} : ∀ {l : List SV} {cs}, DenC P E ρ H (SV.renL π l) cs → DenC P E (fun n => ρ (π n)) H l cs
  | [], _, h => by simp only [SV.renL] at h; cases h; exact .nil
  | x :: l, cs, h => by
    simp only [SV.renL] at h
    generalize hy : x.ren π = y at h
    cases h with
    | one h h1 h' => subst hy; exact .one (Den.unren h) h1 (DenC.unren h')
    | arrc h h' =>
      cases x <;> simp only [SV.ren] at hy <;> cases hy
      exact .arrc h (DenC.unren h')
theorem DenV.unren {ρ : Nat → Value} {H : FH} {π : Nat → Nat} : ∀ {l : List SV} {cs}, DenV P E ρ H (SV.renL π l) cs → DenV P E (fun n => ρ (π n)) H l cs
  | [], _, h => by simp only [SV.renL] at h; cases h; exact .nil
  | x :: l, cs, h => by
    simp only [SV.renL] at h
    cases h with
    | cons h h' => exact .cons (Den.unren h) (DenV.unren h')
end

theorem TokSat.unren {ρ : Nat → Value} {H : FH} {π : Nat → Nat} {w : World} {n : Nat} {t : Tok} (h : TokSat P E ρ H w (π n) (t.ren π)) : TokSat P E (fun n => ρ (π n)) H w n t := by
  cases t with
  | cells l =>
    obtain ⟨b, t, cs, h1, h2, h3, h4⟩ := h
    exact ⟨b, t, cs, h1, h2, DenC.unren h3, h4⟩
  | arr eid e l => exact h
  | map kt vt f => exact h

/-- The state S tells all that S' tells, under the names that π gives. -/
structure Le (c : Ctx) (π : Nat → Nat) (S S' : SSt) : Prop where
  f : ∀ i, (fget S'.f i).ren π = fget S.f i ∨ fget S'.f i = .any
  h : ∀ n t, hget S'.h n = some t → hget S.h (π n) = some (t.ren π)
  inj : ∀ n m t u, hget S'.h n = some t → hget S'.h m = some u → n ≠ m → π n ≠ π m
  id : ∀ n, n < c.nb → π n = n
  flt : ∀ i, (fget S'.f i).lt S'.nx
  hlt : ∀ n t, hget S'.h n = some t → n < S'.nx ∧ t.lt S'.nx
  nbx : c.nb ≤ S'.nx
end
end Go.Fw

/- The frame-work, part D: fewer things told; what is owned becomes what no longer changes. -/
namespace Go.Fw
set_option linter.unusedVariables false
set_option linter.unusedSimpArgs false
open Go

section
variable {P : Program} {E : Nat → Value}

theorem Sat.weaken {c : Ctx} {ρ : Nat → Value} {H : FH} {π : Nat → Nat} {S S' : SSt} {a : Act} {w : World} (s : Sat P E c ρ H S a w) (l : Le c π S S') : Sat P E c (fun n => ρ (π n)) H S' a w := by
  have hS : ∀ n t, hget S'.h n = some t → hget (S.h ++ c.o) (π n) = some (t.ren π) := fun n t h => by rw [hget_append, l.h n t h]
  have hO : ∀ n t, hget S'.h n = none → hget (S'.h ++ c.o) n = some t → hget c.o n = some t ∧ hget (S.h ++ c.o) n = some t ∧ π n = n := by
    intro n t h0 h
    rw [hget_append, h0] at h
    have hn := (s.olt n t h).1
    refine ⟨h, ?_, l.id n hn⟩
    rw [hget_append]
    cases h1 : hget S.h n with
    | none => exact h
    | some u => have h2 := s.sep n u h1; have h3 : hget c.o n = some t := h; rw [h3] at h2; cases h2
  have hsep : ∀ n t, hget S'.h n = some t → hget c.o n = none := by
    intro n t h
    cases h0 : hget c.o n with
    | none => rfl
    | some u =>
      have hn := (s.olt n u h0).1
      have h1 := l.h n t h
      rw [l.id n hn] at h1
      have := s.sep n _ h1
      rw [h0] at this; cases this
  refine ⟨?_, s.sz, s.df, ⟨?_, ?_⟩, s.hin, s.kept, ?_, l.flt, ?_, s.olt, l.nbx, hsep, s.glob, fun n hn => (congrArg ρ (l.id n hn)).trans (s.rho n hn), s.hle⟩
  · intro i
    rcases l.f i with h | h
    · exact Den.unren (by rw [h]; exact s.fr i)
    · rw [h]; exact .any
  · intro n t h
    cases h0 : hget S'.h n with
    | some u =>
      have h' : some u = some t := by rw [hget_append, h0] at h; exact h
      cases h'
      exact TokSat.unren (s.hs.tok _ _ (hS n _ h0))
    | none =>
      obtain ⟨h1, h2, h3⟩ := hO n t h0 h
      have hl := s.olt n t h1
      exact tokSat_keep (ρ := ρ) (s.hs.tok n t h2) hl.1 hl.2 (fun m hm => by rw [l.id m hm]) (FH.le_refl H) (fun _ _ => rfl) (fun b hb => (tokSat_new (s.hs.tok n t h2) b hb).2)
  · intro n m t u b h1 h2 hne hb
    cases hn : hget S'.h n with
    | some t' =>
      cases hm : hget S'.h m with
      | some u' => exact s.hs.dis (π n) (π m) _ _ b (hS n t' hn) (hS m u' hm) (l.inj n m t' u' hn hm hne) hb
      | none =>
        obtain ⟨h3, h4, h5⟩ := hO m u hm h2
        show blk (ρ (π m)) ≠ some b
        rw [h5]
        refine s.hs.dis (π n) m _ _ b (hS n t' hn) h4 (fun e => ?_) hb
        have := s.sep (π n) _ (l.h n t' hn)
        rw [e, h3] at this; cases this
    | none =>
      obtain ⟨h3, h4, h5⟩ := hO n t hn h1
      have hb' : blk (ρ n) = some b := by have : blk (ρ (π n)) = some b := hb; rwa [h5] at this
      cases hm : hget S'.h m with
      | some u' =>
        refine s.hs.dis n (π m) _ _ b h4 (hS m u' hm) (fun e => ?_) hb'
        have := s.sep (π m) _ (l.h m u' hm)
        rw [← e, h3] at this; cases this
      | none =>
        obtain ⟨h3', h4', h5'⟩ := hO m u hm h2
        show blk (ρ (π m)) ≠ some b
        rw [h5']
        exact s.hs.dis n m _ _ b h4 h4' hne hb'
  · intro n t b h hb
    cases hn : hget S'.h n with
    | some t' => exact s.ownb (π n) _ b (hS n t' hn) hb
    | none =>
      obtain ⟨_, h4, h5⟩ := hO n t hn h
      have hb' : blk (ρ n) = some b := by have : blk (ρ (π n)) = some b := hb; rwa [h5] at this
      exact s.ownb n t b h4 hb'
  · intro n t h
    cases hn : hget S'.h n with
    | some t' =>
      have h' : some t' = some t := by rw [hget_append, hn] at h; exact h
      cases h'
      exact l.hlt n _ hn
    | none =>
      obtain ⟨h3, _, _⟩ := hO n t hn h
      have := s.olt n t h3
      exact ⟨Nat.lt_of_lt_of_le this.1 l.nbx, Tok.lt_mono l.nbx this.2⟩

mutual
/-- In the place of a name: what it has become. -/
def SV.sub (n : Nat) (y : SV) : SV → SV
  | .vec m => if m = n then y else .vec m
  | .ptr m o => if m = n then (if o = 0 then y else .any) else .ptr m o
  | .eltv m i s o => if m = n then .any else .eltv m i s o
  | .eltc m o e i => if m = n then .any else .eltc m o e i
  | .agg l => .agg (SV.subL n y l)
  | .tup l => .tup (SV.subL n y l)
  | .clo f l => .clo f (SV.subL n y l)
  | .ifc t x => .ifc t (SV.sub n y x)
  | .int k n => .int k n
  | .bool b => .bool b
  | .str s => .str s
  | .dat t d => .dat t d
  | .elt t d => .elt t d
  | .arrc e ds => .arrc e ds
  | .nils => .nils
  | .raw v => .raw v
  | .any => .any
def SV.subL (n : Nat) (y : SV) : List SV → List SV
  | [] => []
  | x :: l => SV.sub n y x :: SV.subL n y l
end

mutual
theorem Den.sub {ρ : Nat → Value} {H H' : FH} {n : Nat} {y : SV} (hH : H.le H') (hy : Den P E ρ H' y (ρ n)) : ∀ {x : SV} {v}, Den P E ρ H x v → Den P E ρ H' (SV.sub n y x) v
  | _, _, .int h => by simp only [SV.sub]; exact .int h
  | _, _, .bool => by simp only [SV.sub]; exact .bool
  | _, _, .str h => by simp only [SV.sub]; exact .str h
  | _, _, .dat hs h => by simp only [SV.sub]; exact .dat hs (Rep.mono P E hH h)
  | _, _, .elt hs hm h => by simp only [SV.sub]; exact .elt hs (fun j v hv => hH _ _ _ (hm j v hv)) (Rep.mono P E hH h)
  | .ptr m o, _, .ptr h => by
    simp only [SV.sub]
    split
    · rename_i e; subst e
      split
      · rename_i e; subst e; rw [← h]; exact hy
      · exact .any
    · exact .ptr h
  | .vec m, _, .vec h => by
    simp only [SV.sub]
    split
    · rename_i e; subst e; exact hy
    · exact .vec h
  | .eltv m .., _, .eltv h => by
    simp only [SV.sub]
    split
    · exact .any
    · exact .eltv h
  | .eltc m .., _, .eltc h => by
    simp only [SV.sub]
    split
    · exact .any
    · exact .eltc h
  | _, _, .agg h => by simp only [SV.sub]; exact .agg (DenC.sub hH hy h)
  | _, _, .tup h => by simp only [SV.sub]; exact .tup (DenV.sub hH hy h)
  | _, _, .clo h => by simp only [SV.sub]; exact .clo (DenV.sub hH hy h)
  | _, _, .nils => by simp only [SV.sub]; exact .nils
  | _, _, .ifc h => by simp only [SV.sub]; exact .ifc (Den.sub hH hy h)
  | _, _, .raw h => by simp only [SV.sub]; exact .raw h
  | _, _, .any => by simp only [SV.sub]; exact .any
theorem DenC.sub {ρ : Nat → Value} {H H' : FH} {n : Nat} {y : SV} (hH : H.le H') (hy : Den P E ρ H' y (ρ n)) : ∀ {l : List SV} {cs}, DenC P E ρ H l cs → DenC P E ρ H' (SV.subL n y l) cs
  | _, _, .nil => by simp only [SV.subL]; exact .nil
  | _, _, .one h h1 h' => by simp only [SV.subL]; exact .one (Den.sub hH hy h) h1 (DenC.sub hH hy h')
  | _, _, .arrc h h' => by simp only [SV.subL, SV.sub]; exact .arrc (RepL.mono P E hH h) (DenC.sub hH hy h')
theorem DenV.sub {ρ : Nat → Value} {H H' : FH} {n : Nat} {y : SV} (hH : H.le H') (hy : Den P E ρ H' y (ρ n)) : ∀ {l : List SV} {vs}, DenV P E ρ H l vs → DenV P E ρ H' (SV.subL n y l) vs
  | _, _, .nil => by simp only [SV.subL]; exact .nil
  | _, _, .cons h h' => by simp only [SV.subL]; exact .cons (Den.sub hH hy h) (DenV.sub hH hy h')
end
end
end Go.Fw

/- The frame-work, part E: data taken apart into cells, and put together out of them. -/
namespace Go.Fw
set_option linter.unusedVariables false
set_option linter.unusedSimpArgs false
open Go

section
variable {P : Program} {E : Nat → Value} {ρ : Nat → Value} {H : FH}

mutual
theorem rep_len : ∀ {t : Ty} {d cs}, Rep P E H t d cs → cs.length = t.size
  | _, _, _, .int _ => rfl
  | _, _, _, .bool => rfl
  | _, _, _, .str _ => rfl
  | _, _, _, .slice .. => rfl
  | _, _, _, .strct h => by simp only [Ty.size]; exact repL_len h
  | .arr n e, _, _, .arr hn h => by
    have := repL_len h
    rw [this]
    simp only [Ty.size]
    clear this h hn
    induction n with
    | zero => simp [Ty.sizeL]
    | succ n ih => rw [List.replicate_succ]; simp only [Ty.sizeL]; rw [ih, Nat.succ_mul, Nat.add_comm]
  | _, _, _, .pnil => rfl
  | _, _, _, .ptr .. => rfl
  | _, _, _, .inil => rfl
  | _, _, _, .err => rfl
  | _, _, _, .ifc _ => rfl
theorem repL_len : ∀ {ts : List Ty} {ds cs}, RepL P E H ts ds cs → cs.length = Ty.sizeL ts
  | _, _, _, .nil => rfl
  | _, _, _, .cons h h' => by rw [List.length_append, rep_len h, repL_len h']; rfl
end

theorem sizeL_replicate (n : Nat) (e : Ty) : Ty.sizeL (List.replicate n e) = n * e.size := by
  induction n with
  | zero => simp [Ty.sizeL]
  | succ n ih => rw [List.replicate_succ]; simp only [Ty.sizeL]; rw [ih, Nat.succ_mul, Nat.add_comm]

theorem repL_get {e : Ty} : ∀ {l : List D} {xs : List Value}, RepL P E H (List.replicate l.length e) l xs → ∀ i (hi : i < l.length), Rep P E H e l[i] ((xs.drop (i * e.size)).take e.size)
  | d :: l, _, h, i, hi => by
    rw [List.length_cons, List.replicate_succ] at h
    cases h with
    | cons h h' =>
      have hl := rep_len h
      cases i with
      | zero => simp only [Nat.zero_mul, List.drop_zero, List.getElem_cons_zero]; rw [List.take_append_of_le_length (by omega), List.take_of_length_le (by omega)]; exact h
      | succ i =>
        rw [List.getElem_cons_succ]
        have := repL_get h' i (by simpa using hi)
        rw [Nat.succ_mul, Nat.add_comm, List.drop_append, ← hl]
        rw [← hl] at this
        rename_i cs1 cs2
        rw [show List.drop (cs1.length + i * cs1.length) cs1 = [] from by rw [List.drop_eq_nil_iff]; omega]
        simpa using this

theorem repL_append {ts us : List Ty} {l m : List D} {xs ys : List Value} (h : RepL P E H ts l xs) (h' : RepL P E H us m ys) : RepL P E H (ts ++ us) (l ++ m) (xs ++ ys) := by
  induction ts generalizing l xs with
  | nil => cases h; exact h'
  | cons t ts ih =>
    cases h with
    | cons h1 h2 => rw [List.cons_append, List.cons_append, List.append_assoc]; exact .cons h1 (ih h2)

theorem repL_replicate {e : Ty} {l m : List D} {xs ys : List Value} (h : RepL P E H (List.replicate l.length e) l xs) (h' : RepL P E H (List.replicate m.length e) m ys) : RepL P E H (List.replicate (l ++ m).length e) (l ++ m) (xs ++ ys) := by
  have := repL_append h h'
  rw [List.replicate_append_replicate] at this
  rwa [List.length_append]

theorem repL_take {e : Ty} {l : List D} {xs : List Value} (n : Nat) (hn : n ≤ l.length) (h : RepL P E H (List.replicate l.length e) l xs) : RepL P E H (List.replicate n e) (l.take n) (xs.take (n * e.size)) := by
  induction l generalizing n xs with
  | nil => simp at hn; subst hn; simp; exact .nil
  | cons d l ih =>
    rw [List.length_cons, List.replicate_succ] at h
    cases h with
    | cons h1 h2 =>
      have hl := rep_len h1
      cases n with
      | zero => simp; exact .nil
      | succ n =>
        rw [List.take_succ_cons, List.replicate_succ, Nat.succ_mul, Nat.add_comm, List.take_append, ← hl]
        simp only [Nat.add_sub_cancel_left, List.take_of_length_le (Nat.le_add_right _ _)]
        refine .cons h1 ?_
        have := ih n (by simpa using hn) h2
        rwa [← hl] at this

theorem repL_set {e : Ty} {l : List D} {xs : List Value} (i : Nat) (hi : i < l.length) {d : D} {cs : List Value} (h : RepL P E H (List.replicate l.length e) l xs) (hd : Rep P E H e d cs) :
    RepL P E H (List.replicate l.length e) (l.set i d) (xs.take (i * e.size) ++ cs ++ xs.drop (i * e.size + e.size)) := by
  induction l generalizing i xs with
  | nil => simp at hi
  | cons x l ih =>
    rw [List.length_cons, List.replicate_succ] at h ⊢
    cases h with
    | cons h1 h2 =>
      have hl := rep_len h1
      cases i with
      | zero =>
        simp only [Nat.zero_mul, List.take_zero, List.nil_append, Nat.zero_add, List.set_cons_zero]
        rw [← hl, List.drop_left]
        exact .cons hd h2
      | succ i =>
        have := ih i (by simpa using hi) h2
        rw [List.set_cons_succ, Nat.succ_mul, Nat.add_comm (i * e.size) e.size, List.take_append, List.drop_append, ← hl]
        simp only [Nat.add_sub_cancel_left, List.take_of_length_le (Nat.le_add_right _ _)]
        rw [← hl] at this
        have e2 : ∀ (a b : List Value) (k m : Nat), k = a.length → a.drop (k + m) = [] := fun a b k m h => by rw [List.drop_eq_nil_iff]; omega
        rename_i cs1 cs2
        rw [show List.drop (cs1.length + i * cs1.length + cs1.length) cs1 = [] from by rw [List.drop_eq_nil_iff]; omega]
        rw [show cs1.length + i * cs1.length + cs1.length - cs1.length = i * cs1.length + cs1.length from by omega]
        simp only [List.nil_append, List.append_assoc] at this ⊢
        exact .cons h1 this

/-! ### A datum's cells -/
mutual
def explode : Ty → D → List SV
  | .int k, d => [.int k d.i]
  | .bool, d => [.bool d.b]
  | .str, d => [.str d.s]
  | .strct ts, d => explodeL ts d 0
  | .arr _ e, d => [.arrc e d.l]
  | .slice e, d => [.dat (.slice e) d]
  | .ptr e, d => [.dat (.ptr e) d]
  | .iface, d => [.dat .iface d]
  | .fn, d => [.dat .fn d]
  | .map k v, d => [.dat (.map k v) d]
  | .other, d => [.dat .other d]
def explodeL : List Ty → D → Nat → List SV
  | [], _, _ => []
  | t :: ts, d, k => explode t (d.fld k) ++ explodeL ts d (k + 1)
end

theorem denC_append {l m : List SV} {cs cs' : List Value} (h : DenC P E ρ H l cs) (h' : DenC P E ρ H m cs') : DenC P E ρ H (l ++ m) (cs ++ cs') := by
  induction l generalizing cs with
  | nil => cases h; exact h'
  | cons x l ih =>
    cases h with
    | one h h1 h2 => exact .one h h1 (ih h2)
    | arrc h h2 => rw [List.cons_append, List.append_assoc]; exact .arrc h (ih h2)

mutual
theorem rep_explode (hE : ∀ k, (E k).oneCell' = true) : ∀ {t : Ty} {d cs}, Rep P E H t d cs → DenC P E ρ H (explode t d) cs
  | _, _, _, .int h => by simp only [explode]; exact .one (.int h) rfl .nil
  | _, _, _, .bool => by simp only [explode]; exact .one .bool rfl .nil
  | _, _, _, .str h => by simp only [explode]; exact .one (.str h) rfl .nil
  | _, _, _, .slice a b c d z e f => by simp only [explode]; exact .one (.dat rfl (.slice a b c d z e f)) rfl .nil
  | _, _, _, .strct h => by simp only [explode]; exact repL_explode hE h 0 _ (fun k => by simp [D.fld, D.fs])
  | _, _, _, .arr hn h => by subst hn; simp only [explode, D.l]; have := DenC.arrc (ρ := ρ) h .nil; rwa [List.append_nil] at this
  | _, _, _, .pnil => by simp only [explode]; exact .one (.dat rfl .pnil) rfl .nil
  | _, _, _, .ptr a b c => by simp only [explode]; exact .one (.dat rfl (.ptr a b c)) rfl .nil
  | _, _, _, .inil => by simp only [explode]; exact .one (.dat rfl .inil) rfl .nil
  | _, _, _, .err => by simp only [explode]; exact .one (.dat rfl .err) (hE _) .nil
  | _, _, _, .ifc h => by simp only [explode]; exact .one (.dat rfl (.ifc h)) rfl .nil
theorem repL_explode (hE : ∀ k, (E k).oneCell' = true) : ∀ {ts : List Ty} {ds cs}, RepL P E H ts ds cs → ∀ (k : Nat) (d : D), (∀ j, d.fld (k + j) = ds.getD j .nil) → DenC P E ρ H (explodeL ts d k) cs
  | _, _, _, .nil, _, _, _ => by simp only [explodeL]; exact .nil
  | _, _, _, .cons h h', k, d, hd => by
    simp only [explodeL]
    have h0 := hd 0
    simp only [Nat.add_zero, List.getD_cons_zero] at h0
    rw [h0]
    exact denC_append (rep_explode hE h) (repL_explode hE h' (k + 1) d (fun j => by have := hd (j + 1); simpa [Nat.add_assoc, Nat.add_comm 1 j] using this))
end

/-- What one cell of a type is as data. -/
def toD1 : Ty → SV → Option D
  | .int k, .int k' n => if k = k' then some (.int n) else none
  | .bool, .bool b => some (.bool b)
  | .str, .str s => some (.str s)
  | .slice e, .dat (.slice e') d => if e = e' then some d else none
  | .slice _, .nils => some (.list [])
  | .ptr e, .dat (.ptr e') d => if e = e' then some d else none
  | .iface, .dat .iface d => some d
  | .arr n e, .arrc (.int k) ds => match e with | .int k' => if k = k' ∧ ds.length = n then some (.list ds) else none | _ => none
  | _, _ => none
mutual
/-- Cells of a type put together, and what is left. -/
def toD : Ty → List SV → Option (D × List SV)
  | .strct ts, l => match toDL ts l with | some (ds, r) => some (.node ds, r) | none => none
  | .int k, x :: r => match toD1 (.int k) x with | some d => some (d, r) | none => none
  | .bool, x :: r => match toD1 .bool x with | some d => some (d, r) | none => none
  | .str, x :: r => match toD1 .str x with | some d => some (d, r) | none => none
  | .slice e, x :: r => match toD1 (.slice e) x with | some d => some (d, r) | none => none
  | .ptr e, x :: r => match toD1 (.ptr e) x with | some d => some (d, r) | none => none
  | .iface, x :: r => match toD1 .iface x with | some d => some (d, r) | none => none
  | .arr n e, x :: r => match toD1 (.arr n e) x with | some d => some (d, r) | none => none
  | _, _ => none
def toDL : List Ty → List SV → Option (List D × List SV)
  | [], l => some ([], l)
  | t :: ts, l => match toD t l with
    | some (d, r) => match toDL ts r with
      | some (ds, r') => some (d :: ds, r')
      | none => none
    | none => none
end

theorem toD1_rep {t : Ty} {x : SV} {d : D} (h : toD1 t x = some d) {r : List SV} {cs : List Value} (hd : DenC P E ρ H (x :: r) cs) : ∃ c1 c2, cs = c1 ++ c2 ∧ Rep P E H t d c1 ∧ DenC P E ρ H r c2 := by
  unfold toD1 at h
  split at h
  · split at h <;> cases h
    rename_i e; subst e
    cases hd with | one h1 _ h3 => cases h1 with | int hh => exact ⟨[_], _, rfl, .int hh, h3⟩
  · cases h
    cases hd with | one h1 _ h3 => cases h1 with | bool => exact ⟨[_], _, rfl, .bool, h3⟩
  · cases h
    cases hd with | one h1 _ h3 => cases h1 with | str hh => exact ⟨[_], _, rfl, .str hh, h3⟩
  · split at h <;> cases h
    rename_i e; subst e
    cases hd with | one h1 _ h3 => cases h1 with | dat _ hh => exact ⟨[_], _, rfl, hh, h3⟩
  · cases h
    cases hd with | one h1 _ h3 => cases h1 with | nils => exact ⟨[_], _, rfl, .slice (l := []) (fun _ => []) (Nat.le_refl _) (Nat.zero_le _) (fun h => absurd rfl h) (fun _ => rfl) (fun i hi => by simp at hi) (fun i hi => by simp at hi), h3⟩
  · split at h <;> cases h
    rename_i e; subst e
    cases hd with | one h1 _ h3 => cases h1 with | dat _ hh => exact ⟨[_], _, rfl, hh, h3⟩
  · cases h
    cases hd with | one h1 _ h3 => cases h1 with | dat _ hh => exact ⟨[_], _, rfl, hh, h3⟩
  · split at h
    · split at h <;> cases h
      rename_i e; obtain ⟨e1, e2⟩ := e; subst e1; subst e2
      cases hd with
      | one h1 _ _ => cases h1
      | arrc h1 h3 => exact ⟨_, _, rfl, .arr rfl h1, h3⟩
    · cases h
  · cases h

mutual
theorem toD_rep : ∀ {t : Ty} {l : List SV} {d : D} {r : List SV}, toD t l = some (d, r) → ∀ {cs : List Value}, DenC P E ρ H l cs → ∃ c1 c2, cs = c1 ++ c2 ∧ Rep P E H t d c1 ∧ DenC P E ρ H r c2
  | .strct ts, l, d, r, h, cs, hd => by
    simp only [toD] at h
    split at h
    · rename_i ds r' e; cases h
      obtain ⟨c1, c2, h1, h2, h3⟩ := toDL_rep e hd
      exact ⟨c1, c2, h1, .strct h2, h3⟩
    · cases h
  | .int k, x :: r', d, r, h, cs, hd => by simp only [toD] at h; split at h <;> cases h; rename_i e; exact toD1_rep e hd
  | .bool, x :: r', d, r, h, cs, hd => by simp only [toD] at h; split at h <;> cases h; rename_i e; exact toD1_rep e hd
  | .str, x :: r', d, r, h, cs, hd => by simp only [toD] at h; split at h <;> cases h; rename_i e; exact toD1_rep e hd
  | .slice _, x :: r', d, r, h, cs, hd => by simp only [toD] at h; split at h <;> cases h; rename_i e; exact toD1_rep e hd
  | .ptr _, x :: r', d, r, h, cs, hd => by simp only [toD] at h; split at h <;> cases h; rename_i e; exact toD1_rep e hd
  | .iface, x :: r', d, r, h, cs, hd => by simp only [toD] at h; split at h <;> cases h; rename_i e; exact toD1_rep e hd
  | .arr _ _, x :: r', d, r, h, cs, hd => by simp only [toD] at h; split at h <;> cases h; rename_i e; exact toD1_rep e hd
  | .int _, [], _, _, h, _, _ => by simp [toD] at h
  | .bool, [], _, _, h, _, _ => by simp [toD] at h
  | .str, [], _, _, h, _, _ => by simp [toD] at h
  | .slice _, [], _, _, h, _, _ => by simp [toD] at h
  | .ptr _, [], _, _, h, _, _ => by simp [toD] at h
  | .iface, [], _, _, h, _, _ => by simp [toD] at h
  | .arr _ _, [], _, _, h, _, _ => by simp [toD] at h
  | .fn, _, _, _, h, _, _ => by simp [toD] at h
  | .map _ _, _, _, _, h, _, _ => by simp [toD] at h
  | .other, _, _, _, h, _, _ => by simp [toD] at h
theorem toDL_rep : ∀ {ts : List Ty} {l : List SV} {ds : List D} {r : List SV}, toDL ts l = some (ds, r) → ∀ {cs : List Value}, DenC P E ρ H l cs → ∃ c1 c2, cs = c1 ++ c2 ∧ RepL P E H ts ds c1 ∧ DenC P E ρ H r c2
  | [], l, ds, r, h, cs, hd => by simp only [toDL] at h; cases h; exact ⟨[], cs, rfl, .nil, hd⟩
  | t :: ts, l, ds, r, h, cs, hd => by
    simp only [toDL] at h
    split at h
    · rename_i d r1 e
      split at h
      · rename_i ds' r2 e2; cases h
        obtain ⟨c1, c2, h1, h2, h3⟩ := toD_rep e hd
        obtain ⟨c3, c4, h4, h5, h6⟩ := toDL_rep e2 h3
        exact ⟨c1 ++ c3, c4, by rw [h1, h4, List.append_assoc], .cons h2 h5, h6⟩
      · cases h
    · cases h
end
end
end Go.Fw
