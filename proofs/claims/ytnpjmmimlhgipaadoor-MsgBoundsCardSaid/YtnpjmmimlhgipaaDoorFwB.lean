/- The frame-work, part B: what a symbolic value is worth in a memory; what a function owns; states. -/
import Derived.Test.YtnpjmmimlhgipaaDoorFwA
namespace Go.Fw
set_option linter.unusedVariables false
set_option linter.unusedSimpArgs false
open Go

def Ty.sc : Ty → Bool
  | .slice _ | .ptr _ | .iface | .fn | .map .. | .other => true
  | _ => false

section
variable (P : Program) (E : Nat → Value)

mutual
inductive Den (ρ : Nat → Value) (H : FH) : SV → Value → Prop
  | int {k : IntKind} {n : Int} (h : k.min ≤ n ∧ n ≤ k.max) : Den ρ H (.int k n) (.int k n)
  | bool {b : Bool} : Den ρ H (.bool b) (.bool b)
  | str {s : ByteArray} (h : s.size ≤ maxLen) : Den ρ H (.str s) (.string s)
  | dat {t : Ty} {d : D} {v : Value} (hs : t.sc = true) (h : Rep P E H t d [v]) : Den ρ H (.dat t d) v
  | elt {t : Ty} {d : D} {a : Addr} {cs : List Value} (hs : a.spot = none) (hm : ∀ j v, cs[j]? = some v → H a.block (a.off + j) = some v) (h : Rep P E H t d cs) : Den ρ H (.elt t d) (.pointer (some a))
  | ptr {n off b : Nat} (h : ρ n = .pointer (some ⟨b, 0, none⟩)) : Den ρ H (.ptr n off) (.pointer (some ⟨b, off, none⟩))
  | vec {n : Nat} (h : (ρ n).oneCell' = true) : Den ρ H (.vec n) (ρ n)
  | eltv {n : Nat} {i : Int} {sz off b len cap : Nat} (h : ρ n = .slice (some ⟨b, 0, none⟩) len cap) : Den ρ H (.eltv n i sz off) (.pointer (some ⟨b, i.toNat * sz + off, none⟩))
  | eltc {n off : Nat} {e : Ty} {i : Int} {b : Nat} (h : ρ n = .pointer (some ⟨b, 0, none⟩)) : Den ρ H (.eltc n off e i) (.pointer (some ⟨b, off + i.toNat * e.size, none⟩))
  | agg {l : List SV} {cs : List Value} (h : DenC ρ H l cs) : Den ρ H (.agg l) (.agg cs.toArray)
  | tup {l : List SV} {vs : List Value} (h : DenV ρ H l vs) : Den ρ H (.tup l) (.tuple vs.toArray)
  | clo {f : FuncId} {l : List SV} {vs : List Value} (h : DenV ρ H l vs) : Den ρ H (.clo f l) (.func (.func f) #[] vs.toArray)
  | nils : Den ρ H .nils (.slice none 0 0)
  | ifc {t : TypeId} {x : SV} {v : Value} (h : Den ρ H x v) : Den ρ H (.ifc t x) (.iface t v)
  | raw {v : Value} (h : v.oneCell' = true) : Den ρ H (.raw v) v
  | any {v : Value} : Den ρ H .any v
/-- A row of cells. -/
inductive DenC (ρ : Nat → Value) (H : FH) : List SV → List Value → Prop
  | nil : DenC ρ H [] []
  | one {x : SV} {v : Value} {l : List SV} {cs : List Value} (h : Den ρ H x v) (h1 : v.oneCell' = true) (h' : DenC ρ H l cs) : DenC ρ H (x :: l) (v :: cs)
  | arrc {e : Ty} {ds : List D} {cs : List Value} {l : List SV} {cs' : List Value} (h : RepL P E H (List.replicate ds.length e) ds cs) (h' : DenC ρ H l cs') : DenC ρ H (.arrc e ds :: l) (cs ++ cs')
/-- Values one by one. -/
inductive DenV (ρ : Nat → Value) (H : FH) : List SV → List Value → Prop
  | nil : DenV ρ H [] []
  | cons {x : SV} {v : Value} {l : List SV} {vs : List Value} (h : Den ρ H x v) (h' : DenV ρ H l vs) : DenV ρ H (x :: l) (v :: vs)
end

mutual
/-- All names in it lie below. -/
def SV.lt (nx : Nat) : SV → Prop
  | .ptr n _ | .vec n | .eltv n _ _ _ | .eltc n _ _ _ => n < nx
  | .agg l | .tup l | .clo _ l => SV.ltL nx l
  | .ifc _ x => SV.lt nx x
  | _ => True
def SV.ltL (nx : Nat) : List SV → Prop
  | [] => True
  | x :: l => SV.lt nx x ∧ SV.ltL nx l
end

mutual
theorem Den.congr {ρ ρ' : Nat → Value} {H H' : FH} {nx : Nat} (hρ : ∀ n, n < nx → ρ' n = ρ n) (hH : H.le H') : ∀ {x v}, x.lt nx → Den P E ρ H x v → Den P E ρ' H' x v
  | _, _, _, .int h => .int h
  | _, _, _, .bool => .bool
  | _, _, _, .str h => .str h
  | _, _, _, .dat hs h => .dat hs (Rep.mono P E hH h)
  | _, _, _, .elt hs hm h => .elt hs (fun j v hv => hH _ _ _ (hm j v hv)) (Rep.mono P E hH h)
  | _, _, hl, .ptr h => .ptr ((hρ _ hl).trans h)
  | _, _, hl, .vec h => by rw [← hρ _ hl] at h ⊢; exact .vec h
  | _, _, hl, .eltv h => .eltv ((hρ _ hl).trans h)
  | _, _, hl, .eltc h => .eltc ((hρ _ hl).trans h)
  | _, _, hl, .agg h => .agg (DenC.congr hρ hH hl h)
  | _, _, hl, .tup h => .tup (DenV.congr hρ hH hl h)
  | _, _, hl, .clo h => .clo (DenV.congr hρ hH hl h)
  | _, _, _, .nils => .nils
  | _, _, hl, .ifc h => .ifc (Den.congr hρ hH hl h)
  | _, _, _, .raw h => .raw h
  | _, _, _, .any => .any
theorem DenC.congr {ρ ρ' : Nat → Value} {H H' : FH} {nx : Nat} (hρ : ∀ n, n < nx → ρ' n = ρ n) (hH : H.le H') : ∀ {l cs}, SV.ltL nx l → DenC P E ρ H l cs → DenC P E ρ' H' l cs
  | _, _, _, .nil => .nil
  | _, _, hl, .one h h1 h' => .one (Den.congr hρ hH hl.1 h) h1 (DenC.congr hρ hH hl.2 h')
  | _, _, hl, .arrc h h' => .arrc (RepL.mono P E hH h) (DenC.congr hρ hH hl.2 h')
theorem DenV.congr {ρ ρ' : Nat → Value} {H H' : FH} {nx : Nat} (hρ : ∀ n, n < nx → ρ' n = ρ n) (hH : H.le H') : ∀ {l vs}, SV.ltL nx l → DenV P E ρ H l vs → DenV P E ρ' H' l vs
  | _, _, _, .nil => .nil
  | _, _, hl, .cons h h' => .cons (Den.congr hρ hH hl.1 h) (DenV.congr hρ hH hl.2 h')
end

mutual
theorem SV.lt_mono {nx ny : Nat} (hn : nx ≤ ny) : ∀ {x : SV}, x.lt nx → x.lt ny
  | .ptr n _, h => Nat.lt_of_lt_of_le (show n < nx from h) hn
  | .vec n, h => Nat.lt_of_lt_of_le (show n < nx from h) hn
  | .eltv n _ _ _, h => Nat.lt_of_lt_of_le (show n < nx from h) hn
  | .eltc n _ _ _, h => Nat.lt_of_lt_of_le (show n < nx from h) hn
  | .agg l, h => SV.ltL_mono hn (l := l) h
  | .tup l, h => SV.ltL_mono hn (l := l) h
  | .clo _ l, h => SV.ltL_mono hn (l := l) h
  | .ifc _ x, h => SV.lt_mono hn (x := x) h
  | .int .., _ | .bool _, _ | .str _, _ | .dat .., _ | .elt .., _ | .arrc .., _ | .nils, _ | .raw _, _ | .any, _ => trivial
theorem SV.ltL_mono {nx ny : Nat} (hn : nx ≤ ny) : ∀ {l : List SV}, SV.ltL nx l → SV.ltL ny l
  | [], _ => trivial
  | _ :: _, h => ⟨SV.lt_mono hn h.1, SV.ltL_mono hn h.2⟩
end

def Tok.lt (nx : Nat) : Tok → Prop
  | .cells l => SV.ltL nx l
  | .arr _ _ _ => True
  | .map _ _ _ => True
theorem Tok.lt_mono {nx ny : Nat} (hn : nx ≤ ny) : ∀ {t : Tok}, t.lt nx → t.lt ny
  | .cells _, h => SV.ltL_mono hn h
  | .arr _ _ _, _ => trivial
  | .map _ _ _, _ => trivial

def blk : Value → Option Nat
  | .pointer (some a) => some a.block
  | .slice (some a) _ cap => if cap = 0 then none else some a.block
  | .map (some b) => some b
  | _ => none

/-- A slice of the function's own: of no room, wherever it points; or at the front of a block of its own. -/
def Owns (w : World) (e : TypeId) (size : Nat) (v : Value) (n : Nat) (xs : List Value) : Prop :=
  xs.length = n * size ∧ (((∃ a, v = .slice a 0 0) ∧ n = 0) ∨
    ∃ g cap cur, v = .slice (some ⟨g, 0, none⟩) n cap ∧ 0 < cap ∧ w.heap[g]? = some (.cells cur e (0, 0)) ∧ n ≤ cap ∧ cap ≤ maxLen ∧ cur.size = cap * size ∧ cur.toList.take (n * size) = xs)
theorem Owns.of {w : World} {base : Nat} {e : TypeId} {size : Nat} {v : Value} {n : Nat} {xs : List Value} (h : w.ownsRow base e size v n xs) : Owns w e size v n xs := by
  refine ⟨h.1, ?_⟩
  rcases h.2 with ⟨h1, h2⟩ | ⟨g, cap, cur, hv, _, hh, h1, h2, h3, h4⟩
  · exact .inl ⟨⟨none, h1⟩, h2⟩
  · rcases Nat.eq_zero_or_pos cap with h5 | h5
    · subst h5
      have : n = 0 := by omega
      subst this
      exact .inl ⟨⟨_, hv⟩, rfl⟩
    · exact .inr ⟨g, cap, cur, hv, h5, hh, h1, h2, h3, h4⟩
theorem Owns.cells {w : World} {e : TypeId} {size : Nat} {v : Value} {n : Nat} {xs : List Value} (h : Owns w e size v n xs) {g : Nat} (hg : blk v = some g) : ∀ j u, xs[j]? = some u → w.cell? ⟨g, j, none⟩ = some u := by
  intro j u hu
  rcases h.2 with ⟨⟨a, rfl⟩, _⟩ | ⟨g', cap, cur, hv, h0, hh, h1, h2, h3, h4⟩
  · cases a <;> simp [blk] at hg
  · rw [hv] at hg
    simp only [blk] at hg
    rw [if_neg (by omega), Option.some.injEq] at hg
    subst hg
    rw [← h4, List.getElem?_take] at hu
    split at hu
    · simp only [World.cell?, hh]; simpa using hu
    · cases hu

def Ty.ag : Ty → Bool
  | .strct _ | .arr _ _ => true
  | _ => false
/-- A map by whole numbers: what it holds. -/
structure MapRep (H : FH) (k : IntKind) (t : Ty) (es : Array MapEntry) (clock : Nat) (f : Int → Option D) : Prop where
  st : MapKept.Stamped es clock
  key : ∀ x ∈ es.toList, ∃ i, x.key = .int k i ∧ k.min ≤ i ∧ i ≤ k.max
  yes : ∀ i d, f i = some d → ∃ x ∈ es.toList, x.key = .int k i ∧ ∃ cs, Rep P E H t d cs ∧ (t.ag = true → x.val = .agg cs.toArray) ∧ (t.ag = false → cs = [x.val])
  no : ∀ i, f i = none → ∀ x ∈ es.toList, x.key ≠ .int k i
theorem MapRep.mono {H H' : FH} (hh : H.le H') {k : IntKind} {t : Ty} {es : Array MapEntry} {clock : Nat} {f : Int → Option D} (h : MapRep P E H k t es clock f) : MapRep P E H' k t es clock f :=
  ⟨h.st, h.key, fun i d hf => by obtain ⟨x, h1, h2, cs, h3, h4⟩ := h.yes i d hf; exact ⟨x, h1, h2, cs, Rep.mono P E hh h3, h4⟩, h.no⟩
def TokSat (ρ : Nat → Value) (H : FH) (w : World) (n : Nat) : Tok → Prop
  | .cells l => ∃ b t cs, ρ n = .pointer (some ⟨b, 0, none⟩) ∧ w.heap[b]? = some (.cells cs.toArray t (0, 0)) ∧ DenC P E ρ H l cs ∧ ∀ o, H b o = none
  | .arr eid e l => (l ≠ [] → tyOf P 8 eid = e) ∧ ∃ xs, Owns w eid e.size (ρ n) l.length xs ∧ RepL P E H (List.replicate l.length e) l xs ∧ ∀ b, blk (ρ n) = some b → ∀ o, H b o = none
  | .map kt vt f => ∃ b es clock k, ρ n = .map (some b) ∧ w.heap[b]? = some (.map es clock) ∧ P.underlying kt = some (.int k) ∧ MapRep P E H k (tyOf P 8 vt) es clock f ∧ ∀ o, H b o = none

/-- The frozen cells are there. -/
def FHin (H : FH) (w : World) : Prop := ∀ b o v, H b o = some v → w.cell? ⟨b, o, none⟩ = some v

/-- Of what was there only owned blocks have changed. -/
structure Kept (w0 : World) (own : Nat → Prop) (w : World) : Prop where
  os : w.os = w0.os
  tape : w.tape = w0.tape
  output : w.output = w0.output
  size : w0.heap.size ≤ w.heap.size
  block : ∀ b, b < w0.heap.size → ¬ own b → w.heap[b]? = w0.heap[b]?

structure HSat (ρ : Nat → Value) (H : FH) (w : World) (h : Heap) : Prop where
  tok : ∀ n t, hget h n = some t → TokSat P E ρ H w n t
  dis : ∀ n m t u b, hget h n = some t → hget h m = some u → n ≠ m → blk (ρ n) = some b → blk (ρ m) ≠ some b

structure SSt where
  f : Fr
  h : Heap
  nx : Nat

structure Ctx where
  w0 : World
  own : Nat → Prop
  N : Nat
  o : Heap
  nb : Nat
  G : Nat → Bool
  ρ0 : Nat → Value
  H0 : FH

structure Sat (c : Ctx) (ρ : Nat → Value) (H : FH) (S : SSt) (a : Act) (w : World) : Prop where
  fr : ∀ i, Den P E ρ H (fget S.f i) (a.tmps.getD i undef)
  sz : a.tmps.size = c.N
  df : a.defers = []
  hs : HSat P E ρ H w (S.h ++ c.o)
  hin : FHin H w
  kept : Kept c.w0 c.own w
  ownb : ∀ n t b, hget (S.h ++ c.o) n = some t → blk (ρ n) = some b → c.own b ∨ c.w0.heap.size ≤ b
  flt : ∀ i, (fget S.f i).lt S.nx
  hlt : ∀ n t, hget (S.h ++ c.o) n = some t → n < S.nx ∧ t.lt S.nx
  olt : ∀ n t, hget c.o n = some t → n < c.nb ∧ t.lt c.nb
  nbx : c.nb ≤ S.nx
  sep : ∀ n t, hget S.h n = some t → hget c.o n = none
  glob : ∀ g, c.G g = true → H g 0 = some (E g)
  rho : ∀ n, n < c.nb → ρ n = c.ρ0 n
  hle : c.H0.le H
end
end Go.Fw
