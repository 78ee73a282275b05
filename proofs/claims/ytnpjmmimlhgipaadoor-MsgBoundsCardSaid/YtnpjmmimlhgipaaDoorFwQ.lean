/- The frame-work, part Q: the machine's operations turned into ours; each does what 'ev' says. -/
import Derived.Test.YtnpjmmimlhgipaaDoorFwO
namespace Go.Fw
set_option linter.unusedVariables false
set_option linter.unusedSimpArgs false
open Go

/-- What is known from outside: of a function's slots which may go round, which variables are known, which calls leave what is owned as it is. -/
structure Opts where
  N : Nat
  wr : Nat → Bool
  gl : Nat → Bool
  keep : Nat → Bool
  et : Option TypeId := none
  es : List Nat := []
  fb : List Nat := []
  fp : List (Nat × TypeId) := []
  pu : List Nat := []

def szOk (P : Program) (tid : TypeId) : Bool := (P.underlying tid).isSome && (match P.info? tid with | some i => i.size == (tyOf P 8 tid).size | none => false)
theorem szOk_spec {P : Program} {tid : TypeId} (h : szOk P tid = true) : (P.underlying tid).isSome = true ∧ (P.info? tid).map (·.size) = some (tyOf P 8 tid).size := by
  simp only [szOk, Bool.and_eq_true] at h
  refine ⟨h.1, ?_⟩
  have h2 := h.2
  split at h2
  · rename_i i hi; rw [hi]; simpa using h2
  · cases h2

def compBin (P : Program) (w : Opts) (op : BinOp) (t : TypeId) (y0 : Operand) (d : Nat) (x y : Opd) : Option IOp :=
  match P.underlying t with
  | some (.int k) => match op with
    | .shl | .shr => some (.shf d op k x y)
    | .eql | .neq | .lss | .leq | .gtr | .geq => some (.cmp d op x y)
    | .add | .sub | .mul => if w.wr d || !k.signed then some (.wrp d op k x y) else some (.bin d op k x y)
    | _ => some (.bin d op k x y)
  | some .bool => match op with
    | .eql => some (.beq d false x y)
    | .neq => some (.beq d true x y)
    | _ => none
  | some (.interface _) => match op, y0 with
    | .eql, .const .nilIface => some (.eqb d false 0 x)
    | .neq, .const .nilIface => some (.eqb d true 0 x)
    | _, _ => none
  | some (.pointer _) => match op, y0 with
    | .eql, .const (.pointer none) => some (.eqb d false 1 x)
    | .neq, .const (.pointer none) => some (.eqb d true 1 x)
    | _, _ => none
  | some (.slice _) => match op, y0 with
    | .eql, .const (.slice none 0 0) => some (.nlq d false x)
    | .neq, .const (.slice none 0 0) => some (.nlq d true x)
    | _, _ => none
  | _ => none

def cOpds : List Operand → Option (List Opd)
  | [] => some []
  | x :: l => match cOpd x, cOpds l with
    | some y, some m => some (y :: m)
    | _, _ => none

def cOpt : Option Operand → Option (Option Opd)
  | none => some none
  | some x => (cOpd x).map some

/-- Parts that are given one by one, from 0 on. -/
def inOrder : Nat → List (Nat × Operand) → Option (List Operand)
  | _, [] => some []
  | k, (i, x) :: l => if i = k then (inOrder (k + 1) l).map (x :: ·) else none

def elemI (P : Program) (tid : TypeId) : Option (TypeId × Nat × D) :=
  match P.underlying tid with
  | some (.slice eid) => match P.info? eid with
    | some i => match i.zero with
      | some z => match zpar (tyOf P 8 eid) z.cells.toList with
        | some (l, []) => match toD (tyOf P 8 eid) l with
          | some (d, []) => if i.size = (tyOf P 8 eid).size ∧ z.cells.size = (tyOf P 8 eid).size ∧ 0 < (tyOf P 8 eid).size ∧ 0 < i.bytes then some (eid, i.bytes, d) else none
          | _ => none
        | _ => none
      | none => none
    | none => none
  | _ => none

theorem elemI_spec {P : Program} {E : Nat → Value} {tid eid : TypeId} {bytes : Nat} {d : D} (h : elemI P tid = some (eid, bytes, d)) : ∃ z, ElemOk P tid eid bytes z ∧ ∀ H, Rep P E H (tyOf P 8 eid) d z.cells.toList := by
  unfold elemI at h
  split at h
  · rename_i eid' hu
    split at h
    · rename_i i hi
      split at h
      · rename_i z hz
        split at h
        · rename_i l e1
          split at h
          · rename_i d' e2
            split at h
            · rename_i hc; cases h
              refine ⟨z, ⟨hu, ⟨i, hi, hc.1, rfl, hz⟩, hc.2.1, hc.2.2.1, hc.2.2.2⟩, fun H => ?_⟩
              obtain ⟨c1, h1, h2, h3⟩ := zpar_den (P := P) (E := E) (ρ := fun _ => undef) (H := H) e1
              rw [List.append_nil] at h1
              rw [h1]
              exact toD_all e2 h2
            · cases h
          · cases h
        · cases h
      · cases h
    · cases h
  · cases h

def agV : Value → Bool
  | .agg _ => true
  | _ => false
/-- A map's key and element: the key's kind, what a key that is not there has. -/
def mapI (P : Program) (t : TypeId) : Option (TypeId × TypeId × IntKind × D) :=
  match P.underlying t with
  | some (.map kt vt) => match P.underlying kt with
    | some (.int k) => match P.info? vt with
      | some i => match i.zero with
        | some z => match zpar (tyOf P 8 vt) z.cells.toList with
          | some (l, []) => match toD (tyOf P 8 vt) l with
            | some (d, []) => if i.size = (tyOf P 8 vt).size ∧ z.cells.size = (tyOf P 8 vt).size ∧ szOk P vt = true ∧ agV z = (tyOf P 8 vt).ag then some (kt, vt, k, d) else none
            | _ => none
          | _ => none
        | none => none
      | none => none
    | _ => none
  | _ => none
theorem mapI_spec {P : Program} {E : Nat → Value} {t kt vt : TypeId} {k : IntKind} {d : D} (h : mapI P t = some (kt, vt, k, d)) :
    P.underlying t = some (.map kt vt) ∧ P.underlying kt = some (.int k) ∧ szOk P vt = true ∧ ∃ z, (∀ w, (zeroValue vt).run P w = .ok z w) ∧ agV z = (tyOf P 8 vt).ag ∧ ∀ H, Rep P E H (tyOf P 8 vt) d z.cells.toList := by
  unfold mapI at h
  split at h
  · rename_i kt' vt' hu
    split at h
    · rename_i k' hk
      split at h
      · rename_i i hi
        split at h
        · rename_i z hz
          split at h
          · rename_i l e1
            split at h
            · rename_i d' e2
              split at h
              · rename_i hc; cases h
                refine ⟨hu, hk, hc.2.2.1, z, fun w => by simp [zeroValue, typeInfo, hi, hz, Sem.run_bind, Sem.run, pure], hc.2.2.2, fun H => ?_⟩
                obtain ⟨c1, h1, h2, h3⟩ := zpar_den (P := P) (E := E) (ρ := fun _ => undef) (H := H) e1
                rw [List.append_nil] at h1
                rw [h1]
                exact toD_all e2 h2
              · cases h
            · cases h
          · cases h
        · cases h
      · cases h
    · cases h
  · cases h

def callOk (P : Program) (f : FuncId) : Bool := match P.funcs[f]? with
  | some fn => fn.body.isSome && !(fn.name == "runtime.NumGoroutine")
  | none => false
def sliceOf (P : Program) (t : TypeId) : Option TypeId := match P.underlying t with
  | some (.slice e) => some e
  | _ => none
def compCall (P : Program) (w : Opts) (c : Call) (d : Nat) : Option IOp :=
  match c.callee with
  | .builtin .len => match c.args.toList, c.argTypes.toList with
    | [x], [t] => match P.underlying t, cOpd x with
      | some (.slice _), some x' => some (.len d false x')
      | some .string, some x' => some (.len d true x')
      | _, _ => none
    | _, _ => none
  | .builtin .append => match c.args.toList, c.argTypes.toList with
    | [x, y], [t, t'] => if t = t' then match elemI P t, cOpd x, cOpd y with
      | some (eid, bytes, _), some x', some y' => some (.app d eid (tyOf P 8 eid) bytes x' y')
      | _, _, _ => none else none
    | _, _ => none
  | .builtin .min => (cOpds c.args.toList).map fun l => .mmx d false l
  | .builtin .max => (cOpds c.args.toList).map fun l => .mmx d true l
  | .value f => match cOpd f, cOpds c.args.toList with
    | some f', some l => some (.call d f' l (c.argTypes.toList.map (sliceOf P)) (!w.keep d))
    | _, _ => none
  | .builtin .delete => match c.args.toList, c.argTypes.toList with
    | [m, i], [t, _] => match mapI P t, cOpd m, cOpd i with
      | some (kt, vt, k, _), some m', some i' => some (.mdl d kt vt k m' i')
      | _, _, _ => none
    | _, _ => none
  | _ => none

def isU8 (P : Program) (e : TypeId) : Bool := match P.underlying e with
  | some (.int .u8) => true
  | _ => false
theorem isU8_spec {P : Program} {e : TypeId} (h : isU8 P e = true) : P.underlying e = some (.int .u8) := by
  unfold isU8 at h
  split at h
  · assumption
  · cases h

def compCvt (P : Program) (src dst : TypeId) (d : Nat) (x : Opd) : Option IOp :=
  match P.underlying src with
  | some (.int _) => match P.underlying dst with
    | some (.int k) => some (.cnv d k x)
    | _ => none
  | some (.slice e) => if src = dst ∧ isU8 P e = true then some (.cvs d x) else none
  | _ => none

/-- Two interface values: known errors. -/
def compIfq (P : Program) (w : Opts) (op : BinOp) (t : TypeId) (d : Nat) (x y : Opd) : Option IOp :=
  match P.underlying t, w.et with
  | some (.interface _), some et => if w.es.all w.gl = true then match op with
    | .eql => some (.ifq d false et w.es x y)
    | .neq => some (.ifq d true et w.es x y)
    | _ => none else none
  | _, _ => none

/-- A struct's zero value, field by field. -/
def offsOk (P : Program) : Nat → List Field → Option (List Nat)
  | _, [] => some []
  | off, f :: fs => match P.info? f.type with
    | some i => if f.offset = off then (offsOk P (off + i.size) fs).map (i.size :: ·) else none
    | none => none
def segsZ : List Nat → List SV → Option (List (List SV))
  | [], [] => some []
  | [], _ => none
  | sz :: r, l => match takeC sz l with
    | some (a, b) => (segsZ r b).map (a :: ·)
    | none => none
def bldZ (P : Program) (t : TypeId) (fs : List Field) : Option (List (List SV)) := match offsOk P 0 fs, zsv P t with
  | some szs, some z => segsZ szs z
  | _, _ => none
def cParts : List (Nat × Operand) → Option (List (Nat × Opd))
  | [] => some []
  | (i, x) :: l => match cOpd x, cParts l with
    | some y, some m => some ((i, y) :: m)
    | _, _ => none
/-- A pointer type's zero value is nil. -/
def nilOk (P : Program) (t : TypeId) : Bool := match P.info? t with
  | some i => match i.zero with
    | some (.pointer none) => true
    | _ => false
  | none => false
theorem nilOk_spec {P : Program} {t : TypeId} (h : nilOk P t = true) (w : World) : (zeroValue t).run P w = .ok (.pointer none) w := by
  unfold nilOk at h
  split at h
  · rename_i i hi
    split at h
    · rename_i hz; simp [zeroValue, typeInfo, hi, hz, Sem.run_bind, Sem.run, pure]
    · cases h
  · cases h

/-- A struct of whole numbers alone. -/
def flatF (P : Program) (f : Field) (i : Nat) : Bool := f.name != "_" && f.offset == i && (match P.underlying f.type with | some (.int _) => true | _ => false)
def flatFs (P : Program) : List Field → Nat → Bool
  | [], _ => true
  | f :: l, i => flatF P f i && flatFs P l (i + 1)
/-- Two strings; two structs of whole numbers. -/
def compStr (P : Program) (op : BinOp) (t : TypeId) (d : Nat) (x y : Opd) : Option IOp :=
  match P.underlying t, op with
  | some .string, .eql => some (.seq d false x y)
  | some .string, .neq => some (.seq d true x y)
  | some (.struct fs), .eql => if P.stoodInHeld t = false ∧ P.eqGuardType P.depth t = false ∧ flatFs P fs.toList 0 = true then some (.agq d false fs.size x y) else none
  | some (.struct fs), .neq => if P.stoodInHeld t = false ∧ P.eqGuardType P.depth t = false ∧ flatFs P fs.toList 0 = true then some (.agq d true fs.size x y) else none
  | _, _ => none
/-- The constant 0. -/
def isZ : Operand → Bool
  | .const (.int .i64 0) => true
  | _ => false
theorem isZ_spec {x : Operand} (h : isZ x = true) : x = .const (.int .i64 0) := by
  unfold isZ at h
  split at h
  · rfl
  · cases h

def comp (P : Program) (w : Opts) (o : Oper) : Option IOp :=
  match o.op, o.dst with
  | .move x, some d => if d < w.N then (cOpd x).map (.mov d) else none
  | .assign x, some d => if d < w.N then (cOpd x).map (.mov d) else none
  | .binOp op t x y _, some d => if d < w.N then match cOpd x, cOpd y with
    | some x', some y' => match compBin P w op t y d x' y' with
      | some i => some i
      | none => match compIfq P w op t d x' y' with
        | some i => some i
        | none => compStr P op t d x' y'
    | _, _ => none else none
  | .unOp op _ x, some d => if d < w.N then (cOpd x).map (.una d op) else none
  | .convert src dst x, some d => if d < w.N then match cOpd x with
    | some x' => compCvt P src dst d x'
    | none => none else none
  | .alloc t, some d => if d < w.N then (zsv P t).map (.alc d) else none
  | .box t x, some d => if d < w.N then (cOpd x).map (fun x => if w.fb.contains d then .bxf d (tyOf P 8 t) x else .box d 0 x) else none
  | .load t x, some d => if d < w.N ∧ szOk P t = true then match x with
    | .global g => if w.gl g = true ∧ isAgg (tyOf P 8 t) = false then some (.gld d g) else none
    | x => (cOpd x).map (.ld d (tyOf P 8 t)) else none
  | .store t a x, none => if szOk P t = true then match cOpd a, cOpd x with
    | some a', some x' => some (.st (tyOf P 8 t) a' x')
    | _, _ => none else none
  | .fieldAddr s x k, some d => if d < w.N then match P.underlying s, cOpd x with
    | some (.struct fs), some x' => match fs[k]? with
      | some f => if szOk P f.type = true ∧ 0 < (tyOf P 8 f.type).size ∧ Ty.sizeL ((fs.toList.take k).map fun f => tyOf P 7 f.type) = f.offset then some (.fad d k f.offset (tyOf P 7 f.type) s x') else none
      | none => none
    | _, _ => none else none
  | .indexAddr t x i, some d => if d < w.N then match P.underlying t, cOpd x, cOpd i with
    | some (.slice eid), some x', some i' => if szOk P eid = true then some (.iad d eid (tyOf P 8 eid) x' i') else none
    | some (.array n eid), some x', some i' => if (P.info? eid).map (·.size) = some (tyOf P 7 eid).size then some (.aad d n (tyOf P 7 eid) x' i') else none
    | _, _, _ => none else none
  | .call c, some d => if d < w.N then compCall P w c d else none
  | .makeSlice t l c, some d => if d < w.N then match elemI P t, cOpd l, cOpd c with
    | some (eid, bytes, z), some l', some c' => some (.mk d eid (tyOf P 8 eid) bytes z l' c')
    | _, _, _ => none else none
  | .buildSlice t n ps, some d => if d < w.N then match elemI P t, inOrder 0 ps.toList with
    | some (eid, _, _), some xs => match cOpds xs with
      | some xs' => if xs.length = n ∧ n * (tyOf P 8 eid).size ≤ 16777216 then (if w.fb.contains d then some (.bsf d eid (tyOf P 8 eid) xs') else some (.bsl d eid (tyOf P 8 eid) xs')) else none
      | none => none
    | _, _ => none else none
  | .slice t x lo hi none, some d => if d < w.N then match P.underlying t, cOpd x, cOpt lo, cOpt hi with
    | some (.slice eid), some x', some lo', some hi' => if szOk P eid = true then some (.slc d eid x' lo' hi') else none
    | _, _, _, _ => none else none
  | .nilCheck x, some d => if d < w.N then (cOpd x).map (.nlc d) else none
  | .extract x i, some d => if d < w.N then (cOpd x).map (.ext d i) else none
  | .makeInterface t x, some d => if d < w.N then match P.underlying t, cOpd x with
    | some (.pointer e), some x' => some (.mif d t (tyOf P 8 t) (tyOf P 8 e) x')
    | _, _ => none else none
  | .pick c x y, some d => if d < w.N then match cOpd c, cOpd x, cOpd y with
    | some c', some x', some y' => some (.pck d c' x' y')
    | _, _, _ => none else none
  | .field st x k, some d => if d < w.N then match P.underlying st, cOpd x with
    | some (.struct fs), some x' => match fs[k]? with
      | some f => if szOk P f.type = true then some (.fld d f.offset (tyOf P 8 f.type).size (isAgg (tyOf P 8 f.type)) x') else none
      | none => none
    | _, _ => none else none
  | .build t ps, some d => if d < w.N then match P.underlying t with
    | some (.struct fs) => match bldZ P t fs.toList, cParts ps.toList with
      | some zs, some ps' => some (.bld d zs ps')
      | _, _ => none
    | _ => none else none
  | .typeAssert x _ t true, some d => if d < w.N then match P.underlying t, cOpd x with
    | some (.pointer e), some x' => if nilOk P t = true then some (.tas d (w.et.getD t) t e x') else none
    | _, _ => none else none
  | .slice t x none (some hi) (some mx), some d => if d < w.N ∧ isZ hi = true ∧ isZ mx = true then match P.underlying t, cOpd x with
    | some (.slice eid), some x' => if szOk P eid = true then some (.sl0 d eid (tyOf P 8 eid) x') else none
    | _, _ => none else none
  | .makeFunc (.func f) first caps, some d => if d < w.N ∧ first.size = 0 then match cOpds caps.toList with
    | some l => some (.clo d f l)
    | none => none else none
  | .makeMap t none, some d => if d < w.N then match mapI P t with
    | some (kt, vt, _, _) => some (.mkm d kt vt)
    | none => none else none
  | .lookup t x i ok, some d => if d < w.N then match mapI P t, cOpd x, cOpd i with
    | some (kt, vt, k, z), some x', some i' => some (.lkp d kt vt k (tyOf P 8 vt) z ok x' i')
    | _, _, _ => none else none
  | .mapUpdate t m i v, none => match mapI P t, cOpd m, cOpd i, cOpd v with
    | some (kt, vt, k, _), some m', some i', some v' => some (.mup kt vt k (tyOf P 8 vt) m' i' v')
    | _, _, _, _ => none
  | _, _ => none

section
variable {P : Program} {E : Nat → Value}

theorem Sat.opds {c : Ctx} {ρ : Nat → Value} {H : FH} {S : SSt} {a : Act} {w : World} (s : Sat P E c ρ H S a w) : ∀ {xs : List Operand} {xs' : List Opd}, cOpds xs = some xs' → DenV P E ρ H (ogets xs' S.f) (xs.map a.eval) ∧ SV.ltL S.nx (ogets xs' S.f) := by
  intro xs
  induction xs with
  | nil => intro xs' h; simp only [cOpds] at h; cases h; exact ⟨.nil, trivial⟩
  | cons x xs ih =>
    intro xs' h
    simp only [cOpds] at h
    split at h
    · rename_i y m e1 e2; cases h
      have := s.opd e1
      have h2 := ih e2
      exact ⟨.cons this.1 h2.1, this.2, h2.2⟩
    · cases h

theorem Sat.opt {c : Ctx} {ρ : Nat → Value} {H : FH} {S : SSt} {a : Act} {w : World} (s : Sat P E c ρ H S a w) {x : Option Operand} {x' : Option Opd} (h : cOpt x = some x') :
    x'.map (oget · S.f) = none ∧ x.map a.eval = none ∨ ∃ y u, x'.map (oget · S.f) = some y ∧ x.map a.eval = some u ∧ Den P E ρ H y u := by
  cases x with
  | none => simp only [cOpt] at h; cases h; exact .inl ⟨rfl, rfl⟩
  | some x =>
    simp only [cOpt, Option.map_eq_some_iff] at h
    obtain ⟨y, h1, rfl⟩ := h
    exact .inr ⟨_, _, rfl, rfl, (s.opd h1).1⟩

theorem inOrder_zip {a : Act} : ∀ {ps : List (Nat × Operand)} {k : Nat} {xs : List Operand}, inOrder k ps = some xs → ps.map (fun p => (p.1, a.eval p.2)) = ((xs.map a.eval).zipIdx k).map fun x => (x.2, x.1) := by
  intro ps
  induction ps with
  | nil => intro k xs h; simp only [inOrder] at h; cases h; rfl
  | cons p ps ih =>
    intro k xs h
    obtain ⟨i, x⟩ := p
    simp only [inOrder] at h
    split at h
    · rename_i e; subst e
      obtain ⟨ys, h1, rfl⟩ := Option.map_eq_some_iff.1 h
      simp only [List.map_cons, List.zipIdx_cons]
      rw [ih h1]
    · cases h
end
end Go.Fw
