/- Chapter 15: the document's points. -/
import Derived.Test.YtmjenjccinfbaaaDoorPntK
import Derived.Test.YtmjenjccinfbaaaDoorLsnR
namespace Go.Proofs.YtmjenjccinfbaaaDoor
set_option linter.unusedVariables false
set_option linter.unusedSimpArgs false
open Go Go.Fw
attribute [local go_sem] walkSet evMdl evMupD evMup evLkp frpL eltP eltV eltK preF preP prePt prePd frzP evNlq ev frOf oget ogets argSs argS evCat evMm frzL evBin evWrp evShf evCmp evUna evNil evBeq evLd evSt evFad evIad evAad evLen evSln evEls evApp evParts evSlc evNlc evMif evPck evFld evBld evTas evIfq evSeq evSl0 evBxf evAgl evAgq evBsf hget hset hdel cellAt arrAt setCellAt setArrAt takeC lenC svCells SV.okc SV.one ldSV Fw.isAgg explode explodeL toD toDL toD1 Ty.size Ty.sizeL frz1 Fr.sub Heap.sub Tok.sub SV.sub SV.subL

abbrev redT : Ty := .strct [.int .i64, .int .i64, .int .i64, .int .i64, .int .i64, .int .i64, .int .i64, .slice 5, .slice 5, .bool]
/-- What was sent, of a record. -/
def snt (d : D) : D := sent3 (d.fld 0).i (d.fld 3).i (d.fld 9).b
theorem snt_at {L : List D} {k : Nat} (h : k < L.length) : (L.map snt).getD k .nil = snt (L.getD k .nil) := by
  rw [List.getD_eq_getElem?_getD, List.getD_eq_getElem?_getD, List.getElem?_map, List.getElem?_eq_getElem h]
  rfl
noncomputable def cntF (l F : List D) : Nat := Classical.choose (cnt_ex l F)
theorem cntF_is (l F : List D) : isCnt l F (cntF l F) := Classical.choose_spec (cnt_ex l F)
theorem cntF_eq {l F : List D} {c : Nat} (h : isCnt l F c) : cntF l F = c := cnt_one (cntF_is l F) h
/-- The numbers rise, all above one. -/
def risS (s : Int) (l : List D) : Prop := (∀ i, i < l.length → s < ((l.getD i .nil).fld 0).i) ∧ ∀ i j, i < j → j < l.length → ((l.getD i .nil).fld 0).i < ((l.getD j .nil).fld 0).i
theorem vcA_lt {s : Int} {l : List D} (h : risS s l) : ∀ {c i : Nat}, c ≤ l.length → i < l.length → (((l.getD i .nil).fld 0).i ≤ vcA s l c ↔ i < c)
  | 0, i, hc, hi => by
    have := h.1 i hi
    show _ ≤ s ↔ _
    omega
  | c + 1, i, hc, hi => by
    show _ ≤ ((l.getD c .nil).fld 0).i ↔ _
    rcases Nat.lt_trichotomy i c with e | e | e
    · have := h.2 i c e (by omega); omega
    · subst e; omega
    · have := h.2 c i e hi; omega
/-- The last number behind which the database is consistent, of those that are not above one. -/
def vdR (s v : Int) (l : List D) : Nat → Int
  | 0 => s
  | k + 1 => if ((l.getD k .nil).fld 0).i ≤ v ∧ ((l.getD k .nil).fld 2).b = true then ((l.getD k .nil).fld 0).i else vdR s v l k
theorem vdR_eq {s : Int} {l : List D} (h : risS s l) {c : Nat} (hc : c ≤ l.length) : ∀ k, k ≤ l.length → vdR s (vcA s l c) l k = vdA s l (min k c)
  | 0, _ => by rw [Nat.zero_min]; rfl
  | k + 1, hk => by
    have h1 := vcA_lt h hc (i := k) (by omega)
    have ih := vdR_eq h hc k (by omega)
    show (if ((l.getD k .nil).fld 0).i ≤ vcA s l c ∧ ((l.getD k .nil).fld 2).b = true then ((l.getD k .nil).fld 0).i else vdR s (vcA s l c) l k) = _
    by_cases e : k < c
    · rw [Nat.min_eq_left (by omega)]
      show _ = (if ((l.getD k .nil).fld 2).b then ((l.getD k .nil).fld 0).i else vdA s l k)
      rw [ih, Nat.min_eq_left (by omega)]
      by_cases hb : ((l.getD k .nil).fld 2).b = true
      · rw [if_pos ⟨h1.2 e, hb⟩, if_pos hb]
      · rw [if_neg (fun x => hb x.2), if_neg hb]
    · rw [if_neg (fun x => e (h1.1 x.1)), ih, Nat.min_eq_right (by omega), Nat.min_eq_right (by omega)]
/-- How many are above a number. -/
def leftR (v : Int) (l : List D) : Nat → Nat
  | 0 => 0
  | k + 1 => if v < ((l.getD k .nil).fld 0).i then leftR v l k + 1 else leftR v l k
theorem leftR_eq {s : Int} {l : List D} (h : risS s l) {c : Nat} (hc : c ≤ l.length) : ∀ k, k ≤ l.length → leftR (vcA s l c) l k = k - c
  | 0, _ => by rw [Nat.zero_sub]; rfl
  | k + 1, hk => by
    have h1 := vcA_lt h hc (i := k) (by omega)
    have ih := leftR_eq h hc k (by omega)
    show (if vcA s l c < ((l.getD k .nil).fld 0).i then leftR (vcA s l c) l k + 1 else leftR (vcA s l c) l k) = _
    rw [ih]
    split <;> omega
/-- The document's object. -/
def rpC (g s : Int) (sp : List D) (u v : Nat) : Tok := .cells [.int .i64 g, .int .i64 s, .dat (.slice 41) (.list sp), .vec u, .vec v]
theorem rpC_def (g s : Int) (sp : List D) (u v : Nat) : rpC g s sp u v = .cells [.int .i64 g, .int .i64 s, .dat (.slice 41) (.list sp), .vec u, .vec v] := rfl
def qOk (r : Option Tok) : Prop := ∃ g s sp u v, r = some (rpC g s sp u v)
def qG (r : Option Tok) : Int := match r with | some (.cells [.int _ g, _, _, _, _]) => g | _ => 0
def qS (r : Option Tok) : Int := match r with | some (.cells [_, .int _ s, _, _, _]) => s | _ => 0
def qP (r : Option Tok) : List D := match r with | some (.cells [_, _, .dat _ (.list s), _, _]) => s | _ => []
def qU (r : Option Tok) : Nat := match r with | some (.cells [_, _, _, .vec u, _]) => u | _ => 0
def qV (r : Option Tok) : Nat := match r with | some (.cells [_, _, _, _, .vec u]) => u | _ => 0
section
variable (k : IntKind) (t : Ty) (sp : List D) (u v : Nat) (g s : Int) (x1 x2 x3 x4 : SV)
theorem qOk_c : qOk (some (.cells [.int .i64 g, .int .i64 s, .dat (.slice 41) (.list sp), .vec u, .vec v])) = True := eq_true ⟨g, s, sp, u, v, rfl⟩
theorem qG_c : qG (some (.cells [.int k g, x1, x2, x3, x4])) = g := rfl
theorem qS_c : qS (some (.cells [x1, .int k g, x2, x3, x4])) = g := rfl
theorem qP_c : qP (some (.cells [x1, x2, .dat t (.list sp), x3, x4])) = sp := rfl
theorem qU_c : qU (some (.cells [x1, x2, x3, .vec u, x4])) = u := rfl
theorem qV_c : qV (some (.cells [x1, x2, x3, x4, .vec u])) = u := rfl
end
def rrOk (r : Option Tok) : Prop := ∃ l, r = some (.arr 34 redT l)
theorem rrOk_c (l : List D) : rrOk (some (.arr 34 (.strct [.int .i64, .int .i64, .int .i64, .int .i64, .int .i64, .int .i64, .int .i64, .slice 5, .slice 5, .bool]) l)) = True := eq_true ⟨l, rfl⟩

def WRVCL : Opts := mkWE 51 [] [] [] 171 [] []
def icRVCL : IC := (.seq (.seq (.ops [(.u (.mov 2 (.c (.int .i64 0))))]) (.tr [0])) (.seq (.seq (.ops [(.u (.mov 5 (.s 0))), (.u (.nlc 6 (.s 5))), (.u (.fad 7 1 1 (.int .i64) 82 (.s 6))), (.u (.ld 8 (.int .i64) (.s 7))), (.u (.mov 3 (.s 8)))]) (.tr [0, 3])) (.seq (.seq (.seq (.ops [(.u (.mov 4 (.c (.int .i64 0))))]) (.tr [0, 4, 3])) (.block 0 (.loop (.seq (.seq (.seq (.ops [(.u (.mov 9 (.s 4))), (.u (.mov 10 (.s 0))), (.u (.nlc 11 (.s 10))), (.u (.fad 12 3 3 (.slice 34) 82 (.s 11))), (.u (.ld 13 (.slice 34) (.s 12))), (.u (.len 14 false (.s 13))), (.u (.cmp 15 .lss (.s 9) (.s 14)))]) (.tr [15, 4, 0, 3])) (.cond (.s 15) .skip (.exit 0))) (.seq (.block 1 (.seq (.seq (.seq (.rgn [] [(false, (.u (.mov 18 (.s 0)))), (false, (.u (.nlc 19 (.s 18)))), (false, (.u (.fad 20 3 3 (.slice 34) 82 (.s 19)))), (false, (.u (.ld 21 (.slice 34) (.s 20)))), (false, (.u (.mov 22 (.s 4)))), (false, (.u (.iad 23 34 (.strct [(.int .i64), (.int .i64), (.int .i64), (.int .i64), (.int .i64), (.int .i64), (.int .i64), (.slice 5), (.slice 5), .bool]) (.s 21) (.s 22)))), (false, (.u (.fad 24 0 0 (.int .i64) 34 (.s 23)))), (false, (.u (.ld 25 (.int .i64) (.s 24)))), (false, (.u (.mov 26 (.s 0)))), (false, (.u (.nlc 27 (.s 26)))), (false, (.u (.fad 28 4 4 (.slice 2) 82 (.s 27)))), (false, (.u (.ld 29 (.slice 2) (.s 28)))), (false, (.u (.mov 30 (.s 0)))), (false, (.u (.nlc 31 (.s 30)))), (false, (.u (.fad 32 3 3 (.slice 34) 82 (.s 31)))), (false, (.u (.ld 33 (.slice 34) (.s 32)))), (false, (.u (.mov 34 (.s 4)))), (false, (.u (.iad 35 34 (.strct [(.int .i64), (.int .i64), (.int .i64), (.int .i64), (.int .i64), (.int .i64), (.int .i64), (.slice 5), (.slice 5), .bool]) (.s 33) (.s 34)))), (false, (.u (.fad 36 3 3 (.int .i64) 34 (.s 35)))), (false, (.u (.ld 37 (.int .i64) (.s 36)))), (false, (.u (.iad 38 2 (.int .i64) (.s 29) (.s 37)))), (false, (.u (.ld 39 (.int .i64) (.s 38)))), (false, (.u (.cmp 40 .gtr (.s 25) (.s 39))))]) (.tr [40, 3, 4, 0])) (.cond (.s 40) (.seq (.seq (.ops [(.u (.mov 41 (.s 3))), (.u (.mov 2 (.s 41)))]) (.tr [2])) .ret) .skip)) (.seq (.ops [(.u (.mov 42 (.s 0))), (.u (.nlc 43 (.s 42))), (.u (.fad 44 3 3 (.slice 34) 82 (.s 43))), (.u (.ld 45 (.slice 34) (.s 44))), (.u (.mov 46 (.s 4))), (.u (.iad 47 34 (.strct [(.int .i64), (.int .i64), (.int .i64), (.int .i64), (.int .i64), (.int .i64), (.int .i64), (.slice 5), (.slice 5), .bool]) (.s 45) (.s 46))), (.u (.fad 48 0 0 (.int .i64) 34 (.s 47))), (.u (.ld 49 (.int .i64) (.s 48))), (.u (.mov 3 (.s 49)))]) (.tr [4, 0, 3])))) (.seq (.ops [(.u (.mov 16 (.s 4))), (.u (.bin 17 .add .i64 (.s 16) (.c (.int .i64 1)))), (.u (.mov 4 (.s 17)))]) (.tr [0, 4, 3]))))))) (.seq (.seq (.ops [(.u (.mov 50 (.s 3))), (.u (.mov 2 (.s 50)))]) (.tr [2])) .ret))))
def rsRVCL : List RV := [(.t 2)]
theorem irRVCL : fnIR Tryd.prog WRVCL 42 = some (icRVCL, rsRVCL) := by kernel_rfl
def spRVCL : FSpec := fun args h nx K => match args with
  | [.ptr p 0] => qOk (hget h p) ∧ rrOk (hget h (qU (hget h p))) ∧ iOk (hget h (qV (hget h p))) ∧ (aL (hget h (qU (hget h p)))).length ≤ 1000000 ∧ grOk ((aL (hget h (qU (hget h p)))).map snt) (aL (hget h (qV (hget h p)))) ∧
      K (.int .i64 (vcA (qS (hget h p)) ((aL (hget h (qU (hget h p)))).map snt) (cntF ((aL (hget h (qU (hget h p)))).map snt) (aL (hget h (qV (hget h p))))))) h
  | _ => False
set_option maxHeartbeats 4000000 in
set_option maxRecDepth 8000 in
theorem vRVCL {E : Nat → Value} (hE : Errs2 Tryd.prog (some 171) E) : Valid Tryd.prog E (gs []) 42 spRVCL := by
  refine valid_go (W := WRVCL) hE allValid_bot irRVCL (by decide) (fun args h nx K hsp hok hnm => ?_)
  unfold spRVCL at hsp
  split at hsp
  · rename_i p
    obtain ⟨⟨g, s, sp, u, v, hp⟩, hs, hi, hlen, hgr, hK⟩ := hsp
    rw [hp] at hs hi hlen hgr hK
    rw [rpC_def] at hp hs hi hlen hgr hK
    rw [qU_c] at hs
    rw [qV_c] at hi
    obtain ⟨l, hu⟩ := hs
    obtain ⟨sf, hv⟩ := hi
    rw [qU_c, hu, aL_c] at hlen
    rw [qU_c, qV_c, hu, hv, aL_c, aL_c] at hgr
    rw [qU_c, qV_c, qS_c, hu, hv, aL_c, aL_c] at hK
    have hpx := (hnm p _ hp).1
    have hux := (hnm u _ hu).1
    have hvx := (hnm v _ hv).1
    refine ⟨by simp [WRVCL, mkW, mkWE, mkWF], fun Q hQ => ?_⟩
    obtain ⟨c, hc⟩ := cnt_ex (l.map snt) sf
    rw [cntF_eq hc] at hK
    have hcl : c ≤ l.length := by have := hc.1; rwa [List.length_map] at this
    have ret : ∀ h' nx' x, HLe h h' → x = vcA s (l.map snt) c → Q Ex.ret ⟨[(2, .int .i64 x)], h', nx'⟩ := fun h' nx' x hh hx => by
      subst hx
      refine (hQ _ ?_).1
      exact fin_t (.int .i64 _) rfl rfl hnm hh hK
    have pn0p : (nx = p) = False := eq_false (by omega)
    have pn1p : ∀ a0 : Nat, (nx + a0 = p) = False := fun a0 => eq_false (by omega)
    have pn2p : ∀ a0 a1 : Nat, (nx + a0 + a1 = p) = False := fun a0 a1 => eq_false (by omega)
    have pn3p : ∀ a0 a1 a2 : Nat, (nx + a0 + a1 + a2 = p) = False := fun a0 a1 a2 => eq_false (by omega)
    have pn4p : ∀ a0 a1 a2 a3 : Nat, (nx + a0 + a1 + a2 + a3 = p) = False := fun a0 a1 a2 a3 => eq_false (by omega)
    have pn5p : ∀ a0 a1 a2 a3 a4 : Nat, (nx + a0 + a1 + a2 + a3 + a4 = p) = False := fun a0 a1 a2 a3 a4 => eq_false (by omega)
    have pn6p : ∀ a0 a1 a2 a3 a4 a5 : Nat, (nx + a0 + a1 + a2 + a3 + a4 + a5 = p) = False := fun a0 a1 a2 a3 a4 a5 => eq_false (by omega)
    have pn7p : ∀ a0 a1 a2 a3 a4 a5 a6 : Nat, (nx + a0 + a1 + a2 + a3 + a4 + a5 + a6 = p) = False := fun a0 a1 a2 a3 a4 a5 a6 => eq_false (by omega)
    have pn0u : (nx = u) = False := eq_false (by omega)
    have pn1u : ∀ a0 : Nat, (nx + a0 = u) = False := fun a0 => eq_false (by omega)
    have pn2u : ∀ a0 a1 : Nat, (nx + a0 + a1 = u) = False := fun a0 a1 => eq_false (by omega)
    have pn3u : ∀ a0 a1 a2 : Nat, (nx + a0 + a1 + a2 = u) = False := fun a0 a1 a2 => eq_false (by omega)
    have pn4u : ∀ a0 a1 a2 a3 : Nat, (nx + a0 + a1 + a2 + a3 = u) = False := fun a0 a1 a2 a3 => eq_false (by omega)
    have pn5u : ∀ a0 a1 a2 a3 a4 : Nat, (nx + a0 + a1 + a2 + a3 + a4 = u) = False := fun a0 a1 a2 a3 a4 => eq_false (by omega)
    have pn6u : ∀ a0 a1 a2 a3 a4 a5 : Nat, (nx + a0 + a1 + a2 + a3 + a4 + a5 = u) = False := fun a0 a1 a2 a3 a4 a5 => eq_false (by omega)
    have pn7u : ∀ a0 a1 a2 a3 a4 a5 a6 : Nat, (nx + a0 + a1 + a2 + a3 + a4 + a5 + a6 = u) = False := fun a0 a1 a2 a3 a4 a5 a6 => eq_false (by omega)
    have pn0v : (nx = v) = False := eq_false (by omega)
    have pn1v : ∀ a0 : Nat, (nx + a0 = v) = False := fun a0 => eq_false (by omega)
    have pn2v : ∀ a0 a1 : Nat, (nx + a0 + a1 = v) = False := fun a0 a1 => eq_false (by omega)
    have pn3v : ∀ a0 a1 a2 : Nat, (nx + a0 + a1 + a2 = v) = False := fun a0 a1 a2 => eq_false (by omega)
    have pn4v : ∀ a0 a1 a2 a3 : Nat, (nx + a0 + a1 + a2 + a3 = v) = False := fun a0 a1 a2 a3 => eq_false (by omega)
    have pn5v : ∀ a0 a1 a2 a3 a4 : Nat, (nx + a0 + a1 + a2 + a3 + a4 = v) = False := fun a0 a1 a2 a3 a4 => eq_false (by omega)
    have pn6v : ∀ a0 a1 a2 a3 a4 a5 : Nat, (nx + a0 + a1 + a2 + a3 + a4 + a5 = v) = False := fun a0 a1 a2 a3 a4 a5 => eq_false (by omega)
    have pn7v : ∀ a0 a1 a2 a3 a4 a5 a6 : Nat, (nx + a0 + a1 + a2 + a3 + a4 + a5 + a6 = v) = False := fun a0 a1 a2 a3 a4 a5 a6 => eq_false (by omega)
    have hS : ∀ k, k < l.length → (((l.map snt).getD k .nil).fld 0).i = ((l.getD k .nil).fld 0).i ∧ (((l.map snt).getD k .nil).fld 1).i = ((l.getD k .nil).fld 3).i := fun k hk => by
      rw [snt_at hk]
      exact ⟨rfl, rfl⟩
    simp (maxSteps := 4000000) only [icRVCL, go_sem, goD_calls, eq_self, implies_true, Int.reduceEq, Int.reduceBEq, Int.reduceBNe, Int.reduceLE, Int.reduceLT, Int.reduceAdd, Int.reduceSub, Int.reduceMul, Int.reduceNeg, Nat.reduceMul, Nat.reduceSub, Nat.reduceLeDiff, Nat.reduceLT, Nat.reduceEqDiff, Nat.reduceAdd, reduceCtorEq, ↓reduceIte, reduceIte, pn0p, pn1p, pn2p, pn3p, pn4p, pn5p, pn6p, pn7p, pn0u, pn1u, pn2u, pn3u, pn4u, pn5u, pn6u, pn7u, pn0v, pn1v, pn2v, pn3v, pn4v, pn5v, pn6v, pn7v, hp, hu, hv]
    refine go_loop (α := { i : Nat // i ≤ c }) (I := fun i => { f := [(4, .int .i64 i.1), (0, .ptr p 0), (3, .int .i64 (vcA s (l.map snt) i.1))], h := h, nx := nx }) (μ := fun i => c - i.1) _ _ _ ⟨0, by omega⟩ ?_ (fun i B hB => ?_)
    · refine leq_id (by simp only [frEq_cons, frEq_nil, frIn_cons, frIn_nil, and_true, fget_cons, Nat.reduceEqDiff, reduceIte, ↓reduceIte, true_and, SV.ren, SV.renL, ren1] <;> (try rfl) <;> (try simp [vcA])) (by (simp only [frLt_cons, frLt_nil, and_true, SV.lt, SV.ltL, true_and] <;> omega)) (by ((try simp only []); repeat first | exact HLe.refl _ | refine HLe.cons (by simp only [hget, Nat.reduceEqDiff, Nat.left_eq_add, Nat.add_eq_left, nm_ne2, nm_en2, nm_ne3, nm_en3, nm_ne4, nm_en4, nm_ne5, nm_en5, reduceIte, ↓reduceIte] <;> first | rfl | ((repeat rw [if_neg (by omega)]) <;> rfl)) ?_ | refine HLe.skip hnm (by omega) ?_ | refine HLe.frz hnm (by omega) ?_ | refine HLe.del hnm (by omega) ?_)) (by (repeat first | exact HLt.mono hnm (by simp only [] <;> omega) | refine HLt.cons (by simp only [] <;> omega) (by simp only [Tok.lt, SV.ltL, SV.lt, and_true, true_and] <;> omega) ?_)) (by simp only [] <;> omega)
    obtain ⟨i, hic⟩ := i
    simp only at hB ⊢
    by_cases hil : i < l.length
    · have d1 : decide ((i : Int) < (l.length : Int)) = true := decide_eq_true (by omega)
      have hg := hgr i (by rw [List.length_map]; exact hil)
      rw [(hS i hil).2] at hg
      by_cases hlt : i < c
      · have hok := hc.2.1 i hlt
        unfold okS at hok
        rw [(hS i hil).1, (hS i hil).2] at hok
        have d2 : decide ((sf.getD ((l.getD i .nil).fld 3).i.toNat .nil).i < ((l.getD i .nil).fld 0).i) = false := decide_eq_false (by omega)
        simp (maxSteps := 4000000) only [go_sem, goD_calls, eq_self, implies_true, Int.reduceEq, Int.reduceBEq, Int.reduceBNe, Int.reduceLE, Int.reduceLT, Int.reduceAdd, Int.reduceSub, Int.reduceMul, Int.reduceNeg, Nat.reduceMul, Nat.reduceSub, Nat.reduceLeDiff, Nat.reduceLT, Nat.reduceEqDiff, Nat.reduceAdd, reduceCtorEq, ↓reduceIte, reduceIte, pn0p, pn1p, pn2p, pn3p, pn4p, pn5p, pn6p, pn7p, pn0u, pn1u, pn2u, pn3u, pn4u, pn5u, pn6u, pn7u, pn0v, pn1v, pn2v, pn3v, pn4v, pn5v, pn6v, pn7v, hp, hu, hv, d1, d2, Int.toNat_natCast, min_i64, max_i64]
        repeat refine ⟨by first | omega | rfl, ?_⟩
        refine hB _ ⟨i + 1, by omega⟩ (by simp only []; omega) ?_
        refine leq_id (by simp only [frEq_cons, frEq_nil, frIn_cons, frIn_nil, and_true, fget_cons, Nat.reduceEqDiff, reduceIte, ↓reduceIte, true_and, SV.ren, SV.renL, ren1] <;> (try rfl) <;> (try (refine ⟨?_, ?_⟩ <;> first | rfl | exact (hS i hil).1.symm | simp)) <;> (try exact (hS i hil).1.symm)) (by (simp only [frLt_cons, frLt_nil, and_true, SV.lt, SV.ltL, true_and] <;> omega)) (by ((try simp only []); repeat first | exact HLe.refl _ | refine HLe.cons (by simp only [hget, Nat.reduceEqDiff, Nat.left_eq_add, Nat.add_eq_left, nm_ne2, nm_en2, nm_ne3, nm_en3, nm_ne4, nm_en4, nm_ne5, nm_en5, reduceIte, ↓reduceIte] <;> first | rfl | ((repeat rw [if_neg (by omega)]) <;> rfl)) ?_ | refine HLe.skip hnm (by omega) ?_ | refine HLe.frz hnm (by omega) ?_ | refine HLe.del hnm (by omega) ?_)) (by (repeat first | exact HLt.mono hnm (by simp only [] <;> omega) | refine HLt.cons (by simp only [] <;> omega) (by simp only [Tok.lt, SV.ltL, SV.lt, and_true, true_and] <;> omega) ?_)) (by simp only [] <;> omega)
      · obtain rfl : i = c := by omega
        have hno := hc.2.2.resolve_left (by rw [List.length_map]; omega)
        unfold okS at hno
        rw [(hS i hil).1, (hS i hil).2] at hno
        have d2 : decide ((sf.getD ((l.getD i .nil).fld 3).i.toNat .nil).i < ((l.getD i .nil).fld 0).i) = true := decide_eq_true (by omega)
        simp (maxSteps := 4000000) only [go_sem, goD_calls, eq_self, implies_true, Int.reduceEq, Int.reduceBEq, Int.reduceBNe, Int.reduceLE, Int.reduceLT, Int.reduceAdd, Int.reduceSub, Int.reduceMul, Int.reduceNeg, Nat.reduceMul, Nat.reduceSub, Nat.reduceLeDiff, Nat.reduceLT, Nat.reduceEqDiff, Nat.reduceAdd, reduceCtorEq, ↓reduceIte, reduceIte, pn0p, pn1p, pn2p, pn3p, pn4p, pn5p, pn6p, pn7p, pn0u, pn1u, pn2u, pn3u, pn4u, pn5u, pn6u, pn7u, pn0v, pn1v, pn2v, pn3v, pn4v, pn5v, pn6v, pn7v, hp, hu, hv, d1, d2, Int.toNat_natCast, min_i64, max_i64]
        repeat refine ⟨by first | omega | rfl, ?_⟩
        exact ret _ _ _ (by ((try simp only []); repeat first | exact HLe.refl _ | refine HLe.cons (by simp only [hget, Nat.reduceEqDiff, Nat.left_eq_add, Nat.add_eq_left, nm_ne2, nm_en2, nm_ne3, nm_en3, nm_ne4, nm_en4, nm_ne5, nm_en5, reduceIte, ↓reduceIte] <;> first | rfl | ((repeat rw [if_neg (by omega)]) <;> rfl)) ?_ | refine HLe.skip hnm (by omega) ?_ | refine HLe.frz hnm (by omega) ?_ | refine HLe.del hnm (by omega) ?_)) rfl
    · have e : i = c := by omega
      subst e
      have d1 : decide ((i : Int) < (l.length : Int)) = false := decide_eq_false (by omega)
      simp (maxSteps := 4000000) only [go_sem, goD_calls, eq_self, implies_true, Int.reduceEq, Int.reduceBEq, Int.reduceBNe, Int.reduceLE, Int.reduceLT, Int.reduceAdd, Int.reduceSub, Int.reduceMul, Int.reduceNeg, Nat.reduceMul, Nat.reduceSub, Nat.reduceLeDiff, Nat.reduceLT, Nat.reduceEqDiff, Nat.reduceAdd, reduceCtorEq, ↓reduceIte, reduceIte, pn0p, pn1p, pn2p, pn3p, pn4p, pn5p, pn6p, pn7p, pn0u, pn1u, pn2u, pn3u, pn4u, pn5u, pn6u, pn7u, pn0v, pn1v, pn2v, pn3v, pn4v, pn5v, pn6v, pn7v, hp, hu, hv, d1]
      exact ret _ _ _ (by ((try simp only []); repeat first | exact HLe.refl _ | refine HLe.cons (by simp only [hget, Nat.reduceEqDiff, Nat.left_eq_add, Nat.add_eq_left, nm_ne2, nm_en2, nm_ne3, nm_en3, nm_ne4, nm_en4, nm_ne5, nm_en5, reduceIte, ↓reduceIte] <;> first | rfl | ((repeat rw [if_neg (by omega)]) <;> rfl)) ?_ | refine HLe.skip hnm (by omega) ?_ | refine HLe.frz hnm (by omega) ?_ | refine HLe.del hnm (by omega) ?_)) rfl
  · exact hsp.elim
end Go.Proofs.YtmjenjccinfbaaaDoor
