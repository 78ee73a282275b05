/- Chapter 15: Sent. -/
import Derived.Test.YtmjenjccinfbaaaDoorPntD
import Derived.Test.YtmjenjccinfbaaaDoorFin
namespace Go.Proofs.YtmjenjccinfbaaaDoor
set_option linter.unusedVariables false
set_option linter.unusedSimpArgs false
open Go Go.Fw
attribute [local go_sem] walkSet evMdl evMupD evMup evLkp frpL eltP eltV eltK preF preP prePt prePd frzP evNlq ev frOf oget ogets argSs argS evCat evMm frzL evBin evWrp evShf evCmp evUna evNil evBeq evLd evSt evFad evIad evAad evLen evSln evEls evApp evParts evSlc evNlc evMif evPck evFld evBld evTas evIfq evSeq evSl0 evBxf evAgl evAgq evBsf hget hset hdel cellAt arrAt setCellAt setArrAt takeC lenC svCells SV.okc SV.one ldSV Fw.isAgg explode explodeL toD toDL toD1 Ty.size Ty.sizeL frz1 Fr.sub Heap.sub Tok.sub SV.sub SV.subL

theorem cellAt_one {x : SV} {l : List SV} {o : Nat} (h : x.one = true) : cellAt (x :: l) (o + 1) = cellAt l o := by cases x <;> first | rfl | cases h
abbrev GPS : List Nat := [0, 1, 2]
def WPSent : Opts := mkWF 75 [] [0, 1, 2] [] 171 [0, 1, 2] [] [] [41]
def icPSent : IC := (.seq (.seq (.ops [(.u (.box 3 0 (.s 1))), (.u (.mov 4 (.c (.dat .iface .nil))))]) (.tr [3, 0])) (.seq (.block 0 (.seq (.seq (.rgn [] [(false, (.u (.fad 6 3 3 (.int .i64) 34 (.s 3)))), (false, (.u (.ld 7 (.int .i64) (.s 6)))), (false, (.u (.cmp 8 .lss (.s 7) (.c (.int .i64 0))))), (false, (.u (.mov 9 (.s 8)))), (false, (.g 9 false (some 10) (.fad 10 3 3 (.int .i64) 34 (.s 3)))), (false, (.g 9 false (some 11) (.ld 11 (.int .i64) (.s 10)))), (false, (.g 9 false (some 12) (.mov 12 (.s 0)))), (false, (.g 9 false (some 13) (.nlc 13 (.s 12)))), (false, (.g 9 false (some 14) (.fad 14 3 3 (.slice 2) 110 (.s 13)))), (false, (.g 9 false (some 15) (.ld 15 (.slice 2) (.s 14)))), (false, (.g 9 false (some 16) (.len 16 false (.s 15)))), (false, (.g 9 false (some 17) (.cmp 17 .geq (.s 11) (.s 16)))), (false, (.u (.pck 18 (.s 9) (.c (.bool true)) (.s 17)))), (false, (.u (.mov 19 (.s 18)))), (false, (.g 19 false (some 20) (.fad 20 0 0 (.int .i64) 34 (.s 3)))), (false, (.g 19 false (some 21) (.ld 21 (.int .i64) (.s 20)))), (false, (.g 19 false (some 22) (.cmp 22 .lss (.s 21) (.c (.int .i64 1))))), (false, (.u (.pck 23 (.s 19) (.c (.bool true)) (.s 22)))), (false, (.u (.mov 24 (.s 23)))), (false, (.g 24 false (some 25) (.fad 25 0 0 (.int .i64) 34 (.s 3)))), (false, (.g 24 false (some 26) (.ld 26 (.int .i64) (.s 25)))), (false, (.g 24 false (some 27) (.cmp 27 .gtr (.s 26) (.c (.int .i64 1099511627776))))), (false, (.u (.pck 28 (.s 24) (.c (.bool true)) (.s 27)))), (false, (.u (.mov 5 (.s 28))))]) (.tr [5, 3, 0])) (.cond (.s 5) (.seq (.seq (.ops [(.u (.gld 29 0)), (.u (.mov 4 (.s 29)))]) (.tr [4])) .ret) (.seq (.seq (.rgn [] [(false, (.u (.fad 31 0 0 (.int .i64) 34 (.s 3)))), (false, (.u (.ld 32 (.int .i64) (.s 31)))), (false, (.u (.mov 33 (.s 0)))), (false, (.u (.nlc 34 (.s 33)))), (false, (.u (.fad 35 0 0 (.slice 41) 110 (.s 34)))), (false, (.u (.ld 36 (.slice 41) (.s 35)))), (false, (.u (.mov 37 (.s 0)))), (false, (.u (.nlc 38 (.s 37)))), (false, (.u (.fad 39 2 2 (.int .i64) 110 (.s 38)))), (false, (.u (.ld 40 (.int .i64) (.s 39)))), (true, (.u (.call 41 (.c (.clo 63 [])) [(.s 36), (.s 40)] [(some 41), none] true))), (false, (.u (.cmp 42 .neq (.s 32) (.s 41)))), (false, (.u (.mov 30 (.s 42))))]) (.tr [30, 3, 0])) (.cond (.s 30) (.seq (.seq (.ops [(.u (.gld 43 1)), (.u (.mov 4 (.s 43)))]) (.tr [4])) .ret) (.seq (.seq (.ops [(.u (.mov 45 (.s 0))), (.u (.nlc 46 (.s 45))), (.u (.fad 47 1 1 (.slice 112) 110 (.s 46))), (.u (.ld 48 (.slice 112) (.s 47))), (.u (.len 49 false (.s 48))), (.u (.cmp 50 .geq (.s 49) (.c (.int .i64 16384)))), (.u (.mov 44 (.s 50)))]) (.tr [44, 3, 0])) (.cond (.s 44) (.seq (.seq (.ops [(.u (.gld 51 2)), (.u (.mov 4 (.s 51)))]) (.tr [4])) .ret) .skip))))))) (.seq (.seq (.rgn [] [(false, (.u (.mov 52 (.s 0)))), (false, (.u (.mov 53 (.s 0)))), (false, (.u (.nlc 54 (.s 53)))), (false, (.u (.fad 55 1 1 (.slice 112) 110 (.s 54)))), (false, (.u (.ld 56 (.slice 112) (.s 55)))), (false, (.u (.fad 57 0 0 (.int .i64) 34 (.s 3)))), (false, (.u (.ld 58 (.int .i64) (.s 57)))), (false, (.u (.fad 59 3 3 (.int .i64) 34 (.s 3)))), (false, (.u (.ld 60 (.int .i64) (.s 59)))), (false, (.u (.fad 61 9 9 .bool 34 (.s 3)))), (false, (.u (.ld 62 .bool (.s 61)))), (false, (.u (.bld 63 [[(.int .i64 0)], [(.int .i64 0)], [(.bool false)]] [(0, (.s 58)), (1, (.s 60)), (2, (.s 62))]))), (false, (.u (.bsl 64 112 (.strct [(.int .i64), (.int .i64), .bool]) [(.s 63)]))), (false, (.u (.app 65 112 (.strct [(.int .i64), (.int .i64), .bool]) 24 (.s 56) (.s 64)))), (false, (.u (.nlc 66 (.s 52)))), (false, (.u (.fad 67 1 1 (.slice 112) 110 (.s 66)))), (false, (.u (.st (.slice 112) (.s 67) (.s 65))))]) (.tr [3, 0])) (.seq (.seq (.ops [(.u (.mov 68 (.s 0))), (.u (.fad 69 0 0 (.int .i64) 34 (.s 3))), (.u (.ld 70 (.int .i64) (.s 69))), (.u (.nlc 71 (.s 68))), (.u (.fad 72 2 2 (.int .i64) 110 (.s 71))), (.u (.st (.int .i64) (.s 72) (.s 70)))]) (.tr [0])) (.seq (.seq (.ops [(.u (.mov 73 (.s 0))), (.u (.call 74 (.c (.clo 64 [])) [(.s 73)] [none] true))]) (.tr [])) (.seq (.seq (.ops [(.u (.mov 4 (.c (.dat .iface .nil))))]) (.tr [4])) .ret))))))
def rsPSent : List RV := [(.t 4)]
theorem irPSent : fnIR Tryd.prog WPSent 17 = some (icPSent, rsPSent) := by kernel_rfl
/-- A record that is sent. -/
def sent3 (n g : Int) (b : Bool) : D := .node [.int n, .int g, .bool b]
/-- What is left behind it. -/
def lookS (r : Option Tok) (l sf : List D) : Nat × Int × Int := lookF l sf (l.length - (pK r).toNat) (pK r).toNat (pC r) (pD r)
def sentP (nx : Nat) (n : Int) (r : Option Tok) (l sf : List D) : Tok := .cells [.dat (.slice 41) (.list (pS r)), .vec nx, .int .i64 n, .vec (pV r), .int .i64 (lookS r l sf).1, .int .i64 (lookS r l sf).2.1, .int .i64 (lookS r l sf).2.2]
def sentH (h : Heap) (nx p : Nat) (n g : Int) (b : Bool) : Heap :=
  (nx, .arr 112 sentT (aL (hget h (pU (hget h p))) ++ [sent3 n g b])) :: hset (hdel h (pU (hget h p))) p (sentP nx n (hget h p) (aL (hget h (pU (hget h p))) ++ [sent3 n g b]) (aL (hget h (pV (hget h p)))))
def spPSent : FSpec := fun args h nx K => match args with
  | [.ptr p 0, .agg [.int .i64 n, .int .i64 x1, .int .i64 x2, .int .i64 g, .int .i64 x4, .int .i64 x5, .int .i64 x6, x7, x8, .bool b]] =>
      pOk (hget h p) ∧ sOk (hget h (pU (hget h p))) ∧ iOk (hget h (pV (hget h p))) ∧ (0 ≤ pK (hget h p) ∧ pK (hget h p) ≤ (aL (hget h (pU (hget h p)))).length) ∧ (aL (hget h (pU (hget h p)))).length ≤ 16384 ∧ grOk (aL (hget h (pU (hget h p)))) (aL (hget h (pV (hget h p)))) ∧
      lowT (pS (hget h p)) ∧ pA (hget h p) ≤ 1099511627776 ∧ (x7.one = true ∧ x8.one = true) ∧
      (¬ (0 ≤ g ∧ g < (aL (hget h (pV (hget h p)))).length ∧ 1 ≤ n ∧ n ≤ 1099511627776) → K (.dat .iface (.err 0)) h) ∧
      ((0 ≤ g ∧ g < (aL (hget h (pV (hget h p)))).length ∧ 1 ≤ n ∧ n ≤ 1099511627776) → n ≠ nextF (pS (hget h p)) (pA (hget h p)) → K (.dat .iface (.err 1)) h) ∧
      ((0 ≤ g ∧ g < (aL (hget h (pV (hget h p)))).length ∧ 1 ≤ n ∧ n ≤ 1099511627776) → n = nextF (pS (hget h p)) (pA (hget h p)) → 16384 ≤ (aL (hget h (pU (hget h p)))).length → K (.dat .iface (.err 2)) h) ∧
      ((0 ≤ g ∧ g < (aL (hget h (pV (hget h p)))).length ∧ 1 ≤ n ∧ n ≤ 1099511627776) → n = nextF (pS (hget h p)) (pA (hget h p)) → (aL (hget h (pU (hget h p)))).length < 16384 → K (.dat .iface .nil) (sentH h nx p n g b))
  | _ => False
set_option maxHeartbeats 4000000 in
set_option maxRecDepth 8000 in
theorem vPSent {E : Nat → Value} (hE : Errs2 Tryd.prog (some 171) E) : Valid Tryd.prog E (gs GPS) 17 spPSent := by
  refine valid_go (W := WPSent) hE ((allValid_bot.add (up (vPLook hE))).add (up (vSNext hE))) irPSent (by decide) (fun args h nx K hsp hok hnm => ?_)
  unfold spPSent at hsp
  split at hsp
  · rename_i p n x1 x2 g x4 x5 x6 x7 x8 b
    obtain ⟨⟨sp, u, a, v, k0, c0, d0, hp⟩, hs, hi, hk, hlen, hgr, hlow, hal, ⟨ho7, ho8⟩, hrange, hshape, hmany, hgood⟩ := hsp
    rw [hp] at hs hi hk hlen hgr hlow hal hrange hshape hmany hgood
    rw [ptC_def] at hp hs hi hk hlen hgr hlow hal hrange hshape hmany hgood
    rw [pU_c] at hs
    rw [pV_c] at hi hrange hshape hmany hgood
    rw [pS_c] at hlow hshape hmany hgood
    rw [pA_c] at hal hshape hmany hgood
    obtain ⟨l, hu⟩ := hs
    obtain ⟨sf, hv⟩ := hi
    rw [hv, aL_c] at hrange hshape hmany hgood
    rw [pU_c, hu, aL_c] at hk hlen hgr hmany hgood
    rw [pV_c, hv, aL_c] at hgr
    rw [pK_c] at hk
    have hpx := (hnm p _ hp).1
    have hux := (hnm u _ hu).1
    have hvx := (hnm v _ hv).1
    have hpu : p ≠ u := fun e => by rw [e, hu] at hp; cases hp
    have hvu : v ≠ u := fun e => by rw [e, hu] at hv; cases hv
    have hvp : v ≠ p := fun e => by rw [← e, hv] at hp; cases hp
    refine ⟨by simp [WPSent, mkW, mkWE, mkWF], fun Q hQ => ?_⟩
    have pn0p : (nx = p) = False := eq_false (by omega)
    have pn1p : ∀ a0 : Nat, (nx + a0 = p) = False := fun a0 => eq_false (by omega)
    have pn2p : ∀ a0 a1 : Nat, (nx + a0 + a1 = p) = False := fun a0 a1 => eq_false (by omega)
    have pn3p : ∀ a0 a1 a2 : Nat, (nx + a0 + a1 + a2 = p) = False := fun a0 a1 a2 => eq_false (by omega)
    have pn4p : ∀ a0 a1 a2 a3 : Nat, (nx + a0 + a1 + a2 + a3 = p) = False := fun a0 a1 a2 a3 => eq_false (by omega)
    have pn5p : ∀ a0 a1 a2 a3 a4 : Nat, (nx + a0 + a1 + a2 + a3 + a4 = p) = False := fun a0 a1 a2 a3 a4 => eq_false (by omega)
    have pn6p : ∀ a0 a1 a2 a3 a4 a5 : Nat, (nx + a0 + a1 + a2 + a3 + a4 + a5 = p) = False := fun a0 a1 a2 a3 a4 a5 => eq_false (by omega)
    have pn7p : ∀ a0 a1 a2 a3 a4 a5 a6 : Nat, (nx + a0 + a1 + a2 + a3 + a4 + a5 + a6 = p) = False := fun a0 a1 a2 a3 a4 a5 a6 => eq_false (by omega)
    have pn0u : (nx = u) = False := eq_false (by omega)
    have pn1u : ∀ a0 : Nat, (nx + a0 = u) = False := fun a0 => eq_false (by omega)
    have pn2u : ∀ a0 a1 : Nat, (nx + a0 + a1 = u) = False := fun a0 a1 => eq_false (by omega)
    have pn3u : ∀ a0 a1 a2 : Nat, (nx + a0 + a1 + a2 = u) = False := fun a0 a1 a2 => eq_false (by omega)
    have pn4u : ∀ a0 a1 a2 a3 : Nat, (nx + a0 + a1 + a2 + a3 = u) = False := fun a0 a1 a2 a3 => eq_false (by omega)
    have pn5u : ∀ a0 a1 a2 a3 a4 : Nat, (nx + a0 + a1 + a2 + a3 + a4 = u) = False := fun a0 a1 a2 a3 a4 => eq_false (by omega)
    have pn6u : ∀ a0 a1 a2 a3 a4 a5 : Nat, (nx + a0 + a1 + a2 + a3 + a4 + a5 = u) = False := fun a0 a1 a2 a3 a4 a5 => eq_false (by omega)
    have pn7u : ∀ a0 a1 a2 a3 a4 a5 a6 : Nat, (nx + a0 + a1 + a2 + a3 + a4 + a5 + a6 = u) = False := fun a0 a1 a2 a3 a4 a5 a6 => eq_false (by omega)
    have pn0v : (nx = v) = False := eq_false (by omega)
    have pn1v : ∀ a0 : Nat, (nx + a0 = v) = False := fun a0 => eq_false (by omega)
    have pn2v : ∀ a0 a1 : Nat, (nx + a0 + a1 = v) = False := fun a0 a1 => eq_false (by omega)
    have pn3v : ∀ a0 a1 a2 : Nat, (nx + a0 + a1 + a2 = v) = False := fun a0 a1 a2 => eq_false (by omega)
    have pn4v : ∀ a0 a1 a2 a3 : Nat, (nx + a0 + a1 + a2 + a3 = v) = False := fun a0 a1 a2 a3 => eq_false (by omega)
    have pn5v : ∀ a0 a1 a2 a3 a4 : Nat, (nx + a0 + a1 + a2 + a3 + a4 = v) = False := fun a0 a1 a2 a3 a4 => eq_false (by omega)
    have pn6v : ∀ a0 a1 a2 a3 a4 a5 : Nat, (nx + a0 + a1 + a2 + a3 + a4 + a5 = v) = False := fun a0 a1 a2 a3 a4 a5 => eq_false (by omega)
    have pn7v : ∀ a0 a1 a2 a3 a4 a5 a6 : Nat, (nx + a0 + a1 + a2 + a3 + a4 + a5 + a6 = v) = False := fun a0 a1 a2 a3 a4 a5 a6 => eq_false (by omega)
    have ret : ∀ d, K (.dat .iface d) h → ∀ h' nx', HLe h h' → Q Ex.ret ⟨[(4, .dat .iface d)], h', nx'⟩ := fun d hK h' nx' hh => by
      refine (hQ _ ?_).1
      exact fin_t (.dat .iface d) rfl rfl hnm hh hK
    by_cases h1 : g < 0
    · have c1 : decide (g < 0) = true := decide_eq_true h1
      simp (maxSteps := 4000000) only [icPSent, go_sem, goD_calls, eq_self, implies_true, Int.reduceEq, Int.reduceBEq, Int.reduceBNe, Int.reduceLE, Int.reduceLT, Int.reduceAdd, Int.reduceSub, Int.reduceMul, Int.reduceNeg, Nat.reduceMul, Nat.reduceSub, Nat.reduceLeDiff, Nat.reduceLT, Nat.reduceEqDiff, Nat.reduceAdd, reduceCtorEq, ↓reduceIte, reduceIte, pn0p, pn1p, pn2p, pn3p, pn4p, pn5p, pn6p, pn7p, pn0u, pn1u, pn2u, pn3u, pn4u, pn5u, pn6u, pn7u, pn0v, pn1v, pn2v, pn3v, pn4v, pn5v, pn6v, pn7v, hp, hv, hu, c1]
      exact ret _ (hrange (by omega)) _ _ (by ((try simp only []); repeat first | exact HLe.refl _ | refine HLe.cons (by simp only [hget, Nat.reduceEqDiff, Nat.left_eq_add, Nat.add_eq_left, nm_ne2, nm_en2, nm_ne3, nm_en3, nm_ne4, nm_en4, nm_ne5, nm_en5, reduceIte, ↓reduceIte] <;> first | rfl | ((repeat rw [if_neg (by omega)]) <;> rfl)) ?_ | refine HLe.skip hnm (by omega) ?_ | refine HLe.frz hnm (by omega) ?_ | refine HLe.del hnm (by omega) ?_))
    have c1 : decide (g < 0) = false := decide_eq_false h1
    by_cases h2 : (sf.length : Int) ≤ g
    · have c2 : decide ((sf.length : Int) ≤ g) = true := decide_eq_true h2
      simp (maxSteps := 4000000) only [icPSent, go_sem, goD_calls, eq_self, implies_true, Int.reduceEq, Int.reduceBEq, Int.reduceBNe, Int.reduceLE, Int.reduceLT, Int.reduceAdd, Int.reduceSub, Int.reduceMul, Int.reduceNeg, Nat.reduceMul, Nat.reduceSub, Nat.reduceLeDiff, Nat.reduceLT, Nat.reduceEqDiff, Nat.reduceAdd, reduceCtorEq, ↓reduceIte, reduceIte, pn0p, pn1p, pn2p, pn3p, pn4p, pn5p, pn6p, pn7p, pn0u, pn1u, pn2u, pn3u, pn4u, pn5u, pn6u, pn7u, pn0v, pn1v, pn2v, pn3v, pn4v, pn5v, pn6v, pn7v, hp, hv, hu, c1, c2]
      exact ret _ (hrange (by omega)) _ _ (by ((try simp only []); repeat first | exact HLe.refl _ | refine HLe.cons (by simp only [hget, Nat.reduceEqDiff, Nat.left_eq_add, Nat.add_eq_left, nm_ne2, nm_en2, nm_ne3, nm_en3, nm_ne4, nm_en4, nm_ne5, nm_en5, reduceIte, ↓reduceIte] <;> first | rfl | ((repeat rw [if_neg (by omega)]) <;> rfl)) ?_ | refine HLe.skip hnm (by omega) ?_ | refine HLe.frz hnm (by omega) ?_ | refine HLe.del hnm (by omega) ?_))
    have c2 : decide ((sf.length : Int) ≤ g) = false := decide_eq_false h2
    by_cases h3 : n < 1
    · have c3 : decide (n < 1) = true := decide_eq_true h3
      simp (maxSteps := 4000000) only [icPSent, go_sem, goD_calls, eq_self, implies_true, Int.reduceEq, Int.reduceBEq, Int.reduceBNe, Int.reduceLE, Int.reduceLT, Int.reduceAdd, Int.reduceSub, Int.reduceMul, Int.reduceNeg, Nat.reduceMul, Nat.reduceSub, Nat.reduceLeDiff, Nat.reduceLT, Nat.reduceEqDiff, Nat.reduceAdd, reduceCtorEq, ↓reduceIte, reduceIte, pn0p, pn1p, pn2p, pn3p, pn4p, pn5p, pn6p, pn7p, pn0u, pn1u, pn2u, pn3u, pn4u, pn5u, pn6u, pn7u, pn0v, pn1v, pn2v, pn3v, pn4v, pn5v, pn6v, pn7v, hp, hv, hu, c1, c2, c3]
      exact ret _ (hrange (by omega)) _ _ (by ((try simp only []); repeat first | exact HLe.refl _ | refine HLe.cons (by simp only [hget, Nat.reduceEqDiff, Nat.left_eq_add, Nat.add_eq_left, nm_ne2, nm_en2, nm_ne3, nm_en3, nm_ne4, nm_en4, nm_ne5, nm_en5, reduceIte, ↓reduceIte] <;> first | rfl | ((repeat rw [if_neg (by omega)]) <;> rfl)) ?_ | refine HLe.skip hnm (by omega) ?_ | refine HLe.frz hnm (by omega) ?_ | refine HLe.del hnm (by omega) ?_))
    have c3 : decide (n < 1) = false := decide_eq_false h3
    by_cases h4 : 1099511627776 < n
    · have c4 : decide (1099511627776 < n) = true := decide_eq_true h4
      simp (maxSteps := 4000000) only [icPSent, go_sem, goD_calls, eq_self, implies_true, Int.reduceEq, Int.reduceBEq, Int.reduceBNe, Int.reduceLE, Int.reduceLT, Int.reduceAdd, Int.reduceSub, Int.reduceMul, Int.reduceNeg, Nat.reduceMul, Nat.reduceSub, Nat.reduceLeDiff, Nat.reduceLT, Nat.reduceEqDiff, Nat.reduceAdd, reduceCtorEq, ↓reduceIte, reduceIte, pn0p, pn1p, pn2p, pn3p, pn4p, pn5p, pn6p, pn7p, pn0u, pn1u, pn2u, pn3u, pn4u, pn5u, pn6u, pn7u, pn0v, pn1v, pn2v, pn3v, pn4v, pn5v, pn6v, pn7v, hp, hv, hu, c1, c2, c3, c4]
      exact ret _ (hrange (by omega)) _ _ (by ((try simp only []); repeat first | exact HLe.refl _ | refine HLe.cons (by simp only [hget, Nat.reduceEqDiff, Nat.left_eq_add, Nat.add_eq_left, nm_ne2, nm_en2, nm_ne3, nm_en3, nm_ne4, nm_en4, nm_ne5, nm_en5, reduceIte, ↓reduceIte] <;> first | rfl | ((repeat rw [if_neg (by omega)]) <;> rfl)) ?_ | refine HLe.skip hnm (by omega) ?_ | refine HLe.frz hnm (by omega) ?_ | refine HLe.del hnm (by omega) ?_))
    have c4 : decide (1099511627776 < n) = false := decide_eq_false h4
    have ga : a ≤ 9223372036854775806 := by omega
    have h5 : 0 ≤ g ∧ g < sf.length ∧ 1 ≤ n ∧ n ≤ 1099511627776 := by omega
    by_cases h6 : n = nextF sp a
    · have c5 : (n != nextF sp a) = false := by rw [bne_eq_false_iff_eq]; exact h6
      by_cases h7 : 16384 ≤ l.length
      · have c6 : decide (16384 ≤ (l.length : Int)) = true := decide_eq_true (by omega)
        simp (maxSteps := 4000000) only [icPSent, go_sem, goD_calls, eq_self, implies_true, Int.reduceEq, Int.reduceBEq, Int.reduceBNe, Int.reduceLE, Int.reduceLT, Int.reduceAdd, Int.reduceSub, Int.reduceMul, Int.reduceNeg, Nat.reduceMul, Nat.reduceSub, Nat.reduceLeDiff, Nat.reduceLT, Nat.reduceEqDiff, Nat.reduceAdd, reduceCtorEq, ↓reduceIte, reduceIte, pn0p, pn1p, pn2p, pn3p, pn4p, pn5p, pn6p, pn7p, pn0u, pn1u, pn2u, pn3u, pn4u, pn5u, pn6u, pn7u, pn0v, pn1v, pn2v, pn3v, pn4v, pn5v, pn6v, pn7v, spSNext, hp, hv, hu, c1, c2, c3, c4, c5, c6, ga, hlow]
        exact ret _ (hmany h5 h6 h7) _ _ (by ((try simp only []); repeat first | exact HLe.refl _ | refine HLe.cons (by simp only [hget, Nat.reduceEqDiff, Nat.left_eq_add, Nat.add_eq_left, nm_ne2, nm_en2, nm_ne3, nm_en3, nm_ne4, nm_en4, nm_ne5, nm_en5, reduceIte, ↓reduceIte] <;> first | rfl | ((repeat rw [if_neg (by omega)]) <;> rfl)) ?_ | refine HLe.skip hnm (by omega) ?_ | refine HLe.frz hnm (by omega) ?_ | refine HLe.del hnm (by omega) ?_))
      · have c6 : decide (16384 ≤ (l.length : Int)) = false := decide_eq_false (by omega)
        have hpd : hget (hdel h u) p = some (.cells [.dat (.slice 41) (.list sp), .vec u, .int .i64 a, .vec v, .int .i64 k0, .int .i64 c0, .int .i64 d0]) := by rw [hget_hdelA, if_neg (fun e => hpu e.symm)]; exact hp
        have hpg : ∀ t, hget (hset (hdel h u) p t) p = some t := fun t => hget_hset' hpd
        have hvg : ∀ t, hget (hset (hdel h u) p t) v = some (.arr 2 (.int .i64) sf) := fun t => by rw [hget_hset_ne (fun e => hvp e.symm), hget_hdelA, if_neg (fun e => hvu e.symm)]; exact hv
        have hgr' : grOk (l ++ [.node [.int n, .int g, .bool b]]) sf := by
          intro i hi
          rw [List.length_append, List.length_singleton] at hi
          by_cases e : i < l.length
          · rw [List.getD_eq_getElem?_getD, List.getElem?_append_left e, ← List.getD_eq_getElem?_getD]; exact hgr i e
          · obtain rfl : i = l.length := by omega
            rw [List.getD_eq_getElem?_getD, List.getElem?_append_right (Nat.le_refl _)]
            simp only [Nat.sub_self, List.getElem?_cons_zero, Option.getD_some, D.fld, D.fs, List.getD_cons_succ, List.getD_cons_zero, D.i]
            omega
        have hk2 : 0 ≤ k0 ∧ k0 ≤ ((l ++ [D.node [.int n, .int g, .bool b]]).length : Int) := by rw [List.length_append, List.length_singleton]; omega
        have hlen2 : (l ++ [D.node [.int n, .int g, .bool b]]).length ≤ 1000000 := by rw [List.length_append, List.length_singleton]; omega
        simp (maxSteps := 4000000) only [icPSent, go_sem, goD_calls, eq_self, implies_true, Int.reduceEq, Int.reduceBEq, Int.reduceBNe, Int.reduceLE, Int.reduceLT, Int.reduceAdd, Int.reduceSub, Int.reduceMul, Int.reduceNeg, Nat.reduceMul, Nat.reduceSub, Nat.reduceLeDiff, Nat.reduceLT, Nat.reduceEqDiff, Nat.reduceAdd, reduceCtorEq, ↓reduceIte, reduceIte, pn0p, pn1p, pn2p, pn3p, pn4p, pn5p, pn6p, pn7p, pn0u, pn1u, pn2u, pn3u, pn4u, pn5u, pn6u, pn7u, pn0v, pn1v, pn2v, pn3v, pn4v, pn5v, pn6v, pn7v, spSNext, spPLook, hp, hv, hu, hpd, hpg, hvg, hset_hset, cellAt_one ho7, cellAt_one ho8, c1, c2, c3, c4, c5, c6, ga, hlow, pOk_c, sOk_c, iOk_c, pU_c, pV_c, pK_c, aL_c]
        have hrr : ∀ m, m < nx → rens [(nx, nx + 1 + 64 + 1)] m = m := fun m hm => rens_lt (nb := nx) (by simp) m hm
        have hgo : ∀ h2 : Heap, hget h2 (nx + 1 + 64 + 1) = some (.arr 112 sentT (l ++ [D.node [D.int n, D.int g, D.bool b]])) → hget h2 v = some (.arr 2 (.int .i64) sf) → goF h2 (some (.cells [.dat (.slice 41) (.list sp), .vec (nx + 1 + 64 + 1), .int .i64 n, .vec v, .int .i64 k0, .int .i64 c0, .int .i64 d0])) = lookS (some (.cells [.dat (.slice 41) (.list sp), .vec u, .int .i64 a, .vec v, .int .i64 k0, .int .i64 c0, .int .i64 d0])) (l ++ [D.node [D.int n, D.int g, D.bool b]]) sf := fun h2 e1 e2 => by
          unfold goF lookS
          rw [pU_c, pV_c, pK_c, pC_c, pD_c, e1, e2, aL_c, aL_c, pK_c, pC_c, pD_c]
        refine ⟨by omega, hk2, hlen2, hgr', ?_⟩
        rw [hgo _ (by simp only [hget, ↓reduceIte]) (by rw [hget, if_neg (by omega), hget, if_neg (by omega), hget, if_neg (by omega)]; exact hvg _)]
        refine (hQ _ ?_).1
        have hK := hgood h5 h6 (by omega)
        unfold sentH sentP at hK
        rw [hp, pU_c, hu, aL_c, pS_c, pV_c, hv, aL_c] at hK
        have hd1 : HLt (hdel h u) nx := HLt.hdelA hnm
        refine fin_gen (p := True ∧ True) (xs := [.dat .iface .nil]) rfl ⟨trivial, trivial⟩ (.refl _) [(nx, nx + 1 + 64 + 1)] (.dat .iface .nil) _ (by simp) (by simp; omega) (by simp) rfl trivial ?_ ?_ ?_ hK
        · intro m t hm
          rw [hget] at hm
          split at hm
          · rename_i e; subst e; exact .inr (by simp)
          · exact .inl ((HLt.hsetA (t := .arr 0 .bool []) hd1 trivial) m (t := if m = p then .arr 0 .bool [] else t) (by
              rw [hget_hsetA] at hm ⊢
              by_cases e : p = m
              · subst e; rw [if_pos rfl] at hm ⊢; rw [hpd] at hm ⊢; simp
              · rw [if_neg e] at hm ⊢; rw [hm, if_neg (fun e' => e e'.symm)])).1
        · refine HRen.cons ?_ (HRen.hset ?_ (fun m t hne hm => ?_))
          · simp [hget, rens, Tok.ren, sent3]
          · rw [hrr p hpx, hget, if_neg (by omega), hget, if_neg (by omega), hget, if_neg (by omega), hpg]
            simp only [ptG, ptC, pS_c, pU_c, pA_c, pV_c, Tok.ren, SV.ren, SV.renL, rens, ↓reduceIte, if_neg (show ¬ v = nx by omega)]
            rfl
          · have hm2 := hd1 m t hm
            rw [hrr m hm2.1, tok_ren_lt hrr hm2.2, hget, if_neg (by omega), hget, if_neg (by omega), hget, if_neg (by omega), hget_hset_ne (fun e => hne e.symm)]
            exact hm
        · refine HLt.cons (by omega) trivial (HLt.hsetA (hd1.mono (by omega)) ?_)
          exact ⟨trivial, by show nx < nx + 64; omega, trivial, by show v < nx + 64; omega, trivial, trivial, trivial, trivial⟩
    · have c5 : (n != nextF sp a) = true := by rw [bne_iff_ne]; exact h6
      simp (maxSteps := 4000000) only [icPSent, go_sem, goD_calls, eq_self, implies_true, Int.reduceEq, Int.reduceBEq, Int.reduceBNe, Int.reduceLE, Int.reduceLT, Int.reduceAdd, Int.reduceSub, Int.reduceMul, Int.reduceNeg, Nat.reduceMul, Nat.reduceSub, Nat.reduceLeDiff, Nat.reduceLT, Nat.reduceEqDiff, Nat.reduceAdd, reduceCtorEq, ↓reduceIte, reduceIte, pn0p, pn1p, pn2p, pn3p, pn4p, pn5p, pn6p, pn7p, pn0u, pn1u, pn2u, pn3u, pn4u, pn5u, pn6u, pn7u, pn0v, pn1v, pn2v, pn3v, pn4v, pn5v, pn6v, pn7v, spSNext, hp, hv, hu, c1, c2, c3, c4, c5, ga, hlow]
      exact ret _ (hshape h5 h6) _ _ (by ((try simp only []); repeat first | exact HLe.refl _ | refine HLe.cons (by simp only [hget, Nat.reduceEqDiff, Nat.left_eq_add, Nat.add_eq_left, nm_ne2, nm_en2, nm_ne3, nm_en3, nm_ne4, nm_en4, nm_ne5, nm_en5, reduceIte, ↓reduceIte] <;> first | rfl | ((repeat rw [if_neg (by omega)]) <;> rfl)) ?_ | refine HLe.skip hnm (by omega) ?_ | refine HLe.frz hnm (by omega) ?_ | refine HLe.del hnm (by omega) ?_))
  · exact hsp.elim
end Go.Proofs.YtmjenjccinfbaaaDoor
