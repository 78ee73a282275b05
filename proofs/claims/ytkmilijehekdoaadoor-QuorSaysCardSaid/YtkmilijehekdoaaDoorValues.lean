/- slices.Values at []int: its iterator hands on the elements, in their order. -/
import Derived.RangeFuncBox
import Derived.RangeFuncLeaves
import Derived.Shelf.Abstract
import Derived.WalkKit
import Derived.OwnWalkIn
import Derived.TacticsInMore
import Derived.LoopNIn
import Derived.LoopIn
import Derived.KernelRfl
import Derived.Test.YtkmilijehekdoaaDoorProg
import Derived.Test.YtkmilijehekdoaaDoorFwZ
namespace Go.Proofs.YtkmilijehekdoaaDoor
open Go Go.Fw Go.Proofs Go.RowKit Go.Shelf
attribute [local go_sem] Oper.semAt_some
set_option linter.unusedVariables false
set_option linter.unusedSimpArgs false

set_option maxRecDepth 100000 in
set_option maxHeartbeats 2000000 in
theorem values1_in (F : Fence) (n : Nat) (h7 : F.fn 50) (hro : F.round = none) (hn : 1 ≤ n ∨ F.depth = none) (l : Nat) (bx : Addr) (len cap : Nat) (ad : Option Addr) (zs : List Int) (hreach : len ≤ maxLen) (J : Nat → World → Prop) (Jx : World → Prop)
    (hbx : ∀ i W, J i W → W.cell? ⟨bx.block, bx.off, none⟩ = some (.slice ad len cap)) (hb0 : bx.spot = none) (hcx : ∀ i W, J i W → ∀ k, k < len → ∃ a, ad = some a ∧ a.spot = none ∧ W.cell? ⟨a.block, a.off + k, none⟩ = some (.int .i64 (zs[k]?.getD 0)))
    (hY : ∀ k W, k < len → J k W → YieldAt F (n - 1) Tryd.prog l #[.int .i64 (zs[k]?.getD 0)] W fun e W' => (e = .returned (.bool true) ∧ J (k + 1) W') ∨ (e = .returned (.bool false) ∧ Jx W'))
    (W : World) (h0 : J 0 W) :
    CallsIn F n Tryd.prog 50 #[.func (.yield l) #[] #[], .pointer (some bx)] W fun e W' => (∃ v, e = .returned v) ∧ (J len W' ∨ Jx W') := by
  obtain ⟨bb, bo, bs⟩ := bx
  simp only at hb0 hbx
  subst hb0
  have hml : maxLen ≤ 9223372036854775807 := by decide
  have hn1 : F.depth.isSome = true → 1 ≤ n := fun h => by
    rcases hn with h1 | h1
    · exact h1
    · rw [h1] at h; cases h
  refine callsIn_of_wp Tryd.func50 rfl h7 ?_ hro
  simp only [Tryd.ntmps50, List.size_toArray, List.length_cons, List.length_nil, Nat.reduceAdd, Nat.reduceSub, Array.replicate_succ, Array.replicate_zero, List.push_toArray, List.append_toArray, List.nil_append, List.cons_append]
  have hbx0 := hbx 0 W h0
  gi_wp2
  gi_loopw [7] (fun i wr => ∃ k : Nat, k ≤ len ∧ i = .int .i64 k ∧ J k wr) (fun i _ => len - (intOf i).toNat)
  case atStart => exact ⟨0, Nat.zero_le _, rfl, h0⟩
  case round =>
    obtain ⟨k, hk, rfl, hJs⟩ := hrel
    by_cases hlt : k < len
    · obtain ⟨⟨ab, ao, asp⟩, rfl, ha0, hcx'⟩ := hcx k wr hJs k hlt
      simp only at ha0 hcx'
      subst ha0
      obtain ⟨fn, tmps, assign, body, hy, hR⟩ := hY k wr hlt hJs
      gi_wp2
      refine ⟨hn1, hR.mono ?_⟩
      rintro e W3 (⟨rfl, hJ3⟩ | ⟨rfl, hJx3⟩)
      · gi_wp2
        go_roundw
        case rel => exact ⟨k + 1, by omega, by simp, hJ3⟩
        case measure => simp [intOf]; omega
      · gi_wp2
        refine bodyPost_ret (results_none rfl _ _ _) rfl ?_
        exact ⟨⟨_, rfl⟩, .inr hJx3⟩
    · obtain rfl : k = len := by omega
      gi_wp2
      go_end0
      exact ⟨⟨_, rfl⟩, .inl hJs⟩

theorem ints_rep {P : Program} {E : Nat → Value} {H : FH} {d : D} {cs : List Value} (h : Rep P E H (.int .i64) d cs) : d = .int d.i ∧ cs = [.int .i64 d.i] ∧ (IntKind.i64.min ≤ d.i ∧ d.i ≤ IntKind.i64.max) := by
  cases h with | int hr => exact ⟨rfl, rfl, hr⟩

/-- What is handed on. -/
def valuesIt : ItS := fun caps items => ∃ l, caps = [.elt (.slice 3) (.list l)] ∧ items = l.map fun d => ([SV.int .i64 d.i], [])
theorem tyInt : tyOf Tryd.prog 8 3 = .int .i64 := by kernel_rfl
theorem it_values {E : Nat → Value} {G : Nat → Bool} : ItValid Tryd.prog E G 50 valuesIt := by
  rintro caps items ⟨l, rfl, rfl⟩
  refine ⟨by kernel_rfl, ?_⟩
  intro ρ H lb hden hgl ll J Jx hJ hJx hY W h0 hin herr
  cases hden with
  | cons h1 h2 =>
    cases h2
    cases h1 with
    | elt hs hm hr =>
      rename_i a cs
      cases hr with
      | slice css hc hcap hn hz hmm hrr =>
        rename_i ad cap
        have hbox : H a.block (a.off + 0) = some (.slice ad l.length cap) := hm 0 _ rfl
        rw [Nat.add_zero] at hbox
        rw [List.length_map]
        have hel : ∀ k (hk : k < l.length), ∃ aa, ad = some aa ∧ aa.spot = none ∧ H aa.block (aa.off + k) = some (.int .i64 (((l.map D.i)[k]?).getD 0)) ∧ l[k] = .int (((l.map D.i)[k]?).getD 0) ∧ (IntKind.i64.min ≤ (((l.map D.i)[k]?).getD 0) ∧ (((l.map D.i)[k]?).getD 0) ≤ IntKind.i64.max) := by
          intro k hk
          obtain ⟨aa, hae, hsp⟩ := hn (fun e => by rw [e] at hk; simp at hk)
          have hri := hrr k hk
          rw [tyInt] at hri
          obtain ⟨e1, e2, e3⟩ := ints_rep hri
          have e4 : ((l.map D.i)[k]?).getD 0 = l[k].i := by rw [List.getElem?_map, List.getElem?_eq_getElem hk]; rfl
          rw [e4]
          have := hmm k hk aa hae 0 (.int .i64 l[k].i) (by rw [e2]; rfl)
          rw [tyInt] at this
          exact ⟨aa, hae, hsp, by simpa [Ty.size] using this, e1, e3⟩
        refine (values1_in Fence.wide 0 trivial rfl (.inr rfl) ll a l.length cap ad (l.map D.i) (by omega) (fun i W => J i W ∧ FHin H W ∧ ErrW E G H W) Jx (fun i W hJ => hJ.2.1 _ _ _ hbox) hs
          (fun i W hJ k hk => by obtain ⟨aa, h3, h4, h5, _⟩ := hel k hk; exact ⟨aa, h3, h4, hJ.2.1 _ _ _ h5⟩) (fun k W hk hJk => ?_) W ⟨h0, hin, herr⟩).mono ?_
        · obtain ⟨aa, h3, h4, h5, h6, h7⟩ := hel k hk
          have hi : (l.map fun d => (([SV.int .i64 d.i], []) : List SV × Heap))[k]'(by simpa using hk) = ([SV.int .i64 (((l.map D.i)[k]?).getD 0)], []) := by
            rw [List.getElem_map, h6]; rfl
          have := hY k (by rw [List.length_map]; exact hk) W W (fun _ => undef) H [.int .i64 (((l.map D.i)[k]?).getD 0)] hJk.1 (Kept.refl W _) (fun b o v h => .inl h) hJk.2.1 (FH.le_refl H)
            (by rw [hi]; exact ⟨fun n t h => by simp [hget] at h, fun n m t u b h => by simp [hget] at h⟩) (by rw [hi]; intro n t h; simp [hget] at h) (by rw [hi]; intro n t b h; simp [hget] at h) (by rw [hi]; exact .cons (.int h7) .nil) (by rw [hi]; exact ⟨trivial, trivial⟩)
          obtain ⟨fn, tmps, assign, body, hy, hR⟩ := this
          refine ⟨fn, tmps, assign, body, hy, hR.mono ?_⟩
          rintro e W' (⟨rfl, h8, h9, h10⟩ | ⟨rfl, h8, _⟩)
          · exact .inl ⟨rfl, h8, h9, h10⟩
          · exact .inr ⟨rfl, h8⟩
        · rintro e W' ⟨he, h8 | h8⟩
          · exact ⟨he, .inl h8.1⟩
          · exact ⟨he, .inr h8⟩
end Go.Proofs.YtkmilijehekdoaaDoor
