/- Chapter 6: more is enough; what both are enough for, and one of them: plain. -/
import Derived.Test.YtkmilijehekdoaaDoorQuorJ
namespace Go.Proofs.YtkmilijehekdoaaDoor
set_option linter.unusedVariables false
set_option linter.unusedSimpArgs false
open Go Go.Fw

def hasQ (o : Option QP) (S : Int → Bool) : Bool := match o with
  | none => false
  | some q => q.has S
theorem hasD_prog {o : Option QP} {p l : D} {n : Int} (h : progD o = .node [p, l, .int n]) (S : Int → Bool) : hasD p S = hasQ o S := by
  rcases prog_inv h with ⟨rfl, rfl, _, _⟩ | ⟨q, rfl, rfl, _, _⟩
  · exact hasD_nil S
  · exact hasD_enc q S
theorem okD_prog {o : Option QP} {p l : D} {n : Int} (ho : okQ o) (h : progD o = .node [p, l, .int n]) : okD p := by
  rcases prog_inv h with ⟨rfl, rfl, _, _⟩ | ⟨q, rfl, rfl, _, _⟩
  · exact okD_nil
  · exact okD_enc ho.1
theorem prog_len {o : Option QP} {p : D} {l : List D} {n : Int} (ho : okQ o) (h : progD o = .node [p, .list l, .int n]) : l.length ≤ 16 := by
  rcases prog_inv h with ⟨rfl, _, e, _⟩ | ⟨q, rfl, _, e, _⟩
  · simp only [D.list.injEq] at e
    rw [e]
    exact Nat.zero_le _
  · simp only [D.list.injEq] at e
    rw [e]
    exact ho.2.2.2.2.1
theorem inL_more (L : List D) (x : Int) (n : Int) (h : inL L n = true) : inL (iL L ++ [.int x]) n = true := by
  unfold inL at h ⊢
  rw [List.map_append, iL_map, List.contains_iff_mem] at *
  exact List.mem_append_left _ h
theorem grow_1 {o : Option QP} {L : List D} {x : Int} (h : hasQ o (inL L) = true) : hasQ o (inL (iL L ++ [.int x])) = true := by
  cases o with
  | none => exact h
  | some q => exact QP.has_mono (fun n _ hn => inL_more L x n hn) h
theorem two_has {x y : Option QP} {p : D} {l : List D} {n : Int} {kind : Int} (hk : kind = 1 ∨ kind = 2) (h : progD (twoQ kind x y) = .node [p, .list l, .int n]) (h0 : l ≠ []) {lx ly : List D} {px py : D} {nx ny : Int} (hx : progD x = .node [px, .list lx, .int nx]) (hy : progD y = .node [py, .list ly, .int ny]) (hx0 : lx ≠ []) (hy0 : ly ≠ []) (S : Int → Bool) : hasQ (twoQ kind x y) S = if kind = 1 then (hasQ x S && hasQ y S) else (hasQ x S || hasQ y S) := by
  have nn : ∀ {o : Option QP} {p : D} {l : List D} {n : Int}, progD o = .node [p, .list l, .int n] → l ≠ [] → ∃ q, o = some q := fun {o p l n} h h0 => by
    rcases prog_inv h with ⟨rfl, _, e, _⟩ | ⟨q, rfl, _, e, _⟩
    · simp only [D.list.injEq] at e
      exact absurd e h0
    · exact ⟨q, rfl⟩
  obtain ⟨a, rfl⟩ := nn hx hx0
  obtain ⟨b, rfl⟩ := nn hy hy0
  obtain ⟨c, hc⟩ := nn h h0
  have hq : twoQ kind (some a) (some b) = some (kindQ kind a b) := by
    have e : twoQ kind (some a) (some b) = if 16 < (nodesL (kindQ kind a b)).length ∨ 16 < (kindQ kind a b).leaves then none else some (kindQ kind a b) := rfl
    rw [e] at hc ⊢
    by_cases hb : 16 < (nodesL (kindQ kind a b)).length ∨ 16 < (kindQ kind a b).leaves
    · rw [if_pos hb] at hc; cases hc
    · rw [if_neg hb]
  rw [hq]
  rcases hk with rfl | rfl
  · rfl
  · rfl
def WQuorGrows : Opts := mkWF 130 [] [0, 1, 3, 4, 5, 6, 7, 8, 9, 10, 11, 12, 13, 14, 15, 16, 17] [101, 104, 108, 119, 122, 126] 152 [0, 1, 3, 4, 5, 6, 7, 8, 9, 10, 11, 12, 13, 14, 15, 16, 17] [] [] [101, 104, 108, 119, 122, 126]
def icQuorGrows : IC := (.seq (.seq (.ops [(.u (.mov 8 (.c (.bool false))))]) (.tr [0, 1, 3, 2])) (.seq (.seq (.ops [(.u (.call 19 (.c (.clo 11 [])) [] [] true)), (.u (.mov 9 (.s 19)))]) (.tr [9, 0, 1, 3, 2])) (.seq (.seq (.seq (.ops [(.u (.mov 20 (.s 9))), (.u (.una 21 .not (.s 20)))]) (.tr [21, 9, 0, 1, 3, 2])) (.cond (.s 21) (.seq (.seq (.ops [(.u (.mov 8 (.c (.bool false))))]) (.tr [8])) .ret) .skip)) (.seq (.seq (.seq (.ops [(.u (.mov 22 (.s 0))), (.u (.call 23 (.c (.clo 17 [])) [(.s 22)] [(some 72)] true)), (.u (.una 24 .not (.s 23))), (.u (.mov 25 (.s 24))), (.g 25 false (some 26) (.mov 26 (.s 1))), (.g 25 false (some 27) (.call 27 (.c (.clo 17 [])) [(.s 26)] [(some 72)] true)), (.g 25 false (some 28) (.una 28 .not (.s 27))), (.u (.pck 29 (.s 25) (.c (.bool true)) (.s 28))), (.u (.mov 30 (.s 29))), (.g 30 false (some 31) (.mov 31 (.s 2))), (.g 30 false (some 32) (.len 32 false (.s 31))), (.g 30 false (some 33) (.cmp 33 .gtr (.s 32) (.c (.int .i64 20)))), (.u (.pck 34 (.s 30) (.c (.bool true)) (.s 33))), (.u (.mov 35 (.s 34))), (.g 35 false (some 36) (.mov 36 (.s 9))), (.g 35 false (some 37) (.una 37 .not (.s 36))), (.u (.pck 38 (.s 35) (.c (.bool true)) (.s 37)))]) (.tr [38, 9, 0, 1, 3, 2])) (.cond (.s 38) (.seq (.seq (.ops [(.u (.mov 39 (.s 9))), (.u (.mov 8 (.s 39)))]) (.tr [8])) .ret) .skip)) (.seq (.seq (.ops [(.u (.mov 41 (.s 0))), (.u (.call 42 (.c (.clo 18 [])) [(.s 41)] [(some 72)] true)), (.u (.mov 40 (.s 42))), (.u (.ext 43 0 (.s 40))), (.u (.ext 44 1 (.s 40))), (.u (.ext 45 2 (.s 40))), (.u (.alc 10 [(.dat (.ptr 65) .nil), .nils, (.int .i64 0)])), (.u (.alc 11 [.nils])), (.u (.st (.strct [(.ptr 65), (.slice 3), (.int .i64)]) (.s 10) (.s 43))), (.u (.st (.strct [(.slice 79)]) (.s 11) (.s 44))), (.u (.mov 12 (.s 45)))]) (.tr [1, 12, 3, 10, 2])) (.seq (.seq (.ops [(.u (.mov 47 (.s 1))), (.u (.call 48 (.c (.clo 18 [])) [(.s 47)] [(some 72)] true)), (.u (.mov 46 (.s 48))), (.u (.ext 49 0 (.s 46))), (.u (.ext 50 1 (.s 46))), (.u (.ext 51 2 (.s 46))), (.u (.alc 13 [(.dat (.ptr 65) .nil), .nils, (.int .i64 0)])), (.u (.alc 14 [.nils])), (.u (.st (.strct [(.ptr 65), (.slice 3), (.int .i64)]) (.s 13) (.s 49))), (.u (.st (.strct [(.slice 79)]) (.s 14) (.s 50))), (.u (.mov 15 (.s 51)))]) (.tr [12, 15, 3, 10, 13, 2])) (.seq (.seq (.seq (.ops [(.u (.mov 52 (.s 12))), (.u (.una 53 .not (.s 52))), (.u (.mov 54 (.s 53))), (.g 54 false (some 55) (.mov 55 (.s 15))), (.g 54 false (some 56) (.una 56 .not (.s 55))), (.u (.pck 57 (.s 54) (.c (.bool true)) (.s 56))), (.u (.mov 58 (.s 57))), (.g 58 false (some 59) (.ld 59 (.strct [(.ptr 65), (.slice 3), (.int .i64)]) (.s 10))), (.g 58 false (some 60) (.call 60 (.c (.clo 23 [])) [(.s 59)] [none] true)), (.g 58 false (some 61) (.len 61 false (.s 60))), (.g 58 false (some 62) (.cmp 62 .eql (.s 61) (.c (.int .i64 0)))), (.u (.pck 63 (.s 58) (.c (.bool true)) (.s 62))), (.u (.mov 64 (.s 63))), (.g 64 false (some 65) (.ld 65 (.strct [(.ptr 65), (.slice 3), (.int .i64)]) (.s 13))), (.g 64 false (some 66) (.call 66 (.c (.clo 23 [])) [(.s 65)] [none] true)), (.g 64 false (some 67) (.len 67 false (.s 66))), (.g 64 false (some 68) (.cmp 68 .eql (.s 67) (.c (.int .i64 0)))), (.u (.pck 69 (.s 64) (.c (.bool true)) (.s 68)))]) (.tr [69, 12, 15, 3, 10, 13, 2])) (.cond (.s 69) (.seq (.seq (.ops [(.u (.mov 70 (.s 12))), (.u (.mov 71 (.s 70))), (.g 71 true (some 72) (.mov 72 (.s 15))), (.u (.pck 73 (.s 71) (.s 72) (.c (.bool false)))), (.u (.mov 8 (.s 73)))]) (.tr [8])) .ret) .skip)) (.seq (.seq (.ops [(.u (.mov 74 (.s 2))), (.u (.call 75 (.c (.clo 24 [])) [(.s 74)] [(some 3)] true)), (.u (.mov 76 (.s 3))), (.u (.bsl 77 3 (.int .i64) [(.s 76)])), (.u (.app 78 3 (.int .i64) 8 (.s 75) (.s 77))), (.u (.mov 16 (.s 78)))]) (.tr [16, 10, 13, 2])) (.seq (.seq (.seq (.ops [(.u (.ld 79 (.strct [(.ptr 65), (.slice 3), (.int .i64)]) (.s 10))), (.u (.mov 80 (.s 2))), (.u (.call 81 (.c (.clo 16 [])) [(.s 79), (.s 80)] [none, (some 3)] true)), (.u (.mov 82 (.s 81))), (.g 82 true (some 83) (.ld 83 (.strct [(.ptr 65), (.slice 3), (.int .i64)]) (.s 10))), (.g 82 true (some 84) (.mov 84 (.s 16))), (.g 82 true (some 85) (.call 85 (.c (.clo 16 [])) [(.s 83), (.s 84)] [none, (some 3)] true)), (.g 82 true (some 86) (.una 86 .not (.s 85))), (.u (.pck 87 (.s 82) (.s 86) (.c (.bool false))))]) (.tr [87, 10, 13, 2])) (.cond (.s 87) (.seq (.seq (.ops [(.u (.mov 8 (.c (.bool false))))]) (.tr [8])) .ret) .skip)) (.seq (.seq (.ops [(.u (.ld 88 (.strct [(.ptr 65), (.slice 3), (.int .i64)]) (.s 10))), (.u (.ld 89 (.strct [(.ptr 65), (.slice 3), (.int .i64)]) (.s 13))), (.u (.call 90 (.c (.clo 22 [])) [(.s 88), (.s 89)] [none, none] true)), (.u (.alc 17 [(.dat (.ptr 65) .nil), .nils, (.int .i64 0)])), (.u (.st (.strct [(.ptr 65), (.slice 3), (.int .i64)]) (.s 17) (.s 90)))]) (.tr [17, 10, 13, 2])) (.seq (.seq (.ops [(.u (.ld 91 (.strct [(.ptr 65), (.slice 3), (.int .i64)]) (.s 10))), (.u (.ld 92 (.strct [(.ptr 65), (.slice 3), (.int .i64)]) (.s 13))), (.u (.call 93 (.c (.clo 21 [])) [(.s 91), (.s 92)] [none, none] true)), (.u (.alc 18 [(.dat (.ptr 65) .nil), .nils, (.int .i64 0)])), (.u (.st (.strct [(.ptr 65), (.slice 3), (.int .i64)]) (.s 18) (.s 93)))]) (.tr [17, 18, 10, 13, 2])) (.seq (.seq (.seq (.rgn [] [(false, (.u (.ld 94 (.strct [(.ptr 65), (.slice 3), (.int .i64)]) (.s 17)))), (false, (.u (.call 95 (.c (.clo 23 [])) [(.s 94)] [none] true))), (false, (.u (.len 96 false (.s 95)))), (false, (.u (.cmp 97 .gtr (.s 96) (.c (.int .i64 0))))), (false, (.u (.mov 98 (.s 97)))), (false, (.g 98 true (some 99) (.ld 99 (.strct [(.ptr 65), (.slice 3), (.int .i64)]) (.s 17)))), (false, (.g 98 true (some 100) (.mov 100 (.s 2)))), (false, (.g 98 true (some 102) (.ld 102 (.strct [(.ptr 65), (.slice 3), (.int .i64)]) (.s 10)))), (false, (.g 98 true (some 103) (.mov 103 (.s 2)))), (true, (.g 98 true (some 101) (.call 101 (.c (.clo 16 [])) [(.s 99), (.s 100)] [none, (some 3)] false))), (true, (.g 98 true (some 104) (.call 104 (.c (.clo 16 [])) [(.s 102), (.s 103)] [none, (some 3)] false))), (false, (.g 98 true (some 105) (.mov 105 (.s 104)))), (false, (.g 105 true (some 106) (.ld 106 (.strct [(.ptr 65), (.slice 3), (.int .i64)]) (.s 13)))), (false, (.g 105 true (some 107) (.mov 107 (.s 2)))), (true, (.g 105 true (some 108) (.call 108 (.c (.clo 16 [])) [(.s 106), (.s 107)] [none, (some 3)] false))), (false, (.g 98 true (some 109) (.pck 109 (.s 105) (.s 108) (.c (.bool false))))), (false, (.g 98 true (some 110) (.beq 110 true (.s 101) (.s 109)))), (false, (.u (.pck 111 (.s 98) (.s 110) (.c (.bool false)))))]) (.tr [111, 18, 10, 13, 2])) (.cond (.s 111) (.seq (.seq (.ops [(.u (.mov 8 (.c (.bool false))))]) (.tr [8])) .ret) .skip)) (.seq (.seq (.rgn [] [(false, (.u (.ld 112 (.strct [(.ptr 65), (.slice 3), (.int .i64)]) (.s 18)))), (false, (.u (.call 113 (.c (.clo 23 [])) [(.s 112)] [none] true))), (false, (.u (.len 114 false (.s 113)))), (false, (.u (.cmp 115 .eql (.s 114) (.c (.int .i64 0))))), (false, (.u (.mov 116 (.s 115)))), (false, (.g 116 false (some 117) (.ld 117 (.strct [(.ptr 65), (.slice 3), (.int .i64)]) (.s 18)))), (false, (.g 116 false (some 118) (.mov 118 (.s 2)))), (false, (.g 116 false (some 120) (.ld 120 (.strct [(.ptr 65), (.slice 3), (.int .i64)]) (.s 10)))), (false, (.g 116 false (some 121) (.mov 121 (.s 2)))), (true, (.g 116 false (some 119) (.call 119 (.c (.clo 16 [])) [(.s 117), (.s 118)] [none, (some 3)] false))), (true, (.g 116 false (some 122) (.call 122 (.c (.clo 16 [])) [(.s 120), (.s 121)] [none, (some 3)] false))), (false, (.g 116 false (some 123) (.mov 123 (.s 122)))), (false, (.g 123 false (some 124) (.ld 124 (.strct [(.ptr 65), (.slice 3), (.int .i64)]) (.s 13)))), (false, (.g 123 false (some 125) (.mov 125 (.s 2)))), (true, (.g 123 false (some 126) (.call 126 (.c (.clo 16 [])) [(.s 124), (.s 125)] [none, (some 3)] false))), (false, (.g 116 false (some 127) (.pck 127 (.s 123) (.c (.bool true)) (.s 126)))), (false, (.g 116 false (some 128) (.beq 128 false (.s 119) (.s 127)))), (false, (.u (.pck 129 (.s 116) (.c (.bool true)) (.s 128)))), (false, (.u (.mov 8 (.s 129))))]) (.tr [8])) .ret)))))))))))))
def rsQuorGrows : List RV := [(.t 8)]
theorem irQuorGrows : fnIR Tryd.prog WQuorGrows 6 = some (icQuorGrows, rsQuorGrows) := by kernel_rfl
def spQuorGrows : FSpec := fun args h nx K => match args with
  | [.dat (.slice t) l, .dat (.slice t') m, .dat (.slice t'') d, .int .i64 more] => t = 72 ∧ t' = 72 ∧ t'' = 3 ∧ K (.bool true) h
  | _ => False
end Go.Proofs.YtkmilijehekdoaaDoor
