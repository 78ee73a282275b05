/- Chapter 6: QuorLeasts: plain. -/
import Derived.Test.YtkmilijehekdoaaDoorQuorLp
import Derived.Test.YtkmilijehekdoaaDoorQuorJ
namespace Go.Proofs.YtkmilijehekdoaaDoor
set_option linter.unusedVariables false
set_option linter.unusedSimpArgs false
open Go Go.Fw
attribute [local go_sem] walkSet evMdl evMupD evMup evLkp frpL eltP eltV eltK preF preP prePt prePd frzP evNlq ev frOf oget ogets argSs argS evMm frzL evBin evWrp evShf evCmp evUna evNil evBeq evLd evSt evFad evIad evAad evLen evSln evEls evApp evParts evSlc evNlc evMif evPck evFld evBld evTas evIfq evSeq evSl0 evBxf evAgl evAgq evBsf hget hset hdel cellAt arrAt setCellAt setArrAt takeC lenC svCells SV.okc SV.one ldSV Fw.isAgg explode explodeL toD toDL toD1 Ty.size Ty.sizeL frz1 Fr.sub Heap.sub Tok.sub SV.sub SV.subL

def hasQ (o : Option QP) (S : Int → Bool) : Bool := match o with
  | none => false
  | some q => q.has S
theorem hasD_prog {o : Option QP} {p l : D} {n : Int} (h : progD o = .node [p, l, .int n]) (S : Int → Bool) : hasD p S = hasQ o S := by
  rcases prog_inv h with ⟨rfl, rfl, _, _⟩ | ⟨q, rfl, rfl, _, _⟩
  · exact hasD_nil S
  · exact hasD_enc q S
theorem okD_prog {o : Option QP} {p l : D} {n : Int} (ho : okQ o) (h : progD o = .node [p, l, .int n]) : okD p := by
  rcases prog_inv h with ⟨rfl, rfl, _, _⟩ | ⟨q, rfl, rfl, _, _⟩
  · exact okD_nil
  · exact okD_enc ho.1
theorem inL_am : inL = amI := rfl
theorem at_least {x : Option QP} {L : List D} (h : L ∈ leastQ x) : ∃ q z, x = some q ∧ z < 2 ^ (nodesL q).length ∧ leastPB q (nodesL q) z = true ∧ L = pickL (nodesL q) z := by
  cases x with
  | none => cases h
  | some q =>
    unfold leastQ leastPL leastPU at h
    obtain ⟨z, hz, rfl⟩ := List.mem_map.1 h
    rw [List.mem_filter, List.mem_range] at hz
    exact ⟨q, z, rfl, hz.1, hz.2, rfl⟩
/-- It is enough. -/
theorem least_has {x : Option QP} (hx : okQ x) {L : List D} (h : L ∈ leastQ x) : hasQ x (inL L) = true := by
  obtain ⟨q, z, rfl, hz, hl, rfl⟩ := at_least h
  unfold leastPB at hl
  rw [Bool.and_eq_true, has_pick hx.1] at hl
  exact hl.1
theorem nodup_nodes (q : QP) : ((nodesL q).map D.i).Nodup := by rw [nodesL_i]; exact nodup_lt (rise_sorted _)
theorem pick_nodup (q : QP) (z : Nat) : ((pickL (nodesL q) z).map D.i).Nodup := by
  have h := List.pairwise_iff_getElem.1 (nodup_nodes q)
  unfold pickL thoseL
  rw [List.map_map, List.Nodup, List.pairwise_map]
  have hp : ((List.range (nodesL q).length).filter (bitX (z : Int))).Pairwise (· < ·) := List.Pairwise.filter _ List.pairwise_lt_range
  refine hp.imp_of_mem (fun {a b} ha hb hab => ?_)
  rw [List.mem_filter, List.mem_range] at ha hb
  show (((nodesL q).getD a .nil).i : Int) ≠ ((nodesL q).getD b .nil).i
  rw [getD_map_i ha.1, getD_map_i hb.1]
  exact h a b _ _ hab
/-- Without one of them it is not. -/
theorem least_less {x : Option QP} (hx : okQ x) {L : List D} (h : L ∈ leastQ x) {i : Nat} (hi : i < L.length) : hasQ x (inL (iL (L.take i) ++ L.drop (i + 1))) = false := by
  obtain ⟨q, z, rfl, hz, hl, rfl⟩ := at_least h
  have na := nodes_okQ hx
  unfold leastPB at hl
  rw [Bool.and_eq_true, List.all_eq_true] at hl
  generalize hL : pickL (nodesL q) z = L at hi ⊢
  have hnd : (L.map D.i).Nodup := by rw [← hL]; exact pick_nodup q z
  have hm : pickM (nodesL q) z = maskL L := by rw [← hL]; rfl
  have hin : L[i] ∈ thoseL (nodesL q) (z : Int) (nodesL q).length := by
    show L[i] ∈ pickL (nodesL q) z
    rw [hL]
    exact List.getElem_mem hi
  have hv := na.rng _ (those_in hin)
  have h2 := hl.2 _ hin
  rw [Bool.not_eq_true', hm] at h2
  cases hc : hasQ (some q) (inL (iL (L.take i) ++ L.drop (i + 1))) with
  | false => rfl
  | true =>
    exfalso
    have : lessQ q (maskL L) L[i].i = true := by
      unfold lessQ QP.hasM
      refine QP.has_mono (fun n hn hs => ?_) hc
      have hr := hx.2.2.1 n hn
      rw [bit_andNot _ _ hr, bit_shl hr hv]
      have hb : bitM (maskL L) n = inL L n := bit_mask _ _ hr.1 hr.2
      rw [hb]
      unfold inL at hs ⊢
      rw [List.contains_iff_mem, List.map_append, iL_map, List.mem_append] at hs
      have hsplit : L.map D.i = (L.take i).map D.i ++ L[i].i :: (L.drop (i + 1)).map D.i := by
        have e : L = L.take i ++ L[i] :: L.drop (i + 1) := by rw [List.getElem_cons_drop, List.take_append_drop]
        conv => lhs; rw [e]
        rw [List.map_append, List.map_cons]
      rw [hsplit] at hnd
      have hnd2 := List.nodup_append.1 hnd
      rw [Bool.and_eq_true]
      constructor
      · rw [List.contains_iff_mem, hsplit, List.mem_append]
        exact hs.imp id (fun h => List.mem_cons_of_mem _ h)
      · rw [Bool.not_eq_true', decide_eq_false_iff_not]
        rintro rfl
        rcases hs with hs | hs
        · exact hnd2.2.2 _ hs _ (List.mem_cons_self ..) rfl
        · exact (List.nodup_cons.1 hnd2.2.1).1 hs
    rw [this] at h2
    cases h2
/-- None is within another. -/
theorem least_anti {x : Option QP} (hx : okQ x) {a b : Nat} (ha : a < (leastQ x).length) (hb : b < (leastQ x).length) (h : ∀ n ∈ (leastQ x)[a].map D.i, n ∈ (leastQ x)[b].map D.i) : a = b := by
  cases x with
  | none => exact absurd ha (Nat.not_lt_zero _)
  | some q =>
    have na := nodes_okQ hx
    have h64 : ∀ z, z < 2 ^ (nodesL q).length → z < 2 ^ 64 := fun z hz => Nat.lt_of_lt_of_le hz (Nat.pow_le_pow_right (by omega) (by have := na.len; omega))
    let F := (List.range (2 ^ (nodesL q).length)).filter (leastPB q (nodesL q))
    have hF : leastQ (some q) = F.map fun (z : Nat) => pickL (nodesL q) z := rfl
    have hFl : (leastQ (some q)).length = F.length := by rw [hF, List.length_map]
    have hFm : ∀ z ∈ F, z < 2 ^ (nodesL q).length ∧ leastPB q (nodesL q) z = true := fun z hz => by
      rw [List.mem_filter, List.mem_range] at hz; exact hz
    have hFp : F.Pairwise (· < ·) := List.Pairwise.filter _ List.pairwise_lt_range
    have ea : (leastQ (some q))[a] = pickL (nodesL q) (F[a]'(by omega)) := by simp only [hF, List.getElem_map]
    have eb : (leastQ (some q))[b] = pickL (nodesL q) (F[b]'(by omega)) := by simp only [hF, List.getElem_map]
    rw [ea, eb] at h
    have hza := hFm _ (List.getElem_mem (by omega : a < F.length))
    have hzb := hFm _ (List.getElem_mem (by omega : b < F.length))
    have inj : ∀ {i j : Nat} (hi : i < (nodesL q).length) (hj : j < (nodesL q).length), ((nodesL q).getD i .nil).i = ((nodesL q).getD j .nil).i → i = j := fun {i j} hi hj e => by
      rw [getD_map_i hi, getD_map_i hj] at e
      have hpw := List.pairwise_iff_getElem.1 (nodup_nodes q)
      rcases Nat.lt_trichotomy i j with h | h | h
      · exact absurd e (hpw i j _ _ h)
      · exact h
      · exact absurd e.symm (hpw j i _ _ h)
    generalize hzA : F[a]'(by omega) = z at h hza ea
    generalize hyB : F[b]'(by omega) = y at h hzb eb
    have sub : ∀ i, i < (nodesL q).length → z.testBit i = true → y.testBit i = true := fun i hi hb2 => by
      have := h _ ((pick_mem na.len).2 ⟨i, hi, hb2, rfl⟩)
      rw [pick_mem na.len] at this
      obtain ⟨j, hj, hjb, e⟩ := this
      rw [← inj hj hi e]; exact hjb
    have hzy : z = y := by
      apply Classical.byContradiction
      intro hne
      have hex : ∃ i, i < (nodesL q).length ∧ z.testBit i = false ∧ y.testBit i = true := Classical.byContradiction fun hc => hne (Nat.eq_of_testBit_eq fun i => by
        by_cases hi : i < (nodesL q).length
        · cases h1 : z.testBit i with
          | true => exact (sub i hi h1).symm
          | false =>
            cases h2 : y.testBit i with
            | false => rfl
            | true => exact absurd ⟨i, hi, h1, h2⟩ hc
        · rw [Nat.testBit_lt_two_pow (Nat.lt_of_lt_of_le hza.1 (Nat.pow_le_pow_right (by omega) (by omega))), Nat.testBit_lt_two_pow (Nat.lt_of_lt_of_le hzb.1 (Nat.pow_le_pow_right (by omega) (by omega)))])
      obtain ⟨i, hi, hi1, hi2⟩ := hex
      have lz := hza.2
      have ly := hzb.2
      rw [least_same hx.1 na.len (nodup_nodes q) na.rng hza.1] at lz
      rw [least_same hx.1 na.len (nodup_nodes q) na.rng hzb.1] at ly
      unfold leastB at lz ly
      rw [Bool.and_eq_true] at lz ly
      have h3 := List.all_eq_true.1 ly.2 i (List.mem_range.2 hi)
      unfold lessB at h3
      rw [hi2, Bool.true_and, Bool.not_eq_true'] at h3
      have h4 : q.has (amI (pickL (nodesL q) (clr y i))) = true := by
        refine QP.has_mono (fun n hn hs => ?_) lz.1
        rw [amI_iff, pick_mem na.len] at hs ⊢
        obtain ⟨j, hj, hjb, e⟩ := hs
        refine ⟨j, hj, ?_, e⟩
        rw [clr_bit j (by have := na.len; omega) (h64 y hzb.1), sub j hj hjb, Bool.true_and]
        have : i ≠ j := fun e => by subst e; rw [hi1] at hjb; cases hjb
        simp [this]
      have h3 : q.has (amI (pickL (nodesL q) (clr y i))) = false := h3
      rw [h4] at h3
      cases h3
    subst hzy
    have hpw := List.pairwise_iff_getElem.1 hFp
    rcases Nat.lt_trichotomy a b with hab | hab | hab
    · have := hpw a b (by omega) (by omega) hab; omega
    · exact hab
    · have := hpw b a (by omega) (by omega) hab; omega
/-- What is enough has one of them within. -/
theorem least_within {x : Option QP} (hx : okQ x) (N : List D) : (leastQ x).any (fun L => L.all fun d => amI N d.i) = hasQ x (inL N) := by
  rw [Bool.eq_iff_iff, List.any_eq_true]
  constructor
  · rintro ⟨L, hL, hs⟩
    rw [List.all_eq_true] at hs
    have h1 := least_has hx hL
    cases x with
    | none => cases hL
    | some q =>
      refine QP.has_mono (fun n hn h => ?_) h1
      unfold inL at h
      rw [List.contains_iff_mem] at h
      obtain ⟨d, hd, rfl⟩ := List.mem_map.1 h
      exact hs d hd
  · intro h
    cases x with
    | none => cases h
    | some q =>
      have na := nodes_okQ hx
      obtain ⟨z, hz, hp⟩ := subset_num (fun i => amI N ((nodesL q).getD i .nil).i) (nodesL q).length
      have hs : (fun s => q.has (amI s)) (pickL (nodesL q) z) = true := by
        refine QP.has_mono (fun n hn hs => ?_) h
        rw [amI_iff, pick_mem na.len]
        obtain ⟨d, hd, rfl⟩ := List.mem_map.1 (na.mem n hn)
        obtain ⟨j, hj, rfl⟩ := List.mem_iff_getElem.1 hd
        have e : (nodesL q).getD j .nil = (nodesL q)[j] := by rw [List.getD_eq_getElem?_getD, List.getElem?_eq_getElem hj]; rfl
        exact ⟨j, hj, by rw [hp j hj, e]; exact hs, by rw [e]⟩
      obtain ⟨y, hy, hl, hsub⟩ := least_ex (S := fun s => q.has (amI s)) na.len z hz hs
      refine ⟨pickL (nodesL q) y, ?_, ?_⟩
      · unfold leastQ leastPL leastPU
        refine List.mem_map.2 ⟨y, List.mem_filter.2 ⟨List.mem_range.2 hy, ?_⟩, rfl⟩
        rw [least_same hx.1 na.len (nodup_nodes q) na.rng hy]
        exact hl
      · rw [List.all_eq_true]
        intro d hd
        have := hsub d.i (List.mem_map.2 ⟨d, hd, rfl⟩)
        rw [pick_mem na.len] at this
        obtain ⟨j, hj, hb, e⟩ := this
        rw [hp j hj, e] at hb
        exact hb

theorem least_nil {x : Option QP} (hx : okQ x) {p : D} {n : Int} (hP : progD x = .node [p, .list [], .int n]) : leastQ x = [] := by
  apply List.eq_nil_iff_forall_not_mem.2
  intro L hL
  have h1 := least_has hx hL
  obtain ⟨q, z, rfl, _, _, rfl⟩ := at_least hL
  rcases prog_inv hP with ⟨h, _⟩ | ⟨q2, h, _, e, _⟩
  · cases h
  · cases h
    simp only [D.list.injEq] at e
    rw [← e] at h1
    have h2 : q.has (inL (pickL [] z)) = true := h1
    have h3 : q.has (inL (pickL [] z)) = false := QP.has_none (S := inL (pickL [] z)) (fun n => rfl) hx.2.1
    rw [h3] at h2
    cases h2
def within (N : List D) (W : List (List D)) : Bool := W.any fun L => L.all fun d => amI N d.i
def WQuorLeastsW : Opts := mkWF 142 [] [0, 1, 3, 4, 5, 6, 7, 8, 9, 10, 11, 12, 13, 14, 15, 16, 17] [140] 152 [0, 1, 3, 4, 5, 6, 7, 8, 9, 10, 11, 12, 13, 14, 15, 16, 17] [] [(100006, 27)] [140]
def icQuorLeastsW : IC := (.seq (.seq (.ops [(.u (.box 3 0 (.s 1))), (.u (.alc 4 [(.bool false)]))]) (.tr [0, 100006, 52, 4, 3])) (.seq (.seq (.ops [(.u (.call 19 (.c (.clo 11 [])) [] [] true)), (.u (.mov 5 (.s 19)))]) (.tr [5, 0, 100006, 52, 4, 3])) (.seq (.seq (.seq (.ops [(.u (.mov 20 (.s 5))), (.u (.una 21 .not (.s 20)))]) (.tr [21, 5, 0, 100006, 52, 4, 3])) (.cond (.s 21) (.seq (.seq (.ops [(.u (.st .bool (.s 4) (.c (.bool false))))]) (.tr [4])) .ret) .skip)) (.seq (.seq (.seq (.ops [(.u (.mov 22 (.s 0))), (.u (.call 23 (.c (.clo 17 [])) [(.s 22)] [(some 72)] true)), (.u (.una 24 .not (.s 23))), (.u (.mov 25 (.s 24))), (.g 25 false (some 26) (.ld 26 (.slice 3) (.s 3))), (.g 25 false (some 27) (.len 27 false (.s 26))), (.g 25 false (some 28) (.cmp 28 .gtr (.s 27) (.c (.int .i64 20)))), (.u (.pck 29 (.s 25) (.c (.bool true)) (.s 28))), (.u (.mov 30 (.s 29))), (.g 30 false (some 31) (.mov 31 (.s 5))), (.g 30 false (some 32) (.una 32 .not (.s 31))), (.u (.pck 33 (.s 30) (.c (.bool true)) (.s 32)))]) (.tr [33, 5, 0, 100006, 52, 4, 3])) (.cond (.s 33) (.seq (.seq (.ops [(.u (.mov 34 (.s 5))), (.u (.st .bool (.s 4) (.s 34)))]) (.tr [4])) .ret) .skip)) (.seq (.seq (.ops [(.u (.mov 36 (.s 0))), (.u (.call 37 (.c (.clo 18 [])) [(.s 36)] [(some 72)] true)), (.u (.mov 35 (.s 37))), (.u (.ext 38 0 (.s 35))), (.u (.ext 39 1 (.s 35))), (.u (.ext 40 2 (.s 35))), (.u (.alc 6 [(.dat (.ptr 65) .nil), .nils, (.int .i64 0)])), (.u (.alc 7 [.nils])), (.u (.st (.strct [(.ptr 65), (.slice 3), (.int .i64)]) (.s 6) (.s 38))), (.u (.st (.strct [(.slice 79)]) (.s 7) (.s 39))), (.u (.mov 8 (.s 40)))]) (.tr [8, 100006, 52, 6, 4, 3])) (.seq (.seq (.seq (.ops [(.u (.mov 41 (.s 8))), (.u (.una 42 .not (.s 41))), (.u (.mov 43 (.s 42))), (.g 43 false (some 44) (.ld 44 (.strct [(.ptr 65), (.slice 3), (.int .i64)]) (.s 6))), (.g 43 false (some 45) (.call 45 (.c (.clo 23 [])) [(.s 44)] [none] true)), (.g 43 false (some 46) (.len 46 false (.s 45))), (.g 43 false (some 47) (.cmp 47 .gtr (.s 46) (.c (.int .i64 8)))), (.u (.pck 48 (.s 43) (.c (.bool true)) (.s 47)))]) (.tr [48, 8, 100006, 52, 6, 4, 3])) (.cond (.s 48) (.seq (.seq (.ops [(.u (.mov 49 (.s 8))), (.u (.st .bool (.s 4) (.s 49)))]) (.tr [4])) .ret) .skip)) (.seq (.seq (.ops [(.u (.alc 9 [(.bool false)])), (.u (.st .bool (.s 9) (.c (.bool false))))]) (.tr [100006, 52, 6, 4, 3, 9])) (.seq (.seq (.ops [(.u (.alc 10 [.nils]))]) (.tr [100006, 52, 6, 4, 3, 9, 10])) (.seq (.seq (.seq (.ops [(.u (.ld 50 (.strct [(.ptr 65), (.slice 3), (.int .i64)]) (.s 6))), (.u (.call 51 (.c (.clo 14 [])) [(.s 50)] [none] true))]) (.tr [100006, 51, 52, 6, 4, 3, 9, 10])) (.block 0 (.seq (.frp [(100006, (27, (.strct [(.ptr 65), (.slice 3), (.int .i64)])))]) (.seq (.rng (.s 51) [52] (.seq (.ops [(.u (.mov 11 (.s 52)))]) (.tr [6, 4, 3, 9, 11, 10])) (.block 1 (.seq (.seq (.seq (.ops [(.u (.ld 53 (.strct [(.ptr 65), (.slice 3), (.int .i64)]) (.s 6))), (.u (.mov 54 (.s 11))), (.u (.call 55 (.c (.clo 16 [])) [(.s 53), (.s 54)] [none, (some 3)] true)), (.u (.una 56 .not (.s 55)))]) (.tr [56, 6, 4, 3, 9, 11, 10])) (.cond (.s 56) (.seq (.seq (.ops [(.u (.st .bool (.s 4) (.c (.bool false))))]) (.tr [4])) .ret) .skip)) (.seq (.seq (.seq (.ops [(.u (.mov 12 (.c (.int .i64 0))))]) (.tr [6, 4, 12, 3, 9, 11, 10])) (.block 2 (.loop (.seq (.seq (.seq (.ops [(.u (.mov 57 (.s 12))), (.u (.mov 58 (.s 11))), (.u (.len 59 false (.s 58))), (.u (.cmp 60 .lss (.s 57) (.s 59)))]) (.tr [60, 12, 6, 4, 3, 9, 11, 10])) (.cond (.s 60) .skip (.exit 2))) (.seq (.block 3 (.seq (.seq (.rgn [(.s 11), (.s 11)] [(true, (.u (.ld 63 (.strct [(.ptr 65), (.slice 3), (.int .i64)]) (.s 6)))), (false, (.u (.mov 64 (.s 11)))), (false, (.u (.mov 65 (.s 12)))), (false, (.u (.slc 66 3 (.s 64) none (some (.s 65))))), (false, (.u (.mov 68 (.s 11)))), (false, (.u (.mov 69 (.s 12)))), (false, (.u (.bin 70 .add .i64 (.s 69) (.c (.int .i64 1))))), (false, (.u (.slc 71 3 (.s 68) (some (.s 70)) none))), (false, (.u (.call 67 (.c (.clo 24 [])) [(.s 66)] [(some 3)] true))), (false, (.u (.app 72 3 (.int .i64) 8 (.s 67) (.s 71)))), (false, (.u (.call 73 (.c (.clo 16 [])) [(.s 63), (.s 72)] [none, (some 3)] true)))]) (.tr [73, 12, 6, 4, 3, 9, 11, 10])) (.cond (.s 73) (.seq (.seq (.ops [(.u (.st .bool (.s 4) (.c (.bool false))))]) (.tr [4])) .ret) .skip))) (.seq (.ops [(.u (.mov 61 (.s 12))), (.u (.bin 62 .add .i64 (.s 61) (.c (.int .i64 1)))), (.u (.mov 12 (.s 62)))]) (.tr [6, 4, 12, 3, 9, 11, 10]))))))) (.seq (.seq (.ops [(.u (.mov 13 (.c (.bool true))))]) (.tr [3, 13, 9, 11, 10])) (.seq (.seq (.seq (.ops [(.u (.mov 14 (.c (.int .i64 0))))]) (.tr [3, 14, 13, 9, 11, 10])) (.block 4 (.loop (.seq (.seq (.seq (.ops [(.u (.mov 74 (.s 14))), (.u (.mov 75 (.s 11))), (.u (.len 76 false (.s 75))), (.u (.cmp 77 .lss (.s 74) (.s 76)))]) (.tr [77, 14, 3, 13, 9, 11, 10])) (.cond (.s 77) .skip (.exit 4))) (.seq (.block 5 (.seq (.rgn [] [(false, (.u (.mov 80 (.s 13)))), (false, (.u (.mov 81 (.s 80)))), (false, (.g 81 true (some 82) (.ld 82 (.slice 3) (.s 3)))), (false, (.g 81 true (some 83) (.mov 83 (.s 11)))), (false, (.g 81 true (some 84) (.mov 84 (.s 14)))), (false, (.g 81 true (some 85) (.iad 85 3 (.int .i64) (.s 83) (.s 84)))), (false, (.g 81 true (some 86) (.ld 86 (.int .i64) (.s 85)))), (false, (.g 81 true (some 87) (.call 87 (.c (.clo 27 [])) [(.s 82), (.s 86)] [(some 3), none] true))), (false, (.u (.pck 88 (.s 81) (.s 87) (.c (.bool false))))), (false, (.u (.mov 13 (.s 88))))]) (.tr [14, 3, 13, 9, 11, 10]))) (.seq (.ops [(.u (.mov 78 (.s 14))), (.u (.bin 79 .add .i64 (.s 78) (.c (.int .i64 1)))), (.u (.mov 14 (.s 79)))]) (.tr [3, 14, 13, 9, 11, 10]))))))) (.seq (.seq (.ops [(.u (.ld 89 .bool (.s 9))), (.u (.mov 90 (.s 89))), (.g 90 false (some 91) (.mov 91 (.s 13))), (.u (.pck 92 (.s 90) (.c (.bool true)) (.s 91))), (.u (.st .bool (.s 9) (.s 92)))]) (.tr [11, 10])) (.seq (.ops [(.u (.ld 93 (.slice 24) (.s 10))), (.u (.mov 94 (.s 11))), (.u (.bsl 95 24 (.slice 3) [(.s 94)])), (.u (.app 96 24 (.slice 3) 24 (.s 93) (.s 95))), (.u (.st (.slice 24) (.s 10) (.s 96)))]) (.tr []))))))))) (.tr [10, 9, 6, 3, 4]))))) (.seq (.seq (.seq (.ops [(.u (.mov 15 (.c (.int .i64 0))))]) (.tr [10, 15, 9, 6, 3, 4])) (.block 6 (.loop (.seq (.seq (.seq (.ops [(.u (.mov 97 (.s 15))), (.u (.ld 98 (.slice 24) (.s 10))), (.u (.len 99 false (.s 98))), (.u (.cmp 100 .lss (.s 97) (.s 99)))]) (.tr [100, 15, 10, 9, 6, 3, 4])) (.cond (.s 100) .skip (.exit 6))) (.seq (.block 7 (.seq (.seq (.ops [(.u (.mov 16 (.c (.int .i64 0))))]) (.tr [16, 15, 10, 9, 6, 3, 4])) (.block 8 (.loop (.seq (.seq (.seq (.ops [(.u (.mov 103 (.s 16))), (.u (.ld 104 (.slice 24) (.s 10))), (.u (.len 105 false (.s 104))), (.u (.cmp 106 .lss (.s 103) (.s 105)))]) (.tr [106, 16, 15, 10, 9, 6, 3, 4])) (.cond (.s 106) .skip (.exit 8))) (.seq (.block 9 (.seq (.seq (.ops [(.u (.mov 109 (.s 15))), (.u (.mov 110 (.s 16))), (.u (.cmp 111 .neq (.s 109) (.s 110))), (.u (.mov 17 (.s 111)))]) (.tr [17, 16, 15, 10, 9, 6, 3, 4])) (.seq (.seq (.seq (.ops [(.u (.mov 18 (.c (.int .i64 0))))]) (.tr [18, 17, 16, 15, 10, 9, 6, 3, 4])) (.block 10 (.loop (.seq (.seq (.seq (.ops [(.u (.mov 112 (.s 18))), (.u (.ld 113 (.slice 24) (.s 10))), (.u (.mov 114 (.s 15))), (.u (.iad 115 24 (.slice 3) (.s 113) (.s 114))), (.u (.ld 116 (.slice 3) (.s 115))), (.u (.len 117 false (.s 116))), (.u (.cmp 118 .lss (.s 112) (.s 117)))]) (.tr [118, 18, 17, 16, 15, 10, 9, 6, 3, 4])) (.cond (.s 118) .skip (.exit 10))) (.seq (.block 11 (.seq (.rgn [] [(false, (.u (.mov 121 (.s 17)))), (false, (.u (.mov 122 (.s 121)))), (false, (.g 122 true (some 123) (.ld 123 (.slice 24) (.s 10)))), (false, (.g 122 true (some 124) (.mov 124 (.s 16)))), (false, (.g 122 true (some 125) (.iad 125 24 (.slice 3) (.s 123) (.s 124)))), (false, (.g 122 true (some 126) (.ld 126 (.slice 3) (.s 125)))), (false, (.g 122 true (some 127) (.ld 127 (.slice 24) (.s 10)))), (false, (.g 122 true (some 128) (.mov 128 (.s 15)))), (false, (.g 122 true (some 129) (.iad 129 24 (.slice 3) (.s 127) (.s 128)))), (false, (.g 122 true (some 130) (.ld 130 (.slice 3) (.s 129)))), (false, (.g 122 true (some 131) (.mov 131 (.s 18)))), (false, (.g 122 true (some 132) (.iad 132 3 (.int .i64) (.s 130) (.s 131)))), (false, (.g 122 true (some 133) (.ld 133 (.int .i64) (.s 132)))), (false, (.g 122 true (some 134) (.call 134 (.c (.clo 27 [])) [(.s 126), (.s 133)] [(some 3), none] true))), (false, (.u (.pck 135 (.s 122) (.s 134) (.c (.bool false))))), (false, (.u (.mov 17 (.s 135))))]) (.tr [18, 17, 16, 15, 10, 9, 6, 3, 4]))) (.seq (.ops [(.u (.mov 119 (.s 18))), (.u (.bin 120 .add .i64 (.s 119) (.c (.int .i64 1)))), (.u (.mov 18 (.s 120)))]) (.tr [18, 17, 16, 15, 10, 9, 6, 3, 4]))))))) (.seq (.seq (.ops [(.u (.mov 136 (.s 17)))]) (.tr [136, 16, 15, 10, 9, 6, 3, 4])) (.cond (.s 136) (.seq (.seq (.ops [(.u (.st .bool (.s 4) (.c (.bool false))))]) (.tr [4])) .ret) .skip))))) (.seq (.ops [(.u (.mov 107 (.s 16))), (.u (.bin 108 .add .i64 (.s 107) (.c (.int .i64 1)))), (.u (.mov 16 (.s 108)))]) (.tr [16, 15, 10, 9, 6, 3, 4])))))))) (.seq (.ops [(.u (.mov 101 (.s 15))), (.u (.bin 102 .add .i64 (.s 101) (.c (.int .i64 1)))), (.u (.mov 15 (.s 102)))]) (.tr [10, 15, 9, 6, 3, 4]))))))) (.seq (.seq (.rgn [] [(false, (.u (.ld 137 .bool (.s 9)))), (false, (.u (.ld 138 (.strct [(.ptr 65), (.slice 3), (.int .i64)]) (.s 6)))), (false, (.u (.ld 139 (.slice 3) (.s 3)))), (true, (.u (.call 140 (.c (.clo 16 [])) [(.s 138), (.s 139)] [none, (some 3)] false))), (false, (.u (.beq 141 false (.s 137) (.s 140)))), (false, (.u (.st .bool (.s 4) (.s 141))))]) (.tr [4])) .ret)))))))))))
def rsQuorLeastsW : List RV := [(.c 4 .bool)]
theorem irQuorLeastsW : fnIR Tryd.prog WQuorLeastsW 8 = some (icQuorLeastsW, rsQuorLeastsW) := by kernel_rfl
def spQuorLeasts : FSpec := fun args h nx K => match args with
  | [.dat (.slice t) l, .dat (.slice t') d] => t = 72 ∧ t' = 3 ∧ K (.bool true) h
  | _ => False
set_option maxHeartbeats 4000000 in
set_option maxRecDepth 8000 in
theorem vQuorLeastsW {E : Nat → Value} (hE : Errs2 Tryd.prog (some 152) E) : Valid Tryd.prog E G0 8 spQuorLeasts := by
  refine valid_go (W := WQuorLeastsW) hE (((((((((allValid_bot.addIt (it_QLeast1 hE)).add (up (vL6first hE))).add (up (vQLight hE))).add (up (vQMade hE))).add (up (vQNodes hE))).add (up (vQLeast hE))).add (up (vQHasD hE)).fz).add (up (vRIntsV hE))).add (up (vRAmong hE))) irQuorLeastsW (by decide) (fun args h nx K hsp hok hnm => ?_)
  unfold spQuorLeasts at hsp
  split at hsp
  · rename_i t l t' d
    obtain ⟨rfl, rfl, hK⟩ := hsp
    refine ⟨by simp [WQuorLeastsW, mkW, mkWE, mkWF], fun Q hQ => ?_⟩
    obtain ⟨_, hd, _⟩ := hok
    simp only [SV.ok] at hd
    obtain ⟨hd1, hd2, hd3⟩ := Wt.slice hd; generalize d.l = N at *; subst hd1
    have ret : ∀ m h' nx', HLe h h' → hget h' m = some (.cells [.bool true]) → Q Ex.ret ⟨[(4, .ptr m 0)], h', nx'⟩ := fun m h' nx' hh hg => by
      refine (hQ _ ?_).1
      refine fin_same (p := True) (xs := [.bool true]) ?_ trivial (fun π => rfl) ?_ hnm hh hK
      · simp only [rsQuorLeastsW, evRs, evR, go_sem, goD_calls, eq_self, implies_true, Int.reduceEq, Int.reduceBEq, Int.reduceBNe, Int.reduceLE, Int.reduceLT, Int.reduceAdd, Int.reduceSub, Int.reduceMul, Int.reduceNeg, Nat.reduceMul, Nat.reduceSub, Nat.reduceLeDiff, Nat.reduceLT, Nat.reduceEqDiff, Nat.reduceAdd, reduceCtorEq, ↓reduceIte, reduceIte, hg]
      · exact trivial
    simp only [icQuorLeastsW, go_sem, goD_calls, eq_self, implies_true, Int.reduceEq, Int.reduceBEq, Int.reduceBNe, Int.reduceLE, Int.reduceLT, Int.reduceAdd, Int.reduceSub, Int.reduceMul, Int.reduceNeg, Nat.reduceMul, Nat.reduceSub, Nat.reduceLeDiff, Nat.reduceLT, Nat.reduceEqDiff, Nat.reduceAdd, reduceCtorEq, ↓reduceIte, reduceIte, spL6first, spQLight]
    cases e1 : lightL l.l with
    | false =>
      simp only [go_sem, goD_calls, eq_self, implies_true, Int.reduceEq, Int.reduceBEq, Int.reduceBNe, Int.reduceLE, Int.reduceLT, Int.reduceAdd, Int.reduceSub, Int.reduceMul, Int.reduceNeg, Nat.reduceMul, Nat.reduceSub, Nat.reduceLeDiff, Nat.reduceLT, Nat.reduceEqDiff, Nat.reduceAdd, reduceCtorEq, ↓reduceIte, reduceIte, e1, spQLight]
      exact ret _ _ _ (by ((try simp only []); repeat first | exact HLe.refl _ | refine HLe.cons (by simp only [hget, Nat.reduceEqDiff, Nat.left_eq_add, Nat.add_eq_left, nm_ne2, nm_en2, nm_ne3, nm_en3, nm_ne4, nm_en4, nm_ne5, nm_en5, reduceIte, ↓reduceIte] <;> first | rfl | ((repeat rw [if_neg (by omega)]) <;> rfl)) ?_ | refine HLe.skip hnm (by omega) ?_ | refine HLe.frz hnm (by omega) ?_ | refine HLe.del hnm (by omega) ?_)) (by simp only [hget, go_sem, goD_calls, eq_self, implies_true, Int.reduceEq, Int.reduceBEq, Int.reduceBNe, Int.reduceLE, Int.reduceLT, Int.reduceAdd, Int.reduceSub, Int.reduceMul, Int.reduceNeg, Nat.reduceMul, Nat.reduceSub, Nat.reduceLeDiff, Nat.reduceLT, Nat.reduceEqDiff, Nat.reduceAdd, reduceCtorEq, ↓reduceIte, reduceIte])
    | true =>
    by_cases hn : 20 < N.length
    · have c1 : decide (20 < (N.length : Int)) = true := decide_eq_true (by omega)
      simp only [go_sem, goD_calls, eq_self, implies_true, Int.reduceEq, Int.reduceBEq, Int.reduceBNe, Int.reduceLE, Int.reduceLT, Int.reduceAdd, Int.reduceSub, Int.reduceMul, Int.reduceNeg, Nat.reduceMul, Nat.reduceSub, Nat.reduceLeDiff, Nat.reduceLT, Nat.reduceEqDiff, Nat.reduceAdd, reduceCtorEq, ↓reduceIte, reduceIte, e1, c1, spQLight]
      exact ret _ _ _ (by ((try simp only []); repeat first | exact HLe.refl _ | refine HLe.cons (by simp only [hget, Nat.reduceEqDiff, Nat.left_eq_add, Nat.add_eq_left, nm_ne2, nm_en2, nm_ne3, nm_en3, nm_ne4, nm_en4, nm_ne5, nm_en5, reduceIte, ↓reduceIte] <;> first | rfl | ((repeat rw [if_neg (by omega)]) <;> rfl)) ?_ | refine HLe.skip hnm (by omega) ?_ | refine HLe.frz hnm (by omega) ?_ | refine HLe.del hnm (by omega) ?_)) (by simp only [hget, go_sem, goD_calls, eq_self, implies_true, Int.reduceEq, Int.reduceBEq, Int.reduceBNe, Int.reduceLE, Int.reduceLT, Int.reduceAdd, Int.reduceSub, Int.reduceMul, Int.reduceNeg, Nat.reduceMul, Nat.reduceSub, Nat.reduceLeDiff, Nat.reduceLT, Nat.reduceEqDiff, Nat.reduceAdd, reduceCtorEq, ↓reduceIte, reduceIte])
    have c0 : decide (20 < (N.length : Int)) = false := decide_eq_false (by omega)
    obtain ⟨X, hX⟩ : ∃ X, lastQ (madeL l.l) = X := ⟨_, rfl⟩
    have oX : okQ X := hX ▸ lastQ_ok _
    simp only [go_sem, goD_calls, eq_self, implies_true, Int.reduceEq, Int.reduceBEq, Int.reduceBNe, Int.reduceLE, Int.reduceLT, Int.reduceAdd, Int.reduceSub, Int.reduceMul, Int.reduceNeg, Nat.reduceMul, Nat.reduceSub, Nat.reduceLeDiff, Nat.reduceLT, Nat.reduceEqDiff, Nat.reduceAdd, reduceCtorEq, ↓reduceIte, reduceIte, e1, c0, spQLight, spQMade, hX]
    refine ⟨light_len e1, light_20 e1, fun r hr => ?_⟩
    obtain ⟨pa, la, na, hPa, hr⟩ := hr
    have hitX := leastQ_it oX hPa
    have wl16 := leastQ_len X oX
    have dA := okD_prog oX hPa
    have hA : ∀ S, hasD pa S = hasQ X S := hasD_prog hPa
    have la16 : la.length ≤ 16 := by
      rcases prog_inv hPa with ⟨rfl, _, e, _⟩ | ⟨q, rfl, _, e, _⟩
      · simp only [D.list.injEq] at e; rw [e]; exact Nat.zero_le _
      · simp only [D.list.injEq] at e; rw [e]; exact oX.2.2.2.2.1
    have la9 : (la.length ≤ 1000000000) = True := eq_true (by omega)
    rcases hr with rfl | ⟨hla, rfl⟩
    · by_cases h8 : 8 < la.length
      · have c1 : decide (8 < (la.length : Int)) = true := decide_eq_true (by omega)
        simp only [go_sem, goD_calls, eq_self, implies_true, Int.reduceEq, Int.reduceBEq, Int.reduceBNe, Int.reduceLE, Int.reduceLT, Int.reduceAdd, Int.reduceSub, Int.reduceMul, Int.reduceNeg, Nat.reduceMul, Nat.reduceSub, Nat.reduceLeDiff, Nat.reduceLT, Nat.reduceEqDiff, Nat.reduceAdd, reduceCtorEq, ↓reduceIte, reduceIte, setOf, refV, spQNodes, la9, c1]
        exact ret _ _ _ (by ((try simp only []); repeat first | exact HLe.refl _ | refine HLe.cons (by simp only [hget, Nat.reduceEqDiff, Nat.left_eq_add, Nat.add_eq_left, nm_ne2, nm_en2, nm_ne3, nm_en3, nm_ne4, nm_en4, nm_ne5, nm_en5, reduceIte, ↓reduceIte] <;> first | rfl | ((repeat rw [if_neg (by omega)]) <;> rfl)) ?_ | refine HLe.skip hnm (by omega) ?_ | refine HLe.frz hnm (by omega) ?_ | refine HLe.del hnm (by omega) ?_)) (by simp only [hget, go_sem, goD_calls, eq_self, implies_true, Int.reduceEq, Int.reduceBEq, Int.reduceBNe, Int.reduceLE, Int.reduceLT, Int.reduceAdd, Int.reduceSub, Int.reduceMul, Int.reduceNeg, Nat.reduceMul, Nat.reduceSub, Nat.reduceLeDiff, Nat.reduceLT, Nat.reduceEqDiff, Nat.reduceAdd, reduceCtorEq, ↓reduceIte, reduceIte])
      have c1 : decide (8 < (la.length : Int)) = false := decide_eq_false (by omega)
      simp only [go_sem, goD_calls, eq_self, implies_true, Int.reduceEq, Int.reduceBEq, Int.reduceBNe, Int.reduceLE, Int.reduceLT, Int.reduceAdd, Int.reduceSub, Int.reduceMul, Int.reduceNeg, Nat.reduceMul, Nat.reduceSub, Nat.reduceLeDiff, Nat.reduceLT, Nat.reduceEqDiff, Nat.reduceAdd, reduceCtorEq, ↓reduceIte, reduceIte, setOf, refV, spQNodes, spQLeast, la9, c1]
      obtain ⟨WL, hWL⟩ : ∃ w, leastQ X = w := ⟨_, rfl⟩
      rw [hWL] at hitX wl16
      have hmem : ∀ {j : Nat} (hj : j < WL.length), WL[j] ∈ leastQ X := fun hj => by rw [hWL]; exact List.getElem_mem hj
      have wl512 : WL.length ≤ 65536 := by
        rw [← hWL]
        cases X with
        | none => exact Nat.zero_le _
        | some q =>
          unfold leastQ leastPL leastPU
          rw [List.length_map]
          refine Nat.le_trans (List.length_filter_le _ _) ?_
          rw [List.length_range]
          exact Nat.pow_le_pow_right (by omega) (nodes_okQ oX).len
      have hil : (WL.map itemI).length = WL.length := List.length_map _
      refine go_rng _ _ _ [(51, .clo 33 [.elt setY (.node [pa, .list la, .int na])]), (6, .elt setY (.node [pa, .list la, .int na])), (4, .ptr nx 0), (3, .ptr (nx + 1) 0), (9, .ptr (nx + 2) 0), (10, .ptr (nx + 3) 0)] 33 [.elt setY (.node [pa, .list la, .int na])] (WL.map itemI) (α := Nat) (fun j => ((nx, .cells [.bool false]) :: (nx + 1, .cells [.dat (.slice 3) (.list N)]) :: (nx + 2, .cells [.bool (within N (WL.take j))]) :: (nx + 3, .cells [.vec (nx + 4)]) :: (nx + 4, .arr 24 (.slice 3) ((WL.take j).map D.list)) :: h, nx + 5)) (fun j => j) 0 (nx + 4) (by omega) (by simp only []; omega) ?_ rfl ?_ rfl hitX ?_ (fun j Qa R hj hQa hR hret hext => ?_) (fun j hj => ?_)
      · refine FrLt.all ?_
        (simp only [frLt_cons, frLt_nil, and_true, SV.lt, SV.ltL, true_and] <;> omega)
      · refine leq_nil (.cell (nx + 1 + 1 + 64 + 64 + 64 + 1 + 1 + 64 + 1) 0 24 (.slice 3) (by simp only [hget, ↓reduceIte]; rfl) rfl rfl (.refl _)) ?_
        simp only [go_sem, goD_calls, eq_self, implies_true, Int.reduceEq, Int.reduceBEq, Int.reduceBNe, Int.reduceLE, Int.reduceLT, Int.reduceAdd, Int.reduceSub, Int.reduceMul, Int.reduceNeg, Nat.reduceMul, Nat.reduceSub, Nat.reduceLeDiff, Nat.reduceLT, Nat.reduceEqDiff, Nat.reduceAdd, reduceCtorEq, ↓reduceIte, reduceIte]
        refine leq_news [(nx, nx + 1), (nx + 1, nx), (nx + 2, (nx + 1 + 1 + 64 + 64 + 64 + 1 + 1 + 64)), (nx + 3, (nx + 1 + 1 + 64 + 64 + 64 + 1 + 1 + 64 + 1)), (nx + 4, (nx + 1 + 1 + 64 + 64 + 64 + 1 + 1 + 64 + 1 + 1 + 64))] [(nx, .cells [.bool false]), (nx + 1, .cells [.dat (.slice 3) (.list N)]), (nx + 2, .cells [.bool (within N (WL.take 0))]), (nx + 3, .cells [.vec (nx + 4)]), (nx + 4, .arr 24 (.slice 3) ((WL.take 0).map D.list))] (.refl _) (by simp) (by simp <;> omega) (by simp <;> omega) rfl ?_ ?_ ?_ ?_ hnm ?_ ?_
        · simp [frIn_cons, frIn_nil, fget_cons, fget_nil, SV.ren, SV.renL, rens]
        · (simp only [frLt_cons, frLt_nil, and_true, SV.lt, SV.ltL, true_and] <;> omega)
        · (simp only [List.mem_cons, List.not_mem_nil, or_false, forall_eq_or_imp, forall_eq]; simp [hget, rens, Tok.ren, SV.ren, SV.renL])
          all_goals try (repeat rw [if_neg (by omega)])
          all_goals try exact ⟨rfl, rfl⟩
          all_goals try exact ⟨rfl, rfl, rfl⟩
        · (simp only [List.mem_cons, List.not_mem_nil, or_false, forall_eq_or_imp, forall_eq, Tok.lt, SV.lt, SV.ltL, and_true, true_and] <;> omega)
        · ((try simp only []); repeat first | exact HLe.refl _ | refine HLe.cons (by simp only [hget, Nat.reduceEqDiff, Nat.left_eq_add, Nat.add_eq_left, nm_ne2, nm_en2, nm_ne3, nm_en3, nm_ne4, nm_en4, nm_ne5, nm_en5, reduceIte, ↓reduceIte] <;> first | rfl | ((repeat rw [if_neg (by omega)]) <;> rfl)) ?_ | refine HLe.skip hnm (by omega) ?_ | refine HLe.frz hnm (by omega) ?_ | refine HLe.del hnm (by omega) ?_)
        · omega
      · intro it hit
        obtain ⟨d, _, rfl⟩ := List.mem_map.1 hit
        rfl
      · rw [hil] at hj
        have ek : (WL.map itemI).getD j ([], []) = itemI WL[j] := by
          rw [List.getD_eq_getElem?_getD, List.getElem?_map, List.getElem?_eq_getElem hj]; rfl
        have et : (WL.take j).map D.list ++ [.list WL[j]] = (WL.take (j + 1)).map D.list := by rw [List.take_add_one, List.getElem?_eq_getElem hj, List.map_append]; rfl
        have ewi : (within N (WL.take j) || WL[j].all fun d => amI N d.i) = within N (WL.take (j + 1)) := by
          unfold within
          rw [List.take_add_one, List.getElem?_eq_getElem hj, List.any_append]
          simp
        have hL16 := wl16 WL[j] (List.getElem_mem hj)
        have hh1 := least_has oX (hmem hj)
        have hh2 := fun {i} (hi : i < WL[j].length) => least_less oX (hmem hj) hi
        rw [ek]
        generalize WL[j] = L at et ewi hL16 hh1 hh2 ⊢
        have htl : (WL.take j).length = j := by rw [List.length_take]; omega
        simp only [go_sem, goD_calls, eq_self, implies_true, Int.reduceEq, Int.reduceBEq, Int.reduceBNe, Int.reduceLE, Int.reduceLT, Int.reduceAdd, Int.reduceSub, Int.reduceMul, Int.reduceNeg, Nat.reduceMul, Nat.reduceSub, Nat.reduceLeDiff, Nat.reduceLT, Nat.reduceEqDiff, Nat.reduceAdd, reduceCtorEq, ↓reduceIte, reduceIte, itemI, zipF_cons, zipF_nil, shH_nil, shH_cons, SV.renL, SV.ren, Tok.ren, shN_def]
        refine hQa _ ?_
        simp only [go_sem, goD_calls, eq_self, implies_true, Int.reduceEq, Int.reduceBEq, Int.reduceBNe, Int.reduceLE, Int.reduceLT, Int.reduceAdd, Int.reduceSub, Int.reduceMul, Int.reduceNeg, Nat.reduceMul, Nat.reduceSub, Nat.reduceLeDiff, Nat.reduceLT, Nat.reduceEqDiff, Nat.reduceAdd, reduceCtorEq, ↓reduceIte, reduceIte, spQHasD, dA, hA, hh1, SV.one]
        refine go_loop (α := { i : Nat // i ≤ L.length }) (I := fun i => { f := [(12, .int .i64 i.1), (6, .elt setY (.node [pa, .list la, .int na])), (11, .dat (.slice 3) (.list L)), (4, .ptr nx 0), (3, .ptr (nx + 1) 0), (9, .ptr (nx + 2) 0), (10, .ptr (nx + 3) 0)], h := (nx, .cells [.bool false]) :: (nx + 1, .cells [.dat (.slice 3) (.list N)]) :: (nx + 2, .cells [.bool (within N (WL.take j))]) :: (nx + 3, .cells [.vec (nx + 4)]) :: (nx + 4, .arr 24 (.slice 3) ((WL.take j).map D.list)) :: h, nx := nx + 5 }) (μ := fun i => L.length - i.1) _ _ _ ⟨0, by omega⟩ ?_ (fun i B hB => ?_)
        · refine leq_id (by simp only [frEq_cons, frEq_nil, frIn_cons, frIn_nil, and_true, fget_cons, Nat.reduceEqDiff, reduceIte, ↓reduceIte, true_and, SV.ren, SV.renL, ren1] <;> (try rfl) <;> (try simp)) (by (simp only [frLt_cons, frLt_nil, and_true, SV.lt, SV.ltL, true_and] <;> omega)) (by ((try simp only []); repeat first | exact HLe.refl _ | refine HLe.cons (by simp only [hget, Nat.reduceEqDiff, Nat.left_eq_add, Nat.add_eq_left, nm_ne2, nm_en2, nm_ne3, nm_en3, nm_ne4, nm_en4, nm_ne5, nm_en5, reduceIte, ↓reduceIte] <;> first | rfl | ((repeat rw [if_neg (by omega)]) <;> rfl)) ?_ | refine HLe.skip hnm (by omega) ?_ | refine HLe.frz hnm (by omega) ?_ | refine HLe.del hnm (by omega) ?_)) (by (repeat first | exact HLt.mono hnm (by simp only [] <;> omega) | refine HLt.cons (by simp only [] <;> omega) (by simp only [Tok.lt, SV.ltL, SV.lt, and_true, true_and] <;> omega) ?_)) (by simp only [] <;> omega)
        obtain ⟨i, hi⟩ := i
        simp only at hB
        by_cases hiL : i < L.length
        · have c3 : decide ((i : Int) < (L.length : Int)) = true := decide_eq_true (by omega)
          have hh := hh2 hiL
          have il : (iL (L.take i)).length ≤ 16 := by rw [iL_len, List.length_take]; omega
          have g1 : ((L.take i).length ≤ 1000000000) = True := eq_true (by rw [List.length_take]; omega)
          simp only [go_sem, goD_calls, eq_self, implies_true, Int.reduceEq, Int.reduceBEq, Int.reduceBNe, Int.reduceLE, Int.reduceLT, Int.reduceAdd, Int.reduceSub, Int.reduceMul, Int.reduceNeg, Nat.reduceMul, Nat.reduceSub, Nat.reduceLeDiff, Nat.reduceLT, Nat.reduceEqDiff, Nat.reduceAdd, reduceCtorEq, ↓reduceIte, reduceIte, c3, spRIntsV, spQHasD, dA, hA, Int.toNat_natCast, min_i64, max_i64, SV.one]
          refine ⟨⟨by omega, by omega⟩, ⟨by omega, by omega⟩, ⟨by omega, by omega⟩, ?_⟩
          have ed : ((i : Int) + 1).toNat = i + 1 := by omega
          have il2 : (L.drop (i + 1)).length ≤ 16 := by rw [List.length_drop]; omega
          refine ⟨by rw [List.length_take]; omega, by rw [ed]; omega, ?_⟩
          rw [ed, hh]
          refine ⟨fun h => (by cases h), fun _ => ⟨⟨by omega, by omega⟩, hB _ ⟨i + 1, by omega⟩ (by simp only []; omega) ?_⟩⟩
          refine leq_id (by simp only [frEq_cons, frEq_nil, frIn_cons, frIn_nil, and_true, fget_cons, Nat.reduceEqDiff, reduceIte, ↓reduceIte, true_and, SV.ren, SV.renL, ren1] <;> (try rfl) <;> (try simp)) (by (simp only [frLt_cons, frLt_nil, and_true, SV.lt, SV.ltL, true_and] <;> omega)) (by ((try simp only []); repeat first | exact HLe.refl _ | refine HLe.cons (by simp only [hget, Nat.reduceEqDiff, Nat.left_eq_add, Nat.add_eq_left, nm_ne2, nm_en2, nm_ne3, nm_en3, nm_ne4, nm_en4, nm_ne5, nm_en5, reduceIte, ↓reduceIte] <;> first | rfl | ((repeat rw [if_neg (by omega)]) <;> rfl)) ?_ | refine HLe.skip hnm (by omega) ?_ | refine HLe.frz hnm (by omega) ?_ | refine HLe.del hnm (by omega) ?_)) (by (repeat first | exact HLt.mono hnm (by simp only [] <;> omega) | refine HLt.cons (by simp only [] <;> omega) (by simp only [Tok.lt, SV.ltL, SV.lt, and_true, true_and] <;> omega) ?_)) (by simp only [] <;> omega)
        have c3 : decide ((i : Int) < (L.length : Int)) = false := decide_eq_false (by omega)
        simp only [go_sem, goD_calls, eq_self, implies_true, Int.reduceEq, Int.reduceBEq, Int.reduceBNe, Int.reduceLE, Int.reduceLT, Int.reduceAdd, Int.reduceSub, Int.reduceMul, Int.reduceNeg, Nat.reduceMul, Nat.reduceSub, Nat.reduceLeDiff, Nat.reduceLT, Nat.reduceEqDiff, Nat.reduceAdd, reduceCtorEq, ↓reduceIte, reduceIte, c3]
        refine go_loop (α := { k : Nat // k ≤ L.length }) (I := fun k => { f := [(14, .int .i64 k.1), (13, .bool ((L.take k.1).all fun d => amI N d.i)), (11, .dat (.slice 3) (.list L)), (3, .ptr (nx + 1) 0), (9, .ptr (nx + 2) 0), (10, .ptr (nx + 3) 0)], h := (nx, .cells [.bool false]) :: (nx + 1, .cells [.dat (.slice 3) (.list N)]) :: (nx + 2, .cells [.bool (within N (WL.take j))]) :: (nx + 3, .cells [.vec (nx + 4)]) :: (nx + 4, .arr 24 (.slice 3) ((WL.take j).map D.list)) :: h, nx := nx + 5 }) (μ := fun k => L.length - k.1) _ _ _ ⟨0, by omega⟩ ?_ (fun k B3 hB3 => ?_)
        · refine leq_id (by simp only [frEq_cons, frEq_nil, frIn_cons, frIn_nil, and_true, fget_cons, Nat.reduceEqDiff, reduceIte, ↓reduceIte, true_and, SV.ren, SV.renL, ren1] <;> (try rfl) <;> (try simp)) (by (simp only [frLt_cons, frLt_nil, and_true, SV.lt, SV.ltL, true_and] <;> omega)) (by ((try simp only []); repeat first | exact HLe.refl _ | refine HLe.cons (by simp only [hget, Nat.reduceEqDiff, Nat.left_eq_add, Nat.add_eq_left, nm_ne2, nm_en2, nm_ne3, nm_en3, nm_ne4, nm_en4, nm_ne5, nm_en5, reduceIte, ↓reduceIte] <;> first | rfl | ((repeat rw [if_neg (by omega)]) <;> rfl)) ?_ | refine HLe.skip hnm (by omega) ?_ | refine HLe.frz hnm (by omega) ?_ | refine HLe.del hnm (by omega) ?_)) (by (repeat first | exact HLt.mono hnm (by simp only [] <;> omega) | refine HLt.cons (by simp only [] <;> omega) (by simp only [Tok.lt, SV.ltL, SV.lt, and_true, true_and] <;> omega) ?_)) (by simp only [] <;> omega)
        obtain ⟨k, hk⟩ := k
        simp only at hB3
        by_cases hkL : k < L.length
        · have c4 : decide ((k : Int) < (L.length : Int)) = true := decide_eq_true (by omega)
          have hst : ((L.take (k + 1)).all fun d => amI N d.i) = ((L.take k).all (fun d => amI N d.i) && amI N (L.getD k .nil).i) := by
            rw [List.take_add_one, List.getElem?_eq_getElem hkL, List.all_append, List.getD_eq_getElem?_getD, List.getElem?_eq_getElem hkL]
            simp
          have next : ∀ S', Leq (nx + 4) S' { f := [(14, .int .i64 ((k : Int) + 1)), (13, .bool ((L.take (k + 1)).all fun d => amI N d.i)), (11, .dat (.slice 3) (.list L)), (3, .ptr (nx + 1) 0), (9, .ptr (nx + 2) 0), (10, .ptr (nx + 3) 0)], h := (nx, .cells [.bool false]) :: (nx + 1, .cells [.dat (.slice 3) (.list N)]) :: (nx + 2, .cells [.bool (within N (WL.take j))]) :: (nx + 3, .cells [.vec (nx + 4)]) :: (nx + 4, .arr 24 (.slice 3) ((WL.take j).map D.list)) :: h, nx := nx + 5 } → B3 S' := fun S' hl => hB3 _ ⟨k + 1, by omega⟩ (by simp only []; omega) hl
          obtain ⟨b, hb⟩ : ∃ b, (L.take k).all (fun d => amI N d.i) = b := ⟨_, rfl⟩
          rw [hb] at hst
          rcases bool_ftS b with rfl | rfl
          · rw [Bool.false_and] at hst
            rw [hst] at next
            simp only [go_sem, goD_calls, eq_self, implies_true, Int.reduceEq, Int.reduceBEq, Int.reduceBNe, Int.reduceLE, Int.reduceLT, Int.reduceAdd, Int.reduceSub, Int.reduceMul, Int.reduceNeg, Nat.reduceMul, Nat.reduceSub, Nat.reduceLeDiff, Nat.reduceLT, Nat.reduceEqDiff, Nat.reduceAdd, reduceCtorEq, ↓reduceIte, reduceIte, c4, hb, min_i64, max_i64]
            refine ⟨⟨by omega, by omega⟩, ?_⟩
            refine next _ ?_
            refine leq_id (by simp only [frEq_cons, frEq_nil, frIn_cons, frIn_nil, and_true, fget_cons, Nat.reduceEqDiff, reduceIte, ↓reduceIte, true_and, SV.ren, SV.renL, ren1] <;> (try rfl) <;> (try simp)) (by (simp only [frLt_cons, frLt_nil, and_true, SV.lt, SV.ltL, true_and] <;> omega)) (by ((try simp only []); repeat first | exact HLe.refl _ | refine HLe.cons (by simp only [hget, Nat.reduceEqDiff, Nat.left_eq_add, Nat.add_eq_left, nm_ne2, nm_en2, nm_ne3, nm_en3, nm_ne4, nm_en4, nm_ne5, nm_en5, reduceIte, ↓reduceIte] <;> first | rfl | ((repeat rw [if_neg (by omega)]) <;> rfl)) ?_ | refine HLe.skip hnm (by omega) ?_ | refine HLe.frz hnm (by omega) ?_ | refine HLe.del hnm (by omega) ?_)) (by (repeat first | exact HLt.mono hnm (by simp only [] <;> omega) | refine HLt.cons (by simp only [] <;> omega) (by simp only [Tok.lt, SV.ltL, SV.lt, and_true, true_and] <;> omega) ?_)) (by simp only [] <;> omega)
          · obtain ⟨b2, hb2⟩ : ∃ b, amI N (L.getD k .nil).i = b := ⟨_, rfl⟩
            rw [hb2, Bool.true_and] at hst
            rw [hst] at next
            simp only [go_sem, goD_calls, eq_self, implies_true, Int.reduceEq, Int.reduceBEq, Int.reduceBNe, Int.reduceLE, Int.reduceLT, Int.reduceAdd, Int.reduceSub, Int.reduceMul, Int.reduceNeg, Nat.reduceMul, Nat.reduceSub, Nat.reduceLeDiff, Nat.reduceLT, Nat.reduceEqDiff, Nat.reduceAdd, reduceCtorEq, ↓reduceIte, reduceIte, c4, hb, hb2, spRAmong, Int.toNat_natCast, min_i64, max_i64]
            refine ⟨⟨by omega, by omega⟩, ⟨by omega, by omega⟩, ?_⟩
            refine next _ ?_
            refine leq_id (by simp only [frEq_cons, frEq_nil, frIn_cons, frIn_nil, and_true, fget_cons, Nat.reduceEqDiff, reduceIte, ↓reduceIte, true_and, SV.ren, SV.renL, ren1] <;> (try rfl) <;> (try simp)) (by (simp only [frLt_cons, frLt_nil, and_true, SV.lt, SV.ltL, true_and] <;> omega)) (by ((try simp only []); repeat first | exact HLe.refl _ | refine HLe.cons (by simp only [hget, Nat.reduceEqDiff, Nat.left_eq_add, Nat.add_eq_left, nm_ne2, nm_en2, nm_ne3, nm_en3, nm_ne4, nm_en4, nm_ne5, nm_en5, reduceIte, ↓reduceIte] <;> first | rfl | ((repeat rw [if_neg (by omega)]) <;> rfl)) ?_ | refine HLe.skip hnm (by omega) ?_ | refine HLe.frz hnm (by omega) ?_ | refine HLe.del hnm (by omega) ?_)) (by (repeat first | exact HLt.mono hnm (by simp only [] <;> omega) | refine HLt.cons (by simp only [] <;> omega) (by simp only [Tok.lt, SV.ltL, SV.lt, and_true, true_and] <;> omega) ?_)) (by simp only [] <;> omega)
        have c4 : decide ((k : Int) < (L.length : Int)) = false := decide_eq_false (by omega)
        have ekL : L.take k = L := List.take_of_length_le (by omega)
        rw [ekL]
        obtain ⟨b, hb⟩ : ∃ b, L.all (fun d => amI N d.i) = b := ⟨_, rfl⟩
        obtain ⟨w, hw⟩ : ∃ w, within N (WL.take j) = w := ⟨_, rfl⟩
        rw [hb, hw] at ewi
        rcases bool_ftS w with rfl | rfl <;> rcases bool_ftS b with rfl | rfl
        all_goals
          simp only [Bool.false_or, Bool.true_or] at ewi
          simp only [go_sem, goD_calls, eq_self, implies_true, Int.reduceEq, Int.reduceBEq, Int.reduceBNe, Int.reduceLE, Int.reduceLT, Int.reduceAdd, Int.reduceSub, Int.reduceMul, Int.reduceNeg, Nat.reduceMul, Nat.reduceSub, Nat.reduceLeDiff, Nat.reduceLT, Nat.reduceEqDiff, Nat.reduceAdd, reduceCtorEq, ↓reduceIte, reduceIte, c4, hb, hw, List.length_map, htl, et]
          refine ⟨by omega, ?_⟩
          refine hR _ (j + 1) rfl ?_
          simp only []
          rw [← ewi]
          refine leq_ren1 (nx + 4) (nx + 5 + 1) (Nat.le_refl _) (by simp only []; omega) trivial trivial ?_ (by (repeat first | exact HLt.mono hnm (by simp only [] <;> omega) | refine HLt.cons (by simp only [] <;> omega) (by simp only [Tok.lt, SV.ltL, SV.lt, and_true, true_and] <;> omega) ?_)) (by simp only [] <;> omega)
          refine HRen.cons ?_ (HRen.cons ?_ (HRen.cons ?_ (HRen.cons ?_ (HRen.cons ?_ (HRen.base hnm (by omega) (by ((try simp only []); repeat first | exact HLe.refl _ | refine HLe.cons (by simp only [hget, Nat.reduceEqDiff, Nat.left_eq_add, Nat.add_eq_left, nm_ne2, nm_en2, nm_ne3, nm_en3, nm_ne4, nm_en4, nm_ne5, nm_en5, reduceIte, ↓reduceIte] <;> first | rfl | ((repeat rw [if_neg (by omega)]) <;> rfl)) ?_ | refine HLe.skip hnm (by omega) ?_ | refine HLe.frz hnm (by omega) ?_ | refine HLe.del hnm (by omega) ?_)))))))
          all_goals simp [hget, Tok.ren, SV.ren, SV.renL, ren1]
          all_goals try (repeat rw [if_neg (by omega)])
          all_goals try omega
      · rw [hil] at hj
        subst hj
        rw [List.take_of_length_le (Nat.le_refl _)]
        simp only [go_sem, goD_calls, eq_self, implies_true, Int.reduceEq, Int.reduceBEq, Int.reduceBNe, Int.reduceLE, Int.reduceLT, Int.reduceAdd, Int.reduceSub, Int.reduceMul, Int.reduceNeg, Nat.reduceMul, Nat.reduceSub, Nat.reduceLeDiff, Nat.reduceLT, Nat.reduceEqDiff, Nat.reduceAdd, reduceCtorEq, ↓reduceIte, reduceIte]
        have hlen : (WL.map D.list).length = WL.length := List.length_map _
        refine go_loop (α := { i : Nat // i ≤ WL.length }) (I := fun i => { f := [(15, .int .i64 i.1), (6, .elt setY (.node [pa, .list la, .int na])), (4, .ptr nx 0), (3, .ptr (nx + 1) 0), (9, .ptr (nx + 2) 0), (10, .ptr (nx + 3) 0)], h := (nx, .cells [.bool false]) :: (nx + 1, .cells [.dat (.slice 3) (.list N)]) :: (nx + 2, .cells [.bool (within N WL)]) :: (nx + 3, .cells [.vec (nx + 4)]) :: (nx + 4, .arr 24 (.slice 3) (WL.map D.list)) :: h, nx := nx + 5 }) (μ := fun i => WL.length - i.1) _ _ _ ⟨0, by omega⟩ ?_ (fun i B hB => ?_)
        · refine leq_id (by simp only [frEq_cons, frEq_nil, frIn_cons, frIn_nil, and_true, fget_cons, Nat.reduceEqDiff, reduceIte, ↓reduceIte, true_and, SV.ren, SV.renL, ren1] <;> (try rfl) <;> (try simp)) (by (simp only [frLt_cons, frLt_nil, and_true, SV.lt, SV.ltL, true_and] <;> omega)) (by ((try simp only []); repeat first | exact HLe.refl _ | refine HLe.cons (by simp only [hget, Nat.reduceEqDiff, Nat.left_eq_add, Nat.add_eq_left, nm_ne2, nm_en2, nm_ne3, nm_en3, nm_ne4, nm_en4, nm_ne5, nm_en5, reduceIte, ↓reduceIte] <;> first | rfl | ((repeat rw [if_neg (by omega)]) <;> rfl)) ?_ | refine HLe.skip hnm (by omega) ?_ | refine HLe.frz hnm (by omega) ?_ | refine HLe.del hnm (by omega) ?_)) (by (repeat first | exact HLt.mono hnm (by simp only [] <;> omega) | refine HLt.cons (by simp only [] <;> omega) (by simp only [Tok.lt, SV.ltL, SV.lt, and_true, true_and] <;> omega) ?_)) (by simp only [] <;> omega)
        obtain ⟨i, hi⟩ := i
        simp only at hB
        by_cases hiL : i < WL.length
        · have c3 : decide ((i : Int) < (WL.length : Int)) = true := decide_eq_true (by omega)
          have ewi : (WL.map D.list).getD i .nil = .list WL[i] := by
            rw [List.getD_eq_getElem?_getD, List.getElem?_map, List.getElem?_eq_getElem hiL]; rfl
          simp only [go_sem, goD_calls, eq_self, implies_true, Int.reduceEq, Int.reduceBEq, Int.reduceBNe, Int.reduceLE, Int.reduceLT, Int.reduceAdd, Int.reduceSub, Int.reduceMul, Int.reduceNeg, Nat.reduceMul, Nat.reduceSub, Nat.reduceLeDiff, Nat.reduceLT, Nat.reduceEqDiff, Nat.reduceAdd, reduceCtorEq, ↓reduceIte, reduceIte, c3, hlen]
          refine go_loop (α := { k : Nat // k ≤ WL.length }) (I := fun k => { f := [(16, .int .i64 k.1), (15, .int .i64 i), (6, .elt setY (.node [pa, .list la, .int na])), (4, .ptr nx 0), (3, .ptr (nx + 1) 0), (9, .ptr (nx + 2) 0), (10, .ptr (nx + 3) 0)], h := (nx, .cells [.bool false]) :: (nx + 1, .cells [.dat (.slice 3) (.list N)]) :: (nx + 2, .cells [.bool (within N WL)]) :: (nx + 3, .cells [.vec (nx + 4)]) :: (nx + 4, .arr 24 (.slice 3) (WL.map D.list)) :: h, nx := nx + 5 }) (μ := fun k => WL.length - k.1) _ _ _ ⟨0, by omega⟩ ?_ (fun k B2 hB2 => ?_)
          · refine leq_id (by simp only [frEq_cons, frEq_nil, frIn_cons, frIn_nil, and_true, fget_cons, Nat.reduceEqDiff, reduceIte, ↓reduceIte, true_and, SV.ren, SV.renL, ren1] <;> (try rfl) <;> (try simp)) (by (simp only [frLt_cons, frLt_nil, and_true, SV.lt, SV.ltL, true_and] <;> omega)) (by ((try simp only []); repeat first | exact HLe.refl _ | refine HLe.cons (by simp only [hget, Nat.reduceEqDiff, Nat.left_eq_add, Nat.add_eq_left, nm_ne2, nm_en2, nm_ne3, nm_en3, nm_ne4, nm_en4, nm_ne5, nm_en5, reduceIte, ↓reduceIte] <;> first | rfl | ((repeat rw [if_neg (by omega)]) <;> rfl)) ?_ | refine HLe.skip hnm (by omega) ?_ | refine HLe.frz hnm (by omega) ?_ | refine HLe.del hnm (by omega) ?_)) (by (repeat first | exact HLt.mono hnm (by simp only [] <;> omega) | refine HLt.cons (by simp only [] <;> omega) (by simp only [Tok.lt, SV.ltL, SV.lt, and_true, true_and] <;> omega) ?_)) (by simp only [] <;> omega)
          obtain ⟨k, hk⟩ := k
          simp only at hB2
          by_cases hkL : k < WL.length
          · have c4 : decide ((k : Int) < (WL.length : Int)) = true := decide_eq_true (by omega)
            have ewk : (WL.map D.list).getD k .nil = .list WL[k] := by
              rw [List.getD_eq_getElem?_getD, List.getElem?_map, List.getElem?_eq_getElem hkL]; rfl
            have hanti : ¬ (i ≠ k ∧ ∀ n ∈ WL[i].map D.i, n ∈ WL[k].map D.i) := fun hc => hc.1 (by
              have h1 : i < (leastQ X).length := by rw [hWL]; exact hiL
              have h2 : k < (leastQ X).length := by rw [hWL]; exact hkL
              refine least_anti oX h1 h2 ?_
              have e1 : (leastQ X)[i] = WL[i] := by simp only [hWL]
              have e2 : (leastQ X)[k] = WL[k] := by simp only [hWL]
              rw [e1, e2]
              exact hc.2)
            have hl16 := wl16 WL[i] (List.getElem_mem hiL)
            generalize WL[i] = A at ewi hanti hl16
            generalize WL[k] = C at ewk hanti
            obtain ⟨z, hz⟩ : ∃ z, ((i : Int) != (k : Int)) = z := ⟨_, rfl⟩
            simp only [go_sem, goD_calls, eq_self, implies_true, Int.reduceEq, Int.reduceBEq, Int.reduceBNe, Int.reduceLE, Int.reduceLT, Int.reduceAdd, Int.reduceSub, Int.reduceMul, Int.reduceNeg, Nat.reduceMul, Nat.reduceSub, Nat.reduceLeDiff, Nat.reduceLT, Nat.reduceEqDiff, Nat.reduceAdd, reduceCtorEq, ↓reduceIte, reduceIte, c4, hlen, hz]
            refine go_loop (α := { j : Nat // j ≤ A.length }) (I := fun j => { f := [(18, .int .i64 j.1), (17, .bool (z && (A.take j.1).all fun d => amI C d.i)), (16, .int .i64 k), (15, .int .i64 i), (6, .elt setY (.node [pa, .list la, .int na])), (4, .ptr nx 0), (3, .ptr (nx + 1) 0), (9, .ptr (nx + 2) 0), (10, .ptr (nx + 3) 0)], h := (nx, .cells [.bool false]) :: (nx + 1, .cells [.dat (.slice 3) (.list N)]) :: (nx + 2, .cells [.bool (within N WL)]) :: (nx + 3, .cells [.vec (nx + 4)]) :: (nx + 4, .arr 24 (.slice 3) (WL.map D.list)) :: h, nx := nx + 5 }) (μ := fun j => A.length - j.1) _ _ _ ⟨0, by omega⟩ ?_ (fun j B3 hB3 => ?_)
            · refine leq_id (by simp only [frEq_cons, frEq_nil, frIn_cons, frIn_nil, and_true, fget_cons, Nat.reduceEqDiff, reduceIte, ↓reduceIte, true_and, SV.ren, SV.renL, ren1] <;> (try rfl) <;> (try simp)) (by (simp only [frLt_cons, frLt_nil, and_true, SV.lt, SV.ltL, true_and] <;> omega)) (by ((try simp only []); repeat first | exact HLe.refl _ | refine HLe.cons (by simp only [hget, Nat.reduceEqDiff, Nat.left_eq_add, Nat.add_eq_left, nm_ne2, nm_en2, nm_ne3, nm_en3, nm_ne4, nm_en4, nm_ne5, nm_en5, reduceIte, ↓reduceIte] <;> first | rfl | ((repeat rw [if_neg (by omega)]) <;> rfl)) ?_ | refine HLe.skip hnm (by omega) ?_ | refine HLe.frz hnm (by omega) ?_ | refine HLe.del hnm (by omega) ?_)) (by (repeat first | exact HLt.mono hnm (by simp only [] <;> omega) | refine HLt.cons (by simp only [] <;> omega) (by simp only [Tok.lt, SV.ltL, SV.lt, and_true, true_and] <;> omega) ?_)) (by simp only [] <;> omega)
            obtain ⟨j, hj⟩ := j
            simp only at hB3
            by_cases hjA : j < A.length
            · have c5 : decide ((j : Int) < (A.length : Int)) = true := decide_eq_true (by omega)
              have hst : (z && (A.take (j + 1)).all fun d => amI C d.i) = ((z && (A.take j).all (fun d => amI C d.i)) && amI C (A.getD j .nil).i) := by
                rw [List.take_add_one, List.getElem?_eq_getElem hjA, List.all_append, List.getD_eq_getElem?_getD, List.getElem?_eq_getElem hjA, Bool.and_assoc]
                simp
              have next : ∀ S', Leq nx S' { f := [(18, .int .i64 ((j : Int) + 1)), (17, .bool (z && (A.take (j + 1)).all fun d => amI C d.i)), (16, .int .i64 k), (15, .int .i64 i), (6, .elt setY (.node [pa, .list la, .int na])), (4, .ptr nx 0), (3, .ptr (nx + 1) 0), (9, .ptr (nx + 2) 0), (10, .ptr (nx + 3) 0)], h := (nx, .cells [.bool false]) :: (nx + 1, .cells [.dat (.slice 3) (.list N)]) :: (nx + 2, .cells [.bool (within N WL)]) :: (nx + 3, .cells [.vec (nx + 4)]) :: (nx + 4, .arr 24 (.slice 3) (WL.map D.list)) :: h, nx := nx + 5 } → B3 S' := fun S' hl => hB3 _ ⟨j + 1, by omega⟩ (by simp only []; omega) hl
              obtain ⟨b, hb⟩ : ∃ b, (z && (A.take j).all fun d => amI C d.i) = b := ⟨_, rfl⟩
              rw [hb] at hst
              rcases bool_ftS b with rfl | rfl
              · rw [Bool.false_and] at hst
                rw [hst] at next
                simp only [go_sem, goD_calls, eq_self, implies_true, Int.reduceEq, Int.reduceBEq, Int.reduceBNe, Int.reduceLE, Int.reduceLT, Int.reduceAdd, Int.reduceSub, Int.reduceMul, Int.reduceNeg, Nat.reduceMul, Nat.reduceSub, Nat.reduceLeDiff, Nat.reduceLT, Nat.reduceEqDiff, Nat.reduceAdd, reduceCtorEq, ↓reduceIte, reduceIte, c5, hb, hlen, ewi, Int.toNat_natCast, min_i64, max_i64]
                repeat refine ⟨by omega, ?_⟩
                refine next _ ?_
                refine leq_id (by simp only [frEq_cons, frEq_nil, frIn_cons, frIn_nil, and_true, fget_cons, Nat.reduceEqDiff, reduceIte, ↓reduceIte, true_and, SV.ren, SV.renL, ren1] <;> (try rfl) <;> (try simp)) (by (simp only [frLt_cons, frLt_nil, and_true, SV.lt, SV.ltL, true_and] <;> omega)) (by ((try simp only []); repeat first | exact HLe.refl _ | refine HLe.cons (by simp only [hget, Nat.reduceEqDiff, Nat.left_eq_add, Nat.add_eq_left, nm_ne2, nm_en2, nm_ne3, nm_en3, nm_ne4, nm_en4, nm_ne5, nm_en5, reduceIte, ↓reduceIte] <;> first | rfl | ((repeat rw [if_neg (by omega)]) <;> rfl)) ?_ | refine HLe.skip hnm (by omega) ?_ | refine HLe.frz hnm (by omega) ?_ | refine HLe.del hnm (by omega) ?_)) (by (repeat first | exact HLt.mono hnm (by simp only [] <;> omega) | refine HLt.cons (by simp only [] <;> omega) (by simp only [Tok.lt, SV.ltL, SV.lt, and_true, true_and] <;> omega) ?_)) (by simp only [] <;> omega)
              · obtain ⟨b2, hb2⟩ : ∃ b, amI C (A.getD j .nil).i = b := ⟨_, rfl⟩
                rw [hb2, Bool.true_and] at hst
                rw [hst] at next
                simp only [go_sem, goD_calls, eq_self, implies_true, Int.reduceEq, Int.reduceBEq, Int.reduceBNe, Int.reduceLE, Int.reduceLT, Int.reduceAdd, Int.reduceSub, Int.reduceMul, Int.reduceNeg, Nat.reduceMul, Nat.reduceSub, Nat.reduceLeDiff, Nat.reduceLT, Nat.reduceEqDiff, Nat.reduceAdd, reduceCtorEq, ↓reduceIte, reduceIte, c5, hb, hb2, hlen, ewi, ewk, spRAmong, Int.toNat_natCast, min_i64, max_i64]
                repeat refine ⟨by omega, ?_⟩
                refine next _ ?_
                refine leq_id (by simp only [frEq_cons, frEq_nil, frIn_cons, frIn_nil, and_true, fget_cons, Nat.reduceEqDiff, reduceIte, ↓reduceIte, true_and, SV.ren, SV.renL, ren1] <;> (try rfl) <;> (try simp)) (by (simp only [frLt_cons, frLt_nil, and_true, SV.lt, SV.ltL, true_and] <;> omega)) (by ((try simp only []); repeat first | exact HLe.refl _ | refine HLe.cons (by simp only [hget, Nat.reduceEqDiff, Nat.left_eq_add, Nat.add_eq_left, nm_ne2, nm_en2, nm_ne3, nm_en3, nm_ne4, nm_en4, nm_ne5, nm_en5, reduceIte, ↓reduceIte] <;> first | rfl | ((repeat rw [if_neg (by omega)]) <;> rfl)) ?_ | refine HLe.skip hnm (by omega) ?_ | refine HLe.frz hnm (by omega) ?_ | refine HLe.del hnm (by omega) ?_)) (by (repeat first | exact HLt.mono hnm (by simp only [] <;> omega) | refine HLt.cons (by simp only [] <;> omega) (by simp only [Tok.lt, SV.ltL, SV.lt, and_true, true_and] <;> omega) ?_)) (by simp only [] <;> omega)
            have c5 : decide ((j : Int) < (A.length : Int)) = false := decide_eq_false (by omega)
            have ejA : A.take j = A := List.take_of_length_le (by omega)
            have hf : (z && A.all fun d => amI C d.i) = false := by
              cases h : (z && A.all fun d => amI C d.i) with
              | false => rfl
              | true =>
                exfalso
                rw [Bool.and_eq_true, List.all_eq_true] at h
                refine hanti ⟨?_, fun n hn => ?_⟩
                · intro e
                  rw [← hz, e] at h
                  simp at h
                · obtain ⟨d, hd2, rfl⟩ := List.mem_map.1 hn
                  exact amI_iff.1 (h.2 d hd2)
            rw [ejA, hf]
            simp only [go_sem, goD_calls, eq_self, implies_true, Int.reduceEq, Int.reduceBEq, Int.reduceBNe, Int.reduceLE, Int.reduceLT, Int.reduceAdd, Int.reduceSub, Int.reduceMul, Int.reduceNeg, Nat.reduceMul, Nat.reduceSub, Nat.reduceLeDiff, Nat.reduceLT, Nat.reduceEqDiff, Nat.reduceAdd, reduceCtorEq, ↓reduceIte, reduceIte, c5, hlen, ewi, Int.toNat_natCast, min_i64, max_i64]
            repeat refine ⟨by omega, ?_⟩
            refine hB2 _ ⟨k + 1, by omega⟩ (by simp only []; omega) ?_
            refine leq_id (by simp only [frEq_cons, frEq_nil, frIn_cons, frIn_nil, and_true, fget_cons, Nat.reduceEqDiff, reduceIte, ↓reduceIte, true_and, SV.ren, SV.renL, ren1] <;> (try rfl) <;> (try simp)) (by (simp only [frLt_cons, frLt_nil, and_true, SV.lt, SV.ltL, true_and] <;> omega)) (by ((try simp only []); repeat first | exact HLe.refl _ | refine HLe.cons (by simp only [hget, Nat.reduceEqDiff, Nat.left_eq_add, Nat.add_eq_left, nm_ne2, nm_en2, nm_ne3, nm_en3, nm_ne4, nm_en4, nm_ne5, nm_en5, reduceIte, ↓reduceIte] <;> first | rfl | ((repeat rw [if_neg (by omega)]) <;> rfl)) ?_ | refine HLe.skip hnm (by omega) ?_ | refine HLe.frz hnm (by omega) ?_ | refine HLe.del hnm (by omega) ?_)) (by (repeat first | exact HLt.mono hnm (by simp only [] <;> omega) | refine HLt.cons (by simp only [] <;> omega) (by simp only [Tok.lt, SV.ltL, SV.lt, and_true, true_and] <;> omega) ?_)) (by simp only [] <;> omega)
          have c4 : decide ((k : Int) < (WL.length : Int)) = false := decide_eq_false (by omega)
          simp only [go_sem, goD_calls, eq_self, implies_true, Int.reduceEq, Int.reduceBEq, Int.reduceBNe, Int.reduceLE, Int.reduceLT, Int.reduceAdd, Int.reduceSub, Int.reduceMul, Int.reduceNeg, Nat.reduceMul, Nat.reduceSub, Nat.reduceLeDiff, Nat.reduceLT, Nat.reduceEqDiff, Nat.reduceAdd, reduceCtorEq, ↓reduceIte, reduceIte, c4, hlen, min_i64, max_i64]
          repeat refine ⟨by omega, ?_⟩
          refine hB _ ⟨i + 1, by omega⟩ (by simp only []; omega) ?_
          refine leq_id (by simp only [frEq_cons, frEq_nil, frIn_cons, frIn_nil, and_true, fget_cons, Nat.reduceEqDiff, reduceIte, ↓reduceIte, true_and, SV.ren, SV.renL, ren1] <;> (try rfl) <;> (try simp)) (by (simp only [frLt_cons, frLt_nil, and_true, SV.lt, SV.ltL, true_and] <;> omega)) (by ((try simp only []); repeat first | exact HLe.refl _ | refine HLe.cons (by simp only [hget, Nat.reduceEqDiff, Nat.left_eq_add, Nat.add_eq_left, nm_ne2, nm_en2, nm_ne3, nm_en3, nm_ne4, nm_en4, nm_ne5, nm_en5, reduceIte, ↓reduceIte] <;> first | rfl | ((repeat rw [if_neg (by omega)]) <;> rfl)) ?_ | refine HLe.skip hnm (by omega) ?_ | refine HLe.frz hnm (by omega) ?_ | refine HLe.del hnm (by omega) ?_)) (by (repeat first | exact HLt.mono hnm (by simp only [] <;> omega) | refine HLt.cons (by simp only [] <;> omega) (by simp only [Tok.lt, SV.ltL, SV.lt, and_true, true_and] <;> omega) ?_)) (by simp only [] <;> omega)
        have c3 : decide ((i : Int) < (WL.length : Int)) = false := decide_eq_false (by omega)
        have hw := least_within oX N
        rw [hWL] at hw
        have hw : within N WL = hasQ X (inL N) := hw
        obtain ⟨b, hb⟩ : ∃ b, hasQ X (inL N) = b := ⟨_, rfl⟩
        rw [hb] at hw
        rcases bool_ftS b with rfl | rfl
        all_goals
          simp only [go_sem, goD_calls, eq_self, implies_true, Int.reduceEq, Int.reduceBEq, Int.reduceBNe, Int.reduceLE, Int.reduceLT, Int.reduceAdd, Int.reduceSub, Int.reduceMul, Int.reduceNeg, Nat.reduceMul, Nat.reduceSub, Nat.reduceLeDiff, Nat.reduceLT, Nat.reduceEqDiff, Nat.reduceAdd, reduceCtorEq, ↓reduceIte, reduceIte, c3, hlen, hw, spQHasD, SV.one, dA, hA, hb]
          refine ⟨.bool _, fun nx' => ⟨rfl, rfl⟩, trivial, ?_⟩
          simp only [go_sem, goD_calls, eq_self, implies_true, Int.reduceEq, Int.reduceBEq, Int.reduceBNe, Int.reduceLE, Int.reduceLT, Int.reduceAdd, Int.reduceSub, Int.reduceMul, Int.reduceNeg, Nat.reduceMul, Nat.reduceSub, Nat.reduceLeDiff, Nat.reduceLT, Nat.reduceEqDiff, Nat.reduceAdd, reduceCtorEq, ↓reduceIte, reduceIte]
          exact ret _ _ _ (by ((try simp only []); repeat first | exact HLe.refl _ | refine HLe.cons (by simp only [hget, Nat.reduceEqDiff, Nat.left_eq_add, Nat.add_eq_left, nm_ne2, nm_en2, nm_ne3, nm_en3, nm_ne4, nm_en4, nm_ne5, nm_en5, reduceIte, ↓reduceIte] <;> first | rfl | ((repeat rw [if_neg (by omega)]) <;> rfl)) ?_ | refine HLe.skip hnm (by omega) ?_ | refine HLe.frz hnm (by omega) ?_ | refine HLe.del hnm (by omega) ?_)) (by simp only [hget, go_sem, goD_calls, eq_self, implies_true, Int.reduceEq, Int.reduceBEq, Int.reduceBNe, Int.reduceLE, Int.reduceLT, Int.reduceAdd, Int.reduceSub, Int.reduceMul, Int.reduceNeg, Nat.reduceMul, Nat.reduceSub, Nat.reduceLeDiff, Nat.reduceLT, Nat.reduceEqDiff, Nat.reduceAdd, reduceCtorEq, ↓reduceIte, reduceIte])
    · have h8 : decide ((8 : Int) < ((0 : Nat) : Int)) = false := rfl
      simp only [go_sem, goD_calls, eq_self, implies_true, Int.reduceEq, Int.reduceBEq, Int.reduceBNe, Int.reduceLE, Int.reduceLT, Int.reduceAdd, Int.reduceSub, Int.reduceMul, Int.reduceNeg, Nat.reduceMul, Nat.reduceSub, Nat.reduceLeDiff, Nat.reduceLT, Nat.reduceEqDiff, Nat.reduceAdd, reduceCtorEq, ↓reduceIte, reduceIte, setA, refV, spQNodes, spQLeast, h8, D.l, List.length_nil]
      subst hla
      have hq0 : leastQ X = [] := least_nil oX hPa
      rw [hq0] at hitX
      refine go_rng _ _ _ [(51, .clo 33 [.elt setY (.node [pa, .list [], .int na])]), (6, .elt setY (.node [pa, .list [], .int na])), (4, .ptr nx 0), (3, .ptr (nx + 1) 0), (9, .ptr (nx + 2) 0), (10, .ptr (nx + 3) 0)] 33 [.elt setY (.node [pa, .list [], .int na])] [] (α := Nat) (fun j => ((nx, .cells [.bool false]) :: (nx + 1, .cells [.dat (.slice 3) (.list N)]) :: (nx + 2, .cells [.bool false]) :: (nx + 3, .cells [.nils]) :: h, nx + 4)) (fun j => j) 0 (nx + 4) (by omega) (by simp only []; omega) ?_ rfl ?_ rfl hitX ?_ (fun j Qa R hj hQa hR hret hext => absurd hj (Nat.not_lt_zero _)) (fun j hj => ?_)
      · refine FrLt.all ?_
        (simp only [frLt_cons, frLt_nil, and_true, SV.lt, SV.ltL, true_and] <;> omega)
      · refine leq_news [(nx, nx + 1), (nx + 1, nx), (nx + 2, (nx + 1 + 1 + 64 + 64 + 64 + 1 + 1 + 64)), (nx + 3, (nx + 1 + 1 + 64 + 64 + 64 + 1 + 1 + 64 + 1))]  [(nx, .cells [.bool false]), (nx + 1, .cells [.dat (.slice 3) (.list N)]), (nx + 2, .cells [.bool false]), (nx + 3, .cells [.nils])] (.refl _) (by simp) (by simp <;> omega) (by simp <;> omega) rfl ?_ ?_ ?_ ?_ hnm ?_ ?_
        · simp [frIn_cons, frIn_nil, fget_cons, fget_nil, SV.ren, SV.renL, rens]
        · (simp only [frLt_cons, frLt_nil, and_true, SV.lt, SV.ltL, true_and] <;> omega)
        · (simp only [List.mem_cons, List.not_mem_nil, or_false, forall_eq_or_imp, forall_eq]; simp [hget, rens, Tok.ren, SV.ren, SV.renL])
          all_goals try (repeat rw [if_neg (by omega)])
          all_goals try exact ⟨rfl, rfl⟩
          all_goals try exact ⟨rfl, rfl, rfl⟩
          all_goals try exact ⟨rfl, rfl, rfl, rfl⟩
        · (simp only [List.mem_cons, List.not_mem_nil, or_false, forall_eq_or_imp, forall_eq, Tok.lt, SV.lt, SV.ltL, and_true, true_and] <;> omega)
        · ((try simp only []); repeat first | exact HLe.refl _ | refine HLe.cons (by simp only [hget, Nat.reduceEqDiff, Nat.left_eq_add, Nat.add_eq_left, nm_ne2, nm_en2, nm_ne3, nm_en3, nm_ne4, nm_en4, nm_ne5, nm_en5, reduceIte, ↓reduceIte] <;> first | rfl | ((repeat rw [if_neg (by omega)]) <;> rfl)) ?_ | refine HLe.skip hnm (by omega) ?_ | refine HLe.frz hnm (by omega) ?_ | refine HLe.del hnm (by omega) ?_)
        · omega
      · intro it hit
        cases hit
      · simp only [go_sem, goD_calls, eq_self, implies_true, Int.reduceEq, Int.reduceBEq, Int.reduceBNe, Int.reduceLE, Int.reduceLT, Int.reduceAdd, Int.reduceSub, Int.reduceMul, Int.reduceNeg, Nat.reduceMul, Nat.reduceSub, Nat.reduceLeDiff, Nat.reduceLT, Nat.reduceEqDiff, Nat.reduceAdd, reduceCtorEq, ↓reduceIte, reduceIte]
        have hw := least_within oX N
        rw [hq0] at hw
        have hw : hasQ X (inL N) = false := hw.symm
        refine go_loop (α := Unit) (I := fun _ => { f := [(15, .int .i64 0), (6, .elt setY (.node [pa, .list [], .int na])), (4, .ptr nx 0), (3, .ptr (nx + 1) 0), (9, .ptr (nx + 2) 0), (10, .ptr (nx + 3) 0)], h := (nx, .cells [.bool false]) :: (nx + 1, .cells [.dat (.slice 3) (.list N)]) :: (nx + 2, .cells [.bool false]) :: (nx + 3, .cells [.nils]) :: h, nx := nx + 4 }) (μ := fun _ => 0) _ _ _ () ?_ (fun _ B hB => ?_)
        · refine leq_id (by simp only [frEq_cons, frEq_nil, frIn_cons, frIn_nil, and_true, fget_cons, Nat.reduceEqDiff, reduceIte, ↓reduceIte, true_and, SV.ren, SV.renL, ren1] <;> (try rfl) <;> (try simp)) (by (simp only [frLt_cons, frLt_nil, and_true, SV.lt, SV.ltL, true_and] <;> omega)) (by ((try simp only []); repeat first | exact HLe.refl _ | refine HLe.cons (by simp only [hget, Nat.reduceEqDiff, Nat.left_eq_add, Nat.add_eq_left, nm_ne2, nm_en2, nm_ne3, nm_en3, nm_ne4, nm_en4, nm_ne5, nm_en5, reduceIte, ↓reduceIte] <;> first | rfl | ((repeat rw [if_neg (by omega)]) <;> rfl)) ?_ | refine HLe.skip hnm (by omega) ?_ | refine HLe.frz hnm (by omega) ?_ | refine HLe.del hnm (by omega) ?_)) (by (repeat first | exact HLt.mono hnm (by simp only [] <;> omega) | refine HLt.cons (by simp only [] <;> omega) (by simp only [Tok.lt, SV.ltL, SV.lt, and_true, true_and] <;> omega) ?_)) (by simp only [] <;> omega)
        have c3 : decide ((0 : Int) < ((0 : Nat) : Int)) = false := rfl
        simp only [go_sem, goD_calls, eq_self, implies_true, Int.reduceEq, Int.reduceBEq, Int.reduceBNe, Int.reduceLE, Int.reduceLT, Int.reduceAdd, Int.reduceSub, Int.reduceMul, Int.reduceNeg, Nat.reduceMul, Nat.reduceSub, Nat.reduceLeDiff, Nat.reduceLT, Nat.reduceEqDiff, Nat.reduceAdd, reduceCtorEq, ↓reduceIte, reduceIte, c3, spQHasD, SV.one, dA, hA, hw]
        refine ⟨.bool false, fun nx' => ⟨rfl, rfl⟩, trivial, ?_⟩
        simp only [go_sem, goD_calls, eq_self, implies_true, Int.reduceEq, Int.reduceBEq, Int.reduceBNe, Int.reduceLE, Int.reduceLT, Int.reduceAdd, Int.reduceSub, Int.reduceMul, Int.reduceNeg, Nat.reduceMul, Nat.reduceSub, Nat.reduceLeDiff, Nat.reduceLT, Nat.reduceEqDiff, Nat.reduceAdd, reduceCtorEq, ↓reduceIte, reduceIte]
        exact ret _ _ _ (by ((try simp only []); repeat first | exact HLe.refl _ | refine HLe.cons (by simp only [hget, Nat.reduceEqDiff, Nat.left_eq_add, Nat.add_eq_left, nm_ne2, nm_en2, nm_ne3, nm_en3, nm_ne4, nm_en4, nm_ne5, nm_en5, reduceIte, ↓reduceIte] <;> first | rfl | ((repeat rw [if_neg (by omega)]) <;> rfl)) ?_ | refine HLe.skip hnm (by omega) ?_ | refine HLe.frz hnm (by omega) ?_ | refine HLe.del hnm (by omega) ?_)) (by simp only [hget, go_sem, goD_calls, eq_self, implies_true, Int.reduceEq, Int.reduceBEq, Int.reduceBNe, Int.reduceLE, Int.reduceLT, Int.reduceAdd, Int.reduceSub, Int.reduceMul, Int.reduceNeg, Nat.reduceMul, Nat.reduceSub, Nat.reduceLeDiff, Nat.reduceLT, Nat.reduceEqDiff, Nat.reduceAdd, reduceCtorEq, ↓reduceIte, reduceIte])
  · exact hsp.elim
end Go.Proofs.YtkmilijehekdoaaDoor
