/- Chapter 15: PointPlays. -/
import Derived.Test.YtmjenjccinfbaaaDoorPntU
import Derived.Test.YtmjenjccinfbaaaDoorPntM
namespace Go.Proofs.YtmjenjccinfbaaaDoor
set_option linter.unusedVariables false
set_option linter.unusedSimpArgs false
open Go Go.Fw
attribute [local go_sem] walkSet evMdl evMupD evMup evLkp frpL eltP eltV eltK preF preP prePt prePd frzP evNlq ev frOf oget ogets argSs argS evCat evMm frzL evBin evWrp evShf evCmp evUna evNil evBeq evLd evSt evFad evIad evAad evLen evSln evEls evApp evParts evSlc evNlc evMif evPck evFld evBld evTas evIfq evSeq evSl0 evBxf evAgl evAgq evBsf hget hset hdel cellAt arrAt setCellAt setArrAt takeC lenC svCells SV.okc SV.one ldSV Fw.isAgg explode explodeL toD toDL toD1 Ty.size Ty.sizeL frz1 Fr.sub Heap.sub Tok.sub SV.sub SV.subL

theorem lastR_app (s : Int) (L : List D) (d : D) : lastR s (L ++ [d]) = (d.fld 0).i := by
  unfold lastR
  rw [if_neg (by simp), List.length_append, List.length_singleton, Nat.add_sub_cancel, List.getD_eq_getElem?_getD, List.getElem?_append_right (Nat.le_refl _), Nat.sub_self]
  rfl
theorem lastR_ge {s : Int} {L : List D} (h : risS s (L.map snt)) {i : Nat} (hi : i < L.length) : ((L.getD i .nil).fld 0).i ≤ lastR s L := by
  unfold lastR
  rw [if_neg (by omega)]
  have e : ∀ k, k < L.length → (((L.map snt).getD k .nil).fld 0).i = ((L.getD k .nil).fld 0).i := fun k hk => by rw [snt_at hk]; rfl
  by_cases e1 : i = L.length - 1
  · rw [e1]; exact Int.le_refl _
  · have := h.2 i (L.length - 1) (by omega) (by rw [List.length_map]; omega)
    rw [e i hi, e _ (by omega)] at this
    omega
theorem ris_app {s : Int} {L : List D} {d : D} (h : risS s (L.map snt)) (h0 : s ≤ lastR s L) (hd : lastR s L < (d.fld 0).i) : risS s ((L ++ [d]).map snt) := by
  have e : ∀ k, k < L.length → ((((L ++ [d]).map snt).getD k .nil).fld 0).i = (((L.map snt).getD k .nil).fld 0).i := fun k hk => by
    rw [List.map_append, List.getD_eq_getElem?_getD, List.getElem?_append_left (by rw [List.length_map]; exact hk), ← List.getD_eq_getElem?_getD]
  have e2 : ((((L ++ [d]).map snt).getD L.length .nil).fld 0).i = (d.fld 0).i := by
    rw [snt_at (by simp), List.getD_eq_getElem?_getD, List.getElem?_append_right (Nat.le_refl _), Nat.sub_self]
    rfl
  have e3 : ∀ k, k < L.length → (((L.map snt).getD k .nil).fld 0).i = ((L.getD k .nil).fld 0).i := fun k hk => by rw [snt_at hk]; rfl
  have hl : ((L ++ [d]).map snt).length = L.length + 1 := by simp
  refine ⟨fun i hi => ?_, fun i j hij hj => ?_⟩
  · rw [hl] at hi
    by_cases c : i < L.length
    · rw [e i c]; exact h.1 i (by rw [List.length_map]; exact c)
    · obtain rfl : i = L.length := by omega
      rw [e2]; omega
  · rw [hl] at hj
    by_cases c : j < L.length
    · rw [e i (by omega), e j c]; exact h.2 i j hij (by rw [List.length_map]; exact c)
    · obtain rfl : j = L.length := by omega
      rw [e i (by omega), e2, e3 i (by omega)]
      have := lastR_ge h (i := i) (by omega)
      omega
theorem lastR_min {s : Int} {L : List D} (h : risS s (L.map snt)) : s ≤ lastR s L := by
  by_cases e : L.length = 0
  · unfold lastR; rw [if_pos e]; exact Int.le_refl _
  · have h1 := lastR_ge h (i := L.length - 1) (by omega)
    have h2 := h.1 (L.length - 1) (by rw [List.length_map]; omega)
    rw [snt_at (by omega)] at h2
    have h3 : ((snt (L.getD (L.length - 1) .nil)).fld 0).i = ((L.getD (L.length - 1) .nil).fld 0).i := rfl
    omega
section
variable {h r : Heap} {nx p u v : Nat} {sp l : List D} {F : List Int} {s a n g : Int} {c m : Nat} {K : SV → Heap → Prop}
theorem safe_yes (hpu : p ≠ u) (hpv : p ≠ v) (huv : u ≠ v) (hc : isCnt l (F.map D.int) c) (hm : isCnt l ((bump F g n).map D.int) m) (hlen : l.length ≤ 1000000) (hgr : grOk l (F.map D.int)) (hg : 0 ≤ g ∧ g < F.length) (hle : F.getD g.toNat 0 ≤ n)
    (hK : K (.bool true) ((p, ptS sp u a v s l m) :: (u, .arr 112 sentT l) :: (v, .arr 2 (.int .i64) ((bump F g n).map D.int)) :: r)) :
    spPSafe [.ptr p 0, .int .i64 g, .int .i64 n] ((p, ptS sp u a v s l c) :: (u, .arr 112 sentT l) :: (v, .arr 2 (.int .i64) (F.map D.int)) :: r) nx K := by
  have e1 : hget ((p, ptS sp u a v s l c) :: (u, .arr 112 sentT l) :: (v, .arr 2 (.int .i64) (F.map D.int)) :: r) p = some (ptS sp u a v s l c) := by simp only [hget, ↓reduceIte]
  have e2 : hget ((p, ptS sp u a v s l c) :: (u, .arr 112 sentT l) :: (v, .arr 2 (.int .i64) (F.map D.int)) :: r) u = some (.arr 112 sentT l) := by simp only [hget, ↓reduceIte, if_neg hpu]
  have e3 : hget ((p, ptS sp u a v s l c) :: (u, .arr 112 sentT l) :: (v, .arr 2 (.int .i64) (F.map D.int)) :: r) v = some (.arr 2 (.int .i64) (F.map D.int)) := by simp only [hget, ↓reduceIte, if_neg hpv, if_neg huv]
  have hb : bump F g n = F.set g.toNat n := by unfold bump; rw [Int.max_eq_right hle]
  have hs : setI (F.map D.int) g n = (bump F g n).map D.int := by rw [hb]; exact set_ints _ _ _
  have hl := look_cnt (s := s) hm (cnt_mono (bump_le F g n) hc hm)
  refine safe_of (k := (c : Int)) (c := vcA s l c) (d := vdA s l c) e1 e2 e3 huv.symm hpv.symm ⟨by omega, by have := hc.1; omega⟩ hlen hgr (by rw [List.length_map, getD_ints]; exact ⟨hg.1, hg.2, hle⟩) (x := (m, vcA s l m, vdA s l m)) (by rw [Int.toNat_natCast, hs]; exact hl) ?_
  rw [hs]
  simp only [hset, ↓reduceIte, if_neg hpv, if_neg huv]
  exact hK
theorem setI_bump (hle : F.getD g.toNat 0 ≤ n) : setI (F.map D.int) g n = (bump F g n).map D.int := by
  have hb : bump F g n = F.set g.toNat n := by unfold bump; rw [Int.max_eq_right hle]
  rw [hb]; exact set_ints _ _ _
theorem gr_bump (hgr : grOk l (F.map D.int)) : grOk l ((bump F g n).map D.int) := fun i hi => by
  have := hgr i hi
  rw [List.length_map] at this ⊢
  rw [bump_len]
  exact this
end
theorem sent_look {l F : List D} {x : D} {s : Int} {c m : Nat} (hc : isCnt l F c) (hm : isCnt (l ++ [x]) F m) : lookF (l ++ [x]) F (l.length + 1 - ((c : Int)).toNat) ((c : Int)).toNat (vcA s l c) (vdA s l c) = (m, vcA s (l ++ [x]) m, vdA s (l ++ [x]) m) := by
  have hl := look_cnt (s := s) hm (cnt_app hc hm)
  rw [vcA_app s l _ hc.1, vdA_app s l _ hc.1, List.length_append, List.length_singleton] at hl
  rw [Int.toNat_natCast]
  exact hl
abbrev doT : Ty := .strct [.int .i64, .int .i64, .int .i64, redT]
def WPointPlays : Opts := mkWF 161 [] [0, 1, 2, 3, 4, 5, 6, 7, 8, 9, 10, 11, 12, 13, 14, 15, 16] [] 171 [0, 1, 2, 3, 4, 5, 6, 7, 8, 9, 10, 11, 12, 13, 14, 15, 16] [] [(200015, 77), (200016, 34)] []
def icPointPlays : IC := (.seq (.seq (.ops [(.u (.mov 8 (.c (.bool false))))]) (.tr [0, 1, 3, 2, 100016, 100015])) (.seq (.seq (.ops [(.u (.call 18 (.c (.clo 15 [])) [] [] true)), (.u (.mov 9 (.s 18)))]) (.tr [9, 0, 1, 3, 2, 100016, 100015])) (.seq (.seq (.seq (.ops [(.u (.mov 19 (.s 9))), (.u (.una 20 .not (.s 19)))]) (.tr [20, 9, 0, 1, 3, 2, 100016, 100015])) (.cond (.s 20) (.seq (.seq (.ops [(.u (.mov 8 (.c (.bool false))))]) (.tr [8])) .ret) .skip)) (.seq (.seq (.seq (.ops [(.u (.mov 21 (.s 2))), (.u (.len 22 false (.s 21))), (.u (.cmp 23 .gtr (.s 22) (.c (.int .i64 80)))), (.u (.mov 24 (.s 23))), (.g 24 false (some 25) (.mov 25 (.s 3))), (.g 24 false (some 26) (.len 26 false (.s 25))), (.g 24 false (some 27) (.cmp 27 .gtr (.s 26) (.c (.int .i64 60)))), (.u (.pck 28 (.s 24) (.c (.bool true)) (.s 27))), (.u (.mov 29 (.s 28))), (.g 29 false (some 30) (.mov 30 (.s 9))), (.g 29 false (some 31) (.una 31 .not (.s 30))), (.u (.pck 32 (.s 29) (.c (.bool true)) (.s 31)))]) (.tr [32, 9, 0, 1, 3, 2, 100016, 100015])) (.cond (.s 32) (.seq (.seq (.ops [(.u (.mov 33 (.s 9))), (.u (.mov 8 (.s 33)))]) (.tr [8])) .ret) .skip)) (.seq (.seq (.ops [(.u (.mov 35 (.s 0))), (.u (.mov 36 (.s 1))), (.u (.mov 37 (.s 2))), (.u (.call 38 (.c (.clo 16 [])) [(.s 35), (.s 36), (.s 37)] [none, none, (some 41)] true)), (.u (.mov 34 (.s 38))), (.u (.ext 39 0 (.s 34))), (.u (.ext 40 1 (.s 34))), (.u (.mov 10 (.s 39))), (.u (.mov 11 (.s 40)))]) (.tr [0, 1, 11, 3, 2, 100016, 100015, 10])) (.seq (.seq (.ops [(.u (.mov 42 (.s 0))), (.u (.mov 43 (.s 1))), (.u (.mov 44 (.s 2))), (.u (.call 45 (.c (.clo 37 [])) [(.s 42), (.s 43), (.s 44)] [none, none, (some 41)] true)), (.u (.mov 41 (.s 45))), (.u (.ext 46 0 (.s 41))), (.u (.ext 47 1 (.s 41))), (.u (.alc 13 [(.int .i64 0), (.bool false), (.int .i64 0)])), (.u (.mov 12 (.s 46))), (.u (.st (.strct [(.int .i64), .bool, (.int .i64)]) (.s 13) (.s 47)))]) (.tr [11, 13, 3, 2, 100016, 100015, 10, 12])) (.seq (.seq (.seq (.ops [(.u (.mov 48 (.s 11))), (.u (.ld 49 (.strct [(.int .i64), .bool, (.int .i64)]) (.s 13))), (.u (.call 50 (.c (.clo 28 [])) [(.s 48), (.s 49)] [none, none] true)), (.u (.una 51 .not (.s 50)))]) (.tr [51, 3, 2, 100016, 100015, 10, 12])) (.cond (.s 51) (.seq (.seq (.ops [(.u (.mov 8 (.c (.bool false))))]) (.tr [8])) .ret) .skip)) (.seq (.seq (.seq (.ops [(.u (.mov 52 (.s 12))), (.u (.eqb 53 false 1 (.s 52)))]) (.tr [53, 3, 2, 100016, 100015, 10, 12])) (.cond (.s 53) (.seq (.seq (.ops [(.u (.mov 54 (.s 10))), (.u (.eqb 55 false 1 (.s 54))), (.u (.mov 8 (.s 55)))]) (.tr [8])) .ret) .skip)) (.seq (.seq (.seq (.ops [(.u (.mov 14 (.c (.int .i64 0))))]) (.tr [3, 2, 100016, 100015, 10, 12, 14])) (.block 0 (.loop (.seq (.seq (.seq (.ops [(.u (.mov 56 (.s 14))), (.u (.mov 57 (.s 3))), (.u (.len 58 false (.s 57))), (.u (.cmp 59 .lss (.s 56) (.s 58)))]) (.tr [59, 14, 3, 2, 100016, 100015, 10, 12])) (.cond (.s 59) .skip (.exit 0))) (.seq (.block 1 (.seq (.seq (.ops [(.u (.mov 62 (.s 3))), (.u (.mov 63 (.s 14))), (.u (.iad 64 77 (.strct [(.int .i64), (.int .i64), (.int .i64), (.strct [(.int .i64), (.int .i64), (.int .i64), (.int .i64), (.int .i64), (.int .i64), (.int .i64), (.slice 5), (.slice 5), .bool])]) (.s 62) (.s 63))), (.u (.ld 65 (.strct [(.int .i64), (.int .i64), (.int .i64), (.strct [(.int .i64), (.int .i64), (.int .i64), (.int .i64), (.int .i64), (.int .i64), (.int .i64), (.slice 5), (.slice 5), .bool])]) (.s 64))), (.u (.alc 15 [(.int .i64 0), (.int .i64 0), (.int .i64 0), (.int .i64 0), (.int .i64 0), (.int .i64 0), (.int .i64 0), (.int .i64 0), (.int .i64 0), (.int .i64 0), .nils, .nils, (.bool false)])), (.u (.st (.strct [(.int .i64), (.int .i64), (.int .i64), (.strct [(.int .i64), (.int .i64), (.int .i64), (.int .i64), (.int .i64), (.int .i64), (.int .i64), (.slice 5), (.slice 5), .bool])]) (.s 15) (.s 65)))]) (.tr [15, 14, 3, 2, 100016, 100015, 10, 12])) (.seq (.seq (.seq (.ops [(.u (.fad 66 3 3 (.strct [(.int .i64), (.int .i64), (.int .i64), (.int .i64), (.int .i64), (.int .i64), (.int .i64), (.slice 5), (.slice 5), .bool]) 77 (.s 15))), (.u (.ld 67 (.strct [(.int .i64), (.int .i64), (.int .i64), (.int .i64), (.int .i64), (.int .i64), (.int .i64), (.slice 5), (.slice 5), .bool]) (.s 66))), (.u (.call 68 (.c (.clo 38 [])) [(.s 67)] [none] true)), (.u (.una 69 .not (.s 68)))]) (.tr [69, 15, 14, 3, 2, 100016, 100015, 10, 12])) (.cond (.s 69) (.seq (.seq (.ops [(.u (.mov 8 (.c (.bool true))))]) (.tr [8])) .ret) .skip)) (.seq (.seq (.seq (.ops [(.u (.fad 70 0 0 (.int .i64) 77 (.s 15))), (.u (.ld 71 (.int .i64) (.s 70))), (.u (.cmp 72 .eql (.s 71) (.c (.int .i64 3))))]) (.tr [72, 15, 14, 3, 2, 100016, 100015, 10, 12])) (.cond (.s 72) (.seq (.seq (.frp [(100015, (77, (.strct [(.int .i64), (.int .i64), (.int .i64), (.strct [(.int .i64), (.int .i64), (.int .i64), (.int .i64), (.int .i64), (.int .i64), (.int .i64), (.slice 5), (.slice 5), .bool])])))]) (.seq (.rgn [(.s 10), (.s 12)] [(false, (.u (.mov 73 (.s 10)))), (false, (.u (.fad 74 1 1 (.int .i64) 77 (.s 15)))), (false, (.u (.ld 75 (.int .i64) (.s 74)))), (false, (.u (.fad 76 2 2 (.int .i64) 77 (.s 15)))), (false, (.u (.ld 77 (.int .i64) (.s 76)))), (false, (.u (.mov 79 (.s 12)))), (false, (.u (.fad 80 1 1 (.int .i64) 77 (.s 15)))), (true, (.u (.ld 81 (.int .i64) (.s 80)))), (false, (.u (.fad 82 2 2 (.int .i64) 77 (.s 15)))), (true, (.u (.ld 83 (.int .i64) (.s 82)))), (false, (.u (.call 78 (.c (.clo 19 [])) [(.s 73), (.s 75), (.s 77)] [none, none, none] true))), (false, (.u (.call 84 (.c (.clo 39 [])) [(.s 79), (.s 81), (.s 83)] [none, none, none] true))), (false, (.u (.beq 85 true (.s 78) (.s 84))))]) (.tr [85, 15, 14, 3, 2, 100016, 100015, 10, 12]))) (.cond (.s 85) (.seq (.seq (.ops [(.u (.mov 8 (.c (.bool false))))]) (.tr [8])) .ret) .skip)) (.seq (.seq (.ops [(.u (.fad 86 3 3 (.strct [(.int .i64), (.int .i64), (.int .i64), (.int .i64), (.int .i64), (.int .i64), (.int .i64), (.slice 5), (.slice 5), .bool]) 77 (.s 15))), (.u (.ld 87 (.strct [(.int .i64), (.int .i64), (.int .i64), (.int .i64), (.int .i64), (.int .i64), (.int .i64), (.slice 5), (.slice 5), .bool]) (.s 86))), (.u (.call 88 (.c (.clo 40 [])) [(.s 87)] [none] true)), (.u (.alc 16 [(.int .i64 0), (.int .i64 0), (.int .i64 0), (.int .i64 0), (.int .i64 0), (.int .i64 0), (.int .i64 0), .nils, .nils, (.bool false)])), (.u (.st (.strct [(.int .i64), (.int .i64), (.int .i64), (.int .i64), (.int .i64), (.int .i64), (.int .i64), (.slice 5), (.slice 5), .bool]) (.s 16) (.s 88)))]) (.tr [16, 15, 14, 3, 2, 100016, 100015, 10, 12])) (.seq (.seq (.seq (.ops [(.u (.fad 89 0 0 (.int .i64) 77 (.s 15))), (.u (.ld 90 (.int .i64) (.s 89))), (.u (.cmp 91 .eql (.s 90) (.c (.int .i64 2))))]) (.tr [91, 16, 15, 14, 3, 2, 100016, 100015, 10, 12])) (.cond (.s 91) (.seq (.seq (.ops [(.u (.mov 92 (.s 12))), (.u (.nlc 93 (.s 92))), (.u (.fad 94 1 1 (.int .i64) 82 (.s 93))), (.u (.ld 95 (.int .i64) (.s 94))), (.u (.mov 17 (.s 95)))]) (.tr [17, 16, 15, 14, 3, 2, 100016, 100015, 10, 12])) (.seq (.seq (.seq (.ops [(.u (.mov 96 (.s 12))), (.u (.nlc 97 (.s 96))), (.u (.fad 98 3 3 (.slice 34) 82 (.s 97))), (.u (.ld 99 (.slice 34) (.s 98))), (.u (.len 100 false (.s 99))), (.u (.cmp 101 .gtr (.s 100) (.c (.int .i64 0))))]) (.tr [101, 17, 16, 15, 14, 3, 2, 100016, 100015, 10, 12])) (.cond (.s 101) (.seq (.rgn [] [(false, (.u (.mov 102 (.s 12)))), (false, (.u (.nlc 103 (.s 102)))), (false, (.u (.fad 104 3 3 (.slice 34) 82 (.s 103)))), (false, (.u (.ld 105 (.slice 34) (.s 104)))), (false, (.u (.mov 106 (.s 12)))), (false, (.u (.nlc 107 (.s 106)))), (false, (.u (.fad 108 3 3 (.slice 34) 82 (.s 107)))), (false, (.u (.ld 109 (.slice 34) (.s 108)))), (false, (.u (.len 110 false (.s 109)))), (false, (.u (.bin 111 .sub .i64 (.s 110) (.c (.int .i64 1))))), (false, (.u (.iad 112 34 (.strct [(.int .i64), (.int .i64), (.int .i64), (.int .i64), (.int .i64), (.int .i64), (.int .i64), (.slice 5), (.slice 5), .bool]) (.s 105) (.s 111)))), (false, (.u (.fad 113 0 0 (.int .i64) 34 (.s 112)))), (false, (.u (.ld 114 (.int .i64) (.s 113)))), (false, (.u (.mov 17 (.s 114))))]) (.tr [17, 16, 15, 14, 3, 2, 100016, 100015, 10, 12])) .skip)) (.seq (.ops [(.u (.mov 115 (.s 2))), (.u (.mov 116 (.s 17))), (.u (.call 117 (.c (.clo 24 [])) [(.s 115), (.s 116)] [(some 41), none] true)), (.u (.fad 118 0 0 (.int .i64) 34 (.s 16))), (.u (.st (.int .i64) (.s 118) (.s 117)))]) (.tr [16, 15, 14, 3, 2, 100016, 100015, 10, 12])))) .skip)) (.seq (.seq (.frp [(100016, (34, (.strct [(.int .i64), (.int .i64), (.int .i64), (.int .i64), (.int .i64), (.int .i64), (.int .i64), (.slice 5), (.slice 5), .bool])))]) (.seq (.rgn [(.s 10), (.s 12)] [(false, (.u (.mov 119 (.s 10)))), (false, (.u (.ld 120 (.strct [(.int .i64), (.int .i64), (.int .i64), (.int .i64), (.int .i64), (.int .i64), (.int .i64), (.slice 5), (.slice 5), .bool]) (.s 16)))), (false, (.u (.mov 122 (.s 12)))), (true, (.u (.ld 123 (.strct [(.int .i64), (.int .i64), (.int .i64), (.int .i64), (.int .i64), (.int .i64), (.int .i64), (.slice 5), (.slice 5), .bool]) (.s 16)))), (false, (.u (.call 121 (.c (.clo 17 [])) [(.s 119), (.s 120)] [none, none] true))), (false, (.u (.call 124 (.c (.clo 41 [])) [(.s 122), (.s 123)] [none, none] true))), (false, (.u (.call 125 (.c (.clo 23 [])) [(.s 121), (.s 124)] [none, none] true))), (false, (.u (.una 126 .not (.s 125))))]) (.tr [126, 15, 14, 3, 2, 100016, 100015, 10, 12]))) (.cond (.s 126) (.seq (.seq (.ops [(.u (.mov 8 (.c (.bool false))))]) (.tr [8])) .ret) .skip)))))) (.seq (.seq (.frp [(100015, (77, (.strct [(.int .i64), (.int .i64), (.int .i64), (.strct [(.int .i64), (.int .i64), (.int .i64), (.int .i64), (.int .i64), (.int .i64), (.int .i64), (.slice 5), (.slice 5), .bool])])))]) (.seq (.rgn [(.s 10), (.s 12), (.s 10), (.s 12), (.s 10), (.s 12), (.s 10), (.s 12)] [(false, (.u (.mov 127 (.s 10)))), (false, (.u (.mov 129 (.s 12)))), (false, (.u (.call 128 (.c (.clo 21 [])) [(.s 127)] [none] true))), (false, (.u (.call 130 (.c (.clo 42 [])) [(.s 129)] [none] true))), (false, (.u (.cmp 131 .neq (.s 128) (.s 130)))), (false, (.u (.mov 132 (.s 131)))), (false, (.g 132 false (some 133) (.mov 133 (.s 10)))), (false, (.g 132 false (some 135) (.mov 135 (.s 12)))), (false, (.g 132 false (some 134) (.call 134 (.c (.clo 20 [])) [(.s 133)] [none] true))), (false, (.g 132 false (some 136) (.call 136 (.c (.clo 43 [])) [(.s 135)] [none] true))), (false, (.g 132 false (some 137) (.cmp 137 .neq (.s 134) (.s 136)))), (false, (.u (.pck 138 (.s 132) (.c (.bool true)) (.s 137)))), (false, (.u (.mov 139 (.s 138)))), (false, (.g 139 false (some 140) (.mov 140 (.s 10)))), (false, (.g 139 false (some 142) (.mov 142 (.s 12)))), (false, (.g 139 false (some 141) (.call 141 (.c (.clo 22 [])) [(.s 140)] [none] true))), (false, (.g 139 false (some 143) (.call 143 (.c (.clo 44 [])) [(.s 142)] [none] true))), (false, (.g 139 false (some 144) (.cmp 144 .neq (.s 141) (.s 143)))), (false, (.u (.pck 145 (.s 139) (.c (.bool true)) (.s 144)))), (false, (.u (.mov 146 (.s 145)))), (false, (.g 146 false (some 147) (.mov 147 (.s 10)))), (false, (.g 146 false (some 148) (.fad 148 1 1 (.int .i64) 77 (.s 15)))), (false, (.g 146 false (some 149) (.ld 149 (.int .i64) (.s 148)))), (false, (.g 146 false (some 150) (.fad 150 2 2 (.int .i64) 77 (.s 15)))), (false, (.g 146 false (some 151) (.ld 151 (.int .i64) (.s 150)))), (false, (.g 146 false (some 153) (.mov 153 (.s 12)))), (false, (.g 146 false (some 154) (.fad 154 1 1 (.int .i64) 77 (.s 15)))), (true, (.g 146 false (some 155) (.ld 155 (.int .i64) (.s 154)))), (false, (.g 146 false (some 156) (.fad 156 2 2 (.int .i64) 77 (.s 15)))), (true, (.g 146 false (some 157) (.ld 157 (.int .i64) (.s 156)))), (false, (.g 146 false (some 152) (.call 152 (.c (.clo 36 [])) [(.s 147), (.s 149), (.s 151)] [none, none, none] true))), (false, (.g 146 false (some 158) (.call 158 (.c (.clo 45 [])) [(.s 153), (.s 155), (.s 157)] [none, none, none] true))), (false, (.g 146 false (some 159) (.cmp 159 .neq (.s 152) (.s 158)))), (false, (.u (.pck 160 (.s 146) (.c (.bool true)) (.s 159))))]) (.tr [160, 14, 3, 2, 100016, 100015, 10, 12]))) (.cond (.s 160) (.seq (.seq (.ops [(.u (.mov 8 (.c (.bool false))))]) (.tr [8])) .ret) .skip)))))) (.seq (.ops [(.u (.mov 60 (.s 14))), (.u (.bin 61 .add .i64 (.s 60) (.c (.int .i64 1)))), (.u (.mov 14 (.s 61)))]) (.tr [3, 2, 100016, 100015, 10, 12, 14]))))))) (.seq (.seq (.ops [(.u (.mov 8 (.c (.bool true))))]) (.tr [8])) .ret))))))))))
def rsPointPlays : List RV := [(.t 8)]
theorem irPointPlays : fnIR Tryd.prog WPointPlays 11 = some (icPointPlays, rsPointPlays) := by kernel_rfl
def spPointPlays : FSpec := fun args h nx K => match args with
  | [.int .i64 _, .int .i64 _, .dat (.slice 41) _, .dat (.slice 77) _] => K (.bool true) h
  | _ => False
set_option maxHeartbeats 4000000 in
set_option maxRecDepth 8000 in
theorem vPointPlays {E : Nat → Value} (hE : Errs2 Tryd.prog (some 171) E) : Valid Tryd.prog E G0 11 spPointPlays := by
  refine valid_go (W := WPointPlays) hE ((((((((((((((((((((allValid_bot.add (up (vFirst15 hE))).add (up (vPNew hE))).add (up (vPSent hE))).add (up (vPSafe hE))).add (up (vPVCL hE))).add (up (vPVDL hE))).add (up (vPLeft hE))).add (up (vPLastO hE))).add (up (vSame hE))).add (up (vIs hE))).add (up (vRNewP hE))).add (up (vRSent hE))).add (up (vRSafe hE))).add (up (vRVCL hE))).add (up (vRVDL hE))).add (up (vRLeft hE))).add (up (vRLastOf hE))).add (up (vRNext hE))).add (up (vRRedo hE))).add (up (vWRedo hE))) irPointPlays (by decide) (fun args h nx K hsp hok hnm => ?_)
  unfold spPointPlays at hsp
  split at hsp
  · rename_i G a d e
    have hK := hsp
    refine ⟨by simp [WPointPlays, mkW, mkWE, mkWF], fun Q hQ => ?_⟩
    obtain ⟨hG, ha, hd, he, _⟩ := hok
    simp only [SV.ok, min_i64, max_i64] at hd he hG ha
    obtain ⟨hd1, hd2, hd3⟩ := Wt.slice hd; generalize d.l = l at *; subst hd1
    obtain ⟨he1, he2, he3⟩ := Wt.slice he; generalize e.l = v at *; subst he1
    have hml : maxLen ≤ 9223372036854775807 := by decide
    have fin : ∀ b h' nx', HLe h h' → b = true → Q Ex.ret ⟨[(8, .bool b)], h', nx'⟩ := fun b h' nx' hh hb => by
      subst hb
      refine (hQ _ ?_).1
      exact fin_t (.bool true) rfl rfl hnm hh hK
    by_cases hb1 : 80 < l.length
    · have c1 : decide (80 < (l.length : Int)) = true := decide_eq_true (by omega)
      simp (maxSteps := 4000000) only [icPointPlays, go_sem, goD_calls, eq_self, implies_true, Int.reduceEq, Int.reduceBEq, Int.reduceBNe, Int.reduceLE, Int.reduceLT, Int.reduceAdd, Int.reduceSub, Int.reduceMul, Int.reduceNeg, Nat.reduceMul, Nat.reduceSub, Nat.reduceLeDiff, Nat.reduceLT, Nat.reduceEqDiff, Nat.reduceAdd, reduceCtorEq, ↓reduceIte, reduceIte, spFirst15, c1]
      exact fin _ _ _ (by ((try simp only []); repeat first | exact HLe.refl _ | refine HLe.cons (by simp only [hget, Nat.reduceEqDiff, Nat.left_eq_add, Nat.add_eq_left, nm_ne2, nm_en2, nm_ne3, nm_en3, nm_ne4, nm_en4, nm_ne5, nm_en5, reduceIte, ↓reduceIte] <;> first | rfl | ((repeat rw [if_neg (by omega)]) <;> rfl)) ?_ | refine HLe.skip hnm (by omega) ?_ | refine HLe.frz hnm (by omega) ?_ | refine HLe.del hnm (by omega) ?_)) rfl
    have c1 : decide (80 < (l.length : Int)) = false := decide_eq_false (by omega)
    by_cases hb2 : 60 < v.length
    · have c2 : decide (60 < (v.length : Int)) = true := decide_eq_true (by omega)
      simp (maxSteps := 4000000) only [icPointPlays, go_sem, goD_calls, eq_self, implies_true, Int.reduceEq, Int.reduceBEq, Int.reduceBNe, Int.reduceLE, Int.reduceLT, Int.reduceAdd, Int.reduceSub, Int.reduceMul, Int.reduceNeg, Nat.reduceMul, Nat.reduceSub, Nat.reduceLeDiff, Nat.reduceLT, Nat.reduceEqDiff, Nat.reduceAdd, reduceCtorEq, ↓reduceIte, reduceIte, spFirst15, c1, c2]
      exact fin _ _ _ (by ((try simp only []); repeat first | exact HLe.refl _ | refine HLe.cons (by simp only [hget, Nat.reduceEqDiff, Nat.left_eq_add, Nat.add_eq_left, nm_ne2, nm_en2, nm_ne3, nm_en3, nm_ne4, nm_en4, nm_ne5, nm_en5, reduceIte, ↓reduceIte] <;> first | rfl | ((repeat rw [if_neg (by omega)]) <;> rfl)) ?_ | refine HLe.skip hnm (by omega) ?_ | refine HLe.frz hnm (by omega) ?_ | refine HLe.del hnm (by omega) ?_)) rfl
    have c2 : decide (60 < (v.length : Int)) = false := decide_eq_false (by omega)
    by_cases hr : (1 ≤ G ∧ G ≤ 4) ∧ (0 ≤ a ∧ a ≤ 1099511627776)
    rotate_left
    · have hr1 := eq_false hr
      simp (maxSteps := 4000000) only [icPointPlays, go_sem, goD_calls, eq_self, implies_true, Int.reduceEq, Int.reduceBEq, Int.reduceBNe, Int.reduceLE, Int.reduceLT, Int.reduceAdd, Int.reduceSub, Int.reduceMul, Int.reduceNeg, Nat.reduceMul, Nat.reduceSub, Nat.reduceLeDiff, Nat.reduceLT, Nat.reduceEqDiff, Nat.reduceAdd, reduceCtorEq, ↓reduceIte, reduceIte, spFirst15, spPNew, spRNewP, spSame, fA, fe_End, fa_End, fe_Sum, fa_Sum, fe_Shape, fa_Shape, fe_Many, fa_Many, fe_Range, fa_Range, fe_Kind, fa_Kind, fe_None, fa_None, fe_There, fa_There, fe_Full, fa_Full, fe_Crash, fa_Crash, fe_State, fa_State, fe_Conflict, fa_Conflict, fe_Waits, fa_Waits, fe_Limit, fa_Limit, fe_Fenced, fa_Fenced, fe_Word, fa_Word, fe_Number, fa_Number, fe_nil, c1, c2, hr1]
      exact fin _ _ _ (by ((try simp only []); repeat first | exact HLe.refl _ | refine HLe.cons (by simp only [hget, Nat.reduceEqDiff, Nat.left_eq_add, Nat.add_eq_left, nm_ne2, nm_en2, nm_ne3, nm_en3, nm_ne4, nm_en4, nm_ne5, nm_en5, reduceIte, ↓reduceIte] <;> first | rfl | ((repeat rw [if_neg (by omega)]) <;> rfl)) ?_ | refine HLe.skip hnm (by omega) ?_ | refine HLe.frz hnm (by omega) ?_ | refine HLe.del hnm (by omega) ?_)) rfl
    have hr1 := eq_true hr
    by_cases hv : validD l = .nil
    rotate_left
    · rcases (validD_cases l).resolve_left hv with hv | ⟨i, hi, hv | hv⟩
      · simp (maxSteps := 4000000) only [icPointPlays, go_sem, goD_calls, eq_self, implies_true, Int.reduceEq, Int.reduceBEq, Int.reduceBNe, Int.reduceLE, Int.reduceLT, Int.reduceAdd, Int.reduceSub, Int.reduceMul, Int.reduceNeg, Nat.reduceMul, Nat.reduceSub, Nat.reduceLeDiff, Nat.reduceLT, Nat.reduceEqDiff, Nat.reduceAdd, reduceCtorEq, ↓reduceIte, reduceIte, spFirst15, spPNew, spRNewP, spSame, fA, fe_End, fa_End, fe_Sum, fa_Sum, fe_Shape, fa_Shape, fe_Many, fa_Many, fe_Range, fa_Range, fe_Kind, fa_Kind, fe_None, fa_None, fe_There, fa_There, fe_Full, fa_Full, fe_Crash, fa_Crash, fe_State, fa_State, fe_Conflict, fa_Conflict, fe_Waits, fa_Waits, fe_Limit, fa_Limit, fe_Fenced, fa_Fenced, fe_Word, fa_Word, fe_Number, fa_Number, fe_nil, c1, c2, hr1, hv, atD_nil]
        exact fin _ _ _ (by ((try simp only []); repeat first | exact HLe.refl _ | refine HLe.cons (by simp only [hget, Nat.reduceEqDiff, Nat.left_eq_add, Nat.add_eq_left, nm_ne2, nm_en2, nm_ne3, nm_en3, nm_ne4, nm_en4, nm_ne5, nm_en5, reduceIte, ↓reduceIte] <;> first | rfl | ((repeat rw [if_neg (by omega)]) <;> rfl)) ?_ | refine HLe.skip hnm (by omega) ?_ | refine HLe.frz hnm (by omega) ?_ | refine HLe.del hnm (by omega) ?_)) rfl
      · simp (maxSteps := 4000000) only [icPointPlays, go_sem, goD_calls, eq_self, implies_true, Int.reduceEq, Int.reduceBEq, Int.reduceBNe, Int.reduceLE, Int.reduceLT, Int.reduceAdd, Int.reduceSub, Int.reduceMul, Int.reduceNeg, Nat.reduceMul, Nat.reduceSub, Nat.reduceLeDiff, Nat.reduceLT, Nat.reduceEqDiff, Nat.reduceAdd, reduceCtorEq, ↓reduceIte, reduceIte, spFirst15, spPNew, spRNewP, spSame, fA, fe_End, fa_End, fe_Sum, fa_Sum, fe_Shape, fa_Shape, fe_Many, fa_Many, fe_Range, fa_Range, fe_Kind, fa_Kind, fe_None, fa_None, fe_There, fa_There, fe_Full, fa_Full, fe_Crash, fa_Crash, fe_State, fa_State, fe_Conflict, fa_Conflict, fe_Waits, fa_Waits, fe_Limit, fa_Limit, fe_Fenced, fa_Fenced, fe_Word, fa_Word, fe_Number, fa_Number, fe_nil, c1, c2, hr1, hv, atD_nil]
        exact fin _ _ _ (by ((try simp only []); repeat first | exact HLe.refl _ | refine HLe.cons (by simp only [hget, Nat.reduceEqDiff, Nat.left_eq_add, Nat.add_eq_left, nm_ne2, nm_en2, nm_ne3, nm_en3, nm_ne4, nm_en4, nm_ne5, nm_en5, reduceIte, ↓reduceIte] <;> first | rfl | ((repeat rw [if_neg (by omega)]) <;> rfl)) ?_ | refine HLe.skip hnm (by omega) ?_ | refine HLe.frz hnm (by omega) ?_ | refine HLe.del hnm (by omega) ?_)) rfl
      · simp (maxSteps := 4000000) only [icPointPlays, go_sem, goD_calls, eq_self, implies_true, Int.reduceEq, Int.reduceBEq, Int.reduceBNe, Int.reduceLE, Int.reduceLT, Int.reduceAdd, Int.reduceSub, Int.reduceMul, Int.reduceNeg, Nat.reduceMul, Nat.reduceSub, Nat.reduceLeDiff, Nat.reduceLT, Nat.reduceEqDiff, Nat.reduceAdd, reduceCtorEq, ↓reduceIte, reduceIte, spFirst15, spPNew, spRNewP, spSame, fA, fe_End, fa_End, fe_Sum, fa_Sum, fe_Shape, fa_Shape, fe_Many, fa_Many, fe_Range, fa_Range, fe_Kind, fa_Kind, fe_None, fa_None, fe_There, fa_There, fe_Full, fa_Full, fe_Crash, fa_Crash, fe_State, fa_State, fe_Conflict, fa_Conflict, fe_Waits, fa_Waits, fe_Limit, fa_Limit, fe_Fenced, fa_Fenced, fe_Word, fa_Word, fe_Number, fa_Number, fe_nil, c1, c2, hr1, hv, atD_nil]
        exact fin _ _ _ (by ((try simp only []); repeat first | exact HLe.refl _ | refine HLe.cons (by simp only [hget, Nat.reduceEqDiff, Nat.left_eq_add, Nat.add_eq_left, nm_ne2, nm_en2, nm_ne3, nm_en3, nm_ne4, nm_en4, nm_ne5, nm_en5, reduceIte, ↓reduceIte] <;> first | rfl | ((repeat rw [if_neg (by omega)]) <;> rfl)) ?_ | refine HLe.skip hnm (by omega) ?_ | refine HLe.frz hnm (by omega) ?_ | refine HLe.del hnm (by omega) ?_)) rfl
    have hvn : (validD l).isNil = true := by rw [hv]; rfl
    have hlo := valid_lo hvn
    have hgd : goodS' l := ⟨hlo, valid_rise hvn, valid_len hvn⟩
    simp (maxSteps := 4000000) only [icPointPlays, go_sem, goD_calls, eq_self, implies_true, Int.reduceEq, Int.reduceBEq, Int.reduceBNe, Int.reduceLE, Int.reduceLT, Int.reduceAdd, Int.reduceSub, Int.reduceMul, Int.reduceNeg, Nat.reduceMul, Nat.reduceSub, Nat.reduceLeDiff, Nat.reduceLT, Nat.reduceEqDiff, Nat.reduceAdd, reduceCtorEq, ↓reduceIte, reduceIte, spFirst15, spPNew, spRNewP, spSame, fA, fe_nil, c1, c2, hr1, hv]
    refine go_loop (α := { x : Nat × List D × List Int × Nat // x.1 ≤ v.length ∧ x.2.1.length ≤ x.1 ∧ (x.2.2.1.length : Int) = G ∧ isCnt (x.2.1.map snt) (x.2.2.1.map D.int) x.2.2.2 ∧ grOk (x.2.1.map snt) (x.2.2.1.map D.int) ∧ risS a (x.2.1.map snt) ∧ lastR a x.2.1 ≤ 1099511627776 }) (I := fun x => { f := [(14, .int .i64 x.1.1), (3, .dat (.slice 77) (.list v)), (2, .dat (.slice 41) (.list l)), (10, .ptr nx 0), (12, .ptr (nx + 3) 0)], h := (nx, ptS l (nx + 1) (lastR a x.1.2.1) (nx + 2) a ((x.1.2.1).map snt) x.1.2.2.2) :: (nx + 1, .arr 112 sentT ((x.1.2.1).map snt)) :: (nx + 2, .arr 2 (.int .i64) ((x.1.2.2.1).map D.int)) :: (nx + 3, rpC G a l (nx + 4) (nx + 5)) :: (nx + 4, .arr 34 redT (x.1.2.1)) :: (nx + 5, .arr 2 (.int .i64) ((x.1.2.2.1).map D.int)) :: h, nx := nx + 6 }) (μ := fun x => v.length - x.1.1) _ _ _ ⟨(0, [], List.replicate G.toNat 0, 0), Nat.zero_le _, Nat.le_refl _, by rw [List.length_replicate]; omega, ⟨Nat.zero_le _, fun j hj => absurd hj (Nat.not_lt_zero j), .inl rfl⟩, fun i hi => absurd hi (Nat.not_lt_zero i), ⟨fun i hi => absurd hi (Nat.not_lt_zero i), fun i j _ hj => absurd hj (Nat.not_lt_zero j)⟩, hr.2.2⟩ ?_ (fun x S hS => ?_)
    · refine leq_news [(nx, nx + 64), (nx + 1, nx + 64 + 1), (nx + 2, nx + 64 + 2), (nx + 3, nx + 64 + 64), (nx + 4, nx + 64 + 64 + 1), (nx + 5, nx + 64 + 64 + 2)] [(nx, ptS l (nx + 1) (a) (nx + 2) a ((([] : List D)).map snt) 0), (nx + 1, .arr 112 sentT ((([] : List D)).map snt)), (nx + 2, .arr 2 (.int .i64) ((List.replicate G.toNat 0).map D.int)), (nx + 3, rpC G a l (nx + 4) (nx + 5)), (nx + 4, .arr 34 redT (([] : List D))), (nx + 5, .arr 2 (.int .i64) ((List.replicate G.toNat 0).map D.int))] (.refl _) (by simp) (by simp <;> omega) (by simp <;> omega) rfl ?_ ?_ ?_ ?_ hnm ?_ (by omega)
      · simp [frIn_cons, frIn_nil, fget_cons, fget_nil, SV.ren, SV.renL, rens]
      · (simp only [frLt_cons, frLt_nil, and_true, SV.lt, SV.ltL, true_and] <;> omega)
      · simp only [ptS, ptC_def, rpC_def]
        (simp only [List.mem_cons, List.not_mem_nil, or_false, forall_eq_or_imp, forall_eq]; simp [hget, rens, Tok.ren, SV.ren, SV.renL])
        simp [vcA, vdA, zeros]
        all_goals try omega
      · simp only [ptS, ptC_def, rpC_def]
        (simp only [List.mem_cons, List.not_mem_nil, or_false, forall_eq_or_imp, forall_eq, Tok.lt, SV.lt, SV.ltL, and_true, true_and] <;> omega)
      · ((try simp only []); repeat first | exact HLe.refl _ | refine HLe.cons (by simp only [hget, Nat.reduceEqDiff, Nat.left_eq_add, Nat.add_eq_left, nm_ne2, nm_en2, nm_ne3, nm_en3, nm_ne4, nm_en4, nm_ne5, nm_en5, reduceIte, ↓reduceIte] <;> first | rfl | ((repeat rw [if_neg (by omega)]) <;> rfl)) ?_ | refine HLe.skip hnm (by omega) ?_ | refine HLe.frz hnm (by omega) ?_ | refine HLe.del hnm (by omega) ?_)
    obtain ⟨⟨i, L, F, c⟩, hi, hL, hFG, hc, hgr, hris, hla⟩ := x
    simp only at hi hL hFG hc hgr hris hla hS ⊢
    by_cases hil : i < v.length
    rotate_left
    · obtain rfl : i = v.length := by omega
      have c5 : decide ((v.length : Int) < (v.length : Int)) = false := decide_eq_false (by omega)
      simp (maxSteps := 4000000) only [go_sem, goD_calls, eq_self, implies_true, Int.reduceEq, Int.reduceBEq, Int.reduceBNe, Int.reduceLE, Int.reduceLT, Int.reduceAdd, Int.reduceSub, Int.reduceMul, Int.reduceNeg, Nat.reduceMul, Nat.reduceSub, Nat.reduceLeDiff, Nat.reduceLT, Nat.reduceEqDiff, Nat.reduceAdd, reduceCtorEq, ↓reduceIte, reduceIte, c5]
      exact fin _ _ _ (by ((try simp only []); repeat first | exact HLe.refl _ | refine HLe.cons (by simp only [hget, Nat.reduceEqDiff, Nat.left_eq_add, Nat.add_eq_left, nm_ne2, nm_en2, nm_ne3, nm_en3, nm_ne4, nm_en4, nm_ne5, nm_en5, reduceIte, ↓reduceIte] <;> first | rfl | ((repeat rw [if_neg (by omega)]) <;> rfl)) ?_ | refine HLe.skip hnm (by omega) ?_ | refine HLe.frz hnm (by omega) ?_ | refine HLe.del hnm (by omega) ?_)) rfl
    have c5 : decide ((i : Int) < (v.length : Int)) = true := decide_eq_true (by omega)
    obtain ⟨w, hw⟩ : ∃ w, v.getD i .nil = w := ⟨_, rfl⟩
    obtain ⟨kd, hkd⟩ : ∃ x, (w.fld 0).i = x := ⟨_, rfl⟩
    obtain ⟨A, hA⟩ : ∃ x, (w.fld 1).i = x := ⟨_, rfl⟩
    obtain ⟨N, hN⟩ : ∃ x, (w.fld 2).i = x := ⟨_, rfl⟩
    obtain ⟨r, hrw⟩ : ∃ x, w.fld 3 = x := ⟨_, rfl⟩
    obtain ⟨r0, h0⟩ : ∃ x, (r.fld 0).i = x := ⟨_, rfl⟩
    obtain ⟨r1, h1⟩ : ∃ x, (r.fld 1).i = x := ⟨_, rfl⟩
    obtain ⟨r2, h2⟩ : ∃ x, (r.fld 2).i = x := ⟨_, rfl⟩
    obtain ⟨g, h3⟩ : ∃ x, (r.fld 3).i = x := ⟨_, rfl⟩
    obtain ⟨r4, h4⟩ : ∃ x, (r.fld 4).i = x := ⟨_, rfl⟩
    obtain ⟨r5, h5⟩ : ∃ x, (r.fld 5).i = x := ⟨_, rfl⟩
    obtain ⟨r6, h6⟩ : ∃ x, (r.fld 6).i = x := ⟨_, rfl⟩
    obtain ⟨dk, h7⟩ : ∃ x, r.fld 7 = x := ⟨_, rfl⟩
    obtain ⟨dv, h8⟩ : ∃ x, r.fld 8 = x := ⟨_, rfl⟩
    obtain ⟨lb, h9⟩ : ∃ x, (r.fld 9).b = x := ⟨_, rfl⟩
    obtain ⟨wb, hwb⟩ : ∃ x, (decide (dk.l.length ≤ 100) && decide (dv.l.length ≤ 150)) = x := ⟨_, rfl⟩
    cases wb with
    | false =>
      simp (maxSteps := 4000000) only [go_sem, goD_calls, eq_self, implies_true, Int.reduceEq, Int.reduceBEq, Int.reduceBNe, Int.reduceLE, Int.reduceLT, Int.reduceAdd, Int.reduceSub, Int.reduceMul, Int.reduceNeg, Nat.reduceMul, Nat.reduceSub, Nat.reduceLeDiff, Nat.reduceLT, Nat.reduceEqDiff, Nat.reduceAdd, reduceCtorEq, ↓reduceIte, reduceIte, spWRedo, c5, hw, hkd, hA, hN, hrw, h0, h1, h2, h3, h4, h5, h6, h7, h8, h9, hwb, Int.toNat_natCast]
      refine ⟨⟨by omega, by omega⟩, fin _ _ _ (by ((try simp only []); repeat first | exact HLe.refl _ | refine HLe.cons (by simp only [hget, Nat.reduceEqDiff, Nat.left_eq_add, Nat.add_eq_left, nm_ne2, nm_en2, nm_ne3, nm_en3, nm_ne4, nm_en4, nm_ne5, nm_en5, reduceIte, ↓reduceIte] <;> first | rfl | ((repeat rw [if_neg (by omega)]) <;> rfl)) ?_ | refine HLe.skip hnm (by omega) ?_ | refine HLe.frz hnm (by omega) ?_ | refine HLe.del hnm (by omega) ?_)) rfl⟩
    | true =>
    obtain ⟨g7, g8⟩ : dk.l.length ≤ 1000 ∧ dv.l.length ≤ 1000 := by
      rw [Bool.and_eq_true, decide_eq_true_eq, decide_eq_true_eq] at hwb
      omega
    by_cases hk3 : kd = 3
    · have k3 : (kd == 3) = true := beq_iff_eq.2 hk3
      simp (maxSteps := 4000000) only [go_sem, goD_calls, eq_self, implies_true, Int.reduceEq, Int.reduceBEq, Int.reduceBNe, Int.reduceLE, Int.reduceLT, Int.reduceAdd, Int.reduceSub, Int.reduceMul, Int.reduceNeg, Nat.reduceMul, Nat.reduceSub, Nat.reduceLeDiff, Nat.reduceLT, Nat.reduceEqDiff, Nat.reduceAdd, reduceCtorEq, ↓reduceIte, reduceIte, spWRedo, ptS, ptC_def, rpC_def, c5, hw, hkd, hA, hN, hrw, h0, h1, h2, h3, h4, h5, h6, h7, h8, h9, hwb, k3, Int.toNat_natCast]
      refine ⟨⟨by omega, by omega⟩, rfl, rfl, rfl, rfl, ?_⟩
      by_cases hcd : 0 ≤ A ∧ A < F.length ∧ F.getD A.toNat 0 ≤ N
      · obtain ⟨m, hm⟩ := cnt_ex (L.map snt) ((bump F A N).map D.int)
        have hgr2 := gr_bump (g := A) (n := N) hgr
        have hris2 := hris
        have hla2 := hla
        have hmL : m ≤ L.length := by have := hm.1; rwa [List.length_map] at this
        have hsb := setI_bump hcd.2.2
        refine safe_yes (sp := l) (a := lastR a L) (s := a) (c := c) (m := m) (by omega) (by omega) (by omega) hc hm (by rw [List.length_map]; omega) hgr ⟨hcd.1, hcd.2.1⟩ hcd.2.2 ?_
        simp (maxSteps := 4000000) only [go_sem, goD_calls, eq_self, implies_true, Int.reduceEq, Int.reduceBEq, Int.reduceBNe, Int.reduceLE, Int.reduceLT, Int.reduceAdd, Int.reduceSub, Int.reduceMul, Int.reduceNeg, Nat.reduceMul, Nat.reduceSub, Nat.reduceLeDiff, Nat.reduceLT, Nat.reduceEqDiff, Nat.reduceAdd, reduceCtorEq, ↓reduceIte, reduceIte, ptS, ptC_def]
        refine ⟨G, a, l, nx + 4, nx + 5, F.map D.int, by simp [hget, rpC_def], by simp [hget], by rw [List.length_map]; omega, fun hno => absurd (by rw [List.length_map, getD_ints]; exact hcd) hno, fun _ => ?_⟩
        have hlen2 : (L).length ≤ 60 := by omega
        have hcF : cntF ((L).map snt) ((bump F A N).map D.int) = m := cntF_eq hm
        have eL : ((((L).length - m : Nat)) : Int) = ((L).length : Int) - (m : Int) := by have := hm.1; rw [List.length_map] at this; omega
        have z1 : ∀ x : Int, (x != x) = false := fun x => by rw [bne_eq_false_iff_eq]
        simp (maxSteps := 4000000) only [go_sem, goD_calls, eq_self, implies_true, Int.reduceEq, Int.reduceBEq, Int.reduceBNe, Int.reduceLE, Int.reduceLT, Int.reduceAdd, Int.reduceSub, Int.reduceMul, Int.reduceNeg, Nat.reduceMul, Nat.reduceSub, Nat.reduceLeDiff, Nat.reduceLT, Nat.reduceEqDiff, Nat.reduceAdd, reduceCtorEq, ↓reduceIte, reduceIte, hsb, spPVCL, spRVCL, spPVDL, spRVDL, spPLeft, spRLeft, spPLastO, spRLastOf, ptS, ptC_def, rpC_def, pOk_c, sOk_c, iOk_c, pS_c, pU_c, pA_c, pV_c, pK_c, aL_c, pC_c, pD_c, qOk_c, rrOk_c, qG_c, qS_c, qP_c, qU_c, qV_c, hcF, eL, z1, hgr2, hris2, hlen2, List.length_map, min_i64, max_i64]
        repeat refine ⟨by first | omega | rfl, ?_⟩
        refine hS _ ⟨(i + 1, L, bump F A N, m), by simp only []; omega, by simp only []; omega, by simp only []; rw [bump_len]; exact hFG, hm, hgr2, hris2, hla2⟩ (by simp only []; omega) ?_
        refine leq_news [(nx, nx), (nx + 1, nx + 1), (nx + 2, nx + 2), (nx + 3, nx + 3), (nx + 4, nx + 4), (nx + 5, nx + 5)] [(nx, ptS l (nx + 1) (lastR a L) (nx + 2) a ((L).map snt) m), (nx + 1, .arr 112 sentT ((L).map snt)), (nx + 2, .arr 2 (.int .i64) ((bump F A N).map D.int)), (nx + 3, rpC G a l (nx + 4) (nx + 5)), (nx + 4, .arr 34 redT (L)), (nx + 5, .arr 2 (.int .i64) ((bump F A N).map D.int))] (.refl _) (by simp) (by simp <;> omega) (by simp <;> omega) rfl ?_ ?_ ?_ ?_ hnm ?_ (by first | omega | (simp only [] <;> omega))
        · simp [frIn_cons, frIn_nil, fget_cons, fget_nil, SV.ren, SV.renL, rens]
        · (simp only [frLt_cons, frLt_nil, and_true, SV.lt, SV.ltL, true_and] <;> omega)
        · simp only [ptS, ptC_def, rpC_def]
          (simp only [List.mem_cons, List.not_mem_nil, or_false, forall_eq_or_imp, forall_eq]; simp [hget, rens, Tok.ren, SV.ren, SV.renL])
          all_goals try (repeat rw [if_neg (by omega)])
          all_goals try omega
          all_goals try (refine ⟨?_, ?_⟩ <;> omega)
        · simp only [ptS, ptC_def, rpC_def]
          (simp only [List.mem_cons, List.not_mem_nil, or_false, forall_eq_or_imp, forall_eq, Tok.lt, SV.lt, SV.ltL, and_true, true_and] <;> omega)
        · ((try simp only []); repeat first | exact HLe.refl _ | refine HLe.cons (by simp only [hget, Nat.reduceEqDiff, Nat.left_eq_add, Nat.add_eq_left, nm_ne2, nm_en2, nm_ne3, nm_en3, nm_ne4, nm_en4, nm_ne5, nm_en5, reduceIte, ↓reduceIte] <;> first | rfl | ((repeat rw [if_neg (by omega)]) <;> rfl)) ?_ | refine HLe.skip hnm (by omega) ?_ | refine HLe.frz hnm (by omega) ?_ | refine HLe.del hnm (by omega) ?_)
      · have hm := hc
        have hgr2 := hgr
        have hris2 := hris
        have hla2 := hla
        have hmL : c ≤ L.length := by have := hm.1; rwa [List.length_map] at this
        refine safe_no (sp := l) (u := nx + 1) (a := lastR a L) (v := nx + 2) (k := (c : Int)) (c := vcA a (L.map snt) c) (d := vdA a (L.map snt) c) (l := L.map snt) (sf := F.map D.int) (by simp [hget, ptC_def]) (by simp [hget]) (by simp [hget]) ⟨by omega, by rw [List.length_map]; omega⟩ (by rw [List.length_map]; omega) hgr (by rw [List.length_map, getD_ints]; exact hcd) ?_
        simp (maxSteps := 4000000) only [go_sem, goD_calls, eq_self, implies_true, Int.reduceEq, Int.reduceBEq, Int.reduceBNe, Int.reduceLE, Int.reduceLT, Int.reduceAdd, Int.reduceSub, Int.reduceMul, Int.reduceNeg, Nat.reduceMul, Nat.reduceSub, Nat.reduceLeDiff, Nat.reduceLT, Nat.reduceEqDiff, Nat.reduceAdd, reduceCtorEq, ↓reduceIte, reduceIte]
        refine ⟨G, a, l, nx + 4, nx + 5, F.map D.int, by simp [hget, rpC_def], by simp [hget], by rw [List.length_map]; omega, fun _ => ?_, fun hy => absurd (by rw [List.length_map, getD_ints] at hy; exact hy) hcd⟩
        have hlen2 : (L).length ≤ 60 := by omega
        have hcF : cntF ((L).map snt) ((F).map D.int) = c := cntF_eq hm
        have eL : ((((L).length - c : Nat)) : Int) = ((L).length : Int) - (c : Int) := by have := hm.1; rw [List.length_map] at this; omega
        have z1 : ∀ x : Int, (x != x) = false := fun x => by rw [bne_eq_false_iff_eq]
        simp (maxSteps := 4000000) only [go_sem, goD_calls, eq_self, implies_true, Int.reduceEq, Int.reduceBEq, Int.reduceBNe, Int.reduceLE, Int.reduceLT, Int.reduceAdd, Int.reduceSub, Int.reduceMul, Int.reduceNeg, Nat.reduceMul, Nat.reduceSub, Nat.reduceLeDiff, Nat.reduceLT, Nat.reduceEqDiff, Nat.reduceAdd, reduceCtorEq, ↓reduceIte, reduceIte, hFG, spPVCL, spRVCL, spPVDL, spRVDL, spPLeft, spRLeft, spPLastO, spRLastOf, ptS, ptC_def, rpC_def, pOk_c, sOk_c, iOk_c, pS_c, pU_c, pA_c, pV_c, pK_c, aL_c, pC_c, pD_c, qOk_c, rrOk_c, qG_c, qS_c, qP_c, qU_c, qV_c, hcF, eL, z1, hgr2, hris2, hlen2, List.length_map, min_i64, max_i64]
        repeat refine ⟨by first | omega | rfl, ?_⟩
        refine hS _ ⟨(i + 1, L, F, c), by simp only []; omega, by simp only []; omega, hFG, hm, hgr2, hris2, hla2⟩ (by simp only []; omega) ?_
        refine leq_news [(nx, nx), (nx + 1, nx + 1), (nx + 2, nx + 2), (nx + 3, nx + 3), (nx + 4, nx + 4), (nx + 5, nx + 5)] [(nx, ptS l (nx + 1) (lastR a L) (nx + 2) a ((L).map snt) c), (nx + 1, .arr 112 sentT ((L).map snt)), (nx + 2, .arr 2 (.int .i64) ((F).map D.int)), (nx + 3, rpC G a l (nx + 4) (nx + 5)), (nx + 4, .arr 34 redT (L)), (nx + 5, .arr 2 (.int .i64) ((F).map D.int))] (.refl _) (by simp) (by simp <;> omega) (by simp <;> omega) rfl ?_ ?_ ?_ ?_ hnm ?_ (by first | omega | (simp only [] <;> omega))
        · simp [frIn_cons, frIn_nil, fget_cons, fget_nil, SV.ren, SV.renL, rens]
        · (simp only [frLt_cons, frLt_nil, and_true, SV.lt, SV.ltL, true_and] <;> omega)
        · simp only [ptS, ptC_def, rpC_def]
          (simp only [List.mem_cons, List.not_mem_nil, or_false, forall_eq_or_imp, forall_eq]; simp [hget, rens, Tok.ren, SV.ren, SV.renL])
          all_goals try (repeat rw [if_neg (by omega)])
          all_goals try omega
          all_goals try (refine ⟨?_, ?_⟩ <;> omega)
        · simp only [ptS, ptC_def, rpC_def]
          (simp only [List.mem_cons, List.not_mem_nil, or_false, forall_eq_or_imp, forall_eq, Tok.lt, SV.lt, SV.ltL, and_true, true_and] <;> omega)
        · ((try simp only []); repeat first | exact HLe.refl _ | refine HLe.cons (by simp only [hget, Nat.reduceEqDiff, Nat.left_eq_add, Nat.add_eq_left, nm_ne2, nm_en2, nm_ne3, nm_en3, nm_ne4, nm_en4, nm_ne5, nm_en5, reduceIte, ↓reduceIte] <;> first | rfl | ((repeat rw [if_neg (by omega)]) <;> rfl)) ?_ | refine HLe.skip hnm (by omega) ?_ | refine HLe.frz hnm (by omega) ?_ | refine HLe.del hnm (by omega) ?_)
    have k3 : (kd == 3) = false := beq_eq_false_iff_ne.2 hk3
    by_cases hk2 : kd = 2
    rotate_left
    · have k2 : (kd == 2) = false := beq_eq_false_iff_ne.2 hk2
      have hcL : c ≤ L.length := by have := hc.1; rwa [List.length_map] at this
      simp (maxSteps := 4000000) only [go_sem, goD_calls, eq_self, implies_true, Int.reduceEq, Int.reduceBEq, Int.reduceBNe, Int.reduceLE, Int.reduceLT, Int.reduceAdd, Int.reduceSub, Int.reduceMul, Int.reduceNeg, Nat.reduceMul, Nat.reduceSub, Nat.reduceLeDiff, Nat.reduceLT, Nat.reduceEqDiff, Nat.reduceAdd, reduceCtorEq, ↓reduceIte, reduceIte, spWRedo, spRRedo, redA_def, ptS, ptC_def, rpC_def, c5, hw, hkd, hA, hN, hrw, h0, h1, h2, h3, h4, h5, h6, h7, h8, h9, hwb, k3, k2, g7, g8, Int.toNat_natCast]
      refine ⟨⟨by omega, by omega⟩, ?_⟩
      by_cases hrg : 0 ≤ g ∧ g < (F.length : Int) ∧ 1 ≤ r0 ∧ r0 ≤ 1099511627776
      rotate_left
      · have hm := hc
        have hgr2 := hgr
        have hris2 := hris
        have hla2 := hla
        have hmL : c ≤ L.length := by have := hm.1; rwa [List.length_map] at this
        refine sent_range (sp := l) (u := nx + 1) (a := lastR a L) (v := nx + 2) (k := (c : Int)) (c := vcA a (L.map snt) c) (d := vdA a (L.map snt) c) (l := L.map snt) (sf := F.map D.int) (by simp [hget, ptC_def]) (by simp [hget]) (by simp [hget]) ⟨by omega, by rw [List.length_map]; omega⟩ (by rw [List.length_map]; omega) hgr (loT_low hlo) hla ⟨rfl, rfl⟩ (by rw [List.length_map]; exact hrg) ?_
        simp (maxSteps := 4000000) only [go_sem, goD_calls, eq_self, implies_true, Int.reduceEq, Int.reduceBEq, Int.reduceBNe, Int.reduceLE, Int.reduceLT, Int.reduceAdd, Int.reduceSub, Int.reduceMul, Int.reduceNeg, Nat.reduceMul, Nat.reduceSub, Nat.reduceLeDiff, Nat.reduceLT, Nat.reduceEqDiff, Nat.reduceAdd, reduceCtorEq, ↓reduceIte, reduceIte]
        refine ⟨G, a, l, nx + 4, nx + 5, L, by simp [hget, rpC_def], by simp [hget], rfl, rfl, g7, g8, by omega, hgd, hla, fun _ => ?_, fun hy => absurd hy (by rw [← hFG]; exact hrg), fun hy => absurd hy (by rw [← hFG]; exact hrg), fun hy => absurd hy (by rw [← hFG]; exact hrg)⟩
        simp (maxSteps := 4000000) only [go_sem, goD_calls, eq_self, implies_true, Int.reduceEq, Int.reduceBEq, Int.reduceBNe, Int.reduceLE, Int.reduceLT, Int.reduceAdd, Int.reduceSub, Int.reduceMul, Int.reduceNeg, Nat.reduceMul, Nat.reduceSub, Nat.reduceLeDiff, Nat.reduceLT, Nat.reduceEqDiff, Nat.reduceAdd, reduceCtorEq, ↓reduceIte, reduceIte, spIs, fe_End, fa_End, fe_Sum, fa_Sum, fe_Shape, fa_Shape, fe_Many, fa_Many, fe_Range, fa_Range, fe_Kind, fa_Kind, fe_None, fa_None, fe_There, fa_There, fe_Full, fa_Full, fe_Crash, fa_Crash, fe_State, fa_State, fe_Conflict, fa_Conflict, fe_Waits, fa_Waits, fe_Limit, fa_Limit, fe_Fenced, fa_Fenced, fe_Word, fa_Word, fe_Number, fa_Number, fe_nil]
        have hlen2 : (L).length ≤ 60 := by omega
        have hcF : cntF ((L).map snt) ((F).map D.int) = c := cntF_eq hm
        have eL : ((((L).length - c : Nat)) : Int) = ((L).length : Int) - (c : Int) := by have := hm.1; rw [List.length_map] at this; omega
        have z1 : ∀ x : Int, (x != x) = false := fun x => by rw [bne_eq_false_iff_eq]
        simp (maxSteps := 4000000) only [go_sem, goD_calls, eq_self, implies_true, Int.reduceEq, Int.reduceBEq, Int.reduceBNe, Int.reduceLE, Int.reduceLT, Int.reduceAdd, Int.reduceSub, Int.reduceMul, Int.reduceNeg, Nat.reduceMul, Nat.reduceSub, Nat.reduceLeDiff, Nat.reduceLT, Nat.reduceEqDiff, Nat.reduceAdd, reduceCtorEq, ↓reduceIte, reduceIte, c5, hw, hkd, hA, hN, hrw, h0, h1, h2, h3, h4, h5, h6, h7, h8, h9, hwb, spPVCL, spRVCL, spPVDL, spRVDL, spPLeft, spRLeft, spPLastO, spRLastOf, ptS, ptC_def, rpC_def, pOk_c, sOk_c, iOk_c, pS_c, pU_c, pA_c, pV_c, pK_c, aL_c, pC_c, pD_c, qOk_c, rrOk_c, qG_c, qS_c, qP_c, qU_c, qV_c, hcF, eL, z1, hgr2, hris2, hlen2, List.length_map, min_i64, max_i64]
        repeat refine ⟨by first | omega | rfl, ?_⟩
        refine hS _ ⟨(i + 1, L, F, c), by simp only []; omega, by simp only []; omega, hFG, hm, hgr2, hris2, hla2⟩ (by simp only []; omega) ?_
        refine leq_news [(nx, nx), (nx + 1, nx + 1), (nx + 2, nx + 2), (nx + 3, nx + 3), (nx + 4, nx + 4), (nx + 5, nx + 5)] [(nx, ptS l (nx + 1) (lastR a L) (nx + 2) a ((L).map snt) c), (nx + 1, .arr 112 sentT ((L).map snt)), (nx + 2, .arr 2 (.int .i64) ((F).map D.int)), (nx + 3, rpC G a l (nx + 4) (nx + 5)), (nx + 4, .arr 34 redT (L)), (nx + 5, .arr 2 (.int .i64) ((F).map D.int))] (.refl _) (by simp) (by simp <;> omega) (by simp <;> omega) rfl ?_ ?_ ?_ ?_ hnm ?_ (by first | omega | (simp only [] <;> omega))
        · simp [frIn_cons, frIn_nil, fget_cons, fget_nil, SV.ren, SV.renL, rens]
        · (simp only [frLt_cons, frLt_nil, and_true, SV.lt, SV.ltL, true_and] <;> omega)
        · simp only [ptS, ptC_def, rpC_def]
          (simp only [List.mem_cons, List.not_mem_nil, or_false, forall_eq_or_imp, forall_eq]; simp [hget, rens, Tok.ren, SV.ren, SV.renL])
          all_goals try (repeat rw [if_neg (by omega)])
          all_goals try omega
          all_goals try (refine ⟨?_, ?_⟩ <;> omega)
        · simp only [ptS, ptC_def, rpC_def]
          (simp only [List.mem_cons, List.not_mem_nil, or_false, forall_eq_or_imp, forall_eq, Tok.lt, SV.lt, SV.ltL, and_true, true_and] <;> omega)
        · ((try simp only []); repeat first | exact HLe.refl _ | refine HLe.cons (by simp only [hget, Nat.reduceEqDiff, Nat.left_eq_add, Nat.add_eq_left, nm_ne2, nm_en2, nm_ne3, nm_en3, nm_ne4, nm_en4, nm_ne5, nm_en5, reduceIte, ↓reduceIte] <;> first | rfl | ((repeat rw [if_neg (by omega)]) <;> rfl)) ?_ | refine HLe.skip hnm (by omega) ?_ | refine HLe.frz hnm (by omega) ?_ | refine HLe.del hnm (by omega) ?_)
      by_cases hsh : r0 = nextF l (lastR a L)
      rotate_left
      · have hm := hc
        have hgr2 := hgr
        have hris2 := hris
        have hla2 := hla
        have hmL : c ≤ L.length := by have := hm.1; rwa [List.length_map] at this
        refine sent_shape (sp := l) (u := nx + 1) (a := lastR a L) (v := nx + 2) (k := (c : Int)) (c := vcA a (L.map snt) c) (d := vdA a (L.map snt) c) (l := L.map snt) (sf := F.map D.int) (by simp [hget, ptC_def]) (by simp [hget]) (by simp [hget]) ⟨by omega, by rw [List.length_map]; omega⟩ (by rw [List.length_map]; omega) hgr (loT_low hlo) hla ⟨rfl, rfl⟩ (by rw [List.length_map]; exact hrg) hsh ?_
        simp (maxSteps := 4000000) only [go_sem, goD_calls, eq_self, implies_true, Int.reduceEq, Int.reduceBEq, Int.reduceBNe, Int.reduceLE, Int.reduceLT, Int.reduceAdd, Int.reduceSub, Int.reduceMul, Int.reduceNeg, Nat.reduceMul, Nat.reduceSub, Nat.reduceLeDiff, Nat.reduceLT, Nat.reduceEqDiff, Nat.reduceAdd, reduceCtorEq, ↓reduceIte, reduceIte]
        refine ⟨G, a, l, nx + 4, nx + 5, L, by simp [hget, rpC_def], by simp [hget], rfl, rfl, g7, g8, by omega, hgd, hla, fun hy => absurd (by rw [← hFG]; exact hrg) hy, fun _ _ => ?_, fun _ hy => absurd hy hsh, fun _ hy => absurd hy hsh⟩
        simp (maxSteps := 4000000) only [go_sem, goD_calls, eq_self, implies_true, Int.reduceEq, Int.reduceBEq, Int.reduceBNe, Int.reduceLE, Int.reduceLT, Int.reduceAdd, Int.reduceSub, Int.reduceMul, Int.reduceNeg, Nat.reduceMul, Nat.reduceSub, Nat.reduceLeDiff, Nat.reduceLT, Nat.reduceEqDiff, Nat.reduceAdd, reduceCtorEq, ↓reduceIte, reduceIte, spIs, fe_End, fa_End, fe_Sum, fa_Sum, fe_Shape, fa_Shape, fe_Many, fa_Many, fe_Range, fa_Range, fe_Kind, fa_Kind, fe_None, fa_None, fe_There, fa_There, fe_Full, fa_Full, fe_Crash, fa_Crash, fe_State, fa_State, fe_Conflict, fa_Conflict, fe_Waits, fa_Waits, fe_Limit, fa_Limit, fe_Fenced, fa_Fenced, fe_Word, fa_Word, fe_Number, fa_Number, fe_nil]
        have hlen2 : (L).length ≤ 60 := by omega
        have hcF : cntF ((L).map snt) ((F).map D.int) = c := cntF_eq hm
        have eL : ((((L).length - c : Nat)) : Int) = ((L).length : Int) - (c : Int) := by have := hm.1; rw [List.length_map] at this; omega
        have z1 : ∀ x : Int, (x != x) = false := fun x => by rw [bne_eq_false_iff_eq]
        simp (maxSteps := 4000000) only [go_sem, goD_calls, eq_self, implies_true, Int.reduceEq, Int.reduceBEq, Int.reduceBNe, Int.reduceLE, Int.reduceLT, Int.reduceAdd, Int.reduceSub, Int.reduceMul, Int.reduceNeg, Nat.reduceMul, Nat.reduceSub, Nat.reduceLeDiff, Nat.reduceLT, Nat.reduceEqDiff, Nat.reduceAdd, reduceCtorEq, ↓reduceIte, reduceIte, c5, hw, hkd, hA, hN, hrw, h0, h1, h2, h3, h4, h5, h6, h7, h8, h9, hwb, spPVCL, spRVCL, spPVDL, spRVDL, spPLeft, spRLeft, spPLastO, spRLastOf, ptS, ptC_def, rpC_def, pOk_c, sOk_c, iOk_c, pS_c, pU_c, pA_c, pV_c, pK_c, aL_c, pC_c, pD_c, qOk_c, rrOk_c, qG_c, qS_c, qP_c, qU_c, qV_c, hcF, eL, z1, hgr2, hris2, hlen2, List.length_map, min_i64, max_i64]
        repeat refine ⟨by first | omega | rfl, ?_⟩
        refine hS _ ⟨(i + 1, L, F, c), by simp only []; omega, by simp only []; omega, hFG, hm, hgr2, hris2, hla2⟩ (by simp only []; omega) ?_
        refine leq_news [(nx, nx), (nx + 1, nx + 1), (nx + 2, nx + 2), (nx + 3, nx + 3), (nx + 4, nx + 4), (nx + 5, nx + 5)] [(nx, ptS l (nx + 1) (lastR a L) (nx + 2) a ((L).map snt) c), (nx + 1, .arr 112 sentT ((L).map snt)), (nx + 2, .arr 2 (.int .i64) ((F).map D.int)), (nx + 3, rpC G a l (nx + 4) (nx + 5)), (nx + 4, .arr 34 redT (L)), (nx + 5, .arr 2 (.int .i64) ((F).map D.int))] (.refl _) (by simp) (by simp <;> omega) (by simp <;> omega) rfl ?_ ?_ ?_ ?_ hnm ?_ (by first | omega | (simp only [] <;> omega))
        · simp [frIn_cons, frIn_nil, fget_cons, fget_nil, SV.ren, SV.renL, rens]
        · (simp only [frLt_cons, frLt_nil, and_true, SV.lt, SV.ltL, true_and] <;> omega)
        · simp only [ptS, ptC_def, rpC_def]
          (simp only [List.mem_cons, List.not_mem_nil, or_false, forall_eq_or_imp, forall_eq]; simp [hget, rens, Tok.ren, SV.ren, SV.renL])
          all_goals try (repeat rw [if_neg (by omega)])
          all_goals try omega
          all_goals try (refine ⟨?_, ?_⟩ <;> omega)
        · simp only [ptS, ptC_def, rpC_def]
          (simp only [List.mem_cons, List.not_mem_nil, or_false, forall_eq_or_imp, forall_eq, Tok.lt, SV.lt, SV.ltL, and_true, true_and] <;> omega)
        · ((try simp only []); repeat first | exact HLe.refl _ | refine HLe.cons (by simp only [hget, Nat.reduceEqDiff, Nat.left_eq_add, Nat.add_eq_left, nm_ne2, nm_en2, nm_ne3, nm_en3, nm_ne4, nm_en4, nm_ne5, nm_en5, reduceIte, ↓reduceIte] <;> first | rfl | ((repeat rw [if_neg (by omega)]) <;> rfl)) ?_ | refine HLe.skip hnm (by omega) ?_ | refine HLe.frz hnm (by omega) ?_ | refine HLe.del hnm (by omega) ?_)
      have hap : (L ++ [redD (r0) r1 r2 g r4 r5 r6 dk.l dv.l lb]).map snt = L.map snt ++ [sent3 (r0) g lb] := by rw [List.map_append]; rfl
      obtain ⟨L2, hL2⟩ : ∃ x, L ++ [redD (r0) r1 r2 g r4 r5 r6 dk.l dv.l lb] = x := ⟨_, rfl⟩
      obtain ⟨m, hm⟩ := cnt_ex (L.map snt ++ [sent3 (r0) g lb]) (F.map D.int)
      have hgr2 := gr_app (b := lb) (n := r0) hgr ⟨hrg.1, by rw [List.length_map]; exact hrg.2.1⟩
      have hris2 := ris_app (d := redD (r0) r1 r2 g r4 r5 r6 dk.l dv.l lb) hris (lastR_min hris) (by show lastR a L < (r0); rw [hsh]; exact (nextF_is _ _).1)
      have hla2 : lastR a L2 = (r0) := by rw [← hL2]; exact lastR_app a L _
      refine sent_of (sp := l) (u := nx + 1) (a := lastR a L) (v := nx + 2) (k := (c : Int)) (c := vcA a (L.map snt) c) (d := vdA a (L.map snt) c) (l := L.map snt) (sf := F.map D.int) (by simp [hget, ptC_def]) (by simp [hget]) (by simp [hget]) ⟨by omega, by rw [List.length_map]; omega⟩ (by rw [List.length_map]; omega) hgr (loT_low hlo) hla ⟨rfl, rfl⟩ (by rw [List.length_map]; exact hrg) hsh (sent_look hc hm) ?_
      simp (maxSteps := 4000000) only [go_sem, goD_calls, eq_self, implies_true, Int.reduceEq, Int.reduceBEq, Int.reduceBNe, Int.reduceLE, Int.reduceLT, Int.reduceAdd, Int.reduceSub, Int.reduceMul, Int.reduceNeg, Nat.reduceMul, Nat.reduceSub, Nat.reduceLeDiff, Nat.reduceLT, Nat.reduceEqDiff, Nat.reduceAdd, reduceCtorEq, ↓reduceIte, reduceIte]
      refine ⟨G, a, l, nx + 4, nx + 5, L, by simp [hget, rpC_def], by simp [hget], rfl, rfl, g7, g8, by omega, hgd, hla, fun hy => absurd (by rw [← hFG]; exact hrg) hy, fun _ hy => absurd hsh hy, fun _ _ hy => absurd hy (by omega), fun _ _ _ => ?_⟩
      rw [← hap] at hm hgr2
      simp (maxSteps := 4000000) only [go_sem, goD_calls, eq_self, implies_true, Int.reduceEq, Int.reduceBEq, Int.reduceBNe, Int.reduceLE, Int.reduceLT, Int.reduceAdd, Int.reduceSub, Int.reduceMul, Int.reduceNeg, Nat.reduceMul, Nat.reduceSub, Nat.reduceLeDiff, Nat.reduceLT, Nat.reduceEqDiff, Nat.reduceAdd, reduceCtorEq, ↓reduceIte, reduceIte, spIs, fe_End, fa_End, fe_Sum, fa_Sum, fe_Shape, fa_Shape, fe_Many, fa_Many, fe_Range, fa_Range, fe_Kind, fa_Kind, fe_None, fa_None, fe_There, fa_There, fe_Full, fa_Full, fe_Crash, fa_Crash, fe_State, fa_State, fe_Conflict, fa_Conflict, fe_Waits, fa_Waits, fe_Limit, fa_Limit, fe_Fenced, fa_Fenced, fe_Word, fa_Word, fe_Number, fa_Number, fe_nil, ← hap, hL2]
      rw [hL2] at hm hgr2 hris2
      have hmL : m ≤ L2.length := by have := hm.1; rwa [List.length_map] at this
      have hL2l : L2.length = L.length + 1 := by rw [← hL2, List.length_append, List.length_singleton]
      have hlen2 : (L2).length ≤ 60 := by omega
      have hcF : cntF ((L2).map snt) ((F).map D.int) = m := cntF_eq hm
      have eL : ((((L2).length - m : Nat)) : Int) = ((L2).length : Int) - (m : Int) := by have := hm.1; rw [List.length_map] at this; omega
      have z1 : ∀ x : Int, (x != x) = false := fun x => by rw [bne_eq_false_iff_eq]
      simp (maxSteps := 4000000) only [go_sem, goD_calls, eq_self, implies_true, Int.reduceEq, Int.reduceBEq, Int.reduceBNe, Int.reduceLE, Int.reduceLT, Int.reduceAdd, Int.reduceSub, Int.reduceMul, Int.reduceNeg, Nat.reduceMul, Nat.reduceSub, Nat.reduceLeDiff, Nat.reduceLT, Nat.reduceEqDiff, Nat.reduceAdd, reduceCtorEq, ↓reduceIte, reduceIte, c5, hw, hkd, hA, hN, hrw, h0, h1, h2, h3, h4, h5, h6, h7, h8, h9, hwb, spPVCL, spRVCL, spPVDL, spRVDL, spPLeft, spRLeft, spPLastO, spRLastOf, ptS, ptC_def, rpC_def, pOk_c, sOk_c, iOk_c, pS_c, pU_c, pA_c, pV_c, pK_c, aL_c, pC_c, pD_c, qOk_c, rrOk_c, qG_c, qS_c, qP_c, qU_c, qV_c, hcF, eL, z1, hgr2, hris2, hlen2, List.length_map, min_i64, max_i64]
      repeat refine ⟨by first | omega | rfl, ?_⟩
      refine hS _ ⟨(i + 1, L2, F, m), by simp only []; omega, by simp only []; omega, hFG, hm, hgr2, hris2, by rw [hla2]; exact hrg.2.2.2⟩ (by simp only []; omega) ?_
      refine leq_news [(nx, nx), (nx + 1, nx + 6 + 1 + 64 + 64 + 1), (nx + 2, nx + 2), (nx + 3, nx + 3), (nx + 4, nx + 6 + 1 + 64 + 64 + 1 + 64), (nx + 5, nx + 5)] [(nx, ptS l (nx + 1) (lastR a L2) (nx + 2) a ((L2).map snt) m), (nx + 1, .arr 112 sentT ((L2).map snt)), (nx + 2, .arr 2 (.int .i64) ((F).map D.int)), (nx + 3, rpC G a l (nx + 4) (nx + 5)), (nx + 4, .arr 34 redT (L2)), (nx + 5, .arr 2 (.int .i64) ((F).map D.int))] (.refl _) (by simp) (by simp <;> omega) (by simp <;> omega) rfl ?_ ?_ ?_ ?_ hnm ?_ (by first | omega | (simp only [] <;> omega))
      · simp [frIn_cons, frIn_nil, fget_cons, fget_nil, SV.ren, SV.renL, rens]
      · (simp only [frLt_cons, frLt_nil, and_true, SV.lt, SV.ltL, true_and] <;> omega)
      · simp only [ptS, ptC_def, rpC_def, hla2]
        (simp only [List.mem_cons, List.not_mem_nil, or_false, forall_eq_or_imp, forall_eq]; simp [hget, rens, Tok.ren, SV.ren, SV.renL])
        all_goals try (repeat rw [if_neg (by omega)])
        all_goals try omega
        all_goals try (refine ⟨?_, ?_⟩ <;> omega)
      · simp only [ptS, ptC_def, rpC_def]
        (simp only [List.mem_cons, List.not_mem_nil, or_false, forall_eq_or_imp, forall_eq, Tok.lt, SV.lt, SV.ltL, and_true, true_and] <;> omega)
      · ((try simp only []); repeat first | exact HLe.refl _ | refine HLe.cons (by simp only [hget, Nat.reduceEqDiff, Nat.left_eq_add, Nat.add_eq_left, nm_ne2, nm_en2, nm_ne3, nm_en3, nm_ne4, nm_en4, nm_ne5, nm_en5, reduceIte, ↓reduceIte] <;> first | rfl | ((repeat rw [if_neg (by omega)]) <;> rfl)) ?_ | refine HLe.skip hnm (by omega) ?_ | refine HLe.frz hnm (by omega) ?_ | refine HLe.del hnm (by omega) ?_)
    have k2 : (kd == 2) = true := beq_iff_eq.2 hk2
    have hcL : c ≤ L.length := by have := hc.1; rwa [List.length_map] at this
    have g1 : lastR a L ≤ 9223372036854775806 := by omega
    have hlow := loT_low hlo
    have hgd1 := hgd.2.1
    have hgd2 := hgd.2.2
    obtain ⟨n, hn⟩ : ∃ n, nextF l (lastR a L) = n := ⟨_, rfl⟩
    by_cases hL0 : L.length = 0
    · have d1 : decide ((0 : Int) < (L.length : Int)) = false := decide_eq_false (by omega)
      have hl0 : lastR a L = a := by unfold lastR; rw [if_pos hL0]
      have hn0 : nextF l a = n := by rw [← hl0]; exact hn
      have g0 : a ≤ 9223372036854775806 := by omega
      simp (maxSteps := 4000000) only [go_sem, goD_calls, eq_self, implies_true, Int.reduceEq, Int.reduceBEq, Int.reduceBNe, Int.reduceLE, Int.reduceLT, Int.reduceAdd, Int.reduceSub, Int.reduceMul, Int.reduceNeg, Nat.reduceMul, Nat.reduceSub, Nat.reduceLeDiff, Nat.reduceLT, Nat.reduceEqDiff, Nat.reduceAdd, reduceCtorEq, ↓reduceIte, reduceIte, spWRedo, spRRedo, spRNext, redA_def, ptS, ptC_def, rpC_def, c5, hw, hkd, hA, hN, hrw, h0, h1, h2, h3, h4, h5, h6, h7, h8, h9, hwb, k3, k2, g7, g8, d1, g0, hlow, hgd1, hgd2, hn0, Int.toNat_natCast]
      refine ⟨⟨by omega, by omega⟩, ?_⟩
      by_cases hrg : 0 ≤ g ∧ g < (F.length : Int) ∧ 1 ≤ n ∧ n ≤ 1099511627776
      rotate_left
      · have hm := hc
        have hgr2 := hgr
        have hris2 := hris
        have hla2 := hla
        have hmL : c ≤ L.length := by have := hm.1; rwa [List.length_map] at this
        refine sent_range (sp := l) (u := nx + 1) (a := lastR a L) (v := nx + 2) (k := (c : Int)) (c := vcA a (L.map snt) c) (d := vdA a (L.map snt) c) (l := L.map snt) (sf := F.map D.int) (by simp [hget, ptC_def]) (by simp [hget]) (by simp [hget]) ⟨by omega, by rw [List.length_map]; omega⟩ (by rw [List.length_map]; omega) hgr (loT_low hlo) hla ⟨rfl, rfl⟩ (by rw [List.length_map]; exact hrg) ?_
        simp (maxSteps := 4000000) only [go_sem, goD_calls, eq_self, implies_true, Int.reduceEq, Int.reduceBEq, Int.reduceBNe, Int.reduceLE, Int.reduceLT, Int.reduceAdd, Int.reduceSub, Int.reduceMul, Int.reduceNeg, Nat.reduceMul, Nat.reduceSub, Nat.reduceLeDiff, Nat.reduceLT, Nat.reduceEqDiff, Nat.reduceAdd, reduceCtorEq, ↓reduceIte, reduceIte]
        refine ⟨G, a, l, nx + 4, nx + 5, L, by simp [hget, rpC_def], by simp [hget], rfl, rfl, g7, g8, by omega, hgd, hla, fun _ => ?_, fun hy => absurd hy (by rw [← hFG]; exact hrg), fun hy => absurd hy (by rw [← hFG]; exact hrg), fun hy => absurd hy (by rw [← hFG]; exact hrg)⟩
        simp (maxSteps := 4000000) only [go_sem, goD_calls, eq_self, implies_true, Int.reduceEq, Int.reduceBEq, Int.reduceBNe, Int.reduceLE, Int.reduceLT, Int.reduceAdd, Int.reduceSub, Int.reduceMul, Int.reduceNeg, Nat.reduceMul, Nat.reduceSub, Nat.reduceLeDiff, Nat.reduceLT, Nat.reduceEqDiff, Nat.reduceAdd, reduceCtorEq, ↓reduceIte, reduceIte, spIs, fe_End, fa_End, fe_Sum, fa_Sum, fe_Shape, fa_Shape, fe_Many, fa_Many, fe_Range, fa_Range, fe_Kind, fa_Kind, fe_None, fa_None, fe_There, fa_There, fe_Full, fa_Full, fe_Crash, fa_Crash, fe_State, fa_State, fe_Conflict, fa_Conflict, fe_Waits, fa_Waits, fe_Limit, fa_Limit, fe_Fenced, fa_Fenced, fe_Word, fa_Word, fe_Number, fa_Number, fe_nil]
        have hlen2 : (L).length ≤ 60 := by omega
        have hcF : cntF ((L).map snt) ((F).map D.int) = c := cntF_eq hm
        have eL : ((((L).length - c : Nat)) : Int) = ((L).length : Int) - (c : Int) := by have := hm.1; rw [List.length_map] at this; omega
        have z1 : ∀ x : Int, (x != x) = false := fun x => by rw [bne_eq_false_iff_eq]
        simp (maxSteps := 4000000) only [go_sem, goD_calls, eq_self, implies_true, Int.reduceEq, Int.reduceBEq, Int.reduceBNe, Int.reduceLE, Int.reduceLT, Int.reduceAdd, Int.reduceSub, Int.reduceMul, Int.reduceNeg, Nat.reduceMul, Nat.reduceSub, Nat.reduceLeDiff, Nat.reduceLT, Nat.reduceEqDiff, Nat.reduceAdd, reduceCtorEq, ↓reduceIte, reduceIte, c5, hw, hkd, hA, hN, hrw, h0, h1, h2, h3, h4, h5, h6, h7, h8, h9, hwb, spPVCL, spRVCL, spPVDL, spRVDL, spPLeft, spRLeft, spPLastO, spRLastOf, ptS, ptC_def, rpC_def, pOk_c, sOk_c, iOk_c, pS_c, pU_c, pA_c, pV_c, pK_c, aL_c, pC_c, pD_c, qOk_c, rrOk_c, qG_c, qS_c, qP_c, qU_c, qV_c, hcF, eL, z1, hgr2, hris2, hlen2, List.length_map, min_i64, max_i64]
        repeat refine ⟨by first | omega | rfl, ?_⟩
        refine hS _ ⟨(i + 1, L, F, c), by simp only []; omega, by simp only []; omega, hFG, hm, hgr2, hris2, hla2⟩ (by simp only []; omega) ?_
        refine leq_news [(nx, nx), (nx + 1, nx + 1), (nx + 2, nx + 2), (nx + 3, nx + 3), (nx + 4, nx + 4), (nx + 5, nx + 5)] [(nx, ptS l (nx + 1) (lastR a L) (nx + 2) a ((L).map snt) c), (nx + 1, .arr 112 sentT ((L).map snt)), (nx + 2, .arr 2 (.int .i64) ((F).map D.int)), (nx + 3, rpC G a l (nx + 4) (nx + 5)), (nx + 4, .arr 34 redT (L)), (nx + 5, .arr 2 (.int .i64) ((F).map D.int))] (.refl _) (by simp) (by simp <;> omega) (by simp <;> omega) rfl ?_ ?_ ?_ ?_ hnm ?_ (by first | omega | (simp only [] <;> omega))
        · simp [frIn_cons, frIn_nil, fget_cons, fget_nil, SV.ren, SV.renL, rens]
        · (simp only [frLt_cons, frLt_nil, and_true, SV.lt, SV.ltL, true_and] <;> omega)
        · simp only [ptS, ptC_def, rpC_def]
          (simp only [List.mem_cons, List.not_mem_nil, or_false, forall_eq_or_imp, forall_eq]; simp [hget, rens, Tok.ren, SV.ren, SV.renL])
          all_goals try (repeat rw [if_neg (by omega)])
          all_goals try omega
          all_goals try (refine ⟨?_, ?_⟩ <;> omega)
        · simp only [ptS, ptC_def, rpC_def]
          (simp only [List.mem_cons, List.not_mem_nil, or_false, forall_eq_or_imp, forall_eq, Tok.lt, SV.lt, SV.ltL, and_true, true_and] <;> omega)
        · ((try simp only []); repeat first | exact HLe.refl _ | refine HLe.cons (by simp only [hget, Nat.reduceEqDiff, Nat.left_eq_add, Nat.add_eq_left, nm_ne2, nm_en2, nm_ne3, nm_en3, nm_ne4, nm_en4, nm_ne5, nm_en5, reduceIte, ↓reduceIte] <;> first | rfl | ((repeat rw [if_neg (by omega)]) <;> rfl)) ?_ | refine HLe.skip hnm (by omega) ?_ | refine HLe.frz hnm (by omega) ?_ | refine HLe.del hnm (by omega) ?_)
      have hsh : n = nextF l (lastR a L) := hn.symm
      have hap : (L ++ [redD (n) r1 r2 g r4 r5 r6 dk.l dv.l lb]).map snt = L.map snt ++ [sent3 (n) g lb] := by rw [List.map_append]; rfl
      obtain ⟨L2, hL2⟩ : ∃ x, L ++ [redD (n) r1 r2 g r4 r5 r6 dk.l dv.l lb] = x := ⟨_, rfl⟩
      obtain ⟨m, hm⟩ := cnt_ex (L.map snt ++ [sent3 (n) g lb]) (F.map D.int)
      have hgr2 := gr_app (b := lb) (n := n) hgr ⟨hrg.1, by rw [List.length_map]; exact hrg.2.1⟩
      have hris2 := ris_app (d := redD (n) r1 r2 g r4 r5 r6 dk.l dv.l lb) hris (lastR_min hris) (by show lastR a L < (n); rw [hsh]; exact (nextF_is _ _).1)
      have hla2 : lastR a L2 = (n) := by rw [← hL2]; exact lastR_app a L _
      refine sent_of (sp := l) (u := nx + 1) (a := lastR a L) (v := nx + 2) (k := (c : Int)) (c := vcA a (L.map snt) c) (d := vdA a (L.map snt) c) (l := L.map snt) (sf := F.map D.int) (by simp [hget, ptC_def]) (by simp [hget]) (by simp [hget]) ⟨by omega, by rw [List.length_map]; omega⟩ (by rw [List.length_map]; omega) hgr (loT_low hlo) hla ⟨rfl, rfl⟩ (by rw [List.length_map]; exact hrg) hsh (sent_look hc hm) ?_
      simp (maxSteps := 4000000) only [go_sem, goD_calls, eq_self, implies_true, Int.reduceEq, Int.reduceBEq, Int.reduceBNe, Int.reduceLE, Int.reduceLT, Int.reduceAdd, Int.reduceSub, Int.reduceMul, Int.reduceNeg, Nat.reduceMul, Nat.reduceSub, Nat.reduceLeDiff, Nat.reduceLT, Nat.reduceEqDiff, Nat.reduceAdd, reduceCtorEq, ↓reduceIte, reduceIte]
      refine ⟨G, a, l, nx + 4, nx + 5, L, by simp [hget, rpC_def], by simp [hget], rfl, rfl, g7, g8, by omega, hgd, hla, fun hy => absurd (by rw [← hFG]; exact hrg) hy, fun _ hy => absurd hsh hy, fun _ _ hy => absurd hy (by omega), fun _ _ _ => ?_⟩
      rw [← hap] at hm hgr2
      simp (maxSteps := 4000000) only [go_sem, goD_calls, eq_self, implies_true, Int.reduceEq, Int.reduceBEq, Int.reduceBNe, Int.reduceLE, Int.reduceLT, Int.reduceAdd, Int.reduceSub, Int.reduceMul, Int.reduceNeg, Nat.reduceMul, Nat.reduceSub, Nat.reduceLeDiff, Nat.reduceLT, Nat.reduceEqDiff, Nat.reduceAdd, reduceCtorEq, ↓reduceIte, reduceIte, spIs, fe_End, fa_End, fe_Sum, fa_Sum, fe_Shape, fa_Shape, fe_Many, fa_Many, fe_Range, fa_Range, fe_Kind, fa_Kind, fe_None, fa_None, fe_There, fa_There, fe_Full, fa_Full, fe_Crash, fa_Crash, fe_State, fa_State, fe_Conflict, fa_Conflict, fe_Waits, fa_Waits, fe_Limit, fa_Limit, fe_Fenced, fa_Fenced, fe_Word, fa_Word, fe_Number, fa_Number, fe_nil, ← hap, hL2]
      rw [hL2] at hm hgr2 hris2
      have hmL : m ≤ L2.length := by have := hm.1; rwa [List.length_map] at this
      have hL2l : L2.length = L.length + 1 := by rw [← hL2, List.length_append, List.length_singleton]
      have hlen2 : (L2).length ≤ 60 := by omega
      have hcF : cntF ((L2).map snt) ((F).map D.int) = m := cntF_eq hm
      have eL : ((((L2).length - m : Nat)) : Int) = ((L2).length : Int) - (m : Int) := by have := hm.1; rw [List.length_map] at this; omega
      have z1 : ∀ x : Int, (x != x) = false := fun x => by rw [bne_eq_false_iff_eq]
      simp (maxSteps := 4000000) only [go_sem, goD_calls, eq_self, implies_true, Int.reduceEq, Int.reduceBEq, Int.reduceBNe, Int.reduceLE, Int.reduceLT, Int.reduceAdd, Int.reduceSub, Int.reduceMul, Int.reduceNeg, Nat.reduceMul, Nat.reduceSub, Nat.reduceLeDiff, Nat.reduceLT, Nat.reduceEqDiff, Nat.reduceAdd, reduceCtorEq, ↓reduceIte, reduceIte, c5, hw, hkd, hA, hN, hrw, h0, h1, h2, h3, h4, h5, h6, h7, h8, h9, hwb, spPVCL, spRVCL, spPVDL, spRVDL, spPLeft, spRLeft, spPLastO, spRLastOf, ptS, ptC_def, rpC_def, pOk_c, sOk_c, iOk_c, pS_c, pU_c, pA_c, pV_c, pK_c, aL_c, pC_c, pD_c, qOk_c, rrOk_c, qG_c, qS_c, qP_c, qU_c, qV_c, hcF, eL, z1, hgr2, hris2, hlen2, List.length_map, min_i64, max_i64]
      repeat refine ⟨by first | omega | rfl, ?_⟩
      refine hS _ ⟨(i + 1, L2, F, m), by simp only []; omega, by simp only []; omega, hFG, hm, hgr2, hris2, by rw [hla2]; exact hrg.2.2.2⟩ (by simp only []; omega) ?_
      refine leq_news [(nx, nx), (nx + 1, nx + 6 + 1 + 64 + 64 + 1 + 64), (nx + 2, nx + 2), (nx + 3, nx + 3), (nx + 4, nx + 6 + 1 + 64 + 64 + 1 + 64 + 64), (nx + 5, nx + 5)] [(nx, ptS l (nx + 1) (lastR a L2) (nx + 2) a ((L2).map snt) m), (nx + 1, .arr 112 sentT ((L2).map snt)), (nx + 2, .arr 2 (.int .i64) ((F).map D.int)), (nx + 3, rpC G a l (nx + 4) (nx + 5)), (nx + 4, .arr 34 redT (L2)), (nx + 5, .arr 2 (.int .i64) ((F).map D.int))] (.refl _) (by simp) (by simp <;> omega) (by simp <;> omega) rfl ?_ ?_ ?_ ?_ hnm ?_ (by first | omega | (simp only [] <;> omega))
      · simp [frIn_cons, frIn_nil, fget_cons, fget_nil, SV.ren, SV.renL, rens]
      · (simp only [frLt_cons, frLt_nil, and_true, SV.lt, SV.ltL, true_and] <;> omega)
      · simp only [ptS, ptC_def, rpC_def, hla2]
        (simp only [List.mem_cons, List.not_mem_nil, or_false, forall_eq_or_imp, forall_eq]; simp [hget, rens, Tok.ren, SV.ren, SV.renL])
        all_goals try (repeat rw [if_neg (by omega)])
        all_goals try omega
        all_goals try (refine ⟨?_, ?_⟩ <;> omega)
      · simp only [ptS, ptC_def, rpC_def]
        (simp only [List.mem_cons, List.not_mem_nil, or_false, forall_eq_or_imp, forall_eq, Tok.lt, SV.lt, SV.ltL, and_true, true_and] <;> omega)
      · ((try simp only []); repeat first | exact HLe.refl _ | refine HLe.cons (by simp only [hget, Nat.reduceEqDiff, Nat.left_eq_add, Nat.add_eq_left, nm_ne2, nm_en2, nm_ne3, nm_en3, nm_ne4, nm_en4, nm_ne5, nm_en5, reduceIte, ↓reduceIte] <;> first | rfl | ((repeat rw [if_neg (by omega)]) <;> rfl)) ?_ | refine HLe.skip hnm (by omega) ?_ | refine HLe.frz hnm (by omega) ?_ | refine HLe.del hnm (by omega) ?_)
    · have d1 : decide ((0 : Int) < (L.length : Int)) = true := decide_eq_true (by omega)
      have ei : ((L.length : Int) - 1).toNat = L.length - 1 := by omega
      have hl0 : ((L.getD (L.length - 1) .nil).fld 0).i = lastR a L := by unfold lastR; rw [if_neg hL0]
      simp (maxSteps := 4000000) only [go_sem, goD_calls, eq_self, implies_true, Int.reduceEq, Int.reduceBEq, Int.reduceBNe, Int.reduceLE, Int.reduceLT, Int.reduceAdd, Int.reduceSub, Int.reduceMul, Int.reduceNeg, Nat.reduceMul, Nat.reduceSub, Nat.reduceLeDiff, Nat.reduceLT, Nat.reduceEqDiff, Nat.reduceAdd, reduceCtorEq, ↓reduceIte, reduceIte, spWRedo, spRRedo, spRNext, redA_def, ptS, ptC_def, rpC_def, c5, hw, hkd, hA, hN, hrw, h0, h1, h2, h3, h4, h5, h6, h7, h8, h9, hwb, k3, k2, g7, g8, d1, ei, hl0, g1, hlow, hgd1, hgd2, hn, Int.toNat_natCast, min_i64, max_i64]
      repeat refine ⟨by first | omega | rfl, ?_⟩
      by_cases hrg : 0 ≤ g ∧ g < (F.length : Int) ∧ 1 ≤ n ∧ n ≤ 1099511627776
      rotate_left
      · have hm := hc
        have hgr2 := hgr
        have hris2 := hris
        have hla2 := hla
        have hmL : c ≤ L.length := by have := hm.1; rwa [List.length_map] at this
        refine sent_range (sp := l) (u := nx + 1) (a := lastR a L) (v := nx + 2) (k := (c : Int)) (c := vcA a (L.map snt) c) (d := vdA a (L.map snt) c) (l := L.map snt) (sf := F.map D.int) (by simp [hget, ptC_def]) (by simp [hget]) (by simp [hget]) ⟨by omega, by rw [List.length_map]; omega⟩ (by rw [List.length_map]; omega) hgr (loT_low hlo) hla ⟨rfl, rfl⟩ (by rw [List.length_map]; exact hrg) ?_
        simp (maxSteps := 4000000) only [go_sem, goD_calls, eq_self, implies_true, Int.reduceEq, Int.reduceBEq, Int.reduceBNe, Int.reduceLE, Int.reduceLT, Int.reduceAdd, Int.reduceSub, Int.reduceMul, Int.reduceNeg, Nat.reduceMul, Nat.reduceSub, Nat.reduceLeDiff, Nat.reduceLT, Nat.reduceEqDiff, Nat.reduceAdd, reduceCtorEq, ↓reduceIte, reduceIte]
        refine ⟨G, a, l, nx + 4, nx + 5, L, by simp [hget, rpC_def], by simp [hget], rfl, rfl, g7, g8, by omega, hgd, hla, fun _ => ?_, fun hy => absurd hy (by rw [← hFG]; exact hrg), fun hy => absurd hy (by rw [← hFG]; exact hrg), fun hy => absurd hy (by rw [← hFG]; exact hrg)⟩
        simp (maxSteps := 4000000) only [go_sem, goD_calls, eq_self, implies_true, Int.reduceEq, Int.reduceBEq, Int.reduceBNe, Int.reduceLE, Int.reduceLT, Int.reduceAdd, Int.reduceSub, Int.reduceMul, Int.reduceNeg, Nat.reduceMul, Nat.reduceSub, Nat.reduceLeDiff, Nat.reduceLT, Nat.reduceEqDiff, Nat.reduceAdd, reduceCtorEq, ↓reduceIte, reduceIte, spIs, fe_End, fa_End, fe_Sum, fa_Sum, fe_Shape, fa_Shape, fe_Many, fa_Many, fe_Range, fa_Range, fe_Kind, fa_Kind, fe_None, fa_None, fe_There, fa_There, fe_Full, fa_Full, fe_Crash, fa_Crash, fe_State, fa_State, fe_Conflict, fa_Conflict, fe_Waits, fa_Waits, fe_Limit, fa_Limit, fe_Fenced, fa_Fenced, fe_Word, fa_Word, fe_Number, fa_Number, fe_nil]
        have hlen2 : (L).length ≤ 60 := by omega
        have hcF : cntF ((L).map snt) ((F).map D.int) = c := cntF_eq hm
        have eL : ((((L).length - c : Nat)) : Int) = ((L).length : Int) - (c : Int) := by have := hm.1; rw [List.length_map] at this; omega
        have z1 : ∀ x : Int, (x != x) = false := fun x => by rw [bne_eq_false_iff_eq]
        simp (maxSteps := 4000000) only [go_sem, goD_calls, eq_self, implies_true, Int.reduceEq, Int.reduceBEq, Int.reduceBNe, Int.reduceLE, Int.reduceLT, Int.reduceAdd, Int.reduceSub, Int.reduceMul, Int.reduceNeg, Nat.reduceMul, Nat.reduceSub, Nat.reduceLeDiff, Nat.reduceLT, Nat.reduceEqDiff, Nat.reduceAdd, reduceCtorEq, ↓reduceIte, reduceIte, c5, hw, hkd, hA, hN, hrw, h0, h1, h2, h3, h4, h5, h6, h7, h8, h9, hwb, spPVCL, spRVCL, spPVDL, spRVDL, spPLeft, spRLeft, spPLastO, spRLastOf, ptS, ptC_def, rpC_def, pOk_c, sOk_c, iOk_c, pS_c, pU_c, pA_c, pV_c, pK_c, aL_c, pC_c, pD_c, qOk_c, rrOk_c, qG_c, qS_c, qP_c, qU_c, qV_c, hcF, eL, z1, hgr2, hris2, hlen2, List.length_map, min_i64, max_i64]
        repeat refine ⟨by first | omega | rfl, ?_⟩
        refine hS _ ⟨(i + 1, L, F, c), by simp only []; omega, by simp only []; omega, hFG, hm, hgr2, hris2, hla2⟩ (by simp only []; omega) ?_
        refine leq_news [(nx, nx), (nx + 1, nx + 1), (nx + 2, nx + 2), (nx + 3, nx + 3), (nx + 4, nx + 4), (nx + 5, nx + 5)] [(nx, ptS l (nx + 1) (lastR a L) (nx + 2) a ((L).map snt) c), (nx + 1, .arr 112 sentT ((L).map snt)), (nx + 2, .arr 2 (.int .i64) ((F).map D.int)), (nx + 3, rpC G a l (nx + 4) (nx + 5)), (nx + 4, .arr 34 redT (L)), (nx + 5, .arr 2 (.int .i64) ((F).map D.int))] (.refl _) (by simp) (by simp <;> omega) (by simp <;> omega) rfl ?_ ?_ ?_ ?_ hnm ?_ (by first | omega | (simp only [] <;> omega))
        · simp [frIn_cons, frIn_nil, fget_cons, fget_nil, SV.ren, SV.renL, rens]
        · (simp only [frLt_cons, frLt_nil, and_true, SV.lt, SV.ltL, true_and] <;> omega)
        · simp only [ptS, ptC_def, rpC_def]
          (simp only [List.mem_cons, List.not_mem_nil, or_false, forall_eq_or_imp, forall_eq]; simp [hget, rens, Tok.ren, SV.ren, SV.renL])
          all_goals try (repeat rw [if_neg (by omega)])
          all_goals try omega
          all_goals try (refine ⟨?_, ?_⟩ <;> omega)
        · simp only [ptS, ptC_def, rpC_def]
          (simp only [List.mem_cons, List.not_mem_nil, or_false, forall_eq_or_imp, forall_eq, Tok.lt, SV.lt, SV.ltL, and_true, true_and] <;> omega)
        · ((try simp only []); repeat first | exact HLe.refl _ | refine HLe.cons (by simp only [hget, Nat.reduceEqDiff, Nat.left_eq_add, Nat.add_eq_left, nm_ne2, nm_en2, nm_ne3, nm_en3, nm_ne4, nm_en4, nm_ne5, nm_en5, reduceIte, ↓reduceIte] <;> first | rfl | ((repeat rw [if_neg (by omega)]) <;> rfl)) ?_ | refine HLe.skip hnm (by omega) ?_ | refine HLe.frz hnm (by omega) ?_ | refine HLe.del hnm (by omega) ?_)
      have hsh : n = nextF l (lastR a L) := hn.symm
      have hap : (L ++ [redD (n) r1 r2 g r4 r5 r6 dk.l dv.l lb]).map snt = L.map snt ++ [sent3 (n) g lb] := by rw [List.map_append]; rfl
      obtain ⟨L2, hL2⟩ : ∃ x, L ++ [redD (n) r1 r2 g r4 r5 r6 dk.l dv.l lb] = x := ⟨_, rfl⟩
      obtain ⟨m, hm⟩ := cnt_ex (L.map snt ++ [sent3 (n) g lb]) (F.map D.int)
      have hgr2 := gr_app (b := lb) (n := n) hgr ⟨hrg.1, by rw [List.length_map]; exact hrg.2.1⟩
      have hris2 := ris_app (d := redD (n) r1 r2 g r4 r5 r6 dk.l dv.l lb) hris (lastR_min hris) (by show lastR a L < (n); rw [hsh]; exact (nextF_is _ _).1)
      have hla2 : lastR a L2 = (n) := by rw [← hL2]; exact lastR_app a L _
      refine sent_of (sp := l) (u := nx + 1) (a := lastR a L) (v := nx + 2) (k := (c : Int)) (c := vcA a (L.map snt) c) (d := vdA a (L.map snt) c) (l := L.map snt) (sf := F.map D.int) (by simp [hget, ptC_def]) (by simp [hget]) (by simp [hget]) ⟨by omega, by rw [List.length_map]; omega⟩ (by rw [List.length_map]; omega) hgr (loT_low hlo) hla ⟨rfl, rfl⟩ (by rw [List.length_map]; exact hrg) hsh (sent_look hc hm) ?_
      simp (maxSteps := 4000000) only [go_sem, goD_calls, eq_self, implies_true, Int.reduceEq, Int.reduceBEq, Int.reduceBNe, Int.reduceLE, Int.reduceLT, Int.reduceAdd, Int.reduceSub, Int.reduceMul, Int.reduceNeg, Nat.reduceMul, Nat.reduceSub, Nat.reduceLeDiff, Nat.reduceLT, Nat.reduceEqDiff, Nat.reduceAdd, reduceCtorEq, ↓reduceIte, reduceIte]
      refine ⟨G, a, l, nx + 4, nx + 5, L, by simp [hget, rpC_def], by simp [hget], rfl, rfl, g7, g8, by omega, hgd, hla, fun hy => absurd (by rw [← hFG]; exact hrg) hy, fun _ hy => absurd hsh hy, fun _ _ hy => absurd hy (by omega), fun _ _ _ => ?_⟩
      rw [← hap] at hm hgr2
      simp (maxSteps := 4000000) only [go_sem, goD_calls, eq_self, implies_true, Int.reduceEq, Int.reduceBEq, Int.reduceBNe, Int.reduceLE, Int.reduceLT, Int.reduceAdd, Int.reduceSub, Int.reduceMul, Int.reduceNeg, Nat.reduceMul, Nat.reduceSub, Nat.reduceLeDiff, Nat.reduceLT, Nat.reduceEqDiff, Nat.reduceAdd, reduceCtorEq, ↓reduceIte, reduceIte, spIs, fe_End, fa_End, fe_Sum, fa_Sum, fe_Shape, fa_Shape, fe_Many, fa_Many, fe_Range, fa_Range, fe_Kind, fa_Kind, fe_None, fa_None, fe_There, fa_There, fe_Full, fa_Full, fe_Crash, fa_Crash, fe_State, fa_State, fe_Conflict, fa_Conflict, fe_Waits, fa_Waits, fe_Limit, fa_Limit, fe_Fenced, fa_Fenced, fe_Word, fa_Word, fe_Number, fa_Number, fe_nil, ← hap, hL2]
      rw [hL2] at hm hgr2 hris2
      have hmL : m ≤ L2.length := by have := hm.1; rwa [List.length_map] at this
      have hL2l : L2.length = L.length + 1 := by rw [← hL2, List.length_append, List.length_singleton]
      have hlen2 : (L2).length ≤ 60 := by omega
      have hcF : cntF ((L2).map snt) ((F).map D.int) = m := cntF_eq hm
      have eL : ((((L2).length - m : Nat)) : Int) = ((L2).length : Int) - (m : Int) := by have := hm.1; rw [List.length_map] at this; omega
      have z1 : ∀ x : Int, (x != x) = false := fun x => by rw [bne_eq_false_iff_eq]
      simp (maxSteps := 4000000) only [go_sem, goD_calls, eq_self, implies_true, Int.reduceEq, Int.reduceBEq, Int.reduceBNe, Int.reduceLE, Int.reduceLT, Int.reduceAdd, Int.reduceSub, Int.reduceMul, Int.reduceNeg, Nat.reduceMul, Nat.reduceSub, Nat.reduceLeDiff, Nat.reduceLT, Nat.reduceEqDiff, Nat.reduceAdd, reduceCtorEq, ↓reduceIte, reduceIte, c5, hw, hkd, hA, hN, hrw, h0, h1, h2, h3, h4, h5, h6, h7, h8, h9, hwb, spPVCL, spRVCL, spPVDL, spRVDL, spPLeft, spRLeft, spPLastO, spRLastOf, ptS, ptC_def, rpC_def, pOk_c, sOk_c, iOk_c, pS_c, pU_c, pA_c, pV_c, pK_c, aL_c, pC_c, pD_c, qOk_c, rrOk_c, qG_c, qS_c, qP_c, qU_c, qV_c, hcF, eL, z1, hgr2, hris2, hlen2, List.length_map, min_i64, max_i64]
      repeat refine ⟨by first | omega | rfl, ?_⟩
      refine hS _ ⟨(i + 1, L2, F, m), by simp only []; omega, by simp only []; omega, hFG, hm, hgr2, hris2, by rw [hla2]; exact hrg.2.2.2⟩ (by simp only []; omega) ?_
      refine leq_news [(nx, nx), (nx + 1, nx + 6 + 1 + 64 + 64 + 1 + 64), (nx + 2, nx + 2), (nx + 3, nx + 3), (nx + 4, nx + 6 + 1 + 64 + 64 + 1 + 64 + 64), (nx + 5, nx + 5)] [(nx, ptS l (nx + 1) (lastR a L2) (nx + 2) a ((L2).map snt) m), (nx + 1, .arr 112 sentT ((L2).map snt)), (nx + 2, .arr 2 (.int .i64) ((F).map D.int)), (nx + 3, rpC G a l (nx + 4) (nx + 5)), (nx + 4, .arr 34 redT (L2)), (nx + 5, .arr 2 (.int .i64) ((F).map D.int))] (.refl _) (by simp) (by simp <;> omega) (by simp <;> omega) rfl ?_ ?_ ?_ ?_ hnm ?_ (by first | omega | (simp only [] <;> omega))
      · simp [frIn_cons, frIn_nil, fget_cons, fget_nil, SV.ren, SV.renL, rens]
      · (simp only [frLt_cons, frLt_nil, and_true, SV.lt, SV.ltL, true_and] <;> omega)
      · simp only [ptS, ptC_def, rpC_def, hla2]
        (simp only [List.mem_cons, List.not_mem_nil, or_false, forall_eq_or_imp, forall_eq]; simp [hget, rens, Tok.ren, SV.ren, SV.renL])
        all_goals try (repeat rw [if_neg (by omega)])
        all_goals try omega
        all_goals try (refine ⟨?_, ?_⟩ <;> omega)
      · simp only [ptS, ptC_def, rpC_def]
        (simp only [List.mem_cons, List.not_mem_nil, or_false, forall_eq_or_imp, forall_eq, Tok.lt, SV.lt, SV.ltL, and_true, true_and] <;> omega)
      · ((try simp only []); repeat first | exact HLe.refl _ | refine HLe.cons (by simp only [hget, Nat.reduceEqDiff, Nat.left_eq_add, Nat.add_eq_left, nm_ne2, nm_en2, nm_ne3, nm_en3, nm_ne4, nm_en4, nm_ne5, nm_en5, reduceIte, ↓reduceIte] <;> first | rfl | ((repeat rw [if_neg (by omega)]) <;> rfl)) ?_ | refine HLe.skip hnm (by omega) ?_ | refine HLe.frz hnm (by omega) ?_ | refine HLe.del hnm (by omega) ?_)
  · exact hsp.elim
end Go.Proofs.YtmjenjccinfbaaaDoor
