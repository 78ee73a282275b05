/- Chapter 15: Sent and Safe, told of what is complete. -/
import Derived.Test.YtmjenjccinfbaaaDoorPntF
import Derived.Test.YtmjenjccinfbaaaDoorPntG
namespace Go.Proofs.YtmjenjccinfbaaaDoor
set_option linter.unusedVariables false
set_option linter.unusedSimpArgs false
open Go Go.Fw

theorem getD_ints (l : List Int) (k : Nat) : ((l.map D.int).getD k .nil).i = l.getD k 0 := by
  rw [List.getD_eq_getElem?_getD, List.getD_eq_getElem?_getD, List.getElem?_map]
  cases l[k]? <;> rfl
theorem set_ints (l : List Int) (k : Nat) (x : Int) : (l.map D.int).set k (.int x) = (l.set k x).map D.int := by rw [List.map_set]
theorem set_same (l : List Int) {k : Nat} (hk : k < l.length) : l.set k (l.getD k 0) = l := by
  rw [List.getD_eq_getElem?_getD, List.getElem?_eq_getElem hk, Option.getD_some, List.set_getElem_self]
theorem getD_set (l : List Int) (k j : Nat) (x : Int) : (l.set k x).getD j 0 = if k = j ∧ j < l.length then x else l.getD j 0 := by
  rw [List.getD_eq_getElem?_getD, List.getD_eq_getElem?_getD, List.getElem?_set]
  by_cases h1 : k = j
  · subst h1
    by_cases h2 : k < l.length
    · simp [h2]
    · simp [h2]
  · simp [h1]
theorem tdiv_in {y k lo hi : Int} (h : lo ≤ y ∧ y ≤ hi) (hlo : lo ≤ 0) (hhi : 0 ≤ hi) (hk : 1 ≤ k) : lo ≤ y.tdiv k ∧ y.tdiv k ≤ hi := by
  rcases Int.le_total 0 y with h0 | h0
  · have h1 := Int.tdiv_nonneg h0 (show (0 : Int) ≤ k by omega)
    have h2 : y.tdiv k ≤ y := by rw [Int.tdiv_eq_ediv_of_nonneg h0]; exact Int.ediv_le_self _ h0
    omega
  · have h1 := Int.tdiv_nonneg (show (0 : Int) ≤ -y by omega) (show (0 : Int) ≤ k by omega)
    have h2 : (-y).tdiv k ≤ -y := by rw [Int.tdiv_eq_ediv_of_nonneg (by omega)]; exact Int.ediv_le_self _ (by omega)
    rw [Int.neg_tdiv] at h1 h2
    omega
/-- How far a group is, once it has told. -/
def bump (F : List Int) (g n : Int) : List Int := F.set g.toNat (max (F.getD g.toNat 0) n)
theorem bump_def (F : List Int) (g n : Int) : F.set g.toNat (max (F.getD g.toNat 0) n) = bump F g n := rfl
theorem bump_len (F : List Int) (g n : Int) : (bump F g n).length = F.length := List.length_set
theorem bump_le (F : List Int) (g n : Int) (k : Nat) : F.getD k 0 ≤ (bump F g n).getD k 0 := by
  unfold bump
  rw [getD_set]
  split
  · rename_i h; rw [h.1]; omega
  · omega
theorem okS_mono {l : List D} {F F' : List Int} (h : ∀ k, F.getD k 0 ≤ F'.getD k 0) {j : Nat} (hj : okS l (F.map D.int) j) : okS l (F'.map D.int) j := by
  unfold okS at hj ⊢
  rw [getD_ints] at hj ⊢
  exact Int.le_trans hj (h _)
theorem cnt_mono {l : List D} {F F' : List Int} (h : ∀ k, F.getD k 0 ≤ F'.getD k 0) {c m : Nat} (hc : isCnt l (F.map D.int) c) (hm : isCnt l (F'.map D.int) m) : c ≤ m := by
  apply Nat.not_lt.1
  intro hlt
  rcases hm.2.2 with e | e
  · have := hc.1; omega
  · exact e (okS_mono h (hc.2.1 m hlt))
theorem okS_app {l F : List D} {x : D} {j : Nat} (hj : j < l.length) : okS (l ++ [x]) F j ↔ okS l F j := by
  unfold okS
  rw [List.getD_eq_getElem?_getD, List.getElem?_append_left hj, ← List.getD_eq_getElem?_getD]
theorem cnt_app {l F : List D} {x : D} {c m : Nat} (hc : isCnt l F c) (hm : isCnt (l ++ [x]) F m) : c ≤ m := by
  apply Nat.not_lt.1
  intro hlt
  have h1 := hc.1
  rcases hm.2.2 with e | e
  · rw [List.length_append, List.length_singleton] at e; omega
  · exact e ((okS_app (by omega)).2 (hc.2.1 m hlt))
theorem gr_app {l sf : List D} {n g : Int} {b : Bool} (hl : grOk l sf) (hg : 0 ≤ g ∧ g < sf.length) : grOk (l ++ [sent3 n g b]) sf := by
  intro i hi
  rw [List.length_append, List.length_singleton] at hi
  by_cases e : i < l.length
  · rw [List.getD_eq_getElem?_getD, List.getElem?_append_left e, ← List.getD_eq_getElem?_getD]; exact hl i e
  · obtain rfl : i = l.length := by omega
    rw [List.getD_eq_getElem?_getD, List.getElem?_append_right (Nat.le_refl _)]
    simp only [Nat.sub_self, List.getElem?_cons_zero, Option.getD_some, sent3, D.fld, D.fs, List.getD_cons_succ, List.getD_cons_zero, D.i]
    exact hg
/-- The object, of what was sent and what is safe: so many are complete. -/
def ptS (sp : List D) (u : Nat) (a : Int) (v : Nat) (s : Int) (l : List D) (c : Nat) : Tok := ptC sp u a v c (vcA s l c) (vdA s l c)
theorem ptS_lt {sp : List D} {u v N : Nat} {a s : Int} {l : List D} {c : Nat} (hu : u < N) (hv : v < N) : (ptS sp u a v s l c).lt N := ⟨trivial, hu, trivial, hv, trivial, trivial, trivial, trivial⟩
section
variable {h r : Heap} {nx p u v : Nat} {sp l : List D} {F : List Int} {s a n x1 x2 g x4 x5 x6 : Int} {c m : Nat} {x7 x8 : SV} {b : Bool} {K : SV → Heap → Prop}
theorem sent_cnt (hpu : p ≠ u) (hpv : p ≠ v) (huv : u ≠ v) (hc : isCnt l (F.map D.int) c) (hm : isCnt (l ++ [sent3 n g b]) (F.map D.int) m) (hlen : l.length < 16384) (hgr : grOk l (F.map D.int)) (hlow : lowT sp) (ha : a ≤ 1099511627776) (h7 : x7.one = true ∧ x8.one = true)
    (hg : 0 ≤ g ∧ g < F.length ∧ 1 ≤ n ∧ n ≤ 1099511627776) (hn : n = nextF sp a)
    (hK : K (.dat .iface .nil) ((nx, .arr 112 sentT (l ++ [sent3 n g b])) :: (p, ptS sp nx n v s (l ++ [sent3 n g b]) m) :: (v, .arr 2 (.int .i64) (F.map D.int)) :: hdel r u)) :
    spPSent [.ptr p 0, .agg [.int .i64 n, .int .i64 x1, .int .i64 x2, .int .i64 g, .int .i64 x4, .int .i64 x5, .int .i64 x6, x7, x8, .bool b]] ((p, ptS sp u a v s l c) :: (u, .arr 112 sentT l) :: (v, .arr 2 (.int .i64) (F.map D.int)) :: r) nx K := by
  have hl := look_cnt (s := s) hm (cnt_app hc hm)
  rw [vcA_app s l _ hc.1, vdA_app s l _ hc.1, List.length_append, List.length_singleton] at hl
  have e1 : hget ((p, ptS sp u a v s l c) :: (u, .arr 112 sentT l) :: (v, .arr 2 (.int .i64) (F.map D.int)) :: r) p = some (ptS sp u a v s l c) := by simp only [hget, ↓reduceIte]
  have e2 : hget ((p, ptS sp u a v s l c) :: (u, .arr 112 sentT l) :: (v, .arr 2 (.int .i64) (F.map D.int)) :: r) u = some (.arr 112 sentT l) := by simp only [hget, ↓reduceIte, if_neg hpu]
  have e3 : hget ((p, ptS sp u a v s l c) :: (u, .arr 112 sentT l) :: (v, .arr 2 (.int .i64) (F.map D.int)) :: r) v = some (.arr 2 (.int .i64) (F.map D.int)) := by simp only [hget, ↓reduceIte, if_neg hpv, if_neg huv]
  refine sent_of (k := (c : Int)) (c := vcA s l c) (d := vdA s l c) e1 e2 e3 ⟨by omega, by have := hc.1; omega⟩ hlen hgr hlow ha h7 (by rw [List.length_map]; exact hg) hn (x := (m, vcA s (l ++ [sent3 n g b]) m, vdA s (l ++ [sent3 n g b]) m)) (by rw [Int.toNat_natCast]; exact hl) ?_
  simp only [hdel, hset, ↓reduceIte, if_neg hpu, if_neg huv.symm]
  exact hK
theorem safe_cnt (hpu : p ≠ u) (hpv : p ≠ v) (huv : u ≠ v) (hc : isCnt l (F.map D.int) c) (hm : isCnt l ((bump F g n).map D.int) m) (hlen : l.length ≤ 1000000) (hgr : grOk l (F.map D.int)) (hg : 0 ≤ g ∧ g < F.length)
    (hK : ∀ b, K (.bool b) ((p, ptS sp u a v s l m) :: (u, .arr 112 sentT l) :: (v, .arr 2 (.int .i64) ((bump F g n).map D.int)) :: r)) :
    spPSafe [.ptr p 0, .int .i64 g, .int .i64 n] ((p, ptS sp u a v s l c) :: (u, .arr 112 sentT l) :: (v, .arr 2 (.int .i64) (F.map D.int)) :: r) nx K := by
  have e1 : hget ((p, ptS sp u a v s l c) :: (u, .arr 112 sentT l) :: (v, .arr 2 (.int .i64) (F.map D.int)) :: r) p = some (ptS sp u a v s l c) := by simp only [hget, ↓reduceIte]
  have e2 : hget ((p, ptS sp u a v s l c) :: (u, .arr 112 sentT l) :: (v, .arr 2 (.int .i64) (F.map D.int)) :: r) u = some (.arr 112 sentT l) := by simp only [hget, ↓reduceIte, if_neg hpu]
  have e3 : hget ((p, ptS sp u a v s l c) :: (u, .arr 112 sentT l) :: (v, .arr 2 (.int .i64) (F.map D.int)) :: r) v = some (.arr 2 (.int .i64) (F.map D.int)) := by simp only [hget, ↓reduceIte, if_neg hpv, if_neg huv]
  by_cases hle : F.getD g.toNat 0 ≤ n
  · have hb : bump F g n = F.set g.toNat n := by unfold bump; rw [Int.max_eq_right hle]
    have hs : setI (F.map D.int) g n = (bump F g n).map D.int := by rw [hb]; exact set_ints _ _ _
    have hl := look_cnt (s := s) hm (cnt_mono (bump_le F g n) hc hm)
    refine safe_of (k := (c : Int)) (c := vcA s l c) (d := vdA s l c) e1 e2 e3 huv.symm hpv.symm ⟨by omega, by have := hc.1; omega⟩ hlen hgr (by rw [List.length_map, getD_ints]; exact ⟨hg.1, hg.2, hle⟩) (x := (m, vcA s l m, vdA s l m)) (by rw [Int.toNat_natCast, hs]; exact hl) ?_
    rw [hs]
    simp only [hset, ↓reduceIte, if_neg hpv, if_neg huv]
    exact hK true
  · have hb : bump F g n = F := by unfold bump; rw [Int.max_eq_left (by omega), set_same F (by omega)]
    rw [hb] at hm hK
    obtain rfl := cnt_one hc hm
    refine safe_no (k := (c : Int)) (c := vcA s l c) (d := vdA s l c) e1 e2 e3 ⟨by omega, by have := hc.1; omega⟩ hlen hgr (by rw [List.length_map, getD_ints]; exact fun h => hle h.2.2) (hK false)
end
end Go.Proofs.YtmjenjccinfbaaaDoor
