/- The frame-work, part L: the machine does what 'ev' says: stores; slices that are made. -/
import Derived.Test.YtnpjmmimlhgipaaDoorFwK
namespace Go.Fw
set_option linter.unusedVariables false
set_option linter.unusedSimpArgs false
open Go

section
variable {P : Program} {E : Nat → Value}

theorem denC_len {ρ : Nat → Value} {H : FH} : ∀ {l : List SV} {cs : List Value}, DenC P E ρ H l cs → cs.length = lenC l := by
  intro l
  induction l with
  | nil => intro cs h; cases h; rfl
  | cons x r ih =>
    intro cs h
    cases h with
    | one h h1 h' =>
      have key : lenC (x :: r) = lenC r + 1 := by cases x <;> first | rfl | (cases h; done)
      rw [key, List.length_cons, ih h']
    | arrc h h' =>
      have := repL_len h
      rw [sizeL_replicate] at this
      rw [List.length_append, ih h', this]; rfl

theorem svCells_den (hE : ∀ k, (E k).oneCell' = true) {ρ : Nat → Value} {H : FH} {x : SV} {v : Value} (h : Den P E ρ H x v) (hx : x.okc = true) : ∃ cs, v.cells = cs.toArray ∧ DenC P E ρ H (svCells x) cs := by
  by_cases h1 : x.one = true
  · have hv := den_one hE h h1
    refine ⟨[v], ?_, ?_⟩
    · cases v <;> first | rfl | (simp [Value.oneCell'] at hv)
    · have : svCells x = [x] := by cases x <;> first | rfl | (simp [SV.one] at h1)
      rw [this]; exact .one h hv .nil
  · cases h <;> first | (exact absurd rfl h1) | (simp [SV.okc] at hx; done) | skip
    rename_i hc
    exact ⟨_, rfl, hc⟩

theorem toD_all {ρ : Nat → Value} {H : FH} {t : Ty} {l : List SV} {d : D} (h : toD t l = some (d, [])) {cs : List Value} (hd : DenC P E ρ H l cs) : Rep P E H t d cs := by
  obtain ⟨c1, c2, h1, h2, h3⟩ := toD_rep h hd
  cases h3
  rw [h1, List.append_nil]; exact h2

theorem set_cells {α : Type} (l : List α) (k : Nat) (v : α) (h : k < l.length) : l.take k ++ [v] ++ l.drop (k + 1) = l.set k v := by
  rw [List.set_eq_take_append_cons_drop, if_pos h, List.append_assoc]; rfl
theorem set_mid {α : Type} {cur xs : List α} {N p sz off : Nat} (v : α) (hx : cur.take N = xs) (h : p + sz ≤ N) (ho : off < sz) (hc : N ≤ cur.length) :
    (cur.take (p + off) ++ [v] ++ cur.drop (p + off + 1)).take N = xs.take p ++ (((xs.drop p).take sz).take off ++ [v] ++ ((xs.drop p).take sz).drop (off + 1)) ++ xs.drop (p + sz) := by
  subst hx
  have hl : (((cur.take N).drop p).take sz).length = sz := by simp; omega
  rw [set_cells _ _ _ (by omega), set_cells _ _ _ (by omega), List.take_set]
  have e : cur.take N = (cur.take N).take p ++ (((cur.take N).drop p).take sz ++ (cur.take N).drop (p + sz)) := by
    rw [← List.drop_drop, List.take_append_drop, List.take_append_drop]
  have hp : ((cur.take N).take p).length = p := by simp; omega
  conv => lhs; rw [e]
  rw [List.set_append_right _ _ (by omega), hp, show p + off - p = off from by omega, List.set_append_left _ _ (by omega), List.append_assoc]

theorem store_sound (hE : ∀ k, (E k).oneCell' = true) {c : Ctx} {ρ : Nat → Value} {H : FH} {S : SSt} {a : Act} {w : World} (s : Sat P E c ρ H S a w) {tid : TypeId} (hsz : (P.info? tid).map (·.size) = some (tyOf P 8 tid).size)
    {x y : SV} {p : Prop} {h' : Heap} (h : evSt (tyOf P 8 tid) x y S.h = some (p, h')) (hp : p) {vx vy : Value} (hx : Den P E ρ H x vx) (hy : Den P E ρ H y vy) (hly : y.lt S.nx) :
    ∃ w', (Instr.storeAt tid vx vy).run P w = .ok () w' ∧ Sat P E c ρ H { f := S.f, h := h', nx := S.nx } a w' := by
  -- the store into a block of cells
  have go : ∀ (n b o : Nat) (l l' : List SV) (t : TypeId) (cs new : List Value), hget S.h n = some (.cells l) → ρ n = .pointer (some ⟨b, 0, none⟩) → w.heap[b]? = some (.cells cs.toArray t (0, 0)) → (∀ o, H b o = none) →
      vy.cells = new.toArray → new.length = (tyOf P 8 tid).size → (∀ u ∈ new, u.oneCell' = true) → o + new.length ≤ cs.length → DenC P E ρ H l' (cs.take o ++ new ++ cs.drop (o + new.length)) → SV.ltL S.nx l' →
      ∃ w', (Instr.storeAt tid (.pointer (some ⟨b, o, none⟩)) vy).run P w = .ok () w' ∧ Sat P E c ρ H { f := S.f, h := hset S.h n (.cells l'), nx := S.nx } a w' := by
    intro n b o l l' t cs new hn hρ hh hH hv hl h1 ho hd hlt
    have hr := run_storeVar (P := P) tid (v := vy) (by rw [hsz, hv, List.size_toArray, hl]) (by rw [hv]; simpa using h1) b o hh (by rw [hv]; simpa using ho)
    refine ⟨_, hr, ?_⟩
    refine s.change hn (.cells l') ?_ ⟨b, t, cs.take o ++ new ++ cs.drop (o + new.length), hρ, ?_, hd, hH⟩ hlt
    · have := kept_setRow w b (cs.toArray.toList.take o ++ vy.cells.toList ++ cs.toArray.toList.drop (o + vy.cells.size)).toArray
      rw [hρ]; exact this
    · rw [setRow_heap w b _ _ t (0, 0) hh, hv]
      simp
  unfold evSt at h
  split at h
  · -- ptr
    rename_i n off
    split at h
    · rename_i l hn
      obtain ⟨ht, hnl, htl⟩ := s.tok hn
      obtain ⟨b, t, cs, hρ, hh, hd, hH⟩ := ht
      cases hx with
      | ptr hx =>
        rw [hρ] at hx; cases hx
        split at h
        · rename_i m
          split at h
          · rename_i q r e1
            split at h
            · rename_i q' r' e2
              cases h
              obtain ⟨c1, c2, g1, g2, g3, g4⟩ := takeC_den _ hd e1
              obtain ⟨c3, c4, g5, g6, g7, g8⟩ := takeC_den _ g4 e2
              have hl1 := takeC_lt _ htl e1
              have hl2 := takeC_lt _ hl1.2 e2
              cases hy with
              | agg hm =>
                rename_i new
                have hlen := denC_len hm
                refine go n _ off l _ t cs new hn hρ hh hH rfl (by rw [hlen, hp]) (denC_ones hE hm) (by rw [g1, g5]; simp; omega) ?_ ?_
                · have := denC_append g3 (denC_append hm g8)
                  rw [g1, g5]
                  rw [List.take_append_of_le_length (by omega), List.take_of_length_le (by omega), List.drop_append, List.drop_append, show List.drop (off + new.length) c1 = [] from by rw [List.drop_eq_nil_iff]; omega,
                    show List.drop (off + new.length - c1.length) c3 = [] from by rw [List.drop_eq_nil_iff]; omega, show off + new.length - c1.length - c3.length = 0 from by omega]
                  simpa [List.append_assoc] using this
                · have app : ∀ {a b : List SV}, SV.ltL S.nx a → SV.ltL S.nx b → SV.ltL S.nx (a ++ b) := by
                    intro a b ha hb
                    induction a with
                    | nil => exact hb
                    | cons z a ih => exact ⟨ha.1, ih ha.2⟩
                  exact app hl1.1 (app hly hl2.2)
            · cases h
          · cases h
        · rename_i y' hne
          split at h
          · rename_i l' e1
            cases h
            have hone := den_one hE hy hp.1
            obtain ⟨g1, g2⟩ := setCellAt_den hy hone hd e1
            have hc : vy.cells = #[vy] := by cases vy <;> first | rfl | (simp [Value.oneCell'] at hone)
            exact go n _ off l _ t cs [vy] hn hρ hh hH (by rw [hc]) (by rw [size_noAgg hp.2]; rfl) (by simpa using hone) (by simp; omega) (by simpa using g2) (setCellAt_lt hly htl e1)
          · cases h
    · cases h
  · -- eltv
    rename_i n i sz off
    split at h
    · rename_i eid e l hn
      split at h
      · rename_i d e1
        cases h
        obtain ⟨h0, h1, h2, h3, h4, h5⟩ := hp
        subst h3; subst h4
        obtain ⟨ht, hnl, htl⟩ := s.tok hn
        obtain ⟨he, xs, ⟨hlen, hown⟩, hr, hH⟩ := ht
        obtain ⟨new, hv, hd⟩ := svCells_den hE hy h5
        have hrep := toD_all e1 hd
        have hnl' := rep_len hrep
        cases hx with
        | eltv hx =>
          rename_i b len cap
          rcases hown with ⟨_, hn'⟩ | ⟨g, cap', cur, hv', hg0, hh, hc1, hc2, hc3, htake⟩
          · omega
          · rw [hx] at hv'; cases hv'
            have hi : i.toNat < l.length := by omega
            have hmul : i.toNat * e.size + e.size ≤ l.length * e.size := by rw [← Nat.succ_mul]; exact Nat.mul_le_mul_right _ hi
            have hmul2 : l.length * e.size ≤ cap * e.size := Nat.mul_le_mul_right _ hc1
            have hsv := run_storeVar (P := P) tid (v := vy) (by rw [hsz, hv, List.size_toArray, hnl', h2]) (by rw [hv]; simpa using rep_one hE hrep) b (i.toNat * e.size + 0) hh (by rw [hv, hc3]; simp; omega)
            refine ⟨_, hsv, ?_⟩
            refine s.change hn _ ?_ ⟨fun _ => he (by rintro rfl; simp at hi), _, ⟨?_, .inr ⟨b, cap, _, by rw [hx, List.length_set], hg0, setRow_heap w b _ _ _ (0, 0) hh, by rw [List.length_set]; exact hc1, hc2, ?_, rfl⟩⟩, ?_, ?_⟩ trivial
            · have := kept_setRow w b (cur.toList.take (i.toNat * e.size + 0) ++ vy.cells.toList ++ cur.toList.drop (i.toNat * e.size + 0 + vy.cells.size)).toArray
              rw [hx, blk_slice hg0]; exact this
            · have hcl : cur.toList.length = cap * e.size := by rw [Array.length_toList, hc3]
              rw [List.length_set, hv]
              simp only [Nat.add_zero, List.toList_toArray, List.size_toArray, List.length_take, List.length_append, List.length_drop, hcl, hnl']
              omega
            · have hcl : cur.toList.length = cap * e.size := by rw [Array.length_toList, hc3]
              rw [hv]
              simp only [Nat.add_zero, List.toList_toArray, List.size_toArray, List.length_take, List.length_append, List.length_drop, hcl, hnl']
              omega
            · have := repL_set i.toNat hi hr hrep
              rw [List.length_set]
              have hcl : cur.toList.length = cap * e.size := by rw [Array.length_toList, hc3]
              have hx' : List.take (l.length * e.size) (cur.toList.take (i.toNat * e.size + 0) ++ vy.cells.toList ++ cur.toList.drop (i.toNat * e.size + 0 + vy.cells.size)) = xs.take (i.toNat * e.size) ++ new ++ xs.drop (i.toNat * e.size + e.size) := by
                rw [hv, ← htake]
                simp only [Nat.add_zero, List.toList_toArray, List.size_toArray, hnl', List.append_assoc]
                rw [List.take_append, List.take_of_length_le (by rw [List.length_take]; omega), List.take_take, Nat.min_eq_left (by omega), List.length_take, hcl, Nat.min_eq_left (by omega)]
                congr 1
                rw [List.take_append, List.take_of_length_le (by omega)]
                congr 1
                rw [List.take_drop]
                congr 2
                omega
              rw [hx']; exact this
            · intro b hb
              exact hH b hb
      · split at h
        · rename_i m e1
          split at h
          · rename_i d e2
            cases h
            obtain ⟨h0, h1, h2, h4, h5⟩ := hp
            subst h4
            obtain ⟨ht, hnl, htl⟩ := s.tok hn
            obtain ⟨he, xs, ⟨hlen, hown⟩, hr, hH⟩ := ht
            have hone := den_one hE hy h5
            have hc : vy.cells = #[vy] := by cases vy <;> first | rfl | (simp [Value.oneCell'] at hone)
            cases hx with
            | eltv hx =>
              rename_i b len cap
              rcases hown with ⟨_, hn'⟩ | ⟨g, cap', cur, hv', hg0, hh, hc1, hc2, hc3, htake⟩
              · omega
              · rw [hx] at hv'; cases hv'
                have hi : i.toNat < l.length := by omega
                have hrep0 := repL_get hr i.toNat hi
                have hden := rep_explode (ρ := ρ) hE hrep0
                have hgt : l.getD i.toNat .nil = l[i.toNat] := by simp [hi]
                rw [hgt] at e1
                obtain ⟨g1, g2⟩ := setCellAt_den hy hone hden e1
                have hrep := toD_all e2 g2
                have hsz0 := rep_len hrep0
                have hoff : off < e.size := by omega
                have hmul : i.toNat * e.size + e.size ≤ l.length * e.size := by rw [← Nat.succ_mul]; exact Nat.mul_le_mul_right _ hi
                have hmul2 : l.length * e.size ≤ cap * e.size := Nat.mul_le_mul_right _ hc1
                have hcl : cur.toList.length = cap * e.size := by rw [Array.length_toList, hc3]
                have hsv := run_storeVar (P := P) tid (v := vy) (by rw [hsz, hc, size_noAgg h2]; rfl) (by rw [hc]; simpa using hone) b (i.toNat * e.size + off) hh (by rw [hc, hc3]; simp; omega)
                refine ⟨_, hsv, ?_⟩
                refine s.change hn _ ?_ ⟨fun _ => he (by rintro rfl; simp at hi), _, ⟨?_, .inr ⟨b, cap, _, by rw [hx, List.length_set], hg0, setRow_heap w b _ _ _ (0, 0) hh, by rw [List.length_set]; exact hc1, hc2, ?_, rfl⟩⟩, ?_, ?_⟩ trivial
                · have := kept_setRow w b (cur.toList.take (i.toNat * e.size + off) ++ vy.cells.toList ++ cur.toList.drop (i.toNat * e.size + off + vy.cells.size)).toArray
                  rw [hx, blk_slice hg0]; exact this
                · rw [List.length_set, hc]
                  simp only [List.toList_toArray, List.size_toArray, List.length_take, List.length_append, List.length_drop, hcl, List.length_cons, List.length_nil]
                  omega
                · rw [hc]
                  simp only [List.toList_toArray, List.size_toArray, List.length_take, List.length_append, List.length_drop, hcl, List.length_cons, List.length_nil]
                  omega
                · have := repL_set i.toNat hi hr hrep
                  rw [List.length_set]
                  have hx' := set_mid (cur := cur.toList) (N := l.length * e.size) (p := i.toNat * e.size) (sz := e.size) (off := off) vy htake hmul hoff (by omega)
                  rw [hc]
                  simp only [List.toList_toArray, List.size_toArray, List.length_cons, List.length_nil, Nat.zero_add]
                  rw [hx']; exact this
                · intro b hb
                  exact hH b hb
          · cases h
        · cases h
    · cases h
  · -- eltc
    rename_i n off e i
    split at h
    · rename_i l hn
      obtain ⟨ht, hnl, htl⟩ := s.tok hn
      obtain ⟨b, t, cs, hρ, hh, hd, hH⟩ := ht
      cases hx with
      | eltc hx =>
        rw [hρ] at hx; cases hx
        split at h
        · rename_i e' ds d e1 e2
          split at h
          · rename_i l' e3
            cases h
            obtain ⟨h0, h1, h2, h3, h4⟩ := hp
            subst h2
            obtain ⟨new, hv, hdn⟩ := svCells_den hE hy h4
            have hrep := toD_all e2 hdn
            have hnl' := rep_len hrep
            obtain ⟨g1, g2⟩ := setArrAt_den hd e1 hrep (by omega) e3
            exact go n _ _ l _ t cs new hn hρ hh hH hv (by rw [hnl', h3]) (rep_one hE hrep) (by omega) (by rw [hnl']; exact g2) (setArrAt_lt htl e3)
          · cases h
        · cases h
    · cases h
  · cases h
end
end Go.Fw
