/- Chapter 6: texts of sets: plain. -/
import Derived.Test.YtkmilijehekdoaaDoorQuorR
import Derived.Test.YtkmilijehekdoaaDoorStr
namespace Go.Proofs.YtkmilijehekdoaaDoor
set_option linter.unusedVariables false
set_option linter.unusedSimpArgs false
open Go Go.Fw

def s0S : ByteArray := ⟨#[47, 123]⟩
def s1S : ByteArray := ⟨#[32]⟩
def s2S : ByteArray := ⟨#[125]⟩
def opS : ByteArray := ⟨#[40]⟩
def clS : ByteArray := ⟨#[41]⟩
def anS : ByteArray := ⟨#[32, 38, 32]⟩
def orS : ByteArray := ⟨#[32, 124, 32]⟩
def noneS : ByteArray := ⟨#[110, 111, 110, 101]⟩
def txtL (l : List D) : List D := l.map fun d => D.str (itoaS d.i)
theorem txtL_len (l : List D) : (txtL l).length = l.length := List.length_map _
theorem txt_step {l : List D} {i : Nat} (hi : i < l.length) : txtL (l.take (i + 1)) = txtL (l.take i) ++ [D.str (itoaS (l.getD i .nil).i)] := by
  unfold txtL
  rw [List.take_add_one, List.getElem?_eq_getElem hi, List.map_append, List.getD_eq_getElem?_getD, List.getElem?_eq_getElem hi]
  rfl
def ofText (k : Int) (l : List D) : ByteArray := itoaS k ++ s0S ++ joinS (txtL l) s1S ++ s2S
theorem ba_ext {a b : ByteArray} (h : a.data.toList = b.data.toList) : a = b := by
  cases a; cases b
  congr 1
  exact Array.toList_inj.1 h
theorem ba_app (a b : ByteArray) : (a ++ b).data.toList = a.data.toList ++ b.data.toList := by simp
theorem joinS_one (x : D) (sep : ByteArray) : joinS [x] sep = x.s := by
  apply ba_ext
  show (Lib.join [x.s.data.toList] sep.data.toList).toArray.toList = _
  rw [Lib.join_one]
theorem joinS_step {l : List D} {x : D} {sep : ByteArray} (h : l ≠ []) : joinS (l ++ [x]) sep = joinS l sep ++ sep ++ x.s := by
  cases l with
  | nil => exact (h rfl).elim
  | cons y r =>
    apply ba_ext
    rw [ba_app, ba_app]
    unfold joinS
    simp only [List.cons_append, List.map_cons, List.map_append, List.map_nil, Lib.join_cons, Lib.joinTail, List.flatten_append, List.flatten_cons, List.flatten_nil, List.append_nil, List.append_assoc]
theorem joinS_size {l : List D} {sep : ByteArray} (h1 : sep.size = 1) (h : ∀ d ∈ l, d.s.size ≤ 2) : (joinS l sep).size ≤ 3 * l.length := by
  have e : (joinS l sep).size = (Lib.join (l.map fun d => d.s.data.toList) sep.data.toList).length := by
    show (Lib.join (l.map fun d => d.s.data.toList) sep.data.toList).toArray.size = _
    simp
  rw [e]
  have hs : ∀ r : List D, (∀ d ∈ r, d.s.size ≤ 2) → Lib.lens (r.map fun d => d.s.data.toList) ≤ 2 * r.length := by
    intro r
    induction r with
    | nil => intro _; simp [Lib.lens]
    | cons y r ih =>
      intro hr
      have h1 := hr y (List.mem_cons_self ..)
      have h2 := ih (fun d hd => hr d (List.mem_cons_of_mem _ hd))
      have e1 : y.s.data.toList.length = y.s.size := Array.length_toList
      simp only [Lib.lens, List.map_cons, List.sum_cons, List.length_cons] at h2 ⊢
      omega
  cases l with
  | nil => simp [Lib.join_nil]
  | cons y r =>
    have h2 := h y (List.mem_cons_self ..)
    have h3 := hs r (fun d hd => h d (List.mem_cons_of_mem _ hd))
    have e1 : y.s.data.toList.length = y.s.size := Array.length_toList
    have e2 : sep.data.toList.length = 1 := by rw [← h1]; exact Array.length_toList
    rw [List.map_cons, Lib.join_cons, List.length_append, Lib.joinTail_length, e2, List.length_map, List.length_cons]
    omega
def QP.txt : QP → ByteArray
  | .of k l => ofText k (l.map D.int)
  | .an a b => opS ++ a.txt ++ anS ++ b.txt ++ clS
  | .or a b => opS ++ a.txt ++ orS ++ b.txt ++ clS
def tokO (k : Int) (l : List Int) : Prop := 0 ≤ k ∧ k < 100 ∧ l.length ≤ 16 ∧ ∀ x ∈ l, 0 ≤ x ∧ x < 100
def QP.tok : QP → Prop
  | .of k l => tokO k l
  | .an a b => a.tok ∧ b.tok
  | .or a b => a.tok ∧ b.tok
theorem txtL_size {l : List D} (h : ∀ d ∈ l, 0 ≤ d.i ∧ d.i < 100) : (joinS (txtL l) s1S).size ≤ 3 * l.length := by
  rw [← txtL_len l]
  refine joinS_size rfl (fun d hd => ?_)
  obtain ⟨e, he, rfl⟩ := List.mem_map.1 hd
  exact itoaS_size (h e he).1 (h e he).2
theorem map_rng {l : List Int} (h : ∀ x ∈ l, 0 ≤ x ∧ x < 100) : ∀ d ∈ l.map D.int, 0 ≤ d.i ∧ d.i < 100 := fun d hd => by
  obtain ⟨x, hx, rfl⟩ := List.mem_map.1 hd
  exact h x hx
theorem ofText_size {k : Int} {l : List D} (h0 : 0 ≤ k) (h1 : k < 100) (hl : l.length ≤ 16) (h : ∀ d ∈ l, 0 ≤ d.i ∧ d.i < 100) : (ofText k l).size ≤ 53 := by
  have e1 := itoaS_size h0 h1
  have e2 := txtL_size h
  have e3 : s0S.size = 2 := rfl
  have e4 : s2S.size = 1 := rfl
  unfold ofText
  simp only [ByteArray.size_append]
  omega
theorem QP.txt_size : ∀ q : QP, q.tok → q.txt.size + 5 ≤ 64 * q.leaves
  | .of k l, h => by
    have := ofText_size h.1 h.2.1 (by rw [List.length_map]; exact h.2.2.1) (map_rng h.2.2.2)
    simp only [QP.txt, QP.leaves]
    omega
  | .an a b, h => by
    have h1 := a.txt_size h.1
    have h2 := b.txt_size h.2
    have e1 : opS.size = 1 := rfl
    have e2 : anS.size = 3 := rfl
    have e3 : clS.size = 1 := rfl
    simp only [QP.txt, QP.leaves, ByteArray.size_append]
    omega
  | .or a b, h => by
    have h1 := a.txt_size h.1
    have h2 := b.txt_size h.2
    have e1 : opS.size = 1 := rfl
    have e2 : orS.size = 3 := rfl
    have e3 : clS.size = 1 := rfl
    simp only [QP.txt, QP.leaves, ByteArray.size_append]
    omega
/-- What one part's text is, the ones ahead of it being known. -/
def stepT (vs : List ByteArray) (d : D) : List ByteArray :=
  vs ++ [if rK d = 1 then opS ++ vs.getD (rA d).toNat noneS ++ anS ++ vs.getD (rB d).toNat noneS ++ clS else if rK d = 2 then opS ++ vs.getD (rA d).toNat noneS ++ orS ++ vs.getD (rB d).toNat noneS ++ clS else ofText (rN d) (rL d)]
def QP.txts : QP → List ByteArray
  | .of k l => [(QP.of k l).txt]
  | .an a b => a.txts ++ b.txts ++ [(QP.an a b).txt]
  | .or a b => a.txts ++ b.txts ++ [(QP.or a b).txt]
theorem QP.txts_len : ∀ q : QP, (q.txts).length = q.parts.length
  | .of _ _ => rfl
  | .an a b => by simp only [QP.txts, QP.parts, List.length_append, List.length_map, List.length_cons, List.length_nil, a.txts_len, b.txts_len]
  | .or a b => by simp only [QP.txts, QP.parts, List.length_append, List.length_map, List.length_cons, List.length_nil, a.txts_len, b.txts_len]
theorem QP.txts_last : ∀ q : QP, (q.txts).getLast? = some (q.txt)
  | .of _ _ => rfl
  | .an a b => by simp [QP.txts]
  | .or a b => by simp [QP.txts]
theorem last_atT {l : List ByteArray} {b : ByteArray} (h : l.getLast? = some b) {pre post : List ByteArray} {n : Nat} (hn : n = pre.length + l.length - 1) : (pre ++ l ++ post).getD n noneS = b := by
  have hl : l ≠ [] := fun e => by rw [e] at h; cases h
  have hp : 0 < l.length := List.length_pos_iff.2 hl
  rw [List.getLast?_eq_getElem?] at h
  rw [List.getD_eq_getElem?_getD, List.append_assoc, List.getElem?_append_right (by omega), List.getElem?_append_left (by omega), hn]
  have e : pre.length + l.length - 1 - pre.length = l.length - 1 := by omega
  rw [e, h]
  rfl
theorem QP.evalT : ∀ (q : QP) (pre : List ByteArray), (q.parts.map (shP pre.length)).foldl (stepT) pre = pre ++ q.txts
  | .of k l, pre => by
    simp only [QP.parts, List.map_cons, List.map_nil, shP_part, List.foldl_cons, List.foldl_nil, QP.txts, QP.txt]
    unfold stepT
    have e0 : rK (rPart 0 k (0 + (pre.length : Int)) (0 + (pre.length : Int)) (l.map D.int)) = 0 := rfl
    rw [e0, if_neg (by decide), if_neg (by decide)]
    rfl
  | .an a b, pre => by
    have e : (shP (pre.length : Int) ∘ shP (a.parts.length : Int)) = shP ((pre ++ a.txts).length : Int) := funext fun d => by
      show shP _ (shP _ d) = _
      rw [shP_sh, List.length_append, a.txts_len]
      congr 1
      push_cast
      omega
    simp only [QP.parts, List.map_append, List.map_map, List.map_cons, List.map_nil, shP_part, List.foldl_append, List.foldl_cons, List.foldl_nil, QP.txts]
    rw [a.evalT pre, e, b.evalT]
    have pa := a.parts_pos
    have pb := b.parts_pos
    have va := a.txts_len
    have vb := b.txts_len
    unfold stepT
    have e0 : ∀ x y : Int, rK (rPart 1 0 x y []) = 1 := fun _ _ => rfl
    have eA : ∀ x y : Int, rA (rPart 1 0 x y []) = x := fun _ _ => rfl
    have eB : ∀ x y : Int, rB (rPart 1 0 x y []) = y := fun _ _ => rfl
    rw [e0, if_pos rfl, eA, eB, last_atT (a.txts_last) (pre := pre) (post := b.txts) (by omega)]
    have h2 := last_atT (b.txts_last) (pre := pre ++ a.txts) (post := []) (n := ((a.parts.length : Int) + (b.parts.length : Int) - 1 + (pre.length : Int)).toNat) (by rw [List.length_append]; omega)
    rw [List.append_nil] at h2
    rw [h2]
    simp only [QP.txt, List.append_assoc]
  | .or a b, pre => by
    have e : (shP (pre.length : Int) ∘ shP (a.parts.length : Int)) = shP ((pre ++ a.txts).length : Int) := funext fun d => by
      show shP _ (shP _ d) = _
      rw [shP_sh, List.length_append, a.txts_len]
      congr 1
      push_cast
      omega
    simp only [QP.parts, List.map_append, List.map_map, List.map_cons, List.map_nil, shP_part, List.foldl_append, List.foldl_cons, List.foldl_nil, QP.txts]
    rw [a.evalT pre, e, b.evalT]
    have pa := a.parts_pos
    have pb := b.parts_pos
    have va := a.txts_len
    have vb := b.txts_len
    unfold stepT
    have e0 : ∀ x y : Int, rK (rPart 2 0 x y []) = 2 := fun _ _ => rfl
    have eA : ∀ x y : Int, rA (rPart 2 0 x y []) = x := fun _ _ => rfl
    have eB : ∀ x y : Int, rB (rPart 2 0 x y []) = y := fun _ _ => rfl
    rw [e0, if_neg (by decide), if_pos rfl, eA, eB, last_atT (a.txts_last) (pre := pre) (post := b.txts) (by omega)]
    have h2 := last_atT (b.txts_last) (pre := pre ++ a.txts) (post := []) (n := ((a.parts.length : Int) + (b.parts.length : Int) - 1 + (pre.length : Int)).toNat) (by rw [List.length_append]; omega)
    rw [List.append_nil] at h2
    rw [h2]
    simp only [QP.txt, List.append_assoc]
theorem QP.evalT0 (q : QP) : q.parts.foldl (stepT) [] = q.txts := by
  have := q.evalT []
  rw [List.length_nil] at this
  have e : ((0 : Nat) : Int) = 0 := rfl
  rw [e, q.parts_sh0] at this
  simpa using this
theorem QP.txts_size : ∀ q : QP, q.tok → ∀ v ∈ q.txts, v.size ≤ 64 * q.leaves
  | .of k l, h, v, hv => by
    have := (QP.of k l).txt_size h
    simp only [QP.txts, List.mem_singleton] at hv
    subst hv
    omega
  | .an a b, h, v, hv => by
    have := (QP.an a b).txt_size h
    have h1 := a.txts_size h.1 v
    have h2 := b.txts_size h.2 v
    simp only [QP.txts, List.mem_append, List.mem_singleton] at hv
    simp only [QP.leaves] at this ⊢
    rcases hv with (hv | hv) | hv
    · have := h1 hv; omega
    · have := h2 hv; omega
    · subst hv; omega
  | .or a b, h, v, hv => by
    have := (QP.or a b).txt_size h
    have h1 := a.txts_size h.1 v
    have h2 := b.txts_size h.2 v
    simp only [QP.txts, List.mem_append, List.mem_singleton] at hv
    simp only [QP.leaves] at this ⊢
    rcases hv with (hv | hv) | hv
    · have := h1 hv; omega
    · have := h2 hv; omega
    · subst hv; omega
theorem stepT_len (vs : List ByteArray) (d : D) : (stepT vs d).length = vs.length + 1 := by unfold stepT; simp
theorem evT_step {L : List D} {i : Nat} (hi : i < L.length) : (L.take (i + 1)).foldl stepT [] = stepT ((L.take i).foldl stepT []) (L.getD i .nil) := by
  rw [List.take_add_one, List.getElem?_eq_getElem hi, List.getD_eq_getElem?_getD, List.getElem?_eq_getElem hi, List.foldl_append]
  rfl
theorem evT_len {L : List D} : ∀ {i : Nat}, i ≤ L.length → ((L.take i).foldl stepT []).length = i
  | 0, _ => by simp
  | i + 1, h => by rw [evT_step (by omega), stepT_len, evT_len (by omega)]
theorem evT_pre : ∀ (L : List D) (vs : List ByteArray), ∃ t, L.foldl stepT vs = vs ++ t
  | [], vs => ⟨[], by simp⟩
  | d :: L, vs => by
    obtain ⟨t, h⟩ := evT_pre L (stepT vs d)
    rw [List.foldl_cons, h]
    unfold stepT
    rw [List.append_assoc]
    exact ⟨_, rfl⟩
theorem evT_mem {L : List D} {i : Nat} {v : ByteArray} (h : v ∈ (L.take i).foldl stepT []) : v ∈ L.foldl stepT [] := by
  obtain ⟨t, e⟩ := evT_pre (L.drop i) ((L.take i).foldl stepT [])
  rw [← List.foldl_append, List.take_append_drop] at e
  rw [e]
  exact List.mem_append_left _ h
/-- A row of parts, as text. -/
def textP (L : List D) : ByteArray := ((L.foldl stepT []).getLast?).getD noneS
theorem textP_parts (q : QP) : textP q.parts = q.txt := by unfold textP; rw [q.evalT0, q.txts_last]; rfl
/-- What the texts want of parts. -/
def tokL (L : List D) : Prop := (∀ d ∈ L, (rK d = 1 ∨ rK d = 2) ∨ (0 ≤ rN d ∧ rN d < 100 ∧ (rL d).length ≤ 16 ∧ ∀ x ∈ rL d, 0 ≤ x.i ∧ x.i < 100)) ∧ ∀ v ∈ L.foldl stepT [], v.size ≤ 1024
theorem QP.tok_parts : ∀ (q : QP) (s : Int), q.tok → ∀ d ∈ q.parts.map (shP s), (rK d = 1 ∨ rK d = 2) ∨ (0 ≤ rN d ∧ rN d < 100 ∧ (rL d).length ≤ 16 ∧ ∀ x ∈ rL d, 0 ≤ x.i ∧ x.i < 100)
  | .of k l, s, h, d, hd => by
    simp only [QP.parts, List.map_cons, List.map_nil, List.mem_singleton, shP_part] at hd
    subst hd
    exact .inr ⟨h.1, h.2.1, by show (l.map D.int).length ≤ 16; rw [List.length_map]; exact h.2.2.1, map_rng h.2.2.2⟩
  | .an a b, s, h, d, hd => by
    have e : (shP s ∘ shP (a.parts.length : Int)) = shP ((a.parts.length : Int) + s) := funext fun d => shP_sh _ _ _
    simp only [QP.parts, List.map_append, List.map_map, List.map_cons, List.map_nil, shP_part, List.mem_append, List.mem_singleton, e] at hd
    rcases hd with (hd | hd) | hd
    · exact a.tok_parts s h.1 d hd
    · exact b.tok_parts _ h.2 d hd
    · subst hd; exact .inl (.inl rfl)
  | .or a b, s, h, d, hd => by
    have e : (shP s ∘ shP (a.parts.length : Int)) = shP ((a.parts.length : Int) + s) := funext fun d => shP_sh _ _ _
    simp only [QP.parts, List.map_append, List.map_map, List.map_cons, List.map_nil, shP_part, List.mem_append, List.mem_singleton, e] at hd
    rcases hd with (hd | hd) | hd
    · exact a.tok_parts s h.1 d hd
    · exact b.tok_parts _ h.2 d hd
    · subst hd; exact .inl (.inr rfl)
theorem QP.tokL_parts {q : QP} (h : q.tok) (hl : q.leaves ≤ 16) : tokL q.parts := by
  refine ⟨fun d hd => ?_, fun v hv => ?_⟩
  · have := q.tok_parts 0 h
    rw [q.parts_sh0] at this
    exact this d hd
  · rw [q.evalT0] at hv
    have := q.txts_size h v hv
    omega
end Go.Proofs.YtkmilijehekdoaaDoor
