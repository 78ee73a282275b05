/- Rows of bytes: copies, and held against one another. -/
import Derived.Test.YtkmilijehekdoaaDoorErr
namespace Go.Proofs.YtkmilijehekdoaaDoor
set_option linter.unusedVariables false
set_option linter.unusedSimpArgs false
open Go Go.Fw
theorem ty_byte : tyOf Tryd.prog 8 5 = .int .u8 := by kernel_rfl
theorem list_l (l : List D) : (D.list l).l = l := rfl
/-- The numbers of a row of whole numbers. -/
def ints (l : List D) : List Int := l.map D.i

def sameD (a b : List D) : Bool := ints a == ints b
theorem ints_take (a : List D) (i : Nat) : ints (a.take i) = (ints a).take i := by simp [ints]
theorem ints_len (a : List D) : (ints a).length = a.length := by simp [ints]
theorem ints_get (a : List D) (i : Nat) (hi : i < a.length) : (ints a)[i]? = some (a.getD i .nil).i := by
  simp [ints, List.getD_eq_getElem?_getD, List.getElem?_eq_getElem hi]
theorem ints_ne {a b : List D} {i : Nat} (ha : i < a.length) (hb : i < b.length) (h : (a.getD i .nil).i ≠ (b.getD i .nil).i) : sameD a b = false := by
  unfold sameD
  rw [beq_eq_false_iff_ne]
  intro e
  have := ints_get a i ha
  rw [e, ints_get b i hb] at this
  exact h (Option.some.inj this).symm
theorem ints_step {a b : List D} {i : Nat} (ha : i < a.length) (hb : i < b.length) (h : (ints a).take i = (ints b).take i) (he : (a.getD i .nil).i = (b.getD i .nil).i) : (ints a).take (i + 1) = (ints b).take (i + 1) := by
  rw [List.take_add_one, List.take_add_one, h, ints_get a i ha, ints_get b i hb, he]

def spSameB : FSpec := fun args h nx K => match args with
  | [.dat (.slice 5) a, .dat (.slice 5) b] => K (.bool (sameD a.l b.l)) h
  | _ => False

end Go.Proofs.YtkmilijehekdoaaDoor
