/- What the varint functions of the program, and of the reference, answer: one plain function each, the same for both; and that what is put is taken as it was. No condition but the bounds in each theorem. -/
import Derived.Test.Ytoeabgeglgiobaac5dQEv
import Derived.Test.Ytoeabgeglgiobaac5dGvarint0
import Derived.Test.Ytoeabgeglgiobaac5dP0
import Derived.Test.Ytoeabgeglgiobaac5dGkit0
namespace Go.Proofs.Ytoeabgeglgiobaa.Q
open Go.RowKit Go.Proofs.YtoeabgeglgiobaaW.PrintWords Go.Proofs.YtoeabgeglgiobaaW.PrintLast Go.Proofs.YtoeabgeglgiobaaW.PrintMore
open Go.Proofs.Ytoeabgeglgiobaa.P
/-! Two rows that are compared. -/
/-! Rows of numbers, and texts. -/
def U64 (l : List Int) : Prop := ∀ x ∈ l, 0 ≤ x ∧ x < 18446744073709551616
theorem take_snoc {α : Type} (l : List α) (i : Nat) (h : i < l.length) : l.take (i + 1) = l.take i ++ [l[i]] := by
  rw [List.take_succ_eq_append_getElem h]
theorem U64.take {l : List Int} (h : U64 l) (i : Nat) : U64 (l.take i) := fun x hx => h x (List.mem_of_mem_take hx)
/-! A number is taken. -/
/-- Out of bytes, behind i groups that say n: the number, how many bytes it has, and the error. -/
def tkL : List Int → Nat → Nat → Nat × Nat × Nat
  | [], _, _ => (0, 0, 10)
  | c :: l, i, n =>
    if i = 9 ∧ c > 1 then (0, 0, 11) else if c = 0 ∧ 0 < i then (0, 0, 11)
    else if c < 128 then (n + c.toNat % 128 * 128 ^ i, i + 1, 0) else tkL l (i + 1) (n + c.toNat % 128 * 128 ^ i)
def fin (a : Int) (r : Nat × Nat × Nat) : Int × Int × Int := if r.2.2 = 0 then ((r.1 : Int), a + r.2.1, 0) else (0, a, (r.2.2 : Int))
def take (b : List Int) (a : Int) : Int × Int × Int := if a < 0 ∨ (b.length : Int) ≤ a then (0, a, 10) else fin a (tkL (b.drop a.toNat) 0 0)
end Go.Proofs.Ytoeabgeglgiobaa.Q
