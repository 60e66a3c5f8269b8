/- A row of rows of bytes, as the row's reader reads it. No condition. -/
import Derived.Test.Ytoeabgeglgiobaac11kQOpen
namespace Go.Proofs.Ytoeabgeglgiobaa.Q
open Go.RowKit Go.Proofs.YtoeabgeglgiobaaW.PrintWords Go.Proofs.YtoeabgeglgiobaaW.PrintLast Go.Proofs.YtoeabgeglgiobaaW.PrintMore
open Go.ChangeShapes Go.WideShapes Go.ChangeAt Go.Deep
open Go.Proofs.Ytoeabgeglgiobaa.P
section
variable {H : Type} {enc : TypeId × Value → H} {w : World} {base : Nat} {held : Bool}
def Ok24 (x : List Int) : Prop := x.length ≤ 140737488351232 ∧ ∀ y ∈ x, (Lit.int .u8 y).wf = true
theorem opens24 : Opens enc w base held 24 (Kd.slice 5 (Kd.int .u8)) Ok24 := by
  intro fuel cs x h hlt
  obtain ⟨A, c, xs, e, l1, l2, l3, hC, hw⟩ := opens_row Try.underlying24 cells5 (0 : Int) (opens_int Try.underlying5) h hlt
  rw [bytes5] at l3
  exact ⟨xs, ⟨A, c, e, l1, hC⟩, by simpa [reachBytes] using l3, hw⟩
end
end Go.Proofs.Ytoeabgeglgiobaa.Q
