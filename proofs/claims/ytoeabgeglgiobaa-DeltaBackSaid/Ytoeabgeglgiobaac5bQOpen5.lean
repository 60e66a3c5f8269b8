/- An edit, as the row's reader reads it. No condition. -/
import Derived.Test.Ytoeabgeglgiobaac5bQOpen
import Derived.Deep.Strs
import Derived.ChangeMaps5
namespace Go.Proofs.Ytoeabgeglgiobaa.Q
open Go.RowKit Go.Proofs.YtoeabgeglgiobaaW.PrintWords Go.Proofs.YtoeabgeglgiobaaW.PrintLast Go.Proofs.YtoeabgeglgiobaaW.PrintMore
open Go.ChangeShapes Go.WideShapes Go.ChangeAt Go.Deep
open Go.Proofs.Ytoeabgeglgiobaa.P
section
variable {H : Type} {enc : TypeId × Value → H} {w : World} {base : Nat} {held : Bool}
theorem cells3 : Try.prog.cellsOf 3 = 1 := by kernel_rfl
theorem cells9 : Try.prog.cellsOf 9 = 1 := by kernel_rfl
theorem cells153 : Try.prog.cellsOf 153 = 3 := by kernel_rfl
def Ok153 (x : S153) : Prop := (Lit.int .u8 x.f0).wf = true ∧ (Lit.int .i64 x.f1).wf = true
theorem list3 {α : Type} {l : List α} (h : l.length = 3) : ∃ a b c, l = [a, b, c] := by
  match l, h with
  | [a, b, c], _ => exact ⟨a, b, c, rfl⟩
theorem opens_string {t : TypeId} (ht : Try.prog.underlying t = some .string) : Opens enc w base held t Kd.string (fun _ => True) := by
  intro fuel cs x h _
  obtain ⟨s, rfl, _⟩ := DataW.trod_string ht h
  exact ⟨s, rfl, trivial⟩
set_option maxRecDepth 100000 in
theorem opens153 : Opens enc w base held 153 k153 Ok153 := by
  intro fuel cs x h hlt
  obtain ⟨y0, y1, y2, n, hx, hl, h0, h1, h2⟩ := trod_struct3 Try.underlying153 h
  have hwe : ∀ q ∈ DataW.weightsEach Try.prog [5, 3, 9] [y0.1, y1.1, y2.1], q ≤ reachBytes := by
    intro q hq
    refine hlt q ?_
    rw [hx]
    simp only [DataW.weights, Try.underlying153]
    exact hq
  rw [cells153] at hl
  obtain ⟨a, b, c, rfl⟩ := list3 hl
  obtain ⟨m, e0, hm⟩ := opens_int Try.underlying5 _ _ _ h0 (light_eachP hwe (j := 0) rfl rfl)
  obtain ⟨n1, e1, hn⟩ := opens_int Try.underlying3 _ _ _ h1 (light_eachP hwe (j := 1) rfl rfl)
  obtain ⟨s, e2, _⟩ := opens_string Try.underlying9 _ _ _ h2 (light_eachP hwe (j := 2) rfl rfl)
  have e0' : List.take (Try.prog.cellsOf 5) (List.drop 0 [a, b, c]) = [Value.int .u8 m] := e0
  have e1' : List.take (Try.prog.cellsOf 3) (List.drop 1 [a, b, c]) = [Value.int .i64 n1] := e1
  have e2' : List.take (Try.prog.cellsOf 9) (List.drop 2 [a, b, c]) = [Value.string s] := e2
  rw [cells5] at e0'
  rw [cells3] at e1'
  rw [cells9] at e2'
  have ea : a = Value.int .u8 m := (List.cons.inj e0').1
  have eb : b = Value.int .i64 n1 := (List.cons.inj (show [b] = [Value.int .i64 n1] from e1')).1
  have ec : c = Value.string s := (List.cons.inj (show [c] = [Value.string s] from e2')).1
  rw [ea, eb, ec]
  exact ⟨⟨m, n1, s⟩, k153_mk w ⟨m, n1, s⟩, hm, hn⟩
end
end Go.Proofs.Ytoeabgeglgiobaa.Q
