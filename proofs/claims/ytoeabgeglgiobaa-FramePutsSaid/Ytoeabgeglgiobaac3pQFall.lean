/- All frames, the one frame, and their comparison: as the program and the reference have them. No condition but the bounds in each theorem. -/
import Derived.Test.Ytoeabgeglgiobaac3pQFrame
import Derived.Test.Ytoeabgeglgiobaac3pGlaw030
namespace Go.Proofs.Ytoeabgeglgiobaa.Q
open Go.RowKit Go.Proofs.YtoeabgeglgiobaaW.PrintWords Go.Proofs.YtoeabgeglgiobaaW.PrintLast Go.Proofs.YtoeabgeglgiobaaW.PrintMore
open Go.Proofs.Ytoeabgeglgiobaa.P
def mk46 (p : Int × List Int) : S46 := ⟨p.1, p.2⟩
def mk49 (p : Int × List Int) : S49 := ⟨p.1, p.2⟩
theorem same03 (a c : Int) (xs ys : List Int) (hx : xs.length ≤ 140737488355328) : Ev (fun k => chartroomlaw03_same.f k a xs c ys) (decide (a = c ∧ xs = ys)) := by
  unfold chartroomlaw03_same.f
  by_cases h : a = c
  · simp only [if_pos h]
    refine Ev.bind (sameBytes xs ys hx) (ev_some ?_)
    simp [h]
  · simp only [if_neg h]
    exact ev_some (by simp [h])
theorem get46 (L : List (Int × List Int)) (i : Nat) (h : i < L.length) : rd_T46 (L.map mk46) (i : Int) = mk46 L[i] := by simp [rd_T46, List.getD, h]
theorem get49 (L : List (Int × List Int)) (i : Nat) (h : i < L.length) : rd_T49 (L.map mk49) (i : Int) = mk49 L[i] := by simp [rd_T49, List.getD, h]
theorem sameAll03 (L : List (Int × List Int)) (hl : L.length ≤ 1000000) (hx : ∀ p ∈ L, p.2.length ≤ 140737488351232) : Ev (fun k => chartroomlaw03_sameAll.f k (L.map mk46) (L.map mk49)) true := by
  unfold chartroomlaw03_sameAll.f
  simp only [List.length_map, if_true]
  have key : ∀ (d i : Nat), i + d = L.length → Ev (fun k => chartroomlaw03_sameAll.l0 k (L.map mk46) (L.map mk49) (i : Int)) true := by
    intro d
    induction d with
    | zero =>
      intro i h
      refine ev_shift ?_
      simp only [chartroomlaw03_sameAll.l0, List.length_map, if_neg (show ¬ (i : Int) < L.length by omega)]
      exact Ev.now _
    | succ d ih =>
      intro i h
      have hi : i < L.length := by omega
      refine ev_shift ?_
      simp only [chartroomlaw03_sameAll.l0, List.length_map, if_pos (show (i : Int) < L.length by omega), if_pos (show (0 : Int) ≤ i by omega), get46 L i hi, get49 L i hi, mk46, mk49]
      refine Ev.bind (same03 _ _ _ _ (by have := hx _ (List.getElem_mem hi); omega)) ?_
      simp only [and_self, decide_true, if_true, w64 ((i : Int) + 1) (by omega) (by omega)]
      exact ih (i + 1) (by omega)
  exact key L.length 0 (by omega)
end Go.Proofs.Ytoeabgeglgiobaa.Q
