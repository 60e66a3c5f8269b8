/- Edits: whether one may be, how many bytes it is, and how edits are read, by the program and by the reference alike. No condition but the bounds in each theorem. -/
import Derived.Test.Ytoeabgeglgiobaac5aQVtake
import Derived.Test.Ytoeabgeglgiobaac5aGdelta0
import Derived.Test.Ytoeabgeglgiobaac5aQDed
import Derived.Test.Ytoeabgeglgiobaac5aGref050
import Derived.Test.Ytoeabgeglgiobaac5aGlaw050
namespace Go.Proofs.Ytoeabgeglgiobaa.Q
open Go.RowKit Go.Proofs.YtoeabgeglgiobaaW.PrintWords Go.Proofs.YtoeabgeglgiobaaW.PrintLast Go.Proofs.YtoeabgeglgiobaaW.PrintMore
open Go.Proofs.Ytoeabgeglgiobaa.P
theorem rright (kd n : Int) (s : ByteArray) : chartroomref05_right.f kd n s = some (rightB kd n s) := by
  unfold chartroomref05_right.f rightB
  have hz : (((s.size : Int) == 0) : Bool) = decide (s.size = 0) := by
    rw [Bool.eq_iff_iff, beq_iff_eq, decide_eq_true_iff]; omega
  by_cases h2 : kd = 2
  · subst h2
    rw [if_pos rfl, if_neg (show ¬ ((2 : Int) = 1 ∨ (2 : Int) = 3) by decide)]
    by_cases hn : n = 0
    · rw [if_pos hn, decide_eq_decide.2 (show ((s.size : Int) > 0) ↔ (2 : Int) = 2 ∧ n = 0 ∧ s.size ≠ 0 from ⟨fun z => ⟨rfl, hn, by omega⟩, fun z => by have := z.2.2; omega⟩)]
    · rw [if_neg hn, decide_eq_false (show ¬ ((2 : Int) = 2 ∧ n = 0 ∧ s.size ≠ 0) from fun z => hn z.2.1)]
  · rw [if_neg h2]
    have body : (if n ≥ 1 then (if n ≤ 2147483647 then (some ((s.size : Int) == 0)) else (some false)) else (some false)) = some (decide (0 < n ∧ n ≤ 2147483647 ∧ s.size = 0)) := by
      by_cases h1 : n ≥ 1
      · by_cases h3 : n ≤ 2147483647
        · rw [if_pos h1, if_pos h3, hz, decide_eq_decide.2 (show (s.size = 0) ↔ (0 < n ∧ n ≤ 2147483647 ∧ s.size = 0) from ⟨fun z => ⟨by omega, h3, z⟩, fun z => z.2.2⟩)]
        · rw [if_pos h1, if_neg h3, decide_eq_false (show ¬ (0 < n ∧ n ≤ 2147483647 ∧ s.size = 0) from fun z => h3 z.2.1)]
      · rw [if_neg h1, decide_eq_false (show ¬ (0 < n ∧ n ≤ 2147483647 ∧ s.size = 0) from fun z => by have := z.1; omega)]
    by_cases h1 : kd = 1
    · rw [if_pos h1, if_pos (show kd = 1 ∨ kd = 3 from .inl h1)]; exact body
    · rw [if_neg h1]
      by_cases h3 : kd = 3
      · rw [if_pos h3, if_pos (show kd = 1 ∨ kd = 3 from .inr h3)]; exact body
      · rw [if_neg h3, if_neg (show ¬ (kd = 1 ∨ kd = 3) from fun z => z.elim h1 h3), decide_eq_false (show ¬ (kd = 2 ∧ n = 0 ∧ s.size ≠ 0) from fun z => h2 z.1)]
theorem same05 (L : List Ed) (hl : L.length ≤ 1000000) : Ev (fun k => chartroomlaw05_same.f k (L.map mk153) (L.map mk226)) true := by
  unfold chartroomlaw05_same.f
  simp only [List.length_map, if_true]
  have key : ∀ (d i : Nat), i + d = L.length → Ev (fun k => chartroomlaw05_same.l0 k (L.map mk153) (L.map mk226) (i : Int)) true := by
    intro d
    induction d with
    | zero =>
      intro i h
      refine ev_shift ?_
      simp only [chartroomlaw05_same.l0, List.length_map, if_neg (show ¬ (i : Int) < L.length by omega)]
      exact Ev.now _
    | succ d ih =>
      intro i h
      have hi : i < L.length := by omega
      refine ev_shift ?_
      simp only [chartroomlaw05_same.l0, List.length_map, if_pos (show (i : Int) < L.length by omega), if_pos (show (0 : Int) ≤ i by omega), get153 L i hi, get226 L i hi, mk153, mk226, if_true, w64 ((i : Int) + 1) (by omega) (by omega)]
      exact ih (i + 1) (by omega)
  exact key L.length 0 (by omega)
end Go.Proofs.Ytoeabgeglgiobaa.Q
