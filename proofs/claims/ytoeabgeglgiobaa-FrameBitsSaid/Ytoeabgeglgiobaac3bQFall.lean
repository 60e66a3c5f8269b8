/- All frames, the one frame, and their comparison: as the program and the reference have them. No condition but the bounds in each theorem. -/
import Derived.Test.Ytoeabgeglgiobaac3bQFrame
import Derived.Test.Ytoeabgeglgiobaac3bGlaw030
namespace Go.Proofs.Ytoeabgeglgiobaa.Q
open Go.RowKit Go.Proofs.YtoeabgeglgiobaaW.PrintWords Go.Proofs.YtoeabgeglgiobaaW.PrintLast Go.Proofs.YtoeabgeglgiobaaW.PrintMore
open Go.Proofs.Ytoeabgeglgiobaa.P
theorem ftake_ok (b : List Int) (hb : Bytes b) (a : Int) (h : (ftake b a).2.2.2 = 0) : 0 ≤ a ∧ a + 4 < (ftake b a).2.2.1 ∧ (ftake b a).2.2.1 ≤ b.length ∧ (ftake b a).2.1.length ≤ 65535 := by
  unfold ftake at h ⊢
  by_cases h0 : a < 0 ∨ (b.length : Int) ≤ a
  · rw [if_pos h0] at h; exact absurd h (by simp)
  · rw [if_neg h0] at h ⊢
    by_cases h1 : (Q.take b (a + 1)).2.2 ≠ 0
    · rw [if_pos h1] at h; exact absurd h h1
    · rw [if_neg h1] at h ⊢
      have bd := take_bd b hb (a + 1) (by omega)
      by_cases h2 : (Q.take b (a + 1)).1 > 65535
      · rw [if_pos h2] at h; exact absurd h (by simp)
      · rw [if_neg h2] at h ⊢
        by_cases h3 : (b.length : Int) < (Q.take b (a + 1)).2.1 + (Q.take b (a + 1)).1 + 4
        · rw [if_pos h3] at h; exact absurd h (by simp)
        · rw [if_neg h3] at h ⊢
          split
          · refine ⟨by omega, by simp only; omega, by simp only; omega, ?_⟩
            simp only [List.length_drop, List.length_take]; omega
          · rename_i h4
            rw [if_neg h4] at h; exact absurd h (by simp)
def fone (b : List Int) : Int × List Int × Int :=
  if (ftake b 0).2.2.2 = 0 then (if (ftake b 0).2.2.1 < b.length then (0, [], 11) else ((ftake b 0).1, (ftake b 0).2.1, 0)) else (0, [], (ftake b 0).2.2.2)
theorem vfone (b : List Int) (hb : Bytes b) (hs : b.length ≤ 900000) : Ev (fun k => frame_One.f k b) (fone b) := by
  unfold frame_One.f fone
  refine Ev.bind (vftake b hb (by omega) 0) ?_
  by_cases q : (ftake b 0).2.2.2 = 0
  · simp only [if_pos q]
    by_cases h : (ftake b 0).2.2.1 < b.length
    · simp only [if_pos h]; exact Ev.now _
    · simp only [if_neg h]; exact Ev.now _
  · simp only [if_neg q]; exact Ev.now _
end Go.Proofs.Ytoeabgeglgiobaa.Q
