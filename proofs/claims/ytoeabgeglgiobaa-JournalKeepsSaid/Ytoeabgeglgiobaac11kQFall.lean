/- All frames, the one frame, and their comparison: as the program and the reference have them. No condition but the bounds in each theorem. -/
import Derived.Test.Ytoeabgeglgiobaac11kQFtake
namespace Go.Proofs.Ytoeabgeglgiobaa.Q
open Go.RowKit Go.Proofs.YtoeabgeglgiobaaW.PrintWords Go.Proofs.YtoeabgeglgiobaaW.PrintLast Go.Proofs.YtoeabgeglgiobaaW.PrintMore
open Go.Proofs.Ytoeabgeglgiobaa.P
theorem ftake_ok (b : List Int) (hb : Bytes b) (a : Int) (h : (ftake b a).2.2.2 = 0) : 0 ≤ a ∧ a + 4 < (ftake b a).2.2.1 ∧ (ftake b a).2.2.1 ≤ b.length ∧ (ftake b a).2.1.length ≤ 65535 := by
  unfold ftake at h ⊢
  by_cases h0 : a < 0 ∨ (b.length : Int) ≤ a
  · rw [if_pos h0] at h; exact absurd h (by simp)
  · rw [if_neg h0] at h ⊢
    by_cases h1 : (Q.take b (a + 1)).2.2 ≠ 0
    · rw [if_pos h1] at h; exact absurd h h1
    · rw [if_neg h1] at h ⊢
      have bd := take_bd b hb (a + 1) (by omega)
      by_cases h2 : (Q.take b (a + 1)).1 > 65535
      · rw [if_pos h2] at h; exact absurd h (by simp)
      · rw [if_neg h2] at h ⊢
        by_cases h3 : (b.length : Int) < (Q.take b (a + 1)).2.1 + (Q.take b (a + 1)).1 + 4
        · rw [if_pos h3] at h; exact absurd h (by simp)
        · rw [if_neg h3] at h ⊢
          split
          · refine ⟨by omega, by simp only; omega, by simp only; omega, ?_⟩
            simp only [List.length_drop, List.length_take]; omega
          · rename_i h4
            rw [if_neg h4] at h; exact absurd h (by simp)
theorem ftake_bad (b : List Int) (a : Int) (h : (ftake b a).2.2.2 ≠ 0) : (ftake b a).1 = 0 ∧ (ftake b a).2.1 = [] ∧ (ftake b a).2.2.1 = a := by
  unfold ftake at h ⊢
  repeat' split
  all_goals first | exact ⟨rfl, rfl, rfl⟩ | skip
  rename_i h0 h1 h2 h3 h4
  rw [if_neg h0, if_neg h1, if_neg h2, if_neg h3, if_pos h4] at h
  exact absurd rfl h
theorem ftake_len (b : List Int) (hb : Bytes b) (a : Int) : (ftake b a).2.1.length ≤ 65535 := by
  by_cases h : (ftake b a).2.2.2 = 0
  · exact (ftake_ok b hb a h).2.2.2
  · rw [(ftake_bad b a h).2.1]; simp
def mk46 (p : Int × List Int) : S46 := ⟨p.1, p.2⟩
theorem get46 (L : List (Int × List Int)) (i : Nat) (h : i < L.length) : rd_T46 (L.map mk46) (i : Int) = mk46 L[i] := by simp [rd_T46, List.getD, h]
end Go.Proofs.Ytoeabgeglgiobaa.Q
