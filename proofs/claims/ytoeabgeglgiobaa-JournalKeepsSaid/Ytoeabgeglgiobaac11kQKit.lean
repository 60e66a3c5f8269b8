/- A number brought below another one. No condition but the bounds in the theorem. -/
import Derived.Test.Ytoeabgeglgiobaac11kQEv
import Derived.Test.Ytoeabgeglgiobaac11kGkit0
namespace Go.Proofs.Ytoeabgeglgiobaa.Q
open Go.RowKit Go.Proofs.YtoeabgeglgiobaaW.PrintWords Go.Proofs.YtoeabgeglgiobaaW.PrintLast Go.Proofs.YtoeabgeglgiobaaW.PrintMore
open Go.Proofs.Ytoeabgeglgiobaa.P
theorem pick_some (a n : Int) (hn : 0 < n) (h1 : n < 4611686018427387904) : ∃ j : Nat, chartroomkit_Pick.f a n = some (j : Int) ∧ (j : Int) < n := by
  unfold chartroomkit_Pick.f
  have t1 := Int.tmod_lt_of_pos a hn
  have t2 : -n < Int.tmod a n := by
    rcases Int.le_total 0 a with h | h
    · have := Int.tmod_nonneg n h; omega
    · have e : Int.tmod a n = - Int.tmod (-a) n := by rw [Int.neg_tmod, Int.neg_neg]
      have := Int.tmod_lt_of_pos (-a) hn
      omega
  rw [if_neg (show ¬ n ≤ 0 by omega), if_neg (show ¬ n = 0 by omega), w64 (Int.tmod a n + n) (by omega) (by omega), Int.tmod_eq_emod_of_nonneg (show 0 ≤ Int.tmod a n + n by omega)]
  have h2 := Int.emod_nonneg (Int.tmod a n + n) (show n ≠ 0 by omega)
  have h3 := Int.emod_lt_of_pos (Int.tmod a n + n) hn
  exact ⟨((Int.tmod a n + n) % n).toNat, by rw [Int.toNat_of_nonneg h2], by omega⟩
end Go.Proofs.Ytoeabgeglgiobaa.Q
