/- Any two texts have the difference that the document says: the plain law behind DeltaDiffs. Its conditions: those of the given statement. -/
import Derived.Test.Ytoeabgeglgiobaac5dQDdiff
import Derived.Test.Ytoeabgeglgiobaac5dQDworks
import Derived.Test.Ytoeabgeglgiobaac5dGL05DeltaDiffs1
namespace Go.Proofs.Ytoeabgeglgiobaa.Pure
open Go.RowKit Go.Proofs.Ytoeabgeglgiobaa.P Go.Proofs.Ytoeabgeglgiobaa.Q Go.Proofs.YtoeabgeglgiobaaW.PrintWords Go.Proofs.YtoeabgeglgiobaaW.PrintLast
theorem ddiffs_ev (a b : ByteArray) : Ev (fun k => chartroomlaw05_DeltaDiffs.f k a b) true := by
  unfold chartroomlaw05_DeltaDiffs.f
  by_cases h1 : (a.size : Int) > 2000
  · simp only [if_pos h1]
    refine ev_shift ?_
    simp only [chartroomlaw05_DeltaDiffs.j0, if_true]
    exact works05_bind
  · simp only [if_neg h1]
    refine ev_shift ?_
    by_cases h2 : (b.size : Int) > 2000
    · simp only [chartroomlaw05_DeltaDiffs.j0, decide_eq_true h2, if_true]
      exact works05_bind
    · have hl := dif_len a b
      have ht : ∀ x ∈ dif a b, x.2.2.size ≤ 2000 := fun x hx => by have := totS_mem _ x hx; omega
      have hx := txtL_le 2000 (dif a b) ht
      simp only [chartroomlaw05_DeltaDiffs.j0, decide_eq_false h2, if_neg (show ¬ (false = true) by decide)]
      refine Ev.bind (ev_of (vDiff a b (by omega) (by omega))) ?_
      refine Ev.bind (ev_of (vApply a (dif a b) (by omega))) ?_
      refine Ev.bind (vNormal (dif a b) (by omega) (by omega)) ?_
      refine Ev.bind (vSizes (dif a b) 2000 (by omega) (by omega) ht) ?_
      refine Ev.bind (rDiff a b (by omega) (by omega)) ?_
      refine Ev.bind (same05 (dif a b) (by omega)) ?_
      simp only [if_true, dif_applies a b (show a.size ≤ 1000000 by omega), dif_normal a b (show a.size ≤ 1000000 by omega), dif_sizes a b (show a.size ≤ 1000000 by omega)]
      refine Ev.bind (refs05 (dif a b) (by omega)) ?_
      refine Ev.bind (same05 (dif a b) (by omega)) ?_
      simp only [if_true]
      exact works05_bind
theorem DeltaDiffs : chartroomlaw05_DeltaDiffs.Pure := fun a b _ _ => ev_true (ddiffs_ev a b)
end Go.Proofs.Ytoeabgeglgiobaa.Pure
