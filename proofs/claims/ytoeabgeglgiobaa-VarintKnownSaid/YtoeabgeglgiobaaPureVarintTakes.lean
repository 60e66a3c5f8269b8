/- Of any bytes the number, the text, and the row of numbers, from any place on, are the document's, or the error: the plain law behind VarintTakes. Its conditions: those of the given statement. -/
import Derived.Test.YtoeabgeglgiobaaQVworks
import Derived.Test.YtoeabgeglgiobaaGL01VarintTakes0
namespace Go.Proofs.Ytoeabgeglgiobaa.Pure
open Go.RowKit Go.Proofs.Ytoeabgeglgiobaa.P Go.Proofs.Ytoeabgeglgiobaa.Q Go.Proofs.YtoeabgeglgiobaaW.PrintWords Go.Proofs.YtoeabgeglgiobaaW.PrintLast

theorem takes_ev (b : List Int) (a m : Int) (hb : Bytes b) : Ev (fun k => chartroomlaw01_VarintTakes.f k b a m) true := by
  unfold chartroomlaw01_VarintTakes.f
  by_cases h1 : (b.length : Int) > 2000
  · simp only [if_pos h1]
    refine ev_shift ?_
    simp only [chartroomlaw01_VarintTakes.j0, if_true]
    exact works01_bind
  · simp only [if_neg h1]
    by_cases h2 : m > 100
    · simp only [decide_eq_true h2]
      refine ev_shift ?_
      simp only [chartroomlaw01_VarintTakes.j0, if_true]
      exact works01_bind
    · simp only [decide_eq_false h2]
      refine ev_shift ?_
      simp only [chartroomlaw01_VarintTakes.j0, if_neg (show ¬ (false = true) by decide), own_some b (by omega), Option.bind_some]
      have hs : b.length ≤ 140737488355328 := by omega
      refine Ev.bind (vtake b hb hs a) ?_
      refine Ev.bind (rtake b hb hs a) ?_
      refine Ev.bind (vtext_take b hb hs a) ?_
      refine Ev.bind (rtext_take b hb hs a) ?_
      refine Ev.bind (vtakeall b hb hs a m (by omega)) ?_
      refine Ev.bind (rtakeall b hb hs a m (by omega)) ?_
      simp only [if_true]
      have hl := takeAll_len b a m.toNat a []
      simp only [List.length_nil] at hl
      refine Ev.bind (same01 _ _ (by omega)) ?_
      simp only [decide_true, if_true]
      refine Ev.bind (sameBytes b b hs) ?_
      simp only [decide_true, if_true]
      exact works01_bind
theorem VarintTakes : chartroomlaw01_VarintTakes.Pure := fun b a m _ _ hb _ _ => ev_true (takes_ev b a m (Bytes.of_wf hb))
end Go.Proofs.Ytoeabgeglgiobaa.Pure
