/- Any bytes are the edits that the document says, or the first error: the plain law behind DeltaParses. Its conditions: those of the given statement. -/
import Derived.Test.Ytoeabgeglgiobaac5pQDparse
import Derived.Test.Ytoeabgeglgiobaac5pQDworks
import Derived.Test.Ytoeabgeglgiobaac5pGL05DeltaParses1
namespace Go.Proofs.Ytoeabgeglgiobaa.Pure
open Go.RowKit Go.Proofs.Ytoeabgeglgiobaa.P Go.Proofs.Ytoeabgeglgiobaa.Q Go.Proofs.YtoeabgeglgiobaaW.PrintWords Go.Proofs.YtoeabgeglgiobaaW.PrintLast
theorem dparses_ev (b : List Int) (hb : Bytes b) : Ev (fun k => chartroomlaw05_DeltaParses.f k b) true := by
  unfold chartroomlaw05_DeltaParses.f
  by_cases h1 : (b.length : Int) > 2000
  · simp only [if_pos h1]
    exact works05_bind
  · have hl := dparse_len b hb (b.length + 1) 0 [] (by omega) (by omega)
    simp only [List.length_nil] at hl
    simp only [if_neg h1, own_some b (by omega), Option.bind_some]
    refine Ev.bind (vdparse b hb (by omega)) ?_
    refine Ev.bind (rdparse b hb (by omega)) ?_
    simp only [if_true]
    refine Ev.bind (same05 _ (by omega)) ?_
    simp only [if_true]
    refine Ev.bind (sameBytes b b (by omega)) ?_
    simp only [decide_true, if_true]
    exact works05_bind
theorem DeltaParses : chartroomlaw05_DeltaParses.Pure := fun b _ _ hb => ev_true (dparses_ev b (Bytes.of_wf hb))
end Go.Proofs.Ytoeabgeglgiobaa.Pure
