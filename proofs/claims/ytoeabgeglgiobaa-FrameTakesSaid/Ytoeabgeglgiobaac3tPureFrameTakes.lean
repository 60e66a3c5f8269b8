/- Of any bytes the frame at any place, all frames, and the one that they are, are the document's, or the error: the plain law behind FrameTakes. Its conditions: those of the given statement. -/
import Derived.Test.Ytoeabgeglgiobaac3tQFworks
import Derived.Test.Ytoeabgeglgiobaac3tGL03FrameTakes1
namespace Go.Proofs.Ytoeabgeglgiobaa.Pure
open Go.RowKit Go.Proofs.Ytoeabgeglgiobaa.P Go.Proofs.Ytoeabgeglgiobaa.Q Go.Proofs.YtoeabgeglgiobaaW.PrintWords Go.Proofs.YtoeabgeglgiobaaW.PrintLast
theorem ftakes_ev (b : List Int) (a : Int) (hb : Bytes b) : Ev (fun k => chartroomlaw03_FrameTakes.f k b a) true := by
  unfold chartroomlaw03_FrameTakes.f
  by_cases h1 : (b.length : Int) > 2000
  · simp only [if_pos h1]
    exact works03_bind
  · have hs : b.length ≤ 900000 := by omega
    have hf := fall_len b hb (b.length + 1) 0 (by omega) (by omega)
    have hl := ftake_len b hb a
    have ho := fone_len b hb
    simp only [if_neg h1, own_some b (by omega), Option.bind_some]
    refine Ev.bind (vftake b hb (by omega) a) ?_
    refine Ev.bind (rftake b hb hs a) ?_
    refine Ev.bind (vfall b hb hs) ?_
    refine Ev.bind (rfall b hb hs) ?_
    refine Ev.bind (vfone b hb hs) ?_
    refine Ev.bind (rfone b hb hs) ?_
    refine Ev.bind (same03 _ _ _ _ (by omega)) ?_
    simp only [and_self, decide_true, if_true]
    refine Ev.bind (sameAll03 _ (by omega) hf.2) ?_
    simp only [if_true]
    refine Ev.bind (same03 _ _ _ _ (by omega)) ?_
    simp only [and_self, decide_true, if_true]
    refine ev_shift ?_
    simp only [chartroomlaw03_FrameTakes.j0, bne_self_eq_false, if_neg (show ¬ (false = true) by decide)]
    obtain ⟨r1, hr1, _⟩ := spoil (ftake b a).2.1 (by omega)
    obtain ⟨r2, hr2, _⟩ := spoil (fone b).2.1 (by omega)
    refine Ev.bind hr1 ?_
    refine Ev.bind hr2 ?_
    refine Ev.bind (sameBytes b b (by omega)) ?_
    simp only [decide_true, if_true]
    exact works03_bind
theorem FrameTakes : chartroomlaw03_FrameTakes.Pure := fun b a _ _ hb _ => ev_true (ftakes_ev b a (Bytes.of_wf hb))
end Go.Proofs.Ytoeabgeglgiobaa.Pure
