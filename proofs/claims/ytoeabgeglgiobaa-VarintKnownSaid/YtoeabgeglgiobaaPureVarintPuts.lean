/- Any numbers, and any text, are written as the document says: the plain law behind VarintPuts. Its conditions: those of the given statement. -/
import Derived.Test.YtoeabgeglgiobaaQVworks
import Derived.Test.YtoeabgeglgiobaaGL01VarintPuts0
namespace Go.Proofs.Ytoeabgeglgiobaa.Pure
open Go.RowKit Go.Proofs.Ytoeabgeglgiobaa.P Go.Proofs.Ytoeabgeglgiobaa.Q Go.Proofs.YtoeabgeglgiobaaW.PrintWords Go.Proofs.YtoeabgeglgiobaaW.PrintLast

theorem puts_l1 (l : List Int) (hu : U64 l) (hl : l.length ≤ 50) : ∀ (d i : Nat), i + d = l.length → Ev (fun k => chartroomlaw01_VarintPuts.l1 k l (i : Int)) true := by
  intro d
  induction d with
  | zero =>
    intro i h
    refine ev_shift ?_
    simp only [chartroomlaw01_VarintPuts.l1, if_neg (show ¬ (i : Int) < l.length by omega)]
    exact works01_bind
  | succ d ih =>
    intro i h
    have hi : i < l.length := by omega
    have hg := hu.get i hi
    have hp := putL_len_u64 (n := l[i].toNat) (by omega)
    refine ev_shift ?_
    simp only [chartroomlaw01_VarintPuts.l1, if_pos (show (i : Int) < l.length by omega), if_pos (show (0 : Int) ≤ i by omega), rd_lt l i hi, w64 ((i : Int) + 1) (by omega) (by omega)]
    refine Ev.bind (vput _ hg.1 hg.2) ?_
    refine Ev.bind (rput _ hg.1 hg.2) ?_
    refine Ev.bind (sameBytes _ _ (by omega)) ?_
    simp only [decide_true, if_true]
    refine Ev.bind (vsize _ hg.1 hg.2) ?_
    simp only [if_true]
    exact ih (i + 1) (by omega)
theorem puts_l0 (l : List Int) (s : ByteArray) (hu : U64 l) (hl : l.length ≤ 50) (hs : s.size ≤ 2000) : ∀ (d i : Nat), i + d = 2 → Ev (fun k => chartroomlaw01_VarintPuts.l0 k l s (i : Int)) true := by
  intro d
  have ha := allL_len hu
  have ht := textL_len s (by omega)
  induction d with
  | zero =>
    intro i h
    refine ev_shift ?_
    simp only [chartroomlaw01_VarintPuts.l0, if_neg (show ¬ (i : Int) < 2 by omega)]
    exact puts_l1 l hu hl l.length 0 (by omega)
  | succ d ih =>
    intro i h
    refine ev_shift ?_
    simp only [chartroomlaw01_VarintPuts.l0, if_pos (show (i : Int) < 2 by omega)]
    refine Ev.bind (vall l hu (by omega)) ?_
    refine Ev.bind (vtext s (by omega)) ?_
    refine Ev.bind (rall l hu (by omega)) ?_
    refine Ev.bind (sameBytes _ _ (by omega)) ?_
    simp only [decide_true, if_true]
    refine Ev.bind (rtext s (by omega)) ?_
    refine Ev.bind (sameBytes _ _ (by omega)) ?_
    refine ev_shift ?_
    simp only [chartroomlaw01_VarintPuts.j2, decide_true, Bool.not_true, if_neg (show ¬ (false = true) by decide), w64 ((i : Int) + 1) (by omega) (by omega)]
    obtain ⟨r1, hr1, _⟩ := spoil (allL l) (by omega)
    obtain ⟨r2, hr2, _⟩ := spoil (textL s) (by omega)
    refine Ev.bind hr1 ?_
    refine Ev.bind hr2 ?_
    exact ih (i + 1) (by omega)
theorem puts_ev (l : List Int) (s : ByteArray) (hu : U64 l) : Ev (fun k => chartroomlaw01_VarintPuts.f k l s) true := by
  unfold chartroomlaw01_VarintPuts.f
  by_cases h1 : (l.length : Int) > 50
  · simp only [if_pos h1]
    refine ev_shift ?_
    simp only [chartroomlaw01_VarintPuts.j0, if_true]
    exact works01_bind
  · simp only [if_neg h1]
    by_cases h2 : (s.size : Int) > 2000
    · simp only [decide_eq_true h2]
      refine ev_shift ?_
      simp only [chartroomlaw01_VarintPuts.j0, if_true]
      exact works01_bind
    · simp only [decide_eq_false h2]
      refine ev_shift ?_
      simp only [chartroomlaw01_VarintPuts.j0, if_neg (show ¬ (false = true) by decide)]
      exact puts_l0 l s hu (by omega) (by omega) 2 0 (by omega)
theorem VarintPuts : chartroomlaw01_VarintPuts.Pure := fun l s _ _ hl _ => ev_true (puts_ev l s (U64.of_wf hl))
end Go.Proofs.Ytoeabgeglgiobaa.Pure
