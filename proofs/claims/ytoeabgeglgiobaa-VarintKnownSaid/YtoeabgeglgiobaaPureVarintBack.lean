/- What is put is taken as it was; what is taken, put again, is the bytes that were taken; a number that is not greater has no more bytes: the plain law behind VarintBack. Its conditions: those of the given statement. -/
import Derived.Test.YtoeabgeglgiobaaQVback
import Derived.Test.YtoeabgeglgiobaaGL01VarintBack0
namespace Go.Proofs.Ytoeabgeglgiobaa.Pure
open Go.RowKit Go.Proofs.Ytoeabgeglgiobaa.P Go.Proofs.Ytoeabgeglgiobaa.Q Go.Proofs.YtoeabgeglgiobaaW.PrintWords Go.Proofs.YtoeabgeglgiobaaW.PrintLast

theorem back_l0 (l : List Int) (hu : U64 l) (hl : l.length ≤ 50) : ∀ (d i : Nat), i + d = l.length + 1 → Ev (fun k => chartroomlaw01_VarintBack.l0 k l (i : Int)) true := by
  intro d
  induction d with
  | zero =>
    intro i h
    refine ev_shift ?_
    simp only [chartroomlaw01_VarintBack.l0, w64 ((i : Int) + 1) (by omega) (by omega), if_neg (show ¬ (i : Int) + 1 < l.length by omega)]
    exact works01_bind
  | succ d ih =>
    intro i h
    refine ev_shift ?_
    by_cases hlt : i + 1 < l.length
    · have e1 : wrap64 ((i : Int) + 1) = ((i + 1 : Nat) : Int) := by rw [w64 _ (by omega) (by omega)]; omega
      have ha := hu.get i (by omega)
      have hb := hu.get (i + 1) hlt
      simp only [chartroomlaw01_VarintBack.l0, e1, if_pos (show ((i + 1 : Nat) : Int) < l.length by omega), if_pos (show (0 : Int) ≤ i by omega), if_pos (show (i : Int) < l.length by omega), if_pos (show (0 : Int) ≤ ((i + 1 : Nat) : Int) by omega), rd_lt l i (by omega), rd_lt l (i + 1) hlt]
      by_cases hle : l[i] ≤ l[i + 1]
      · simp only [if_pos hle]
        refine Ev.bind (vsize _ ha.1 ha.2) ?_
        refine Ev.bind (vsize _ hb.1 hb.2) ?_
        have hm := putL_mono 10 l[i].toNat l[i + 1].toNat (u64_128 (by omega)) (by omega)
        simp only [if_neg (show ¬ ((putL l[i].toNat).length : Int) > ((putL l[i + 1].toNat).length : Int) by omega)]
        exact ih (i + 1) (by omega)
      · simp only [if_neg hle]
        exact ih (i + 1) (by omega)
    · simp only [chartroomlaw01_VarintBack.l0, w64 ((i : Int) + 1) (by omega) (by omega), if_neg (show ¬ (i : Int) + 1 < l.length by omega)]
      exact works01_bind
theorem back_j2 (l : List Int) (hu : U64 l) (hl : l.length ≤ 50) : Ev (fun k => chartroomlaw01_VarintBack.j2 k l false) true := by
  refine ev_shift ?_
  simp only [chartroomlaw01_VarintBack.j2, if_neg (show ¬ (false = true) by decide)]
  exact back_l0 l hu hl (l.length + 1) 0 (by omega)
theorem back_j1 (l b : List Int) (hu : U64 l) (hl : l.length ≤ 50) (hb : Bytes b) (hbl : b.length ≤ 1000) : Ev (fun k => chartroomlaw01_VarintBack.j1 k l b false) true := by
  refine ev_shift ?_
  simp only [chartroomlaw01_VarintBack.j1, if_neg (show ¬ (false = true) by decide)]
  refine Ev.bind (vtake b hb (by omega) 0) ?_
  by_cases h : (Q.take b 0).2.2 = 0
  · have hd := take_bd b hb 0 h
    have hk := take_back b hb h
    simp only [if_pos h, if_neg (show ¬ (Q.take b 0).2.1 ≤ 0 by omega), if_neg (show ¬ (Q.take b 0).2.1 > (b.length : Int) by omega)]
    refine Ev.bind (vput _ hd.1 hd.2.1) ?_
    have hp := putL_len_u64 (n := (Q.take b 0).1.toNat) (by omega)
    simp only [if_pos (show 0 ≤ (Q.take b 0).2.1 by omega), if_pos (show (Q.take b 0).2.1 ≤ (b.length : Int) by omega)]
    refine Ev.bind (sameBytes _ _ (by omega)) ?_
    rw [decide_eq_true hk]
    exact back_j2 l hu hl
  · simp only [if_neg h]
    exact back_j2 l hu hl
theorem back_ev (l : List Int) (s : ByteArray) (ah be : List Int) (hu : U64 l) (ha : Bytes ah) (hb : Bytes be) : Ev (fun k => chartroomlaw01_VarintBack.f k l s ah be) true := by
  have hw : Ev (fun k => chartroomlaw01_VarintBack.j0 k l s ah be true) true := by
    refine ev_shift ?_
    simp only [chartroomlaw01_VarintBack.j0, if_true]
    exact works01_bind
  unfold chartroomlaw01_VarintBack.f
  by_cases h1 : (l.length : Int) > 50
  · simp only [if_pos h1]; exact hw
  by_cases h2 : (s.size : Int) > 1000
  · simp only [if_neg h1, if_pos h2]; exact hw
  by_cases h3 : (ah.length : Int) > 1000
  · simp only [if_neg h1, if_neg h2, if_pos h3]; exact hw
  by_cases h4 : (be.length : Int) > 1000
  · simp only [if_neg h1, if_neg h2, if_neg h3, decide_eq_true h4]; exact hw
  simp only [if_neg h1, if_neg h2, if_neg h3, decide_eq_false h4]
  have hal := allL_len hu
  have htl := textL_len s (by omega)
  refine ev_shift ?_
  simp only [chartroomlaw01_VarintBack.j0, if_neg (show ¬ (false = true) by decide), own_some ah (by omega), Option.bind_some]
  refine Ev.bind (vall l hu (by omega)) ?_
  simp only [if_pos (show ah.length + (allL l).length < 140737488355328 by omega)]
  refine Ev.bind (vtext s (by omega)) ?_
  simp only [if_pos (show (ah ++ allL l).length + (textL s).length < 140737488355328 by simp; omega), if_pos (show ((ah ++ allL l) ++ textL s).length + be.length < 140737488355328 by simp; omega)]
  have hB : Bytes (((ah ++ allL l) ++ textL s) ++ be) := ((ha.append (allL_bytes hu)).append (textL_bytes s (by omega))).append hb
  have hBl : (((ah ++ allL l) ++ textL s) ++ be).length ≤ 140737488355328 := by simp; omega
  refine Ev.bind (vtakeall _ hB hBl _ _ (by omega)) ?_
  refine Ev.bind (vtext_take _ hB hBl _) ?_
  have e1 : takeAll (((ah ++ allL l) ++ textL s) ++ be) (ah.length : Int) (l.length : Int).toNat (ah.length : Int) [] = (l, ((ah ++ allL l).length : Int), 0) := by
    have := takeAll_put (textL s ++ be) (ah.length : Int) l ah [] hu
    simpa using this
  have e2 : takeText (((ah ++ allL l) ++ textL s) ++ be) ((ah ++ allL l).length : Int) = (s, (((ah ++ allL l) ++ textL s).length : Int), 0) := by
    have := takeText_put (ah ++ allL l) be s (by omega) (by simp; omega) (by omega)
    simpa [Nat.add_assoc] using this
  rw [e1, e2]
  simp only [if_true]
  refine Ev.bind (same01 l l (by omega)) ?_
  simp only [decide_true, if_true, bne_self_eq_false]
  exact back_j1 l be hu (by omega) hb (by omega)
theorem VarintBack : chartroomlaw01_VarintBack.Pure := fun l s ah be _ _ hl _ _ _ ha _ _ hb => ev_true (back_ev l s ah be (U64.of_wf hl) (Bytes.of_wf ha) (Bytes.of_wf hb))
end Go.Proofs.Ytoeabgeglgiobaa.Pure
