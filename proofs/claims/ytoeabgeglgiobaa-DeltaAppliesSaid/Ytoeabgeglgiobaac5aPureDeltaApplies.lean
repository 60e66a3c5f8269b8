/- Any edits are looked at, applied to any text, made normal, and written, as the document says: the plain law behind DeltaApplies. Its conditions: those of the given statement. -/
import Derived.Test.Ytoeabgeglgiobaac5aQDapp
import Derived.Test.Ytoeabgeglgiobaac5aQDnr
import Derived.Test.Ytoeabgeglgiobaac5aQDworks
import Derived.Test.Ytoeabgeglgiobaac5aGL05DeltaApplies1
import Derived.Test.Ytoeabgeglgiobaac5aQOpen5
namespace Go.Proofs.Ytoeabgeglgiobaa.Pure
open Go.RowKit Go.Proofs.Ytoeabgeglgiobaa.P Go.Proofs.Ytoeabgeglgiobaa.Q Go.Proofs.YtoeabgeglgiobaaW.PrintWords Go.Proofs.YtoeabgeglgiobaaW.PrintLast
theorem nrm_len (L : List Ed) : (nrm L).1.length ≤ 3 * L.length + 2 := by
  unfold nrm
  by_cases h : rightL L = true
  · rw [if_pos h]
    split
    · exact (nf_facts L (rightL_wr h)).2.2.2
    · exact Nat.zero_le _
  · rw [if_neg h]; exact Nat.zero_le _
theorem putsL_len : ∀ (L : List Ed), rightL L = true → (∀ x ∈ L, x.2.2.size ≤ 1000000) → (putsL L).length ≤ 1000020 * L.length
  | [], _, _ => Nat.le_refl _
  | x :: l, h, ht => by
    have e1 : rightL (x :: l) = (rightE x && rightL l) := rfl
    rw [e1, Bool.and_eq_true] at h
    have := putsL_len l h.2 (fun y hy => ht y (List.mem_cons_of_mem _ hy))
    have := putE_len x h.1 (ht x (by simp))
    rw [putsL_cons, List.length_append, List.length_cons]
    omega
theorem putR_len (L : List Ed) (ht : ∀ x ∈ L, x.2.2.size ≤ 1000000) : (putR L).1.length ≤ 1000020 * L.length := by
  unfold putR
  by_cases h : rightL L = true
  · rw [if_pos h]; exact putsL_len L h ht
  · rw [if_neg h]; exact Nat.zero_le _
theorem dapplies_l0 (L : List Ed) (hl : L.length ≤ 30) : ∀ (d i : Nat) (N : List S153), i + d = N.length → N.length ≤ 1000000 → Ev (fun k => chartroomlaw05_DeltaApplies.l0 k (L.map mk153) (L.map mk226) N (i : Int)) true := by
  intro d
  induction d with
  | zero =>
    intro i N h hN
    refine ev_shift ?_
    simp only [chartroomlaw05_DeltaApplies.l0, if_neg (show ¬ (i : Int) < N.length by omega)]
    refine Ev.bind (same05 L (by omega)) ?_
    simp only [if_true]
    exact works05_bind
  | succ d ih =>
    intro i N h hN
    refine ev_shift ?_
    simp only [chartroomlaw05_DeltaApplies.l0, if_pos (show (i : Int) < N.length by omega), if_pos (show (0 : Int) ≤ i by omega), w64 ((i : Int) + 1) (by omega) (by omega)]
    exact ih (i + 1) _ (by rw [List.length_set]; omega) (by rw [List.length_set]; omega)
theorem dapplies_ev (a : ByteArray) (L : List Ed) : Ev (fun k => chartroomlaw05_DeltaApplies.f k a (L.map mk153)) true := by
  unfold chartroomlaw05_DeltaApplies.f
  by_cases h1 : (a.size : Int) > 2000
  · simp only [if_pos h1]
    refine ev_shift ?_
    simp only [chartroomlaw05_DeltaApplies.j0, if_true]
    exact works05_bind
  · simp only [if_neg h1]
    refine Ev.bind (few05 L) ?_
    refine ev_shift ?_
    by_cases h2 : FewE L
    · obtain ⟨hl, ht⟩ := h2
      have hx := txtL_le 200 L ht
      have hS := totS_le 200 L ht
      have hp : ∀ x ∈ L, x.2.2.size ≤ 1000000 := fun x hx => by have := ht x hx; omega
      have hN := nrm_len L
      have hP := putR_len L hp
      simp only [chartroomlaw05_DeltaApplies.j0, decide_eq_true (show FewE L from ⟨hl, ht⟩), Bool.not_true, if_neg (show ¬ (false = true) by decide)]
      refine Ev.bind (refs05 L (by omega)) ?_
      refine Ev.bind (ev_of (vApply a L (by omega))) ?_
      refine Ev.bind (rApply a L 200 (by omega) (by omega) (by omega) ht) ?_
      refine Ev.bind (vSizes L 200 (by omega) (by omega) ht) ?_
      refine Ev.bind (rSizes L 200 (by omega) (by omega) ht) ?_
      refine Ev.bind (vNormal L (by omega) (by omega)) ?_
      refine Ev.bind (rNormal L (by omega) (by omega)) ?_
      refine Ev.bind (vPut L (by omega) hp) ?_
      refine Ev.bind (rPut L (by omega) hp) ?_
      simp only [if_true]
      refine Ev.bind (same05 _ (by omega)) ?_
      simp only [if_true]
      refine Ev.bind (sameBytes _ _ (by omega)) ?_
      simp only [decide_true, if_true]
      refine Ev.bind (ev_of (vRight L)) ?_
      refine Ev.bind (rRight L (by omega)) ?_
      refine ev_shift ?_
      simp only [chartroomlaw05_DeltaApplies.j1, bne_self_eq_false, if_neg (show ¬ (false = true) by decide)]
      exact dapplies_l0 L hl ((nrm L).1.map mk153).length 0 _ (by omega) (by rw [List.length_map]; omega)
    · simp only [chartroomlaw05_DeltaApplies.j0, decide_eq_false h2, Bool.not_false, if_true]
      exact works05_bind
theorem DeltaApplies (a : ByteArray) (_ : a.size ≤ 140737488351232) (l : List S153) (_ : l.length * Try.prog.bytesOf 153 ≤ reachBytes) (_ : ∀ y ∈ l, Ok153 y) : ∃ k, chartroomlaw05_DeltaApplies.f k a l = some true := by
  rw [un153 l]
  exact ev_true (dapplies_ev a _)
end Go.Proofs.Ytoeabgeglgiobaa.Pure
