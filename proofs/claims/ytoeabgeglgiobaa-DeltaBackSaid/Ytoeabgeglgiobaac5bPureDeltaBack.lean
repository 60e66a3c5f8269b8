/- What is written is parsed as it was; the normal delta does what the delta does; a text has as many bytes as Sizes tells: the plain law behind DeltaBack. Its conditions: those of the given statement. -/
import Derived.Test.Ytoeabgeglgiobaac5bQDst
import Derived.Test.Ytoeabgeglgiobaac5bQDnv
import Derived.Test.Ytoeabgeglgiobaac5bQDback
import Derived.Test.Ytoeabgeglgiobaac5bQDworks
import Derived.Test.Ytoeabgeglgiobaac5bGL05DeltaBack1
import Derived.Test.Ytoeabgeglgiobaac5bQOpen5
namespace Go.Proofs.Ytoeabgeglgiobaa.Pure
open Go.RowKit Go.Proofs.Ytoeabgeglgiobaa.P Go.Proofs.Ytoeabgeglgiobaa.Q Go.Proofs.YtoeabgeglgiobaaW.PrintWords Go.Proofs.YtoeabgeglgiobaaW.PrintLast
theorem dback_j2 (a : ByteArray) (L : List Ed) (ha : a.size ≤ 2000) (hl : L.length ≤ 30) (ht : ∀ x ∈ L, x.2.2.size ≤ 200) : Ev (fun k => chartroomlaw05_DeltaBack.j2 k a (L.map mk153)) true := by
  have hx := txtL_le 200 L ht
  have hS := totS_le 200 L ht
  refine ev_shift ?_
  simp only [chartroomlaw05_DeltaBack.j2]
  refine Ev.bind (vNormal L (by omega) (by omega)) ?_
  refine Ev.bind (ev_of (vApply a L (by omega))) ?_
  by_cases hr : rightL L = true
  · by_cases hn : rightL (nf L) = true
    · have e : nrm L = (nf L, 0) := by unfold nrm; rw [if_pos hr, if_pos hn]
      have hw := rightL_wr hr
      obtain ⟨_, n1, _⟩ := nf_reach _ L (Nat.lt_succ_self _) hw
      obtain ⟨_, _, f3, _⟩ := nf_facts L hw
      obtain ⟨d1, d2⟩ := nf_does L hr hn
      have e2 : nrm (nf L) = (nf L, 0) := by unfold nrm; rw [nf_idem L hw, if_pos hn, if_pos hn]
      have htn : ∀ x ∈ nf L, x.2.2.size ≤ 6000 := fun x hx => by have := totS_mem _ x hx; omega
      have hxn := txtL_le 6000 (nf L) htn
      simp only [e, if_true]
      refine Ev.bind (ev_of (vApply a (nf L) (by omega))) ?_
      refine Ev.bind (vNormal (nf L) (by omega) (by omega)) ?_
      refine Ev.bind (vSizes L 200 (by omega) (by omega) ht) ?_
      refine Ev.bind (vSizes (nf L) 6000 (by omega) (by omega) htn) ?_
      simp only [e2, d1, d2, if_true, List.length_map, if_neg (show ¬ ((nf L).length : Int) > L.length by omega)]
      refine Ev.bind (refs05 (nf L) (by omega)) ?_
      refine Ev.bind (same05 (nf L) (by omega)) ?_
      simp only [if_true]
      by_cases hs : (szL L).1 = a.size
      · have ea : apS a L = (⟨(apR a.data.toList [] L).toArray⟩, 0) := by unfold apS; rw [if_pos ⟨hr, hs⟩]
        have hlen := apR_len L a.data.toList [] hr (by rw [data_length]; omega)
        have hz : ((⟨(apR a.data.toList [] L).toArray⟩ : ByteArray).size : Int) = (szL L).2 := by
          have : (⟨(apR a.data.toList [] L).toArray⟩ : ByteArray).size = (apR a.data.toList [] L).length := by rw [← data_length]
          rw [this, hlen]; simp
        simp only [ea, hs, hz, beq_self_eq_true, if_true]
        exact works05_bind
      · have ea : apS a L = (emptyS, 50) := by unfold apS; rw [if_neg (fun z => hs z.2)]
        have hb : ((szL L).1 == (a.size : Int)) = false := beq_eq_false_iff_ne.2 hs
        simp only [ea, hb, show (((50 : Int) == 0) == false) = true by decide, if_true, if_neg (show ¬ (50 : Int) = 0 by decide)]
        exact works05_bind
    · have e : nrm L = ([], 3) := by unfold nrm; rw [if_pos hr, if_neg hn]
      simp only [e, if_neg (show ¬ (3 : Int) = 0 by decide)]
      exact works05_bind
  · have e : nrm L = ([], 2) := by unfold nrm; rw [if_neg hr]
    simp only [e, if_neg (show ¬ (2 : Int) = 0 by decide)]
    exact works05_bind
theorem dback_j1 (a : ByteArray) (L : List Ed) (b : List Int) (hb : Bytes b) (ha : a.size ≤ 2000) (hl : L.length ≤ 30) (ht : ∀ x ∈ L, x.2.2.size ≤ 200) (hbl : b.length ≤ 500) : Ev (fun k => chartroomlaw05_DeltaBack.j1 k a (L.map mk153) b) true := by
  refine ev_shift ?_
  simp only [chartroomlaw05_DeltaBack.j1]
  refine Ev.bind (vdparse b hb (by omega)) ?_
  by_cases h0 : (dparse b (b.length + 1) 0 []).2 = 0
  · simp only [h0, if_true]
    obtain ⟨X, x1, x2, x3⟩ := parse_back b hb (by omega) (b.length + 1) 0 [] _ (by omega) (by omega) (show dparse b (b.length + 1) ((0 : Nat) : Int) [] = ((dparse b (b.length + 1) 0 []).1, 0) from Prod.ext rfl h0)
    rw [List.nil_append] at x1
    rw [List.drop_zero] at x3
    rw [x1]
    have hm : ∀ x ∈ X, x.2.2.size ≤ 1000000 := by
      intro x hx
      have hle : (putE x).length ≤ b.length := by
        rw [← x3]
        obtain ⟨s, t, rfl⟩ := List.append_of_mem hx
        simp [putsL]
        omega
      by_cases k2 : x.1 = 2
      · unfold putE at hle
        rw [if_pos k2] at hle
        simp only [List.length_cons, textL, List.length_append, bytesOf_length] at hle
        omega
      · rcases (rightB_cases x.1 x.2.1 x.2.2).1 (List.all_eq_true.1 x2 x hx) with ⟨_, m, _, _, _, h5⟩ | ⟨q, _⟩
        · omega
        · exact absurd q k2
    have hXl : X.length ≤ 500 := by
      have : ∀ Y : List Ed, Y.length ≤ (putsL Y).length := by
        intro Y
        induction Y with
        | nil => exact Nat.zero_le _
        | cons y Y ih => rw [putsL_cons, List.length_append, List.length_cons]; simp only [putE, List.length_cons]; omega
      have := this X
      rw [x3] at this
      omega
    refine Ev.bind (vPut X (by omega) hm) ?_
    have ep : putR X = (b, 0) := by unfold putR; rw [if_pos x2, x3]
    simp only [ep, if_true]
    refine Ev.bind (sameBytes b b (by omega)) ?_
    simp only [decide_true, if_true]
    exact dback_j2 a L ha hl ht
  · simp only [if_neg h0]
    exact dback_j2 a L ha hl ht
theorem dback_few (a : ByteArray) (L : List Ed) (b : List Int) (hb : Bytes b) (ha : a.size ≤ 2000) (hf : FewE L) (hbl : b.length ≤ 500) : Ev (fun k => chartroomlaw05_DeltaBack.j0 k a (L.map mk153) b false) true := by
  obtain ⟨hl, ht⟩ := hf
  have hp : ∀ x ∈ L, x.2.2.size ≤ 1000000 := fun x hx => by have := ht x hx; omega
  refine ev_shift ?_
  simp only [chartroomlaw05_DeltaBack.j0, if_neg (show ¬ (false = true) by decide)]
  refine Ev.bind (vPut L (by omega) hp) ?_
  by_cases hr : rightL L = true
  · have ep : putR L = (putsL L, 0) := by unfold putR; rw [if_pos hr]
    have hlen : (putsL L).length ≤ 220 * L.length := by
      have : ∀ Y : List Ed, rightL Y = true → (∀ x ∈ Y, x.2.2.size ≤ 200) → (putsL Y).length ≤ 220 * Y.length := by
        intro Y
        induction Y with
        | nil => intro _ _; exact Nat.zero_le _
        | cons y Y ih =>
          intro h1 h2
          have e1 : rightL (y :: Y) = (rightE y && rightL Y) := rfl
          rw [e1, Bool.and_eq_true] at h1
          have := ih h1.2 (fun z hz => h2 z (List.mem_cons_of_mem _ hz))
          have h3 := h2 y (by simp)
          have : (putE y).length ≤ 220 := by
            unfold putE
            by_cases k2 : y.1 = 2
            · rw [if_pos k2]
              have := textL_len y.2.2 (by omega)
              simp only [List.length_cons]; omega
            · rw [if_neg k2]
              rcases (rightB_cases y.1 y.2.1 y.2.2).1 h1.1 with ⟨_, m, e, h3, h4, _⟩ | ⟨e, _⟩
              · have := putL_len_u64 (n := y.2.1.toNat) (by omega)
                simp only [List.length_cons]; omega
              · exact absurd e k2
          rw [putsL_cons, List.length_append, List.length_cons]; omega
      exact this L hr ht
    simp only [ep, if_true]
    refine Ev.bind (vdparse (putsL L) (putsL_bytes L hr hp) (by omega)) ?_
    have hpp := parse_put L ((putsL L).length + 1) [] [] hr (fun x hx => by have := ht x hx; omega) (by simp; omega) (by omega)
    rw [List.nil_append, List.nil_append] at hpp
    have hpp' : dparse (putsL L) ((putsL L).length + 1) 0 [] = (L, 0) := hpp
    simp only [hpp', if_true]
    refine Ev.bind (refs05 L (by omega)) ?_
    refine Ev.bind (same05 L (by omega)) ?_
    simp only [if_true]
    exact dback_j1 a L b hb ha hl ht hbl
  · have ep : putR L = ([], 2) := by unfold putR; rw [if_neg hr]
    simp only [ep, if_neg (show ¬ (2 : Int) = 0 by decide)]
    exact dback_j1 a L b hb ha hl ht hbl
theorem dback_works (a : ByteArray) (L : List S153) (b : List Int) : Ev (fun k => chartroomlaw05_DeltaBack.j0 k a L b true) true := by
  refine ev_shift ?_
  simp only [chartroomlaw05_DeltaBack.j0, if_true]
  exact works05_bind
theorem dback_ev (a : ByteArray) (L : List Ed) (b : List Int) (hb : Bytes b) : Ev (fun k => chartroomlaw05_DeltaBack.f k a (L.map mk153) b) true := by
  unfold chartroomlaw05_DeltaBack.f
  by_cases h1 : (a.size : Int) > 2000
  · simp only [if_pos h1]
    exact dback_works a _ b
  · simp only [if_neg h1]
    refine Ev.bind (few05 L) ?_
    by_cases h2 : FewE L
    · simp only [decide_eq_true h2, if_true]
      by_cases h3 : (b.length : Int) > 500
      · simp only [decide_eq_true h3]
        exact dback_works a _ b
      · simp only [decide_eq_false h3]
        exact dback_few a L b hb (by omega) h2 (by omega)
    · simp only [decide_eq_false h2, if_neg (show ¬ (false = true) by decide)]
      exact dback_works a _ b
theorem DeltaBack (a : ByteArray) (_ : a.size ≤ 140737488351232) (l : List S153) (_ : l.length * Try.prog.bytesOf 153 ≤ reachBytes) (_ : ∀ y ∈ l, Ok153 y) (b : List Int) (_ : b.length * Try.prog.bytesOf 5 ≤ reachBytes) (hb : ∀ y ∈ b, (fun n => (Lit.int .u8 n).wf = true) y) : ∃ k, chartroomlaw05_DeltaBack.f k a l b = some true := by
  rw [un153 l]
  exact ev_true (dback_ev a _ b (Bytes.of_wf hb))
end Go.Proofs.Ytoeabgeglgiobaa.Pure
