/- Any frames are written as the document says, or refused: the plain law behind FramePuts. Its conditions: those of the given statement. -/
import Derived.Test.Ytoeabgeglgiobaac3pQFjoin
import Derived.Test.Ytoeabgeglgiobaac3pQFworks
import Derived.Test.Ytoeabgeglgiobaac3pGL03FramePuts1
namespace Go.Proofs.Ytoeabgeglgiobaa.Pure
open Go.RowKit Go.Proofs.Ytoeabgeglgiobaa.P Go.Proofs.Ytoeabgeglgiobaa.Q Go.Proofs.YtoeabgeglgiobaaW.PrintWords Go.Proofs.YtoeabgeglgiobaaW.PrintLast
theorem putr_len (kd : Int) (body : List Int) (h : body.length < 140737488351240) : ((if body.length > 65535 then (([] : List Int), (3 : Int)) else (frmL kd body, 0)).1).length ≤ 65550 := by
  split
  · simp
  · have := frmL_len_le kd body h; simp only; omega
theorem fputs_l1 (L : List (Int × List Int)) (hl : L.length ≤ 1000) (hb : ∀ p ∈ L, Fr p) : ∀ (d i : Nat), i + d = L.length →
    Ev (fun k => chartroomlaw03_FramePuts.l1 k (L.map mk46) (L.map mk49) (i : Int)) true := by
  intro d
  induction d with
  | zero =>
    intro i h
    refine ev_shift ?_
    simp only [chartroomlaw03_FramePuts.l1, List.length_map, if_neg (show ¬ (i : Int) < L.length by omega)]
    refine Ev.bind (sameAll03 L (by omega) (fun p hp => (hb p hp).2.2.2)) ?_
    simp only [if_true]
    exact works03_bind
  | succ d ih =>
    intro i h
    have hi : i < L.length := by omega
    have hp := hb _ (List.getElem_mem hi)
    have hp4 := hp.2.2.2
    have hr := putr_len L[i].1 L[i].2 (by omega)
    refine ev_shift ?_
    simp only [chartroomlaw03_FramePuts.l1, List.length_map, if_pos (show (i : Int) < L.length by omega), if_pos (show (0 : Int) ≤ i by omega), get46 L i hi, get49 L i hi, mk46, mk49]
    refine Ev.bind (vput3 _ _ (by omega)) ?_
    refine Ev.bind (rput3 _ _ hp.1 hp.2.1 hp.2.2.1 (by omega)) ?_
    simp only [if_true]
    refine Ev.bind (sameBytes _ _ (by omega)) ?_
    simp only [decide_true, if_true]
    refine Ev.bind (vsize3 _ _ (by omega)) ?_
    refine Ev.bind (rsize3 _ _ hp.1 hp.2.1 hp.2.2.1 (by omega)) ?_
    simp only [if_true, w64 ((i : Int) + 1) (by omega) (by omega)]
    exact ih (i + 1) (by omega)
theorem fputs_main (L : List (Int × List Int)) (hl : L.length ≤ 1000) (hb : ∀ p ∈ L, Fr p) : Ev (fun k => chartroomlaw03_FramePuts.j0 k (L.map mk46) false) true := by
  have hn := jn_len L []
  simp only [List.length_nil] at hn
  obtain ⟨r, hr, _⟩ := spoil (jn [] L).1 (by omega)
  refine ev_shift ?_
  simp only [chartroomlaw03_FramePuts.j0, if_neg (show ¬ (false = true) by decide)]
  refine Ev.bind (rrefs L hl hb) ?_
  have round : ∀ i j : Int, i < 2 → wrap64 (i + 1) = j → Ev (fun k => chartroomlaw03_FramePuts.l0 k (L.map mk46) (L.map mk49) j) true → Ev (fun k => chartroomlaw03_FramePuts.l0 k (L.map mk46) (L.map mk49) i) true := fun i j h0 h1 h2 => by
    refine ev_shift ?_
    simp only [chartroomlaw03_FramePuts.l0, if_pos h0]
    refine Ev.bind (vjoin L hl hb) ?_
    refine Ev.bind (rjoin L hl hb) ?_
    simp only [if_true]
    refine Ev.bind (sameBytes _ _ (by omega)) ?_
    simp only [decide_true, if_true]
    refine Ev.bind hr ?_
    rw [h1]
    exact h2
  refine round 0 1 (by decide) (by decide +kernel) (round 1 2 (by decide) (by decide +kernel) (ev_shift ?_))
  simp only [chartroomlaw03_FramePuts.l0, if_neg (show ¬ (2 : Int) < 2 by decide)]
  exact fputs_l1 L hl hb L.length 0 (by omega)
theorem fputs_ev (L : List (Int × List Int)) (hb : ∀ p ∈ L, Fr p) : Ev (fun k => chartroomlaw03_FramePuts.f k (L.map mk46)) true := by
  unfold chartroomlaw03_FramePuts.f
  refine Ev.bind (few03 L) ?_
  have hj : Ev (fun k => chartroomlaw03_FramePuts.j0 k (L.map mk46) true) true := by
    refine ev_shift ?_
    simp only [chartroomlaw03_FramePuts.j0, if_true]
    exact works03_bind
  by_cases hf : FewF L
  · simp only [decide_eq_true hf, if_true]
    exact fputs_main L (by have := hf.1; omega) hb
  · simp only [decide_eq_false hf, if_neg (show ¬ (false = true) by decide), List.length_map]
    by_cases h1 : (L.length : Int) = 1
    · simp only [if_pos h1, if_pos (show (0 : Int) < L.length by omega)]
      generalize decide (((rd_T46 (L.map mk46) 0).f1.length : Int) ≤ 65535) = q
      cases q with
      | true => exact hj
      | false => exact fputs_main L (by omega) hb
    · simp only [if_neg h1]
      exact hj
theorem FramePuts (l : List S46) (_ : l.length * Try.prog.bytesOf 46 ≤ reachBytes) (h : ∀ x ∈ l, Ok46 x) : ∃ k, chartroomlaw03_FramePuts.f k l = some true := by
  rw [un46 l]
  refine ev_true (fputs_ev _ (fun p hp => ?_))
  obtain ⟨x, hx, rfl⟩ := List.mem_map.1 hp
  exact fr_of_ok46 (h x hx)
end Go.Proofs.Ytoeabgeglgiobaa.Pure
