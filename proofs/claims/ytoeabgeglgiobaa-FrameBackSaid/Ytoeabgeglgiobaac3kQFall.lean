/- All frames, the one frame, and their comparison: as the program and the reference have them. No condition but the bounds in each theorem. -/
import Derived.Test.Ytoeabgeglgiobaac3kQFrame
import Derived.Test.Ytoeabgeglgiobaac3kGlaw030
namespace Go.Proofs.Ytoeabgeglgiobaa.Q
open Go.RowKit Go.Proofs.YtoeabgeglgiobaaW.PrintWords Go.Proofs.YtoeabgeglgiobaaW.PrintLast Go.Proofs.YtoeabgeglgiobaaW.PrintMore
open Go.Proofs.Ytoeabgeglgiobaa.P
theorem ftake_ok (b : List Int) (hb : Bytes b) (a : Int) (h : (ftake b a).2.2.2 = 0) : 0 ≤ a ∧ a + 4 < (ftake b a).2.2.1 ∧ (ftake b a).2.2.1 ≤ b.length ∧ (ftake b a).2.1.length ≤ 65535 := by
  unfold ftake at h ⊢
  by_cases h0 : a < 0 ∨ (b.length : Int) ≤ a
  · rw [if_pos h0] at h; exact absurd h (by simp)
  · rw [if_neg h0] at h ⊢
    by_cases h1 : (Q.take b (a + 1)).2.2 ≠ 0
    · rw [if_pos h1] at h; exact absurd h h1
    · rw [if_neg h1] at h ⊢
      have bd := take_bd b hb (a + 1) (by omega)
      by_cases h2 : (Q.take b (a + 1)).1 > 65535
      · rw [if_pos h2] at h; exact absurd h (by simp)
      · rw [if_neg h2] at h ⊢
        by_cases h3 : (b.length : Int) < (Q.take b (a + 1)).2.1 + (Q.take b (a + 1)).1 + 4
        · rw [if_pos h3] at h; exact absurd h (by simp)
        · rw [if_neg h3] at h ⊢
          split
          · refine ⟨by omega, by simp only; omega, by simp only; omega, ?_⟩
            simp only [List.length_drop, List.length_take]; omega
          · rename_i h4
            rw [if_neg h4] at h; exact absurd h (by simp)
/-- All frames from a place on, at most m. -/
def fall (b : List Int) : Nat → Int → List (Int × List Int) × Int
  | 0, a => ([], a)
  | m + 1, a => if (ftake b a).2.2.2 = 0 then (((ftake b a).1, (ftake b a).2.1) :: (fall b m (ftake b a).2.2.1).1, (fall b m (ftake b a).2.2.1).2) else ([], a)
def mk46 (p : Int × List Int) : S46 := ⟨p.1, p.2⟩
def mk49 (p : Int × List Int) : S49 := ⟨p.1, p.2⟩
theorem vfall_l0 (b : List Int) (hb : Bytes b) (hs : b.length ≤ 900000) : ∀ (m : Nat) (a : Int) (acc : List S46), 0 ≤ a → a ≤ b.length → (b.length : Int) - a < m → (acc.length : Int) ≤ a →
    Ev (fun k => frame_All.l0 k b acc a) (acc ++ (fall b m a).1.map mk46, (fall b m a).2) := by
  intro m
  induction m with
  | zero => intro a acc h0 h1 h2 h3; omega
  | succ m ih =>
    intro a acc h0 h1 h2 h3
    refine ev_shift ?_
    simp only [frame_All.l0]
    refine Ev.bind (vftake b hb (by omega) a) ?_
    unfold fall
    by_cases q : (ftake b a).2.2.2 = 0
    · obtain ⟨o1, o2, o3, o4⟩ := ftake_ok b hb a q
      simp only [if_pos q, if_pos (show acc.length < 4398046511104 by omega)]
      refine ev_eq (ih _ _ (by omega) o3 (by omega) (by simp; omega)) ?_
      simp [mk46]
    · simp only [if_neg q]
      exact ev_some (by simp)
theorem vfall (b : List Int) (hb : Bytes b) (hs : b.length ≤ 900000) : Ev (fun k => frame_All.f k b) ((fall b (b.length + 1) 0).1.map mk46, (fall b (b.length + 1) 0).2) := by
  unfold frame_All.f
  exact vfall_l0 b hb hs (b.length + 1) 0 [] (by omega) (by omega) (by omega) (by simp)
theorem same03 (a c : Int) (xs ys : List Int) (hx : xs.length ≤ 140737488355328) : Ev (fun k => chartroomlaw03_same.f k a xs c ys) (decide (a = c ∧ xs = ys)) := by
  unfold chartroomlaw03_same.f
  by_cases h : a = c
  · simp only [if_pos h]
    refine Ev.bind (sameBytes xs ys hx) (ev_some ?_)
    simp [h]
  · simp only [if_neg h]
    exact ev_some (by simp [h])
theorem get46 (L : List (Int × List Int)) (i : Nat) (h : i < L.length) : rd_T46 (L.map mk46) (i : Int) = mk46 L[i] := by simp [rd_T46, List.getD, h]
theorem get49 (L : List (Int × List Int)) (i : Nat) (h : i < L.length) : rd_T49 (L.map mk49) (i : Int) = mk49 L[i] := by simp [rd_T49, List.getD, h]
theorem sameAll03 (L : List (Int × List Int)) (hl : L.length ≤ 1000000) (hx : ∀ p ∈ L, p.2.length ≤ 140737488351232) : Ev (fun k => chartroomlaw03_sameAll.f k (L.map mk46) (L.map mk49)) true := by
  unfold chartroomlaw03_sameAll.f
  simp only [List.length_map, if_true]
  have key : ∀ (d i : Nat), i + d = L.length → Ev (fun k => chartroomlaw03_sameAll.l0 k (L.map mk46) (L.map mk49) (i : Int)) true := by
    intro d
    induction d with
    | zero =>
      intro i h
      refine ev_shift ?_
      simp only [chartroomlaw03_sameAll.l0, List.length_map, if_neg (show ¬ (i : Int) < L.length by omega)]
      exact Ev.now _
    | succ d ih =>
      intro i h
      have hi : i < L.length := by omega
      refine ev_shift ?_
      simp only [chartroomlaw03_sameAll.l0, List.length_map, if_pos (show (i : Int) < L.length by omega), if_pos (show (0 : Int) ≤ i by omega), get46 L i hi, get49 L i hi, mk46, mk49]
      refine Ev.bind (same03 _ _ _ _ (by have := hx _ (List.getElem_mem hi); omega)) ?_
      simp only [and_self, decide_true, if_true, w64 ((i : Int) + 1) (by omega) (by omega)]
      exact ih (i + 1) (by omega)
  exact key L.length 0 (by omega)
end Go.Proofs.Ytoeabgeglgiobaa.Q
