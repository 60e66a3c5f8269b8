/- The normal form of edits, as the reference makes it: the program's. No condition but the bounds in each theorem. -/
import Derived.Test.Ytoeabgeglgiobaac5aQDnv
import Derived.Test.Ytoeabgeglgiobaac5aGref05n
namespace Go.Proofs.Ytoeabgeglgiobaa.Q
open Go.RowKit Go.Proofs.YtoeabgeglgiobaaW.PrintWords Go.Proofs.YtoeabgeglgiobaaW.PrintLast Go.Proofs.YtoeabgeglgiobaaW.PrintMore
open Go.Proofs.Ytoeabgeglgiobaa.P
def mrgR (L : List Ed) : List Ed × Bool := match mrg L with | some M => (M, true) | none => (L, false)
theorem rmerge_l0 (L : List Ed) (hl : L.length ≤ 100000) (hw : ∀ x ∈ L, Wr x) (hn : totN L ≤ 4000000000000000) (ht : totS L ≤ 1000000000) : ∀ (d i : Nat), i + d = L.length →
    Ev (fun k => chartroomref05_merge.l0 k (L.map mk226) (i : Int)) (match mrg (L.drop i) with | some M => ((L.take i ++ M).map mk226, true) | none => (L.map mk226, false)) := by
  intro d
  induction d with
  | zero =>
    intro i h
    refine ev_shift ?_
    simp only [chartroomref05_merge.l0, List.length_map, w64 ((i : Int) + 1) (by omega) (by omega), if_neg (show ¬ (i : Int) + 1 < L.length by omega)]
    rw [List.drop_eq_nil_of_le (by omega)]
    exact Ev.now _
  | succ d ih =>
    intro i h
    have hi : i < L.length := by omega
    refine ev_shift ?_
    by_cases hi2 : i + 1 < L.length
    · have next := ih (i + 1) (by omega)
      have hdrop : L.drop i = L[i] :: L[i + 1] :: L.drop (i + 2) := by rw [List.drop_eq_getElem_cons hi, List.drop_eq_getElem_cons hi2]
      have hdrop1 : L.drop (i + 1) = L[i + 1] :: L.drop (i + 2) := List.drop_eq_getElem_cons hi2
      have htk : (L.map mk226).take ((i : Int)).toNat = (L.take i).map mk226 := by rw [Int.toNat_natCast, List.map_take]
      have hdr : (L.map mk226).drop (((i : Int) + 2)).toNat = (L.drop (i + 2)).map mk226 := by rw [show ((i : Int) + 2).toNat = i + 2 by omega, List.map_drop]
      have hg2 : rd_T226 (L.map mk226) ((i : Int) + 1) = mk226 L[i + 1] := get226 L (i + 1) hi2
      have m1 := (totN_mem L hw).2 _ (List.getElem_mem hi)
      have m2 := (totN_mem L hw).2 _ (List.getElem_mem hi2)
      have s1 := totS_mem L _ (List.getElem_mem hi)
      have s2 := totS_mem L _ (List.getElem_mem hi2)
      have hlt : (L.take i).length ≤ 100000 := by rw [List.length_take]; omega
      have hld : (L.drop (i + 2)).length ≤ 100000 := by rw [List.length_drop]; omega
      simp only [chartroomref05_merge.l0, List.length_map, w64 ((i : Int) + 1) (by omega) (by omega), w64 ((i : Int) + 2) (by omega) (by omega), if_pos (show (i : Int) + 1 < L.length by omega), if_pos (show (0 : Int) ≤ i by omega), if_pos (show (i : Int) < L.length by omega), if_pos (show (0 : Int) ≤ (i : Int) + 1 by omega), if_pos (show (i : Int) ≤ L.length by omega), Option.bind_some, htk, hdr, hg2, get226 L i hi, mk226, List.nil_append, List.length_nil, Nat.zero_add, if_pos (show (L.take i).length < 4398046511104 by omega), if_pos (show (0 : Int) ≤ (i : Int) + 2 by omega), if_pos (show (i : Int) + 2 ≤ L.length by omega)]
      rw [hdrop, mrg]
      rw [hdrop1] at next
      have htk1 : L.take (i + 1) = L.take i ++ [L[i]] := take_snoc L i hi
      generalize L[i] = a at *
      generalize L[i + 1] = b at *
      by_cases h1 : a.1 = b.1
      · rw [if_pos h1]
        simp only [if_pos h1, if_pos (show a.2.2.size + b.2.2.size ≤ 9223372036854775807 by omega), w64 (a.2.1 + b.2.1) (by omega) (by omega), List.length_append, List.length_map, List.length_singleton, if_pos (show (L.take i).length + 1 + (L.drop (i + 2)).length < 4398046511104 by omega)]
        refine ev_some ?_
        simp [mk226]
      · rw [if_neg h1]
        by_cases h2 : a.1 = 3 ∧ b.1 = 2
        · rw [if_pos h2]
          simp only [if_neg h1, if_pos h2.1, if_pos h2.2, List.length_append, List.length_map, List.length_cons, List.length_nil, Nat.zero_add, if_pos (show (L.take i).length + (1 + 1) < 4398046511104 by omega), if_pos (show (L.take i).length + (1 + 1) + (L.drop (i + 2)).length < 4398046511104 by omega)]
          refine ev_some ?_
          simp [mk226]
        · rw [if_neg h2]
          have hgoal : Ev (fun k => chartroomref05_merge.l0 k (L.map mk226) ((i : Int) + 1)) (match (mrg (b :: L.drop (i + 2))).map (a :: ·) with | some M => ((L.take i ++ M).map mk226, true) | none => (L.map mk226, false)) := by
            cases hm : mrg (b :: L.drop (i + 2)) with
            | none => rw [hm] at next; exact next
            | some M =>
              rw [hm] at next
              refine ev_eq next ?_
              rw [htk1]
              simp
          by_cases h3 : a.1 = 3
          · have h4 : ¬ b.1 = 2 := fun z => h2 ⟨h3, z⟩
            simp only [if_neg h1, if_pos h3, if_neg h4]
            exact hgoal
          · simp only [if_neg h1, if_neg h3]
            exact hgoal
    · simp only [chartroomref05_merge.l0, List.length_map, w64 ((i : Int) + 1) (by omega) (by omega), if_neg (show ¬ (i : Int) + 1 < L.length by omega)]
      have : L.drop i = [L[i]] := by rw [List.drop_eq_getElem_cons hi, List.drop_eq_nil_of_le (by omega)]
      rw [this]
      exact Ev.now _
theorem rmerge (L : List Ed) (hl : L.length ≤ 100000) (hw : ∀ x ∈ L, Wr x) (hn : totN L ≤ 4000000000000000) (ht : totS L ≤ 1000000000) : Ev (fun k => chartroomref05_merge.f k (L.map mk226)) ((mrgR L).1.map mk226, (mrgR L).2) := by
  unfold chartroomref05_merge.f
  refine ev_eq (rmerge_l0 L hl hw hn ht L.length 0 (by omega)) ?_
  rw [List.drop_zero]
  unfold mrgR
  cases mrg L with
  | none => rfl
  | some M => simp
theorem rNormal_l0 : ∀ (m : Nat) (L : List Ed), L.length + inv3 L < m → L.length ≤ 100000 → (∀ x ∈ L, Wr x) → totN L ≤ 4000000000000000 → totS L ≤ 1000000000 →
    Ev (fun k => chartroomref05_Normal.l0 k (L.map mk226) true) ((if rightL (nf L) = true then (nf L, (0 : Int)) else ([], 3)).1.map mk226, (if rightL (nf L) = true then (nf L, (0 : Int)) else ([], 3)).2) := by
  intro m
  induction m with
  | zero => intro L h; omega
  | succ m ih =>
    intro L h hl hw hn ht
    refine ev_shift ?_
    simp only [chartroomref05_Normal.l0, if_true]
    refine Ev.bind (rmerge L hl hw hn ht) ?_
    unfold mrgR
    cases hm : mrg L with
    | some M =>
      obtain ⟨k1, k2, k3⟩ := mrg_less L M hm
      obtain ⟨t1, t2⟩ := mrg_tot L M hm
      have hnf : nf M = nf L := by unfold nf; rw [nf_mrg L M _ hw hm]
      have := ih M (by omega) (by omega) (mrg_wr L M hw hm) (by omega) (by omega)
      rw [hnf] at this
      exact this
    | none =>
      have hnf := nf_fix L hw hm
      refine ev_shift ?_
      simp only [chartroomref05_Normal.l0, if_neg (show ¬ (false = true) by decide)]
      refine Ev.bind (rRight L (by omega)) ?_
      rw [hnf]
      by_cases hq : rightL L = true
      · simp only [if_pos hq]; exact Ev.now _
      · simp only [if_neg hq]; exact Ev.now _
theorem rNormal (L : List Ed) (hl : L.length ≤ 1000) (ht : totS L ≤ 1000000000) : Ev (fun k => chartroomref05_Normal.f k (L.map mk226)) ((nrm L).1.map mk226, (nrm L).2) := by
  unfold chartroomref05_Normal.f nrm
  refine Ev.bind (rRight L (by omega)) ?_
  by_cases hr : rightL L = true
  · simp only [if_pos hr]
    have htn := totN_le 2147483647 L (fun x hx => ((rightL_iff L).1 hr x hx).2)
    exact rNormal_l0 (L.length + inv3 L + 1) L (by omega) (by omega) (rightL_wr hr) (by omega) ht
  · simp only [if_neg hr]
    exact Ev.now _
end Go.Proofs.Ytoeabgeglgiobaa.Q
