/- What is put is taken as it was, whatever stands ahead and behind; what is left of frames whose end is cut off are those that are whole: the plain law behind FrameBack. Its conditions: those of the given statement. -/
import Derived.Test.Ytoeabgeglgiobaac3kQFjoin
import Derived.Test.Ytoeabgeglgiobaac3kQFworks
import Derived.Test.Ytoeabgeglgiobaac3kQKit
import Derived.Test.Ytoeabgeglgiobaac3kGL03FrameBack1
namespace Go.Proofs.Ytoeabgeglgiobaa.Pure
open Go.RowKit Go.Proofs.Ytoeabgeglgiobaa.P Go.Proofs.Ytoeabgeglgiobaa.Q Go.Proofs.YtoeabgeglgiobaaW.PrintWords Go.Proofs.YtoeabgeglgiobaaW.PrintLast
theorem split_at {α : Type} (L : List α) (i : Nat) (hi : i < L.length) : L = L.take i ++ L[i] :: L.drop (i + 1) := by
  rw [← List.drop_eq_getElem_cons hi, List.take_append_drop]
theorem joinL_at (L : List (Int × List Int)) (i : Nat) (hi : i < L.length) : joinL L = joinL (L.take i) ++ (frmL L[i].1 L[i].2 ++ joinL (L.drop (i + 1))) := by
  rw [← joinL_cons, ← joinL_append, ← split_at L i hi]
theorem joinL_snoc (L : List (Int × List Int)) (i : Nat) (hi : i < L.length) : joinL (L.take (i + 1)) = joinL (L.take i) ++ frmL L[i].1 L[i].2 := by
  rw [take_snoc L i hi, joinL_append]; simp [joinL]
section
variable (L : List (Int × List Int)) (hf : FewF L) (hb : ∀ p ∈ L, Fr p)
include hf hb
theorem fback_j3 (n w : Nat) (hw : w ≤ L.length) (hg : (joinL (L.take w)).length ≤ n) (hn : n ≤ (joinL L).length)
    (hend : (ftake ((joinL L).take n) ((joinL (L.take w)).length : Int)).2.2.2 ≠ 0) :
    Ev (fun k => chartroomlaw03_FrameBack.j3 k (L.map mk46) (joinL L) (n : Int) (w : Int) ((joinL (L.take w)).length : Int)) true := by
  have hL := joinL_len L 400 (by omega) hf.2
  have hl10 := hf.1
  have hB := joinL_bytes L hb
  have e : (joinL L).take n = [] ++ (joinL (L.take w) ++ (joinL (L.drop w)).take (n - (joinL (L.take w)).length)) := by
    have : joinL L = joinL (L.take w) ++ joinL (L.drop w) := by rw [← joinL_append, List.take_append_drop]
    rw [List.nil_append]
    conv => lhs; rw [this]
    rw [List.take_append, List.take_of_length_le hg]
  have hfl := fall_join ((joinL (L.drop w)).take (n - (joinL (L.take w)).length)) (L.take w) [] (((joinL L).take n).length + 1) (fun p hp => by have := hf.2 p (List.mem_of_mem_take hp); omega) (by
      have := (joinL_len (L.take w) 400 (by omega) (fun p hp => hf.2 p (List.mem_of_mem_take hp))).2
      simp only [List.length_take] at this ⊢
      omega) (by rw [← e, List.length_nil, Nat.zero_add]; exact hend)
  rw [← e, List.length_nil, Nat.zero_add] at hfl
  refine ev_shift ?_
  simp only [chartroomlaw03_FrameBack.j3, if_pos (show (0 : Int) ≤ n by omega), if_pos (show (n : Int) ≤ ((joinL L).length : Int) by omega), Int.toNat_natCast, List.length_map, if_pos (show (0 : Int) ≤ w by omega), if_pos (show (w : Int) ≤ (L.length : Int) by omega), ← List.map_take]
  refine Ev.bind (vfall _ (hB.take n) (by simp only [List.length_take]; omega)) ?_
  have hfl' : fall ((joinL L).take n) (((joinL L).take n).length + 1) 0 = (L.take w, ((joinL (L.take w)).length : Int)) := hfl
  rw [hfl']
  refine Ev.bind (rrefs (L.take w) (by simp only [List.length_take]; omega) (fun p hp => hb p (List.mem_of_mem_take hp))) ?_
  refine Ev.bind (sameAll03 (L.take w) (by simp only [List.length_take]; omega) (fun p hp => (hb p (List.mem_of_mem_take hp)).2.2.2)) ?_
  simp only [if_true]
  exact works03_bind
theorem fback_l1 (n : Nat) (hn : n ≤ (joinL L).length) : ∀ (d w : Nat), w + d = L.length → (joinL (L.take w)).length ≤ n →
    Ev (fun k => chartroomlaw03_FrameBack.l1 k (L.map mk46) (joinL L) (n : Int) (w : Int) ((joinL (L.take w)).length : Int)) true := by
  have hL := joinL_len L 400 (by omega) hf.2
  have hl10 := hf.1
  have hB := joinL_bytes L hb
  intro d
  induction d with
  | zero =>
    intro w h hg
    refine ev_shift ?_
    simp only [chartroomlaw03_FrameBack.l1, List.length_map, if_neg (show ¬ (w : Int) < L.length by omega)]
    refine fback_j3 L hf hb n w (by omega) hg hn ?_
    rw [List.take_of_length_le (show L.length ≤ w by omega)] at hg ⊢
    rw [List.take_of_length_le (show (joinL L).length ≤ n by omega)]
    exact ftake_end _
  | succ d ih =>
    intro w h hg
    have hi : w < L.length := by omega
    have hp := hb _ (List.getElem_mem hi)
    have hp4 := hf.2 _ (List.getElem_mem hi)
    have hfl := frmL_len_le L[w].1 L[w].2 (by omega)
    refine ev_shift ?_
    simp only [chartroomlaw03_FrameBack.l1, List.length_map, if_pos (show (w : Int) < L.length by omega), if_pos (show (0 : Int) ≤ w by omega), get46 L w hi, mk46]
    refine Ev.bind (vsize3 _ _ (by omega)) ?_
    simp only [w64 (((joinL (L.take w)).length : Int) + ((frmL L[w].1 L[w].2).length : Int)) (by omega) (by omega), w64 ((w : Int) + 1) (by omega) (by omega)]
    by_cases hq : ((joinL (L.take w)).length : Int) + ((frmL L[w].1 L[w].2).length : Int) ≤ n
    · simp only [if_pos hq]
      refine Ev.bind (vsize3 _ _ (by omega)) ?_
      simp only [w64 (((joinL (L.take w)).length : Int) + ((frmL L[w].1 L[w].2).length : Int)) (by omega) (by omega)]
      have := ih (w + 1) (by omega) (by rw [joinL_snoc L w hi, List.length_append]; omega)
      rw [joinL_snoc L w hi, List.length_append] at this
      simpa only [Int.natCast_add, Int.cast_ofNat_Int] using this
    · simp only [if_neg hq]
      refine fback_j3 L hf hb n w (by omega) hg hn ?_
      rw [joinL_at L w hi, List.take_append, List.take_of_length_le hg, List.take_append_of_le_length (by omega)]
      exact ftake_cut _ (joinL_bytes _ (fun p hp => hb p (List.mem_of_mem_take hp))) _ _ hp.1 hp.2.1 hp.2.2.1 (by omega) _ (by omega)
theorem fback_l0 (ahead : List Int) (ha : Bytes ahead) (hal : ahead.length ≤ 100) (cut : Int) : ∀ (d i : Nat), i + d = L.length →
    Ev (fun k => chartroomlaw03_FrameBack.l0 k (L.map mk46) cut (joinL L) ((ahead.length + (joinL (L.take i)).length : Nat) : Int) (ahead ++ joinL L) (i : Int)) true := by
  have hL := joinL_len L 400 (by omega) hf.2
  have hl10 := hf.1
  have hB := joinL_bytes L hb
  intro d
  induction d with
  | zero =>
    intro i h
    obtain ⟨j, hj, hj1⟩ := pick_some cut ((joinL L).length + 1) (by omega) (by omega)
    refine ev_shift ?_
    simp only [chartroomlaw03_FrameBack.l0, List.length_map, if_neg (show ¬ (i : Int) < L.length by omega), w64 (((joinL L).length : Int) + 1) (by omega) (by omega), hj, Option.bind_some]
    exact fback_l1 L hf hb j (by omega) L.length 0 (by omega) (by simp [joinL])
  | succ d ih =>
    intro i h
    have hi : i < L.length := by omega
    have hp := hb _ (List.getElem_mem hi)
    have hp4 := hf.2 _ (List.getElem_mem hi)
    have hfl := frmL_len_le L[i].1 L[i].2 (by omega)
    have hat := joinL_at L i hi
    have hlen := congrArg List.length hat
    simp only [List.length_append] at hlen
    have ft : ftake (ahead ++ joinL L) ((ahead.length + (joinL (L.take i)).length : Nat) : Int) = (L[i].1, L[i].2, ((ahead.length + (joinL (L.take i)).length + (frmL L[i].1 L[i].2).length : Nat) : Int), 0) := by
      have := ftake_put (ahead ++ joinL (L.take i)) (joinL (L.drop (i + 1))) L[i].1 L[i].2 (by omega)
      rw [List.append_assoc, ← hat, List.length_append] at this
      exact this
    have es : ((L.map mk46).take ((i : Int) + 1).toNat).drop (i : Int).toNat = [L[i]].map mk46 := by
      rw [show ((i : Int) + 1).toNat = i + 1 by omega, Int.toNat_natCast, ← List.map_take, take_snoc L i hi, List.map_append, List.drop_left' (by simp; omega)]
    have eg : rd_T49 ([L[i]].map mk49) 0 = mk49 L[i] := rfl
    refine ev_shift ?_
    simp only [chartroomlaw03_FrameBack.l0, List.length_map, if_pos (show (i : Int) < L.length by omega), if_pos (show (0 : Int) ≤ i by omega), get46 L i hi, mk46, w64 ((i : Int) + 1) (by omega) (by omega), if_pos (show (i : Int) ≤ i + 1 by omega), if_pos (show (i : Int) + 1 ≤ L.length by omega)]
    refine Ev.bind (vftake (ahead ++ joinL L) (ha.append hB) (by simp only [List.length_append]; omega) _) ?_
    rw [ft]
    simp only [if_true]
    refine Ev.bind (vsize3 _ _ (by omega)) ?_
    rw [w64 (((ahead.length + (joinL (L.take i)).length : Nat) : Int) + ((frmL L[i].1 L[i].2).length : Int)) (by omega) (by omega)]
    simp only [if_pos (show ((ahead.length + (joinL (L.take i)).length + (frmL L[i].1 L[i].2).length : Nat) : Int) = ((ahead.length + (joinL (L.take i)).length : Nat) : Int) + ((frmL L[i].1 L[i].2).length : Int) by omega)]
    rw [es]
    refine Ev.bind (rrefs [L[i]] (by simp) (fun p hp' => by rw [List.mem_singleton.1 hp']; exact hp)) ?_
    rw [eg]
    simp only [List.length_map, List.length_singleton, if_pos (show (0 : Int) < ((1 : Nat) : Int) by decide), mk49]
    refine Ev.bind (same03 _ _ _ _ (by omega)) ?_
    simp only [and_self, decide_true, if_true]
    have := ih (i + 1) (by omega)
    rw [joinL_snoc L i hi, List.length_append] at this
    simpa only [Int.natCast_add, Int.cast_ofNat_Int, Nat.add_assoc] using this
theorem fback_main (ahead : List Int) (ha : Bytes ahead) (hal : ahead.length ≤ 100) (cut : Int) : Ev (fun k => chartroomlaw03_FrameBack.j0 k (L.map mk46) ahead cut false) true := by
  have hL := joinL_len L 400 (by omega) hf.2
  have hl10 := hf.1
  refine ev_shift ?_
  simp only [chartroomlaw03_FrameBack.j0, if_neg (show ¬ (false = true) by decide)]
  refine Ev.bind (vjoin L (by omega) hb) ?_
  rw [jn_ok L [] (fun p hp => by have := hf.2 p hp; omega)]
  simp only [List.nil_append, if_true, own_some ahead (by omega), Option.bind_some, if_pos (show ahead.length + (joinL L).length < 140737488355328 by omega)]
  have := fback_l0 L hf hb ahead ha hal cut L.length 0 (by omega)
  simpa only [List.take_zero, joinL, List.flatMap_nil, List.length_nil, Nat.add_zero, Int.ofNat_zero, Int.cast_ofNat_Int] using this
end
theorem fback_ev (L : List (Int × List Int)) (hb : ∀ p ∈ L, Fr p) (ahead : List Int) (ha : Bytes ahead) (cut : Int) : Ev (fun k => chartroomlaw03_FrameBack.f k (L.map mk46) ahead cut) true := by
  unfold chartroomlaw03_FrameBack.f
  refine Ev.bind (few03 L) ?_
  have hj : Ev (fun k => chartroomlaw03_FrameBack.j0 k (L.map mk46) ahead cut true) true := by
    refine ev_shift ?_
    simp only [chartroomlaw03_FrameBack.j0, if_true]
    exact works03_bind
  by_cases hf : FewF L
  · simp only [decide_eq_true hf, if_true]
    by_cases hal : (ahead.length : Int) > 100
    · simp only [decide_eq_true hal]; exact hj
    · simp only [decide_eq_false hal]; exact fback_main L hf hb ahead ha (by omega) cut
  · simp only [decide_eq_false hf, if_neg (show ¬ (false = true) by decide)]
    exact hj
theorem FrameBack (l : List S46) (_ : l.length * Try.prog.bytesOf 46 ≤ reachBytes) (h : ∀ x ∈ l, Ok46 x) (ahead : List Int) (_ : ahead.length * Try.prog.bytesOf 5 ≤ reachBytes) (ha : ∀ y ∈ ahead, (Lit.int .u8 y).wf = true) (cut : Int) (_ : (Lit.int .i64 cut).wf = true) : ∃ k, chartroomlaw03_FrameBack.f k l ahead cut = some true := by
  rw [un46 l]
  refine ev_true (fback_ev _ (fun p hp => ?_) ahead (Bytes.of_wf ha) cut)
  obtain ⟨x, hx, rfl⟩ := List.mem_map.1 hp
  exact fr_of_ok46 (h x hx)
end Go.Proofs.Ytoeabgeglgiobaa.Pure
