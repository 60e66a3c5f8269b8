/- How frames are written one behind the other, taken again behind whatever stands ahead, and what is left of them where they are cut. No condition but the bounds in each theorem. -/
import Derived.Test.Ytoeabgeglgiobaac3pQFall
import Derived.Test.Ytoeabgeglgiobaac3pQVtake
import Derived.KernelRfl
import Derived.Test.Ytoeabgeglgiobaac3pQOpen
namespace Go.Proofs.Ytoeabgeglgiobaa.Q
open Go.RowKit Go.Proofs.YtoeabgeglgiobaaW.PrintWords Go.Proofs.YtoeabgeglgiobaaW.PrintLast Go.Proofs.YtoeabgeglgiobaaW.PrintMore
open Go.Proofs.Ytoeabgeglgiobaa.P
theorem un46 (l : List S46) : l = (l.map fun x => (x.f0, x.f1)).map mk46 := by
  rw [List.map_map]; exact (List.map_id l).symm
/-- A frame that can be: its kind one byte, its body bytes, not past the reach. -/
def Fr (p : Int × List Int) : Prop := 0 ≤ p.1 ∧ p.1 < 256 ∧ Bytes p.2 ∧ p.2.length ≤ 140737488351232
theorem fr_of_ok46 {x : S46} (h : Ok46 x) : Fr (x.f0, x.f1) := by
  have hk := Bytes.of_wf (l := [x.f0]) (fun y hy => by rw [List.mem_singleton.1 hy]; exact h.1) x.f0 (by simp)
  exact ⟨hk.1, hk.2, Bytes.of_wf h.2.2, h.2.1⟩
theorem frmL_len_le (kd : Int) (body : List Int) (h : body.length < 140737488351240) : (frmL kd body).length ≤ body.length + 15 ∧ body.length + 5 ≤ (frmL kd body).length := by
  have h1 := frmP_len kd body h
  have h2 := frmL_len kd body
  omega
/-- Frames, written behind what there is: or one that is too long. -/
def jn : List Int → List (Int × List Int) → List Int × Int
  | acc, [] => (acc, 0)
  | acc, p :: l => if p.2.length > 65535 then ([], 3) else jn (acc ++ frmL p.1 p.2) l
theorem jn_len : ∀ (l : List (Int × List Int)) (acc : List Int), (jn acc l).1.length ≤ acc.length + 65550 * l.length := by
  intro l
  induction l with
  | nil => intro acc; simp [jn]
  | cons p l ih =>
    intro acc
    unfold jn
    split
    · simp
    · rename_i q
      have := ih (acc ++ frmL p.1 p.2)
      have h1 := frmL_len_le p.1 p.2 (by omega)
      simp only [List.length_append, List.length_cons] at this ⊢
      omega
theorem vjoin_l0 (L : List (Int × List Int)) (hl : L.length ≤ 1000) (hb : ∀ p ∈ L, Fr p) : ∀ (d i : Nat) (acc : List Int), i + d = L.length → acc.length ≤ 65550 * i →
    Ev (fun k => frame_Join.l0 k acc (L.map mk46) ((L.map mk46).length : Int) (i : Int)) (jn acc (L.drop i)) := by
  intro d
  induction d with
  | zero =>
    intro i acc h ha
    refine ev_shift ?_
    simp only [frame_Join.l0, List.length_map, if_neg (show ¬ (i : Int) < L.length by omega)]
    exact ev_some (by rw [List.drop_eq_nil_of_le (by omega)]; rfl)
  | succ d ih =>
    intro i acc h ha
    have hi : i < L.length := by omega
    have hp := hb _ (List.getElem_mem hi)
    have hp4 := hp.2.2.2
    refine ev_shift ?_
    simp only [frame_Join.l0, List.length_map, if_pos (show (i : Int) < L.length by omega), if_pos (show (0 : Int) ≤ i by omega), get46 L i hi, mk46]
    refine Ev.bind (vput3 _ _ (by omega)) ?_
    rw [List.drop_eq_getElem_cons hi]
    by_cases q : L[i].2.length > 65535
    · simp only [jn, if_pos q, if_neg (show ¬ (3 : Int) = 0 by decide)]
      exact Ev.now _
    · have h1 := frmL_len_le L[i].1 L[i].2 (by omega)
      simp only [jn, if_neg q, if_true, if_pos (show acc.length + (frmL L[i].1 L[i].2).length < 140737488355328 by omega), w64 ((i : Int) + 1) (by omega) (by omega)]
      have := ih (i + 1) (acc ++ frmL L[i].1 L[i].2) (by omega) (by simp only [List.length_append]; omega)
      simpa only [List.length_map, Int.natCast_add, Int.cast_ofNat_Int] using this
theorem vjoin (L : List (Int × List Int)) (hl : L.length ≤ 1000) (hb : ∀ p ∈ L, Fr p) : Ev (fun k => frame_Join.f k (L.map mk46)) (jn [] L) := by
  unfold frame_Join.f
  exact vjoin_l0 L hl hb L.length 0 [] (by omega) (by simp)
theorem rput3 (kd : Int) (body : List Int) (h0 : 0 ≤ kd) (h1 : kd < 256) (hb : Bytes body) (h : body.length < 140737488351240) : Ev (fun k => chartroomref03_Put.f k kd body) (if body.length > 65535 then ([], 3) else (frmL kd body, 0)) := by
  unfold chartroomref03_Put.f
  by_cases q : body.length > 65535
  · simp only [if_pos (show (body.length : Int) > 65535 by omega), if_pos q]; exact ev_some rfl
  · simp only [if_neg (show ¬ (body.length : Int) > 65535 by omega), if_neg q]
    exact Ev.bind (rbytes kd body h0 h1 hb h) (ev_some rfl)
theorem rsize3 (kd : Int) (body : List Int) (h0 : 0 ≤ kd) (h1 : kd < 256) (hb : Bytes body) (h : body.length < 140737488351240) : Ev (fun k => chartroomref03_Size.f k kd body) ((frmL kd body).length : Int) := by
  unfold chartroomref03_Size.f
  exact Ev.bind (rbytes kd body h0 h1 hb h) (ev_some rfl)
theorem rjoin_l0 (L : List (Int × List Int)) (hl : L.length ≤ 1000) (hb : ∀ p ∈ L, Fr p) : ∀ (d i : Nat) (acc : List Int), i + d = L.length → acc.length ≤ 65550 * i →
    Ev (fun k => chartroomref03_Join.l0 k (L.map mk49) acc (i : Int)) (jn acc (L.drop i)) := by
  intro d
  induction d with
  | zero =>
    intro i acc h ha
    refine ev_shift ?_
    simp only [chartroomref03_Join.l0, List.length_map, if_neg (show ¬ (i : Int) < L.length by omega)]
    exact ev_some (by rw [List.drop_eq_nil_of_le (by omega)]; rfl)
  | succ d ih =>
    intro i acc h ha
    have hi : i < L.length := by omega
    have hp := hb _ (List.getElem_mem hi)
    have hp4 := hp.2.2.2
    refine ev_shift ?_
    simp only [chartroomref03_Join.l0, List.length_map, if_pos (show (i : Int) < L.length by omega), if_pos (show (0 : Int) ≤ i by omega), get49 L i hi, mk49]
    refine Ev.bind (rput3 _ _ hp.1 hp.2.1 hp.2.2.1 (by omega)) ?_
    rw [List.drop_eq_getElem_cons hi]
    by_cases q : L[i].2.length > 65535
    · simp only [jn, if_pos q, if_neg (show ¬ (3 : Int) = 0 by decide)]
      exact Ev.now _
    · have h1 := frmL_len_le L[i].1 L[i].2 (by omega)
      simp only [jn, if_neg q, if_true, if_pos (show acc.length + (frmL L[i].1 L[i].2).length < 140737488355328 by omega), w64 ((i : Int) + 1) (by omega) (by omega)]
      have := ih (i + 1) (acc ++ frmL L[i].1 L[i].2) (by omega) (by simp only [List.length_append]; omega)
      simpa only [Int.natCast_add, Int.cast_ofNat_Int] using this
theorem rjoin (L : List (Int × List Int)) (hl : L.length ≤ 1000) (hb : ∀ p ∈ L, Fr p) : Ev (fun k => chartroomref03_Join.f k (L.map mk49)) (jn [] L) := by
  unfold chartroomref03_Join.f
  exact rjoin_l0 L hl hb L.length 0 [] (by omega) (by simp)
theorem rrefs_l0 (L : List (Int × List Int)) (hl : L.length ≤ 1000) (hb : ∀ p ∈ L, Fr p) : ∀ (d i : Nat), i + d = L.length →
    Ev (fun k => chartroomlaw03_refs.l0 k (L.map mk46) ((L.take i).map mk49) (i : Int)) (L.map mk49) := by
  intro d
  induction d with
  | zero =>
    intro i h
    refine ev_shift ?_
    simp only [chartroomlaw03_refs.l0, List.length_map, if_neg (show ¬ (i : Int) < L.length by omega)]
    exact ev_some (by rw [List.take_of_length_le (by omega)])
  | succ d ih =>
    intro i h
    have hi : i < L.length := by omega
    have hp := hb _ (List.getElem_mem hi)
    have hp4 := hp.2.2.2
    refine ev_shift ?_
    simp only [chartroomlaw03_refs.l0, List.length_map, if_pos (show (i : Int) < L.length by omega), if_pos (show (0 : Int) ≤ i by omega), get46 L i hi, mk46, own_some L[i].2 (by omega), Option.bind_some, if_pos (show (L.take i).length < 4398046511104 by simp; omega), w64 ((i : Int) + 1) (by omega) (by omega)]
    have := ih (i + 1) (by omega)
    rw [take_snoc L i hi, List.map_append] at this
    exact this
theorem rrefs (L : List (Int × List Int)) (hl : L.length ≤ 1000) (hb : ∀ p ∈ L, Fr p) : Ev (fun k => chartroomlaw03_refs.f k (L.map mk46)) (L.map mk49) := by
  unfold chartroomlaw03_refs.f
  have := rrefs_l0 L hl hb L.length 0 (by omega)
  simpa using this
/-- At most ten frames, of at most 400 bytes. -/
def FewF (L : List (Int × List Int)) : Prop := L.length ≤ 10 ∧ ∀ p ∈ L, p.2.length ≤ 400
instance (L : List (Int × List Int)) : Decidable (FewF L) := by unfold FewF; infer_instance
theorem few03_l0 (L : List (Int × List Int)) : ∀ (d i : Nat), i + d = 11 → i ≤ L.length → (∀ p ∈ L.take i, p.2.length ≤ 400) →
    Ev (fun k => chartroomlaw03_few.l0 k (L.map mk46) (i : Int)) (decide (FewF L)) := by
  intro d
  induction d with
  | zero =>
    intro i h hi hp
    have hend : Ev (fun k => chartroomlaw03_few.j1 k (L.map mk46) (i : Int) false) (decide (FewF L)) := by
      refine ev_shift ?_
      simp only [chartroomlaw03_few.j1, if_neg (show ¬ (false = true) by decide), List.length_map]
      refine ev_some ?_
      rw [decide_eq_false (show ¬ (L.length : Int) ≤ 10 by omega), decide_eq_false (show ¬ FewF L from fun q => by have := q.1; omega)]
    refine ev_shift ?_
    by_cases hl : (i : Int) < L.length
    · simp only [chartroomlaw03_few.l0, List.length_map, if_pos hl, decide_eq_false (show ¬ (i : Int) < 11 by omega)]
      exact hend
    · simp only [chartroomlaw03_few.l0, List.length_map, if_neg hl]
      exact hend
  | succ d ih =>
    intro i h hi hp
    refine ev_shift ?_
    by_cases hl : i < L.length
    · simp only [chartroomlaw03_few.l0, List.length_map, if_pos (show (i : Int) < L.length by omega), decide_eq_true (show (i : Int) < 11 by omega)]
      refine ev_shift ?_
      simp only [chartroomlaw03_few.j1, if_true, List.length_map, if_pos (show (i : Int) < L.length by omega), if_pos (show (0 : Int) ≤ i by omega), get46 L i hl, mk46]
      by_cases q : (L[i].2.length : Int) > 400
      · simp only [if_pos q]
        refine ev_some ?_
        rw [decide_eq_false (show ¬ FewF L from fun z => by have := z.2 _ (List.getElem_mem hl); omega)]
      · simp only [if_neg q, w64 ((i : Int) + 1) (by omega) (by omega)]
        refine ih (i + 1) (by omega) (by omega) (fun p hp' => ?_)
        rw [take_snoc L i hl] at hp'
        rcases List.mem_append.1 hp' with hp' | hp'
        · exact hp p hp'
        · rw [List.mem_singleton.1 hp']; omega
    · simp only [chartroomlaw03_few.l0, List.length_map, if_neg (show ¬ (i : Int) < L.length by omega)]
      refine ev_shift ?_
      simp only [chartroomlaw03_few.j1, if_neg (show ¬ (false = true) by decide), List.length_map]
      refine ev_some ?_
      rw [List.take_of_length_le (by omega)] at hp
      rw [decide_eq_true (show (L.length : Int) ≤ 10 by omega), decide_eq_true (show FewF L from ⟨by omega, hp⟩)]
theorem few03 (L : List (Int × List Int)) : Ev (fun k => chartroomlaw03_few.f k (L.map mk46)) (decide (FewF L)) := by
  unfold chartroomlaw03_few.f
  exact few03_l0 L 11 0 (by omega) (by omega) (by simp)
/-! What is put is taken. -/
end Go.Proofs.Ytoeabgeglgiobaa.Q
