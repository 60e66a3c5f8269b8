/- How frames are written one behind the other, taken again behind whatever stands ahead, and what is left of them where they are cut. No condition but the bounds in each theorem. -/
import Derived.Test.Ytoeabgeglgiobaac11aQFall
import Derived.Test.Ytoeabgeglgiobaac11aQVback
import Derived.Test.Ytoeabgeglgiobaac11aQOpen
namespace Go.Proofs.Ytoeabgeglgiobaa.Q
open Go.RowKit Go.Proofs.YtoeabgeglgiobaaW.PrintWords Go.Proofs.YtoeabgeglgiobaaW.PrintLast Go.Proofs.YtoeabgeglgiobaaW.PrintMore
open Go.Proofs.Ytoeabgeglgiobaa.P
/-- A frame that can be: its kind one byte, its body bytes, not past the reach. -/
def Fr (p : Int × List Int) : Prop := 0 ≤ p.1 ∧ p.1 < 256 ∧ Bytes p.2 ∧ p.2.length ≤ 140737488351232
theorem frmL_len_le (kd : Int) (body : List Int) (h : body.length < 140737488351240) : (frmL kd body).length ≤ body.length + 15 ∧ body.length + 5 ≤ (frmL kd body).length := by
  have h1 := frmP_len kd body h
  have h2 := frmL_len kd body
  omega
/-- Frames, written behind what there is: or one that is too long. -/
def jn : List Int → List (Int × List Int) → List Int × Int
  | acc, [] => (acc, 0)
  | acc, p :: l => if p.2.length > 65535 then ([], 3) else jn (acc ++ frmL p.1 p.2) l
theorem jn_len : ∀ (l : List (Int × List Int)) (acc : List Int), (jn acc l).1.length ≤ acc.length + 65550 * l.length := by
  intro l
  induction l with
  | nil => intro acc; simp [jn]
  | cons p l ih =>
    intro acc
    unfold jn
    split
    · simp
    · rename_i q
      have := ih (acc ++ frmL p.1 p.2)
      have h1 := frmL_len_le p.1 p.2 (by omega)
      simp only [List.length_append, List.length_cons] at this ⊢
      omega
theorem vjoin_l0 (L : List (Int × List Int)) (hl : L.length ≤ 1000) (hb : ∀ p ∈ L, Fr p) : ∀ (d i : Nat) (acc : List Int), i + d = L.length → acc.length ≤ 65550 * i →
    Ev (fun k => frame_Join.l0 k acc (L.map mk46) ((L.map mk46).length : Int) (i : Int)) (jn acc (L.drop i)) := by
  intro d
  induction d with
  | zero =>
    intro i acc h ha
    refine ev_shift ?_
    simp only [frame_Join.l0, List.length_map, if_neg (show ¬ (i : Int) < L.length by omega)]
    exact ev_some (by rw [List.drop_eq_nil_of_le (by omega)]; rfl)
  | succ d ih =>
    intro i acc h ha
    have hi : i < L.length := by omega
    have hp := hb _ (List.getElem_mem hi)
    have hp4 := hp.2.2.2
    refine ev_shift ?_
    simp only [frame_Join.l0, List.length_map, if_pos (show (i : Int) < L.length by omega), if_pos (show (0 : Int) ≤ i by omega), get46 L i hi, mk46]
    refine Ev.bind (vput3 _ _ (by omega)) ?_
    rw [List.drop_eq_getElem_cons hi]
    by_cases q : L[i].2.length > 65535
    · simp only [jn, if_pos q, if_neg (show ¬ (3 : Int) = 0 by decide)]
      exact Ev.now _
    · have h1 := frmL_len_le L[i].1 L[i].2 (by omega)
      simp only [jn, if_neg q, if_true, if_pos (show acc.length + (frmL L[i].1 L[i].2).length < 140737488355328 by omega), w64 ((i : Int) + 1) (by omega) (by omega)]
      have := ih (i + 1) (acc ++ frmL L[i].1 L[i].2) (by omega) (by simp only [List.length_append]; omega)
      simpa only [List.length_map, Int.natCast_add, Int.cast_ofNat_Int] using this
theorem vjoin (L : List (Int × List Int)) (hl : L.length ≤ 1000) (hb : ∀ p ∈ L, Fr p) : Ev (fun k => frame_Join.f k (L.map mk46)) (jn [] L) := by
  unfold frame_Join.f
  exact vjoin_l0 L hl hb L.length 0 [] (by omega) (by simp)
theorem rput3 (kd : Int) (body : List Int) (h0 : 0 ≤ kd) (h1 : kd < 256) (hb : Bytes body) (h : body.length < 140737488351240) : Ev (fun k => chartroomref03_Put.f k kd body) (if body.length > 65535 then ([], 3) else (frmL kd body, 0)) := by
  unfold chartroomref03_Put.f
  by_cases q : body.length > 65535
  · simp only [if_pos (show (body.length : Int) > 65535 by omega), if_pos q]; exact ev_some rfl
  · simp only [if_neg (show ¬ (body.length : Int) > 65535 by omega), if_neg q]
    exact Ev.bind (rbytes kd body h0 h1 hb h) (ev_some rfl)
/-- At most ten frames, of at most 400 bytes. -/
def FewF (L : List (Int × List Int)) : Prop := L.length ≤ 10 ∧ ∀ p ∈ L, p.2.length ≤ 400
instance (L : List (Int × List Int)) : Decidable (FewF L) := by unfold FewF; infer_instance
/-! What is put is taken. -/
def joinL (L : List (Int × List Int)) : List Int := L.flatMap fun p => frmL p.1 p.2
theorem joinL_cons (p : Int × List Int) (L : List (Int × List Int)) : joinL (p :: L) = frmL p.1 p.2 ++ joinL L := rfl
theorem jn_ok : ∀ (L : List (Int × List Int)) (acc : List Int), (∀ p ∈ L, p.2.length ≤ 65535) → jn acc L = (acc ++ joinL L, 0) := by
  intro L
  induction L with
  | nil => intro acc _; simp [jn, joinL]
  | cons p L ih =>
    intro acc h
    rw [jn, if_neg (by have := h p (by simp); omega), ih _ (fun q hq => h q (List.mem_cons_of_mem _ hq)), joinL_cons, List.append_assoc]
theorem joinL_len : ∀ (L : List (Int × List Int)) (m : Nat), m ≤ 65535 → (∀ p ∈ L, p.2.length ≤ m) → (joinL L).length ≤ (m + 15) * L.length ∧ L.length ≤ (joinL L).length := by
  intro L m hm
  induction L with
  | nil => intro _; simp [joinL]
  | cons p L ih =>
    intro h
    have hp := h p (by simp)
    have := ih (fun q hq => h q (List.mem_cons_of_mem _ hq))
    have h1 := frmL_len_le p.1 p.2 (by omega)
    rw [joinL_cons]
    simp only [List.length_append, List.length_cons, Nat.mul_add, Nat.mul_one]
    omega
theorem ftake_end (b : List Int) : (ftake b (b.length : Int)).2.2.2 ≠ 0 := by
  unfold ftake
  rw [if_pos (.inr (Int.le_refl _))]
  simp
end Go.Proofs.Ytoeabgeglgiobaa.Q
