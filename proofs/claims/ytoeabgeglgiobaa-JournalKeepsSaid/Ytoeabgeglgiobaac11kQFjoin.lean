/- How frames are written one behind the other, taken again behind whatever stands ahead, and what is left of them where they are cut. No condition but the bounds in each theorem. -/
import Derived.Test.Ytoeabgeglgiobaac11kQFall
import Derived.Test.Ytoeabgeglgiobaac11kQVback
import Derived.Test.Ytoeabgeglgiobaac11kQOpen
namespace Go.Proofs.Ytoeabgeglgiobaa.Q
open Go.RowKit Go.Proofs.YtoeabgeglgiobaaW.PrintWords Go.Proofs.YtoeabgeglgiobaaW.PrintLast Go.Proofs.YtoeabgeglgiobaaW.PrintMore
open Go.Proofs.Ytoeabgeglgiobaa.P
/-- A frame that can be: its kind one byte, its body bytes, not past the reach. -/
def Fr (p : Int × List Int) : Prop := 0 ≤ p.1 ∧ p.1 < 256 ∧ Bytes p.2 ∧ p.2.length ≤ 140737488351232
theorem frmL_len_le (kd : Int) (body : List Int) (h : body.length < 140737488351240) : (frmL kd body).length ≤ body.length + 15 ∧ body.length + 5 ≤ (frmL kd body).length := by
  have h1 := frmP_len kd body h
  have h2 := frmL_len kd body
  omega
/-- Frames, written behind what there is: or one that is too long. -/
def jn : List Int → List (Int × List Int) → List Int × Int
  | acc, [] => (acc, 0)
  | acc, p :: l => if p.2.length > 65535 then ([], 3) else jn (acc ++ frmL p.1 p.2) l
theorem vjoin_l0 (L : List (Int × List Int)) (hl : L.length ≤ 1000) (hb : ∀ p ∈ L, Fr p) : ∀ (d i : Nat) (acc : List Int), i + d = L.length → acc.length ≤ 65550 * i →
    Ev (fun k => frame_Join.l0 k acc (L.map mk46) ((L.map mk46).length : Int) (i : Int)) (jn acc (L.drop i)) := by
  intro d
  induction d with
  | zero =>
    intro i acc h ha
    refine ev_shift ?_
    simp only [frame_Join.l0, List.length_map, if_neg (show ¬ (i : Int) < L.length by omega)]
    exact ev_some (by rw [List.drop_eq_nil_of_le (by omega)]; rfl)
  | succ d ih =>
    intro i acc h ha
    have hi : i < L.length := by omega
    have hp := hb _ (List.getElem_mem hi)
    have hp4 := hp.2.2.2
    refine ev_shift ?_
    simp only [frame_Join.l0, List.length_map, if_pos (show (i : Int) < L.length by omega), if_pos (show (0 : Int) ≤ i by omega), get46 L i hi, mk46]
    refine Ev.bind (vput3 _ _ (by omega)) ?_
    rw [List.drop_eq_getElem_cons hi]
    by_cases q : L[i].2.length > 65535
    · simp only [jn, if_pos q, if_neg (show ¬ (3 : Int) = 0 by decide)]
      exact Ev.now _
    · have h1 := frmL_len_le L[i].1 L[i].2 (by omega)
      simp only [jn, if_neg q, if_true, if_pos (show acc.length + (frmL L[i].1 L[i].2).length < 140737488355328 by omega), w64 ((i : Int) + 1) (by omega) (by omega)]
      have := ih (i + 1) (acc ++ frmL L[i].1 L[i].2) (by omega) (by simp only [List.length_append]; omega)
      simpa only [List.length_map, Int.natCast_add, Int.cast_ofNat_Int] using this
theorem vjoin (L : List (Int × List Int)) (hl : L.length ≤ 1000) (hb : ∀ p ∈ L, Fr p) : Ev (fun k => frame_Join.f k (L.map mk46)) (jn [] L) := by
  unfold frame_Join.f
  exact vjoin_l0 L hl hb L.length 0 [] (by omega) (by simp)
/-- At most ten frames, of at most 400 bytes. -/
def FewF (L : List (Int × List Int)) : Prop := L.length ≤ 10 ∧ ∀ p ∈ L, p.2.length ≤ 400
instance (L : List (Int × List Int)) : Decidable (FewF L) := by unfold FewF; infer_instance
/-! What is put is taken. -/
def joinL (L : List (Int × List Int)) : List Int := L.flatMap fun p => frmL p.1 p.2
theorem joinL_cons (p : Int × List Int) (L : List (Int × List Int)) : joinL (p :: L) = frmL p.1 p.2 ++ joinL L := rfl
theorem joinL_append (L M : List (Int × List Int)) : joinL (L ++ M) = joinL L ++ joinL M := by simp [joinL]
theorem joinL_bytes : ∀ (L : List (Int × List Int)), (∀ p ∈ L, Fr p) → Bytes (joinL L) := by
  intro L
  induction L with
  | nil => intro _ x hx; simp [joinL] at hx
  | cons p L ih =>
    intro h
    have hp := h p (by simp)
    rw [joinL_cons]
    exact (frmL_bytes p.1 p.2 hp.1 hp.2.1 hp.2.2.1 (by have := hp.2.2.2; omega)).append (ih (fun q hq => h q (List.mem_cons_of_mem _ hq)))
theorem joinL_len : ∀ (L : List (Int × List Int)) (m : Nat), m ≤ 65535 → (∀ p ∈ L, p.2.length ≤ m) → (joinL L).length ≤ (m + 15) * L.length ∧ L.length ≤ (joinL L).length := by
  intro L m hm
  induction L with
  | nil => intro _; simp [joinL]
  | cons p L ih =>
    intro h
    have hp := h p (by simp)
    have := ih (fun q hq => h q (List.mem_cons_of_mem _ hq))
    have h1 := frmL_len_le p.1 p.2 (by omega)
    rw [joinL_cons]
    simp only [List.length_append, List.length_cons, Nat.mul_add, Nat.mul_one]
    omega
theorem ftake_put (pre post : List Int) (kd : Int) (body : List Int) (h : body.length ≤ 65535) :
    ftake (pre ++ (frmL kd body ++ post)) (pre.length : Int) = (kd, body, ((pre.length + (frmL kd body).length : Nat) : Int), 0) := by
  have hp := frmP_len kd body (by omega)
  have hl := frmL_len kd body
  have ht : Q.take (pre ++ (frmL kd body ++ post)) ((pre.length : Int) + 1) = ((body.length : Int), ((pre.length + 1 + (putL body.length).length : Nat) : Int), 0) := by
    have := take_put (pre ++ [kd]) (body ++ (sum4 (crcSum (frmP kd body)) ++ post)) body.length (by omega)
    simp only [List.length_append, List.length_singleton, List.append_assoc, List.cons_append, List.nil_append] at this
    have e : pre ++ (frmL kd body ++ post) = pre ++ kd :: (putL body.length ++ (body ++ (sum4 (crcSum (frmP kd body)) ++ post))) := by
      simp [frmL, frmP, List.append_assoc]
    rw [e]
    simpa using this
  have hlen : (pre ++ (frmL kd body ++ post)).length = pre.length + (frmL kd body).length + post.length := by simp only [List.length_append]; omega
  unfold ftake
  rw [if_neg (by omega), ht]
  simp only [ne_eq, not_true_eq_false, if_false]
  rw [if_neg (by omega), if_neg (by omega)]
  have e1 : (((pre.length + 1 + (putL body.length).length : Nat) : Int) + (body.length : Int)).toNat = (pre ++ frmP kd body).length := by
    simp only [List.length_append]; omega
  have e2 : pre ++ (frmL kd body ++ post) = (pre ++ frmP kd body) ++ (sum4 (crcSum (frmP kd body)) ++ post) := by simp [frmL, List.append_assoc]
  have e3 : (pre ++ (frmL kd body ++ post)).take (pre ++ frmP kd body).length = pre ++ frmP kd body := by rw [e2, List.take_left]
  have e4 : (pre ++ (frmL kd body ++ post)).drop (pre ++ frmP kd body).length = sum4 (crcSum (frmP kd body)) ++ post := by rw [e2, List.drop_left]
  rw [e1, e3, e4, Int.toNat_natCast, Int.toNat_natCast, List.drop_left, if_pos (by rw [show (4 : Nat) = (sum4 (crcSum (frmP kd body))).length from rfl, List.take_left])]
  have e5 : rd (pre ++ (frmL kd body ++ post)) (pre.length : Int) = kd := by
    simp [rd, frmL, frmP, List.getD]
  have e6 : pre ++ frmP kd body = (pre ++ kd :: putL body.length) ++ body := by simp [frmP, List.append_assoc]
  have e7 : (pre ++ frmP kd body).drop (pre.length + 1 + (putL body.length).length) = body := by
    rw [e6, show pre.length + 1 + (putL body.length).length = (pre ++ kd :: putL body.length).length by simp; omega, List.drop_left]
  rw [e5, e7]
  simp only [Prod.mk.injEq, true_and, and_true]
  omega
theorem tkl_ext (post : List Int) : ∀ (l : List Int) (i n : Nat), (tkL l i n).2.2 = 0 → tkL (l ++ post) i n = tkL l i n := by
  intro l
  induction l with
  | nil => intro i n h; simp [tkL] at h
  | cons c l ih =>
    intro i n h
    rw [List.cons_append, tkl_cons, tkl_cons]
    rw [tkl_cons] at h
    split
    · rfl
    · rename_i h1
      rw [if_neg h1] at h
      split
      · rfl
      · rename_i h2
        rw [if_neg h2] at h
        split
        · rfl
        · rename_i h3
          rw [if_neg h3] at h
          exact ih _ _ h
theorem take_ext (b post : List Int) (a : Int) (h : (Q.take b a).2.2 = 0) : Q.take (b ++ post) a = Q.take b a := by
  unfold Q.take at h ⊢
  by_cases h0 : a < 0 ∨ (b.length : Int) ≤ a
  · rw [if_pos h0] at h; exact absurd h (by simp)
  · rw [if_neg h0] at h ⊢
    rw [if_neg (by simp only [List.length_append]; omega)]
    have hz : (tkL (b.drop a.toNat) 0 0).2.2 = 0 := by
      unfold fin at h
      by_cases q : (tkL (b.drop a.toNat) 0 0).2.2 = 0
      · exact q
      · rw [if_neg q] at h; simp only at h; omega
    rw [List.drop_append_of_le_length (by omega), tkl_ext post _ _ _ hz]
theorem ftake_next (b : List Int) (a : Int) (h : (ftake b a).2.2.2 = 0) : (Q.take b (a + 1)).2.2 = 0 ∧ (ftake b a).2.2.1 = (Q.take b (a + 1)).2.1 + (Q.take b (a + 1)).1 + 4 := by
  unfold ftake at h ⊢
  by_cases h0 : a < 0 ∨ (b.length : Int) ≤ a
  · rw [if_pos h0] at h; exact absurd h (by simp)
  · rw [if_neg h0] at h ⊢
    by_cases h1 : (Q.take b (a + 1)).2.2 ≠ 0
    · rw [if_pos h1] at h; exact absurd h h1
    · rw [if_neg h1] at h ⊢
      by_cases h2 : (Q.take b (a + 1)).1 > 65535
      · rw [if_pos h2] at h; exact absurd h (by simp)
      · rw [if_neg h2] at h ⊢
        by_cases h3 : (b.length : Int) < (Q.take b (a + 1)).2.1 + (Q.take b (a + 1)).1 + 4
        · rw [if_pos h3] at h; exact absurd h (by simp)
        · rw [if_neg h3] at h ⊢
          split
          · exact ⟨by omega, rfl⟩
          · rename_i h4
            rw [if_neg h4] at h; exact absurd h (by simp)
theorem ftake_cut (pre : List Int) (hpre : Bytes pre) (kd : Int) (body : List Int) (h0 : 0 ≤ kd) (h1 : kd < 256) (hb : Bytes body) (h : body.length ≤ 65535) (m : Nat) (hm : m < (frmL kd body).length) :
    (ftake (pre ++ (frmL kd body).take m) (pre.length : Int)).2.2.2 ≠ 0 := by
  intro hz
  have hB : Bytes (pre ++ (frmL kd body).take m) := hpre.append ((frmL_bytes kd body h0 h1 hb (by omega)).take m)
  have ho := ftake_ok _ hB _ hz
  obtain ⟨n1, n2⟩ := ftake_next _ _ hz
  have hx := take_ext _ ((frmL kd body).drop m) _ n1
  have hp := frmP_len kd body (by omega)
  have hl := frmL_len kd body
  have ht : Q.take (pre ++ (frmL kd body ++ [])) ((pre.length : Int) + 1) = ((body.length : Int), ((pre.length + 1 + (putL body.length).length : Nat) : Int), 0) := by
    have := take_put (pre ++ [kd]) (body ++ (sum4 (crcSum (frmP kd body)) ++ [])) body.length (by omega)
    simp only [List.length_append, List.length_singleton, List.append_assoc, List.cons_append, List.nil_append] at this
    have e : pre ++ (frmL kd body ++ []) = pre ++ kd :: (putL body.length ++ (body ++ (sum4 (crcSum (frmP kd body)) ++ []))) := by
      simp [frmL, frmP, List.append_assoc]
    rw [e]
    simpa using this
  rw [List.append_assoc, List.take_append_drop] at hx
  rw [List.append_nil] at ht
  rw [ht] at hx
  rw [← hx] at n2
  simp only at n2
  have : (pre ++ (frmL kd body).take m).length = pre.length + m := by simp only [List.length_append, List.length_take]; omega
  omega
end Go.Proofs.Ytoeabgeglgiobaa.Q
