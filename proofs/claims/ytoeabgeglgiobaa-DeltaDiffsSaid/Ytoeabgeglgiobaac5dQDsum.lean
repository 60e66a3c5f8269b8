/- Edits are few, told over, looked at, summed up, and written: by the program and by the reference alike. No condition but the bounds in each theorem. -/
import Derived.Test.Ytoeabgeglgiobaac5dQDnorm
import Derived.Test.Ytoeabgeglgiobaac5dHdeltaApply
import Derived.Test.Ytoeabgeglgiobaac5dGdelta1
namespace Go.Proofs.Ytoeabgeglgiobaa.Q
open Go.RowKit Go.Proofs.YtoeabgeglgiobaaW.PrintWords Go.Proofs.YtoeabgeglgiobaaW.PrintLast Go.Proofs.YtoeabgeglgiobaaW.PrintMore
open Go.Proofs.Ytoeabgeglgiobaa.P
def FewE (L : List Ed) : Prop := L.length ≤ 30 ∧ ∀ p ∈ L, p.2.2.size ≤ 200
instance (L : List Ed) : Decidable (FewE L) := by unfold FewE; infer_instance
theorem refs05_l0 (L : List Ed) (hl : L.length ≤ 1000000) : ∀ (d i : Nat), i + d = L.length →
    Ev (fun k => chartroomlaw05_refs.l0 k (L.map mk153) ((L.take i).map mk226) (i : Int)) (L.map mk226) := by
  intro d
  induction d with
  | zero =>
    intro i h
    refine ev_shift ?_
    simp only [chartroomlaw05_refs.l0, List.length_map, if_neg (show ¬ (i : Int) < L.length by omega)]
    exact ev_some (by rw [List.take_of_length_le (by omega)])
  | succ d ih =>
    intro i h
    have hi : i < L.length := by omega
    refine ev_shift ?_
    simp only [chartroomlaw05_refs.l0, List.length_map, if_pos (show (i : Int) < L.length by omega), if_pos (show (0 : Int) ≤ i by omega), get153 L i hi, mk153, if_pos (show (L.take i).length < 4398046511104 by simp; omega), w64 ((i : Int) + 1) (by omega) (by omega)]
    have := ih (i + 1) (by omega)
    rw [take_snoc L i hi, List.map_append] at this
    exact this
theorem refs05 (L : List Ed) (hl : L.length ≤ 1000000) : Ev (fun k => chartroomlaw05_refs.f k (L.map mk153)) (L.map mk226) := by
  unfold chartroomlaw05_refs.f
  have := refs05_l0 L hl L.length 0 (by omega)
  simpa using this
/-! Whether they may be. -/
def rightE (x : Ed) : Bool := rightB x.1 x.2.1 x.2.2
def rightL (L : List Ed) : Bool := L.all rightE
theorem vRight (L : List Ed) : delta_Right.f (L.map mk153) = some (rightL L) := by
  unfold delta_Right.f rightL
  rw [List.all_map]
  rfl
theorem rRight_l0 (L : List Ed) (hl : L.length ≤ 1000000) : ∀ (d i : Nat), i + d = L.length → Ev (fun k => chartroomref05_Right.l0 k (L.map mk226) (i : Int)) (rightL (L.drop i)) := by
  intro d
  induction d with
  | zero =>
    intro i h
    refine ev_shift ?_
    simp only [chartroomref05_Right.l0, List.length_map, if_neg (show ¬ (i : Int) < L.length by omega)]
    exact ev_some (by rw [List.drop_eq_nil_of_le (by omega)]; rfl)
  | succ d ih =>
    intro i h
    have hi : i < L.length := by omega
    refine ev_shift ?_
    simp only [chartroomref05_Right.l0, List.length_map, if_pos (show (i : Int) < L.length by omega), if_pos (show (0 : Int) ≤ i by omega), get226 L i hi, mk226, rright, Option.bind_some]
    rw [List.drop_eq_getElem_cons hi]
    have e : rightL (L[i] :: L.drop (i + 1)) = (rightB L[i].1 L[i].2.1 L[i].2.2 && rightL (L.drop (i + 1))) := rfl
    rw [e]
    cases hr : rightB L[i].1 L[i].2.1 L[i].2.2 with
    | true =>
      simp only [if_true, Bool.true_and, w64 ((i : Int) + 1) (by omega) (by omega)]
      exact ih (i + 1) (by omega)
    | false =>
      simp only [if_neg (show ¬ (false = true) by decide), Bool.false_and]
      exact Ev.now _
theorem rRight (L : List Ed) (hl : L.length ≤ 1000000) : Ev (fun k => chartroomref05_Right.f k (L.map mk226)) (rightL L) := by
  unfold chartroomref05_Right.f
  exact rRight_l0 L hl L.length 0 (by omega)
theorem rightL_iff (L : List Ed) : rightL L = true ↔ ∀ x ∈ L, Wr x ∧ x.2.1 ≤ 2147483647 := by
  unfold rightL
  rw [List.all_eq_true]
  exact ⟨fun h x hx => (rightB_iff x).1 (h x hx), fun h x hx => (rightB_iff x).2 (h x hx)⟩
theorem rightL_wr {L : List Ed} (h : rightL L = true) : ∀ x ∈ L, Wr x := fun x hx => ((rightL_iff L).1 h x hx).1
/-! How many bytes they are. -/
theorem szE_bd (x : Ed) : 0 ≤ (szE x.1 x.2.1 x.2.2).1 ∧ (szE x.1 x.2.1 x.2.2).1 ≤ 2147483647 ∧ 0 ≤ (szE x.1 x.2.1 x.2.2).2 ∧ (szE x.1 x.2.1 x.2.2).2 ≤ 2147483647 + x.2.2.size := by
  unfold szE
  by_cases h : rightB x.1 x.2.1 x.2.2 = true
  · rw [if_pos h]
    have := (rightB_cases x.1 x.2.1 x.2.2).1 h
    by_cases h2 : x.1 = 2
    · rw [if_pos h2]; simp only; omega
    · rw [if_neg h2]
      rcases this with ⟨_, m, e, h3, h4, _⟩ | ⟨e, _⟩
      · by_cases h5 : x.1 = 3
        · rw [if_pos h5]; simp only; omega
        · rw [if_neg h5]; simp only; omega
      · exact absurd e h2
  · rw [if_neg h]; simp only; omega
def szL : List Ed → Int × Int
  | [] => (0, 0)
  | x :: l => ((szE x.1 x.2.1 x.2.2).1 + (szL l).1, (szE x.1 x.2.1 x.2.2).2 + (szL l).2)
theorem szL_bd (m : Nat) : ∀ (L : List Ed), (∀ x ∈ L, x.2.2.size ≤ m) → 0 ≤ (szL L).1 ∧ (szL L).1 ≤ 2147483647 * L.length ∧ 0 ≤ (szL L).2 ∧ (szL L).2 ≤ (2147483647 + m) * L.length := by
  intro L
  induction L with
  | nil => intro _; simp [szL]
  | cons x l ih =>
    intro h
    have h1 := ih (fun y hy => h y (List.mem_cons_of_mem _ hy))
    have h2 := szE_bd x
    have h3 := h x (by simp)
    simp only [szL, List.length_cons, Int.natCast_add, Int.mul_add, Int.cast_ofNat_Int, Int.mul_one]
    omega
theorem vSizes_l0 (L : List Ed) (m : Nat) (hm : m ≤ 1000000) (hl : L.length ≤ 1000) (ht : ∀ x ∈ L, x.2.2.size ≤ m) : ∀ (d i : Nat) (f t : Int), i + d = L.length → 0 ≤ f → f ≤ 2147483647 * i → 0 ≤ t → t ≤ 2148483647 * i →
    Ev (fun k => delta_Sizes.l0 k f t (L.map mk153) ((L.map mk153).length : Int) (i : Int)) (f + (szL (L.drop i)).1, t + (szL (L.drop i)).2) := by
  intro d
  induction d with
  | zero =>
    intro i f t h f0 f1 t0 t1
    refine ev_shift ?_
    simp only [delta_Sizes.l0, List.length_map, if_neg (show ¬ (i : Int) < L.length by omega)]
    exact ev_some (by rw [List.drop_eq_nil_of_le (by omega)]; simp [szL])
  | succ d ih =>
    intro i f t h f0 f1 t0 t1
    have hi : i < L.length := by omega
    have hb := szE_bd L[i]
    have hs := ht _ (List.getElem_mem hi)
    refine ev_shift ?_
    simp only [delta_Sizes.l0, List.length_map, if_pos (show (i : Int) < L.length by omega), if_pos (show (0 : Int) ≤ i by omega), get153 L i hi, mk153]
    refine Ev.bind (vsizes _ _ _) ?_
    simp only [w64 (f + (szE L[i].1 L[i].2.1 L[i].2.2).1) (by omega) (by omega), w64 (t + (szE L[i].1 L[i].2.1 L[i].2.2).2) (by omega) (by omega), w64 ((i : Int) + 1) (by omega) (by omega)]
    have := ih (i + 1) (f + (szE L[i].1 L[i].2.1 L[i].2.2).1) (t + (szE L[i].1 L[i].2.1 L[i].2.2).2) (by omega) (by omega) (by omega) (by omega) (by omega)
    simp only [List.length_map, Int.natCast_add, Int.cast_ofNat_Int] at this
    refine ev_eq this ?_
    rw [List.drop_eq_getElem_cons hi, szL]
    simp only [Prod.mk.injEq]
    omega
theorem vSizes (L : List Ed) (m : Nat) (hm : m ≤ 1000000) (hl : L.length ≤ 1000) (ht : ∀ x ∈ L, x.2.2.size ≤ m) : Ev (fun k => delta_Sizes.f k (L.map mk153)) (szL L) := by
  unfold delta_Sizes.f
  refine ev_eq (vSizes_l0 L m hm hl ht L.length 0 0 0 (by omega) (by omega) (by omega) (by omega) (by omega)) ?_
  simp
/-! How they are written. -/
end Go.Proofs.Ytoeabgeglgiobaa.Q
