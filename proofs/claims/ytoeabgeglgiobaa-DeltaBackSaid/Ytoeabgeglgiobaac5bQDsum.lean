/- Edits are few, told over, looked at, summed up, and written: by the program and by the reference alike. No condition but the bounds in each theorem. -/
import Derived.Test.Ytoeabgeglgiobaac5bQDnorm
import Derived.Test.Ytoeabgeglgiobaac5bHdeltaApply
import Derived.Test.Ytoeabgeglgiobaac5bGdelta1
namespace Go.Proofs.Ytoeabgeglgiobaa.Q
open Go.RowKit Go.Proofs.YtoeabgeglgiobaaW.PrintWords Go.Proofs.YtoeabgeglgiobaaW.PrintLast Go.Proofs.YtoeabgeglgiobaaW.PrintMore
open Go.Proofs.Ytoeabgeglgiobaa.P
def FewE (L : List Ed) : Prop := L.length ≤ 30 ∧ ∀ p ∈ L, p.2.2.size ≤ 200
instance (L : List Ed) : Decidable (FewE L) := by unfold FewE; infer_instance
theorem few05_l0 (L : List Ed) : ∀ (d i : Nat), i + d = 31 → i ≤ L.length → (∀ p ∈ L.take i, p.2.2.size ≤ 200) →
    Ev (fun k => chartroomlaw05_few.l0 k (L.map mk153) (i : Int)) (decide (FewE L)) := by
  intro d
  induction d with
  | zero =>
    intro i h hi hp
    have hend : Ev (fun k => chartroomlaw05_few.j1 k (L.map mk153) (i : Int) false) (decide (FewE L)) := by
      refine ev_shift ?_
      simp only [chartroomlaw05_few.j1, if_neg (show ¬ (false = true) by decide), List.length_map]
      refine ev_some ?_
      rw [decide_eq_false (show ¬ (L.length : Int) ≤ 30 by omega), decide_eq_false (show ¬ FewE L from fun q => by have := q.1; omega)]
    refine ev_shift ?_
    by_cases hl : (i : Int) < L.length
    · simp only [chartroomlaw05_few.l0, List.length_map, if_pos hl, decide_eq_false (show ¬ (i : Int) < 31 by omega)]
      exact hend
    · simp only [chartroomlaw05_few.l0, List.length_map, if_neg hl]
      exact hend
  | succ d ih =>
    intro i h hi hp
    refine ev_shift ?_
    by_cases hl : i < L.length
    · simp only [chartroomlaw05_few.l0, List.length_map, if_pos (show (i : Int) < L.length by omega), decide_eq_true (show (i : Int) < 31 by omega)]
      refine ev_shift ?_
      simp only [chartroomlaw05_few.j1, if_true, List.length_map, if_pos (show (i : Int) < L.length by omega), if_pos (show (0 : Int) ≤ i by omega), get153 L i hl, mk153]
      by_cases q : (L[i].2.2.size : Int) > 200
      · simp only [if_pos q]
        refine ev_some ?_
        rw [decide_eq_false (show ¬ FewE L from fun z => by have := z.2 _ (List.getElem_mem hl); omega)]
      · simp only [if_neg q, w64 ((i : Int) + 1) (by omega) (by omega)]
        refine ih (i + 1) (by omega) (by omega) (fun p hp' => ?_)
        rw [take_snoc L i hl] at hp'
        rcases List.mem_append.1 hp' with hp' | hp'
        · exact hp p hp'
        · rw [List.mem_singleton.1 hp']; omega
    · simp only [chartroomlaw05_few.l0, List.length_map, if_neg (show ¬ (i : Int) < L.length by omega)]
      refine ev_shift ?_
      simp only [chartroomlaw05_few.j1, if_neg (show ¬ (false = true) by decide), List.length_map]
      refine ev_some ?_
      rw [List.take_of_length_le (by omega)] at hp
      rw [decide_eq_true (show (L.length : Int) ≤ 30 by omega), decide_eq_true (show FewE L from ⟨by omega, hp⟩)]
theorem few05 (L : List Ed) : Ev (fun k => chartroomlaw05_few.f k (L.map mk153)) (decide (FewE L)) := by
  unfold chartroomlaw05_few.f
  exact few05_l0 L 31 0 (by omega) (by omega) (by simp)
theorem refs05_l0 (L : List Ed) (hl : L.length ≤ 1000000) : ∀ (d i : Nat), i + d = L.length →
    Ev (fun k => chartroomlaw05_refs.l0 k (L.map mk153) ((L.take i).map mk226) (i : Int)) (L.map mk226) := by
  intro d
  induction d with
  | zero =>
    intro i h
    refine ev_shift ?_
    simp only [chartroomlaw05_refs.l0, List.length_map, if_neg (show ¬ (i : Int) < L.length by omega)]
    exact ev_some (by rw [List.take_of_length_le (by omega)])
  | succ d ih =>
    intro i h
    have hi : i < L.length := by omega
    refine ev_shift ?_
    simp only [chartroomlaw05_refs.l0, List.length_map, if_pos (show (i : Int) < L.length by omega), if_pos (show (0 : Int) ≤ i by omega), get153 L i hi, mk153, if_pos (show (L.take i).length < 4398046511104 by simp; omega), w64 ((i : Int) + 1) (by omega) (by omega)]
    have := ih (i + 1) (by omega)
    rw [take_snoc L i hi, List.map_append] at this
    exact this
theorem refs05 (L : List Ed) (hl : L.length ≤ 1000000) : Ev (fun k => chartroomlaw05_refs.f k (L.map mk153)) (L.map mk226) := by
  unfold chartroomlaw05_refs.f
  have := refs05_l0 L hl L.length 0 (by omega)
  simpa using this
/-! Whether they may be. -/
def rightE (x : Ed) : Bool := rightB x.1 x.2.1 x.2.2
def rightL (L : List Ed) : Bool := L.all rightE
theorem vRight (L : List Ed) : delta_Right.f (L.map mk153) = some (rightL L) := by
  unfold delta_Right.f rightL
  rw [List.all_map]
  rfl
theorem rightL_iff (L : List Ed) : rightL L = true ↔ ∀ x ∈ L, Wr x ∧ x.2.1 ≤ 2147483647 := by
  unfold rightL
  rw [List.all_eq_true]
  exact ⟨fun h x hx => (rightB_iff x).1 (h x hx), fun h x hx => (rightB_iff x).2 (h x hx)⟩
theorem rightL_wr {L : List Ed} (h : rightL L = true) : ∀ x ∈ L, Wr x := fun x hx => ((rightL_iff L).1 h x hx).1
/-! How many bytes they are. -/
theorem szE_bd (x : Ed) : 0 ≤ (szE x.1 x.2.1 x.2.2).1 ∧ (szE x.1 x.2.1 x.2.2).1 ≤ 2147483647 ∧ 0 ≤ (szE x.1 x.2.1 x.2.2).2 ∧ (szE x.1 x.2.1 x.2.2).2 ≤ 2147483647 + x.2.2.size := by
  unfold szE
  by_cases h : rightB x.1 x.2.1 x.2.2 = true
  · rw [if_pos h]
    have := (rightB_cases x.1 x.2.1 x.2.2).1 h
    by_cases h2 : x.1 = 2
    · rw [if_pos h2]; simp only; omega
    · rw [if_neg h2]
      rcases this with ⟨_, m, e, h3, h4, _⟩ | ⟨e, _⟩
      · by_cases h5 : x.1 = 3
        · rw [if_pos h5]; simp only; omega
        · rw [if_neg h5]; simp only; omega
      · exact absurd e h2
  · rw [if_neg h]; simp only; omega
def szL : List Ed → Int × Int
  | [] => (0, 0)
  | x :: l => ((szE x.1 x.2.1 x.2.2).1 + (szL l).1, (szE x.1 x.2.1 x.2.2).2 + (szL l).2)
theorem szL_bd (m : Nat) : ∀ (L : List Ed), (∀ x ∈ L, x.2.2.size ≤ m) → 0 ≤ (szL L).1 ∧ (szL L).1 ≤ 2147483647 * L.length ∧ 0 ≤ (szL L).2 ∧ (szL L).2 ≤ (2147483647 + m) * L.length := by
  intro L
  induction L with
  | nil => intro _; simp [szL]
  | cons x l ih =>
    intro h
    have h1 := ih (fun y hy => h y (List.mem_cons_of_mem _ hy))
    have h2 := szE_bd x
    have h3 := h x (by simp)
    simp only [szL, List.length_cons, Int.natCast_add, Int.mul_add, Int.cast_ofNat_Int, Int.mul_one]
    omega
theorem vSizes_l0 (L : List Ed) (m : Nat) (hm : m ≤ 1000000) (hl : L.length ≤ 1000) (ht : ∀ x ∈ L, x.2.2.size ≤ m) : ∀ (d i : Nat) (f t : Int), i + d = L.length → 0 ≤ f → f ≤ 2147483647 * i → 0 ≤ t → t ≤ 2148483647 * i →
    Ev (fun k => delta_Sizes.l0 k f t (L.map mk153) ((L.map mk153).length : Int) (i : Int)) (f + (szL (L.drop i)).1, t + (szL (L.drop i)).2) := by
  intro d
  induction d with
  | zero =>
    intro i f t h f0 f1 t0 t1
    refine ev_shift ?_
    simp only [delta_Sizes.l0, List.length_map, if_neg (show ¬ (i : Int) < L.length by omega)]
    exact ev_some (by rw [List.drop_eq_nil_of_le (by omega)]; simp [szL])
  | succ d ih =>
    intro i f t h f0 f1 t0 t1
    have hi : i < L.length := by omega
    have hb := szE_bd L[i]
    have hs := ht _ (List.getElem_mem hi)
    refine ev_shift ?_
    simp only [delta_Sizes.l0, List.length_map, if_pos (show (i : Int) < L.length by omega), if_pos (show (0 : Int) ≤ i by omega), get153 L i hi, mk153]
    refine Ev.bind (vsizes _ _ _) ?_
    simp only [w64 (f + (szE L[i].1 L[i].2.1 L[i].2.2).1) (by omega) (by omega), w64 (t + (szE L[i].1 L[i].2.1 L[i].2.2).2) (by omega) (by omega), w64 ((i : Int) + 1) (by omega) (by omega)]
    have := ih (i + 1) (f + (szE L[i].1 L[i].2.1 L[i].2.2).1) (t + (szE L[i].1 L[i].2.1 L[i].2.2).2) (by omega) (by omega) (by omega) (by omega) (by omega)
    simp only [List.length_map, Int.natCast_add, Int.cast_ofNat_Int] at this
    refine ev_eq this ?_
    rw [List.drop_eq_getElem_cons hi, szL]
    simp only [Prod.mk.injEq]
    omega
theorem vSizes (L : List Ed) (m : Nat) (hm : m ≤ 1000000) (hl : L.length ≤ 1000) (ht : ∀ x ∈ L, x.2.2.size ≤ m) : Ev (fun k => delta_Sizes.f k (L.map mk153)) (szL L) := by
  unfold delta_Sizes.f
  refine ev_eq (vSizes_l0 L m hm hl ht L.length 0 0 0 (by omega) (by omega) (by omega) (by omega) (by omega)) ?_
  simp
/-! How they are written. -/
def putE (x : Ed) : List Int := x.1 :: (if x.1 = 2 then textL x.2.2 else putL x.2.1.toNat)
def putsL (L : List Ed) : List Int := L.flatMap putE
theorem putsL_cons (x : Ed) (L : List Ed) : putsL (x :: L) = putE x ++ putsL L := rfl
theorem putE_len (x : Ed) (h : rightE x = true) (hs : x.2.2.size ≤ 1000000) : (putE x).length ≤ 1000020 := by
  have hr := (rightB_cases x.1 x.2.1 x.2.2).1 h
  unfold putE
  by_cases h2 : x.1 = 2
  · rw [if_pos h2]
    have := textL_len x.2.2 (by omega)
    simp only [List.length_cons]; omega
  · rw [if_neg h2]
    rcases hr with ⟨_, m, e, h3, h4, _⟩ | ⟨e, _⟩
    · have := putL_len_u64 (n := x.2.1.toNat) (by omega)
      simp only [List.length_cons]; omega
    · exact absurd e h2
theorem vPut_l0 (L : List Ed) (hl : L.length ≤ 1000) (hr : rightL L = true) (ht : ∀ x ∈ L, x.2.2.size ≤ 1000000) : ∀ (d i : Nat) (acc : List Int), i + d = L.length → acc.length ≤ 1000020 * i →
    Ev (fun k => delta_Put.l0 k acc (L.map mk153) ((L.map mk153).length : Int) (i : Int)) (acc ++ putsL (L.drop i), 0) := by
  intro d
  induction d with
  | zero =>
    intro i acc h ha
    refine ev_shift ?_
    simp only [delta_Put.l0, List.length_map, if_neg (show ¬ (i : Int) < L.length by omega)]
    exact ev_some (by rw [List.drop_eq_nil_of_le (by omega)]; simp [putsL])
  | succ d ih =>
    intro i acc h ha
    have hi : i < L.length := by omega
    have hx := List.all_eq_true.1 hr _ (List.getElem_mem hi)
    have hs := ht _ (List.getElem_mem hi)
    have hpl := putE_len _ hx hs
    have hrw := (rightB_cases L[i].1 L[i].2.1 L[i].2.2).1 hx
    have next := ih (i + 1) (acc ++ putE L[i]) (by omega) (by rw [List.length_append]; omega)
    rw [List.append_assoc, ← putsL_cons, ← List.drop_eq_getElem_cons hi] at next
    simp only [List.length_map, Int.natCast_add, Int.cast_ofNat_Int] at next
    refine ev_shift ?_
    simp only [delta_Put.l0, List.length_map, if_pos (show (i : Int) < L.length by omega), if_pos (show (0 : Int) ≤ i by omega), get153 L i hi, mk153, if_pos (show acc.length < 140737488355328 by omega), Option.bind_some, w64 ((i : Int) + 1) (by omega) (by omega)]
    generalize hxe : L[i] = x at *
    obtain ⟨kd, n, s⟩ := x
    simp only at *
    unfold putE at next hpl
    simp only at next hpl
    by_cases h2 : kd = 2
    · rw [if_pos h2] at next hpl
      simp only [if_pos h2]
      refine Ev.bind (vtext s (by omega)) ?_
      simp only [List.length_cons] at hpl
      simp only [if_pos (show (acc ++ [kd]).length + (textL s).length < 140737488355328 by simp only [List.length_append, List.length_singleton]; omega)]
      simpa only [List.append_assoc, List.singleton_append] using next
    · rw [if_neg h2] at next hpl
      rcases hrw with ⟨_, q, rfl, q0, q1, _⟩ | ⟨e, _⟩
      · simp only [if_neg h2, wu64 (q : Int) (by omega) (by omega)]
        refine Ev.bind (vput _ (by omega) (by omega)) ?_
        simp only [List.length_cons] at hpl
        simp only [if_pos (show (acc ++ [kd]).length + (putL ((q : Int)).toNat).length < 140737488355328 by simp only [List.length_append, List.length_singleton]; omega)]
        simpa only [List.append_assoc, List.singleton_append] using next
      · exact absurd e h2
def putR (L : List Ed) : List Int × Int := if rightL L = true then (putsL L, 0) else ([], 2)
theorem vPut (L : List Ed) (hl : L.length ≤ 1000) (ht : ∀ x ∈ L, x.2.2.size ≤ 1000000) : Ev (fun k => delta_Put.f k (L.map mk153)) (putR L) := by
  unfold delta_Put.f putR
  refine Ev.bind (ev_of (vRight L)) ?_
  by_cases hr : rightL L = true
  · simp only [if_pos hr]
    exact ev_eq (vPut_l0 L hl hr ht L.length 0 [] (by omega) (by simp)) (by simp)
  · simp only [if_neg hr]
    exact Ev.now _
end Go.Proofs.Ytoeabgeglgiobaa.Q
