/- Payloads are few; one is put behind. No condition but the bounds in each theorem. -/
import Derived.Test.Ytoeabgeglgiobaac11kQJour
import Derived.Test.Ytoeabgeglgiobaac11kQJkeep
namespace Go.Proofs.Ytoeabgeglgiobaa.Q
open Go.RowKit Go.Proofs.YtoeabgeglgiobaaW.PrintWords Go.Proofs.YtoeabgeglgiobaaW.PrintLast Go.Proofs.YtoeabgeglgiobaaW.PrintMore
open Go.Proofs.Ytoeabgeglgiobaa.P
def Few11 (L : List (List Int)) : Prop := L.length ≤ 10 ∧ ∀ p ∈ L, p.length ≤ 200
instance (L : List (List Int)) : Decidable (Few11 L) := by unfold Few11; infer_instance
theorem few11_l0 (L : List (List Int)) : ∀ (d i : Nat), i + d = 11 → i ≤ L.length → (∀ p ∈ L.take i, p.length ≤ 200) →
    Ev (fun k => chartroomlaw11_few.l0 k L (i : Int)) (decide (Few11 L)) := by
  intro d
  induction d with
  | zero =>
    intro i h hi hp
    have hend : Ev (fun k => chartroomlaw11_few.j1 k L (i : Int) false) (decide (Few11 L)) := by
      refine ev_shift ?_
      simp only [chartroomlaw11_few.j1, if_neg (show ¬ (false = true) by decide)]
      refine ev_some ?_
      rw [decide_eq_false (show ¬ (L.length : Int) ≤ 10 by omega), decide_eq_false (show ¬ Few11 L from fun q => by have := q.1; omega)]
    refine ev_shift ?_
    by_cases hl : (i : Int) < L.length
    · simp only [chartroomlaw11_few.l0, if_pos hl, decide_eq_false (show ¬ (i : Int) < 11 by omega)]
      exact hend
    · simp only [chartroomlaw11_few.l0, if_neg hl]
      exact hend
  | succ d ih =>
    intro i h hi hp
    refine ev_shift ?_
    by_cases hl : i < L.length
    · simp only [chartroomlaw11_few.l0, if_pos (show (i : Int) < L.length by omega), decide_eq_true (show (i : Int) < 11 by omega)]
      refine ev_shift ?_
      simp only [chartroomlaw11_few.j1, if_true, if_pos (show (i : Int) < L.length by omega), if_pos (show (0 : Int) ≤ i by omega), rdL2 L i hl]
      by_cases q : (L[i].length : Int) > 200
      · simp only [if_pos q]
        refine ev_some ?_
        rw [decide_eq_false (show ¬ Few11 L from fun z => by have := z.2 _ (List.getElem_mem hl); omega)]
      · simp only [if_neg q, w64 ((i : Int) + 1) (by omega) (by omega)]
        refine ih (i + 1) (by omega) (by omega) (fun p hp' => ?_)
        rw [take_snoc L i hl] at hp'
        rcases List.mem_append.1 hp' with hp' | hp'
        · exact hp p hp'
        · rw [List.mem_singleton.1 hp']; omega
    · simp only [chartroomlaw11_few.l0, if_neg (show ¬ (i : Int) < L.length by omega)]
      refine ev_shift ?_
      simp only [chartroomlaw11_few.j1, if_neg (show ¬ (false = true) by decide)]
      refine ev_some ?_
      rw [List.take_of_length_le (by omega)] at hp
      rw [decide_eq_true (show (L.length : Int) ≤ 10 by omega), decide_eq_true (show Few11 L from ⟨by omega, hp⟩)]
theorem few11 (L : List (List Int)) : Ev (fun k => chartroomlaw11_few.f k L) (decide (Few11 L)) := by
  unfold chartroomlaw11_few.f
  exact few11_l0 L 11 0 (by omega) (by omega) (by simp)
def apd (b p : List Int) (E : Nat) : List Int × Int × Int × Int × Int := if p.length > 65535 then ([], 0, 0, 0, 3) else (b.take E ++ frmL 9 p, (E : Int), (p.length : Int), crcSum p, 0)
theorem vAppend (b p : List Int) (hb : Bytes b) (hs : b.length ≤ 1000000) (hp : Pl p) {E : Nat} (he : wholeD b = (E : Int)) (hE : E ≤ b.length) : Ev (fun k => journal_Append.f k b p) (apd b p E) := by
  unfold journal_Append.f apd
  refine Ev.bind (vjput [p] (by simp) (by intro q hq; rw [List.mem_singleton.1 hq]; exact hp)) ?_
  have ej : jput [p] = if p.length > 65535 then ([], 3) else (frmL 9 p, 0) := rfl
  rw [ej]
  by_cases h : p.length > 65535
  · simp only [if_pos h, if_neg (show ¬ (3 : Int) = 0 by decide)]
    exact Ev.now _
  · have hl := frmL_len_le 9 p (by omega)
    simp only [if_neg h, if_true]
    refine Ev.bind (ev_of (vcut b hb hs he hE)) ?_
    simp only [journal_Of.f, Option.bind_some, show (b.take E).length = E by rw [List.length_take]; omega, if_pos (show E + (frmL 9 p).length < 140737488355328 by omega)]
    exact Ev.now _
theorem vwhole (b : List Int) (hb : Bytes b) (hs : b.length ≤ 1000000) : journal_Whole.f b = some (wholeD b) := by
  unfold journal_Whole.f
  rw [if_pos ⟨hs, hb⟩]
theorem vall11 (b : List Int) (hb : Bytes b) (hs : b.length ≤ 1000000) : journal_All.f b = some ((jall b (b.length + 1) 0).map (·.2)) := by
  unfold journal_All.f
  rw [if_pos ⟨hs, hb⟩]
theorem rows11 (L : List (List Int)) (hl : L.length ≤ 1000) (hp : ∀ p ∈ L, p.length ≤ 100000) : Ev (fun k => chartroomlaw11_rows.f k L L) true := by
  unfold chartroomlaw11_rows.f
  simp only [if_true]
  have key : ∀ (d i : Nat), i + d = L.length → Ev (fun k => chartroomlaw11_rows.l0 k L L (i : Int)) true := by
    intro d
    induction d with
    | zero =>
      intro i h
      refine ev_shift ?_
      simp only [chartroomlaw11_rows.l0, if_neg (show ¬ (i : Int) < L.length by omega)]
      exact Ev.now _
    | succ d ih =>
      intro i h
      have hi : i < L.length := by omega
      refine ev_shift ?_
      simp only [chartroomlaw11_rows.l0, if_pos (show (i : Int) < L.length by omega), if_pos (show (0 : Int) ≤ i by omega), rdL2 L i hi]
      refine Ev.bind (sameBytes _ _ (by have := hp _ (List.getElem_mem hi); omega)) ?_
      simp only [decide_true, if_true, w64 ((i : Int) + 1) (by omega) (by omega)]
      exact ih (i + 1) (by omega)
  exact key L.length 0 (by omega)
def rf (p : List Int) : S92 := ⟨(p.length : Int), crcSum p⟩
def plc (L : List (List Int)) (i : Nat) : List Int := (List.range i).map fun j => ((jl (L.take j)).length : Int)
theorem plc_snoc (L : List (List Int)) (i : Nat) : plc L (i + 1) = plc L i ++ [((jl (L.take i)).length : Int)] := by unfold plc; rw [List.range_succ, List.map_append]; rfl
theorem plc_len (L : List (List Int)) (i : Nat) : (plc L i).length = i := by simp [plc]
theorem plc_get (L : List (List Int)) (n i : Nat) (h : i < n) : rd (plc L n) (i : Int) = ((jl (L.take i)).length : Int) := by
  rw [rd_lt _ _ (by rw [plc_len]; exact h)]
  simp [plc]
theorem rf_get (L : List (List Int)) (i : Nat) (h : i < L.length) : rd_T92 (L.map rf) (i : Int) = rf L[i] := by simp [rd_T92, List.getD, h]
theorem vGet (b : List Int) (hb : Bytes b) (hs : b.length ≤ 1000000) (a s c : Int) : Ev (fun k => journal_Get.f k b a s c) (if (jnx b a).2.2 = 0 then (if (!(((jnx b a).1.length : Int) == s) || (!(crcSum (jnx b a).1 == c))) = true then ([], 110) else ((jnx b a).1, 0)) else ([], (jnx b a).2.2)) := by
  unfold journal_Get.f
  refine Ev.bind (vjnext b hb hs a) ?_
  by_cases h : (jnx b a).2.2 = 0
  · simp only [if_pos h, journal_Of.f, Option.bind_some]
    by_cases h2 : (!(((jnx b a).1.length : Int) == s) || (!(crcSum (jnx b a).1 == c))) = true
    · simp only [if_pos h2]; exact Ev.now _
    · simp only [if_neg h2]; exact Ev.now _
  · simp only [if_neg h]; exact Ev.now _
end Go.Proofs.Ytoeabgeglgiobaa.Q
