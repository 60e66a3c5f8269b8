/- Edits: whether one may be. No condition. -/
import Derived.Test.Ytoeabgeglgiobaac5bQEv
import Derived.Test.Ytoeabgeglgiobaac5bGdelta0
namespace Go.Proofs.Ytoeabgeglgiobaa.Q
open Go.RowKit Go.Proofs.YtoeabgeglgiobaaW.PrintWords Go.Proofs.YtoeabgeglgiobaaW.PrintLast Go.Proofs.YtoeabgeglgiobaaW.PrintMore
open Go.Proofs.Ytoeabgeglgiobaa.P
/-- An edit: its kind, its number, its text. -/
abbrev Ed := Int × Int × ByteArray
def mk153 (p : Ed) : S153 := ⟨p.1, p.2.1, p.2.2⟩
def mk226 (p : Ed) : S226 := ⟨p.1, p.2.1, p.2.2⟩
theorem un153 (l : List S153) : l = (l.map fun x => (x.f0, x.f1, x.f2)).map mk153 := by
  rw [List.map_map]; exact (List.map_id l).symm
theorem get153 (L : List Ed) (i : Nat) (h : i < L.length) : rd_T153 (L.map mk153) (i : Int) = mk153 L[i] := by simp [rd_T153, List.getD, h]
theorem get226 (L : List Ed) (i : Nat) (h : i < L.length) : rd_T226 (L.map mk226) (i : Int) = mk226 L[i] := by simp [rd_T226, List.getD, h]
def emptyS : ByteArray := ⟨#[]⟩
theorem toList_nil (s : ByteArray) : s.toList = [] ↔ s.size = 0 := by
  rw [ByteArray.toList_eq]
  constructor
  · intro h
    have := congrArg List.length h
    simpa using this
  · intro h
    exact List.eq_nil_of_length_eq_zero (by simpa using h)
def rightB (kd n : Int) (s : ByteArray) : Bool := if kd = 1 ∨ kd = 3 then decide (0 < n ∧ n ≤ 2147483647 ∧ s.size = 0) else decide (kd = 2 ∧ n = 0 ∧ s.size ≠ 0)
theorem beq_nil (s : ByteArray) : (s.toList == ([] : List UInt8)) = decide (s.size = 0) := by
  rw [Bool.eq_iff_iff, beq_iff_eq, decide_eq_true_iff]; exact toList_nil s
theorem bne_nil (s : ByteArray) : (s.toList != ([] : List UInt8)) = decide (s.size ≠ 0) := by
  rw [bne, beq_nil]; simp
theorem vright_j0 (kd n : Int) (s : ByteArray) (b : Bool) (h : b = decide (kd = 1 ∨ kd = 3)) : Ev (fun k => delta_Edit_right.j0 k kd b kd n s) (rightB kd n s) := by
  refine ev_shift ?_
  unfold rightB
  by_cases q : kd = 1 ∨ kd = 3
  · rw [decide_eq_true q] at h
    subst h
    simp only [delta_Edit_right.j0, if_true, if_pos q]
    by_cases h1 : n > 0
    · by_cases h2 : n ≤ 2147483647
      · simp only [if_pos h1, if_pos h2, beq_nil]
        exact ev_some (by rw [decide_eq_decide]; exact ⟨fun z => ⟨h1, h2, z⟩, fun z => z.2.2⟩)
      · simp only [if_pos h1, if_neg h2]
        exact ev_some (by symm; rw [decide_eq_false_iff_not]; exact fun z => h2 z.2.1)
    · simp only [if_neg h1]
      exact ev_some (by symm; rw [decide_eq_false_iff_not]; exact fun z => h1 z.1)
  · rw [decide_eq_false q] at h
    subst h
    simp only [delta_Edit_right.j0, if_neg (show ¬ (false = true) by decide), if_neg q]
    by_cases h1 : kd = 2
    · by_cases h2 : n = 0
      · simp only [if_pos h1, if_pos h2, bne_nil]
        exact ev_some (by rw [decide_eq_decide]; exact ⟨fun z => ⟨h1, h2, z⟩, fun z => z.2.2⟩)
      · simp only [if_pos h1, if_neg h2]
        exact ev_some (by symm; rw [decide_eq_false_iff_not]; exact fun z => h2 z.2.1)
    · simp only [if_neg h1]
      exact ev_some (by symm; rw [decide_eq_false_iff_not]; exact fun z => h1 z.1)
theorem vright (kd n : Int) (s : ByteArray) : Ev (fun k => delta_Edit_right.f k kd n s) (rightB kd n s) := by
  unfold delta_Edit_right.f
  by_cases h : kd = 1
  · simp only [if_pos h]
    exact vright_j0 kd n s _ (by subst h; decide)
  · simp only [if_neg h]
    refine vright_j0 kd n s _ ?_
    rw [Bool.eq_iff_iff, beq_iff_eq, decide_eq_true_iff]
    exact ⟨fun z => .inr z, fun z => z.elim (fun y => absurd y h) id⟩
end Go.Proofs.Ytoeabgeglgiobaa.Q
