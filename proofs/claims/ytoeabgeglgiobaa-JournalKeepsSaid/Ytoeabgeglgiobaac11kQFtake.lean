/- The reference's frame, all frames, and the one that the bytes are: as the program has them. No condition but the bounds in each theorem. -/
import Derived.Test.Ytoeabgeglgiobaac11kQFrame
import Derived.Test.Ytoeabgeglgiobaac11kP0
import Derived.Test.Ytoeabgeglgiobaac11kGkit0
namespace Go.Proofs.Ytoeabgeglgiobaa.Q
open Go.RowKit Go.Proofs.YtoeabgeglgiobaaW.PrintWords Go.Proofs.YtoeabgeglgiobaaW.PrintLast Go.Proofs.YtoeabgeglgiobaaW.PrintMore
open Go.Proofs.Ytoeabgeglgiobaa.P
theorem take_at (b : List Int) (a : Int) (h0 : 0 ≤ a) (h1 : a < b.length) : Q.take b a = ((Q.take (b.drop a.toNat) 0).1, (if (Q.take (b.drop a.toNat) 0).2.2 = 0 then a + (Q.take (b.drop a.toNat) 0).2.1 else a), (Q.take (b.drop a.toNat) 0).2.2) := by
  unfold Q.take
  rw [if_neg (show ¬ (a < 0 ∨ (b.length : Int) ≤ a) by omega), if_neg (show ¬ ((0 : Int) < 0 ∨ ((b.drop a.toNat).length : Int) ≤ 0) by simp; omega)]
  simp only [Int.toNat_zero, List.drop_zero]
  unfold fin
  by_cases q : (tkL (b.drop a.toNat) 0 0).2.2 = 0
  · rw [if_pos q, if_pos q]; simp
  · rw [if_neg q, if_neg q]; simp
/-- What is taken at a place was written there. -/
theorem take_back_at (b : List Int) (hb : Bytes b) (a x n : Nat) (h : Q.take b (a : Int) = ((n : Int), (x : Int), 0)) : putL n = (b.drop a).take (x - a) := by
  have bd := take_bd b hb a (by rw [h])
  rw [h] at bd
  simp only at bd
  have e := take_at b a (by omega) (by omega)
  rw [h, Int.toNat_natCast] at e
  simp only [Prod.mk.injEq] at e
  obtain ⟨e1, e2, e3⟩ := e
  rw [if_pos e3.symm] at e2
  have := take_back (b.drop a) (hb.drop _) e3.symm
  rw [← e1, Int.toNat_natCast] at this
  rw [this]
  congr 1
  omega
theorem frm_at (b : List Int) (hb : Bytes b) (a x n : Nat) (h : Q.take b ((a : Int) + 1) = ((n : Int), (x : Int), 0)) (hx : a + 1 < x) (hl : x + n + 4 ≤ b.length) :
    frmP (rd b a) ((b.take (x + n)).drop x) = (b.take (x + n)).drop a := by
  have h' : Q.take b ((a + 1 : Nat) : Int) = ((n : Int), (x : Int), 0) := by rw [← h]; rfl
  have hp := take_back_at b hb (a + 1) x n h'
  have hl2 := mid_len b x (x + n) (by omega)
  unfold frmP
  rw [hl2, show x + n - x = n by omega, hp]
  have e1 : (b.take (x + n)).drop a = (b.drop a).take (x + n - a) := by rw [List.drop_take]
  have e2 : (b.take (x + n)).drop x = (b.drop x).take n := by rw [List.drop_take]; congr 1; omega
  rw [e1, e2, List.drop_eq_getElem_cons (show a < b.length by omega), show x + n - a = (x + n - (a + 1)) + 1 by omega, List.take_succ_cons, rd_lt b a (by omega)]
  congr 1
  have e3 : b.drop x = (b.drop (a + 1)).drop (x - (a + 1)) := by rw [List.drop_drop]; congr 1; omega
  rw [e3, ← List.take_add]
  congr 1
  omega
end Go.Proofs.Ytoeabgeglgiobaa.Q
