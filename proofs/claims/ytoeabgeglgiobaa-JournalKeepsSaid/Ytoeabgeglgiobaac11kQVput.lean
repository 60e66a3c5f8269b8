/- How a number is written in groups of seven binary digits, by the program and by the reference alike, and what is so written is of one length, read back, and of bytes. No condition but the bounds in each theorem. -/
import Derived.Test.Ytoeabgeglgiobaac11kQEv
import Derived.Test.Ytoeabgeglgiobaac11kGvarint0
import Derived.Test.Ytoeabgeglgiobaac11kP0
import Derived.Test.Ytoeabgeglgiobaac11kGkit0
namespace Go.Proofs.Ytoeabgeglgiobaa.Q
open Go.RowKit Go.Proofs.YtoeabgeglgiobaaW.PrintWords Go.Proofs.YtoeabgeglgiobaaW.PrintLast Go.Proofs.YtoeabgeglgiobaaW.PrintMore
open Go.Proofs.Ytoeabgeglgiobaa.P
/-- A number, written. -/
def putL (n : Nat) : List Int := if n < 128 then [(n : Int)] else ((n % 128 + 128 : Nat) : Int) :: putL (n / 128)
termination_by n
decreasing_by omega
theorem putL_small {n : Nat} (h : n < 128) : putL n = [(n : Int)] := by rw [putL, if_pos h]
theorem putL_big {n : Nat} (h : ¬ n < 128) : putL n = ((n % 128 + 128 : Nat) : Int) :: putL (n / 128) := by rw [putL, if_neg h]
theorem putL_bytes : ∀ (j n : Nat), n < 128 ^ j → Bytes (putL n) := by
  intro j
  induction j with
  | zero =>
    intro n h
    have : n = 0 := by simpa using h
    subst this
    rw [putL_small (by decide)]; intro x hx; simp at hx; omega
  | succ j ih =>
    intro n h
    by_cases hn : n < 128
    · rw [putL_small hn]; intro x hx; simp at hx; omega
    · rw [putL_big hn]
      intro x hx
      rcases List.mem_cons.1 hx with rfl | hx
      · omega
      · exact ih (n / 128) (by rw [Nat.pow_succ] at h; omega) x hx
theorem putL_len_pos (n : Nat) : 0 < (putL n).length := by rw [putL]; split <;> simp
theorem putL_len_le : ∀ (j n : Nat), n < 128 ^ (j + 1) → (putL n).length ≤ j + 1 := by
  intro j
  induction j with
  | zero => intro n h; rw [putL_small (by simpa using h)]; simp
  | succ j ih =>
    intro n h
    by_cases hn : n < 128
    · rw [putL_small hn]; simp
    · rw [putL_big hn]
      have := ih (n / 128) (by rw [Nat.pow_succ] at h; omega)
      simp; omega
theorem u64_128 {n : Nat} (h : n < 18446744073709551616) : n < 128 ^ (9 + 1) := by
  have : (128 : Nat) ^ (9 + 1) = 1180591620717411303424 := by decide
  omega
theorem putL_len_u64 {n : Nat} (h : n < 18446744073709551616) : (putL n).length ≤ 10 := putL_len_le 9 n (u64_128 h)
theorem putL_bytes_u64 {n : Nat} (h : n < 18446744073709551616) : Bytes (putL n) := putL_bytes 10 n (u64_128 h)
/-! The program's Put. -/
theorem vput_l0 : ∀ (j n : Nat) (acc : List Int), n < 128 ^ (j + 1) → acc.length + j + 1 < 140737488355328 → Ev (fun k => varint_Put.l0 k (n : Int) acc) (acc ++ putL n) := by
  intro j
  induction j with
  | zero =>
    intro n acc h ha
    have hn : n < 128 := by simpa using h
    refine ev_shift ?_
    simp only [varint_Put.l0, if_neg (show ¬ (n : Int) ≥ 128 by omega), if_pos (show acc.length < 140737488355328 by omega), putL_small hn, Int.emod_eq_of_lt (show (0 : Int) ≤ n by omega) (show (n : Int) < 256 by omega)]
    exact Ev.now _
  | succ j ih =>
    intro n acc h ha
    refine ev_shift ?_
    by_cases hn : n < 128
    · simp only [varint_Put.l0, if_neg (show ¬ (n : Int) ≥ 128 by omega), if_pos (show acc.length < 140737488355328 by omega), putL_small hn, Int.emod_eq_of_lt (show (0 : Int) ≤ n by omega) (show (n : Int) < 256 by omega)]
      exact Ev.now _
    · simp only [varint_Put.l0, if_pos (show (n : Int) ≥ 128 by omega), if_pos (show acc.length < 140737488355328 by omega), or128 ((n : Int) % 256) (by omega) (by omega)]
      have e1 : (n : Int) / 128 = ((n / 128 : Nat) : Int) := by omega
      have e2 : (n : Int) % 256 % 128 + 128 = ((n % 128 + 128 : Nat) : Int) := by omega
      have := ih (n / 128) (acc ++ [((n % 128 + 128 : Nat) : Int)]) (by rw [Nat.pow_succ] at h; omega) (by simp; omega)
      rw [e1, e2, putL_big hn]
      simpa using this
theorem vput (x : Int) (h0 : 0 ≤ x) (h1 : x < 18446744073709551616) : Ev (fun k => varint_Put.f k x) (putL x.toNat) := by
  obtain ⟨n, rfl⟩ := Int.eq_ofNat_of_zero_le h0
  have := vput_l0 9 n [] (u64_128 (by omega)) (by simp)
  simpa [varint_Put.f] using this
/-! The reference's Put. -/
end Go.Proofs.Ytoeabgeglgiobaa.Q
