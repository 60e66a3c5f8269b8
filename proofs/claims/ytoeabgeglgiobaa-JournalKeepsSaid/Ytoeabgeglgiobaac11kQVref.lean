/- What the reference's Take answers, and what both take of texts and rows of numbers: the same. No condition but the bounds in each theorem. -/
import Derived.Test.Ytoeabgeglgiobaac11kQVtake
namespace Go.Proofs.Ytoeabgeglgiobaa.Q
open Go.RowKit Go.Proofs.YtoeabgeglgiobaaW.PrintWords Go.Proofs.YtoeabgeglgiobaaW.PrintLast Go.Proofs.YtoeabgeglgiobaaW.PrintMore
open Go.Proofs.Ytoeabgeglgiobaa.P
/-- Groups that are followed by others. -/
def conts : Nat → Nat → List Int
  | _, 0 => []
  | n, i + 1 => ((n % 128 + 128 : Nat) : Int) :: conts (n / 128) i
theorem conts_len (n i : Nat) : (conts n i).length = i := by
  induction i generalizing n with
  | zero => rfl
  | succ i ih => simp [conts, ih]
theorem conts_snoc : ∀ (i n d : Nat), n < 128 ^ i → d < 128 → conts (n + d * 128 ^ i) (i + 1) = conts n i ++ [((d + 128 : Nat) : Int)] := by
  intro i
  induction i with
  | zero =>
    intro n d hn hd
    have : n = 0 := by simpa using hn
    subst this
    simp [conts, Nat.mod_eq_of_lt hd]
  | succ i ih =>
    intro n d hn hd
    have e1 : (n + d * 128 ^ (i + 1)) % 128 = n % 128 := by
      rw [Nat.pow_succ, ← Nat.mul_assoc]; omega
    have e2 : (n + d * 128 ^ (i + 1)) / 128 = n / 128 + d * 128 ^ i := by
      rw [Nat.pow_succ, ← Nat.mul_assoc]; omega
    rw [conts, e1, e2, ih (n / 128) d (by rw [Nat.pow_succ] at hn; omega) hd]
    rfl
theorem putL_conts : ∀ (i n c : Nat), n < 128 ^ i → c < 128 → (0 < i → 0 < c) → putL (n + c * 128 ^ i) = conts n i ++ [(c : Int)] := by
  intro i
  induction i with
  | zero =>
    intro n c hn hc _
    have : n = 0 := by simpa using hn
    subst this
    simp only [Nat.pow_zero, Nat.mul_one, Nat.zero_add, conts, List.nil_append]
    exact putL_small hc
  | succ i ih =>
    intro n c hn hc h
    have hc0 := h (by omega)
    have e1 : (n + c * 128 ^ (i + 1)) % 128 = n % 128 := by rw [Nat.pow_succ, ← Nat.mul_assoc]; omega
    have e2 : (n + c * 128 ^ (i + 1)) / 128 = n / 128 + c * 128 ^ i := by rw [Nat.pow_succ, ← Nat.mul_assoc]; omega
    have hp : 0 < 128 ^ i := Nat.pow_pos (by decide)
    have hb : ¬ n + c * 128 ^ (i + 1) < 128 := by
      have : 1 * 128 ^ i ≤ c * 128 ^ i := Nat.mul_le_mul (by omega) (Nat.le_refl _)
      rw [Nat.pow_succ, ← Nat.mul_assoc]; omega
    rw [putL_big hb, e1, e2, ih (n / 128) c (by rw [Nat.pow_succ] at hn; omega) hc (fun _ => hc0)]
    rfl
end Go.Proofs.Ytoeabgeglgiobaa.Q
