/- What is put is taken as it was, whatever stands ahead and behind; what is taken, put again, is the bytes that were taken. Its conditions: the bounds in each theorem. -/
import Derived.Test.Ytoeabgeglgiobaac11kQVtext
import Derived.KernelRfl
namespace Go.Proofs.Ytoeabgeglgiobaa.Q
open Go.RowKit Go.Proofs.YtoeabgeglgiobaaW.PrintWords Go.Proofs.YtoeabgeglgiobaaW.PrintLast Go.Proofs.YtoeabgeglgiobaaW.PrintMore
open Go.Proofs.Ytoeabgeglgiobaa.P
/-- What is written is read. -/
theorem tkl_put : ∀ (j m i n : Nat) (post : List Int), m < 128 ^ (j + 1) → n < 128 ^ i → (0 < i → 0 < m) → n + m * 128 ^ i < 18446744073709551616 →
    tkL (putL m ++ post) i n = (n + m * 128 ^ i, i + (putL m).length, 0) := by
  intro j
  have h9 : ∀ (m i n : Nat), i = 9 → n + m * 128 ^ i < 18446744073709551616 → m ≤ 1 := by
    intro m i n e h
    subst e
    rw [p128_9] at h
    omega
  have small : ∀ (m i n : Nat) (post : List Int), m < 128 → (0 < i → 0 < m) → n + m * 128 ^ i < 18446744073709551616 → tkL (putL m ++ post) i n = (n + m * 128 ^ i, i + (putL m).length, 0) := by
    intro m i n post hm h0 hu
    rw [putL_small hm, List.singleton_append, tkl_cons]
    have := h9 m i n
    rw [if_neg (show ¬ (i = 9 ∧ (m : Int) > 1) from fun q => by have := this q.1 hu; omega), if_neg (show ¬ ((m : Int) = 0 ∧ 0 < i) from fun q => by have := h0 q.2; omega), if_pos (show (m : Int) < 128 by omega)]
    rw [Int.toNat_natCast, Nat.mod_eq_of_lt hm]
    rfl
  induction j with
  | zero => intro m i n post h _ h0 hu; exact small m i n post (by simpa using h) h0 hu
  | succ j ih =>
    intro m i n post h hn h0 hu
    by_cases hm : m < 128
    · exact small m i n post hm h0 hu
    · rw [putL_big hm, List.cons_append, tkl_cons]
      have e9 : ¬ i = 9 := fun e => by have := h9 m i n e hu; omega
      rw [if_neg (show ¬ (i = 9 ∧ ((m % 128 + 128 : Nat) : Int) > 1) from fun q => e9 q.1), if_neg (show ¬ (((m % 128 + 128 : Nat) : Int) = 0 ∧ 0 < i) by omega), if_neg (show ¬ ((m % 128 + 128 : Nat) : Int) < 128 by omega)]
      rw [Int.toNat_natCast, show (m % 128 + 128) % 128 = m % 128 by omega]
      have e : n + m % 128 * 128 ^ i + m / 128 * 128 ^ (i + 1) = n + m * 128 ^ i := by
        have hd : m / 128 * 128 + m % 128 = m := by omega
        rw [Nat.pow_succ, Nat.mul_comm (128 ^ i) 128, ← Nat.mul_assoc, Nat.add_assoc, ← Nat.add_mul, Nat.add_comm (m % 128), hd]
      rw [ih (m / 128) (i + 1) (n + m % 128 * 128 ^ i) post (by rw [Nat.pow_succ] at h; omega) (acc_lt i n (m % 128) hn (by omega)) (fun _ => by omega) (by rw [e]; exact hu), e]
      simp only [List.length_cons, Prod.mk.injEq, true_and, and_true]
      omega
theorem tkl_put0 (m : Nat) (post : List Int) (h : m < 18446744073709551616) : tkL (putL m ++ post) 0 0 = (m, (putL m).length, 0) := by
  have := tkl_put 9 m 0 0 post (u64_128 h) (by decide) (fun q => absurd q (by decide)) (by simpa using h)
  simpa using this
theorem take_put (pre post : List Int) (m : Nat) (h : m < 18446744073709551616) : Q.take (pre ++ (putL m ++ post)) (pre.length : Int) = ((m : Int), ((pre.length + (putL m).length : Nat) : Int), 0) := by
  unfold Q.take
  have hp := putL_len_pos m
  rw [if_neg (show ¬ ((pre.length : Int) < 0 ∨ ((pre ++ (putL m ++ post)).length : Int) ≤ pre.length) by simp; omega)]
  rw [Int.toNat_natCast, List.drop_left, tkl_put0 m post h]
  simp [fin]
/-- What is read was written. -/
theorem take_back (b : List Int) (hb : Bytes b) (h : (Q.take b 0).2.2 = 0) : putL (Q.take b 0).1.toNat = b.take (Q.take b 0).2.1.toNat := by
  have key : ∀ (l : List Int) (i n : Nat) (pre : List Int), Bytes l → i ≤ 9 → n < 128 ^ i → pre = conts n i → (tkL l i n).2.2 = 0 → putL (tkL l i n).1 = (pre ++ l).take (tkL l i n).2.1 := by
    intro l
    induction l with
    | nil => intro i n pre _ _ _ _ h; simp [tkL] at h
    | cons c l ih =>
      intro i n pre hb hi hn hpre h
      have hc := hb c (by simp)
      rw [tkl_cons] at h ⊢
      by_cases h1 : i = 9 ∧ c > 1
      · rw [if_pos h1] at h; simp at h
      · have h9 : i = 9 → c ≤ 1 := fun e => by
          by_cases q : c > 1
          · exact absurd ⟨e, q⟩ h1
          · omega
        rw [if_neg h1] at h ⊢
        by_cases h2 : c = 0 ∧ 0 < i
        · rw [if_pos h2] at h; simp at h
        · rw [if_neg h2] at h ⊢
          by_cases h3 : c < 128
          · rw [if_pos h3]
            have e := putL_conts i n (c.toNat % 128) hn (by omega) (fun h0 => by
              have : ¬ c = 0 := fun q => h2 ⟨q, h0⟩
              omega)
            have el : pre.length = i := by rw [hpre, conts_len]
            simp only
            rw [e, hpre, show ((c.toNat % 128 : Nat) : Int) = c by omega]
            have el2 : (conts n i).length = i := conts_len n i
            rw [List.take_append, el2, List.take_of_length_le (by omega)]
            simp
          · rw [if_neg h3] at h ⊢
            have e9 : ¬ i = 9 := fun e => by have := h9 e; omega
            have := ih (i + 1) (n + c.toNat % 128 * 128 ^ i) (pre ++ [c]) (fun x hx => hb x (List.mem_cons_of_mem _ hx)) (by omega) (acc_lt i n (c.toNat % 128) hn (by omega)) (by rw [hpre, conts_snoc i n _ hn (by omega)]; congr 2; omega) h
            rw [this]
            simp
  unfold Q.take at h ⊢
  by_cases h0 : (0 : Int) < 0 ∨ (b.length : Int) ≤ 0
  · rw [if_pos h0] at h; simp at h
  · rw [if_neg h0] at h ⊢
    unfold fin at h ⊢
    by_cases h1 : (tkL (b.drop (0 : Int).toNat) 0 0).2.2 = 0
    · rw [if_pos h1]
      have := key (b.drop (0 : Int).toNat) 0 0 [] (hb.drop _) (by omega) (by decide) (by simp [conts]) h1
      simp only [Int.toNat_natCast, Int.zero_add]
      simpa using this
    · rw [if_neg h1] at h
      have h' : ((tkL (b.drop (0 : Int).toNat) 0 0).2.2 : Int) = 0 := h
      omega
end Go.Proofs.Ytoeabgeglgiobaa.Q
