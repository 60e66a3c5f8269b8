/- What is put is taken as it was, whatever stands ahead and behind; what is taken, put again, is the bytes that were taken. Its conditions: the bounds in each theorem. -/
import Derived.Test.Ytoeabgeglgiobaac11aQVtext
import Derived.KernelRfl
namespace Go.Proofs.Ytoeabgeglgiobaa.Q
open Go.RowKit Go.Proofs.YtoeabgeglgiobaaW.PrintWords Go.Proofs.YtoeabgeglgiobaaW.PrintLast Go.Proofs.YtoeabgeglgiobaaW.PrintMore
open Go.Proofs.Ytoeabgeglgiobaa.P
/-- What is read was written. -/
theorem take_back (b : List Int) (hb : Bytes b) (h : (Q.take b 0).2.2 = 0) : putL (Q.take b 0).1.toNat = b.take (Q.take b 0).2.1.toNat := by
  have key : ∀ (l : List Int) (i n : Nat) (pre : List Int), Bytes l → i ≤ 9 → n < 128 ^ i → pre = conts n i → (tkL l i n).2.2 = 0 → putL (tkL l i n).1 = (pre ++ l).take (tkL l i n).2.1 := by
    intro l
    induction l with
    | nil => intro i n pre _ _ _ _ h; simp [tkL] at h
    | cons c l ih =>
      intro i n pre hb hi hn hpre h
      have hc := hb c (by simp)
      rw [tkl_cons] at h ⊢
      by_cases h1 : i = 9 ∧ c > 1
      · rw [if_pos h1] at h; simp at h
      · have h9 : i = 9 → c ≤ 1 := fun e => by
          by_cases q : c > 1
          · exact absurd ⟨e, q⟩ h1
          · omega
        rw [if_neg h1] at h ⊢
        by_cases h2 : c = 0 ∧ 0 < i
        · rw [if_pos h2] at h; simp at h
        · rw [if_neg h2] at h ⊢
          by_cases h3 : c < 128
          · rw [if_pos h3]
            have e := putL_conts i n (c.toNat % 128) hn (by omega) (fun h0 => by
              have : ¬ c = 0 := fun q => h2 ⟨q, h0⟩
              omega)
            have el : pre.length = i := by rw [hpre, conts_len]
            simp only
            rw [e, hpre, show ((c.toNat % 128 : Nat) : Int) = c by omega]
            have el2 : (conts n i).length = i := conts_len n i
            rw [List.take_append, el2, List.take_of_length_le (by omega)]
            simp
          · rw [if_neg h3] at h ⊢
            have e9 : ¬ i = 9 := fun e => by have := h9 e; omega
            have := ih (i + 1) (n + c.toNat % 128 * 128 ^ i) (pre ++ [c]) (fun x hx => hb x (List.mem_cons_of_mem _ hx)) (by omega) (acc_lt i n (c.toNat % 128) hn (by omega)) (by rw [hpre, conts_snoc i n _ hn (by omega)]; congr 2; omega) h
            rw [this]
            simp
  unfold Q.take at h ⊢
  by_cases h0 : (0 : Int) < 0 ∨ (b.length : Int) ≤ 0
  · rw [if_pos h0] at h; simp at h
  · rw [if_neg h0] at h ⊢
    unfold fin at h ⊢
    by_cases h1 : (tkL (b.drop (0 : Int).toNat) 0 0).2.2 = 0
    · rw [if_pos h1]
      have := key (b.drop (0 : Int).toNat) 0 0 [] (hb.drop _) (by omega) (by decide) (by simp [conts]) h1
      simp only [Int.toNat_natCast, Int.zero_add]
      simpa using this
    · rw [if_neg h1] at h
      have h' : ((tkL (b.drop (0 : Int).toNat) 0 0).2.2 : Int) = 0 := h
      omega
end Go.Proofs.Ytoeabgeglgiobaa.Q
