/- What TakeText and TakeAll answer, the program's and the reference's, one plain function each; that what is put is taken as it was, and what is taken, put again, is the bytes that were taken. No condition but the bounds in each theorem. -/
import Derived.Test.Ytoeabgeglgiobaac11kQVref
namespace Go.Proofs.Ytoeabgeglgiobaa.Q
open Go.RowKit Go.Proofs.YtoeabgeglgiobaaW.PrintWords Go.Proofs.YtoeabgeglgiobaaW.PrintLast Go.Proofs.YtoeabgeglgiobaaW.PrintMore
open Go.Proofs.Ytoeabgeglgiobaa.P
/-! What a number's answer may be. -/
theorem tkl_bd : ∀ (l : List Int) (i n : Nat), Bytes l → i ≤ 9 → n < 128 ^ i → (tkL l i n).2.2 = 0 → (tkL l i n).1 < 18446744073709551616 ∧ i < (tkL l i n).2.1 ∧ (tkL l i n).2.1 ≤ i + l.length ∧ (tkL l i n).2.1 ≤ 10 := by
  intro l
  induction l with
  | nil => intro i n _ _ _ h; simp [tkL] at h
  | cons c l ih =>
    intro i n hb hi hn h
    have hc := hb c (by simp)
    rw [tkl_cons] at h ⊢
    by_cases h1 : i = 9 ∧ c > 1
    · rw [if_pos h1] at h; simp at h
    · have h9 : i = 9 → c ≤ 1 := fun e => by
        by_cases q : c > 1
        · exact absurd ⟨e, q⟩ h1
        · omega
      rw [if_neg h1] at h ⊢
      by_cases h2 : c = 0 ∧ 0 < i
      · rw [if_pos h2] at h; simp at h
      · rw [if_neg h2] at h ⊢
        by_cases h3 : c < 128
        · rw [if_pos h3] at h ⊢
          have := acc_u64 i n (c.toNat % 128) hi hn (by omega) (fun e => by have := h9 e; omega)
          refine ⟨this, ?_, ?_, ?_⟩ <;> simp <;> omega
        · rw [if_neg h3] at h ⊢
          have e9 : ¬ i = 9 := fun e => by have := h9 e; omega
          have := ih (i + 1) _ (fun x hx => hb x (List.mem_cons_of_mem _ hx)) (by omega) (acc_lt i n (c.toNat % 128) hn (by omega)) h
          simp only [List.length_cons]
          omega
theorem take_bd (b : List Int) (hb : Bytes b) (a : Int) (h : (take b a).2.2 = 0) : 0 ≤ (take b a).1 ∧ (take b a).1 < 18446744073709551616 ∧ 0 ≤ a ∧ a < (take b a).2.1 ∧ (take b a).2.1 ≤ b.length ∧ (take b a).2.1 ≤ a + 10 := by
  unfold take at h ⊢
  by_cases h0 : a < 0 ∨ (b.length : Int) ≤ a
  · rw [if_pos h0] at h; simp at h
  · rw [if_neg h0] at h ⊢
    unfold fin at h ⊢
    by_cases h1 : (tkL (b.drop a.toNat) 0 0).2.2 = 0
    · rw [if_pos h1]
      have := tkl_bd (b.drop a.toNat) 0 0 (hb.drop _) (by omega) (by decide) h1
      simp only [List.length_drop] at this
      refine ⟨by omega, by simp; omega, by omega, by simp; omega, by simp; omega, by simp; omega⟩
    · rw [if_neg h1] at h; simp at h; omega
/-! TakeText. -/
/-! TakeAll. -/
end Go.Proofs.Ytoeabgeglgiobaa.Q
