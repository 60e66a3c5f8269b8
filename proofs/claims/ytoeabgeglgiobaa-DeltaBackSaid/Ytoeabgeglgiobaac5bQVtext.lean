/- What TakeText and TakeAll answer, the program's and the reference's, one plain function each; that what is put is taken as it was, and what is taken, put again, is the bytes that were taken. No condition but the bounds in each theorem. -/
import Derived.Test.Ytoeabgeglgiobaac5bQVref
namespace Go.Proofs.Ytoeabgeglgiobaa.Q
open Go.RowKit Go.Proofs.YtoeabgeglgiobaaW.PrintWords Go.Proofs.YtoeabgeglgiobaaW.PrintLast Go.Proofs.YtoeabgeglgiobaaW.PrintMore
open Go.Proofs.Ytoeabgeglgiobaa.P
/-! What a number's answer may be. -/
theorem tkl_bd : ∀ (l : List Int) (i n : Nat), Bytes l → i ≤ 9 → n < 128 ^ i → (tkL l i n).2.2 = 0 → (tkL l i n).1 < 18446744073709551616 ∧ i < (tkL l i n).2.1 ∧ (tkL l i n).2.1 ≤ i + l.length ∧ (tkL l i n).2.1 ≤ 10 := by
  intro l
  induction l with
  | nil => intro i n _ _ _ h; simp [tkL] at h
  | cons c l ih =>
    intro i n hb hi hn h
    have hc := hb c (by simp)
    rw [tkl_cons] at h ⊢
    by_cases h1 : i = 9 ∧ c > 1
    · rw [if_pos h1] at h; simp at h
    · have h9 : i = 9 → c ≤ 1 := fun e => by
        by_cases q : c > 1
        · exact absurd ⟨e, q⟩ h1
        · omega
      rw [if_neg h1] at h ⊢
      by_cases h2 : c = 0 ∧ 0 < i
      · rw [if_pos h2] at h; simp at h
      · rw [if_neg h2] at h ⊢
        by_cases h3 : c < 128
        · rw [if_pos h3] at h ⊢
          have := acc_u64 i n (c.toNat % 128) hi hn (by omega) (fun e => by have := h9 e; omega)
          refine ⟨this, ?_, ?_, ?_⟩ <;> simp <;> omega
        · rw [if_neg h3] at h ⊢
          have e9 : ¬ i = 9 := fun e => by have := h9 e; omega
          have := ih (i + 1) _ (fun x hx => hb x (List.mem_cons_of_mem _ hx)) (by omega) (acc_lt i n (c.toNat % 128) hn (by omega)) h
          simp only [List.length_cons]
          omega
theorem take_bd (b : List Int) (hb : Bytes b) (a : Int) (h : (take b a).2.2 = 0) : 0 ≤ (take b a).1 ∧ (take b a).1 < 18446744073709551616 ∧ 0 ≤ a ∧ a < (take b a).2.1 ∧ (take b a).2.1 ≤ b.length ∧ (take b a).2.1 ≤ a + 10 := by
  unfold take at h ⊢
  by_cases h0 : a < 0 ∨ (b.length : Int) ≤ a
  · rw [if_pos h0] at h; simp at h
  · rw [if_neg h0] at h ⊢
    unfold fin at h ⊢
    by_cases h1 : (tkL (b.drop a.toNat) 0 0).2.2 = 0
    · rw [if_pos h1]
      have := tkl_bd (b.drop a.toNat) 0 0 (hb.drop _) (by omega) (by decide) h1
      simp only [List.length_drop] at this
      refine ⟨by omega, by simp; omega, by omega, by simp; omega, by simp; omega, by simp; omega⟩
    · rw [if_neg h1] at h; simp at h; omega
/-! TakeText. -/
def takeText (b : List Int) (a : Int) : ByteArray × Int × Int :=
  if (take b a).2.2 = 0 then
    if (take b a).1 > (b.length : Int) - (take b a).2.1 then ((⟨#[]⟩ : ByteArray), a, 10)
    else (strOfNums ((b.take ((take b a).2.1 + (take b a).1).toNat).drop (take b a).2.1.toNat), (take b a).2.1 + (take b a).1, 0)
  else ((⟨#[]⟩ : ByteArray), a, (take b a).2.2)
theorem vtext_take (b : List Int) (hb : Bytes b) (hs : b.length ≤ 140737488355328) (a : Int) : Ev (fun k => varint_TakeText.f k b a) (takeText b a) := by
  unfold varint_TakeText.f takeText
  refine Ev.bind (vtake b hb hs a) ?_
  by_cases h : (take b a).2.2 = 0
  · have hd := take_bd b hb a h
    simp only [if_pos h]
    generalize take b a = r at *
    have e1 : IntKind.u64.wrap (wrap64 ((b.length : Int) - r.2.1)) = (b.length : Int) - r.2.1 := by rw [w64 _ (by omega) (by omega), wu64 _ (by omega) (by omega)]
    simp only [e1]
    by_cases hg : r.1 > (b.length : Int) - r.2.1
    · simp only [if_pos hg]; exact Ev.now _
    · have e2 : wrap64 r.1 = r.1 := w64 _ (by omega) (by omega)
      have e3 : wrap64 (r.2.1 + r.1) = r.2.1 + r.1 := w64 _ (by omega) (by omega)
      simp only [if_neg hg, e2, e3, if_pos (show 0 ≤ r.2.1 by omega), if_pos (show r.2.1 ≤ r.2.1 + r.1 by omega), if_pos (show r.2.1 + r.1 ≤ (b.length : Int) by omega)]
      exact Ev.now _
  · simp only [if_neg h]; exact Ev.now _
/-! TakeAll. -/
end Go.Proofs.Ytoeabgeglgiobaa.Q
