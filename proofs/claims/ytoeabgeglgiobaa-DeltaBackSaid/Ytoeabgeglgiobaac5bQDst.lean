/- What a delta does to a text is what its normal form does. No condition but those of each theorem. -/
import Derived.Test.Ytoeabgeglgiobaac5bQDapp
import Derived.Test.Ytoeabgeglgiobaac5bQDnv
namespace Go.Proofs.Ytoeabgeglgiobaa.Q
open Go.RowKit Go.Proofs.YtoeabgeglgiobaaW.PrintWords Go.Proofs.YtoeabgeglgiobaaW.PrintLast Go.Proofs.YtoeabgeglgiobaaW.PrintMore
open Go.Proofs.Ytoeabgeglgiobaa.P
abbrev St := List UInt8 × List UInt8 × Int × Int
def stE (σ : St) (x : Ed) : St :=
  if x.1 = 2 then (σ.1, σ.2.1 ++ x.2.2.data.toList, σ.2.2.1, σ.2.2.2 + x.2.2.size) else if x.1 = 3 then (σ.1.drop x.2.1.toNat, σ.2.1, σ.2.2.1 + x.2.1, σ.2.2.2) else (σ.1.drop x.2.1.toNat, σ.2.1 ++ σ.1.take x.2.1.toNat, σ.2.2.1 + x.2.1, σ.2.2.2 + x.2.1)
theorem append_data (a b : ByteArray) : (a ++ b).data.toList = a.data.toList ++ b.data.toList := by
  rw [ByteArray.data_append, Array.toList_append]
theorem stE_mrg (σ : St) (a b : Ed) (ha : Wr a) (hb : Wr b) (h : a.1 = b.1) : stE (stE σ a) b = stE σ (a.1, a.2.1 + b.2.1, a.2.2 ++ b.2.2) := by
  unfold stE
  by_cases h2 : a.1 = 2
  · simp only [if_pos h2, if_pos (show b.1 = 2 by omega), append_data, List.append_assoc, ByteArray.size_append, Int.natCast_add, Int.add_assoc]
  · have na : 0 < a.2.1 := ha.elim (fun z => z.2.1) (fun z => absurd z.1 h2)
    have nb : 0 < b.2.1 := hb.elim (fun z => z.2.1) (fun z => absurd (h.trans z.1) h2)
    have ht : (a.2.1 + b.2.1).toNat = a.2.1.toNat + b.2.1.toNat := by omega
    by_cases h3 : a.1 = 3
    · simp only [if_neg h2, if_pos h3, if_neg (show ¬ b.1 = 2 by omega), if_pos (show b.1 = 3 by omega), Int.add_assoc, ht, List.drop_drop]
    · simp only [if_neg h2, if_neg h3, if_neg (show ¬ b.1 = 2 by omega), if_neg (show ¬ b.1 = 3 by omega), Int.add_assoc, ht, List.drop_drop, List.append_assoc, List.take_add]
theorem stE_swap (σ : St) (a b : Ed) (ha : a.1 = 3) (hb : b.1 = 2) : stE (stE σ a) b = stE (stE σ b) a := by
  unfold stE
  simp only [ha, hb, if_true, if_neg (show ¬ (3 : Int) = 2 by decide)]
theorem st_mrg : ∀ (L M : List Ed) (σ : St), (∀ x ∈ L, Wr x) → mrg L = some M → L.foldl stE σ = M.foldl stE σ
  | [], M, σ, _, h => by simp [mrg] at h
  | [a], M, σ, _, h => by simp [mrg] at h
  | a :: b :: r, M, σ, hw, h => by
    rw [mrg] at h
    have ha := hw a (by simp)
    have hb := hw b (by simp)
    by_cases h1 : a.1 = b.1
    · rw [if_pos h1] at h
      obtain rfl := Option.some.inj h
      simp only [List.foldl_cons]
      rw [stE_mrg σ a b ha hb h1]
    · rw [if_neg h1] at h
      by_cases h2 : a.1 = 3 ∧ b.1 = 2
      · rw [if_pos h2] at h
        obtain rfl := Option.some.inj h
        simp only [List.foldl_cons]
        rw [stE_swap σ a b h2.1 h2.2]
      · rw [if_neg h2] at h
        obtain ⟨M', hM, rfl⟩ := Option.map_eq_some_iff.1 h
        rw [List.foldl_cons, List.foldl_cons]
        exact st_mrg (b :: r) M' _ (fun x hx => hw x (List.mem_cons_of_mem _ hx)) hM
theorem nf_reach : ∀ (m : Nat) (L : List Ed), L.length + inv3 L < m → (∀ x ∈ L, Wr x) → mrg (nf L) = none ∧ (nf L).length ≤ L.length ∧ ∀ σ, (nf L).foldl stE σ = L.foldl stE σ := by
  intro m
  induction m with
  | zero => intro L h; omega
  | succ m ih =>
    intro L h hw
    cases hm : mrg L with
    | none =>
      rw [nf_fix L hw hm]
      exact ⟨hm, Nat.le_refl _, fun _ => rfl⟩
    | some M =>
      obtain ⟨k1, k2, k3⟩ := mrg_less L M hm
      have hnf : nf L = nf M := by unfold nf; rw [nf_mrg L M _ hw hm]
      obtain ⟨a1, a2, a3⟩ := ih M (by omega) (mrg_wr L M hw hm)
      rw [hnf]
      exact ⟨a1, by omega, fun σ => by rw [a3, st_mrg L M σ hw hm]⟩
theorem nf_idem (L : List Ed) (hw : ∀ x ∈ L, Wr x) : nf (nf L) = nf L :=
  nf_fix _ (nf_facts L hw).1 (nf_reach _ L (Nat.lt_succ_self _) hw).1
theorem run_right : ∀ (L : List Ed) (rem acc : List UInt8) (f t : Int), rightL L = true → ∃ rem', L.foldl stE (rem, acc, f, t) = (rem', apR rem acc L, f + (szL L).1, t + (szL L).2) := by
  intro L
  induction L with
  | nil => intro rem acc f t _; exact ⟨rem, by simp [apR, szL]⟩
  | cons x l ih =>
    intro rem acc f t h
    have e1 : rightL (x :: l) = (rightB x.1 x.2.1 x.2.2 && rightL l) := rfl
    rw [e1, Bool.and_eq_true] at h
    have hs : stE (rem, acc, f, t) x = (rem.drop (szE x.1 x.2.1 x.2.2).1.toNat, acc ++ addE rem x, f + (szE x.1 x.2.1 x.2.2).1, t + (szE x.1 x.2.1 x.2.2).2) := by
      unfold stE addE szE
      rw [if_pos h.1]
      rcases (rightB_cases x.1 x.2.1 x.2.2).1 h.1 with ⟨h1, n, h2, h3, h4, h5⟩ | ⟨h1, h2, h3⟩
      · have k2 : ¬ x.1 = 2 := by omega
        by_cases k3 : x.1 = 3
        · have k1 : ¬ x.1 = 1 := by omega
          simp only [if_neg k2, if_pos k3, if_neg k1, List.append_nil, Int.add_zero]
        · have k1 : x.1 = 1 := by omega
          simp only [if_neg k2, if_neg k3, if_pos k1]
      · have k1 : ¬ x.1 = 1 := by omega
        simp [h1]
    obtain ⟨rem', hr⟩ := ih (rem.drop (szE x.1 x.2.1 x.2.2).1.toNat) (acc ++ addE rem x) (f + (szE x.1 x.2.1 x.2.2).1) (t + (szE x.1 x.2.1 x.2.2).2) h.2
    refine ⟨rem', ?_⟩
    rw [List.foldl_cons, hs, hr, apR, szL]
    simp only [Int.add_assoc]
theorem nf_does (L : List Ed) (h : rightL L = true) (h2 : rightL (nf L) = true) : szL (nf L) = szL L ∧ ∀ s, apS s (nf L) = apS s L := by
  have hw := rightL_wr h
  have hr := (nf_reach _ L (Nat.lt_succ_self _) hw).2.2
  have key : ∀ rem, apR rem [] (nf L) = apR rem [] L ∧ szL (nf L) = szL L := by
    intro rem
    obtain ⟨r1, e1⟩ := run_right L rem [] 0 0 h
    obtain ⟨r2, e2⟩ := run_right (nf L) rem [] 0 0 h2
    rw [hr, e1] at e2
    simp only [Prod.mk.injEq, Int.zero_add] at e2
    exact ⟨e2.2.1.symm, Prod.ext e2.2.2.1.symm e2.2.2.2.symm⟩
  refine ⟨(key []).2, fun s => ?_⟩
  unfold apS
  rw [h, h2, (key s.data.toList).1, (key s.data.toList).2]
/-- How long a text is that a delta makes. -/
theorem apR_len : ∀ (L : List Ed) (rem acc : List UInt8), rightL L = true → (szL L).1 ≤ rem.length → ((apR rem acc L).length : Int) = acc.length + (szL L).2 := by
  intro L
  induction L with
  | nil => intro rem acc _ _; simp [apR, szL]
  | cons x l ih =>
    intro rem acc h hs
    have e1 : rightL (x :: l) = (rightB x.1 x.2.1 x.2.2 && rightL l) := rfl
    rw [e1, Bool.and_eq_true] at h
    have hb := szE_bd x
    have hl : 0 ≤ (szL l).1 := by
      have := szL_bd (totS l) l (totS_mem l)
      exact this.1
    rw [szL] at hs ⊢
    simp only at hs ⊢
    rw [apR, ih _ _ h.2 (by rw [List.length_drop]; omega), List.length_append]
    have : ((addE rem x).length : Int) = (szE x.1 x.2.1 x.2.2).2 := by
      unfold addE
      rcases (rightB_cases x.1 x.2.1 x.2.2).1 h.1 with ⟨h1, n, h2, h3, h4, h5⟩ | ⟨h1, h2, h3⟩
      · have k2 : ¬ x.1 = 2 := by omega
        by_cases k3 : x.1 = 3
        · have k1 : ¬ x.1 = 1 := by omega
          have e : szE x.1 x.2.1 x.2.2 = (x.2.1, 0) := by unfold szE; rw [if_pos h.1, if_neg k2, if_pos k3]
          rw [if_neg k1, if_neg k2, e]; rfl
        · have k1 : x.1 = 1 := by omega
          have e : szE x.1 x.2.1 x.2.2 = (x.2.1, x.2.1) := by unfold szE; rw [if_pos h.1, if_neg k2, if_neg k3]
          rw [e] at hs hb
          simp only at hs hb
          rw [if_pos k1, e, List.length_take]
          simp only
          omega
      · have k1 : ¬ x.1 = 1 := by omega
        have e : szE x.1 x.2.1 x.2.2 = (0, (x.2.2.size : Int)) := by unfold szE; rw [if_pos h.1, if_pos h1]
        rw [if_neg k1, if_pos h1, e, data_length]
    omega
end Go.Proofs.Ytoeabgeglgiobaa.Q
