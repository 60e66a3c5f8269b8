/- Rows of bytes that differ in one byte have other checks. No condition but the bounds in each theorem. -/
import Derived.Test.Ytoeabgeglgiobaac3bQFall
namespace Go.Proofs.Ytoeabgeglgiobaa.Q
open Go.RowKit Go.Proofs.YtoeabgeglgiobaaW.PrintWords Go.Proofs.YtoeabgeglgiobaaW.PrintLast Go.Proofs.YtoeabgeglgiobaaW.PrintMore
open Go.Proofs.Ytoeabgeglgiobaa.P
theorem cst_zero (n : Nat) (hn : n < 4294967296) (h : cst n = 0) : n = 0 := by
  unfold cst at h
  split at h
  · exfalso
    have e : n / 2 = 2197175160 := by
      have := congrArg (· ^^^ 2197175160) h
      simp only [Nat.xor_assoc, Nat.xor_self, Nat.xor_zero, Nat.zero_xor] at this
      exact this
    omega
  · omega
theorem xor_zero_eq {a b : Nat} (h : a ^^^ b = 0) : a = b := by
  have := congrArg (· ^^^ b) h
  simpa only [Nat.xor_assoc, Nat.xor_self, Nat.xor_zero, Nat.zero_xor] using this
theorem cst_inj {a b : Nat} (ha : a < 4294967296) (hb : b < 4294967296) (h : cst a = cst b) : a = b := by
  have h0 : cst (a ^^^ b) = 0 := by rw [cst_xor, h, Nat.xor_self]
  exact xor_zero_eq (cst_zero _ (Nat.xor_lt_two_pow (n := 32) (by omega) (by omega)) h0)
theorem csts_inj : ∀ (k a b : Nat), a < 4294967296 → b < 4294967296 → csts k a = csts k b → a = b := by
  intro k
  induction k with
  | zero => intro a b _ _ h; exact h
  | succ k ih => intro a b ha hb h; exact cst_inj ha hb (ih _ _ (cst_lt a ha) (cst_lt b hb) h)
theorem crcByte_inj (c c' x x' : Int) (hc : 0 ≤ c ∧ c < 4294967296) (hc' : 0 ≤ c' ∧ c' < 4294967296) (hx : 0 ≤ x ∧ x < 256) (hx' : 0 ≤ x' ∧ x' < 256)
    (h : crcByte c x = crcByte c' x') : (c.toNat ^^^ x.toNat) = (c'.toNat ^^^ x'.toNat) := by
  obtain ⟨a, rfl⟩ := Int.eq_ofNat_of_zero_le hc.1
  obtain ⟨a', rfl⟩ := Int.eq_ofNat_of_zero_le hc'.1
  obtain ⟨b, rfl⟩ := Int.eq_ofNat_of_zero_le hx.1
  obtain ⟨b', rfl⟩ := Int.eq_ofNat_of_zero_le hx'.1
  rw [crcByte_nat a b (by omega) (by omega), crcByte_nat a' b' (by omega) (by omega), rin_csts 8 a b (by omega), rin_csts 8 a' b' (by omega)] at h
  simp only [Int.toNat_natCast]
  exact csts_inj 8 _ _ (Nat.xor_lt_two_pow (n := 32) (by omega) (by omega)) (Nat.xor_lt_two_pow (n := 32) (by omega) (by omega)) (by omega)
theorem crcFold_inj : ∀ (l : List Int) (c c' : Int), Bytes l → 0 ≤ c ∧ c < 4294967296 → 0 ≤ c' ∧ c' < 4294967296 → crcFold c l = crcFold c' l → c = c' := by
  intro l
  induction l with
  | nil => intro c c' _ _ _ h; exact h
  | cons x l ih =>
    intro c c' hb hc hc' h
    have hx := hb x (by simp)
    have e := crcByte_inj c c' x x hc hc' hx hx (ih _ _ (fun y hy => hb y (List.mem_cons_of_mem _ hy)) (crcByte_bd c x) (crcByte_bd c' x) h)
    have := xor_zero_eq (a := c.toNat) (b := c'.toNat) (by
      have q := congrArg (· ^^^ x.toNat) e
      simp only [Nat.xor_assoc, Nat.xor_self, Nat.xor_zero] at q
      rw [q, Nat.xor_self])
    omega
theorem crcFold_app (c : Int) (p q : List Int) : crcFold c (p ++ q) = crcFold (crcFold c p) q := by simp [crcFold]
/-- Another byte, another check. -/
theorem crcSum_ne (p q : List Int) (x x' : Int) (_hp : Bytes p) (hq : Bytes q) (hx : 0 ≤ x ∧ x < 256) (hx' : 0 ≤ x' ∧ x' < 256) (hne : x ≠ x') : crcSum (p ++ x :: q) ≠ crcSum (p ++ x' :: q) := by
  intro h
  have e0 : Go.bits .xor .u32 0 4294967295 = 4294967295 := by decide +kernel
  have bd := fun l => crcFold_bd l 4294967295 (by decide) (by decide)
  have h1 : crcFold 4294967295 (p ++ x :: q) = crcFold 4294967295 (p ++ x' :: q) := by
    unfold crcSum crcUpd at h
    rw [e0] at h
    have b1 := bd (p ++ x :: q)
    have b2 := bd (p ++ x' :: q)
    obtain ⟨m, hm⟩ := Int.eq_ofNat_of_zero_le b1.1
    obtain ⟨n, hn⟩ := Int.eq_ofNat_of_zero_le b2.1
    rw [hm] at h b1 ⊢
    rw [hn] at h b2 ⊢
    rw [show (4294967295 : Int) = ((4294967295 : Nat) : Int) by rfl, xor32 m _ (by omega) (by decide), xor32 n _ (by omega) (by decide)] at h
    have h' : m ^^^ 4294967295 = n ^^^ 4294967295 := by omega
    have q := congrArg (· ^^^ 4294967295) h'
    simp only [Nat.xor_assoc, Nat.xor_self, Nat.xor_zero] at q
    rw [q]
  rw [crcFold_app, crcFold_app] at h1
  have bp := bd p
  have h2 := crcFold_inj q _ _ hq (crcByte_bd _ x) (crcByte_bd _ x') h1
  have e := crcByte_inj _ _ x x' bp bp hx hx' h2
  have := xor_zero_eq (a := x.toNat) (b := x'.toNat) (by
    have q := congrArg ((crcFold 4294967295 p).toNat ^^^ ·) e
    simp only [← Nat.xor_assoc, Nat.xor_self, Nat.zero_xor] at q
    rw [q, Nat.xor_self])
  omega
theorem sum4_inj (s t : Int) (hs : 0 ≤ s ∧ s < 4294967296) (ht : 0 ≤ t ∧ t < 4294967296) (h : sum4 s = sum4 t) : s = t := by
  simp only [sum4, List.cons.injEq, and_true] at h
  omega
/-- With one byte another one, no frame of as many bytes stands there. -/
theorem frm_odd (kd : Int) (l : List Int) (h0 : 0 ≤ kd) (h1 : kd < 256) (hb : Bytes l) (hl : l.length < 900000) (i : Nat) (hi : i < (frmL kd l).length) (x' : Int) (hx' : 0 ≤ x' ∧ x' < 256) (hne : (frmL kd l)[i] ≠ x') :
    ¬ ((ftake ((frmL kd l).set i x') 0).2.2.2 = 0 ∧ (ftake ((frmL kd l).set i x') 0).2.2.1 = (frmL kd l).length) := by
  rintro ⟨e, n⟩
  have hB := frmL_bytes kd l h0 h1 hb (by omega)
  have hlen := frmL_len kd l
  obtain ⟨P, hP⟩ : ∃ P, P = frmP kd l := ⟨_, rfl⟩
  have hsplit : frmL kd l = P ++ sum4 (crcSum P) := by rw [hP]; rfl
  have hPb : Bytes P := by rw [hP]; exact frmP_bytes kd l h0 h1 hb (by omega)
  have hbd := crcSum_bd
  obtain ⟨odd, hodd⟩ : ∃ o, o = (frmL kd l).set i x' := ⟨_, rfl⟩
  have hol : odd.length = P.length + 4 := by rw [hodd, List.length_set, hlen, hP]
  have hsum : (odd.drop P.length).take 4 = sum4 (crcSum (odd.take P.length)) := by
    rw [← hodd] at e n
    unfold ftake at e n
    by_cases q0 : (0 : Int) < 0 ∨ (odd.length : Int) ≤ 0
    · rw [if_pos q0] at e; exact absurd e (by simp)
    · rw [if_neg q0] at e n
      by_cases q1 : (Q.take odd (0 + 1)).2.2 ≠ 0
      · rw [if_pos q1] at e; exact absurd e q1
      · rw [if_neg q1] at e n
        by_cases q2 : (Q.take odd (0 + 1)).1 > 65535
        · rw [if_pos q2] at e; exact absurd e (by simp)
        · rw [if_neg q2] at e n
          by_cases q3 : (odd.length : Int) < (Q.take odd (0 + 1)).2.1 + (Q.take odd (0 + 1)).1 + 4
          · rw [if_pos q3] at e; exact absurd e (by simp)
          · rw [if_neg q3] at e n
            by_cases q4 : (odd.drop ((Q.take odd (0 + 1)).2.1 + (Q.take odd (0 + 1)).1).toNat).take 4 = sum4 (crcSum ((odd.take ((Q.take odd (0 + 1)).2.1 + (Q.take odd (0 + 1)).1).toNat).drop (0 : Int).toNat))
            · rw [if_pos q4] at n
              simp only at n
              have en : ((Q.take odd (0 + 1)).2.1 + (Q.take odd (0 + 1)).1).toNat = P.length := by rw [hlen, ← hP] at n; omega
              rw [en] at q4
              simpa using q4
            · rw [if_neg q4] at e; exact absurd e (by simp)
  have hx0 : 0 ≤ (frmL kd l)[i] ∧ (frmL kd l)[i] < 256 := hB _ (List.getElem_mem hi)
  by_cases hc : i < P.length
  · -- the sum stays, what it is of doesn't
    have e1 : odd.drop P.length = sum4 (crcSum P) := by
      rw [hodd, List.drop_set_of_lt hc, hsplit, List.drop_left]
    have e2 : odd.take P.length = P.take i ++ x' :: P.drop (i + 1) := by
      rw [hodd, hsplit, List.set_append_left i x' hc, List.take_left' (by simp)]
      exact List.set_eq_take_append_cons_drop.trans (by rw [if_pos hc])
    rw [e1, e2, List.take_of_length_le (by rw [sum4_len]; omega)] at hsum
    have e3 := sum4_inj _ _ (hbd _) (hbd _) hsum
    have e4 : P = P.take i ++ P[i] :: P.drop (i + 1) := by rw [← List.drop_eq_getElem_cons hc, List.take_append_drop]
    have e5 : (frmL kd l)[i] = P[i] := by
      have : (frmL kd l)[i]? = P[i]? := by rw [hsplit, List.getElem?_append_left hc]
      rw [List.getElem?_eq_getElem hi, List.getElem?_eq_getElem hc] at this
      exact Option.some.inj this
    refine crcSum_ne (P.take i) (P.drop (i + 1)) P[i] x' (hPb.take _) (hPb.drop _) (by rw [← e5]; exact hx0) hx' (by rw [← e5]; exact hne) ?_
    rw [← e3, ← e4]
  · have e2 : odd.take P.length = P := by
      rw [hodd, hsplit, List.take_set_of_le (by omega), List.take_left]
    have e1 : odd.drop P.length = (frmL kd l).drop P.length := by
      rw [List.take_of_length_le (by simp; omega), e2] at hsum
      rw [hsum, hsplit, List.drop_left]
    have e6 : odd = frmL kd l := by
      rw [← List.take_append_drop P.length odd, e2, e1, hsplit, List.drop_left]
    have e7 : odd[i]? = (frmL kd l)[i]? := by rw [e6]
    rw [hodd, List.getElem?_set_self hi, List.getElem?_eq_getElem hi] at e7
    exact hne (Option.some.inj e7).symm
end Go.Proofs.Ytoeabgeglgiobaa.Q
