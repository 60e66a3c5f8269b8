/- The check of bytes by a table, and digit by digit: the same. No condition but the bounds in each theorem. -/
import Derived.Test.Ytoeabgeglgiobaac11aQVback
import Derived.Test.Ytoeabgeglgiobaac11aGref020
import Derived.Test.Ytoeabgeglgiobaac11aHcrc
namespace Go.Proofs.Ytoeabgeglgiobaa.Q
open Go.RowKit Go.Proofs.YtoeabgeglgiobaaW.PrintWords Go.Proofs.YtoeabgeglgiobaaW.PrintLast Go.Proofs.YtoeabgeglgiobaaW.PrintMore
open Go.Proofs.Ytoeabgeglgiobaa.P
theorem xor32 (a b : Nat) (ha : a < 4294967296) (hb : b < 4294967296) : Go.bits .xor .u32 (a : Int) (b : Int) = ((a ^^^ b : Nat) : Int) := by
  have ha' : a % 2 ^ 32 = a := Nat.mod_eq_of_lt (by omega)
  have hb' : b % 2 ^ 32 = b := Nat.mod_eq_of_lt (by omega)
  have hx : a ^^^ b < 2 ^ 32 := Nat.xor_lt_two_pow (by omega) (by omega)
  simp only [Go.bits, show IntKind.u32.bits = 32 from rfl, BitVec.ofInt_natCast, BitVec.toNat_xor, BitVec.toNat_ofNat, ha', hb']
  simp [IntKind.wrap, IntKind.bits, IntKind.signed]
  omega
theorem xor8 (a b : Nat) (ha : a < 256) (hb : b < 256) : Go.bits .xor .u8 (a : Int) (b : Int) = ((a ^^^ b : Nat) : Int) := by
  have ha' : a % 2 ^ 8 = a := Nat.mod_eq_of_lt (by omega)
  have hb' : b % 2 ^ 8 = b := Nat.mod_eq_of_lt (by omega)
  have hx : a ^^^ b < 2 ^ 8 := Nat.xor_lt_two_pow (by omega) (by omega)
  simp only [Go.bits, show IntKind.u8.bits = 8 from rfl, BitVec.ofInt_natCast, BitVec.toNat_xor, BitVec.toNat_ofNat, ha', hb']
  simp [IntKind.wrap, IntKind.bits, IntKind.signed]
  omega
/-- One digit falls out. -/
def cst (n : Nat) : Nat := if n % 2 = 1 then n / 2 ^^^ 2197175160 else n / 2
def csts : Nat → Nat → Nat
  | 0, n => n
  | k + 1, n => csts k (cst n)
theorem csts_snoc (k n : Nat) : csts (k + 1) n = cst (csts k n) := by
  induction k generalizing n with
  | zero => rfl
  | succ k ih => rw [csts, ih (cst n)]; rfl
theorem cst_lt (n : Nat) (h : n < 4294967296) : cst n < 4294967296 := by
  unfold cst
  split
  · exact Nat.xor_lt_two_pow (n := 32) (by omega) (by decide)
  · omega
theorem csts_lt (k n : Nat) (h : n < 4294967296) : csts k n < 4294967296 := by
  induction k generalizing n with
  | zero => exact h
  | succ k ih => exact ih _ (cst_lt n h)
theorem xor_mod2 (a b : Nat) : (a ^^^ b) % 2 = (a % 2 + b % 2) % 2 := by
  have h := Nat.xor_mod_two_pow (a := a) (b := b) (n := 1)
  rw [Nat.pow_one] at h
  rw [h]
  rcases Nat.mod_two_eq_zero_or_one a with p | p <;> rcases Nat.mod_two_eq_zero_or_one b with q | q <;> rw [p, q] <;> rfl
theorem xor_div2 (a b : Nat) : (a ^^^ b) / 2 = a / 2 ^^^ b / 2 := by
  apply Nat.eq_of_testBit_eq
  intro i
  simp [Nat.testBit_div_two, Nat.testBit_xor]
theorem cst_xor (a b : Nat) : cst (a ^^^ b) = cst a ^^^ cst b := by
  unfold cst
  rw [xor_mod2, xor_div2]
  by_cases ha : a % 2 = 1 <;> by_cases hb : b % 2 = 1
  · rw [if_neg (by omega), if_pos ha, if_pos hb]
    rw [show a / 2 ^^^ 2197175160 ^^^ (b / 2 ^^^ 2197175160) = a / 2 ^^^ b / 2 ^^^ (2197175160 ^^^ 2197175160) by ac_rfl]
    simp
  · rw [if_pos (by omega), if_pos ha, if_neg hb]
    ac_rfl
  · rw [if_pos (by omega), if_neg ha, if_pos hb]
    ac_rfl
  · rw [if_neg (by omega), if_neg ha, if_neg hb]
theorem csts_xor (k a b : Nat) : csts k (a ^^^ b) = csts k a ^^^ csts k b := by
  induction k generalizing a b with
  | zero => rfl
  | succ k ih => simp only [csts, cst_xor, ih]
theorem csts_high (k a : Nat) : csts k (a * 2 ^ k) = a := by
  induction k with
  | zero => simp [csts]
  | succ k ih =>
    rw [csts]
    have : cst (a * 2 ^ (k + 1)) = a * 2 ^ k := by
      unfold cst
      rw [Nat.pow_succ, ← Nat.mul_assoc, if_neg (by omega)]
      omega
    rw [this, ih]
/-- The reference's way: each digit of the byte goes in, then one falls out. -/
def rin : Nat → Nat → Nat → Nat
  | 0, c, _ => c
  | k + 1, c, x => rin k (cst (c ^^^ (x % 2))) (x / 2)
theorem rin_csts (k c x : Nat) (h : x < 2 ^ k) : rin k c x = csts k (c ^^^ x) := by
  induction k generalizing c x with
  | zero => have : x = 0 := by simpa using h
            subst this; simp [rin, csts]
  | succ k ih =>
    rw [rin, csts, ih _ _ (by rw [Nat.pow_succ] at h; omega)]
    congr 1
    have e : x = (x % 2) ^^^ (x / 2 * 2) := by
      apply Nat.eq_of_testBit_eq
      intro i
      cases i with
      | zero => simp
      | succ i => rw [Nat.testBit_succ, Nat.testBit_succ, xor_div2, show x % 2 / 2 = 0 by omega, show x / 2 * 2 / 2 = x / 2 by omega, Nat.zero_xor]
    have e2 : cst (x / 2 * 2) = x / 2 := by unfold cst; rw [if_neg (by omega)]; omega
    conv => rhs; rw [e, ← Nat.xor_assoc, cst_xor, e2]
theorem csts_table (c : Nat) : csts 8 c = csts 8 (c % 256) ^^^ c / 256 := by
  have e : c = (c % 256) ^^^ (c / 256 * 2 ^ 8) := by
    apply Nat.eq_of_testBit_eq
    intro i
    rw [Nat.testBit_xor, show (256 : Nat) = 2 ^ 8 by decide, Nat.testBit_mod_two_pow, Nat.testBit_mul_two_pow, Nat.testBit_div_two_pow]
    by_cases h : i < 8
    · simp [h, show ¬ 8 ≤ i by omega]
    · simp [h, show 8 ≤ i by omega, show i - 8 + 8 = i by omega]
  conv => lhs; rw [e, csts_xor, csts_high]
/-! The program's table. -/
theorem and_one (n : Nat) (hn : n < 4294967296) : Go.bits .and .u32 (n : Int) 1 = ((n % 2 : Nat) : Int) := by
  have h := (bits_nat .u32 32 (by decide) (fun m h0 h1 => by simp [IntKind.wrap, IntKind.bits, IntKind.signed]; omega) n 1 (by omega) (by decide)).1
  rw [Nat.and_one_is_mod] at h
  exact h
theorem crcStep_nat (n : Nat) (hn : n < 4294967296) : crcStep (n : Int) = ((cst n : Nat) : Int) := by
  unfold crcStep cst
  rw [and_one n hn]
  have e : ((n : Int) / 2) = ((n / 2 : Nat) : Int) := by omega
  rw [e]
  by_cases h : n % 2 = 1
  · rw [if_pos h, h]
    have q : Go.bits .and .u32 2197175160 ((-((1 : Nat) : Int)) % 4294967296) = ((2197175160 : Nat) : Int) := by decide +kernel
    rw [q, xor32 _ _ (by omega) (by decide)]
  · rw [if_neg h, show n % 2 = 0 by omega]
    have q : Go.bits .and .u32 2197175160 ((-((0 : Nat) : Int)) % 4294967296) = ((0 : Nat) : Int) := by decide +kernel
    rw [q, xor32 _ _ (by omega) (by decide)]
    simp
theorem crcIt_nat : ∀ (k n : Nat), n < 4294967296 → crcIt k (n : Int) = ((csts k n : Nat) : Int) := by
  intro k
  induction k with
  | zero => intro n _; rfl
  | succ k ih =>
    intro n hn
    first
      | (rw [crcIt, crcStep_nat n hn, ih _ (cst_lt n hn)]; rfl)
      | (rw [crcIt, ih n hn, crcStep_nat _ (csts_lt k n hn), csts_snoc])
theorem crcByte_nat (c x : Nat) (hc : c < 4294967296) (hx : x < 256) : crcByte (c : Int) (x : Int) = ((rin 8 c x : Nat) : Int) := by
  unfold crcByte
  have e : ((c : Int) % 256) = ((c % 256 : Nat) : Int) := by omega
  have e2 : ((c : Int) / 256) = ((c / 256 : Nat) : Int) := by omega
  have hl : c % 256 ^^^ x < 256 := Nat.xor_lt_two_pow (n := 8) (by omega) (by omega)
  rw [e, e2, xor8 _ _ (by omega) hx, Int.toNat_natCast]
  unfold crcTab
  rw [crcIt_nat 8 _ (by omega), xor32 _ _ (csts_lt _ _ (by omega)) (by omega), rin_csts 8 c x (by omega), csts_table (c ^^^ x)]
  have m : (c ^^^ x) % 256 = c % 256 ^^^ x := by
    rw [show (256 : Nat) = 2 ^ 8 by decide, Nat.xor_mod_two_pow, Nat.mod_eq_of_lt (a := x) (by omega)]
  have d : (c ^^^ x) / 256 = c / 256 := by
    rw [show (256 : Nat) = 2 ^ 8 by decide, Nat.xor_div_two_pow, Nat.div_eq_of_lt (a := x) (by omega)]
    simp
  rw [m, d]
/-! The reference. -/
theorem rstep (n : Nat) (h : n < 4294967296) : chartroomref02_Step.f (n : Int) = some ((cst n : Nat) : Int) := by
  unfold chartroomref02_Step.f cst
  have e : Int.tmod (n : Int) 2 = ((n % 2 : Nat) : Int) := by rw [Int.tmod_eq_emod_of_nonneg (by omega)]; omega
  have e2 : Int.tdiv (n : Int) 2 % 4294967296 = ((n / 2 : Nat) : Int) := by rw [Int.tdiv_eq_ediv_of_nonneg (by omega)]; omega
  rw [e, e2]
  by_cases q : n % 2 = 1
  · rw [if_pos (by omega), if_pos q, show (2197175160 : Int) = ((2197175160 : Nat) : Int) by rfl, xor32 _ _ (by omega) (by decide)]
  · rw [if_neg (by omega), if_neg q]
theorem digit (x i : Nat) (hi : i ≤ 8) (_hx : x < 256) : shr .u8 (x : Int) (i : Int) % 2 = ((x / 2 ^ i % 2 : Nat) : Int) := by
  unfold shr
  have : min ((i : Int)).toNat IntKind.u8.bits = i := by
    have : IntKind.u8.bits = 8 := by decide
    omega
  rw [this]
  push_cast
  rfl
theorem rup (l : List Int) (hb : Bytes l) (hs : l.length ≤ 140737488355328) : ∀ (d i : Nat) (c : Nat), i + d = l.length → c < 4294967296 →
    Ev (fun k => chartroomref02_Update.l0 k (c : Int) l (i : Int)) (Go.bits .xor .u32 (crcFold (c : Int) (l.drop i)) 4294967295) := by
  intro d
  induction d with
  | zero =>
    intro i c h hc
    refine ev_shift ?_
    simp only [chartroomref02_Update.l0, if_neg (show ¬ (i : Int) < l.length by omega)]
    exact ev_some (by rw [List.drop_of_length_le (by omega)]; rfl)
  | succ d ih =>
    intro i c h hc
    have hlt : i < l.length := by omega
    have hx := hb _ (List.getElem_mem hlt)
    obtain ⟨x, hxe⟩ : ∃ x : Nat, l[i] = (x : Int) := ⟨l[i].toNat, by omega⟩
    have hx1 : x < 256 := by omega
    refine ev_shift ?_
    simp only [chartroomref02_Update.l0, if_pos (show (i : Int) < l.length by omega)]
    have step : ∀ (e j : Nat) (c : Nat), j + e = 8 → c < 4294967296 → Ev (fun k => chartroomref02_Update.l1 k (c : Int) l (i : Int) (j : Int)) (Go.bits .xor .u32 (crcFold ((rin e c (x / 2 ^ j) : Nat) : Int) (l.drop (i + 1))) 4294967295) := by
      intro e
      induction e with
      | zero =>
        intro j c hj hc
        refine ev_shift ?_
        simp only [chartroomref02_Update.l1, if_neg (show ¬ (j : Int) < 8 by omega), w64 ((i : Int) + 1) (by omega) (by omega)]
        exact ih (i + 1) c (by omega) hc
      | succ e ihe =>
        intro j c hj hc
        have hd : x / 2 ^ j % 2 < 4294967296 := by omega
        have hxc : c ^^^ x / 2 ^ j % 2 < 4294967296 := Nat.xor_lt_two_pow (n := 32) (by omega) (by omega)
        refine ev_shift ?_
        simp only [chartroomref02_Update.l1, if_pos (show (j : Int) < 8 by omega), if_pos (show (0 : Int) ≤ i by omega), if_pos (show (i : Int) < l.length by omega), if_pos (show (0 : Int) ≤ j by omega), rd_lt l i hlt, hxe, digit x j (by omega) hx1, xor32 c _ hc hd, rstep _ hxc, Option.bind_some, w64 ((j : Int) + 1) (by omega) (by omega)]
        have := ihe (j + 1) (cst (c ^^^ x / 2 ^ j % 2)) (by omega) (cst_lt _ hxc)
        rw [Nat.pow_succ, ← Nat.div_div_eq_div_mul] at this
        exact this
    have h8 := step 8 0 c (by omega) hc
    rw [Nat.pow_zero, Nat.div_one, ← crcByte_nat c x hc hx1, ← hxe] at h8
    rw [List.drop_eq_getElem_cons hlt]
    exact h8
theorem rupd (l : List Int) (hb : Bytes l) (hs : l.length ≤ 140737488355328) : Ev (fun k => chartroomref02_Update.f k 0 l) (crcSum l) := by
  unfold chartroomref02_Update.f
  have e : Go.bits .xor .u32 0 4294967295 = ((4294967295 : Nat) : Int) := by decide +kernel
  rw [e]
  have := rup l hb hs l.length 0 4294967295 (by omega) (by decide)
  rw [List.drop_zero] at this
  refine ev_eq this ?_
  unfold crcSum crcUpd
  rw [e]
theorem rsum (l : List Int) (hb : Bytes l) (hs : l.length < 140737488355328) : Ev (fun k => chartroomref02_Sum.f k [l]) (crcSum l) := by
  unfold chartroomref02_Sum.f
  have e : rd_L2 [l] 0 = l := rfl
  refine ev_shift ?_
  simp only [chartroomref02_Sum.l0, List.length_cons, List.length_nil, if_pos (show (0 : Int) < ((0 + 1 : Nat) : Int) by decide), if_pos (show (0 : Int) ≤ 0 by decide), e, if_pos (show 0 + l.length < 140737488355328 by omega), w64 (0 + 1) (by decide) (by decide), List.nil_append]
  refine ev_shift ?_
  simp only [chartroomref02_Sum.l0, List.length_cons, List.length_nil, if_neg (show ¬ (0 + 1 : Int) < ((0 + 1 : Nat) : Int) by decide)]
  refine Ev.bind (rupd l hb (by omega)) ?_
  exact Ev.now _
end Go.Proofs.Ytoeabgeglgiobaa.Q
