/- What the varint functions of the program, and of the reference, answer: one plain function each, the same for both; and that what is put is taken as it was. No condition but the bounds in each theorem. -/
import Derived.Test.Ytoeabgeglgiobaac11kQVput
import Derived.Test.Ytoeabgeglgiobaac11kP0
import Derived.Test.Ytoeabgeglgiobaac11kGkit0
import Derived.Test.Ytoeabgeglgiobaac11kGvarint0
namespace Go.Proofs.Ytoeabgeglgiobaa.Q
open Go.RowKit Go.Proofs.YtoeabgeglgiobaaW.PrintWords Go.Proofs.YtoeabgeglgiobaaW.PrintLast Go.Proofs.YtoeabgeglgiobaaW.PrintMore
open Go.Proofs.Ytoeabgeglgiobaa.P
/-! Two rows that are compared. -/
theorem same_loop {α : Type} [DecidableEq α] (xs ys : List α) (hl : xs.length = ys.length) (F : Nat → Int → Option Bool)
    (hF : ∀ (k i : Nat) (h : i < xs.length) (h' : i < ys.length), F (k + 1) (i : Int) = if xs[i] = ys[i] then F k ((i + 1 : Nat) : Int) else some false)
    (hE : ∀ k : Nat, F (k + 1) (xs.length : Int) = some true) : ∀ (d i : Nat), i + d = xs.length → Ev (fun k => F k (i : Int)) (decide (xs.drop i = ys.drop i)) := by
  intro d
  induction d with
  | zero =>
    intro i h
    obtain rfl : i = xs.length := by omega
    refine ev_shift ?_
    simp only [hE]
    exact ev_some (by simp [List.drop_eq_nil_of_le (show ys.length ≤ xs.length by omega)])
  | succ d ih =>
    intro i h
    refine ev_shift ?_
    have h1 : i < xs.length := by omega
    have h2 : i < ys.length := by omega
    simp only [hF _ i h1 h2]
    rw [List.drop_eq_getElem_cons h1, List.drop_eq_getElem_cons h2]
    by_cases e : xs[i] = ys[i]
    · simp only [if_pos e]
      refine ev_eq (ih (i + 1) (by omega)) ?_
      rw [decide_eq_decide, List.cons.injEq]
      exact ⟨fun h => ⟨e, h⟩, fun h => h.2⟩
    · simp only [if_neg e]
      refine ev_some ?_
      symm
      rw [decide_eq_false_iff_not, List.cons.injEq]
      exact fun h => e h.1
theorem sameBytes (xs ys : List Int) (hx : xs.length ≤ 140737488355328) : Ev (fun k => chartroomkit_SameBytes.f k xs ys) (decide (xs = ys)) := by
  unfold chartroomkit_SameBytes.f
  by_cases hl : xs.length = ys.length
  · simp only [if_pos (show (xs.length : Int) = ys.length by omega)]
    refine same_loop xs ys hl (fun k i => chartroomkit_SameBytes.l0 k xs ys i) ?_ ?_ xs.length 0 (by omega)
    · intro k i h h'
      simp only [chartroomkit_SameBytes.l0, if_pos (show (i : Int) < xs.length by omega), if_pos (show (0 : Int) ≤ i by omega), if_pos (show (i : Int) < ys.length by omega), rd_lt xs i h, rd_lt ys i h', w64 ((i : Int) + 1) (by omega) (by omega)]
      rfl
    · intro k
      simp only [chartroomkit_SameBytes.l0, if_neg (show ¬ (xs.length : Int) < xs.length by omega)]
  · simp only [if_neg (show ¬ (xs.length : Int) = ys.length by omega)]
    refine ev_some ?_
    symm
    simp only [decide_eq_false_iff_not]
    exact fun h => hl (by rw [h])
theorem own_some (xs : List Int) (hx : xs.length < 140737488355328) : chartroomkit_Own.f xs = some xs := by
  unfold chartroomkit_Own.f
  rw [if_pos (by simpa using hx)]
  simp
/-! Rows of numbers, and texts. -/
def U64 (l : List Int) : Prop := ∀ x ∈ l, 0 ≤ x ∧ x < 18446744073709551616
theorem U64.of_wf {l : List Int} (h : ∀ x ∈ l, (Lit.int .u64 x).wf = true) : U64 l := fun x hx => by
  have := h x hx
  simp [Lit.wf, IntKind.min, IntKind.max, IntKind.signed, IntKind.bits] at this
  omega
theorem take_snoc {α : Type} (l : List α) (i : Nat) (h : i < l.length) : l.take (i + 1) = l.take i ++ [l[i]] := by
  rw [List.take_succ_eq_append_getElem h]
theorem U64.take {l : List Int} (h : U64 l) (i : Nat) : U64 (l.take i) := fun x hx => h x (List.mem_of_mem_take hx)
/-! A number is taken. -/
/-- Out of bytes, behind i groups that say n: the number, how many bytes it has, and the error. -/
def tkL : List Int → Nat → Nat → Nat × Nat × Nat
  | [], _, _ => (0, 0, 10)
  | c :: l, i, n =>
    if i = 9 ∧ c > 1 then (0, 0, 11) else if c = 0 ∧ 0 < i then (0, 0, 11)
    else if c < 128 then (n + c.toNat % 128 * 128 ^ i, i + 1, 0) else tkL l (i + 1) (n + c.toNat % 128 * 128 ^ i)
def fin (a : Int) (r : Nat × Nat × Nat) : Int × Int × Int := if r.2.2 = 0 then ((r.1 : Int), a + r.2.1, 0) else (0, a, (r.2.2 : Int))
def take (b : List Int) (a : Int) : Int × Int × Int := if a < 0 ∨ (b.length : Int) ≤ a then (0, a, 10) else fin a (tkL (b.drop a.toNat) 0 0)
theorem pow128 (i : Nat) : (2 : Int) ^ (7 * i) = ((128 ^ i : Nat) : Int) := by
  rw [Int.natCast_pow, show ((128 : Nat) : Int) = (2 : Int) ^ 7 by decide, ← Int.pow_mul]
theorem p128_9 : (128 : Nat) ^ 9 = 9223372036854775808 := by decide
theorem p128_8 : (128 : Nat) ^ 8 = 72057594037927936 := by decide
theorem group_bound (i : Nat) (d : Nat) (hi : i ≤ 9) (hd : d < 128) (h9 : i = 9 → d ≤ 1) : d * 128 ^ i < 18446744073709551616 := by
  by_cases h : i = 9
  · subst h; have := h9 rfl; rw [p128_9]; omega
  · have h2 : (128 : Nat) ^ i ≤ 128 ^ 8 := Nat.pow_le_pow_right (by decide) (by omega)
    have h3 : d * 128 ^ i ≤ 127 * 128 ^ 8 := Nat.mul_le_mul (by omega) h2
    rw [p128_8] at h3; omega
theorem acc_lt (i n d : Nat) (hn : n < 128 ^ i) (hd : d < 128) : n + d * 128 ^ i < 128 ^ (i + 1) := by
  have h : d * 128 ^ i ≤ 127 * 128 ^ i := Nat.mul_le_mul (by omega) (Nat.le_refl _)
  rw [Nat.pow_succ]; omega
theorem acc_u64 (i n d : Nat) (hi : i ≤ 9) (hn : n < 128 ^ i) (hd : d < 128) (h9 : i = 9 → d ≤ 1) : n + d * 128 ^ i < 18446744073709551616 := by
  by_cases h : i = 9
  · subst h; have := h9 rfl; rw [p128_9] at *; omega
  · have := acc_lt i n d hn hd
    have h2 : (128 : Nat) ^ (i + 1) ≤ 128 ^ 9 := Nat.pow_le_pow_right (by decide) (by omega)
    rw [p128_9] at h2; omega
theorem acc_or (i n : Nat) (c : Int) (hi : i ≤ 9) (hn : n < 128 ^ i) (h0 : 0 ≤ c) (h1 : c < 256) (h9 : i = 9 → c ≤ 1) :
    Go.bits .or .u64 (n : Int) (shl .u64 (IntKind.u64.wrap (Go.bits .andNot .u8 c 128)) (wrap64 (7 * (i : Int)))) = ((n + c.toNat % 128 * 128 ^ i : Nat) : Int) := by
  have hb := group_bound i (c.toNat % 128) hi (by omega) (fun h => by have := h9 h; omega)
  have hu := acc_u64 i n (c.toNat % 128) hi hn (by omega) (fun h => by have := h9 h; omega)
  have hm : min (7 * (i : Int)).toNat (IntKind.u64.bits) = 7 * i := by
    have : IntKind.u64.bits = 64 := by decide
    omega
  have hc : c % 128 = ((c.toNat % 128 : Nat) : Int) := by omega
  rw [andNot128 c h0 h1, wu64 _ (by omega) (by omega), w64 _ (by omega) (by omega)]
  unfold shl
  rw [hm, pow128, hc, ← Int.natCast_mul, wu64 _ (by omega) (by omega)]
  rw [or_high (7 * i) (n : Int) _ (by omega) (by rw [pow128]; omega) (by omega) (by rw [pow128, Int.natCast_mul]; exact Int.mul_emod_left _ _) (by omega) (by omega)]
  omega
theorem tkl_cons (c : Int) (l : List Int) (i n : Nat) : tkL (c :: l) i n =
    if i = 9 ∧ c > 1 then (0, 0, 11) else if c = 0 ∧ 0 < i then (0, 0, 11)
    else if c < 128 then (n + c.toNat % 128 * 128 ^ i, i + 1, 0) else tkL l (i + 1) (n + c.toNat % 128 * 128 ^ i) := rfl
theorem vtake_l0 (L : List Int) (hL : Bytes L) (_hs : L.length ≤ 140737488355328) (a : Int) (ha : 0 ≤ a) (ha1 : a ≤ 140737488355328) :
    ∀ (d i n : Nat), i + d = L.length → i ≤ 9 → n < 128 ^ i → Ev (fun k => varint_Take.l0 k a (n : Int) 10 L (L.length : Int) (i : Int)) (fin a (tkL (L.drop i) i n)) := by
  intro d
  induction d with
  | zero =>
    intro i n h hi hn
    refine ev_shift ?_
    simp only [varint_Take.l0, if_neg (show ¬ (i : Int) < L.length by omega)]
    exact ev_some (by rw [List.drop_of_length_le (by omega)]; rfl)
  | succ d ih =>
    intro i n h hi hn
    have hlt : i < L.length := by omega
    have hb := hL _ (List.getElem_mem hlt)
    have hx : 0 ≤ wrap64 (7 * (i : Int)) := by rw [w64 _ (by omega) (by omega)]; omega
    refine ev_shift ?_
    rw [List.drop_eq_getElem_cons hlt, tkl_cons]
    simp only [varint_Take.l0, if_pos (show (i : Int) < L.length by omega), if_pos (show (0 : Int) ≤ i by omega), rd_lt L i hlt]
    by_cases h9 : i = 9 ∧ L[i] > 1
    · simp only [if_pos (show (i : Int) = 9 by omega), if_pos h9.2, if_pos h9]
      exact Ev.now _
    · have h9' : i = 9 → L[i] ≤ 1 := fun e => by
        by_cases q : L[i] > 1
        · exact absurd ⟨e, q⟩ h9
        · omega
      have hacc := acc_or i n L[i] hi hn hb.1 hb.2 h9'
      rw [if_neg h9]
      by_cases hz : L[i] = 0 ∧ 0 < i
      · have hlt128 : L[i] < 128 := by omega
        have hi0 : (i : Int) > 0 := by omega
        rw [if_pos hz]
        by_cases e9 : i = 9
        · have hng : ¬ L[i] > 1 := by have := h9' e9; omega
          simp only [if_pos (show (i : Int) = 9 by omega), if_neg hng, if_pos hlt128, if_pos hz.1, if_pos hi0]
          exact Ev.now _
        · simp only [if_neg (show ¬ (i : Int) = 9 by omega), if_pos hlt128, if_pos hz.1, if_pos hi0]
          exact Ev.now _
      · rw [if_neg hz]
        by_cases hlast : L[i] < 128
        · rw [if_pos hlast]
          have hend : wrap64 (wrap64 (a + (i : Int)) + 1) = a + ((i + 1 : Nat) : Int) := by rw [w64 (a + i) (by omega) (by omega), w64 _ (by omega) (by omega)]; omega
          have hg : ¬ (L[i] = 0 ∧ (i : Int) > 0) := fun q => hz ⟨q.1, by omega⟩
          have fe : ∀ m : Nat, fin a (m, i + 1, 0) = ((m : Int), a + ((i + 1 : Nat) : Int), 0) := fun m => rfl
          by_cases e9 : i = 9
          · have hng : ¬ L[i] > 1 := by have := h9' e9; omega
            simp only [if_pos (show (i : Int) = 9 by omega), if_neg hng, if_pos hlast, hx, if_true, hacc, hend]
            by_cases q0 : L[i] = 0
            · have : ¬ (i : Int) > 0 := fun q => hg ⟨q0, q⟩
              simp only [if_pos q0, if_neg this]
              exact ev_some (fe _).symm
            · simp only [if_neg q0]
              exact ev_some (fe _).symm
          · simp only [if_neg (show ¬ (i : Int) = 9 by omega), if_pos hlast, hx, if_true, hacc, hend]
            by_cases q0 : L[i] = 0
            · have : ¬ (i : Int) > 0 := fun q => hg ⟨q0, q⟩
              simp only [if_pos q0, if_neg this]
              exact ev_some (fe _).symm
            · simp only [if_neg q0]
              exact ev_some (fe _).symm
        · rw [if_neg hlast]
          have e9 : ¬ i = 9 := fun e => by have := h9' e; omega
          simp only [if_neg (show ¬ (i : Int) = 9 by omega), if_neg hlast, hx, if_true, hacc, w64 ((i : Int) + 1) (by omega) (by omega)]
          exact ih (i + 1) _ (by omega) (by omega) (acc_lt i n _ hn (by omega))
theorem vtake (b : List Int) (hb : Bytes b) (hs : b.length ≤ 140737488355328) (a : Int) : Ev (fun k => varint_Take.f k b a) (take b a) := by
  unfold varint_Take.f take
  by_cases h0 : a < 0
  · simp only [if_pos h0, if_pos (show a < 0 ∨ (b.length : Int) ≤ a from .inl h0)]; exact Ev.now _
  · by_cases h1 : (b.length : Int) ≤ a
    · simp only [if_neg h0, if_pos (show a ≥ (b.length : Int) from h1), if_pos (show a < 0 ∨ (b.length : Int) ≤ a from .inr h1)]; exact Ev.now _
    · simp only [if_neg h0, if_neg (show ¬ a ≥ (b.length : Int) from h1), if_neg (show ¬ (a < 0 ∨ (b.length : Int) ≤ a) from fun h => h.elim h0 h1), if_pos (show 0 ≤ a by omega), if_pos (show a ≤ (b.length : Int) by omega)]
      exact vtake_l0 (b.drop a.toNat) (hb.drop _) (by simp; omega) a (by omega) (by omega) _ 0 0 (by simp; rfl) (by omega) (by decide)
end Go.Proofs.Ytoeabgeglgiobaa.Q
