/- What the reference's Take answers, and what both take of texts and rows of numbers: the same. No condition but the bounds in each theorem. -/
import Derived.Test.Ytoeabgeglgiobaac11aQVtake
namespace Go.Proofs.Ytoeabgeglgiobaa.Q
open Go.RowKit Go.Proofs.YtoeabgeglgiobaaW.PrintWords Go.Proofs.YtoeabgeglgiobaaW.PrintLast Go.Proofs.YtoeabgeglgiobaaW.PrintMore
open Go.Proofs.Ytoeabgeglgiobaa.P
/-- Groups that are followed by others. -/
def conts : Nat → Nat → List Int
  | _, 0 => []
  | n, i + 1 => ((n % 128 + 128 : Nat) : Int) :: conts (n / 128) i
theorem conts_len (n i : Nat) : (conts n i).length = i := by
  induction i generalizing n with
  | zero => rfl
  | succ i ih => simp [conts, ih]
theorem conts_snoc : ∀ (i n d : Nat), n < 128 ^ i → d < 128 → conts (n + d * 128 ^ i) (i + 1) = conts n i ++ [((d + 128 : Nat) : Int)] := by
  intro i
  induction i with
  | zero =>
    intro n d hn hd
    have : n = 0 := by simpa using hn
    subst this
    simp [conts, Nat.mod_eq_of_lt hd]
  | succ i ih =>
    intro n d hn hd
    have e1 : (n + d * 128 ^ (i + 1)) % 128 = n % 128 := by
      rw [Nat.pow_succ, ← Nat.mul_assoc]; omega
    have e2 : (n + d * 128 ^ (i + 1)) / 128 = n / 128 + d * 128 ^ i := by
      rw [Nat.pow_succ, ← Nat.mul_assoc]; omega
    rw [conts, e1, e2, ih (n / 128) d (by rw [Nat.pow_succ] at hn; omega) hd]
    rfl
theorem putL_conts : ∀ (i n c : Nat), n < 128 ^ i → c < 128 → (0 < i → 0 < c) → putL (n + c * 128 ^ i) = conts n i ++ [(c : Int)] := by
  intro i
  induction i with
  | zero =>
    intro n c hn hc _
    have : n = 0 := by simpa using hn
    subst this
    simp only [Nat.pow_zero, Nat.mul_one, Nat.zero_add, conts, List.nil_append]
    exact putL_small hc
  | succ i ih =>
    intro n c hn hc h
    have hc0 := h (by omega)
    have e1 : (n + c * 128 ^ (i + 1)) % 128 = n % 128 := by rw [Nat.pow_succ, ← Nat.mul_assoc]; omega
    have e2 : (n + c * 128 ^ (i + 1)) / 128 = n / 128 + c * 128 ^ i := by rw [Nat.pow_succ, ← Nat.mul_assoc]; omega
    have hp : 0 < 128 ^ i := Nat.pow_pos (by decide)
    have hb : ¬ n + c * 128 ^ (i + 1) < 128 := by
      have : 1 * 128 ^ i ≤ c * 128 ^ i := Nat.mul_le_mul (by omega) (Nat.le_refl _)
      rw [Nat.pow_succ, ← Nat.mul_assoc]; omega
    rw [putL_big hb, e1, e2, ih (n / 128) c (by rw [Nat.pow_succ] at hn; omega) hc (fun _ => hc0)]
    rfl
theorem putL_short : ∀ (i n : Nat), 0 < i → n < 128 ^ i → (putL n).length ≤ i := by
  intro i n hi hn
  obtain ⟨j, rfl⟩ : ∃ j, i = j + 1 := ⟨i - 1, by omega⟩
  exact putL_len_le j n hn
theorem rsame_l0 (b w : List Int) (a : Nat) (hlen : a + w.length ≤ b.length) (hs : b.length ≤ 140737488355328) : ∀ (d i : Nat), i + d = w.length →
    Ev (fun k => chartroomref01_same.l0 k b (a : Int) w (i : Int)) (decide (((b.drop a).take w.length).drop i = w.drop i)) := by
  intro d
  have hX : ((b.drop a).take w.length).length = w.length := by simp; omega
  induction d with
  | zero =>
    intro i h
    refine ev_shift ?_
    simp only [chartroomref01_same.l0, if_neg (show ¬ (i : Int) < w.length by omega)]
    exact ev_some (by rw [List.drop_of_length_le (by omega), List.drop_of_length_le (by omega)]; simp)
  | succ d ih =>
    intro i h
    have h2 : i < w.length := by omega
    have h1 : i < ((b.drop a).take w.length).length := by omega
    have h3 : a + i < b.length := by omega
    have e3 : ((b.drop a).take w.length)[i] = b[a + i] := by simp
    refine ev_shift ?_
    have ew : wrap64 ((a : Int) + (i : Int)) = ((a + i : Nat) : Int) := by rw [w64 _ (by omega) (by omega)]; omega
    simp only [chartroomref01_same.l0, if_pos (show (i : Int) < w.length by omega), ew, if_pos (show (0 : Int) ≤ ((a + i : Nat) : Int) by omega), if_pos (show ((a + i : Nat) : Int) < b.length by omega), if_pos (show (0 : Int) ≤ i by omega), rd_lt b (a + i) h3, rd_lt w i h2, w64 ((i : Int) + 1) (by omega) (by omega)]
    rw [List.drop_eq_getElem_cons h1, List.drop_eq_getElem_cons h2, e3]
    by_cases e : b[a + i] = w[i]
    · simp only [if_pos e]
      refine ev_eq (ih (i + 1) (by omega)) ?_
      rw [decide_eq_decide, List.cons.injEq]
      exact ⟨fun h => ⟨e, h⟩, fun h => h.2⟩
    · simp only [if_neg e]
      refine ev_some ?_
      symm
      rw [decide_eq_false_iff_not, List.cons.injEq]
      exact fun h => e h.1
theorem rsame (b w : List Int) (a : Nat) (ha : a ≤ b.length) (hs : b.length ≤ 140737488355328) (hw : w.length ≤ 140737488355328) :
    Ev (fun k => chartroomref01_same.f k b (a : Int) w) (decide ((b.drop a).take w.length = w)) := by
  unfold chartroomref01_same.f
  rw [w64 ((a : Int) + w.length) (by omega) (by omega)]
  by_cases h : (a : Int) + w.length > b.length
  · simp only [if_pos h]
    refine ev_some ?_
    symm
    rw [decide_eq_false_iff_not]
    intro e
    have := congrArg List.length e
    simp at this
    omega
  · simp only [if_neg h]
    have := rsame_l0 b w a (by omega) hs w.length 0 (by omega)
    simpa using this
theorem rj2_short (b : List Int) (hs : b.length ≤ 140737488355328) (a i N : Nat) (x7 x9 x10 : Int) (ha : a ≤ b.length) (hi : i ≤ 9) (hN : N < 18446744073709551616) (hc : x9 < 128)
    (hv : IntKind.u64.wrap (x7 + IntKind.u64.wrap (Int.tmod x9 128 * x10)) = (N : Int)) (hsh : (putL N).length ≤ i) :
    Ev (fun k => chartroomref01_Take.j2 k b (a : Int) x7 (i : Int) x9 x10 false) (0, (a : Int), 11) := by
  have hpl := putL_len_u64 hN
  have e1 : wrap64 ((i : Int) + 1) = (i : Int) + 1 := w64 _ (by omega) (by omega)
  refine ev_shift ?_
  simp only [chartroomref01_Take.j2, if_neg (show ¬ (false = true) by decide), if_pos hc, hv, e1]
  refine Ev.bind (rput _ (by omega) (by omega)) ?_
  rw [Int.toNat_natCast]
  refine Ev.bind (rsame b _ a ha hs (by omega)) ?_
  by_cases q : (b.drop a).take (putL N).length = putL N
  · rw [decide_eq_true q]
    simp only [if_true]
    refine Ev.bind (rput _ (by omega) (by omega)) ?_
    rw [Int.toNat_natCast]
    simp only [if_neg (show ¬ (i : Int) + 1 = ((putL N).length : Int) by omega)]
    exact Ev.now _
  · rw [decide_eq_false q]
    simp only [if_neg (show ¬ (false = true) by decide)]
    exact Ev.now _
theorem rj2_good (b : List Int) (hs : b.length ≤ 140737488355328) (a i N : Nat) (x7 x9 x10 : Int) (ha : a ≤ b.length) (hi : i ≤ 9) (hN : N < 18446744073709551616) (hc : x9 < 128)
    (hv : IntKind.u64.wrap (x7 + IntKind.u64.wrap (Int.tmod x9 128 * x10)) = (N : Int)) (hp : putL N = (b.drop a).take (i + 1)) (hl : (putL N).length = i + 1) :
    Ev (fun k => chartroomref01_Take.j2 k b (a : Int) x7 (i : Int) x9 x10 false) ((N : Int), (a : Int) + ((i + 1 : Nat) : Int), 0) := by
  have e1 : wrap64 ((i : Int) + 1) = (i : Int) + 1 := w64 _ (by omega) (by omega)
  have e2 : wrap64 (wrap64 ((a : Int) + (i : Int)) + 1) = (a : Int) + ((i + 1 : Nat) : Int) := by rw [w64 ((a : Int) + i) (by omega) (by omega), w64 _ (by omega) (by omega)]; omega
  refine ev_shift ?_
  simp only [chartroomref01_Take.j2, if_neg (show ¬ (false = true) by decide), if_pos hc, hv, e1, e2]
  refine Ev.bind (rput _ (by omega) (by omega)) ?_
  rw [Int.toNat_natCast]
  refine Ev.bind (rsame b _ a ha hs (by omega)) ?_
  rw [decide_eq_true (show (b.drop a).take (putL N).length = putL N by rw [hl]; exact hp.symm)]
  simp only [if_true]
  refine Ev.bind (rput _ (by omega) (by omega)) ?_
  rw [Int.toNat_natCast]
  simp only [if_pos (show (i : Int) + 1 = ((putL N).length : Int) by omega)]
  exact Ev.now _
theorem rval (i n : Nat) (c : Int) (hi : i ≤ 9) (hn : n < 128 ^ i) (h0 : 0 ≤ c) (h9 : i = 9 → c ≤ 1) :
    IntKind.u64.wrap ((n : Int) + IntKind.u64.wrap (Int.tmod c 128 * ((128 ^ i : Nat) : Int))) = ((n + c.toNat % 128 * 128 ^ i : Nat) : Int) := by
  have hu := acc_u64 i n (c.toNat % 128) hi hn (by omega) (fun h => by have := h9 h; omega)
  have hg := group_bound i (c.toNat % 128) hi (by omega) (fun h => by have := h9 h; omega)
  rw [Int.tmod_eq_emod_of_nonneg h0, show c % 128 = ((c.toNat % 128 : Nat) : Int) by omega, ← Int.natCast_mul]
  generalize c.toNat % 128 * 128 ^ i = X at *
  rw [wu64 (X : Int) (by omega) (by omega), wu64 _ (by omega) (by omega)]
  omega
theorem rwt (i : Nat) (hi : i ≤ 9) : shl .u64 1 (7 * (i : Int)) = ((128 ^ i : Nat) : Int) := by
  have hm : min (7 * (i : Int)).toNat (IntKind.u64.bits) = 7 * i := by
    have : IntKind.u64.bits = 64 := by decide
    omega
  unfold shl
  rw [hm, pow128, Int.one_mul]
  have := group_bound i 1 hi (by omega) (fun _ => Nat.le_refl _)
  rw [Nat.one_mul] at this
  generalize 128 ^ i = X at *
  exact wu64 _ (by omega) (by omega)
/-- What j2 does behind a group that may stand there. -/
theorem rj2 (b : List Int) (hb : Bytes b) (hs : b.length ≤ 140737488355328) (a i n : Nat) (hlt : a + i < b.length) (hi : i ≤ 9) (hn : n < 128 ^ i) (hc : (b.drop a).take i = conts n i) (h9 : i = 9 → b[a + i] ≤ 1)
    (ih : ∀ m, i + 1 ≤ 9 → m < 128 ^ (i + 1) → (b.drop a).take (i + 1) = conts m (i + 1) → Ev (fun k => chartroomref01_Take.l0 k b (a : Int) (m : Int) ((i + 1 : Nat) : Int)) (fin a (tkL (b.drop (a + (i + 1))) (i + 1) m))) :
    Ev (fun k => chartroomref01_Take.j2 k b (a : Int) (n : Int) (i : Int) b[a + i] ((128 ^ i : Nat) : Int) false)
        (fin a (if b[a + i] = 0 ∧ 0 < i then (0, 0, 11) else if b[a + i] < 128 then (n + b[a + i].toNat % 128 * 128 ^ i, i + 1, 0) else tkL (b.drop (a + i + 1)) (i + 1) (n + b[a + i].toNat % 128 * 128 ^ i))) := by
  have hbb := hb _ (List.getElem_mem hlt)
  have hval := rval i n b[a + i] hi hn hbb.1 h9
  have hu := acc_u64 i n (b[a + i].toNat % 128) hi hn (by omega) (fun h => by have := h9 h; omega)
  have hnx : (b.drop a).take (i + 1) = conts n i ++ [b[a + i]] := by
    rw [take_snoc _ i (by simp; omega), hc]
    simp only [List.getElem_drop]
  by_cases hlast : b[a + i] < 128
  · by_cases hz : b[a + i] = 0 ∧ 0 < i
    · rw [if_pos hz]
      refine rj2_short b hs a i _ _ _ _ (by omega) hi hu hlast hval ?_
      have : b[a + i].toNat % 128 = 0 := by omega
      rw [this, Nat.zero_mul, Nat.add_zero]
      exact putL_short i n hz.2 hn
    · have hpc := putL_conts i n (b[a + i].toNat % 128) hn (by omega) (fun h0 => by
        have : ¬ b[a + i] = 0 := fun q => hz ⟨q, h0⟩
        omega)
      rw [if_neg hz, if_pos hlast]
      refine rj2_good b hs a i _ _ _ _ (by omega) hi hu hlast hval ?_ ?_
      · rw [hpc, hnx]
        congr 2
        omega
      · rw [hpc]; simp [conts_len]
  · have h9' : ¬ i = 9 := fun e => by have := h9 e; omega
    rw [if_neg (show ¬ (b[a + i] = 0 ∧ 0 < i) by omega), if_neg hlast]
    refine ev_shift ?_
    simp only [chartroomref01_Take.j2, if_neg (show ¬ (false = true) by decide), if_neg hlast, hval, w64 ((i : Int) + 1) (by omega) (by omega)]
    refine ih _ (by omega) (acc_lt i n _ hn (by omega)) ?_
    rw [hnx, conts_snoc i n _ hn (by omega)]
    congr 2
    omega
theorem rtake_l0 (b : List Int) (hb : Bytes b) (hs : b.length ≤ 140737488355328) (a : Nat) (ha : a < b.length) :
    ∀ (d i n : Nat), a + i + d = b.length → i ≤ 9 → n < 128 ^ i → (b.drop a).take i = conts n i → Ev (fun k => chartroomref01_Take.l0 k b (a : Int) (n : Int) (i : Int)) (fin a (tkL (b.drop (a + i)) i n)) := by
  intro d
  induction d with
  | zero =>
    intro i n h hi hn _
    refine ev_shift ?_
    have ew : wrap64 ((a : Int) + (i : Int)) = ((a + i : Nat) : Int) := by rw [w64 _ (by omega) (by omega)]; omega
    simp only [chartroomref01_Take.l0, if_pos (show (i : Int) < 10 by omega), ew, if_pos (show ((a + i : Nat) : Int) ≥ b.length by omega)]
    exact ev_some (by rw [List.drop_of_length_le (by omega)]; rfl)
  | succ d ih =>
    intro i n h hi hn hc
    have hlt : a + i < b.length := by omega
    have hbb := hb _ (List.getElem_mem hlt)
    have ew : wrap64 ((a : Int) + (i : Int)) = ((a + i : Nat) : Int) := by rw [w64 _ (by omega) (by omega)]; omega
    have e7 : wrap64 (7 * (i : Int)) = 7 * (i : Int) := w64 _ (by omega) (by omega)
    have hwt := rwt i hi
    have key := fun h9 => rj2 b hb hs a i n hlt hi hn hc h9 (fun m hm1 hm2 hm3 => ih (i + 1) m (by omega) hm1 hm2 hm3)
    refine ev_shift ?_
    rw [List.drop_eq_getElem_cons hlt, tkl_cons]
    simp only [chartroomref01_Take.l0, if_pos (show (i : Int) < 10 by omega), ew, if_neg (show ¬ ((a + i : Nat) : Int) ≥ b.length by omega), if_pos (show (0 : Int) ≤ ((a + i : Nat) : Int) by omega), if_pos (show ((a + i : Nat) : Int) < b.length by omega), e7, if_pos (show (0 : Int) ≤ 7 * (i : Int) by omega), rd_lt b (a + i) hlt, hwt, wu64 b[a + i] (by omega) (by omega)]
    clear hwt ih
    by_cases e9 : i = 9
    · simp only [if_pos (show (i : Int) = 9 by omega)]
      by_cases hg : b[a + i] > 1
      · simp only [decide_eq_true hg, if_pos (show i = 9 ∧ b[a + i] > 1 from ⟨e9, hg⟩)]
        refine ev_shift ?_
        simp only [chartroomref01_Take.j2, if_true]
        exact Ev.now _
      · rw [decide_eq_false hg, if_neg (show ¬ (i = 9 ∧ b[a + i] > 1) from fun h => hg h.2)]
        exact key (fun _ => by omega)
    · simp only [if_neg (show ¬ (i : Int) = 9 by omega), if_neg (show ¬ (i = 9 ∧ b[a + i] > 1) from fun h => e9 h.1)]
      exact key (fun h => absurd h e9)
theorem rtake (b : List Int) (hb : Bytes b) (hs : b.length ≤ 140737488355328) (a : Int) : Ev (fun k => chartroomref01_Take.f k b a) (take b a) := by
  unfold chartroomref01_Take.f take
  by_cases h0 : a < 0
  · simp only [if_pos h0, if_pos (show a < 0 ∨ (b.length : Int) ≤ a from .inl h0)]
    refine ev_shift ?_
    simp only [chartroomref01_Take.j0, if_true]
    exact Ev.now _
  · by_cases h1 : (b.length : Int) ≤ a
    · simp only [if_neg h0, decide_eq_true (show a ≥ (b.length : Int) from h1), if_pos (show a < 0 ∨ (b.length : Int) ≤ a from .inr h1)]
      refine ev_shift ?_
      simp only [chartroomref01_Take.j0, if_true]
      exact Ev.now _
    · simp only [if_neg h0, decide_eq_false (show ¬ a ≥ (b.length : Int) from h1), if_neg (show ¬ (a < 0 ∨ (b.length : Int) ≤ a) from fun h => h.elim h0 h1)]
      refine ev_shift ?_
      simp only [chartroomref01_Take.j0, if_neg (show ¬ (false = true) by decide)]
      obtain ⟨m, rfl⟩ := Int.eq_ofNat_of_zero_le (show 0 ≤ a by omega)
      have := rtake_l0 b hb hs m (by omega) (b.length - m) 0 0 (by omega) (by omega) (by decide) (by simp [conts])
      simpa using this
end Go.Proofs.Ytoeabgeglgiobaa.Q
