/- The examples of the chapter; numbers about the bounds of groups; bytes of few values; texts that are too short: the plain law behind VarintKnown. No condition. -/
import Derived.Test.YtoeabgeglgiobaaPureVarintTakes
import Derived.Test.YtoeabgeglgiobaaPureVarintPuts
import Derived.Test.YtoeabgeglgiobaaPureVarintBack
import Derived.Test.YtoeabgeglgiobaaGL01VarintKnown0
namespace Go.Proofs.Ytoeabgeglgiobaa.Pure
open Go.RowKit Go.Proofs.Ytoeabgeglgiobaa.P Go.Proofs.Ytoeabgeglgiobaa.Q Go.Proofs.YtoeabgeglgiobaaW.PrintWords Go.Proofs.YtoeabgeglgiobaaW.PrintLast Go.Proofs.YtoeabgeglgiobaaW.PrintMore

theorem nil_bytes : Bytes [] := fun _ h => by simp at h
theorem nil_u64 : U64 [] := fun _ h => by simp at h
theorem cons_bytes {x : Int} {l : List Int} (h0 : 0 ≤ x) (h1 : x < 256) (h : Bytes l) : Bytes (x :: l) := fun y hy => by
  rcases List.mem_cons.1 hy with rfl | hy
  · exact ⟨h0, h1⟩
  · exact h y hy
theorem cons_u64 {x : Int} {l : List Int} (h0 : 0 ≤ x) (h1 : x < 18446744073709551616) (h : U64 l) : U64 (x :: l) := fun y hy => by
  rcases List.mem_cons.1 hy with rfl | hy
  · exact ⟨h0, h1⟩
  · exact h y hy
theorem known_l5 : ∀ (d i : Nat), i + d = 256 → Ev (fun k => chartroomlaw01_VarintKnown.l5 k ([255, 255, 255, 255, 255, 255, 255, 255, 255] : List Int) (i : Int)) true := by
  intro d
  have h9 : Bytes ([255, 255, 255, 255, 255, 255, 255, 255, 255] : List Int) := by
    intro x hx; simp at hx; omega
  induction d with
  | zero =>
    intro i h
    refine ev_shift ?_
    simp only [chartroomlaw01_VarintKnown.l5, if_neg (show ¬ (i : Int) < 256 by omega)]
    refine Ev.bind (takes_ev _ 0 1 h9) ?_
    simp only [if_true]
    refine Ev.bind (takes_ev _ 0 0 nil_bytes) ?_
    simp only [if_true]
    refine Ev.bind (takes_ev _ 0 (-1) (cons_bytes (by omega) (by omega) (cons_bytes (by omega) (by omega) (cons_bytes (by omega) (by omega) nil_bytes)))) ?_
    simp only [if_true]
    refine Ev.bind (takes_ev _ 0 1 (h9.append (cons_bytes (by omega) (by omega) (cons_bytes (by omega) (by omega) nil_bytes)))) ?_
    simp only [if_true]
    refine Ev.bind (back_ev [] _ [] [] nil_u64 nil_bytes nil_bytes) ?_
    simp only [if_true]
    exact works01_bind
  | succ d ih =>
    intro i h
    refine ev_shift ?_
    simp only [chartroomlaw01_VarintKnown.l5, if_pos (show (i : Int) < 256 by omega), own_some ([255, 255, 255, 255, 255, 255, 255, 255, 255] : List Int) (by decide), Option.bind_some, w64 ((i : Int) + 1) (by omega) (by omega)]
    simp only [if_pos (show ([255, 255, 255, 255, 255, 255, 255, 255, 255] : List Int).length + ([(i : Int) % 256, (i : Int) % 256] : List Int).length < 140737488355328 by simp)]
    refine Ev.bind (takes_ev _ 0 1 (h9.append (cons_bytes (by omega) (by omega) (cons_bytes (by omega) (by omega) nil_bytes)))) ?_
    simp only [if_true]
    exact ih (i + 1) (by omega)
theorem known_l4 (x5 x7 x8 : List Int) (x6 : Int) (h7 : Bytes x7) (h8 : Bytes x8) (hn : Ev (fun k => chartroomlaw01_VarintKnown.l2 k x5 (wrap64 (x6 + 1))) true) : ∀ (d : Nat) (x10 : Int), x10 + d = 5 → -1 ≤ x10 → Ev (fun k => chartroomlaw01_VarintKnown.l4 k x5 x6 x7 x8 x10) true := by
  intro d
  induction d with
  | zero =>
    intro x10 h hm
    refine ev_shift ?_
    simp only [chartroomlaw01_VarintKnown.l4, if_neg (show ¬ x10 < 5 by omega)]
    exact hn
  | succ d ih =>
    intro x10 h hm
    refine ev_shift ?_
    by_cases hlt : x10 < 5
    · simp only [chartroomlaw01_VarintKnown.l4, if_pos hlt]
      refine Ev.bind (takes_ev _ x10 x10 h7) ?_
      simp only [if_true]
      refine Ev.bind (takes_ev _ x10 2 h8) ?_
      simp only [if_true]
      by_cases hb : -9223372036854775808 ≤ x10
      · rw [w64 (x10 + 1) (by omega) (by omega)]
        exact ih (x10 + 1) (by omega) (by omega)
      · omega
    · omega
theorem known_l3 (x7 : List Int) (x6 : Int) (h7 : Bytes x7) (hl7 : x7.length ≤ 100) (hn : Ev (fun k => chartroomlaw01_VarintKnown.l2 k ([0, 1, 2, 127, 128, 129, 255] : List Int) (wrap64 (x6 + 1))) true) : ∀ (d : Nat) (i : Nat) (x8 : List Int), i + d = 3 → Bytes x8 → x8.length = 3 * i → Ev (fun k => chartroomlaw01_VarintKnown.l3 k ([0, 1, 2, 127, 128, 129, 255] : List Int) x6 x7 x8 (i : Int)) true := by
  intro d
  induction d with
  | zero =>
    intro i x8 h hb hl
    refine ev_shift ?_
    simp only [chartroomlaw01_VarintKnown.l3, if_neg (show ¬ (i : Int) < 3 by omega), if_pos (show x8.length + x7.length < 140737488355328 by omega)]
    exact known_l4 _ x7 (x8 ++ x7) x6 h7 (hb.append h7) hn 6 (-1) (by omega) (by omega)
  | succ d ih =>
    intro i x8 h hb hl
    have hr : rd ([0, 1, 2, 127, 128, 129, 255] : List Int) (i : Int) = (i : Int) := by
      obtain rfl | rfl | rfl : i = 0 ∨ i = 1 ∨ i = 2 := by omega
      · rfl
      · rfl
      · rfl
    refine ev_shift ?_
    simp only [chartroomlaw01_VarintKnown.l3, if_pos (show (i : Int) < 3 by omega), if_pos (show (0 : Int) ≤ i by omega), hr, Option.bind_some, w64 ((i : Int) + 1) (by omega) (by omega)]
    simp only [if_pos (show (i : Int) < (([0, 1, 2, 127, 128, 129, 255] : List Int).length : Int) by simp; omega)]
    simp only [if_pos (show x8.length + ([128, 255, (i : Int)] : List Int).length < 140737488355328 by simp; omega)]
    exact ih (i + 1) (x8 ++ [128, 255, (i : Int)]) (by omega) (hb.append (cons_bytes (by omega) (by omega) (cons_bytes (by omega) (by omega) (cons_bytes (by omega) (by omega) nil_bytes)))) (by simp; omega)
theorem vals_rd (j : Nat) (h : j < 7) : 0 ≤ rd ([0, 1, 2, 127, 128, 129, 255] : List Int) (j : Int) ∧ rd ([0, 1, 2, 127, 128, 129, 255] : List Int) (j : Int) < 256 := by
  have key : ∀ m : Fin 7, 0 ≤ rd ([0, 1, 2, 127, 128, 129, 255] : List Int) ((m.val : Nat) : Int) ∧ rd ([0, 1, 2, 127, 128, 129, 255] : List Int) ((m.val : Nat) : Int) < 256 := by decide
  exact key ⟨j, h⟩
theorem known_l2 : ∀ (d i : Nat), i + d = 343 → Ev (fun k => chartroomlaw01_VarintKnown.l2 k ([0, 1, 2, 127, 128, 129, 255] : List Int) (i : Int)) true := by
  intro d
  induction d with
  | zero =>
    intro i h
    refine ev_shift ?_
    simp only [chartroomlaw01_VarintKnown.l2, if_neg (show ¬ (i : Int) < 343 by omega)]
    exact known_l5 256 0 (by omega)
  | succ d ih =>
    intro i h
    have e1 : Int.tmod (i : Int) 7 = ((i % 7 : Nat) : Int) := by rw [Int.tmod_eq_emod_of_nonneg (by omega)]; omega
    have e2 : wrap64 (Int.tdiv (i : Int) 7) = ((i / 7 : Nat) : Int) := by rw [Int.tdiv_eq_ediv_of_nonneg (by omega), w64 _ (by omega) (by omega)]; omega
    have e3 : wrap64 (Int.tdiv (i : Int) 49) = ((i / 49 : Nat) : Int) := by rw [Int.tdiv_eq_ediv_of_nonneg (by omega), w64 _ (by omega) (by omega)]; omega
    have e4 : Int.tmod ((i / 7 : Nat) : Int) 7 = ((i / 7 % 7 : Nat) : Int) := by rw [Int.tmod_eq_emod_of_nonneg (by omega)]; omega
    have hl : (([0, 1, 2, 127, 128, 129, 255] : List Int).length : Int) = 7 := rfl
    have v1 := vals_rd (i % 7) (by omega)
    have v2 := vals_rd (i / 7 % 7) (by omega)
    have v3 := vals_rd (i / 49) (by omega)
    refine ev_shift ?_
    simp only [chartroomlaw01_VarintKnown.l2, if_pos (show (i : Int) < 343 by omega), e1, e2, e3, e4, hl, if_pos (show (0 : Int) ≤ ((i % 7 : Nat) : Int) by omega), if_pos (show ((i % 7 : Nat) : Int) < 7 by omega), if_pos (show (0 : Int) ≤ ((i / 7 % 7 : Nat) : Int) by omega), if_pos (show ((i / 7 % 7 : Nat) : Int) < 7 by omega), if_pos (show (0 : Int) ≤ ((i / 49 : Nat) : Int) by omega), if_pos (show ((i / 49 : Nat) : Int) < 7 by omega)]
    refine known_l3 _ _ (cons_bytes v1.1 v1.2 (cons_bytes v2.1 v2.2 (cons_bytes v3.1 v3.2 nil_bytes))) (by simp) ?_ 3 0 [] (by omega) nil_bytes rfl
    rw [w64 ((i : Int) + 1) (by omega) (by omega)]
    exact ih (i + 1) (by omega)
theorem known_l1 (l : List Int) (x1 x2 : Int) (hu : U64 l) (hl : l.length ≤ 100) (h2 : 0 ≤ x2 ∧ x2 < 18446744073709551616) (hn : Ev (fun k => chartroomlaw01_VarintKnown.l0 k (wrap64 (x1 + 1))) true) : ∀ (d i : Nat), i + d = l.length → Ev (fun k => chartroomlaw01_VarintKnown.l1 k x1 x2 l (l.length : Int) (i : Int)) true := by
  intro d
  induction d with
  | zero =>
    intro i h
    refine ev_shift ?_
    simp only [chartroomlaw01_VarintKnown.l1, if_neg (show ¬ (i : Int) < l.length by omega)]
    exact hn
  | succ d ih =>
    intro i h
    have hi : i < l.length := by omega
    have hg := hu.get i hi
    refine ev_shift ?_
    simp only [chartroomlaw01_VarintKnown.l1, if_pos (show (i : Int) < l.length by omega), if_pos (show (0 : Int) ≤ i by omega), rd_lt l i hi, w64 ((i : Int) + 1) (by omega) (by omega)]
    refine Ev.bind (puts_ev _ _ (cons_u64 hg.1 hg.2 (cons_u64 h2.1 h2.2 nil_u64))) ?_
    simp only [if_true]
    refine Ev.bind (vput _ hg.1 hg.2) ?_
    refine Ev.bind (vput _ h2.1 h2.2) ?_
    refine Ev.bind (back_ev _ _ _ _ (cons_u64 hg.1 hg.2 (cons_u64 h2.1 h2.2 (cons_u64 (by omega) (by omega) nil_u64))) (putL_bytes_u64 (by omega)) (putL_bytes_u64 (by omega))) ?_
    simp only [if_true]
    exact ih (i + 1) (by omega)
theorem wrap_u64_bd (n : Int) : 0 ≤ IntKind.u64.wrap n ∧ IntKind.u64.wrap n < 18446744073709551616 := by
  simp [IntKind.wrap, IntKind.bits, IntKind.signed]; omega
theorem bits_u64_bd (a b : Int) : 0 ≤ Go.bits .xor .u64 a b ∧ Go.bits .xor .u64 a b < 18446744073709551616 := by
  unfold Go.bits
  exact wrap_u64_bd _
theorem shl_u64_bd (a b : Int) : 0 ≤ shl .u64 a b ∧ shl .u64 a b < 18446744073709551616 := by
  unfold shl
  exact wrap_u64_bd _
theorem known_l0 : ∀ (d i : Nat), i + d = 64 → Ev (fun k => chartroomlaw01_VarintKnown.l0 k (i : Int)) true := by
  intro d
  induction d with
  | zero =>
    intro i h
    refine ev_shift ?_
    simp only [chartroomlaw01_VarintKnown.l0, if_neg (show ¬ (i : Int) < 64 by omega)]
    exact known_l2 343 0 (by omega)
  | succ d ih =>
    intro i h
    refine ev_shift ?_
    simp only [chartroomlaw01_VarintKnown.l0, if_pos (show (i : Int) < 64 by omega), if_pos (show (0 : Int) ≤ i by omega), Option.bind_some]
    have b2 := shl_u64_bd 1 (i : Int)
    have b1 := wrap_u64_bd (shl .u64 1 (i : Int) - 1)
    have b3 := wrap_u64_bd (shl .u64 1 (i : Int) + 1)
    have b4 := bits_u64_bd 18446744073709551615 (shl .u64 1 (i : Int))
    refine known_l1 _ (i : Int) _ (cons_u64 b1.1 b1.2 (cons_u64 b2.1 b2.2 (cons_u64 b3.1 b3.2 (cons_u64 b4.1 b4.2 nil_u64)))) (by simp) b2 ?_ 4 0 rfl
    rw [w64 ((i : Int) + 1) (by omega) (by omega)]
    exact ih (i + 1) (by omega)
theorem VarintKnown : chartroomlaw01_VarintKnown.Pure := by
  refine ev_true ?_
  unfold chartroomlaw01_VarintKnown.f
  exact known_l0 64 0 (by omega)
end Go.Proofs.Ytoeabgeglgiobaa.Pure
