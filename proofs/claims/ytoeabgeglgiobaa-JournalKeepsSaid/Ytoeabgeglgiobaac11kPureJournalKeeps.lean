/- What is appended is got by its reference, whatever is appended or cut off behind it: the plain law behind JournalKeeps. Its conditions: those of the given statement. -/
import Derived.Test.Ytoeabgeglgiobaac11kQJfew
import Derived.Test.Ytoeabgeglgiobaac11kQJworks
import Derived.Test.Ytoeabgeglgiobaac11kQKit
import Derived.Test.Ytoeabgeglgiobaac11kGL11JournalKeeps1
import Derived.Test.Ytoeabgeglgiobaac11kQOpen11
namespace Go.Proofs.Ytoeabgeglgiobaa.Pure
open Go.RowKit Go.Proofs.Ytoeabgeglgiobaa.P Go.Proofs.Ytoeabgeglgiobaa.Q Go.Proofs.YtoeabgeglgiobaaW.PrintWords Go.Proofs.YtoeabgeglgiobaaW.PrintLast
set_option linter.unusedSectionVars false
section
variable (L : List (List Int)) (tail : List Int) (hL : ∀ p ∈ L, Pl p) (hf : Few11 L) (ht : Bytes tail) (htl : tail.length ≤ 100)
include hL hf
theorem jk_p : ∀ p ∈ L, Pl p ∧ p.length ≤ 65535 := fun p hp => ⟨hL p hp, by have := hf.2 p hp; omega⟩
theorem jk_len (i : Nat) : (jl (L.take i)).length ≤ 2150 := by
  have h1 := (joinL_len ((L.take i).map nine) 200 (by omega) (by
    intro q hq
    obtain ⟨z, hz, rfl⟩ := List.mem_map.1 hq
    exact hf.2 z (List.mem_of_mem_take hz))).1
  rw [List.length_map, List.length_take] at h1
  have := hf.1
  have h2 : (jl (L.take i)).length ≤ 215 * min i L.length := h1
  omega
theorem jk_bytes (i : Nat) : Bytes (jl (L.take i)) := jl_bytes _ (fun p hp => hL p (List.mem_of_mem_take hp))
theorem jk_whole (i : Nat) : wholeD (jl (L.take i)) = (((jl (L.take i)).length : Nat) : Int) := by
  have := whole_torn (L.take i) [] (fun p hp => (jk_p L hL hf p (List.mem_of_mem_take hp)).2) (by rw [List.append_nil]; exact jnx_end _ _ (Nat.le_refl _))
  rw [List.append_nil] at this
  exact this
theorem jk_append (i : Nat) (hi : i < L.length) : Ev (fun k => journal_Append.f k (jl (L.take i)) L[i]) (jl (L.take (i + 1)), ((jl (L.take i)).length : Int), (L[i].length : Int), crcSum L[i], 0) := by
  have hp := jk_p L hL hf _ (List.getElem_mem hi)
  have hl := jk_len L hL hf i
  refine ev_eq (vAppend (jl (L.take i)) L[i] (jk_bytes L hL hf i) (by omega) hp.1 (jk_whole L hL hf i) (Nat.le_refl _)) ?_
  unfold apd
  rw [if_neg (by omega), List.take_length, take_snoc L i hi, jl_snoc]
include ht htl
theorem jk_l1 (n : Nat) (hn : n ≤ (jl L).length) (w : Nat) (t : List Int) (w1 : w ≤ L.length) (w2 : (jl L).take n = jl (L.take w) ++ t) (w3 : (jl (L.take w)).length ≤ n) (w4 : ∀ i, i < L.length → ((jl (L.take (i + 1))).length ≤ n ↔ i < w))
    (w5 : t = [] ∨ ∃ (h : w < L.length) (m : Nat), m < (frmL 9 L[w]).length ∧ t = (frmL 9 L[w]).take m) : ∀ (d i : Nat), i + d = L.length →
    Ev (fun k => chartroomlaw11_JournalKeeps.l1 k L tail (jl L) (plc L L.length) (L.map rf) (n : Int) ((min i w : Nat) : Int) (i : Int)) true := by
  have hlen : (jl L).length ≤ 2150 := by have := jk_len L hL hf L.length; rwa [List.take_length] at this
  have hB : Bytes (jl L) := jl_bytes L hL
  have hBn : Bytes ((jl L).take n) := hB.take n
  have hnl : ((jl L).take n).length = n := by rw [List.length_take]; omega
  have h10 := hf.1
  intro d
  induction d with
  | zero =>
    intro i h
    have hmin : min i w = w := by omega
    have hcerr := cut_err L (jk_p L hL hf) w t w5
    have hwp : ∀ p ∈ L.take w, p.length ≤ 65535 := fun p hp => (jk_p L hL hf p (List.mem_of_mem_take hp)).2
    have hwh : wholeD ((jl L).take n) = (((jl (L.take w)).length : Nat) : Int) := by rw [w2]; exact whole_torn (L.take w) t hwp hcerr
    have hcut := vcut ((jl L).take n) hBn (by omega) hwh (by rw [hnl]; exact w3)
    have hce : ((jl L).take n).take (jl (L.take w)).length = jl (L.take w) := by rw [w2, List.take_append, List.take_length]; simp
    rw [hce] at hcut
    have hall : (jall ((jl L).take n) (((jl L).take n).length + 1) 0).map (·.2) = L.take w := by
      have h0 : jall ((jl L).take n) (((jl L).take n).length + 1) 0 = jx 0 (L.take w) := by rw [w2]; exact all_torn (L.take w) t hwp hcerr
      rw [h0, jx_pays]
    have hwl := jk_len L hL hf w
    have htorn := whole_ge L tail (fun p hp => (jk_p L hL hf p hp).2) (hB.append ht)
    refine ev_shift ?_
    simp only [chartroomlaw11_JournalKeeps.l1, if_neg (show ¬ (i : Int) < L.length by omega), if_pos (show (0 : Int) ≤ n by omega), if_pos (show (n : Int) ≤ (jl L).length by omega), Int.toNat_natCast, hmin]
    refine Ev.bind (ev_of hcut) ?_
    refine Ev.bind (ev_of (own_some (jl L) (by omega))) ?_
    simp only [if_pos (show (jl L).length + tail.length < 140737488355328 by omega)]
    refine Ev.bind (ev_of (vall11 ((jl L).take n) hBn (by omega))) ?_
    simp only [hall, if_pos (show (0 : Int) ≤ w by omega), if_pos (show (w : Int) ≤ L.length by omega)]
    refine Ev.bind (rows11 (L.take w) (by rw [List.length_take]; omega) (fun p hp => by have := hwp p hp; omega)) ?_
    simp only [if_true]
    refine Ev.bind (ev_of (vwhole (jl (L.take w)) (jk_bytes L hL hf w) (by omega))) ?_
    simp only [jk_whole L hL hf w, if_true]
    refine Ev.bind (ev_of (vwhole (jl L ++ tail) (hB.append ht) (by rw [List.length_append]; omega))) ?_
    simp only [if_pos (show wholeD (jl L ++ tail) ≥ (jl L).length from htorn)]
    exact works11_bind
  | succ d ih =>
    intro i h
    have hi : i < L.length := by omega
    have next := ih (i + 1) (by omega)
    have hp := jk_p L hL hf _ (List.getElem_mem hi)
    have hil := jk_len L hL hf i
    have hil1 := jk_len L hL hf (i + 1)
    have hs1 : jl (L.take (i + 1)) = jl (L.take i) ++ frmL 9 L[i] := by rw [take_snoc L i hi, jl_snoc]
    have hw4 := w4 i hi
    have hget : (jnx ((jl L).take n) (((jl (L.take i)).length : Nat) : Int)).2.2 = 0 ↔ i < w := by
      constructor
      · intro hz
        by_cases q : i < w
        · exact q
        · exfalso
          rcases Nat.lt_or_ge w i with hlt | hge
          · have hm : (jl (L.take (w + 1))).length ≤ (jl (L.take i)).length := by
              have : L.take i = L.take (w + 1) ++ (L.take i).drop (w + 1) := by
                have := (List.take_append_drop (w + 1) (L.take i)).symm
                rwa [List.take_take, show min (w + 1) i = w + 1 by omega] at this
              rw [this, jl_append, List.length_append]; omega
            have := (w4 w (by omega))
            exact jnx_end _ _ (by rw [hnl]; omega) hz
          · obtain rfl : i = w := by omega
            rw [w2] at hz
            exact cut_err L (jk_p L hL hf) i t w5 hz
      · intro q
        have hle := hw4.2 q
        have e : (jl L).take n = jl (L.take i) ++ (frmL 9 L[i] ++ ((jl L).take n).drop (jl (L.take (i + 1))).length) := by
          have h1 : ((jl L).take n).take (jl (L.take (i + 1))).length = jl (L.take (i + 1)) := by
            rw [List.take_take, show min (jl (L.take (i + 1))).length n = (jl (L.take (i + 1))).length by omega]
            have : jl L = jl (L.take (i + 1)) ++ jl (L.drop (i + 1)) := by rw [← jl_append, List.take_append_drop]
            rw [this, List.take_append, List.take_length]; simp
          have h2 := (List.take_append_drop (jl (L.take (i + 1))).length ((jl L).take n)).symm
          rw [h1, hs1, List.append_assoc] at h2
          rw [hs1]
          exact h2
        rw [e, jnx_put _ _ _ hp.2]
    have hgetp : i < w → (jnx ((jl L).take n) (((jl (L.take i)).length : Nat) : Int)).1 = L[i] := by
      intro q
      have hle := hw4.2 q
      have e : (jl L).take n = jl (L.take i) ++ (frmL 9 L[i] ++ ((jl L).take n).drop (jl (L.take (i + 1))).length) := by
        have h1 : ((jl L).take n).take (jl (L.take (i + 1))).length = jl (L.take (i + 1)) := by
          rw [List.take_take, show min (jl (L.take (i + 1))).length n = (jl (L.take (i + 1))).length by omega]
          have : jl L = jl (L.take (i + 1)) ++ jl (L.drop (i + 1)) := by rw [← jl_append, List.take_append_drop]
          rw [this, List.take_append, List.take_length]; simp
        have h2 := (List.take_append_drop (jl (L.take (i + 1))).length ((jl L).take n)).symm
        rw [h1, hs1, List.append_assoc] at h2
        rw [hs1]
        exact h2
      rw [e, jnx_put _ _ _ hp.2]
    have hG := vGet ((jl L).take n) hBn (by omega) (((jl (L.take i)).length : Nat) : Int) (L[i].length : Int) (crcSum L[i])
    have hj5 : ∀ x16 : Nat, x16 = min i w → Ev (fun k => chartroomlaw11_JournalKeeps.j5 k L tail (jl L) (plc L L.length) (L.map rf) (n : Int) (x16 : Int) (i : Int) ((jl (L.take (i + 1))).length : Int) false) true := by
      intro x16 hx
      refine ev_shift ?_
      by_cases q : i < w
      · simp only [chartroomlaw11_JournalKeeps.j5, if_neg (show ¬ (false = true) by decide), if_pos (show ((jl (L.take (i + 1))).length : Int) ≤ n by have := hw4.2 q; omega), w64 ((x16 : Int) + 1) (by omega) (by omega), w64 ((i : Int) + 1) (by omega) (by omega)]
        rw [show min (i + 1) w = x16 + 1 by omega] at next
        exact next
      · simp only [chartroomlaw11_JournalKeeps.j5, if_neg (show ¬ (false = true) by decide), if_neg (show ¬ ((jl (L.take (i + 1))).length : Int) ≤ n by have := mt hw4.1 q; omega), w64 ((i : Int) + 1) (by omega) (by omega)]
        rw [show min (i + 1) w = x16 by omega] at next
        exact next
    have hj4 : Ev (fun k => chartroomlaw11_JournalKeeps.j4 k L tail (jl L) (plc L L.length) (L.map rf) (n : Int) ((min i w : Nat) : Int) (i : Int) ((jl (L.take (i + 1))).length : Int)) true := by
      refine ev_shift ?_
      simp only [chartroomlaw11_JournalKeeps.j4, if_pos (show (0 : Int) ≤ n by omega), if_pos (show (n : Int) ≤ (jl L).length by omega), if_pos (show (0 : Int) ≤ i by omega), plc_len, List.length_map, if_pos (show (i : Int) < L.length by omega), Int.toNat_natCast, plc_get L L.length i hi, rf_get L i hi, rf]
      refine Ev.bind hG ?_
      by_cases q : i < w
      · have h0 := hget.2 q
        have hpe := hgetp q
        simp only [h0, hpe, if_true, beq_self_eq_true, Bool.not_true, Bool.or_self, if_neg (show ¬ (false = true) by decide), decide_eq_true (show ((jl (L.take (i + 1))).length : Int) ≤ n by have := hw4.2 q; omega), bne_self_eq_false, rdL2 L i hi]
        refine Ev.bind (sameBytes L[i] L[i] (by omega)) ?_
        simp only [decide_true, Bool.not_true]
        exact hj5 _ rfl
      · have h0 := mt hget.1 q
        have hb0 : ((jnx ((jl L).take n) (((jl (L.take i)).length : Nat) : Int)).2.2 == 0) = false := beq_eq_false_iff_ne.2 h0
        simp only [if_neg h0, hb0, decide_eq_false (show ¬ ((jl (L.take (i + 1))).length : Int) ≤ n by have := mt hw4.1 q; omega), bne_self_eq_false, if_neg (show ¬ (false = true) by decide)]
        exact hj5 _ rfl
    refine ev_shift ?_
    by_cases hlast : i + 1 < L.length
    · have e1 : rd (plc L L.length) ((i : Int) + 1) = ((jl (L.take (i + 1))).length : Int) := plc_get L L.length (i + 1) hlast
      simp only [chartroomlaw11_JournalKeeps.l1, if_pos (show (i : Int) < L.length by omega), w64 ((i : Int) + 1) (by omega) (by omega), if_pos (show (i : Int) + 1 < L.length by omega), if_pos (show (0 : Int) ≤ (i : Int) + 1 by omega), plc_len, e1]
      exact hj4
    · simp only [chartroomlaw11_JournalKeeps.l1, if_pos (show (i : Int) < L.length by omega), w64 ((i : Int) + 1) (by omega) (by omega), if_neg (show ¬ (i : Int) + 1 < L.length by omega)]
      have e1 : jl L = jl (L.take (i + 1)) := by rw [List.take_of_length_le (by omega)]
      rw [← e1] at hj4
      exact hj4
theorem jk_l0 (x1 : Int) : ∀ (d i : Nat), i + d = L.length → Ev (fun k => chartroomlaw11_JournalKeeps.l0 k L x1 tail (jl (L.take i)) (plc L i) ((L.take i).map rf) (i : Int)) true := by
  have h10 := hf.1
  intro d
  induction d with
  | zero =>
    intro i h
    have hi : L.take i = L := List.take_of_length_le (by omega)
    have hlen := jk_len L hL hf i
    have hw := jk_whole L hL hf i
    rw [hi] at hlen hw
    have hB : Bytes (jl L) := jl_bytes L hL
    have hall : (jall (jl L) ((jl L).length + 1) 0).map (·.2) = L := by
      have := all_torn L [] (fun p hp => (jk_p L hL hf p hp).2) (by rw [List.append_nil]; exact jnx_end _ _ (Nat.le_refl _))
      rw [List.append_nil] at this
      rw [this, jx_pays]
    obtain rfl : i = L.length := by omega
    refine ev_shift ?_
    simp only [chartroomlaw11_JournalKeeps.l0, hi, if_neg (show ¬ ((L.length : Nat) : Int) < L.length by omega)]
    refine Ev.bind (ev_of (vwhole (jl L) hB (by omega))) ?_
    simp only [hw, if_true]
    refine Ev.bind (ev_of (vall11 (jl L) hB (by omega))) ?_
    simp only [hall]
    refine Ev.bind (rows11 L (by omega) (fun p hp => by have := hf.2 p hp; omega)) ?_
    simp only [Bool.not_true]
    refine ev_shift ?_
    simp only [chartroomlaw11_JournalKeeps.j2, if_neg (show ¬ (false = true) by decide), w64 (((jl L).length : Int) + 1) (by omega) (by omega)]
    obtain ⟨n, hn, hn2⟩ := pick_some x1 (((jl L).length : Int) + 1) (by omega) (by omega)
    refine Ev.bind (ev_of hn) ?_
    obtain ⟨w, t, w1, w2, w3, w4, w5⟩ := cut_split L n (by omega)
    have := jk_l1 L tail hL hf ht htl n (by omega) w t w1 w2 w3 w4 w5 L.length 0 (by omega)
    rw [Nat.zero_min] at this
    exact this
  | succ d ih =>
    intro i h
    have hi : i < L.length := by omega
    refine ev_shift ?_
    simp only [chartroomlaw11_JournalKeeps.l0, if_pos (show (i : Int) < L.length by omega), if_pos (show (0 : Int) ≤ i by omega), rdL2 L i hi]
    refine Ev.bind (jk_append L hL hf i hi) ?_
    simp only [if_true, plc_len, List.length_map, if_pos (show i < 17592186044416 by omega), if_pos (show (L.take i).length < 8796093022208 by rw [List.length_take]; omega), w64 ((i : Int) + 1) (by omega) (by omega)]
    have := ih (i + 1) (by omega)
    rw [plc_snoc] at this
    have e : (L.take (i + 1)).map rf = (L.take i).map rf ++ [rf L[i]] := by rw [take_snoc L i hi, List.map_append]; rfl
    rw [e] at this
    exact this
end
theorem jk_ev (L : List (List Int)) (x1 : Int) (tail : List Int) (hL : ∀ p ∈ L, Pl p) (ht : Bytes tail) : Ev (fun k => chartroomlaw11_JournalKeeps.f k L x1 tail) true := by
  have hw : Ev (fun k => chartroomlaw11_JournalKeeps.j0 k L x1 tail true) true := by
    refine ev_shift ?_
    simp only [chartroomlaw11_JournalKeeps.j0, if_true]
    exact works11_bind
  unfold chartroomlaw11_JournalKeeps.f
  refine Ev.bind (few11 L) ?_
  by_cases h : Few11 L
  · simp only [decide_eq_true h, if_true]
    by_cases h2 : (tail.length : Int) > 100
    · simp only [decide_eq_true h2]; exact hw
    · simp only [decide_eq_false h2]
      refine ev_shift ?_
      simp only [chartroomlaw11_JournalKeeps.j0, if_neg (show ¬ (false = true) by decide)]
      exact jk_l0 L tail hL h ht (by omega) x1 L.length 0 (by omega)
  · simp only [decide_eq_false h, if_neg (show ¬ (false = true) by decide)]
    exact hw
theorem JournalKeeps (l : List (List Int)) (_ : l.length * Try.prog.bytesOf 24 ≤ reachBytes) (hl : ∀ y ∈ l, Ok24 y) (a : Int) (_ : (Lit.int .i64 a).wf = true) (b : List Int) (_ : b.length * Try.prog.bytesOf 5 ≤ reachBytes) (hb : ∀ y ∈ b, (fun n => (Lit.int .u8 n).wf = true) y) : ∃ k, chartroomlaw11_JournalKeeps.f k l a b = some true :=
  ev_true (jk_ev l a b (fun q h => ⟨Bytes.of_wf (hl q h).2, (hl q h).1⟩) (Bytes.of_wf hb))
end Go.Proofs.Ytoeabgeglgiobaa.Pure
