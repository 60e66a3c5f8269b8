/- The reference's frame, all frames, and the one that the bytes are: as the program has them. No condition but the bounds in each theorem. -/
import Derived.Test.Ytoeabgeglgiobaac11aQFrame
import Derived.Test.Ytoeabgeglgiobaac11aP0
import Derived.Test.Ytoeabgeglgiobaac11aGkit0
namespace Go.Proofs.Ytoeabgeglgiobaa.Q
open Go.RowKit Go.Proofs.YtoeabgeglgiobaaW.PrintWords Go.Proofs.YtoeabgeglgiobaaW.PrintLast Go.Proofs.YtoeabgeglgiobaaW.PrintMore
open Go.Proofs.Ytoeabgeglgiobaa.P
theorem cmp_loop {α β : Type} [DecidableEq α] (xs ys : List α) (hl : xs.length = ys.length) (good bad : β) (F : Nat → Int → Option β)
    (hF : ∀ (k i : Nat) (h : i < xs.length) (h' : i < ys.length), F (k + 1) (i : Int) = if xs[i] = ys[i] then F k ((i + 1 : Nat) : Int) else some bad)
    (hE : ∀ k : Nat, F (k + 1) (xs.length : Int) = some good) : ∀ (d i : Nat), i + d = xs.length → Ev (fun k => F k (i : Int)) (if xs.drop i = ys.drop i then good else bad) := by
  intro d
  induction d with
  | zero =>
    intro i h
    obtain rfl : i = xs.length := by omega
    refine ev_shift ?_
    simp only [hE]
    exact ev_some (by simp [List.drop_eq_nil_of_le (show ys.length ≤ xs.length by omega)])
  | succ d ih =>
    intro i h
    refine ev_shift ?_
    have h1 : i < xs.length := by omega
    have h2 : i < ys.length := by omega
    simp only [hF _ i h1 h2]
    rw [List.drop_eq_getElem_cons h1, List.drop_eq_getElem_cons h2]
    by_cases e : xs[i] = ys[i]
    · simp only [if_pos e]
      refine ev_eq (ih (i + 1) (by omega)) ?_
      by_cases q : xs.drop (i + 1) = ys.drop (i + 1)
      · rw [if_pos q, if_pos (by rw [e, q])]
      · rw [if_neg q, if_neg (fun h => q (List.cons.inj h).2)]
    · simp only [if_neg e]
      exact ev_some (by rw [if_neg (fun h => e (List.cons.inj h).1)])
theorem take_at (b : List Int) (a : Int) (h0 : 0 ≤ a) (h1 : a < b.length) : Q.take b a = ((Q.take (b.drop a.toNat) 0).1, (if (Q.take (b.drop a.toNat) 0).2.2 = 0 then a + (Q.take (b.drop a.toNat) 0).2.1 else a), (Q.take (b.drop a.toNat) 0).2.2) := by
  unfold Q.take
  rw [if_neg (show ¬ (a < 0 ∨ (b.length : Int) ≤ a) by omega), if_neg (show ¬ ((0 : Int) < 0 ∨ ((b.drop a.toNat).length : Int) ≤ 0) by simp; omega)]
  simp only [Int.toNat_zero, List.drop_zero]
  unfold fin
  by_cases q : (tkL (b.drop a.toNat) 0 0).2.2 = 0
  · rw [if_pos q, if_pos q]; simp
  · rw [if_neg q, if_neg q]; simp
/-- What is taken at a place was written there. -/
theorem take_back_at (b : List Int) (hb : Bytes b) (a x n : Nat) (h : Q.take b (a : Int) = ((n : Int), (x : Int), 0)) : putL n = (b.drop a).take (x - a) := by
  have bd := take_bd b hb a (by rw [h])
  rw [h] at bd
  simp only at bd
  have e := take_at b a (by omega) (by omega)
  rw [h, Int.toNat_natCast] at e
  simp only [Prod.mk.injEq] at e
  obtain ⟨e1, e2, e3⟩ := e
  rw [if_pos e3.symm] at e2
  have := take_back (b.drop a) (hb.drop _) e3.symm
  rw [← e1, Int.toNat_natCast] at this
  rw [this]
  congr 1
  omega
theorem frm_at (b : List Int) (hb : Bytes b) (a x n : Nat) (h : Q.take b ((a : Int) + 1) = ((n : Int), (x : Int), 0)) (hx : a + 1 < x) (hl : x + n + 4 ≤ b.length) :
    frmP (rd b a) ((b.take (x + n)).drop x) = (b.take (x + n)).drop a := by
  have h' : Q.take b ((a + 1 : Nat) : Int) = ((n : Int), (x : Int), 0) := by rw [← h]; rfl
  have hp := take_back_at b hb (a + 1) x n h'
  have hl2 := mid_len b x (x + n) (by omega)
  unfold frmP
  rw [hl2, show x + n - x = n by omega, hp]
  have e1 : (b.take (x + n)).drop a = (b.drop a).take (x + n - a) := by rw [List.drop_take]
  have e2 : (b.take (x + n)).drop x = (b.drop x).take n := by rw [List.drop_take]; congr 1; omega
  rw [e1, e2, List.drop_eq_getElem_cons (show a < b.length by omega), show x + n - a = (x + n - (a + 1)) + 1 by omega, List.take_succ_cons, rd_lt b a (by omega)]
  congr 1
  have e3 : b.drop x = (b.drop (a + 1)).drop (x - (a + 1)) := by rw [List.drop_drop]; congr 1; omega
  rw [e3, ← List.take_add]
  congr 1
  omega
theorem rd_bytes {b : List Int} (hb : Bytes b) (i : Nat) (h : i < b.length) : 0 ≤ rd b (i : Int) ∧ rd b (i : Int) < 256 := by
  rw [rd_lt b i h]; exact hb _ (List.getElem_mem h)
theorem rftake (b : List Int) (hb : Bytes b) (hs : b.length ≤ 900000) (a : Int) : Ev (fun k => chartroomref03_Take.f k b a) (ftake b a) := by
  unfold chartroomref03_Take.f ftake
  by_cases h0 : a < 0
  · simp only [if_pos h0, if_pos (show a < 0 ∨ (b.length : Int) ≤ a from .inl h0)]
    refine ev_shift ?_
    simp only [chartroomref03_Take.j0, if_true]; exact Ev.now _
  · by_cases h1 : (b.length : Int) ≤ a
    · simp only [if_neg h0, decide_eq_true (show a ≥ (b.length : Int) from h1), if_pos (show a < 0 ∨ (b.length : Int) ≤ a from .inr h1)]
      refine ev_shift ?_
      simp only [chartroomref03_Take.j0, if_true]; exact Ev.now _
    · simp only [if_neg h0, decide_eq_false (show ¬ a ≥ (b.length : Int) from h1), if_neg (show ¬ (a < 0 ∨ (b.length : Int) ≤ a) from fun h => h.elim h0 h1)]
      refine ev_shift ?_
      simp only [chartroomref03_Take.j0, if_neg (show ¬ (false = true) by decide), w64 (a + 1) (by omega) (by omega)]
      refine Ev.bind (rtake b hb (by omega) (a + 1)) ?_
      have bd := take_bd b hb (a + 1)
      obtain ⟨T, hT⟩ : ∃ T, T = Q.take b (a + 1) := ⟨_, rfl⟩
      rw [← hT] at bd ⊢
      obtain ⟨n, next, e⟩ := T
      simp only at bd ⊢
      by_cases he : e = 0
      · obtain ⟨b0, b1, b2, b3, b4, b5⟩ := bd he
        simp only [if_pos he, if_neg (show ¬ e ≠ 0 from fun q => q he)]
        by_cases hn : n > 65535
        · simp only [if_pos hn]; exact Ev.now _
        · have w1 : wrap64 n = n := w64 n (by omega) (by omega)
          have w2 : wrap64 (next + n) = next + n := w64 _ (by omega) (by omega)
          have w5 : wrap64 (next + n + 4) = next + n + 4 := w64 _ (by omega) (by omega)
          simp only [if_neg hn, w1, w2, w5]
          by_cases hl : (b.length : Int) < next + n + 4
          · simp only [if_pos hl]; exact Ev.now _
          · obtain ⟨n', rfl⟩ : ∃ m : Nat, n = (m : Int) := ⟨n.toNat, by omega⟩
            obtain ⟨x', rfl⟩ : ∃ m : Nat, next = (m : Int) := ⟨next.toNat, by omega⟩
            obtain ⟨a', rfl⟩ : ∃ m : Nat, a = (m : Int) := ⟨a.toNat, by omega⟩
            have t1 : ((x' : Int) + n').toNat = x' + n' := by omega
            have l2 := mid_len b x' (x' + n') (by omega)
            have hk := rd_bytes hb a' (by omega)
            have hbody : Bytes ((b.take (x' + n')).drop x') := (hb.take _).drop _
            simp only [if_neg hl, if_pos (show (0 : Int) ≤ a' by omega), if_pos (show (a' : Int) < b.length by omega), if_pos (show (0 : Int) ≤ x' by omega), if_pos (show (x' : Int) ≤ x' + n' by omega), if_pos (show (x' : Int) + n' ≤ b.length by omega), t1, Int.toNat_natCast, List.length_nil, if_pos (show 0 + ((b.take (x' + n')).drop x').length < 140737488355328 by omega), List.nil_append, Option.bind_some]
            refine Ev.bind (rbytes _ _ hk.1 hk.2 hbody (by omega)) ?_
            have hfa := frm_at b hb a' x' n' (by rw [← hT, he]) (by omega) (by omega)
            have hlen : (frmL (rd b a') ((b.take (x' + n')).drop x')).length = x' + n' - a' + 4 := by
              rw [frmL_len, hfa]; simp; omega
            have hcl := cmp_loop ((b.drop a').take (x' + n' - a' + 4)) (frmL (rd b a') ((b.take (x' + n')).drop x')) (by rw [hlen]; simp; omega)
              (rd b a', (b.take (x' + n')).drop x', (x' : Int) + n' + 4, (0 : Int)) ((0 : Int), ([] : List Int), (a' : Int), (30 : Int))
              (fun k i => chartroomref03_Take.l0 k b a' (frmL (rd b a') ((b.take (x' + n')).drop x')) i (rd b a') ((b.take (x' + n')).drop x')) ?_ ?_ (x' + n' - a' + 4) 0 (by simp; omega)
            · refine ev_eq hcl ?_
              simp only [List.drop_zero]
              have e4 : (b.drop a').take (x' + n' - a' + 4) = (b.take (x' + n')).drop a' ++ (b.drop (x' + n')).take 4 := by
                rw [List.take_add, List.drop_drop, show a' + (x' + n' - a') = x' + n' by omega, List.drop_take]
              have e5 : frmL (rd b a') ((b.take (x' + n')).drop x') = (b.take (x' + n')).drop a' ++ sum4 (crcSum ((b.take (x' + n')).drop a')) := by
                unfold frmL; rw [hfa]
              rw [e4, e5]
              by_cases hq : (b.drop (x' + n')).take 4 = sum4 (crcSum ((b.take (x' + n')).drop a'))
              · rw [if_pos hq, if_pos (by rw [hq])]
              · rw [if_neg hq, if_neg (fun h => hq (List.append_cancel_left h))]
            · intro k i h h'
              have hi : i < x' + n' - a' + 4 := by rw [hlen] at h'; exact h'
              simp only [chartroomref03_Take.l0, hlen, if_pos (show (i : Int) < ((x' + n' - a' + 4 : Nat) : Int) by omega), w64 ((a' : Int) + i) (by omega) (by omega), if_pos (show (0 : Int) ≤ a' + i by omega), if_pos (show (a' : Int) + i < b.length by omega), if_pos (show (0 : Int) ≤ i by omega), w64 ((i : Int) + 1) (by omega) (by omega), rd_lt _ i h', List.getElem_take, List.getElem_drop]
              rw [show (a' : Int) + i = ((a' + i : Nat) : Int) by omega, rd_lt b (a' + i) (by omega)]
              rfl
            · intro k
              have e6 : ((b.drop a').take (x' + n' - a' + 4)).length = x' + n' - a' + 4 := by simp; omega
              simp only [chartroomref03_Take.l0, hlen, e6, if_neg (show ¬ ((x' + n' - a' + 4 : Nat) : Int) < ((x' + n' - a' + 4 : Nat) : Int) by omega), w64 ((a' : Int) + ((x' + n' - a' + 4 : Nat) : Int)) (by omega) (by omega)]
              congr 3
              simp only [Prod.mk.injEq, and_true]
              omega
      · simp only [if_neg he, if_pos (show e ≠ 0 from he)]
        exact Ev.now _
end Go.Proofs.Ytoeabgeglgiobaa.Q
