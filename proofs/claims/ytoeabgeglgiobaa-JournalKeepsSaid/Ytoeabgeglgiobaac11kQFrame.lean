/- How a frame is written, and taken, by the program and by the reference alike. No condition but the bounds in each theorem. -/
import Derived.Test.Ytoeabgeglgiobaac11kQVback
import Derived.Test.Ytoeabgeglgiobaac11kP0
import Derived.Test.Ytoeabgeglgiobaac11kHcrc
import Derived.Test.Ytoeabgeglgiobaac11kGframe1
namespace Go.Proofs.Ytoeabgeglgiobaa.Q
open Go.RowKit Go.Proofs.YtoeabgeglgiobaaW.PrintWords Go.Proofs.YtoeabgeglgiobaaW.PrintLast Go.Proofs.YtoeabgeglgiobaaW.PrintMore
open Go.Proofs.Ytoeabgeglgiobaa.P
/-- Ahead of the sum. -/
def frmP (kd : Int) (body : List Int) : List Int := kd :: (putL body.length ++ body)
/-- A frame, written. -/
def frmL (kd : Int) (body : List Int) : List Int := frmP kd body ++ sum4 (crcSum (frmP kd body))
theorem sum4_len (s : Int) : (sum4 s).length = 4 := rfl
theorem frmP_len (kd : Int) (body : List Int) (h : body.length < 140737488351240) : (frmP kd body).length = 1 + (putL body.length).length + body.length ∧ (putL body.length).length ≤ 10 := by
  have := putL_len_u64 (n := body.length) (by omega)
  simp [frmP]; omega
theorem frmL_len (kd : Int) (body : List Int) : (frmL kd body).length = (frmP kd body).length + 4 := by simp [frmL, sum4_len]
theorem frmP_bytes (kd : Int) (body : List Int) (h0 : 0 ≤ kd) (h1 : kd < 256) (hb : Bytes body) (h : body.length < 140737488351240) : Bytes (frmP kd body) := by
  intro x hx
  rcases List.mem_cons.1 hx with rfl | hx
  · exact ⟨h0, h1⟩
  · exact ((putL_bytes_u64 (n := body.length) (by omega)).append hb) x hx
theorem sum4_bytes (s : Int) : Bytes (sum4 s) := by
  intro x hx
  simp only [sum4, List.mem_cons, List.not_mem_nil, or_false] at hx
  omega
theorem frmL_bytes (kd : Int) (body : List Int) (h0 : 0 ≤ kd) (h1 : kd < 256) (hb : Bytes body) (h : body.length < 140737488351240) : Bytes (frmL kd body) :=
  (frmP_bytes kd body h0 h1 hb h).append (sum4_bytes _)
theorem vhead (kd : Int) (body : List Int) (h : body.length < 140737488351240) : Ev (fun k => frame_Frame_head.f k kd body) (kd :: putL body.length) := by
  have hp := putL_len_u64 (n := body.length) (by omega)
  unfold frame_Frame_head.f
  simp only [Option.bind_some, wu64 (body.length : Int) (by omega) (by omega)]
  refine Ev.bind (vput _ (by omega) (by omega)) ?_
  simp only [Int.toNat_natCast, List.length_cons, List.length_nil, if_pos (show 0 + 1 + (putL body.length).length < 140737488355328 by omega)]
  exact ev_some rfl
theorem vbytes (kd : Int) (body : List Int) (h : body.length < 140737488351240) : Ev (fun k => frame_Frame_bytes.f k kd body) (frmL kd body) := by
  have hp := putL_len_u64 (n := body.length) (by omega)
  have hl := frmP_len kd body h
  unfold frame_Frame_bytes.f
  refine Ev.bind (vhead kd body h) ?_
  have e : kd :: putL body.length ++ body = frmP kd body := rfl
  simp only [if_pos (show (kd :: putL body.length).length + body.length < 140737488355328 by simp; omega), Option.bind_some, e, frame_summed.f, if_pos (show (frmP kd body).length + (sum4 (crcSum (frmP kd body))).length < 140737488355328 by rw [sum4_len]; omega)]
  exact ev_some rfl
theorem vput3 (kd : Int) (body : List Int) (h : body.length < 140737488351240) : Ev (fun k => frame_Put.f k kd body) (if body.length > 65535 then ([], 3) else (frmL kd body, 0)) := by
  unfold frame_Put.f
  by_cases q : body.length > 65535
  · simp only [if_pos (show (body.length : Int) > 65535 by omega), if_pos q]; exact ev_some rfl
  · simp only [if_neg (show ¬ (body.length : Int) > 65535 by omega), if_neg q]
    exact Ev.bind (vbytes kd body h) (ev_some rfl)
/-! A frame is taken. -/
def ftake (b : List Int) (a : Int) : Int × List Int × Int × Int :=
  if a < 0 ∨ (b.length : Int) ≤ a then (0, [], a, 10) else
  if (Q.take b (a + 1)).2.2 ≠ 0 then (0, [], a, (Q.take b (a + 1)).2.2) else
  if (Q.take b (a + 1)).1 > 65535 then (0, [], a, 3) else
  if (b.length : Int) < (Q.take b (a + 1)).2.1 + (Q.take b (a + 1)).1 + 4 then (0, [], a, 10) else
  if (b.drop ((Q.take b (a + 1)).2.1 + (Q.take b (a + 1)).1).toNat).take 4 = sum4 (crcSum ((b.take ((Q.take b (a + 1)).2.1 + (Q.take b (a + 1)).1).toNat).drop a.toNat)) then
    (rd b a, (b.take ((Q.take b (a + 1)).2.1 + (Q.take b (a + 1)).1).toNat).drop (Q.take b (a + 1)).2.1.toNat, (Q.take b (a + 1)).2.1 + (Q.take b (a + 1)).1 + 4, 0)
  else (0, [], a, 30)
theorem sEqual (xs ys : List Int) (hx : xs.length ≤ 140737488355328) : Ev (fun k => slices_Equal_byte_byte.f k xs ys) (decide (xs = ys)) := by
  unfold slices_Equal_byte_byte.f
  by_cases hl : xs.length = ys.length
  · simp only [if_pos (show (xs.length : Int) = ys.length by omega)]
    refine same_loop xs ys hl (fun k i => slices_Equal_byte_byte.l0 k xs ys (xs.length : Int) i) ?_ ?_ xs.length 0 (by omega)
    · intro k i h h'
      simp only [slices_Equal_byte_byte.l0, if_pos (show (i : Int) < xs.length by omega), if_pos (show (0 : Int) ≤ i by omega), if_pos (show (i : Int) < ys.length by omega), rd_lt xs i h, rd_lt ys i h', w64 ((i : Int) + 1) (by omega) (by omega)]
      rfl
    · intro k
      simp only [slices_Equal_byte_byte.l0, if_neg (show ¬ (xs.length : Int) < xs.length by omega)]
  · simp only [if_neg (show ¬ (xs.length : Int) = ys.length by omega)]
    refine ev_some ?_
    symm
    simp only [decide_eq_false_iff_not]
    exact fun h => hl (by rw [h])
theorem mid_len (b : List Int) (lo hi : Nat) (h : hi ≤ b.length) : ((b.take hi).drop lo).length = hi - lo := by simp; omega
theorem drop_take4 (b : List Int) (e : Nat) : (b.take (e + 4)).drop e = (b.drop e).take 4 := by
  rw [List.drop_take]; congr 1; omega
theorem vftake (b : List Int) (hb : Bytes b) (hs : b.length ≤ 1000000) (a : Int) : Ev (fun k => frame_Take.f k b a) (ftake b a) := by
  unfold frame_Take.f ftake
  by_cases h0 : a < 0
  · simp only [if_pos h0, if_pos (show a < 0 ∨ (b.length : Int) ≤ a from .inl h0)]
    refine ev_shift ?_
    simp only [frame_Take.j0, if_true]; exact Ev.now _
  · by_cases h1 : (b.length : Int) ≤ a
    · simp only [if_neg h0, decide_eq_true (show a ≥ (b.length : Int) from h1), if_pos (show a < 0 ∨ (b.length : Int) ≤ a from .inr h1)]
      refine ev_shift ?_
      simp only [frame_Take.j0, if_true]; exact Ev.now _
    · simp only [if_neg h0, decide_eq_false (show ¬ a ≥ (b.length : Int) from h1), if_neg (show ¬ (a < 0 ∨ (b.length : Int) ≤ a) from fun h => h.elim h0 h1)]
      refine ev_shift ?_
      simp only [frame_Take.j0, if_neg (show ¬ (false = true) by decide), w64 (a + 1) (by omega) (by omega)]
      refine Ev.bind (vtake b hb (by omega) (a + 1)) ?_
      have bd := take_bd b hb (a + 1)
      obtain ⟨T, hT⟩ : ∃ T, T = Q.take b (a + 1) := ⟨_, rfl⟩
      rw [← hT] at bd ⊢
      obtain ⟨n, next, e⟩ := T
      simp only at bd ⊢
      by_cases he : e = 0
      · obtain ⟨b0, b1, b2, b3, b4, b5⟩ := bd he
        simp only [if_pos he, if_neg (show ¬ e ≠ 0 from fun q => q he)]
        by_cases hn : n > 65535
        · simp only [if_pos hn]; exact Ev.now _
        · have w1 : wrap64 n = n := w64 n (by omega) (by omega)
          have w2 : wrap64 (next + n) = next + n := w64 _ (by omega) (by omega)
          have w3 : wrap64 (n + 4) = n + 4 := w64 _ (by omega) (by omega)
          have w4 : wrap64 ((b.length : Int) - next) = b.length - next := w64 _ (by omega) (by omega)
          have w5 : wrap64 (next + n + 4) = next + n + 4 := w64 _ (by omega) (by omega)
          simp only [if_neg hn, w1, w2, w3, w4, w5]
          by_cases hl : (b.length : Int) < next + n + 4
          · simp only [if_pos hl, if_pos (show (b.length : Int) - next < n + 4 by omega)]; exact Ev.now _
          · obtain ⟨n', rfl⟩ : ∃ m : Nat, n = (m : Int) := ⟨n.toNat, by omega⟩
            obtain ⟨x', rfl⟩ : ∃ m : Nat, next = (m : Int) := ⟨next.toNat, by omega⟩
            obtain ⟨a', rfl⟩ : ∃ m : Nat, a = (m : Int) := ⟨a.toNat, by omega⟩
            have t1 : ((x' : Int) + n').toNat = x' + n' := by omega
            have t2 : ((x' : Int) + n' + 4).toNat = x' + n' + 4 := by omega
            have l1 := mid_len b (x' + n') (x' + n' + 4) (by omega)
            have l2 := mid_len b x' (x' + n') (by omega)
            simp only [if_neg hl, if_neg (show ¬ (b.length : Int) - x' < n' + 4 by omega), if_pos (show (0 : Int) ≤ x' + n' by omega), if_pos (show (x' : Int) + n' ≤ x' + n' + 4 by omega), if_pos (show (x' : Int) + n' + 4 ≤ b.length by omega), if_pos (show (0 : Int) ≤ a' by omega), if_pos (show (a' : Int) ≤ x' + n' by omega), if_pos (show (x' : Int) + n' ≤ b.length by omega), frame_summed.f, Option.bind_some, t1, t2, Int.toNat_natCast]
            refine Ev.bind (sEqual _ _ (by omega)) ?_
            rw [drop_take4]
            by_cases hq : (b.drop (x' + n')).take 4 = sum4 (crcSum ((b.take (x' + n')).drop a'))
            · simp only [decide_eq_true hq, if_true, if_pos hq, if_pos (show (a' : Int) < b.length by omega), if_pos (show (0 : Int) ≤ x' by omega), if_pos (show (x' : Int) ≤ x' + n' by omega), slices_Clone_byte_byte.f, if_pos (show ((b.take (x' + n')).drop x').length < 140737488355328 by omega), Option.bind_some]
              exact Ev.now _
            · simp only [decide_eq_false hq, if_neg (show ¬ (false = true) by decide), if_neg hq]
              exact Ev.now _
      · simp only [if_neg he, if_pos (show e ≠ 0 from he)]
        exact Ev.now _
end Go.Proofs.Ytoeabgeglgiobaa.Q
