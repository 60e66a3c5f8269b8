/- How a frame is written, and taken, by the program and by the reference alike. No condition but the bounds in each theorem. -/
import Derived.Test.Ytoeabgeglgiobaac3pQCrc
import Derived.Test.Ytoeabgeglgiobaac3pGref030
import Derived.Test.Ytoeabgeglgiobaac3pGframe1
namespace Go.Proofs.Ytoeabgeglgiobaa.Q
open Go.RowKit Go.Proofs.YtoeabgeglgiobaaW.PrintWords Go.Proofs.YtoeabgeglgiobaaW.PrintLast Go.Proofs.YtoeabgeglgiobaaW.PrintMore
open Go.Proofs.Ytoeabgeglgiobaa.P
/-- Ahead of the sum. -/
def frmP (kd : Int) (body : List Int) : List Int := kd :: (putL body.length ++ body)
/-- A frame, written. -/
def frmL (kd : Int) (body : List Int) : List Int := frmP kd body ++ sum4 (crcSum (frmP kd body))
theorem sum4_len (s : Int) : (sum4 s).length = 4 := rfl
theorem frmP_len (kd : Int) (body : List Int) (h : body.length < 140737488351240) : (frmP kd body).length = 1 + (putL body.length).length + body.length ∧ (putL body.length).length ≤ 10 := by
  have := putL_len_u64 (n := body.length) (by omega)
  simp [frmP]; omega
theorem frmL_len (kd : Int) (body : List Int) : (frmL kd body).length = (frmP kd body).length + 4 := by simp [frmL, sum4_len]
theorem frmP_bytes (kd : Int) (body : List Int) (h0 : 0 ≤ kd) (h1 : kd < 256) (hb : Bytes body) (h : body.length < 140737488351240) : Bytes (frmP kd body) := by
  intro x hx
  rcases List.mem_cons.1 hx with rfl | hx
  · exact ⟨h0, h1⟩
  · exact ((putL_bytes_u64 (n := body.length) (by omega)).append hb) x hx
theorem vhead (kd : Int) (body : List Int) (h : body.length < 140737488351240) : Ev (fun k => frame_Frame_head.f k kd body) (kd :: putL body.length) := by
  have hp := putL_len_u64 (n := body.length) (by omega)
  unfold frame_Frame_head.f
  simp only [Option.bind_some, wu64 (body.length : Int) (by omega) (by omega)]
  refine Ev.bind (vput _ (by omega) (by omega)) ?_
  simp only [Int.toNat_natCast, List.length_cons, List.length_nil, if_pos (show 0 + 1 + (putL body.length).length < 140737488355328 by omega)]
  exact ev_some rfl
theorem vsize3 (kd : Int) (body : List Int) (h : body.length < 140737488351240) : Ev (fun k => frame_Size.f k kd body) ((frmL kd body).length : Int) := by
  have hp := putL_len_u64 (n := body.length) (by omega)
  unfold frame_Size.f
  refine Ev.bind (vhead kd body h) ?_
  refine ev_some ?_
  rw [w64 (((kd :: putL body.length).length : Int) + body.length) (by simp; omega) (by simp; omega), w64 _ (by simp; omega) (by simp; omega)]
  simp [frmL, frmP, sum4_len]; omega
theorem vbytes (kd : Int) (body : List Int) (h : body.length < 140737488351240) : Ev (fun k => frame_Frame_bytes.f k kd body) (frmL kd body) := by
  have hp := putL_len_u64 (n := body.length) (by omega)
  have hl := frmP_len kd body h
  unfold frame_Frame_bytes.f
  refine Ev.bind (vhead kd body h) ?_
  have e : kd :: putL body.length ++ body = frmP kd body := rfl
  simp only [if_pos (show (kd :: putL body.length).length + body.length < 140737488355328 by simp; omega), Option.bind_some, e, frame_summed.f, if_pos (show (frmP kd body).length + (sum4 (crcSum (frmP kd body))).length < 140737488355328 by rw [sum4_len]; omega)]
  exact ev_some rfl
theorem vput3 (kd : Int) (body : List Int) (h : body.length < 140737488351240) : Ev (fun k => frame_Put.f k kd body) (if body.length > 65535 then ([], 3) else (frmL kd body, 0)) := by
  unfold frame_Put.f
  by_cases q : body.length > 65535
  · simp only [if_pos (show (body.length : Int) > 65535 by omega), if_pos q]; exact ev_some rfl
  · simp only [if_neg (show ¬ (body.length : Int) > 65535 by omega), if_neg q]
    exact Ev.bind (vbytes kd body h) (ev_some rfl)
theorem rbytes (kd : Int) (body : List Int) (h0 : 0 ≤ kd) (h1 : kd < 256) (hb : Bytes body) (h : body.length < 140737488351240) : Ev (fun k => chartroomref03_bytes.f k kd body) (frmL kd body) := by
  have hp := putL_len_u64 (n := body.length) (by omega)
  have hl := frmP_len kd body h
  unfold chartroomref03_bytes.f
  simp only [Option.bind_some, wu64 (body.length : Int) (by omega) (by omega)]
  refine Ev.bind (rput _ (by omega) (by omega)) ?_
  have e : [kd] ++ putL body.length ++ body = frmP kd body := rfl
  simp only [Int.toNat_natCast, List.length_cons, List.length_nil, if_pos (show 0 + 1 + (putL body.length).length < 140737488355328 by omega), if_pos (show ([kd] ++ putL body.length).length + body.length < 140737488355328 by simp; omega), e]
  refine Ev.bind (rsum (frmP kd body) (frmP_bytes kd body h0 h1 hb h) (by omega)) ?_
  have hs := crcSum_bd (frmP kd body)
  obtain ⟨s, hse⟩ : ∃ s, s = crcSum (frmP kd body) := ⟨_, rfl⟩
  rw [← hse] at hs ⊢
  have td : ∀ x : Int, 0 ≤ x → x < 4294967296 → Int.tmod x 256 % 256 = x % 256 ∧ Int.tdiv x 256 % 4294967296 = x / 256 := fun x q0 q1 => by
    rw [Int.tmod_eq_emod_of_nonneg q0, Int.tdiv_eq_ediv_of_nonneg q0]; omega
  have hr : Ev (fun k => chartroomref03_bytes.l0 k (frmP kd body) s 0) (frmP kd body ++ [s % 256] ++ [s / 256 % 256] ++ [s / 256 / 256 % 256] ++ [s / 256 / 256 / 256 % 256]) := by
    refine ev_shift ?_
    simp only [chartroomref03_bytes.l0, if_pos (show (0 : Int) < 4 by decide), if_pos (show (frmP kd body).length < 140737488355328 by omega), (td s hs.1 hs.2).1, (td s hs.1 hs.2).2, w64 (0 + 1) (by decide) (by decide)]
    refine ev_shift ?_
    simp only [chartroomref03_bytes.l0, if_pos (show (0 + 1 : Int) < 4 by decide), if_pos (show (frmP kd body ++ [s % 256]).length < 140737488355328 by simp; omega), (td (s / 256) (by omega) (by omega)).1, (td (s / 256) (by omega) (by omega)).2, w64 (0 + 1 + 1) (by decide) (by decide)]
    refine ev_shift ?_
    simp only [chartroomref03_bytes.l0, if_pos (show (0 + 1 + 1 : Int) < 4 by decide), if_pos (show (frmP kd body ++ [s % 256] ++ [s / 256 % 256]).length < 140737488355328 by simp; omega), (td (s / 256 / 256) (by omega) (by omega)).1, (td (s / 256 / 256) (by omega) (by omega)).2, w64 (0 + 1 + 1 + 1) (by decide) (by decide)]
    refine ev_shift ?_
    simp only [chartroomref03_bytes.l0, if_pos (show (0 + 1 + 1 + 1 : Int) < 4 by decide), if_pos (show (frmP kd body ++ [s % 256] ++ [s / 256 % 256] ++ [s / 256 / 256 % 256]).length < 140737488355328 by simp; omega), (td (s / 256 / 256 / 256) (by omega) (by omega)).1, (td (s / 256 / 256 / 256) (by omega) (by omega)).2, w64 (0 + 1 + 1 + 1 + 1) (by decide) (by decide)]
    refine ev_shift ?_
    simp only [chartroomref03_bytes.l0, if_neg (show ¬ (0 + 1 + 1 + 1 + 1 : Int) < 4 by decide)]
    exact Ev.now _
  refine ev_eq hr ?_
  simp only [List.append_assoc, List.cons_append, List.nil_append, frmL, ← hse]
  have d1 : s / 256 / 256 = s / 65536 := by omega
  have d2 : s / 65536 / 256 = s / 16777216 := by omega
  rw [d1, d2]
  rfl
/-! A frame is taken. -/
end Go.Proofs.Ytoeabgeglgiobaa.Q
