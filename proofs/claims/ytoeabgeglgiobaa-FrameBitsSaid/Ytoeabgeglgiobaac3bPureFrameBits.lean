/- With one bit another one no frame of as many bytes stands there: the plain law behind FrameBits. Its conditions: those of the given statement. -/
import Derived.Test.Ytoeabgeglgiobaac3bQKit
import Derived.Test.Ytoeabgeglgiobaac3bQFworks
import Derived.Test.Ytoeabgeglgiobaac3bQFbits
import Derived.Test.Ytoeabgeglgiobaac3bGL03FrameBits1
namespace Go.Proofs.Ytoeabgeglgiobaa.Pure
open Go.RowKit Go.Proofs.Ytoeabgeglgiobaa.P Go.Proofs.Ytoeabgeglgiobaa.Q Go.Proofs.YtoeabgeglgiobaaW.PrintWords Go.Proofs.YtoeabgeglgiobaaW.PrintLast
theorem shl_bit (j : Nat) (h : j < 8) : shl .u8 1 (j : Int) = ((2 ^ j : Nat) : Int) := by
  have key : ∀ i : Fin 8, shl .u8 1 ((i.val : Nat) : Int) = ((2 ^ i.val : Nat) : Int) := by decide +kernel
  exact key ⟨j, h⟩
theorem fbits_ev (kd : Int) (l : List Int) (bit : Int) (h0 : 0 ≤ kd) (h1 : kd < 256) (hb : Bytes l) : Ev (fun k => chartroomlaw03_FrameBits.f k kd l bit) true := by
  unfold chartroomlaw03_FrameBits.f
  by_cases hl : (l.length : Int) > 400
  · simp only [if_pos hl]; exact works03_bind
  · simp only [if_neg hl]
    refine Ev.bind (vput3 kd l (by omega)) ?_
    have hP := frmP_len kd l (by omega)
    have hL := frmL_len kd l
    have hB := frmL_bytes kd l h0 h1 hb (by omega)
    simp only [if_neg (show ¬ l.length > 65535 by omega), if_true, if_neg (show ¬ ((frmL kd l).length : Int) = 0 by omega), w64 (8 * ((frmL kd l).length : Int)) (by omega) (by omega)]
    obtain ⟨j, hj, hj1⟩ := pick_some bit (8 * ((frmL kd l).length : Int)) (by omega) (by omega)
    have d1 : wrap64 (Int.tdiv (j : Int) 8) = ((j / 8 : Nat) : Int) := by rw [Int.tdiv_eq_ediv_of_nonneg (by omega), w64 _ (by omega) (by omega)]; omega
    have d2 : Int.tmod (j : Int) 8 = ((j % 8 : Nat) : Int) := by rw [Int.tmod_eq_emod_of_nonneg (by omega)]; omega
    have hi : j / 8 < (frmL kd l).length := by omega
    have hx := hB _ (List.getElem_mem hi)
    refine Ev.bind (ev_of hj) ?_
    refine Ev.bind (ev_of (own_some (frmL kd l) (by omega))) ?_
    simp only [Option.bind_some, d1, d2, if_pos (show (0 : Int) ≤ ((j / 8 : Nat) : Int) by omega), if_pos (show ((j / 8 : Nat) : Int) < ((frmL kd l).length : Int) by omega), if_pos (show (0 : Int) ≤ ((j % 8 : Nat) : Int) by omega), Int.toNat_natCast, rd_lt _ _ hi, shl_bit (j % 8) (by omega)]
    obtain ⟨x, hxe⟩ := Int.eq_ofNat_of_zero_le hx.1
    have hp : 2 ^ (j % 8) < 256 := by
      have : 2 ^ (j % 8) ≤ 2 ^ 7 := Nat.pow_le_pow_right (by decide) (by omega)
      omega
    have hp0 : 0 < 2 ^ (j % 8) := Nat.pow_pos (by decide)
    have hxl : x ^^^ 2 ^ (j % 8) < 256 := Nat.xor_lt_two_pow (n := 8) (by omega) (by omega)
    rw [hxe, xor8 x _ (by omega) hp]
    have hne : (frmL kd l)[j / 8] ≠ ((x ^^^ 2 ^ (j % 8) : Nat) : Int) := by
      rw [hxe]
      intro q
      have q' : x = x ^^^ 2 ^ (j % 8) := by omega
      have := congrArg (x ^^^ ·) q'
      simp only [← Nat.xor_assoc, Nat.xor_self, Nat.zero_xor] at this
      omega
    have hodd := frm_odd kd l h0 h1 hb (by omega) (j / 8) hi _ ⟨by omega, by omega⟩ hne
    obtain ⟨odd, ho⟩ : ∃ o, o = (frmL kd l).set (j / 8) ((x ^^^ 2 ^ (j % 8) : Nat) : Int) := ⟨_, rfl⟩
    rw [← ho] at hodd ⊢
    have hol : odd.length = (frmL kd l).length := by rw [ho, List.length_set]
    have hoB : Bytes odd := by
      rw [ho]
      intro y hy
      rcases List.mem_or_eq_of_mem_set hy with hy | rfl
      · exact hB y hy
      · exact ⟨by omega, by omega⟩
    refine Ev.bind (vftake odd hoB (by omega) 0) ?_
    refine Ev.bind (vfone odd hoB (by omega)) ?_
    have hfo : (fone odd).2.2 ≠ 0 := by
      unfold fone
      by_cases e : (ftake odd 0).2.2.2 = 0
      · rw [if_pos e]
        have hk := ftake_ok odd hoB 0 e
        have : (ftake odd 0).2.2.1 < odd.length := by
          have : (ftake odd 0).2.2.1 ≠ (frmL kd l).length := fun q => hodd ⟨e, q⟩
          omega
        rw [if_pos this]
        simp
      · rw [if_neg e]; exact e
    by_cases e : (ftake odd 0).2.2.2 = 0
    · have hn : ¬ (ftake odd 0).2.2.1 = ((frmL kd l).length : Int) := fun q => hodd ⟨e, q⟩
      simp only [if_pos e, if_neg hn, if_neg hfo]
      exact works03_bind
    · simp only [if_neg e, if_neg hfo]
      exact works03_bind
theorem FrameBits (kd : Int) (l : List Int) (bit : Int) (hok : (Lit.int .u8 kd).wf = true ∧ l.length ≤ 140737488351232 ∧ ∀ y ∈ l, (Lit.int .u8 y).wf = true) (_hw : (Lit.int .i64 bit).wf = true) : ∃ k, chartroomlaw03_FrameBits.f k kd l bit = some true := by
  have hk := Bytes.of_wf (l := [kd]) (fun x hx => by rw [List.mem_singleton.1 hx]; exact hok.1) kd (by simp)
  exact ev_true (fbits_ev kd l bit hk.1 hk.2 (Bytes.of_wf hok.2.2))
end Go.Proofs.Ytoeabgeglgiobaa.Pure
