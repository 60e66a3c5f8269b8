/- Payloads put, found, and put behind: by the program and by the reference alike. No condition but the bounds in each theorem. -/
import Derived.Test.Ytoeabgeglgiobaac11kQFjoin
import Derived.Test.Ytoeabgeglgiobaac11kGjournal1
import Derived.Test.Ytoeabgeglgiobaac11kP0
import Derived.Test.Ytoeabgeglgiobaac11kGlaw110
namespace Go.Proofs.Ytoeabgeglgiobaa.Q
open Go.RowKit Go.Proofs.YtoeabgeglgiobaaW.PrintWords Go.Proofs.YtoeabgeglgiobaaW.PrintLast Go.Proofs.YtoeabgeglgiobaaW.PrintMore
open Go.Proofs.Ytoeabgeglgiobaa.P
def nine (p : List Int) : Int × List Int := (9, p)
def Pl (p : List Int) : Prop := Bytes p ∧ p.length ≤ 140737488351232
theorem fr_nine {p : List Int} (h : Pl p) : Fr (nine p) := ⟨show (0 : Int) ≤ 9 by decide, show (9 : Int) < 256 by decide, h.1, h.2⟩
def jput (L : List (List Int)) : List Int × Int := jn [] (L.map nine)
theorem rdL2 (L : List (List Int)) (i : Nat) (h : i < L.length) : rd_L2 L (i : Int) = L[i] := by simp [rd_L2, List.getD, h]
theorem vjput_l0 (L : List (List Int)) (hl : L.length ≤ 1000) (hb : ∀ p ∈ L, Pl p) : ∀ (d i : Nat), i + d = L.length →
    Ev (fun k => journal_Put.l0 k (((L.take i).map nine).map mk46) L (L.length : Int) (i : Int)) (jput L) := by
  intro d
  induction d with
  | zero =>
    intro i h
    refine ev_shift ?_
    simp only [journal_Put.l0, if_neg (show ¬ (i : Int) < L.length by omega)]
    rw [List.take_of_length_le (by omega)]
    refine Ev.bind (vjoin (L.map nine) (by rw [List.length_map]; exact hl) (fun p hp => ?_)) (Ev.now _)
    obtain ⟨q, hq, rfl⟩ := List.mem_map.1 hp
    exact fr_nine (hb q hq)
  | succ d ih =>
    intro i h
    have hi : i < L.length := by omega
    refine ev_shift ?_
    simp only [journal_Put.l0, if_pos (show (i : Int) < L.length by omega), if_pos (show (0 : Int) ≤ i by omega), rdL2 L i hi, List.length_map, if_pos (show (L.take i).length < 4398046511104 by simp; omega), w64 ((i : Int) + 1) (by omega) (by omega)]
    have := ih (i + 1) (by omega)
    rw [take_snoc L i hi, List.map_append, List.map_append] at this
    exact this
theorem vjput (L : List (List Int)) (hl : L.length ≤ 1000) (hb : ∀ p ∈ L, Pl p) : Ev (fun k => journal_Put.f k L) (jput L) := by
  unfold journal_Put.f
  exact vjput_l0 L hl hb L.length 0 (by omega)
/-! The frames ahead. -/
theorem cutL (l : List Int) (i n : Nat) : l.drop i = (l.drop i).take n ++ l.drop (i + n) := by
  have h := (List.take_append_drop n (l.drop i)).symm
  rw [List.drop_drop] at h
  exact h
theorem ftake_back (b : List Int) (hb : Bytes b) (a : Nat) (h : (ftake b (a : Int)).2.2.2 = 0) : ∃ n : Nat, (ftake b (a : Int)).2.2.1 = (n : Int) ∧ b.drop a = frmL (ftake b (a : Int)).1 (ftake b (a : Int)).2.1 ++ b.drop n ∧ a + (frmL (ftake b (a : Int)).1 (ftake b (a : Int)).2.1).length = n := by
  have hok := ftake_ok b hb a h
  unfold ftake at h hok ⊢
  by_cases h0 : (a : Int) < 0 ∨ (b.length : Int) ≤ (a : Int)
  · rw [if_pos h0] at h; exact absurd h (by simp)
  · rw [if_neg h0] at h hok ⊢
    by_cases h1 : (Q.take b ((a : Int) + 1)).2.2 ≠ 0
    · rw [if_pos h1] at h; exact absurd h h1
    · have bd := take_bd b hb _ (show (Q.take b ((a : Int) + 1)).2.2 = 0 by omega)
      rw [if_neg h1] at h hok ⊢
      by_cases h2 : (Q.take b ((a : Int) + 1)).1 > 65535
      · rw [if_pos h2] at h; exact absurd h (by simp)
      · rw [if_neg h2] at h hok ⊢
        by_cases h3 : (b.length : Int) < (Q.take b ((a : Int) + 1)).2.1 + (Q.take b ((a : Int) + 1)).1 + 4
        · rw [if_pos h3] at h; exact absurd h (by simp)
        · rw [if_neg h3] at h hok ⊢
          obtain ⟨n, hn⟩ : ∃ n : Nat, (Q.take b ((a : Int) + 1)).1 = (n : Int) := ⟨(Q.take b ((a : Int) + 1)).1.toNat, by omega⟩
          obtain ⟨x, hx⟩ : ∃ x : Nat, (Q.take b ((a : Int) + 1)).2.1 = (x : Int) := ⟨(Q.take b ((a : Int) + 1)).2.1.toNat, by omega⟩
          have ht : Q.take b ((a : Int) + 1) = ((n : Int), (x : Int), 0) := Prod.ext hn (Prod.ext hx (by simp only; omega))
          rw [hn, hx] at h h3 hok ⊢
          rw [hx] at bd
          have e1 : ((x : Int) + (n : Int)).toNat = x + n := by omega
          rw [e1, Int.toNat_natCast, Int.toNat_natCast] at h hok ⊢
          split
          · rename_i h4
            have hf := frm_at b hb a x n ht (by omega) (by omega)
            refine ⟨x + n + 4, by simp only; omega, ?_, ?_⟩
            · simp only
              rw [frmL, hf, ← h4, List.append_assoc, ← cutL b (x + n) 4, List.drop_take]
              have := cutL b a (x + n - a)
              rw [show a + (x + n - a) = x + n by omega] at this
              exact this
            · simp only
              rw [frmL_len, hf, List.length_drop, List.length_take]
              omega
          · rename_i h4
            rw [if_neg h4] at h; exact absurd h (by simp)
theorem jnx_back (b : List Int) (hb : Bytes b) (a : Nat) (h : (jnx b (a : Int)).2.2 = 0) : ∃ n : Nat, (jnx b (a : Int)).2.1 = (n : Int) ∧ a < n ∧ n ≤ b.length ∧ b.drop a = frmL 9 (jnx b (a : Int)).1 ++ b.drop n ∧ a + (frmL 9 (jnx b (a : Int)).1).length = n ∧ (jnx b (a : Int)).1.length ≤ 65535 ∧ Bytes (jnx b (a : Int)).1 := by
  have hok := jnx_ok b hb a h
  have hl := ftake_len b hb a
  unfold jnx at h hok ⊢
  by_cases h1 : (ftake b (a : Int)).2.2.2 = 0
  · rw [if_pos h1] at h hok ⊢
    by_cases h2 : (ftake b (a : Int)).1 = 9
    · rw [if_pos h2] at hok ⊢
      obtain ⟨n, e1, e2, e3⟩ := ftake_back b hb a h1
      rw [h2] at e2 e3
      simp only at hok ⊢
      refine ⟨n, e1, by omega, by omega, e2, e3, hl, ?_⟩
      intro z hz
      have : z ∈ b.drop a := by
        rw [e2]
        refine List.mem_append.2 (.inl ?_)
        unfold frmL frmP
        simp [hz]
      exact hb z (List.mem_of_mem_drop this)
    · rw [if_neg h2] at h; exact absurd h (by simp)
  · rw [if_neg h1] at h; exact absurd h h1
def pays (l : List (Int × List Int)) : List (List Int) := l.map (·.2)
theorem jall_facts (b : List Int) (hb : Bytes b) : ∀ (m a : Nat), a ≤ b.length → b.length - a < m → ∃ E : Nat, ((jall b m (a : Int)).map (·.1)).getLastD (a : Int) = (E : Int) ∧ a ≤ E ∧ E ≤ b.length ∧
    joinL ((pays (jall b m (a : Int))).map nine) = (b.drop a).take (E - a) ∧ (∀ p ∈ pays (jall b m (a : Int)), p.length ≤ 65535 ∧ Bytes p) ∧ (jall b m (a : Int)).length + a ≤ b.length := by
  intro m
  induction m with
  | zero => intro a h1 h2; omega
  | succ m ih =>
    intro a h1 h2
    rw [jall]
    by_cases h : (jnx b (a : Int)).2.2 = 0
    · obtain ⟨n, e1, e2, e3, e4, e5, e6, e7⟩ := jnx_back b hb a h
      rw [if_pos h, e1]
      obtain ⟨E, f1, f2, f3, f4, f5, f6⟩ := ih n e3 (by omega)
      refine ⟨E, ?_, by omega, f3, ?_, ?_, by simp only [List.length_cons]; omega⟩
      · rw [List.map_cons, List.getLastD_cons]
        exact f1
      · have : (pays ((((n : Int)), (jnx b (a : Int)).1) :: jall b m (n : Int))).map nine = nine (jnx b (a : Int)).1 :: (pays (jall b m (n : Int))).map nine := rfl
        rw [this, joinL_cons, f4, e4]
        show frmL 9 (jnx b (a : Int)).1 ++ _ = _
        rw [List.take_append, show (frmL 9 (jnx b (a : Int)).1).take (E - a) = frmL 9 (jnx b (a : Int)).1 from List.take_of_length_le (by omega), show E - a - (frmL 9 (jnx b (a : Int)).1).length = E - n by omega]
      · intro p hp
        rcases List.mem_cons.1 hp with rfl | hp
        · exact ⟨e6, e7⟩
        · exact f5 p hp
    · rw [if_neg h]
      exact ⟨a, by simp, Nat.le_refl _, h1, by simp [pays, joinL], by simp [pays], by simpa using h1⟩
theorem vcut (b : List Int) (hb : Bytes b) (hs : b.length ≤ 1000000) {E : Nat} (he : wholeD b = (E : Int)) (hE : E ≤ b.length) : journal_Cut.f b = some (b.take E) := by
  unfold journal_Cut.f journal_Whole.f
  rw [if_pos ⟨hs, hb⟩, he]
  simp only [Option.bind_some, if_pos (show (0 : Int) ≤ E by omega), if_pos (show (E : Int) ≤ b.length by omega), Int.toNat_natCast, slices_Clone_byte_byte.f, if_pos (show (b.take E).length < 140737488355328 by rw [List.length_take]; omega)]
end Go.Proofs.Ytoeabgeglgiobaa.Q
