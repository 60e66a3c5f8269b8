/- Payloads that stand one behind another: each is found at its place, whatever stands behind, and whatever is cut off behind. No condition but the bounds in each theorem. -/
import Derived.Test.Ytoeabgeglgiobaac11kQJour
import Derived.Test.Ytoeabgeglgiobaac11kHjournalAll
namespace Go.Proofs.Ytoeabgeglgiobaa.Q
open Go.RowKit Go.Proofs.YtoeabgeglgiobaaW.PrintWords Go.Proofs.YtoeabgeglgiobaaW.PrintLast Go.Proofs.YtoeabgeglgiobaaW.PrintMore
open Go.Proofs.Ytoeabgeglgiobaa.P
def jl (L : List (List Int)) : List Int := joinL (L.map nine)
theorem jl_cons (p : List Int) (L : List (List Int)) : jl (p :: L) = frmL 9 p ++ jl L := rfl
theorem jl_append (L M : List (List Int)) : jl (L ++ M) = jl L ++ jl M := by unfold jl; rw [List.map_append, joinL_append]
theorem jl_snoc (L : List (List Int)) (p : List Int) : jl (L ++ [p]) = jl L ++ frmL 9 p := by rw [jl_append]; simp [jl, joinL, nine]
theorem jl_bytes (L : List (List Int)) (h : ∀ p ∈ L, Pl p) : Bytes (jl L) := joinL_bytes _ (fun q hq => by
  obtain ⟨z, hz, rfl⟩ := List.mem_map.1 hq
  exact fr_nine (h z hz))
def jx : Nat → List (List Int) → List (Int × List Int)
  | _, [] => []
  | a, p :: l => (((a + (frmL 9 p).length : Nat) : Int), p) :: jx (a + (frmL 9 p).length) l
theorem jx_pays : ∀ (L : List (List Int)) (a : Nat), (jx a L).map (·.2) = L
  | [], _ => rfl
  | p :: l, a => by rw [jx, List.map_cons, jx_pays l]
theorem jx_last : ∀ (L : List (List Int)) (a : Nat), ((jx a L).map (·.1)).getLastD (a : Int) = ((a + (jl L).length : Nat) : Int)
  | [], a => by simp [jx, jl, joinL]
  | p :: l, a => by
    rw [jx, List.map_cons, List.getLastD_cons, jx_last l, jl_cons, List.length_append]
    omega
theorem jnx_put (pre post : List Int) (p : List Int) (h : p.length ≤ 65535) : jnx (pre ++ (frmL 9 p ++ post)) (pre.length : Int) = (p, ((pre.length + (frmL 9 p).length : Nat) : Int), 0) := by
  unfold jnx
  rw [ftake_put pre post 9 p h]
  simp
theorem jall_jx (tail : List Int) : ∀ (L : List (List Int)) (pre : List Int) (m : Nat), (∀ p ∈ L, p.length ≤ 65535) →
    jall (pre ++ (jl L ++ tail)) (L.length + m) (pre.length : Int) = jx pre.length L ++ jall (pre ++ (jl L ++ tail)) m ((pre.length + (jl L).length : Nat) : Int) := by
  intro L
  induction L with
  | nil => intro pre m _; simp [jx, jl, joinL]
  | cons p L ih =>
    intro pre m h
    have e2 : pre ++ (jl (p :: L) ++ tail) = (pre ++ frmL 9 p) ++ (jl L ++ tail) := by rw [jl_cons]; simp only [List.append_assoc]
    have ej := jnx_put pre (jl L ++ tail) p (h p (by simp))
    rw [← List.append_assoc, ← List.append_assoc, List.append_assoc pre] at ej
    have hb : pre ++ (jl (p :: L) ++ tail) = pre ++ frmL 9 p ++ (jl L ++ tail) := e2
    rw [List.length_cons, show L.length + 1 + m = (L.length + m) + 1 by omega, jall, hb]
    have ej2 : jnx (pre ++ frmL 9 p ++ (jl L ++ tail)) (pre.length : Int) = (p, ((pre.length + (frmL 9 p).length : Nat) : Int), 0) := by
      have := jnx_put pre (jl L ++ tail) p (h p (by simp))
      rw [← List.append_assoc] at this
      exact this
    rw [ej2, if_pos rfl]
    simp only
    have := ih (pre ++ frmL 9 p) m (fun q hq => h q (List.mem_cons_of_mem _ hq))
    rw [List.length_append] at this
    rw [this, jx, jl_cons, List.length_append]
    simp only [List.cons_append, Nat.add_assoc]
theorem jall_err (b : List Int) (m : Nat) (a : Int) (h : (jnx b a).2.2 ≠ 0) : jall b m a = [] := by
  cases m with
  | zero => rfl
  | succ m => rw [jall, if_neg h]
theorem jnx_err {b : List Int} {a : Int} (h : (ftake b a).2.2.2 ≠ 0) : (jnx b a).2.2 ≠ 0 := by
  unfold jnx
  rw [if_neg h]
  exact h
theorem jl_len (L : List (List Int)) : L.length ≤ (jl L).length := by
  induction L with
  | nil => simp
  | cons p L ih =>
    rw [jl_cons, List.length_append, List.length_cons]
    have : 1 ≤ (frmL 9 p).length := by rw [frmL_len]; omega
    omega
/-- All of a segment with a tail that begins with no payload. -/
theorem all_torn (L : List (List Int)) (tail : List Int) (h : ∀ p ∈ L, p.length ≤ 65535) (hz : (jnx (jl L ++ tail) (((jl L).length : Nat) : Int)).2.2 ≠ 0) : jall (jl L ++ tail) ((jl L ++ tail).length + 1) 0 = jx 0 L := by
  have hl := jl_len L
  have := jall_jx tail L [] ((jl L ++ tail).length + 1 - L.length) h
  rw [show L.length + ((jl L ++ tail).length + 1 - L.length) = (jl L ++ tail).length + 1 by rw [List.length_append]; omega] at this
  simp only [List.nil_append, List.length_nil, Nat.zero_add] at this
  rw [jall_err _ _ _ hz, List.append_nil] at this
  exact this
theorem whole_torn (L : List (List Int)) (tail : List Int) (h : ∀ p ∈ L, p.length ≤ 65535) (hz : (jnx (jl L ++ tail) (((jl L).length : Nat) : Int)).2.2 ≠ 0) : wholeD (jl L ++ tail) = (((jl L).length : Nat) : Int) := by
  unfold wholeD
  rw [all_torn L tail h hz]
  have := jx_last L 0
  rw [Nat.zero_add] at this
  exact this
theorem whole_ge (L : List (List Int)) (tail : List Int) (h : ∀ p ∈ L, p.length ≤ 65535) (hb : Bytes (jl L ++ tail)) : (((jl L).length : Nat) : Int) ≤ wholeD (jl L ++ tail) := by
  have hl := jl_len L
  have := jall_jx tail L [] ((jl L ++ tail).length + 1 - L.length) h
  rw [show L.length + ((jl L ++ tail).length + 1 - L.length) = (jl L ++ tail).length + 1 by rw [List.length_append]; omega] at this
  simp only [List.nil_append, List.length_nil, Nat.zero_add] at this
  obtain ⟨E, f1, f2, _⟩ := jall_facts (jl L ++ tail) hb ((jl L ++ tail).length + 1 - L.length) (jl L).length (by rw [List.length_append]; omega) (by rw [List.length_append]; omega)
  unfold wholeD
  have e0 : jall (jl L ++ tail) ((jl L ++ tail).length + 1) 0 = jall (jl L ++ tail) ((jl L ++ tail).length + 1) ((0 : Nat) : Int) := rfl
  rw [e0, this, List.map_append]
  have key : ∀ (A B : List Int) (d : Int), (A ++ B).getLastD d = B.getLastD (A.getLastD d) := by
    intro A
    induction A with
    | nil => intro B d; rfl
    | cons x A ih => intro B d; rw [List.cons_append, List.getLastD_cons, List.getLastD_cons, ih]
  have hj := jx_last L 0
  rw [Nat.zero_add] at hj
  have hj' : ((jx 0 L).map (·.1)).getLastD 0 = (((jl L).length : Nat) : Int) := hj
  rw [key, hj', f1]
  omega
theorem jnx_end (b : List Int) (a : Nat) (h : b.length ≤ a) : (jnx b (a : Int)).2.2 ≠ 0 := by
  refine jnx_err ?_
  unfold ftake
  rw [if_pos (.inr (by omega))]
  simp
/-- A segment that is cut. -/
theorem cut_split : ∀ (L : List (List Int)) (n : Nat), n ≤ (jl L).length → ∃ w t, w ≤ L.length ∧ (jl L).take n = jl (L.take w) ++ t ∧ (jl (L.take w)).length ≤ n ∧ (∀ i, i < L.length → ((jl (L.take (i + 1))).length ≤ n ↔ i < w)) ∧
    (t = [] ∨ ∃ (h : w < L.length) (m : Nat), m < (frmL 9 L[w]).length ∧ t = (frmL 9 L[w]).take m) := by
  intro L
  induction L with
  | nil => intro n h; exact ⟨0, [], Nat.le_refl _, by simp [jl, joinL], by simp [jl, joinL], by simp, .inl rfl⟩
  | cons p L ih =>
    intro n h
    rw [jl_cons, List.length_append] at h
    by_cases hn : (frmL 9 p).length ≤ n
    · obtain ⟨w, t, h1, h2, h3, h4, h5⟩ := ih (n - (frmL 9 p).length) (by omega)
      refine ⟨w + 1, t, by simp only [List.length_cons]; omega, ?_, ?_, ?_, ?_⟩
      · rw [jl_cons, List.take_append, List.take_of_length_le hn, h2, List.take_succ_cons, jl_cons, List.append_assoc]
      · rw [List.take_succ_cons, jl_cons, List.length_append]; omega
      · intro i hi
        cases i with
        | zero =>
          rw [List.take_succ_cons, List.take_zero, jl_cons, List.length_append]
          simp only [jl, List.map_nil, joinL, List.flatMap_nil, List.length_nil]
          omega
        | succ i =>
          have := h4 i (by simpa using hi)
          rw [List.take_succ_cons, jl_cons, List.length_append]
          omega
      · rcases h5 with h5 | ⟨h5, m, h6, h7⟩
        · exact .inl h5
        · exact .inr ⟨by simp only [List.length_cons]; omega, m, by simpa using h6, by simpa using h7⟩
    · refine ⟨0, (frmL 9 p).take n, Nat.zero_le _, ?_, by simp [jl, joinL], ?_, .inr ⟨by simp, n, by simp only [List.getElem_cons_zero]; omega, by simp⟩⟩
      · rw [jl_cons, List.take_append, show n - (frmL 9 p).length = 0 by omega]
        simp [jl, joinL]
      · intro i hi
        rw [List.take_succ_cons, jl_cons, List.length_append]
        omega
/-- Behind what is whole of a cut segment no payload stands. -/
theorem cut_err (L : List (List Int)) (hL : ∀ p ∈ L, Pl p ∧ p.length ≤ 65535) (w : Nat) (t : List Int) (ht : t = [] ∨ ∃ (h : w < L.length) (m : Nat), m < (frmL 9 L[w]).length ∧ t = (frmL 9 L[w]).take m) : (jnx (jl (L.take w) ++ t) (((jl (L.take w)).length : Nat) : Int)).2.2 ≠ 0 := by
  rcases ht with rfl | ⟨h, m, hm, rfl⟩
  · rw [List.append_nil]
    exact jnx_end _ _ (Nat.le_refl _)
  · have hp := hL _ (List.getElem_mem h)
    exact jnx_err (ftake_cut (jl (L.take w)) (jl_bytes _ (fun p hp => (hL p (List.mem_of_mem_take hp)).1)) 9 L[w] (by decide) (by decide) hp.1.1 hp.2 m hm)
end Go.Proofs.Ytoeabgeglgiobaa.Q
