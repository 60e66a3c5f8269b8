/- The normal form of edits, as the program makes it. No condition but the bounds in each theorem. -/
import Derived.Test.Ytoeabgeglgiobaac5bQDsum
namespace Go.Proofs.Ytoeabgeglgiobaa.Q
open Go.RowKit Go.Proofs.YtoeabgeglgiobaaW.PrintWords Go.Proofs.YtoeabgeglgiobaaW.PrintLast Go.Proofs.YtoeabgeglgiobaaW.PrintMore
open Go.Proofs.Ytoeabgeglgiobaa.P
theorem runEdits (s : ByteArray) (n : Int) : delta_run_edits.f s n = some ((runE s n).map mk153) := by
  unfold delta_run_edits.f runE
  by_cases hs : s.toList = ([] : List UInt8)
  · have hs0 : s.size = 0 := (toList_nil s).1 hs
    rw [if_pos hs, if_pos hs0]
    by_cases hn : n > 0
    · rw [if_pos hn, if_pos (show (0 : Int) < n by omega), if_pos (by decide)]; rfl
    · rw [if_neg hn, if_neg (show ¬ (0 : Int) < n by omega)]; rfl
  · have hs0 : ¬ s.size = 0 := fun z => hs ((toList_nil s).2 z)
    rw [if_neg hs, if_neg hs0, if_pos (by decide)]
    simp only [Option.bind_some]
    by_cases hn : n > 0
    · rw [if_pos hn, if_pos (show (0 : Int) < n by omega), if_pos (by simp)]; rfl
    · rw [if_neg hn, if_neg (show ¬ (0 : Int) < n by omega)]; rfl
theorem runE_len (s : ByteArray) (n : Int) : (runE s n).length ≤ 2 := by
  unfold runE
  split <;> split <;> simp
theorem totN_append : ∀ (a b : List Ed), totN (a ++ b) = totN a + totN b
  | [], b => by simp [totN]
  | x :: a, b => by simp only [List.cons_append, totN, totN_append a b]; omega
theorem totS_append : ∀ (a b : List Ed), totS (a ++ b) = totS a + totS b
  | [], b => by simp [totS]
  | x :: a, b => by simp only [List.cons_append, totS, totS_append a b]; omega
theorem runE_tot (s : ByteArray) (n : Int) (hn : 0 ≤ n) : totN (runE s n) = n ∧ totS (runE s n) = s.size := by
  unfold runE
  by_cases hs : s.size = 0
  · rw [if_pos hs]
    by_cases h : 0 < n
    · rw [if_pos h]; simp [totN, totS, emptyS_size, hs]
    · rw [if_neg h]; simp only [List.append_nil, totN, totS]; omega
  · rw [if_neg hs]
    by_cases h : 0 < n
    · rw [if_pos h]; simp [totN, totS, emptyS_size]
    · rw [if_neg h]; simp only [List.append_nil, totN, totS]; omega
theorem runE_wr (s : ByteArray) (n : Int) : ∀ x ∈ runE s n, Wr x := by
  intro x hx
  unfold runE at hx
  rcases List.mem_append.1 hx with hx | hx
  · split at hx
    · simp at hx
    · rename_i h
      rw [List.mem_singleton.1 hx]
      exact .inr ⟨rfl, rfl, h⟩
  · split at hx
    · rename_i h
      rw [List.mem_singleton.1 hx]
      exact .inl ⟨.inr rfl, h, rfl⟩
    · simp at hx
/-- What holds of the walk's state behind some edits. -/
structure NvR (L : List Ed) (σ : List Ed × ByteArray × Int) : Prop where
  len : σ.1.length + 2 ≤ 3 * L.length + 2
  n0 : 0 ≤ σ.2.2
  wr : ∀ x ∈ σ.1, Wr x
  tn : totN σ.1 + σ.2.2 = totN L
  ts : totS σ.1 + σ.2.1.size = totS L
theorem addR_facts (O : List Ed) (x : Ed) (hO : ∀ y ∈ O, Wr y) (hx : Wr x) (h1 : x.1 = 1) : (∀ y ∈ addR O x, Wr y) ∧ totN (addR O x) = totN O + x.2.1 ∧ totS (addR O x) = totS O + x.2.2.size ∧ (addR O x).length ≤ O.length + 1 := by
  have ht : x.2.2 = emptyS := hx.elim (fun z => z.2.2) (fun z => by have := z.1; omega)
  have hp : 0 < x.2.1 := hx.elim (fun z => z.2.1) (fun z => by have := z.1; omega)
  rcases List.eq_nil_or_concat O with rfl | ⟨O', y, rfl⟩
  · have e : addR [] x = [x] := rfl
    rw [e]
    exact ⟨fun y hy => by rw [List.mem_singleton.1 hy]; exact hx, by simp [totN], by simp [totS], by simp⟩
  · rw [List.concat_eq_append] at hO ⊢
    rw [addR_snoc]
    by_cases hy : y.1 = 1
    · rw [if_pos hy]
      have hyw := hO y (by simp)
      have hyt : y.2.2 = emptyS := hyw.elim (fun z => z.2.2) (fun z => by have := z.1; omega)
      have hyp : 0 < y.2.1 := hyw.elim (fun z => z.2.1) (fun z => by have := z.1; omega)
      refine ⟨fun z hz => ?_, ?_, ?_, by simp⟩
      · rcases List.mem_append.1 hz with hz | hz
        · exact hO z (by simp [hz])
        · rw [List.mem_singleton.1 hz]
          exact .inl ⟨.inl hy, by simp only; omega, hyt⟩
      · simp only [totN_append, totN]; omega
      · simp only [totS_append, totS, ht, emptyS_size]; omega
    · rw [if_neg hy]
      refine ⟨fun z hz => ?_, ?_, ?_, by simp⟩
      · rcases List.mem_append.1 hz with hz | hz
        · exact hO z hz
        · rw [List.mem_singleton.1 hz]; exact hx
      · simp only [totN_append, totN]; omega
      · simp only [totS_append, totS]; omega
theorem nvr_step (L : List Ed) (σ : List Ed × ByteArray × Int) (x : Ed) (h : NvR L σ) (hx : Wr x) : NvR (L ++ [x]) (nstep σ x) := by
  obtain ⟨h1, h2, h3, h4, h5⟩ := h
  unfold nstep
  by_cases k2 : x.1 = 2
  · rw [if_pos k2]
    have hn : x.2.1 = 0 := hx.elim (fun z => by rcases z.1 with e | e <;> omega) (fun z => z.2.1)
    exact ⟨by simp only [List.length_append, List.length_singleton]; omega, h2, h3, by simp only [totN_append, totN]; omega, by simp only [totS_append, totS, ByteArray.size_append]; omega⟩
  · rw [if_neg k2]
    have hpt : 0 < x.2.1 ∧ x.2.2 = emptyS := hx.elim (fun z => z.2) (fun z => absurd z.1 k2)
    by_cases k3 : x.1 = 3
    · rw [if_pos k3]
      exact ⟨by simp only [List.length_append, List.length_singleton]; omega, by simp only; omega, h3, by simp only [totN_append, totN]; omega, by simp only [totS_append, totS, hpt.2, emptyS_size]; omega⟩
    · rw [if_neg k3]
      have k1 : x.1 = 1 := hx.elim (fun z => z.1.resolve_right k3) (fun z => absurd z.1 k2)
      have hr := runE_tot σ.2.1 σ.2.2 h2
      have hrl := runE_len σ.2.1 σ.2.2
      obtain ⟨a1, a2, a3, a4⟩ := addR_facts (σ.1 ++ runE σ.2.1 σ.2.2) x (fun y hy => (List.mem_append.1 hy).elim (h3 y) (runE_wr _ _ y)) hx k1
      rw [totN_append] at a2
      rw [totS_append] at a3
      rw [List.length_append] at a4
      exact ⟨by simp only [List.length_append, List.length_singleton]; omega, Int.le_refl 0, a1, by simp only [totN_append, totN]; omega, by simp only [totS_append, totS, emptyS_size]; omega⟩
theorem nvr_all (L : List Ed) : ∀ (M : List Ed) (σ : List Ed × ByteArray × Int), (∀ x ∈ M, Wr x) → NvR L σ → NvR (L ++ M) (M.foldl nstep σ)
  := by
  intro M
  induction M generalizing L with
  | nil => intro σ _ h; simpa using h
  | cons x M ih =>
    intro σ hw h
    have := ih (L ++ [x]) (nstep σ x) (fun y hy => hw y (List.mem_cons_of_mem _ hy)) (nvr_step L σ x h (hw x (by simp)))
    simpa using this
theorem nvr_init : NvR [] ([], emptyS, 0) := ⟨by simp, Int.le_refl 0, by simp, by simp [totN], by simp [totS, emptyS_size]⟩
theorem get153_last (O : List Ed) (y : Ed) (i : Int) (hi : i = ((O ++ [y]).length : Int) - 1) : rd_T153 ((O ++ [y]).map mk153) i = mk153 y := by
  have : i = ((O.length : Nat) : Int) := by rw [hi, List.length_append, List.length_singleton]; omega
  rw [this, get153 _ _ (by simp)]
  simp
def nrm (L : List Ed) : List Ed × Int := if rightL L = true then (if rightL (nf L) = true then (nf L, 0) else ([], 3)) else ([], 2)
theorem vNormal_l0 (L : List Ed) (hl : L.length ≤ 1000) (hr : rightL L = true) (ht : totS L ≤ 1000000000) : ∀ (d i : Nat) (σ : List Ed × ByteArray × Int), i + d = L.length → σ = (L.take i).foldl nstep ([], emptyS, 0) →
    ∀ k, d < k → delta_Normal.l0 k (σ.1.map mk153) (L.map mk153) ((L.map mk153).length : Int) (i : Int) σ.2.1 σ.2.2 = some ((if rightL (nf L) = true then (nf L, (0 : Int)) else ([], 3)).1.map mk153, (if rightL (nf L) = true then (nf L, (0 : Int)) else ([], 3)).2) := by
  have hw := rightL_wr hr
  have htn := totN_le 2147483647 L (fun x hx => ((rightL_iff L).1 hr x hx).2)
  intro d
  induction d with
  | zero =>
    intro i σ h hσ
    have hN := nvr_all [] (L.take i) _ (fun x hx => hw x (List.mem_of_mem_take hx)) nvr_init
    rw [← hσ, List.nil_append] at hN
    have hnf : nf L = σ.1 ++ runE σ.2.1 σ.2.2 := by
      rw [List.take_of_length_le (by omega)] at hσ
      unfold nf; rw [← hσ]; rfl
    have hl1 := hN.len
    have hl2 := runE_len σ.2.1 σ.2.2
    have hti : (L.take i).length ≤ 1000 := by rw [List.length_take]; omega
    intro k hk
    obtain ⟨k, rfl⟩ : ∃ q, k = q + 1 := ⟨k - 1, by omega⟩
    simp only [delta_Normal.l0, List.length_map, if_neg (show ¬ (i : Int) < L.length by omega), runEdits, Option.bind_some, if_pos (show σ.1.length + (runE σ.2.1 σ.2.2).length < 4398046511104 by omega), ← List.map_append, ← hnf, vRight]
    by_cases hq : rightL (nf L) = true
    · simp only [if_pos hq]
    · simp only [if_neg hq]; rfl
  | succ d ih =>
    intro i σ h hσ
    have hi : i < L.length := by omega
    have hx := hw _ (List.getElem_mem hi)
    have hN := nvr_all [] (L.take i) _ (fun x hx => hw x (List.mem_of_mem_take hx)) nvr_init
    rw [← hσ, List.nil_append] at hN
    have hN2 := nvr_all [] (L.take (i + 1)) _ (fun x hx => hw x (List.mem_of_mem_take hx)) nvr_init
    have hσ2 : nstep σ L[i] = (L.take (i + 1)).foldl nstep ([], emptyS, 0) := by rw [take_snoc L i hi, List.foldl_append, ← hσ]; rfl
    rw [← hσ2, List.nil_append] at hN2
    have next0 := ih (i + 1) (nstep σ L[i]) (by omega) hσ2
    have hti : (L.take i).length = i := by rw [List.length_take]; omega
    have e1 : totN L = totN (L.take i) + totN (L.drop i) := by rw [← totN_append, List.take_append_drop]
    have e2 : totS L = totS (L.take (i + 1)) + totS (L.drop (i + 1)) := by rw [← totS_append, List.take_append_drop]
    have e3 : totN L = totN (L.take (i + 1)) + totN (L.drop (i + 1)) := by rw [← totN_append, List.take_append_drop]
    have p1 := (totN_mem (L.drop i) (fun x hx => hw x (List.mem_of_mem_drop hx))).1
    have p2 := (totN_mem (L.drop (i + 1)) (fun x hx => hw x (List.mem_of_mem_drop hx))).1
    have p3 := (totN_mem σ.1 hN.wr).1
    have hl1 := hN.len
    have hl2 := runE_len σ.2.1 σ.2.2
    obtain ⟨q1, q2, q3, q4, q5⟩ := hN
    obtain ⟨r1, r2, r3, r4, r5⟩ := hN2
    have p4 := (totN_mem _ r3).1
    intro k hk
    obtain ⟨k, rfl⟩ : ∃ q, k = q + 1 := ⟨k - 1, by omega⟩
    have next := next0 k (by omega)
    clear next0
    simp only [List.length_map, Int.natCast_add, Int.cast_ofNat_Int] at next
    simp only [delta_Normal.l0, List.length_map, if_pos (show (i : Int) < L.length by omega), if_pos (show (0 : Int) ≤ i by omega), get153 L i hi, mk153, w64 ((i : Int) + 1) (by omega) (by omega)]
    generalize hxe : L[i] = x at *
    obtain ⟨kd, n, s⟩ := x
    obtain ⟨out, rs, rn⟩ := σ
    simp only at *
    by_cases k2 : kd = 2
    · have e : nstep (out, rs, rn) (kd, n, s) = (out, rs ++ s, rn) := by unfold nstep; simp only [if_pos k2]
      rw [e] at next r5
      simp only [ByteArray.size_append] at r5
      simp only [if_pos k2, if_pos (show rs.size + s.size ≤ 9223372036854775807 by omega)]
      exact next
    · by_cases k3 : kd = 3
      · have e : nstep (out, rs, rn) (kd, n, s) = (out, rs, rn + n) := by unfold nstep; simp only [if_neg k2, if_pos k3]
        rw [e] at next r4 r2 p4
        simp only at next r4 r2 p4
        simp only [if_neg k2, if_pos k3, w64 (rn + n) (by omega) (by omega)]
        exact next
      · have e : nstep (out, rs, rn) (kd, n, s) = (addR (out ++ runE rs rn) (kd, n, s), emptyS, 0) := by unfold nstep; simp only [if_neg k2, if_neg k3]
        rw [e] at next r4 r3
        simp only at next r4 r3
        simp only [if_neg k2, if_neg k3, runEdits, Option.bind_some, List.length_map, if_pos (show out.length + (runE rs rn).length < 4398046511104 by omega), ← List.map_append]
        have hol : (out ++ runE rs rn).length ≤ 4000 := by rw [List.length_append]; omega
        have hOw : ∀ y ∈ out ++ runE rs rn, Wr y := fun y hy => (List.mem_append.1 hy).elim (q3 y) (runE_wr _ _ y)
        have hOt : totN (out ++ runE rs rn) = totN (L.take i) := by rw [totN_append, (runE_tot rs rn q2).1]; omega
        have hn := hx.elim (fun z => z.2.1) (fun z => absurd z.1 k2)
        have hnm := (totN_mem L hw).2 _ (List.getElem_mem hi)
        rw [hxe] at hnm
        simp only at hnm hn
        generalize hO : out ++ runE rs rn = O at *
        rcases List.eq_nil_or_concat O with rfl | ⟨O', y, rfl⟩
        · simp only [List.length_nil, List.map_nil, List.nil_append, if_neg (show ¬ ((0 : Nat) : Int) > 0 by decide), if_pos (show 0 < 4398046511104 by decide)]
          exact next
        · rw [List.concat_eq_append] at *
          have hy := (totN_mem _ hOw).2 y (by simp)
          have hlen : ((O' ++ [y]).length : Int) > 0 := by simp only [List.length_append, List.length_singleton]; omega
          have hlm : wrap64 (((O' ++ [y]).length : Int) - 1) = ((O' ++ [y]).length : Int) - 1 := w64 _ (by omega) (by omega)
          rw [addR_snoc] at next
          simp only [if_pos hlen, hlm, if_pos (show (0 : Int) ≤ ((O' ++ [y]).length : Int) - 1 by omega), if_pos (show ((O' ++ [y]).length : Int) - 1 < ((O' ++ [y]).length : Int) by omega), get153_last O' y _ rfl, mk153]
          by_cases hy1 : y.1 = 1
          · rw [if_pos hy1] at next
            simp only [if_pos hy1, w64 (y.2.1 + n) (by omega) (by omega)]
            have hset : ((O' ++ [y]).map mk153).set ((((O' ++ [y]).length : Int) - 1)).toNat (⟨y.1, y.2.1 + n, y.2.2⟩ : S153) = (O' ++ [(y.1, y.2.1 + n, y.2.2)]).map mk153 := by
              rw [show ((((O' ++ [y]).length : Int) - 1)).toNat = O'.length by simp]
              simp [mk153]
            rw [hset]
            exact next
          · rw [if_neg hy1] at next
            simp only [if_neg hy1, if_pos (show (O' ++ [y]).length < 4398046511104 by omega)]
            rw [List.map_append] at next
            exact next
theorem vNormal_at (L : List Ed) (hl : L.length ≤ 1000) (ht : totS L ≤ 1000000000) (k : Nat) (hk : L.length < k) : delta_Normal.f k (L.map mk153) = some ((nrm L).1.map mk153, (nrm L).2) := by
  unfold delta_Normal.f nrm
  rw [vRight, Option.bind_some]
  by_cases hr : rightL L = true
  · simp only [if_pos hr]
    exact vNormal_l0 L hl hr ht L.length 0 ([], emptyS, 0) (by omega) (by simp) k hk
  · simp only [if_neg hr]
    rfl
theorem vNormal (L : List Ed) (hl : L.length ≤ 1000) (ht : totS L ≤ 1000000000) : Ev (fun k => delta_Normal.f k (L.map mk153)) ((nrm L).1.map mk153, (nrm L).2) :=
  ⟨L.length + 1, fun k hk => vNormal_at L hl ht k (by omega)⟩
theorem nf_facts (L : List Ed) (hw : ∀ x ∈ L, Wr x) : (∀ x ∈ nf L, Wr x) ∧ totN (nf L) = totN L ∧ totS (nf L) = totS L ∧ (nf L).length ≤ 3 * L.length + 2 := by
  have hN := nvr_all [] L _ hw nvr_init
  rw [List.nil_append] at hN
  have hl := runE_len (L.foldl nstep ([], emptyS, 0)).2.1 (L.foldl nstep ([], emptyS, 0)).2.2
  have hr := runE_tot (L.foldl nstep ([], emptyS, 0)).2.1 (L.foldl nstep ([], emptyS, 0)).2.2 hN.n0
  have h1 := hN.len
  have h2 := hN.tn
  have h3 := hN.ts
  unfold nf nflush
  refine ⟨fun x hx => (List.mem_append.1 hx).elim (hN.wr x) (runE_wr _ _ x), ?_, ?_, ?_⟩
  · rw [totN_append]; omega
  · rw [totS_append]; omega
  · rw [List.length_append]; omega
end Go.Proofs.Ytoeabgeglgiobaa.Q
