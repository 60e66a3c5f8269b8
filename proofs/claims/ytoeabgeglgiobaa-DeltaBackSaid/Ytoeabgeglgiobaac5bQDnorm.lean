/- The normal form of edits: by one walk with a run in hand, and by bringing neighbours together till nothing may be brought together: the same. No condition but those of each theorem. -/
import Derived.Test.Ytoeabgeglgiobaac5bQDparse
namespace Go.Proofs.Ytoeabgeglgiobaa.Q
open Go.RowKit
theorem emptyS_of {s : ByteArray} (h : s.size = 0) : s = emptyS := by
  apply ByteArray.ext
  exact Array.eq_empty_of_size_eq_zero h
theorem emptyS_append (s : ByteArray) : emptyS ++ s = s := ByteArray.empty_append
theorem append_emptyS (s : ByteArray) : s ++ emptyS = s := ByteArray.append_empty
theorem emptyS_size : emptyS.size = 0 := rfl
/-- An edit that may be, whatever its number is beyond 0. -/
def Wr (x : Ed) : Prop := ((x.1 = 1 ∨ x.1 = 3) ∧ 0 < x.2.1 ∧ x.2.2 = emptyS) ∨ (x.1 = 2 ∧ x.2.1 = 0 ∧ x.2.2.size ≠ 0)
theorem rightB_iff (x : Ed) : rightB x.1 x.2.1 x.2.2 = true ↔ Wr x ∧ x.2.1 ≤ 2147483647 := by
  unfold rightB Wr
  by_cases h : x.1 = 1 ∨ x.1 = 3
  · rw [if_pos h, decide_eq_true_iff]
    exact ⟨fun z => ⟨.inl ⟨h, z.1, emptyS_of z.2.2⟩, z.2.1⟩, fun z => z.1.elim (fun y => ⟨y.2.1, z.2, by rw [y.2.2]; rfl⟩) (fun y => by have := y.1; omega)⟩
  · rw [if_neg h, decide_eq_true_iff]
    exact ⟨fun z => ⟨.inr z, by have := z.2.1; omega⟩, fun z => z.1.elim (fun y => absurd y.1 h) id⟩
/-- What a run is. -/
def runE (s : ByteArray) (n : Int) : List Ed := (if s.size = 0 then [] else [((2 : Int), (0 : Int), s)]) ++ (if 0 < n then [((3 : Int), n, emptyS)] else [])
theorem runE_none : runE emptyS 0 = [] := rfl
/-- A Retain behind what there is. -/
def addR (out : List Ed) (x : Ed) : List Ed :=
  match out.getLast? with
  | some y => if y.1 = 1 then out.dropLast ++ [(y.1, y.2.1 + x.2.1, y.2.2)] else out ++ [x]
  | none => out ++ [x]
def nstep (σ : List Ed × ByteArray × Int) (x : Ed) : List Ed × ByteArray × Int :=
  if x.1 = 2 then (σ.1, σ.2.1 ++ x.2.2, σ.2.2) else if x.1 = 3 then (σ.1, σ.2.1, σ.2.2 + x.2.1) else (addR (σ.1 ++ runE σ.2.1 σ.2.2) x, emptyS, 0)
def nflush (σ : List Ed × ByteArray × Int) : List Ed := σ.1 ++ runE σ.2.1 σ.2.2
def nf (L : List Ed) : List Ed := nflush (L.foldl nstep ([], emptyS, 0))
/-- The first two edits that may be brought together, or changed about, are. -/
def mrg : List Ed → Option (List Ed)
  | a :: b :: r => if a.1 = b.1 then some ((a.1, a.2.1 + b.2.1, a.2.2 ++ b.2.2) :: r) else if a.1 = 3 ∧ b.1 = 2 then some (b :: a :: r) else (mrg (b :: r)).map (a :: ·)
  | _ => none
theorem addR_snoc (O : List Ed) (y x : Ed) : addR (O ++ [y]) x = if y.1 = 1 then O ++ [(y.1, y.2.1 + x.2.1, y.2.2)] else O ++ [y] ++ [x] := by
  unfold addR
  simp
theorem addR_two (O : List Ed) (a b : Ed) (ha : a.1 = 1) (tb : b.2.2 = emptyS) : addR (addR O a) b = addR O (a.1, a.2.1 + b.2.1, a.2.2 ++ b.2.2) := by
  rcases List.eq_nil_or_concat O with rfl | ⟨O, y, rfl⟩
  · have e1 : addR [] a = [] ++ [a] := rfl
    rw [e1, addR_snoc, if_pos ha]
    show [] ++ [(a.1, a.2.1 + b.2.1, a.2.2)] = [] ++ [(a.1, a.2.1 + b.2.1, a.2.2 ++ b.2.2)]
    rw [tb, append_emptyS]
  · rw [List.concat_eq_append, addR_snoc, addR_snoc]
    by_cases h : y.1 = 1
    · rw [if_pos h, if_pos h, addR_snoc, if_pos h, Int.add_assoc]
    · rw [if_neg h, if_neg h, addR_snoc, if_pos ha, tb, append_emptyS]
theorem nstep_mrg (σ : List Ed × ByteArray × Int) (a b : Ed) (ha : Wr a) (hb : Wr b) (h : a.1 = b.1) : nstep (nstep σ a) b = nstep σ (a.1, a.2.1 + b.2.1, a.2.2 ++ b.2.2) := by
  unfold nstep
  by_cases h2 : a.1 = 2
  · simp only [if_pos h2, if_pos (show b.1 = 2 by omega), ByteArray.append_assoc]
  · by_cases h3 : a.1 = 3
    · simp only [if_neg h2, if_pos h3, if_neg (show ¬ b.1 = 2 by omega), if_pos (show b.1 = 3 by omega), Int.add_assoc]
    · simp only [if_neg h2, if_neg h3, if_neg (show ¬ b.1 = 2 by omega), if_neg (show ¬ b.1 = 3 by omega), runE_none, List.append_nil]
      have tb : b.2.2 = emptyS := hb.elim (fun z => z.2.2) (fun z => absurd (h.trans z.1) h2)
      have a1 : a.1 = 1 := ha.elim (fun z => z.1.elim id (fun q => absurd q h3)) (fun z => absurd z.1 h2)
      rw [addR_two _ a b a1 tb]
theorem nstep_swap (σ : List Ed × ByteArray × Int) (a b : Ed) (ha : a.1 = 3) (hb : b.1 = 2) : nstep (nstep σ a) b = nstep (nstep σ b) a := by
  unfold nstep
  simp only [ha, hb, if_true, if_neg (show ¬ (3 : Int) = 2 by decide)]
theorem nf_mrg : ∀ (L M : List Ed) (σ : List Ed × ByteArray × Int), (∀ x ∈ L, Wr x) → mrg L = some M → L.foldl nstep σ = M.foldl nstep σ
  | [], M, σ, _, h => by simp [mrg] at h
  | [a], M, σ, _, h => by simp [mrg] at h
  | a :: b :: r, M, σ, hw, h => by
    rw [mrg] at h
    have ha := hw a (by simp)
    have hb := hw b (by simp)
    by_cases h1 : a.1 = b.1
    · rw [if_pos h1] at h
      obtain rfl := Option.some.inj h
      simp only [List.foldl_cons]
      rw [nstep_mrg σ a b ha hb h1]
    · rw [if_neg h1] at h
      by_cases h2 : a.1 = 3 ∧ b.1 = 2
      · rw [if_pos h2] at h
        obtain rfl := Option.some.inj h
        simp only [List.foldl_cons]
        rw [nstep_swap σ a b h2.1 h2.2]
      · rw [if_neg h2] at h
        obtain ⟨M', hM, rfl⟩ := Option.map_eq_some_iff.1 h
        rw [List.foldl_cons, List.foldl_cons]
        exact nf_mrg (b :: r) M' _ (fun x hx => hw x (List.mem_cons_of_mem _ hx)) hM
theorem mrg_wr : ∀ (L M : List Ed), (∀ x ∈ L, Wr x) → mrg L = some M → ∀ x ∈ M, Wr x
  | [], M, _, h => by simp [mrg] at h
  | [a], M, _, h => by simp [mrg] at h
  | a :: b :: r, M, hw, h => by
    rw [mrg] at h
    have ha := hw a (by simp)
    have hb := hw b (by simp)
    by_cases h1 : a.1 = b.1
    · rw [if_pos h1] at h
      obtain rfl := Option.some.inj h
      intro x hx
      rcases List.mem_cons.1 hx with rfl | hx
      · rcases ha with ha | ha
        · rcases hb with hb | hb
          · exact .inl ⟨ha.1, by have := ha.2.1; have := hb.2.1; simp only; omega, by simp only [ha.2.2, hb.2.2, emptyS_append]⟩
          · exfalso; have := ha.1; have := hb.1; omega
        · rcases hb with hb | hb
          · exfalso; have := ha.1; have := hb.1; omega
          · exact .inr ⟨ha.1, by simp only [ha.2.1, hb.2.1]; rfl, by have := ha.2.2; simp only [ByteArray.size_append]; omega⟩
      · exact hw x (by simp [hx])
    · rw [if_neg h1] at h
      by_cases h2 : a.1 = 3 ∧ b.1 = 2
      · rw [if_pos h2] at h
        obtain rfl := Option.some.inj h
        intro x hx
        simp only [List.mem_cons] at hx
        exact hw x (by simp only [List.mem_cons]; rcases hx with h | h | h <;> simp [h])
      · rw [if_neg h2] at h
        obtain ⟨M', hM, rfl⟩ := Option.map_eq_some_iff.1 h
        intro x hx
        rcases List.mem_cons.1 hx with rfl | hx
        · exact ha
        · exact mrg_wr (b :: r) M' (fun x hx => hw x (List.mem_cons_of_mem _ hx)) hM x hx
/-! How much is left to do; what is never more. -/
def cnt2 : List Ed → Nat
  | [] => 0
  | a :: r => (if a.1 = 2 then 1 else 0) + cnt2 r
def inv3 : List Ed → Nat
  | [] => 0
  | a :: r => (if a.1 = 3 then cnt2 r else 0) + inv3 r
theorem mrg_less : ∀ (L M : List Ed), mrg L = some M → cnt2 M ≤ cnt2 L ∧ M.length + inv3 M < L.length + inv3 L ∧ M.length ≤ L.length
  | [], M, h => by simp [mrg] at h
  | [a], M, h => by simp [mrg] at h
  | a :: b :: r, M, h => by
    rw [mrg] at h
    by_cases h1 : a.1 = b.1
    · rw [if_pos h1] at h
      obtain rfl := Option.some.inj h
      simp only [cnt2, inv3, List.length_cons, h1]
      split <;> split <;> omega
    · rw [if_neg h1] at h
      by_cases h2 : a.1 = 3 ∧ b.1 = 2
      · rw [if_pos h2] at h
        obtain rfl := Option.some.inj h
        simp only [cnt2, inv3, List.length_cons, h2.1, h2.2, if_true, if_neg (show ¬ (3 : Int) = 2 by decide), if_neg (show ¬ (2 : Int) = 3 by decide)]
        omega
      · rw [if_neg h2] at h
        obtain ⟨M', hM, rfl⟩ := Option.map_eq_some_iff.1 h
        have := mrg_less (b :: r) M' hM
        obtain ⟨k1, k2, k3⟩ := this
        simp only [List.length_cons] at k2 k3
        refine ⟨by show (if a.1 = 2 then 1 else 0) + cnt2 M' ≤ (if a.1 = 2 then 1 else 0) + cnt2 (b :: r); omega, ?_, by simp only [List.length_cons]; omega⟩
        show M'.length + 1 + ((if a.1 = 3 then cnt2 M' else 0) + inv3 M') < r.length + 1 + 1 + ((if a.1 = 3 then cnt2 (b :: r) else 0) + inv3 (b :: r))
        split <;> omega
def totN : List Ed → Int
  | [] => 0
  | a :: r => a.2.1 + totN r
def totS : List Ed → Nat
  | [] => 0
  | a :: r => a.2.2.size + totS r
theorem totN_mem : ∀ (L : List Ed), (∀ x ∈ L, Wr x) → (0 ≤ totN L) ∧ ∀ x ∈ L, 0 ≤ x.2.1 ∧ x.2.1 ≤ totN L := by
  intro L
  induction L with
  | nil => intro _; exact ⟨by simp [totN], fun x hx => by simp at hx⟩
  | cons a r ih =>
    intro hw
    have hi := ih (fun x hx => hw x (List.mem_cons_of_mem _ hx))
    have ha : 0 ≤ a.2.1 := (hw a (by simp)).elim (fun z => by omega) (fun z => by omega)
    refine ⟨by simp only [totN]; omega, fun x hx => ?_⟩
    simp only [totN]
    rcases List.mem_cons.1 hx with rfl | hx
    · omega
    · have := hi.2 x hx; omega
theorem totS_mem : ∀ (L : List Ed), ∀ x ∈ L, x.2.2.size ≤ totS L := by
  intro L
  induction L with
  | nil => intro x hx; simp at hx
  | cons a r ih =>
    intro x hx
    simp only [totS]
    rcases List.mem_cons.1 hx with rfl | hx
    · omega
    · have := ih x hx; omega
theorem totN_le (m : Int) : ∀ (L : List Ed), (∀ x ∈ L, x.2.1 ≤ m) → totN L ≤ m * L.length := by
  intro L
  induction L with
  | nil => intro _; simp [totN]
  | cons a r ih =>
    intro h
    have h1 := ih (fun x hx => h x (List.mem_cons_of_mem _ hx))
    have h2 := h a (by simp)
    simp only [totN, List.length_cons, Int.natCast_add, Int.mul_add, Int.cast_ofNat_Int, Int.mul_one]
    omega
theorem totS_le (m : Nat) : ∀ (L : List Ed), (∀ x ∈ L, x.2.2.size ≤ m) → totS L ≤ m * L.length := by
  intro L
  induction L with
  | nil => intro _; simp [totS]
  | cons a r ih =>
    intro h
    have h1 := ih (fun x hx => h x (List.mem_cons_of_mem _ hx))
    have h2 := h a (by simp)
    simp only [totS, List.length_cons, Nat.mul_add, Nat.mul_one]
    omega
/-! What can't be brought together any more is its own normal form. -/
def Compat (σ : List Ed × ByteArray × Int) (L : List Ed) : Prop :=
  0 ≤ σ.2.2 ∧ ∀ x, L.head? = some x → (σ.2.1.size ≠ 0 → x.1 ≠ 2) ∧ (0 < σ.2.2 → x.1 ≠ 2 ∧ x.1 ≠ 3) ∧ (σ.2.1.size = 0 → σ.2.2 = 0 → x.1 = 1 → ∀ y, σ.1.getLast? = some y → y.1 ≠ 1)
theorem runE_last (s : ByteArray) (n : Int) (out : List Ed) (h : ¬ (s.size = 0 ∧ n ≤ 0)) : ∀ y, (out ++ runE s n).getLast? = some y → y.1 ≠ 1 := by
  intro y hy
  unfold runE at hy
  by_cases hn : 0 < n
  · rw [if_pos hn, ← List.append_assoc, List.getLast?_concat] at hy
    obtain rfl := Option.some.inj hy
    simp
  · rw [if_neg hn, List.append_nil, if_neg (fun z => h ⟨z, by omega⟩), List.getLast?_concat] at hy
    obtain rfl := Option.some.inj hy
    simp
theorem addR_other (O : List Ed) (x : Ed) (h : ∀ y, O.getLast? = some y → y.1 ≠ 1) : addR O x = O ++ [x] := by
  unfold addR
  cases hO : O.getLast? with
  | none => rfl
  | some y => simp only [if_neg (h y hO)]
theorem nf_norm : ∀ (L : List Ed) (σ : List Ed × ByteArray × Int), (∀ x ∈ L, Wr x) → mrg L = none → Compat σ L → nflush (L.foldl nstep σ) = σ.1 ++ runE σ.2.1 σ.2.2 ++ L
  | [], σ, _, _, _ => by simp [nflush]
  | a :: r, (out, s, n), hw, hm, hc => by
    obtain ⟨hn0, hc⟩ := hc
    obtain ⟨c1, c2, c3⟩ := hc a rfl
    simp only at c1 c2 c3 hn0
    have ha := hw a (by simp)
    have hwr : ∀ x ∈ r, Wr x := fun x hx => hw x (List.mem_cons_of_mem _ hx)
    have hr : mrg r = none ∧ ∀ b, r.head? = some b → a.1 ≠ b.1 ∧ ¬ (a.1 = 3 ∧ b.1 = 2) := by
      cases r with
      | nil => exact ⟨rfl, fun b hb => by simp at hb⟩
      | cons b r =>
        rw [mrg] at hm
        by_cases h1 : a.1 = b.1
        · rw [if_pos h1] at hm; simp at hm
        · rw [if_neg h1] at hm
          by_cases h2 : a.1 = 3 ∧ b.1 = 2
          · rw [if_pos h2] at hm; simp at hm
          · rw [if_neg h2] at hm
            exact ⟨Option.map_eq_none_iff.1 hm, fun b' hb' => by
              obtain rfl := Option.some.inj hb'
              exact ⟨h1, h2⟩⟩
    rw [List.foldl_cons]
    simp only
    rcases ha with ⟨hk, hpos, ht⟩ | ⟨hk, hz, ht⟩
    · rcases hk with hk | hk
      · have hlast : ∀ y, (out ++ runE s n).getLast? = some y → y.1 ≠ 1 := by
          by_cases hs : s.size = 0 ∧ n ≤ 0
          · have hr0 : runE s n = [] := by unfold runE; rw [if_pos hs.1, if_neg (by omega)]; rfl
            rw [hr0, List.append_nil]
            exact c3 hs.1 (by omega) hk
          · exact runE_last s n out hs
        have e : nstep (out, s, n) a = (out ++ runE s n ++ [a], emptyS, 0) := by
          unfold nstep
          simp only [if_neg (show ¬ a.1 = 2 by omega), if_neg (show ¬ a.1 = 3 by omega), addR_other _ a hlast]
        rw [e, nf_norm r _ hwr hr.1 ⟨by simp, fun b hb => ⟨fun z => absurd rfl z, fun z => absurd z (by simp), fun _ _ hb1 => absurd (hk.trans hb1.symm) (hr.2 b hb).1⟩⟩]
        simp [runE_none]
      · have hn : n = 0 := by
          by_cases q : 0 < n
          · exact absurd hk (c2 q).2
          · omega
        subst hn
        have e : nstep (out, s, 0) a = (out, s, a.2.1) := by
          unfold nstep
          simp only [if_neg (show ¬ a.1 = 2 by omega), if_pos hk, Int.zero_add]
        have ea : a = (3, a.2.1, emptyS) := by rw [← ht, ← hk]
        rw [e, nf_norm r _ hwr hr.1 ⟨by simp only; omega, fun b hb => ⟨fun _ z => (hr.2 b hb).2 ⟨hk, z⟩, fun _ => ⟨fun z => (hr.2 b hb).2 ⟨hk, z⟩, fun z => (hr.2 b hb).1 (hk.trans z.symm)⟩, fun _ z => absurd z (by simp only; omega)⟩⟩]
        simp only
        have e2 : runE s a.2.1 = runE s 0 ++ [a] := by
          unfold runE
          rw [if_pos hpos, if_neg (show ¬ (0 : Int) < 0 by decide), List.append_nil, ← ea]
        rw [e2]
        simp
    · have hn : n = 0 := by
        by_cases q : 0 < n
        · exact absurd hk (c2 q).1
        · omega
      have hs : s = emptyS := by
        by_cases q : s.size = 0
        · exact emptyS_of q
        · exact absurd hk (c1 q)
      subst hn
      subst hs
      have e : nstep (out, emptyS, 0) a = (out, a.2.2, 0) := by
        unfold nstep
        simp only [if_pos hk, emptyS_append]
      have ea : a = (2, 0, a.2.2) := by rw [← hz, ← hk]
      rw [e, nf_norm r _ hwr hr.1 ⟨by simp, fun b hb => ⟨fun _ z => (hr.2 b hb).1 (hk.trans z.symm), fun z => absurd z (by simp), fun z => absurd z ht⟩⟩]
      simp only [runE_none, List.append_nil]
      have e2 : runE a.2.2 0 = [a] := by
        unfold runE
        rw [if_neg ht, if_neg (show ¬ (0 : Int) < 0 by decide), List.append_nil, ← ea]
      rw [e2]
      simp
theorem nf_fix (L : List Ed) (hw : ∀ x ∈ L, Wr x) (hm : mrg L = none) : nf L = L := by
  unfold nf
  rw [nf_norm L _ hw hm ⟨by simp, fun x _ => ⟨fun z => absurd rfl z, fun z => absurd z (by simp), fun _ _ _ y hy => by simp at hy⟩⟩]
  simp [runE_none]
end Go.Proofs.Ytoeabgeglgiobaa.Q
