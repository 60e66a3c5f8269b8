/- Any payload is put behind any bytes, and any payloads make a segment, as the document says: the plain law behind JournalAppends. Its conditions: those of the given statement. -/
import Derived.Test.Ytoeabgeglgiobaac11aQJour
import Derived.Test.Ytoeabgeglgiobaac11aQJworks
import Derived.Test.Ytoeabgeglgiobaac11aGL11JournalAppends1
import Derived.Test.Ytoeabgeglgiobaac11aQOpen11
namespace Go.Proofs.Ytoeabgeglgiobaa.Pure
open Go.RowKit Go.Proofs.Ytoeabgeglgiobaa.P Go.Proofs.Ytoeabgeglgiobaa.Q Go.Proofs.YtoeabgeglgiobaaW.PrintWords Go.Proofs.YtoeabgeglgiobaaW.PrintLast
def Few11 (L : List (List Int)) : Prop := L.length ≤ 10 ∧ ∀ p ∈ L, p.length ≤ 200
instance (L : List (List Int)) : Decidable (Few11 L) := by unfold Few11; infer_instance
theorem few11_l0 (L : List (List Int)) : ∀ (d i : Nat), i + d = 11 → i ≤ L.length → (∀ p ∈ L.take i, p.length ≤ 200) →
    Ev (fun k => chartroomlaw11_few.l0 k L (i : Int)) (decide (Few11 L)) := by
  intro d
  induction d with
  | zero =>
    intro i h hi hp
    have hend : Ev (fun k => chartroomlaw11_few.j1 k L (i : Int) false) (decide (Few11 L)) := by
      refine ev_shift ?_
      simp only [chartroomlaw11_few.j1, if_neg (show ¬ (false = true) by decide)]
      refine ev_some ?_
      rw [decide_eq_false (show ¬ (L.length : Int) ≤ 10 by omega), decide_eq_false (show ¬ Few11 L from fun q => by have := q.1; omega)]
    refine ev_shift ?_
    by_cases hl : (i : Int) < L.length
    · simp only [chartroomlaw11_few.l0, if_pos hl, decide_eq_false (show ¬ (i : Int) < 11 by omega)]
      exact hend
    · simp only [chartroomlaw11_few.l0, if_neg hl]
      exact hend
  | succ d ih =>
    intro i h hi hp
    refine ev_shift ?_
    by_cases hl : i < L.length
    · simp only [chartroomlaw11_few.l0, if_pos (show (i : Int) < L.length by omega), decide_eq_true (show (i : Int) < 11 by omega)]
      refine ev_shift ?_
      simp only [chartroomlaw11_few.j1, if_true, if_pos (show (i : Int) < L.length by omega), if_pos (show (0 : Int) ≤ i by omega), rdL2 L i hl]
      by_cases q : (L[i].length : Int) > 200
      · simp only [if_pos q]
        refine ev_some ?_
        rw [decide_eq_false (show ¬ Few11 L from fun z => by have := z.2 _ (List.getElem_mem hl); omega)]
      · simp only [if_neg q, w64 ((i : Int) + 1) (by omega) (by omega)]
        refine ih (i + 1) (by omega) (by omega) (fun p hp' => ?_)
        rw [take_snoc L i hl] at hp'
        rcases List.mem_append.1 hp' with hp' | hp'
        · exact hp p hp'
        · rw [List.mem_singleton.1 hp']; omega
    · simp only [chartroomlaw11_few.l0, if_neg (show ¬ (i : Int) < L.length by omega)]
      refine ev_shift ?_
      simp only [chartroomlaw11_few.j1, if_neg (show ¬ (false = true) by decide)]
      refine ev_some ?_
      rw [List.take_of_length_le (by omega)] at hp
      rw [decide_eq_true (show (L.length : Int) ≤ 10 by omega), decide_eq_true (show Few11 L from ⟨by omega, hp⟩)]
theorem few11 (L : List (List Int)) : Ev (fun k => chartroomlaw11_few.f k L) (decide (Few11 L)) := by
  unfold chartroomlaw11_few.f
  exact few11_l0 L 11 0 (by omega) (by omega) (by simp)
def apd (b p : List Int) (E : Nat) : List Int × Int × Int × Int × Int := if p.length > 65535 then ([], 0, 0, 0, 3) else (b.take E ++ frmL 9 p, (E : Int), (p.length : Int), crcSum p, 0)
theorem vAppend (b p : List Int) (hb : Bytes b) (hs : b.length ≤ 1000000) (hp : Pl p) {E : Nat} (he : wholeD b = (E : Int)) (hE : E ≤ b.length) : Ev (fun k => journal_Append.f k b p) (apd b p E) := by
  unfold journal_Append.f apd
  refine Ev.bind (vjput [p] (by simp) (by intro q hq; rw [List.mem_singleton.1 hq]; exact hp)) ?_
  have ej : jput [p] = if p.length > 65535 then ([], 3) else (frmL 9 p, 0) := rfl
  rw [ej]
  by_cases h : p.length > 65535
  · simp only [if_pos h, if_neg (show ¬ (3 : Int) = 0 by decide)]
    exact Ev.now _
  · have hl := frmL_len_le 9 p (by omega)
    simp only [if_neg h, if_true]
    refine Ev.bind (ev_of (vcut b hb hs he hE)) ?_
    simp only [journal_Of.f, Option.bind_some, show (b.take E).length = E by rw [List.length_take]; omega, if_pos (show E + (frmL 9 p).length < 140737488355328 by omega)]
    exact Ev.now _
theorem rOf (p : List Int) (hp : Pl p) : Ev (fun k => chartroomref11_Of.f k p) ((p.length : Int), crcSum p) := by
  unfold chartroomref11_Of.f
  refine Ev.bind (rsum p hp.1 (by have := hp.2; omega)) ?_
  have h2 := hp.2
  refine ev_some ?_
  rw [wu64 _ (by omega) (by omega), wu64 _ (crcSum_bd p).1 (by have := (crcSum_bd p).2; omega)]
theorem rAppend (b p : List Int) (hb : Bytes b) (hs : b.length ≤ 1500) (hp : Pl p) {E : Nat} (hE : E ≤ b.length) (hj : joinL ((pays (jall b (b.length + 1) 0)).map nine) = b.take E) (hq : ∀ q ∈ pays (jall b (b.length + 1) 0), q.length ≤ 65535 ∧ Bytes q) (_ : (pays (jall b (b.length + 1) 0)).length ≤ b.length) (hn2 : (pays (jall b (b.length + 1) 0)).length ≤ 900) :
    Ev (fun k => chartroomref11_Append.f k b p) (apd b p E) := by
  unfold chartroomref11_Append.f apd
  refine Ev.bind (rjall b hb (by omega)) ?_
  generalize pays (jall b (b.length + 1) 0) = L at *
  have hq9 : ∀ q ∈ L.map nine, q.2.length ≤ 65535 := by
    intro q hq'
    obtain ⟨z, hz, rfl⟩ := List.mem_map.1 hq'
    exact (hq z hz).1
  refine Ev.bind (rjput L (by omega) (fun q h => ⟨(hq q h).2, by have := (hq q h).1; omega⟩)) ?_
  have e1 : jput L = (b.take E, 0) := by unfold jput; rw [jn_ok _ _ hq9, List.nil_append, hj]
  simp only [e1, if_pos (show L.length < 5864062014805 by omega)]
  refine Ev.bind (rjput (L ++ [p]) (by simp; omega) (fun q h => ?_)) ?_
  · rcases List.mem_append.1 h with h | h
    · exact ⟨(hq q h).2, by have := (hq q h).1; omega⟩
    · rw [List.mem_singleton.1 h]; exact hp
  · have hlen : (b.take E).length = E := by rw [List.length_take]; omega
    have e2 : jput (L ++ [p]) = if p.length > 65535 then ([], 3) else (b.take E ++ frmL 9 p, 0) := by
      have key : ∀ (M : List (Int × List Int)) (acc : List Int), (∀ q ∈ M, q.2.length ≤ 65535) → jn acc (M ++ [nine p]) = if p.length > 65535 then ([], 3) else (acc ++ joinL M ++ frmL 9 p, 0) := by
        intro M
        induction M with
        | nil =>
          intro acc _
          show (if p.length > 65535 then ([], 3) else (acc ++ frmL 9 p, (0 : Int))) = _
          simp [joinL]
        | cons q M ih =>
          intro acc hM
          show (if q.2.length > 65535 then ([], 3) else jn (acc ++ frmL q.1 q.2) (M ++ [nine p])) = _
          rw [if_neg (by have := hM q (by simp); omega), ih _ (fun z hz => hM z (List.mem_cons_of_mem _ hz)), joinL_cons]
          simp only [List.append_assoc]
      unfold jput
      rw [List.map_append]
      show jn [] (L.map nine ++ [nine p]) = _
      rw [key _ _ hq9, List.nil_append, hj]
    rw [e2]
    by_cases h : p.length > 65535
    · simp only [if_pos h, if_neg (show ¬ (3 : Int) = 0 by decide)]
      exact Ev.now _
    · simp only [if_neg h, if_true, hlen]
      exact Ev.bind (rOf p hp) (Ev.now _)
theorem apd_len (b p : List Int) (E : Nat) (hb : b.length ≤ 1500) : (apd b p E).1.length ≤ 100000 := by
  unfold apd
  split
  · simp
  · rename_i h
    have := frmL_len_le 9 p (by omega)
    simp only [List.length_append, List.length_take]; omega
theorem same11 (a b : Int) : chartroomlaw11_same.f a b a b = some true := by simp [chartroomlaw11_same.f]
theorem japp_l0 (b p : List Int) (L : List (List Int)) (hb : Bytes b) (hs : b.length ≤ 1500) (hp : Pl p) (hL : ∀ q ∈ L, Pl q) (hf : Few11 L) : ∀ (d i : Nat), i + d = 2 → Ev (fun k => chartroomlaw11_JournalAppends.l0 k b p L b (i : Int)) true := by
  obtain ⟨E, w1, w2, w3, w4, w5⟩ := whole_facts b hb
  have w6 : (pays (jall b (b.length + 1) 0)).length ≤ 900 := by
    have h1 := (joinL_len ((pays (jall b (b.length + 1) 0)).map nine) 65535 (by omega) (by
      intro q hq
      obtain ⟨z, hz, rfl⟩ := List.mem_map.1 hq
      exact (w4 z hz).1)).2
    have h2 : ∀ M : List (List Int), 5 * M.length ≤ (joinL (M.map nine)).length := by
      intro M
      induction M with
      | nil => simp
      | cons q M ih =>
        rw [List.map_cons, joinL_cons, List.length_append, List.length_cons]
        have : 5 ≤ (frmL (nine q).1 (nine q).2).length := by rw [frmL_len]; unfold frmP; simp
        omega
    have := h2 (pays (jall b (b.length + 1) 0))
    rw [w3, List.length_take] at this
    omega
  intro d
  induction d with
  | zero =>
    intro i h
    refine ev_shift ?_
    simp only [chartroomlaw11_JournalAppends.l0, if_neg (show ¬ (i : Int) < 2 by omega)]
    refine Ev.bind (sameBytes b b (by omega)) ?_
    simp only [decide_true, if_true]
    exact works11_bind
  | succ d ih =>
    intro i h
    have hj := jn_len (L.map nine) []
    rw [List.length_map] at hj
    have hl := hf.1
    have hal := apd_len b p E hs
    have hjl : (jput L).1.length ≤ 1000000 := by
      have : (jput L).1.length ≤ [].length + 65550 * L.length := hj
      simp only [List.length_nil] at this; omega
    refine ev_shift ?_
    simp only [chartroomlaw11_JournalAppends.l0, if_pos (show (i : Int) < 2 by omega)]
    refine Ev.bind (vAppend b p hb (by omega) hp w1 w2) ?_
    refine Ev.bind (rAppend b p hb hs hp w2 w3 w4 w5 w6) ?_
    refine Ev.bind (vjput L (by omega) hL) ?_
    refine Ev.bind (rjput L (by omega) hL) ?_
    refine Ev.bind (sameBytes _ _ (by omega)) ?_
    simp only [decide_true, if_true, same11, Option.bind_some]
    refine Ev.bind (sameBytes _ _ (by omega)) ?_
    simp only [decide_true, if_true, journal_Of.f, Option.bind_some]
    refine Ev.bind (rOf p hp) ?_
    simp only [same11, Option.bind_some, Bool.not_true]
    refine ev_shift ?_
    simp only [chartroomlaw11_JournalAppends.j2, if_neg (show ¬ (false = true) by decide)]
    obtain ⟨r1, hr1, _⟩ := spoil (apd b p E).1 (by omega)
    obtain ⟨r2, hr2, _⟩ := spoil (jput L).1 (by omega)
    refine Ev.bind hr1 ?_
    refine Ev.bind hr2 ?_
    simp only [w64 ((i : Int) + 1) (by omega) (by omega)]
    exact ih (i + 1) (by omega)
theorem japp_works (b p : List Int) (L : List (List Int)) : Ev (fun k => chartroomlaw11_JournalAppends.j0 k b p L true) true := by
  refine ev_shift ?_
  simp only [chartroomlaw11_JournalAppends.j0, if_true]
  exact works11_bind
theorem japp_few (b p : List Int) (L : List (List Int)) (hb : Bytes b) (hs : b.length ≤ 1500) (hp : Pl p) (hL : ∀ q ∈ L, Pl q) : Ev (fun k => (chartroomlaw11_few.f k L).bind fun t => chartroomlaw11_JournalAppends.j0 k b p L (!t)) true := by
  refine Ev.bind (few11 L) ?_
  by_cases h : Few11 L
  · simp only [decide_eq_true h, Bool.not_true]
    refine ev_shift ?_
    simp only [chartroomlaw11_JournalAppends.j0, if_neg (show ¬ (false = true) by decide), own_some b (by omega), Option.bind_some]
    exact japp_l0 b p L hb hs hp hL h 2 0 (by omega)
  · simp only [decide_eq_false h, Bool.not_false]
    exact japp_works b p L
theorem japp_ev (b p : List Int) (L : List (List Int)) (hb : Bytes b) (hp : Pl p) (hL : ∀ q ∈ L, Pl q) : Ev (fun k => chartroomlaw11_JournalAppends.f k b p L) true := by
  unfold chartroomlaw11_JournalAppends.f
  by_cases h1 : (b.length : Int) > 1500
  · simp only [if_pos h1]; exact japp_works b p L
  · simp only [if_neg h1]
    by_cases h2 : (p.length : Int) > 200
    · simp only [if_pos h2]
      by_cases h3 : (p.length : Int) ≤ 65535
      · simp only [if_pos h3]; exact japp_works b p L
      · simp only [if_neg h3]; exact japp_few b p L hb (by omega) hp hL
    · simp only [if_neg h2]; exact japp_few b p L hb (by omega) hp hL
theorem JournalAppends (b : List Int) (_ : b.length * Try.prog.bytesOf 5 ≤ reachBytes) (hb : ∀ y ∈ b, (fun n => (Lit.int .u8 n).wf = true) y) (p : List Int) (hz : p.length * Try.prog.bytesOf 5 ≤ reachBytes) (hp : ∀ y ∈ p, (fun n => (Lit.int .u8 n).wf = true) y)
    (l : List (List Int)) (_ : l.length * Try.prog.bytesOf 24 ≤ reachBytes) (hl : ∀ y ∈ l, Ok24 y) : ∃ k, chartroomlaw11_JournalAppends.f k b p l = some true :=
  ev_true (japp_ev b p l (Bytes.of_wf hb) ⟨Bytes.of_wf hp, by rw [bytes5] at hz; simpa [reachBytes] using hz⟩ (fun q h => ⟨Bytes.of_wf (hl q h).2, (hl q h).1⟩))
end Go.Proofs.Ytoeabgeglgiobaa.Pure
