/- Edits: whether one may be, how many bytes it is, and how edits are read, by the program and by the reference alike. No condition but the bounds in each theorem. -/
import Derived.Test.Ytoeabgeglgiobaac5bQVtext
import Derived.Test.Ytoeabgeglgiobaac5bGdelta0
import Derived.Test.Ytoeabgeglgiobaac5bQDed
import Derived.Test.Ytoeabgeglgiobaac5bP0
import Derived.Test.Ytoeabgeglgiobaac5bGlaw050
namespace Go.Proofs.Ytoeabgeglgiobaa.Q
open Go.RowKit Go.Proofs.YtoeabgeglgiobaaW.PrintWords Go.Proofs.YtoeabgeglgiobaaW.PrintLast Go.Proofs.YtoeabgeglgiobaaW.PrintMore
open Go.Proofs.Ytoeabgeglgiobaa.P
/-- One edit is read: the error, the edit, the place behind. -/
def pstep (b : List Int) (a : Int) : Int × Ed × Int :=
  if rd b a = 2 then
    if (takeText b (a + 1)).2.2 ≠ 0 then ((takeText b (a + 1)).2.2, (0, 0, emptyS), 0)
    else if rightB 2 0 (takeText b (a + 1)).1 = true then (0, (2, 0, (takeText b (a + 1)).1), (takeText b (a + 1)).2.1) else (2, (0, 0, emptyS), 0)
  else if rd b a = 1 ∨ rd b a = 3 then
    if (Q.take b (a + 1)).2.2 ≠ 0 then ((Q.take b (a + 1)).2.2, (0, 0, emptyS), 0)
    else if 0 < (Q.take b (a + 1)).1 ∧ (Q.take b (a + 1)).1 ≤ 2147483647 then (0, (rd b a, (Q.take b (a + 1)).1, emptyS), (Q.take b (a + 1)).2.1) else (2, (0, 0, emptyS), 0)
  else (60, (0, 0, emptyS), 0)
theorem takeText_bd (b : List Int) (hb : Bytes b) (a : Int) (h : (takeText b a).2.2 = 0) : 0 ≤ a ∧ a < (takeText b a).2.1 ∧ (takeText b a).2.1 ≤ b.length := by
  unfold takeText at h ⊢
  by_cases h0 : (Q.take b a).2.2 = 0
  · have bd := take_bd b hb a h0
    rw [if_pos h0] at h ⊢
    by_cases h1 : (Q.take b a).1 > (b.length : Int) - (Q.take b a).2.1
    · rw [if_pos h1] at h; simp at h
    · rw [if_neg h1]; simp only; omega
  · rw [if_neg h0] at h; exact absurd h h0
theorem pstep_ok (b : List Int) (hb : Bytes b) (a : Int) (h : (pstep b a).1 = 0) : a + 1 < (pstep b a).2.2 ∧ (pstep b a).2.2 ≤ b.length := by
  unfold pstep at h ⊢
  by_cases h2 : rd b a = 2
  · rw [if_pos h2] at h ⊢
    by_cases h0 : (takeText b (a + 1)).2.2 ≠ 0
    · rw [if_pos h0] at h; exact absurd h h0
    · rw [if_neg h0] at h ⊢
      have := takeText_bd b hb (a + 1) (by omega)
      split
      · exact ⟨by simp only; omega, by simp only; omega⟩
      · rename_i q; rw [if_neg q] at h; exact absurd h (by simp)
  · rw [if_neg h2] at h ⊢
    by_cases h1 : rd b a = 1 ∨ rd b a = 3
    · rw [if_pos h1] at h ⊢
      by_cases h0 : (Q.take b (a + 1)).2.2 ≠ 0
      · rw [if_pos h0] at h; exact absurd h h0
      · rw [if_neg h0] at h ⊢
        have := take_bd b hb (a + 1) (by omega)
        split
        · exact ⟨by simp only; omega, by simp only; omega⟩
        · rename_i q; rw [if_neg q] at h; exact absurd h (by simp)
    · rw [if_neg h1] at h; exact absurd h (by simp)
theorem vdtake (b : List Int) (hb : Bytes b) (hs : b.length ≤ 1000000) (a : Nat) (ha : a < b.length) : ∃ r, Ev (fun k => delta_take.f k b (a : Int)) r ∧ r.2.2.2.2 = (pstep b (a : Int)).1 ∧ ((pstep b (a : Int)).1 = 0 → r = ((pstep b (a : Int)).2.1.1, (pstep b (a : Int)).2.1.2.1, (pstep b (a : Int)).2.1.2.2, (pstep b (a : Int)).2.2, 0)) := by
  have hw : wrap64 ((a : Int) + 1) = a + 1 := w64 _ (by omega) (by omega)
  unfold delta_take.f pstep
  simp only [if_pos (show (0 : Int) ≤ a by omega), if_pos (show (a : Int) < b.length by omega), hw]
  by_cases h2 : rd b (a : Int) = 2
  · simp only [h2, if_true]
    by_cases h0 : (takeText b ((a : Int) + 1)).2.2 = 0
    · rw [if_neg (by simpa using h0)]
      cases hr : rightB 2 0 (takeText b ((a : Int) + 1)).1 with
      | true =>
        refine ⟨(2, 0, (takeText b ((a : Int) + 1)).1, (takeText b ((a : Int) + 1)).2.1, 0), ?_, by simp, by simp⟩
        refine Ev.bind (vtext_take b hb (by omega) _) ?_
        simp only [if_pos h0]
        refine Ev.bind (vright _ _ _) ?_
        simp only [hr, if_true]
        exact ev_some (by rw [h0])
      | false =>
        refine ⟨(2, 0, (takeText b ((a : Int) + 1)).1, (takeText b ((a : Int) + 1)).2.1, 2), ?_, by simp, by simp⟩
        refine Ev.bind (vtext_take b hb (by omega) _) ?_
        simp only [if_pos h0]
        refine Ev.bind (vright _ _ _) ?_
        simp only [hr, if_neg (show ¬ (false = true) by decide)]
        exact Ev.now _
    · rw [if_pos h0]
      refine ⟨(2, 0, (takeText b ((a : Int) + 1)).1, (takeText b ((a : Int) + 1)).2.1, (takeText b ((a : Int) + 1)).2.2), ?_, rfl, fun z => absurd z h0⟩
      refine Ev.bind (vtext_take b hb (by omega) _) ?_
      simp only [if_neg h0]
      exact Ev.now _
  · rw [if_neg h2]
    simp only [if_neg h2]
    by_cases h1 : rd b (a : Int) = 1 ∨ rd b (a : Int) = 3
    · rw [if_pos h1]
      obtain ⟨r, hr⟩ : ∃ r, r = Q.take b ((a : Int) + 1) := ⟨_, rfl⟩
      have bd := take_bd b hb ((a : Int) + 1)
      rw [← hr] at bd ⊢
      have core : ∃ q : Int × Int × ByteArray × Int × Int, Ev (fun k => delta_take.j0 k b (a : Int) 0 true (rd b (a : Int)) 0 (⟨#[]⟩ : ByteArray)) q ∧
          q.2.2.2.2 = (if r.2.2 ≠ 0 then (r.2.2, ((0 : Int), (0 : Int), emptyS), (0 : Int)) else if 0 < r.1 ∧ r.1 ≤ 2147483647 then (0, (rd b (a : Int), r.1, emptyS), r.2.1) else (2, (0, 0, emptyS), 0)).1 ∧
          ((if r.2.2 ≠ 0 then (r.2.2, ((0 : Int), (0 : Int), emptyS), (0 : Int)) else if 0 < r.1 ∧ r.1 ≤ 2147483647 then (0, (rd b (a : Int), r.1, emptyS), r.2.1) else (2, (0, 0, emptyS), 0)).1 = 0 → q = (rd b (a : Int), r.1, emptyS, r.2.1, 0)) := by
        have start : ∀ q, Ev (fun k => (if r.2.2 = 0 then (delta_take.j1 k r.2.1 r.2.2 r.1 (decide (r.1 > 2147483647)) (rd b (a : Int)) 0 (⟨#[]⟩ : ByteArray)) else (delta_take.j1 k r.2.1 r.2.2 r.1 false (rd b (a : Int)) 0 (⟨#[]⟩ : ByteArray)))) q →
            Ev (fun k => delta_take.j0 k b (a : Int) 0 true (rd b (a : Int)) 0 (⟨#[]⟩ : ByteArray)) q := fun q hq => by
          refine ev_shift ?_
          simp only [delta_take.j0, if_true, hw]
          refine Ev.bind (vtake b hb (by omega) _) ?_
          rw [← hr]
          exact hq
        by_cases h0 : r.2.2 = 0
        · have bd := bd h0
          rw [if_neg (by simpa using h0)]
          by_cases hg : r.1 > 2147483647
          · rw [if_neg (by omega)]
            refine ⟨(0, 0, (⟨#[]⟩ : ByteArray), 0, 2), start _ ?_, rfl, fun z => by simp at z⟩
            simp only [if_pos h0, decide_eq_true hg]
            refine ev_shift ?_
            simp only [delta_take.j1, if_true]
            exact Ev.now _
          · have hw1 : wrap64 r.1 = r.1 := w64 _ (by omega) (by omega)
            have hrb : rightB (rd b (a : Int)) r.1 (⟨#[]⟩ : ByteArray) = decide (0 < r.1) := by
              unfold rightB
              rw [if_pos h1, decide_eq_decide]
              exact ⟨fun z => z.1, fun z => ⟨z, by omega, rfl⟩⟩
            by_cases hz : 0 < r.1
            · rw [if_pos ⟨hz, by omega⟩]
              refine ⟨(rd b (a : Int), r.1, (⟨#[]⟩ : ByteArray), r.2.1, 0), start _ ?_, rfl, fun _ => rfl⟩
              simp only [if_pos h0, decide_eq_false hg]
              refine ev_shift ?_
              simp only [delta_take.j1, if_neg (show ¬ (false = true) by decide), if_pos h0, hw1]
              refine Ev.bind (vright _ _ _) ?_
              simp only [hrb, decide_eq_true hz, if_true]
              exact ev_some (by rw [h0])
            · rw [if_neg (fun z => hz z.1)]
              refine ⟨(rd b (a : Int), r.1, (⟨#[]⟩ : ByteArray), r.2.1, 2), start _ ?_, rfl, fun z => by simp at z⟩
              simp only [if_pos h0, decide_eq_false hg]
              refine ev_shift ?_
              simp only [delta_take.j1, if_neg (show ¬ (false = true) by decide), if_pos h0, hw1]
              refine Ev.bind (vright _ _ _) ?_
              simp only [hrb, decide_eq_false hz, if_neg (show ¬ (false = true) by decide)]
              exact Ev.now _
        · rw [if_pos h0]
          refine ⟨(rd b (a : Int), wrap64 r.1, (⟨#[]⟩ : ByteArray), r.2.1, r.2.2), start _ ?_, rfl, fun z => absurd z h0⟩
          simp only [if_neg h0]
          refine ev_shift ?_
          simp only [delta_take.j1, if_neg (show ¬ (false = true) by decide), if_neg h0]
          exact Ev.now _
      obtain ⟨q, e1, e2, e3⟩ := core
      refine ⟨q, ?_, e2, fun z => ?_⟩
      · rcases h1 with h1 | h1
        · simp only [if_pos h1]
          have : (rd b (a : Int) == 1) = true := beq_iff_eq.2 h1
          rw [this]; exact e1
        · have h1' : ¬ rd b (a : Int) = 1 := by omega
          simp only [if_neg h1']
          have : (rd b (a : Int) == 3) = true := beq_iff_eq.2 h1
          rw [this]; exact e1
      · have e4 := e3 z
        by_cases h0 : r.2.2 = 0
        · rw [if_neg (by simpa using h0)] at z ⊢
          by_cases hc : 0 < r.1 ∧ r.1 ≤ 2147483647
          · rw [if_pos hc]; exact e4
          · rw [if_neg hc] at z; exact absurd z (by simp)
        · rw [if_pos h0] at z; exact absurd z h0
    · rw [if_neg h1]
      have h11 : ¬ rd b (a : Int) = 1 := fun z => h1 (.inl z)
      have h13 : (rd b (a : Int) == 3) = false := by
        rw [beq_eq_false_iff_ne]; exact fun z => h1 (.inr z)
      refine ⟨(rd b (a : Int), 0, (⟨#[]⟩ : ByteArray), 0, 60), ?_, rfl, fun z => by simp at z⟩
      simp only [if_neg h11, h13]
      refine ev_shift ?_
      simp only [delta_take.j0, if_neg (show ¬ (false = true) by decide)]
      exact Ev.now _
/-- Edits are read, from a place on, behind what there is. -/
def dparse (b : List Int) : Nat → Int → List Ed → List Ed × Int
  | 0, _, acc => (acc, 0)
  | m + 1, a, acc => if a < b.length then (if (pstep b a).1 = 0 then dparse b m (pstep b a).2.2 (acc ++ [(pstep b a).2.1]) else ([], (pstep b a).1)) else (acc, 0)
theorem vdparse_l0 (b : List Int) (hb : Bytes b) (hs : b.length ≤ 1000000) : ∀ (m : Nat) (a : Nat) (acc : List Ed), a ≤ b.length → b.length - a < m → acc.length ≤ a →
    Ev (fun k => delta_Parse.l0 k b (acc.map mk153) (a : Int)) ((dparse b m a acc).1.map mk153, (dparse b m a acc).2) := by
  intro m
  induction m with
  | zero => intro a acc h0 h1 h2; omega
  | succ m ih =>
    intro a acc h0 h1 h2
    refine ev_shift ?_
    unfold dparse
    by_cases hl : a < b.length
    · obtain ⟨r, hr, e1, e2⟩ := vdtake b hb hs a hl
      simp only [delta_Parse.l0, if_pos (show (a : Int) < b.length by omega)]
      refine Ev.bind hr ?_
      by_cases q : (pstep b (a : Int)).1 = 0
      · have hk := pstep_ok b hb a q
        obtain ⟨x, hx⟩ : ∃ x : Nat, (pstep b (a : Int)).2.2 = (x : Int) := ⟨(pstep b (a : Int)).2.2.toNat, by omega⟩
        rw [if_pos q, e2 q]
        simp only [if_true, List.length_map, if_pos (show acc.length < 4398046511104 by omega)]
        have := ih x (acc ++ [(pstep b (a : Int)).2.1]) (by omega) (by omega) (by simp; omega)
        rw [hx]
        rw [List.map_append] at this
        exact this
      · rw [if_neg q]
        simp only [e1, if_neg q]
        exact Ev.now _
    · simp only [delta_Parse.l0, if_neg (show ¬ (a : Int) < b.length by omega)]
      exact Ev.now _
theorem vdparse (b : List Int) (hb : Bytes b) (hs : b.length ≤ 1000000) : Ev (fun k => delta_Parse.f k b) ((dparse b (b.length + 1) 0 []).1.map mk153, (dparse b (b.length + 1) 0 []).2) := by
  unfold delta_Parse.f
  exact vdparse_l0 b hb hs (b.length + 1) 0 [] (by omega) (by omega) (by simp)
theorem same05 (L : List Ed) (hl : L.length ≤ 1000000) : Ev (fun k => chartroomlaw05_same.f k (L.map mk153) (L.map mk226)) true := by
  unfold chartroomlaw05_same.f
  simp only [List.length_map, if_true]
  have key : ∀ (d i : Nat), i + d = L.length → Ev (fun k => chartroomlaw05_same.l0 k (L.map mk153) (L.map mk226) (i : Int)) true := by
    intro d
    induction d with
    | zero =>
      intro i h
      refine ev_shift ?_
      simp only [chartroomlaw05_same.l0, List.length_map, if_neg (show ¬ (i : Int) < L.length by omega)]
      exact Ev.now _
    | succ d ih =>
      intro i h
      have hi : i < L.length := by omega
      refine ev_shift ?_
      simp only [chartroomlaw05_same.l0, List.length_map, if_pos (show (i : Int) < L.length by omega), if_pos (show (0 : Int) ≤ i by omega), get153 L i hi, get226 L i hi, mk153, mk226, if_true, w64 ((i : Int) + 1) (by omega) (by omega)]
      exact ih (i + 1) (by omega)
  exact key L.length 0 (by omega)
end Go.Proofs.Ytoeabgeglgiobaa.Q
