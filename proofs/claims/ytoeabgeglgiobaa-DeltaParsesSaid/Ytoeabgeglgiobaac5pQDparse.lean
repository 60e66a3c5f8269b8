/- Edits: whether one may be, how many bytes it is, and how edits are read, by the program and by the reference alike. No condition but the bounds in each theorem. -/
import Derived.Test.Ytoeabgeglgiobaac5pQVtext
import Derived.Test.Ytoeabgeglgiobaac5pGdelta0
import Derived.Test.Ytoeabgeglgiobaac5pQDed
import Derived.Test.Ytoeabgeglgiobaac5pGref050
import Derived.Test.Ytoeabgeglgiobaac5pGlaw050
namespace Go.Proofs.Ytoeabgeglgiobaa.Q
open Go.RowKit Go.Proofs.YtoeabgeglgiobaaW.PrintWords Go.Proofs.YtoeabgeglgiobaaW.PrintLast Go.Proofs.YtoeabgeglgiobaaW.PrintMore
open Go.Proofs.Ytoeabgeglgiobaa.P
theorem rright (kd n : Int) (s : ByteArray) : chartroomref05_right.f kd n s = some (rightB kd n s) := by
  unfold chartroomref05_right.f rightB
  have hz : (((s.size : Int) == 0) : Bool) = decide (s.size = 0) := by
    rw [Bool.eq_iff_iff, beq_iff_eq, decide_eq_true_iff]; omega
  by_cases h2 : kd = 2
  · subst h2
    rw [if_pos rfl, if_neg (show ¬ ((2 : Int) = 1 ∨ (2 : Int) = 3) by decide)]
    by_cases hn : n = 0
    · rw [if_pos hn, decide_eq_decide.2 (show ((s.size : Int) > 0) ↔ (2 : Int) = 2 ∧ n = 0 ∧ s.size ≠ 0 from ⟨fun z => ⟨rfl, hn, by omega⟩, fun z => by have := z.2.2; omega⟩)]
    · rw [if_neg hn, decide_eq_false (show ¬ ((2 : Int) = 2 ∧ n = 0 ∧ s.size ≠ 0) from fun z => hn z.2.1)]
  · rw [if_neg h2]
    have body : (if n ≥ 1 then (if n ≤ 2147483647 then (some ((s.size : Int) == 0)) else (some false)) else (some false)) = some (decide (0 < n ∧ n ≤ 2147483647 ∧ s.size = 0)) := by
      by_cases h1 : n ≥ 1
      · by_cases h3 : n ≤ 2147483647
        · rw [if_pos h1, if_pos h3, hz, decide_eq_decide.2 (show (s.size = 0) ↔ (0 < n ∧ n ≤ 2147483647 ∧ s.size = 0) from ⟨fun z => ⟨by omega, h3, z⟩, fun z => z.2.2⟩)]
        · rw [if_pos h1, if_neg h3, decide_eq_false (show ¬ (0 < n ∧ n ≤ 2147483647 ∧ s.size = 0) from fun z => h3 z.2.1)]
      · rw [if_neg h1, decide_eq_false (show ¬ (0 < n ∧ n ≤ 2147483647 ∧ s.size = 0) from fun z => by have := z.1; omega)]
    by_cases h1 : kd = 1
    · rw [if_pos h1, if_pos (show kd = 1 ∨ kd = 3 from .inl h1)]; exact body
    · rw [if_neg h1]
      by_cases h3 : kd = 3
      · rw [if_pos h3, if_pos (show kd = 1 ∨ kd = 3 from .inr h3)]; exact body
      · rw [if_neg h3, if_neg (show ¬ (kd = 1 ∨ kd = 3) from fun z => z.elim h1 h3), decide_eq_false (show ¬ (kd = 2 ∧ n = 0 ∧ s.size ≠ 0) from fun z => h2 z.1)]
/-- One edit is read: the error, the edit, the place behind. -/
def pstep (b : List Int) (a : Int) : Int × Ed × Int :=
  if rd b a = 2 then
    if (takeText b (a + 1)).2.2 ≠ 0 then ((takeText b (a + 1)).2.2, (0, 0, emptyS), 0)
    else if rightB 2 0 (takeText b (a + 1)).1 = true then (0, (2, 0, (takeText b (a + 1)).1), (takeText b (a + 1)).2.1) else (2, (0, 0, emptyS), 0)
  else if rd b a = 1 ∨ rd b a = 3 then
    if (Q.take b (a + 1)).2.2 ≠ 0 then ((Q.take b (a + 1)).2.2, (0, 0, emptyS), 0)
    else if 0 < (Q.take b (a + 1)).1 ∧ (Q.take b (a + 1)).1 ≤ 2147483647 then (0, (rd b a, (Q.take b (a + 1)).1, emptyS), (Q.take b (a + 1)).2.1) else (2, (0, 0, emptyS), 0)
  else (60, (0, 0, emptyS), 0)
theorem takeText_bd (b : List Int) (hb : Bytes b) (a : Int) (h : (takeText b a).2.2 = 0) : 0 ≤ a ∧ a < (takeText b a).2.1 ∧ (takeText b a).2.1 ≤ b.length := by
  unfold takeText at h ⊢
  by_cases h0 : (Q.take b a).2.2 = 0
  · have bd := take_bd b hb a h0
    rw [if_pos h0] at h ⊢
    by_cases h1 : (Q.take b a).1 > (b.length : Int) - (Q.take b a).2.1
    · rw [if_pos h1] at h; simp at h
    · rw [if_neg h1]; simp only; omega
  · rw [if_neg h0] at h; exact absurd h h0
theorem pstep_ok (b : List Int) (hb : Bytes b) (a : Int) (h : (pstep b a).1 = 0) : a + 1 < (pstep b a).2.2 ∧ (pstep b a).2.2 ≤ b.length := by
  unfold pstep at h ⊢
  by_cases h2 : rd b a = 2
  · rw [if_pos h2] at h ⊢
    by_cases h0 : (takeText b (a + 1)).2.2 ≠ 0
    · rw [if_pos h0] at h; exact absurd h h0
    · rw [if_neg h0] at h ⊢
      have := takeText_bd b hb (a + 1) (by omega)
      split
      · exact ⟨by simp only; omega, by simp only; omega⟩
      · rename_i q; rw [if_neg q] at h; exact absurd h (by simp)
  · rw [if_neg h2] at h ⊢
    by_cases h1 : rd b a = 1 ∨ rd b a = 3
    · rw [if_pos h1] at h ⊢
      by_cases h0 : (Q.take b (a + 1)).2.2 ≠ 0
      · rw [if_pos h0] at h; exact absurd h h0
      · rw [if_neg h0] at h ⊢
        have := take_bd b hb (a + 1) (by omega)
        split
        · exact ⟨by simp only; omega, by simp only; omega⟩
        · rename_i q; rw [if_neg q] at h; exact absurd h (by simp)
    · rw [if_neg h1] at h; exact absurd h (by simp)
theorem vdtake (b : List Int) (hb : Bytes b) (hs : b.length ≤ 1000000) (a : Nat) (ha : a < b.length) : ∃ r, Ev (fun k => delta_take.f k b (a : Int)) r ∧ r.2.2.2.2 = (pstep b (a : Int)).1 ∧ ((pstep b (a : Int)).1 = 0 → r = ((pstep b (a : Int)).2.1.1, (pstep b (a : Int)).2.1.2.1, (pstep b (a : Int)).2.1.2.2, (pstep b (a : Int)).2.2, 0)) := by
  have hw : wrap64 ((a : Int) + 1) = a + 1 := w64 _ (by omega) (by omega)
  unfold delta_take.f pstep
  simp only [if_pos (show (0 : Int) ≤ a by omega), if_pos (show (a : Int) < b.length by omega), hw]
  by_cases h2 : rd b (a : Int) = 2
  · simp only [h2, if_true]
    by_cases h0 : (takeText b ((a : Int) + 1)).2.2 = 0
    · rw [if_neg (by simpa using h0)]
      cases hr : rightB 2 0 (takeText b ((a : Int) + 1)).1 with
      | true =>
        refine ⟨(2, 0, (takeText b ((a : Int) + 1)).1, (takeText b ((a : Int) + 1)).2.1, 0), ?_, by simp, by simp⟩
        refine Ev.bind (vtext_take b hb (by omega) _) ?_
        simp only [if_pos h0]
        refine Ev.bind (vright _ _ _) ?_
        simp only [hr, if_true]
        exact ev_some (by rw [h0])
      | false =>
        refine ⟨(2, 0, (takeText b ((a : Int) + 1)).1, (takeText b ((a : Int) + 1)).2.1, 2), ?_, by simp, by simp⟩
        refine Ev.bind (vtext_take b hb (by omega) _) ?_
        simp only [if_pos h0]
        refine Ev.bind (vright _ _ _) ?_
        simp only [hr, if_neg (show ¬ (false = true) by decide)]
        exact Ev.now _
    · rw [if_pos h0]
      refine ⟨(2, 0, (takeText b ((a : Int) + 1)).1, (takeText b ((a : Int) + 1)).2.1, (takeText b ((a : Int) + 1)).2.2), ?_, rfl, fun z => absurd z h0⟩
      refine Ev.bind (vtext_take b hb (by omega) _) ?_
      simp only [if_neg h0]
      exact Ev.now _
  · rw [if_neg h2]
    simp only [if_neg h2]
    by_cases h1 : rd b (a : Int) = 1 ∨ rd b (a : Int) = 3
    · rw [if_pos h1]
      obtain ⟨r, hr⟩ : ∃ r, r = Q.take b ((a : Int) + 1) := ⟨_, rfl⟩
      have bd := take_bd b hb ((a : Int) + 1)
      rw [← hr] at bd ⊢
      have core : ∃ q : Int × Int × ByteArray × Int × Int, Ev (fun k => delta_take.j0 k b (a : Int) 0 true (rd b (a : Int)) 0 (⟨#[]⟩ : ByteArray)) q ∧
          q.2.2.2.2 = (if r.2.2 ≠ 0 then (r.2.2, ((0 : Int), (0 : Int), emptyS), (0 : Int)) else if 0 < r.1 ∧ r.1 ≤ 2147483647 then (0, (rd b (a : Int), r.1, emptyS), r.2.1) else (2, (0, 0, emptyS), 0)).1 ∧
          ((if r.2.2 ≠ 0 then (r.2.2, ((0 : Int), (0 : Int), emptyS), (0 : Int)) else if 0 < r.1 ∧ r.1 ≤ 2147483647 then (0, (rd b (a : Int), r.1, emptyS), r.2.1) else (2, (0, 0, emptyS), 0)).1 = 0 → q = (rd b (a : Int), r.1, emptyS, r.2.1, 0)) := by
        have start : ∀ q, Ev (fun k => (if r.2.2 = 0 then (delta_take.j1 k r.2.1 r.2.2 r.1 (decide (r.1 > 2147483647)) (rd b (a : Int)) 0 (⟨#[]⟩ : ByteArray)) else (delta_take.j1 k r.2.1 r.2.2 r.1 false (rd b (a : Int)) 0 (⟨#[]⟩ : ByteArray)))) q →
            Ev (fun k => delta_take.j0 k b (a : Int) 0 true (rd b (a : Int)) 0 (⟨#[]⟩ : ByteArray)) q := fun q hq => by
          refine ev_shift ?_
          simp only [delta_take.j0, if_true, hw]
          refine Ev.bind (vtake b hb (by omega) _) ?_
          rw [← hr]
          exact hq
        by_cases h0 : r.2.2 = 0
        · have bd := bd h0
          rw [if_neg (by simpa using h0)]
          by_cases hg : r.1 > 2147483647
          · rw [if_neg (by omega)]
            refine ⟨(0, 0, (⟨#[]⟩ : ByteArray), 0, 2), start _ ?_, rfl, fun z => by simp at z⟩
            simp only [if_pos h0, decide_eq_true hg]
            refine ev_shift ?_
            simp only [delta_take.j1, if_true]
            exact Ev.now _
          · have hw1 : wrap64 r.1 = r.1 := w64 _ (by omega) (by omega)
            have hrb : rightB (rd b (a : Int)) r.1 (⟨#[]⟩ : ByteArray) = decide (0 < r.1) := by
              unfold rightB
              rw [if_pos h1, decide_eq_decide]
              exact ⟨fun z => z.1, fun z => ⟨z, by omega, rfl⟩⟩
            by_cases hz : 0 < r.1
            · rw [if_pos ⟨hz, by omega⟩]
              refine ⟨(rd b (a : Int), r.1, (⟨#[]⟩ : ByteArray), r.2.1, 0), start _ ?_, rfl, fun _ => rfl⟩
              simp only [if_pos h0, decide_eq_false hg]
              refine ev_shift ?_
              simp only [delta_take.j1, if_neg (show ¬ (false = true) by decide), if_pos h0, hw1]
              refine Ev.bind (vright _ _ _) ?_
              simp only [hrb, decide_eq_true hz, if_true]
              exact ev_some (by rw [h0])
            · rw [if_neg (fun z => hz z.1)]
              refine ⟨(rd b (a : Int), r.1, (⟨#[]⟩ : ByteArray), r.2.1, 2), start _ ?_, rfl, fun z => by simp at z⟩
              simp only [if_pos h0, decide_eq_false hg]
              refine ev_shift ?_
              simp only [delta_take.j1, if_neg (show ¬ (false = true) by decide), if_pos h0, hw1]
              refine Ev.bind (vright _ _ _) ?_
              simp only [hrb, decide_eq_false hz, if_neg (show ¬ (false = true) by decide)]
              exact Ev.now _
        · rw [if_pos h0]
          refine ⟨(rd b (a : Int), wrap64 r.1, (⟨#[]⟩ : ByteArray), r.2.1, r.2.2), start _ ?_, rfl, fun z => absurd z h0⟩
          simp only [if_neg h0]
          refine ev_shift ?_
          simp only [delta_take.j1, if_neg (show ¬ (false = true) by decide), if_neg h0]
          exact Ev.now _
      obtain ⟨q, e1, e2, e3⟩ := core
      refine ⟨q, ?_, e2, fun z => ?_⟩
      · rcases h1 with h1 | h1
        · simp only [if_pos h1]
          have : (rd b (a : Int) == 1) = true := beq_iff_eq.2 h1
          rw [this]; exact e1
        · have h1' : ¬ rd b (a : Int) = 1 := by omega
          simp only [if_neg h1']
          have : (rd b (a : Int) == 3) = true := beq_iff_eq.2 h1
          rw [this]; exact e1
      · have e4 := e3 z
        by_cases h0 : r.2.2 = 0
        · rw [if_neg (by simpa using h0)] at z ⊢
          by_cases hc : 0 < r.1 ∧ r.1 ≤ 2147483647
          · rw [if_pos hc]; exact e4
          · rw [if_neg hc] at z; exact absurd z (by simp)
        · rw [if_pos h0] at z; exact absurd z h0
    · rw [if_neg h1]
      have h11 : ¬ rd b (a : Int) = 1 := fun z => h1 (.inl z)
      have h13 : (rd b (a : Int) == 3) = false := by
        rw [beq_eq_false_iff_ne]; exact fun z => h1 (.inr z)
      refine ⟨(rd b (a : Int), 0, (⟨#[]⟩ : ByteArray), 0, 60), ?_, rfl, fun z => by simp at z⟩
      simp only [if_neg h11, h13]
      refine ev_shift ?_
      simp only [delta_take.j0, if_neg (show ¬ (false = true) by decide)]
      exact Ev.now _
/-- Edits are read, from a place on, behind what there is. -/
def dparse (b : List Int) : Nat → Int → List Ed → List Ed × Int
  | 0, _, acc => (acc, 0)
  | m + 1, a, acc => if a < b.length then (if (pstep b a).1 = 0 then dparse b m (pstep b a).2.2 (acc ++ [(pstep b a).2.1]) else ([], (pstep b a).1)) else (acc, 0)
theorem dparse_len (b : List Int) (hb : Bytes b) : ∀ (m : Nat) (a : Int) (acc : List Ed), 0 ≤ a → a ≤ b.length → ((dparse b m a acc).1.length : Int) ≤ acc.length + ((b.length : Int) - a) := by
  intro m
  induction m with
  | zero => intro a acc h0 h1; simp [dparse]; omega
  | succ m ih =>
    intro a acc h0 h1
    unfold dparse
    split
    · split
      · rename_i h
        have hk := pstep_ok b hb a h
        have := ih (pstep b a).2.2 (acc ++ [(pstep b a).2.1]) (by omega) hk.2
        simp only [List.length_append, List.length_singleton] at this
        omega
      · simp; omega
    · simp; omega
theorem vdparse_l0 (b : List Int) (hb : Bytes b) (hs : b.length ≤ 1000000) : ∀ (m : Nat) (a : Nat) (acc : List Ed), a ≤ b.length → b.length - a < m → acc.length ≤ a →
    Ev (fun k => delta_Parse.l0 k b (acc.map mk153) (a : Int)) ((dparse b m a acc).1.map mk153, (dparse b m a acc).2) := by
  intro m
  induction m with
  | zero => intro a acc h0 h1 h2; omega
  | succ m ih =>
    intro a acc h0 h1 h2
    refine ev_shift ?_
    unfold dparse
    by_cases hl : a < b.length
    · obtain ⟨r, hr, e1, e2⟩ := vdtake b hb hs a hl
      simp only [delta_Parse.l0, if_pos (show (a : Int) < b.length by omega)]
      refine Ev.bind hr ?_
      by_cases q : (pstep b (a : Int)).1 = 0
      · have hk := pstep_ok b hb a q
        obtain ⟨x, hx⟩ : ∃ x : Nat, (pstep b (a : Int)).2.2 = (x : Int) := ⟨(pstep b (a : Int)).2.2.toNat, by omega⟩
        rw [if_pos q, e2 q]
        simp only [if_true, List.length_map, if_pos (show acc.length < 4398046511104 by omega)]
        have := ih x (acc ++ [(pstep b (a : Int)).2.1]) (by omega) (by omega) (by simp; omega)
        rw [hx]
        rw [List.map_append] at this
        exact this
      · rw [if_neg q]
        simp only [e1, if_neg q]
        exact Ev.now _
    · simp only [delta_Parse.l0, if_neg (show ¬ (a : Int) < b.length by omega)]
      exact Ev.now _
theorem vdparse (b : List Int) (hb : Bytes b) (hs : b.length ≤ 1000000) : Ev (fun k => delta_Parse.f k b) ((dparse b (b.length + 1) 0 []).1.map mk153, (dparse b (b.length + 1) 0 []).2) := by
  unfold delta_Parse.f
  exact vdparse_l0 b hb hs (b.length + 1) 0 [] (by omega) (by omega) (by simp)
theorem rdparse_l0 (b : List Int) (hb : Bytes b) (hs : b.length ≤ 1000000) : ∀ (m : Nat) (a : Nat) (acc : List Ed), a ≤ b.length → b.length - a < m → acc.length ≤ a →
    Ev (fun k => chartroomref05_Parse.l0 k b (acc.map mk226) (a : Int)) ((dparse b m a acc).1.map mk226, (dparse b m a acc).2) := by
  intro m
  induction m with
  | zero => intro a acc h0 h1 h2; omega
  | succ m ih =>
    intro a acc h0 h1 h2
    refine ev_shift ?_
    unfold dparse
    by_cases hl : a < b.length
    · have hw : wrap64 ((a : Int) + 1) = a + 1 := w64 _ (by omega) (by omega)
      have hlI : (a : Int) < b.length := by omega
      simp only [chartroomref05_Parse.l0, if_pos hlI, if_pos (show (0 : Int) ≤ a by omega)]
      have go : ∀ (bad : Bool), bad = decide (¬ (rd b (a : Int) = 2 ∨ rd b (a : Int) = 1 ∨ rd b (a : Int) = 3)) →
          Ev (fun k => chartroomref05_Parse.j1 k b (acc.map mk226) (a : Int) bad (rd b (a : Int)) 0 (⟨#[]⟩ : ByteArray))
            ((if (pstep b (a : Int)).1 = 0 then dparse b m (pstep b (a : Int)).2.2 (acc ++ [(pstep b (a : Int)).2.1]) else ([], (pstep b (a : Int)).1)).1.map mk226,
             (if (pstep b (a : Int)).1 = 0 then dparse b m (pstep b (a : Int)).2.2 (acc ++ [(pstep b (a : Int)).2.1]) else ([], (pstep b (a : Int)).1)).2) := by
        intro bad hbad
        refine ev_shift ?_
        by_cases hk : rd b (a : Int) = 2 ∨ rd b (a : Int) = 1 ∨ rd b (a : Int) = 3
        · rw [decide_eq_false (fun z => z hk)] at hbad
          subst hbad
          simp only [chartroomref05_Parse.j1, if_neg (show ¬ (false = true) by decide), hw]
          refine Ev.bind (rtake b hb (by omega) _) ?_
          -- behind the taking: the edit is looked at
          have fin2 : ∀ (x : Ed) (e nx : Int), (e = 0 → rightB x.1 x.2.1 x.2.2 = true → (pstep b (a : Int)) = (0, x, nx)) → (e = 0 → rightB x.1 x.2.1 x.2.2 = false → (pstep b (a : Int)).1 = 2) → (e ≠ 0 → (pstep b (a : Int)).1 = e) →
              Ev (fun k => chartroomref05_Parse.j2 k b (acc.map mk226) nx e x.1 x.2.1 x.2.2)
                ((if (pstep b (a : Int)).1 = 0 then dparse b m (pstep b (a : Int)).2.2 (acc ++ [(pstep b (a : Int)).2.1]) else ([], (pstep b (a : Int)).1)).1.map mk226,
                 (if (pstep b (a : Int)).1 = 0 then dparse b m (pstep b (a : Int)).2.2 (acc ++ [(pstep b (a : Int)).2.1]) else ([], (pstep b (a : Int)).1)).2) := by
            intro x e nx k1 k2 k3
            refine ev_shift ?_
            simp only [chartroomref05_Parse.j2, rright, Option.bind_some]
            by_cases he : e = 0
            · simp only [if_pos he]
              cases hr : rightB x.1 x.2.1 x.2.2 with
              | true =>
                have kk := k1 he hr
                have hq : (pstep b (a : Int)).1 = 0 := by rw [kk]
                have hok := pstep_ok b hb a hq
                rw [kk] at hok ⊢
                simp only at hok
                obtain ⟨y, hy⟩ : ∃ y : Nat, nx = (y : Int) := ⟨nx.toNat, by omega⟩
                subst hy
                simp only [if_true, List.length_map, if_pos (show acc.length < 4398046511104 by omega)]
                have := ih y (acc ++ [x]) (by omega) (by omega) (by simp; omega)
                rw [List.map_append] at this
                exact this
              | false =>
                have kk := k2 he hr
                rw [kk]
                simp only [if_neg (show ¬ (false = true) by decide), if_neg (show ¬ (2 : Int) = 0 by decide)]
                exact Ev.now _
            · simp only [if_neg he]
              rw [k3 he, if_neg he]
              exact Ev.now _
          by_cases h2 : rd b (a : Int) = 2
          · simp only [if_pos h2]
            refine Ev.bind (rtext_take b hb (by omega) _) ?_
            have := fin2 (2, 0, (takeText b ((a : Int) + 1)).1) (takeText b ((a : Int) + 1)).2.2 (takeText b ((a : Int) + 1)).2.1
              (fun e r => by unfold pstep; rw [if_pos h2, if_neg (by simpa using e), if_pos r])
              (fun e r => by unfold pstep; rw [if_pos h2, if_neg (by simpa using e), if_neg (by rw [r]; decide)])
              (fun e => by unfold pstep; rw [if_pos h2, if_pos e])
            rw [h2]
            exact this
          · simp only [if_neg h2]
            have h1 : rd b (a : Int) = 1 ∨ rd b (a : Int) = 3 := hk.resolve_left h2
            have bd := take_bd b hb ((a : Int) + 1)
            have er := take_err b ((a : Int) + 1)
            obtain ⟨r, hr⟩ : ∃ r, r = Q.take b ((a : Int) + 1) := ⟨_, rfl⟩
            have hps : pstep b (a : Int) = (if r.2.2 ≠ 0 then (r.2.2, (0, 0, emptyS), 0) else if 0 < r.1 ∧ r.1 ≤ 2147483647 then (0, (rd b (a : Int), r.1, emptyS), r.2.1) else (2, (0, 0, emptyS), 0)) := by
              unfold pstep; rw [if_neg h2, if_pos h1, hr]
            rw [← hr] at bd er ⊢
            have hmn : 0 ≤ mn r.1 2147483648 ∧ mn r.1 2147483648 ≤ 2147483648 ∧ (mn r.1 2147483648 = r.1 ∨ (2147483648 ≤ r.1 ∧ mn r.1 2147483648 = 2147483648)) := by
              by_cases z : r.2.2 = 0
              · have := bd z; unfold mn; split <;> omega
              · have := (er z).1; unfold mn; split <;> omega
            have hwm : wrap64 (mn r.1 2147483648) = mn r.1 2147483648 := w64 _ (by omega) (by omega)
            simp only [hwm]
            have hrb : rightB (rd b (a : Int)) (mn r.1 2147483648) emptyS = decide (0 < r.1 ∧ r.1 ≤ 2147483647) := by
              unfold rightB
              rw [if_pos h1, decide_eq_decide]
              exact ⟨fun z => by have := z.1; have := z.2.1; omega, fun z => ⟨by omega, by omega, rfl⟩⟩
            exact fin2 (rd b (a : Int), mn r.1 2147483648, emptyS) r.2.2 r.2.1
              (fun e q => by
                simp only [hrb, decide_eq_true_iff] at q
                rw [hps, if_neg (by simpa using e), if_pos q, show mn r.1 2147483648 = r.1 by omega])
              (fun e q => by
                simp only [hrb, decide_eq_false_iff_not] at q
                rw [hps, if_neg (by simpa using e), if_neg q])
              (fun e => by rw [hps, if_pos e])
        · rw [decide_eq_true hk] at hbad
          subst hbad
          have hps : (pstep b (a : Int)).1 = 60 := by
            unfold pstep
            rw [if_neg (fun z => hk (.inl z)), if_neg (fun z => hk (.inr z))]
          simp only [chartroomref05_Parse.j1, if_true]
          rw [hps]
          simp only [if_neg (show ¬ (60 : Int) = 0 by decide)]
          exact Ev.now _
      have hrd := rd_lt b a hl
      have hby := hb _ (List.getElem_mem hl)
      rw [← hrd] at hby

      by_cases hlt : rd b (a : Int) < 1
      · simp only [if_pos hlt]
        exact go true (by rw [eq_comm, decide_eq_true_iff]; omega)
      · simp only [if_neg hlt]
        refine go _ ?_
        rw [decide_eq_decide]
        omega
    · simp only [chartroomref05_Parse.l0, if_neg (show ¬ (a : Int) < b.length by omega)]
      exact Ev.now _
theorem rdparse (b : List Int) (hb : Bytes b) (hs : b.length ≤ 1000000) : Ev (fun k => chartroomref05_Parse.f k b) ((dparse b (b.length + 1) 0 []).1.map mk226, (dparse b (b.length + 1) 0 []).2) := by
  unfold chartroomref05_Parse.f
  exact rdparse_l0 b hb hs (b.length + 1) 0 [] (by omega) (by omega) (by simp)
theorem same05 (L : List Ed) (hl : L.length ≤ 1000000) : Ev (fun k => chartroomlaw05_same.f k (L.map mk153) (L.map mk226)) true := by
  unfold chartroomlaw05_same.f
  simp only [List.length_map, if_true]
  have key : ∀ (d i : Nat), i + d = L.length → Ev (fun k => chartroomlaw05_same.l0 k (L.map mk153) (L.map mk226) (i : Int)) true := by
    intro d
    induction d with
    | zero =>
      intro i h
      refine ev_shift ?_
      simp only [chartroomlaw05_same.l0, List.length_map, if_neg (show ¬ (i : Int) < L.length by omega)]
      exact Ev.now _
    | succ d ih =>
      intro i h
      have hi : i < L.length := by omega
      refine ev_shift ?_
      simp only [chartroomlaw05_same.l0, List.length_map, if_pos (show (i : Int) < L.length by omega), if_pos (show (0 : Int) ≤ i by omega), get153 L i hi, get226 L i hi, mk153, mk226, if_true, w64 ((i : Int) + 1) (by omega) (by omega)]
      exact ih (i + 1) (by omega)
  exact key L.length 0 (by omega)
end Go.Proofs.Ytoeabgeglgiobaa.Q
