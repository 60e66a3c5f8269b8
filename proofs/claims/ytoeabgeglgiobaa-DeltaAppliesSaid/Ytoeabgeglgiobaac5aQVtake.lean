/- What the varint functions of the program, and of the reference, answer: one plain function each, the same for both; and that what is put is taken as it was. No condition but the bounds in each theorem. -/
import Derived.Test.Ytoeabgeglgiobaac5aQVput
import Derived.Test.Ytoeabgeglgiobaac5aP0
import Derived.Test.Ytoeabgeglgiobaac5aGkit0
import Derived.Test.Ytoeabgeglgiobaac5aGvarint0
namespace Go.Proofs.Ytoeabgeglgiobaa.Q
open Go.RowKit Go.Proofs.YtoeabgeglgiobaaW.PrintWords Go.Proofs.YtoeabgeglgiobaaW.PrintLast Go.Proofs.YtoeabgeglgiobaaW.PrintMore
open Go.Proofs.Ytoeabgeglgiobaa.P
/-! Two rows that are compared. -/
theorem same_loop {α : Type} [DecidableEq α] (xs ys : List α) (hl : xs.length = ys.length) (F : Nat → Int → Option Bool)
    (hF : ∀ (k i : Nat) (h : i < xs.length) (h' : i < ys.length), F (k + 1) (i : Int) = if xs[i] = ys[i] then F k ((i + 1 : Nat) : Int) else some false)
    (hE : ∀ k : Nat, F (k + 1) (xs.length : Int) = some true) : ∀ (d i : Nat), i + d = xs.length → Ev (fun k => F k (i : Int)) (decide (xs.drop i = ys.drop i)) := by
  intro d
  induction d with
  | zero =>
    intro i h
    obtain rfl : i = xs.length := by omega
    refine ev_shift ?_
    simp only [hE]
    exact ev_some (by simp [List.drop_eq_nil_of_le (show ys.length ≤ xs.length by omega)])
  | succ d ih =>
    intro i h
    refine ev_shift ?_
    have h1 : i < xs.length := by omega
    have h2 : i < ys.length := by omega
    simp only [hF _ i h1 h2]
    rw [List.drop_eq_getElem_cons h1, List.drop_eq_getElem_cons h2]
    by_cases e : xs[i] = ys[i]
    · simp only [if_pos e]
      refine ev_eq (ih (i + 1) (by omega)) ?_
      rw [decide_eq_decide, List.cons.injEq]
      exact ⟨fun h => ⟨e, h⟩, fun h => h.2⟩
    · simp only [if_neg e]
      refine ev_some ?_
      symm
      rw [decide_eq_false_iff_not, List.cons.injEq]
      exact fun h => e h.1
theorem sameBytes (xs ys : List Int) (hx : xs.length ≤ 140737488355328) : Ev (fun k => chartroomkit_SameBytes.f k xs ys) (decide (xs = ys)) := by
  unfold chartroomkit_SameBytes.f
  by_cases hl : xs.length = ys.length
  · simp only [if_pos (show (xs.length : Int) = ys.length by omega)]
    refine same_loop xs ys hl (fun k i => chartroomkit_SameBytes.l0 k xs ys i) ?_ ?_ xs.length 0 (by omega)
    · intro k i h h'
      simp only [chartroomkit_SameBytes.l0, if_pos (show (i : Int) < xs.length by omega), if_pos (show (0 : Int) ≤ i by omega), if_pos (show (i : Int) < ys.length by omega), rd_lt xs i h, rd_lt ys i h', w64 ((i : Int) + 1) (by omega) (by omega)]
      rfl
    · intro k
      simp only [chartroomkit_SameBytes.l0, if_neg (show ¬ (xs.length : Int) < xs.length by omega)]
  · simp only [if_neg (show ¬ (xs.length : Int) = ys.length by omega)]
    refine ev_some ?_
    symm
    simp only [decide_eq_false_iff_not]
    exact fun h => hl (by rw [h])
/-! Rows of numbers, and texts. -/
def U64 (l : List Int) : Prop := ∀ x ∈ l, 0 ≤ x ∧ x < 18446744073709551616
theorem take_snoc {α : Type} (l : List α) (i : Nat) (h : i < l.length) : l.take (i + 1) = l.take i ++ [l[i]] := by
  rw [List.take_succ_eq_append_getElem h]
theorem U64.take {l : List Int} (h : U64 l) (i : Nat) : U64 (l.take i) := fun x hx => h x (List.mem_of_mem_take hx)
def textL (s : ByteArray) : List Int := putL s.size ++ bytesOf s
theorem textL_len (s : ByteArray) (hs : s.size < 18446744073709551616) : (textL s).length ≤ 10 + s.size := by
  have := putL_len_u64 hs
  simp [textL, bytesOf_length]; omega
theorem vtext (s : ByteArray) (hs : s.size ≤ 140737488351232) : Ev (fun k => varint_Text.f k s) (textL s) := by
  unfold varint_Text.f
  have h := putL_len_u64 (n := s.size) (by omega)
  simp only [wu64 (s.size : Int) (by omega) (by omega)]
  refine Ev.bind (vput _ (by omega) (by omega)) ?_
  simp only [Int.toNat_natCast, if_pos (show (putL s.size).length + s.size < 140737488355328 by omega)]
  exact Ev.now _
theorem bytesOf_get (s : ByteArray) (i : Nat) (h : i < (bytesOf s).length) : (bytesOf s)[i] = bt s (i : Int) := by
  have := rd_bytesOf s (i : Int)
  rw [rd_lt _ i h] at this
  exact this
theorem rtext_l0 (s : ByteArray) (hs : s.size ≤ 140737488351232) : ∀ (d i : Nat), i + d = s.size → Ev (fun k => chartroomref01_Text.l0 k s (putL s.size ++ (bytesOf s).take i) (i : Int)) (textL s) := by
  intro d
  have hp := putL_len_u64 (n := s.size) (by omega)
  have hb := bytesOf_length s
  induction d with
  | zero =>
    intro i h
    refine ev_shift ?_
    simp only [chartroomref01_Text.l0, if_neg (show ¬ (i : Int) < s.size by omega)]
    exact ev_some (by rw [List.take_of_length_le (by omega)]; rfl)
  | succ d ih =>
    intro i h
    refine ev_shift ?_
    simp only [chartroomref01_Text.l0, if_pos (show (i : Int) < s.size by omega), if_pos (show (0 : Int) ≤ i by omega), w64 ((i : Int) + 1) (by omega) (by omega), if_pos (show (putL s.size ++ (bytesOf s).take i).length < 140737488355328 by simp; omega)]
    have := ih (i + 1) (by omega)
    rw [take_snoc _ i (by omega), bytesOf_get, ← List.append_assoc] at this
    exact this
theorem rtext (s : ByteArray) (hs : s.size ≤ 140737488351232) : Ev (fun k => chartroomref01_Text.f k s) (textL s) := by
  unfold chartroomref01_Text.f
  simp only [wu64 (s.size : Int) (by omega) (by omega)]
  refine Ev.bind (rput _ (by omega) (by omega)) ?_
  have := rtext_l0 s hs s.size 0 (by omega)
  simpa using this
/-! A number is taken. -/
/-- Out of bytes, behind i groups that say n: the number, how many bytes it has, and the error. -/
def tkL : List Int → Nat → Nat → Nat × Nat × Nat
  | [], _, _ => (0, 0, 10)
  | c :: l, i, n =>
    if i = 9 ∧ c > 1 then (0, 0, 11) else if c = 0 ∧ 0 < i then (0, 0, 11)
    else if c < 128 then (n + c.toNat % 128 * 128 ^ i, i + 1, 0) else tkL l (i + 1) (n + c.toNat % 128 * 128 ^ i)
def fin (a : Int) (r : Nat × Nat × Nat) : Int × Int × Int := if r.2.2 = 0 then ((r.1 : Int), a + r.2.1, 0) else (0, a, (r.2.2 : Int))
def take (b : List Int) (a : Int) : Int × Int × Int := if a < 0 ∨ (b.length : Int) ≤ a then (0, a, 10) else fin a (tkL (b.drop a.toNat) 0 0)
end Go.Proofs.Ytoeabgeglgiobaa.Q
