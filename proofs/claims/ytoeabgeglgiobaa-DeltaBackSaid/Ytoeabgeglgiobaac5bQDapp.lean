/- A delta put to a text: by the program and by the reference alike. No condition but the bounds in each theorem. -/
import Derived.Test.Ytoeabgeglgiobaac5bQDsum
import Derived.Test.Ytoeabgeglgiobaac5bQVback
namespace Go.Proofs.Ytoeabgeglgiobaa.Q
open Go.RowKit Go.Proofs.YtoeabgeglgiobaaW.PrintWords Go.Proofs.YtoeabgeglgiobaaW.PrintLast Go.Proofs.YtoeabgeglgiobaaW.PrintMore
open Go.Proofs.Ytoeabgeglgiobaa.P
/-- What an edit adds. -/
def addE (rem : List UInt8) (x : Ed) : List UInt8 := if x.1 = 1 then rem.take (szE x.1 x.2.1 x.2.2).1.toNat else if x.1 = 2 then x.2.2.data.toList else []
def apR : List UInt8 → List UInt8 → List Ed → List UInt8
  | _, acc, [] => acc
  | rem, acc, x :: l => apR (rem.drop (szE x.1 x.2.1 x.2.2).1.toNat) (acc ++ addE rem x) l
theorem apL_apR : ∀ (L : List Ed) (rem acc : List UInt8), apL rem acc (L.map mk153) = if rightL L = true ∧ (szL L).1 = rem.length then (apR rem acc L, 0) else ([], 50) := by
  intro L
  induction L with
  | nil =>
    intro rem acc
    simp only [List.map_nil, apL, szL, apR, rightL, List.all_nil]
    by_cases h : rem = []
    · subst h; simp
    · rw [if_neg h, if_neg]
      rintro ⟨_, q⟩
      have : rem.length ≠ 0 := fun z => h (List.eq_nil_of_length_eq_zero z)
      omega
  | cons x l ih =>
    intro rem acc
    have hx := szE_bd x
    have hl : 0 ≤ (szL l).1 := by
      obtain ⟨m, hm⟩ : ∃ m, ∀ y ∈ l, y.2.2.size ≤ m := by
        clear ih
        induction l with
        | nil => exact ⟨0, by simp⟩
        | cons y l ih2 =>
          obtain ⟨m, hm⟩ := ih2
          exact ⟨m + y.2.2.size, fun z hz => (List.mem_cons.1 hz).elim (fun e => by subst e; omega) (fun q => by have := hm z q; omega)⟩
      exact (szL_bd m l hm).1
    have e1 : rightL (x :: l) = (rightB x.1 x.2.1 x.2.2 && rightL l) := rfl
    rw [List.map_cons, apL]
    show (if rightB x.1 x.2.1 x.2.2 = true ∧ (szE x.1 x.2.1 x.2.2).1 ≤ rem.length then apL (rem.drop (szE x.1 x.2.1 x.2.2).1.toNat) (acc ++ addE rem x) (l.map mk153) else ([], 50)) = _
    simp only [szL, e1, Bool.and_eq_true]
    by_cases h : rightB x.1 x.2.1 x.2.2 = true ∧ (szE x.1 x.2.1 x.2.2).1 ≤ rem.length
    · rw [if_pos h, ih, List.length_drop, apR]
      have e2 : ((szL l).1 = ((rem.length - (szE x.1 x.2.1 x.2.2).1.toNat : Nat) : Int)) ↔ (szE x.1 x.2.1 x.2.2).1 + (szL l).1 = rem.length := by omega
      by_cases h2 : rightL l = true ∧ (szE x.1 x.2.1 x.2.2).1 + (szL l).1 = rem.length
      · rw [if_pos ⟨h2.1, e2.2 h2.2⟩, if_pos ⟨⟨h.1, h2.1⟩, h2.2⟩]
      · rw [if_neg (fun z => h2 ⟨z.1, e2.1 z.2⟩), if_neg (fun z => h2 ⟨z.1.2, z.2⟩)]
    · rw [if_neg h, if_neg]
      rintro ⟨⟨q1, q2⟩, q3⟩
      exact h ⟨q1, by omega⟩
def apS (s : ByteArray) (L : List Ed) : ByteArray × Int := if rightL L = true ∧ (szL L).1 = s.size then (⟨(apR s.data.toList [] L).toArray⟩, 0) else (emptyS, 50)
theorem txtL_le (m : Nat) : ∀ (L : List Ed), (∀ x ∈ L, x.2.2.size ≤ m) → txtL (L.map mk153) ≤ m * L.length := by
  intro L
  induction L with
  | nil => intro _; simp [txtL]
  | cons x l ih =>
    intro h
    have := ih (fun y hy => h y (List.mem_cons_of_mem _ hy))
    have := h x (by simp)
    simp only [List.map_cons, txtL, List.length_cons, Nat.mul_add, Nat.mul_one, mk153]
    omega
theorem vApply (s : ByteArray) (L : List Ed) (h : s.size + txtL (L.map mk153) ≤ 140737488355328) : delta_Apply.f s (L.map mk153) = some (apS s L) := by
  unfold delta_Apply.f apS
  rw [if_pos h, apL_apR]
  have : (s.data.toList.length : Int) = s.size := by rw [data_length]
  rw [this]
  by_cases q : rightL L = true ∧ (szL L).1 = s.size
  · rw [if_pos q, if_pos q]
  · rw [if_neg q, if_neg q]; rfl
/-! The reference. -/
def nums (l : List UInt8) : List Int := l.map fun b => (b.toNat : Int)
theorem nums_append (a b : List UInt8) : nums (a ++ b) = nums a ++ nums b := List.map_append
end Go.Proofs.Ytoeabgeglgiobaa.Q
