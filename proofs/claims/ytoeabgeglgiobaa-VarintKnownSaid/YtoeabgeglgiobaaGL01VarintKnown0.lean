/- What functions of the given program do, each as a plain Lean function that its call meets: printed by a program of this session out of the translation, checked by Lean. Its conditions: those of each theorem. -/
import Derived.Test.YtoeabgeglgiobaaP0
import Derived.Test.YtoeabgeglgiobaaGL01VarintBack0
import Derived.Test.YtoeabgeglgiobaaGL01VarintPuts0
import Derived.Test.YtoeabgeglgiobaaGL01VarintTakes0
import Derived.Test.YtoeabgeglgiobaaGkit0
import Derived.Test.YtoeabgeglgiobaaGlaw010
import Derived.Test.YtoeabgeglgiobaaGvarint0
namespace Go.Proofs.Ytoeabgeglgiobaa.P
open Go.RowKit Go.Proofs.YtoeabgeglgiobaaW.PrintWords Go.Proofs.YtoeabgeglgiobaaW.PrintLast Go.Proofs.YtoeabgeglgiobaaW.PrintMore
attribute [local go_sem] max2_int min2_int max_two min_two max_three min_three max_four min_four   -- for this text's walks alone
set_option linter.unusedVariables false
set_option linter.unusedSimpArgs false

/-! ### chartroomlaw01_VarintKnown: function 6 -/
mutual
def chartroomlaw01_VarintKnown.l0 : Nat → Int → Option (Bool)
  | 0, _ => none
  | k + 1, x1 => if x1 < 64 then (if 0 ≤ x1 then ((some (([IntKind.u64.wrap ((shl .u64 1 x1) - 1), shl .u64 1 x1, IntKind.u64.wrap ((shl .u64 1 x1) + 1), Go.bits .xor .u64 18446744073709551615 (shl .u64 1 x1)] : List Int) : List Int)).bind fun y343 => (chartroomlaw01_VarintKnown.l1 k x1 (shl .u64 1 x1) y343 (y343.length : Int) 0)) else (none)) else (chartroomlaw01_VarintKnown.l2 k (([0, 1, 2, 127, 128, 129, 255] : List Int)) 0)
def chartroomlaw01_VarintKnown.l1 : Nat → Int → Int → List Int → Int → Int → Option (Bool)
  | 0, _, _, _, _, _ => none
  | k + 1, x1, x2, x26, x27, x28 => if x28 < x27 then (if 0 ≤ x28 then (if x28 < (x26.length : Int) then ((chartroomlaw01_VarintPuts.f k (([rd x26 x28, x2] : List Int)) (⟨#[97]⟩ : ByteArray)).bind fun t350 => (if t350 = true then ((varint_Put.f k (rd x26 x28)).bind fun t354 => ((varint_Put.f k x2).bind fun t357 => ((chartroomlaw01_VarintBack.f k (([rd x26 x28, x2, 0] : List Int)) (⟨#[]⟩ : ByteArray) t354 t357).bind fun t360 => (if t360 = true then (chartroomlaw01_VarintKnown.l1 k x1 x2 x26 x27 (wrap64 (x28 + 1))) else (some false))))) else (some false))) else (none)) else (none)) else (chartroomlaw01_VarintKnown.l0 k (wrap64 (x1 + 1)))
def chartroomlaw01_VarintKnown.l2 : Nat → List Int → Int → Option (Bool)
  | 0, _, _ => none
  | k + 1, x5, x6 => if x6 < 343 then (if 0 ≤ (Int.tmod x6 7) then (if (Int.tmod x6 7) < (x5.length : Int) then (if 0 ≤ (Int.tmod (wrap64 (Int.tdiv x6 7)) 7) then (if (Int.tmod (wrap64 (Int.tdiv x6 7)) 7) < (x5.length : Int) then (if 0 ≤ (wrap64 (Int.tdiv x6 49)) then (if (wrap64 (Int.tdiv x6 49)) < (x5.length : Int) then (chartroomlaw01_VarintKnown.l3 k x5 x6 (([rd x5 (Int.tmod x6 7), rd x5 (Int.tmod (wrap64 (Int.tdiv x6 7)) 7), rd x5 (wrap64 (Int.tdiv x6 49))] : List Int)) (([] : List Int)) 0) else (none)) else (none)) else (none)) else (none)) else (none)) else (none)) else (chartroomlaw01_VarintKnown.l5 k (([255, 255, 255, 255, 255, 255, 255, 255, 255] : List Int)) 0)
def chartroomlaw01_VarintKnown.l3 : Nat → List Int → Int → List Int → List Int → Int → Option (Bool)
  | 0, _, _, _, _, _ => none
  | k + 1, x5, x6, x7, x8, x9 => if x9 < 3 then (if 0 ≤ x9 then (if x9 < (x5.length : Int) then ((some (([128, 255, rd x5 x9] : List Int) : List Int)).bind fun y374 => (if x8.length + y374.length < 140737488355328 then (chartroomlaw01_VarintKnown.l3 k x5 x6 x7 (x8 ++ y374) (wrap64 (x9 + 1))) else (none))) else (none)) else (none)) else (if x8.length + x7.length < 140737488355328 then (chartroomlaw01_VarintKnown.l4 k x5 x6 x7 (x8 ++ x7) (-1)) else (none))
def chartroomlaw01_VarintKnown.l4 : Nat → List Int → Int → List Int → List Int → Int → Option (Bool)
  | 0, _, _, _, _, _ => none
  | k + 1, x5, x6, x7, x8, x10 => if x10 < 5 then ((chartroomlaw01_VarintTakes.f k x7 x10 x10).bind fun t383 => (if t383 = true then ((chartroomlaw01_VarintTakes.f k x8 x10 2).bind fun t384 => (if t384 = true then (chartroomlaw01_VarintKnown.l4 k x5 x6 x7 x8 (wrap64 (x10 + 1))) else (some false))) else (some false))) else (chartroomlaw01_VarintKnown.l2 k x5 (wrap64 (x6 + 1)))
def chartroomlaw01_VarintKnown.l5 : Nat → List Int → Int → Option (Bool)
  | 0, _, _ => none
  | k + 1, x11, x12 => if x12 < 256 then ((chartroomkit_Own.f x11).bind fun t388 => ((some (([(x12) % 256, (x12) % 256] : List Int) : List Int)).bind fun y391 => (if t388.length + y391.length < 140737488355328 then ((chartroomlaw01_VarintTakes.f k (t388 ++ y391) 0 1).bind fun t397 => (if t397 = true then (chartroomlaw01_VarintKnown.l5 k x11 (wrap64 (x12 + 1))) else (some false))) else (none)))) else ((chartroomlaw01_VarintTakes.f k x11 0 1).bind fun t398 => (if t398 = true then ((chartroomlaw01_VarintTakes.f k ([] : List Int) 0 0).bind fun t399 => (if t399 = true then ((chartroomlaw01_VarintTakes.f k (([3, 97, 97] : List Int)) 0 (-1)).bind fun t403 => (if t403 = true then ((chartroomlaw01_VarintTakes.f k (([255, 255, 255, 255, 255, 255, 255, 255, 255, 1, 97] : List Int)) 0 1).bind fun t407 => (if t407 = true then ((chartroomlaw01_VarintBack.f k ([] : List Int) (⟨#[97, 98, 99]⟩ : ByteArray) ([] : List Int) ([] : List Int)).bind fun t408 => (if t408 = true then ((chartroomlaw01_works.f k).bind fun t409 => (some t409)) else (some false))) else (some false))) else (some false))) else (some false))) else (some false)))
end
def chartroomlaw01_VarintKnown.f (k : Nat)  : Option (Bool) := chartroomlaw01_VarintKnown.l0 k 0
theorem chartroomlaw01_VarintKnown.mono_l : ∀ k, (∀ y0, LeO (chartroomlaw01_VarintKnown.l0 k y0) (chartroomlaw01_VarintKnown.l0 (k + 1) y0)) ∧ (∀ y0 y1 y2 y3 y4, LeO (chartroomlaw01_VarintKnown.l1 k y0 y1 y2 y3 y4) (chartroomlaw01_VarintKnown.l1 (k + 1) y0 y1 y2 y3 y4)) ∧ (∀ y0 y1, LeO (chartroomlaw01_VarintKnown.l2 k y0 y1) (chartroomlaw01_VarintKnown.l2 (k + 1) y0 y1)) ∧ (∀ y0 y1 y2 y3 y4, LeO (chartroomlaw01_VarintKnown.l3 k y0 y1 y2 y3 y4) (chartroomlaw01_VarintKnown.l3 (k + 1) y0 y1 y2 y3 y4)) ∧ (∀ y0 y1 y2 y3 y4, LeO (chartroomlaw01_VarintKnown.l4 k y0 y1 y2 y3 y4) (chartroomlaw01_VarintKnown.l4 (k + 1) y0 y1 y2 y3 y4)) ∧ (∀ y0 y1, LeO (chartroomlaw01_VarintKnown.l5 k y0 y1) (chartroomlaw01_VarintKnown.l5 (k + 1) y0 y1))
  | 0 => ⟨fun _ r h => by simp [chartroomlaw01_VarintKnown.l0] at h, fun _ _ _ _ _ r h => by simp [chartroomlaw01_VarintKnown.l1] at h, fun _ _ r h => by simp [chartroomlaw01_VarintKnown.l2] at h, fun _ _ _ _ _ r h => by simp [chartroomlaw01_VarintKnown.l3] at h, fun _ _ _ _ _ r h => by simp [chartroomlaw01_VarintKnown.l4] at h, fun _ _ r h => by simp [chartroomlaw01_VarintKnown.l5] at h⟩
  | k + 1 => by
    obtain ⟨ih0, ih1, ih2, ih3, ih4, ih5⟩ := chartroomlaw01_VarintKnown.mono_l k
    refine ⟨?_, ?_, ?_, ?_, ?_, ?_⟩
    · intro y0
      unfold chartroomlaw01_VarintKnown.l0
      repeat' first
      | (with_reducible exact ih0 _)
      | (with_reducible exact ih1 _ _ _ _ _)
      | (with_reducible exact ih2 _ _)
      | (with_reducible exact ih3 _ _ _ _ _)
      | (with_reducible exact ih4 _ _ _ _ _)
      | (with_reducible exact ih5 _ _)
      | (with_reducible exact chartroomlaw01_VarintBack.mono _ _ _ _ _)
      | (with_reducible exact chartroomlaw01_VarintPuts.mono _ _ _)
      | (with_reducible exact chartroomlaw01_VarintTakes.mono _ _ _ _)
      | (with_reducible exact chartroomlaw01_works.mono _)
      | (with_reducible exact varint_Put.mono _ _)
      | (with_reducible exact LeO.refl _)
      | (with_reducible exact LeO.none _)
      | (with_reducible refine LeO.ite ?_ ?_)
      | (with_reducible refine LeO.bind ?_ (fun _ => ?_))
      | exact ih0 _
      | exact ih1 _ _ _ _ _
      | exact ih2 _ _
      | exact ih3 _ _ _ _ _
      | exact ih4 _ _ _ _ _
      | exact ih5 _ _
      | exact chartroomlaw01_VarintBack.mono _ _ _ _ _
      | exact chartroomlaw01_VarintPuts.mono _ _ _
      | exact chartroomlaw01_VarintTakes.mono _ _ _ _
      | exact chartroomlaw01_works.mono _
      | exact varint_Put.mono _ _
      | exact LeO.none _
      | refine LeO.ite ?_ ?_
      | refine LeO.bind ?_ (fun _ => ?_)
    · intro y0 y1 y2 y3 y4
      unfold chartroomlaw01_VarintKnown.l1
      repeat' first
      | (with_reducible exact ih0 _)
      | (with_reducible exact ih1 _ _ _ _ _)
      | (with_reducible exact ih2 _ _)
      | (with_reducible exact ih3 _ _ _ _ _)
      | (with_reducible exact ih4 _ _ _ _ _)
      | (with_reducible exact ih5 _ _)
      | (with_reducible exact chartroomlaw01_VarintBack.mono _ _ _ _ _)
      | (with_reducible exact chartroomlaw01_VarintPuts.mono _ _ _)
      | (with_reducible exact chartroomlaw01_VarintTakes.mono _ _ _ _)
      | (with_reducible exact chartroomlaw01_works.mono _)
      | (with_reducible exact varint_Put.mono _ _)
      | (with_reducible exact LeO.refl _)
      | (with_reducible exact LeO.none _)
      | (with_reducible refine LeO.ite ?_ ?_)
      | (with_reducible refine LeO.bind ?_ (fun _ => ?_))
      | exact ih0 _
      | exact ih1 _ _ _ _ _
      | exact ih2 _ _
      | exact ih3 _ _ _ _ _
      | exact ih4 _ _ _ _ _
      | exact ih5 _ _
      | exact chartroomlaw01_VarintBack.mono _ _ _ _ _
      | exact chartroomlaw01_VarintPuts.mono _ _ _
      | exact chartroomlaw01_VarintTakes.mono _ _ _ _
      | exact chartroomlaw01_works.mono _
      | exact varint_Put.mono _ _
      | exact LeO.none _
      | refine LeO.ite ?_ ?_
      | refine LeO.bind ?_ (fun _ => ?_)
    · intro y0 y1
      unfold chartroomlaw01_VarintKnown.l2
      repeat' first
      | (with_reducible exact ih0 _)
      | (with_reducible exact ih1 _ _ _ _ _)
      | (with_reducible exact ih2 _ _)
      | (with_reducible exact ih3 _ _ _ _ _)
      | (with_reducible exact ih4 _ _ _ _ _)
      | (with_reducible exact ih5 _ _)
      | (with_reducible exact chartroomlaw01_VarintBack.mono _ _ _ _ _)
      | (with_reducible exact chartroomlaw01_VarintPuts.mono _ _ _)
      | (with_reducible exact chartroomlaw01_VarintTakes.mono _ _ _ _)
      | (with_reducible exact chartroomlaw01_works.mono _)
      | (with_reducible exact varint_Put.mono _ _)
      | (with_reducible exact LeO.refl _)
      | (with_reducible exact LeO.none _)
      | (with_reducible refine LeO.ite ?_ ?_)
      | (with_reducible refine LeO.bind ?_ (fun _ => ?_))
      | exact ih0 _
      | exact ih1 _ _ _ _ _
      | exact ih2 _ _
      | exact ih3 _ _ _ _ _
      | exact ih4 _ _ _ _ _
      | exact ih5 _ _
      | exact chartroomlaw01_VarintBack.mono _ _ _ _ _
      | exact chartroomlaw01_VarintPuts.mono _ _ _
      | exact chartroomlaw01_VarintTakes.mono _ _ _ _
      | exact chartroomlaw01_works.mono _
      | exact varint_Put.mono _ _
      | exact LeO.none _
      | refine LeO.ite ?_ ?_
      | refine LeO.bind ?_ (fun _ => ?_)
    · intro y0 y1 y2 y3 y4
      unfold chartroomlaw01_VarintKnown.l3
      repeat' first
      | (with_reducible exact ih0 _)
      | (with_reducible exact ih1 _ _ _ _ _)
      | (with_reducible exact ih2 _ _)
      | (with_reducible exact ih3 _ _ _ _ _)
      | (with_reducible exact ih4 _ _ _ _ _)
      | (with_reducible exact ih5 _ _)
      | (with_reducible exact chartroomlaw01_VarintBack.mono _ _ _ _ _)
      | (with_reducible exact chartroomlaw01_VarintPuts.mono _ _ _)
      | (with_reducible exact chartroomlaw01_VarintTakes.mono _ _ _ _)
      | (with_reducible exact chartroomlaw01_works.mono _)
      | (with_reducible exact varint_Put.mono _ _)
      | (with_reducible exact LeO.refl _)
      | (with_reducible exact LeO.none _)
      | (with_reducible refine LeO.ite ?_ ?_)
      | (with_reducible refine LeO.bind ?_ (fun _ => ?_))
      | exact ih0 _
      | exact ih1 _ _ _ _ _
      | exact ih2 _ _
      | exact ih3 _ _ _ _ _
      | exact ih4 _ _ _ _ _
      | exact ih5 _ _
      | exact chartroomlaw01_VarintBack.mono _ _ _ _ _
      | exact chartroomlaw01_VarintPuts.mono _ _ _
      | exact chartroomlaw01_VarintTakes.mono _ _ _ _
      | exact chartroomlaw01_works.mono _
      | exact varint_Put.mono _ _
      | exact LeO.none _
      | refine LeO.ite ?_ ?_
      | refine LeO.bind ?_ (fun _ => ?_)
    · intro y0 y1 y2 y3 y4
      unfold chartroomlaw01_VarintKnown.l4
      repeat' first
      | (with_reducible exact ih0 _)
      | (with_reducible exact ih1 _ _ _ _ _)
      | (with_reducible exact ih2 _ _)
      | (with_reducible exact ih3 _ _ _ _ _)
      | (with_reducible exact ih4 _ _ _ _ _)
      | (with_reducible exact ih5 _ _)
      | (with_reducible exact chartroomlaw01_VarintBack.mono _ _ _ _ _)
      | (with_reducible exact chartroomlaw01_VarintPuts.mono _ _ _)
      | (with_reducible exact chartroomlaw01_VarintTakes.mono _ _ _ _)
      | (with_reducible exact chartroomlaw01_works.mono _)
      | (with_reducible exact varint_Put.mono _ _)
      | (with_reducible exact LeO.refl _)
      | (with_reducible exact LeO.none _)
      | (with_reducible refine LeO.ite ?_ ?_)
      | (with_reducible refine LeO.bind ?_ (fun _ => ?_))
      | exact ih0 _
      | exact ih1 _ _ _ _ _
      | exact ih2 _ _
      | exact ih3 _ _ _ _ _
      | exact ih4 _ _ _ _ _
      | exact ih5 _ _
      | exact chartroomlaw01_VarintBack.mono _ _ _ _ _
      | exact chartroomlaw01_VarintPuts.mono _ _ _
      | exact chartroomlaw01_VarintTakes.mono _ _ _ _
      | exact chartroomlaw01_works.mono _
      | exact varint_Put.mono _ _
      | exact LeO.none _
      | refine LeO.ite ?_ ?_
      | refine LeO.bind ?_ (fun _ => ?_)
    · intro y0 y1
      unfold chartroomlaw01_VarintKnown.l5
      repeat' first
      | (with_reducible exact ih0 _)
      | (with_reducible exact ih1 _ _ _ _ _)
      | (with_reducible exact ih2 _ _)
      | (with_reducible exact ih3 _ _ _ _ _)
      | (with_reducible exact ih4 _ _ _ _ _)
      | (with_reducible exact ih5 _ _)
      | (with_reducible exact chartroomlaw01_VarintBack.mono _ _ _ _ _)
      | (with_reducible exact chartroomlaw01_VarintPuts.mono _ _ _)
      | (with_reducible exact chartroomlaw01_VarintTakes.mono _ _ _ _)
      | (with_reducible exact chartroomlaw01_works.mono _)
      | (with_reducible exact varint_Put.mono _ _)
      | (with_reducible exact LeO.refl _)
      | (with_reducible exact LeO.none _)
      | (with_reducible refine LeO.ite ?_ ?_)
      | (with_reducible refine LeO.bind ?_ (fun _ => ?_))
      | exact ih0 _
      | exact ih1 _ _ _ _ _
      | exact ih2 _ _
      | exact ih3 _ _ _ _ _
      | exact ih4 _ _ _ _ _
      | exact ih5 _ _
      | exact chartroomlaw01_VarintBack.mono _ _ _ _ _
      | exact chartroomlaw01_VarintPuts.mono _ _ _
      | exact chartroomlaw01_VarintTakes.mono _ _ _ _
      | exact chartroomlaw01_works.mono _
      | exact varint_Put.mono _ _
      | exact LeO.none _
      | refine LeO.ite ?_ ?_
      | refine LeO.bind ?_ (fun _ => ?_)
theorem chartroomlaw01_VarintKnown.mono : ∀ k, LeO (chartroomlaw01_VarintKnown.f k ) (chartroomlaw01_VarintKnown.f (k + 1) ) := by
  intro  k
  obtain ⟨ih0, ih1, ih2, ih3, ih4, ih5⟩ := chartroomlaw01_VarintKnown.mono_l k
  unfold chartroomlaw01_VarintKnown.f
  repeat' first
      | (with_reducible exact ih0 _)
      | (with_reducible exact ih1 _ _ _ _ _)
      | (with_reducible exact ih2 _ _)
      | (with_reducible exact ih3 _ _ _ _ _)
      | (with_reducible exact ih4 _ _ _ _ _)
      | (with_reducible exact ih5 _ _)
      | (with_reducible exact chartroomlaw01_VarintBack.mono _ _ _ _ _)
      | (with_reducible exact chartroomlaw01_VarintPuts.mono _ _ _)
      | (with_reducible exact chartroomlaw01_VarintTakes.mono _ _ _ _)
      | (with_reducible exact chartroomlaw01_works.mono _)
      | (with_reducible exact varint_Put.mono _ _)
      | (with_reducible exact LeO.refl _)
      | (with_reducible exact LeO.none _)
      | (with_reducible refine LeO.ite ?_ ?_)
      | (with_reducible refine LeO.bind ?_ (fun _ => ?_))
      | exact ih0 _
      | exact ih1 _ _ _ _ _
      | exact ih2 _ _
      | exact ih3 _ _ _ _ _
      | exact ih4 _ _ _ _ _
      | exact ih5 _ _
      | exact chartroomlaw01_VarintBack.mono _ _ _ _ _
      | exact chartroomlaw01_VarintPuts.mono _ _ _
      | exact chartroomlaw01_VarintTakes.mono _ _ _ _
      | exact chartroomlaw01_works.mono _
      | exact varint_Put.mono _ _
      | exact LeO.none _
      | refine LeO.ite ?_ ?_
      | refine LeO.bind ?_ (fun _ => ?_)
def chartroomlaw01_VarintKnown.T15 : Bool × List (List Nat × List Nat) := (true, [([], []), ([], []), ([1], [1]), ([0, 2], [0, 2]), ([3], [3]), ([], []), ([], []), ([6], [6]), ([7], [7]), ([5, 8], [5, 8]), ([9], [9]), ([], []), ([], []), ([12], [12]), ([11, 13], [11, 13]), ([14], [14]), ([4, 10, 15], [4, 10, 15]), ([16, 0, 1, 2, 3, 4, 5, 6, 7, 8, 9, 10, 11, 12, 13, 14, 15, 16], [16])])
def chartroomlaw01_VarintKnown.B15 : List Nat := [0, 0, 2, 7, 15, 0, 0, 64, 192, 480, 992, 0, 0, 4096, 14336, 30720, 65535, 131071]
theorem chartroomlaw01_VarintKnown.tab15 : rtab .any (opsOf Try.f6 15) = chartroomlaw01_VarintKnown.T15 := by kernel_rfl
theorem chartroomlaw01_VarintKnown.bits15 : waitsOk chartroomlaw01_VarintKnown.T15.2 chartroomlaw01_VarintKnown.B15 = true := by kernel_rfl
set_option maxHeartbeats 8000000 in
set_option maxRecDepth 100000 in
theorem chartroomlaw01_VarintKnown.calls (k : Nat)  (r : Bool) (w : World) (h : chartroomlaw01_VarintKnown.f k  = some r) (hT_ : r = true := by first | rfl | assumption | exact Aside0.out (by assumption)) :
    Calls Try.prog 6 #[] w fun e w' => e = .returned (.bool r) ∧ Below w.heap.size w w' := by
  subst hT_
  have HB := Aside0.mk (Below.refl w.heap.size w)
  have H : (chartroomlaw01_VarintKnown.l0 k 0) = some true := h
  clear h
  have H' := Aside0.mk H
  clear H
  go_enter Try.func6, Try.ntmps6
  go_wp2
  go_loopg [1] k (fun kq v1 w' => ∃ (x1_1 : Int), v1 = .int .i64 x1_1 ∧ Aside0 (chartroomlaw01_VarintKnown.l0 kq x1_1 = some true) ∧ Aside0 (kq ≤ k) ∧ Aside0 (Below w.heap.size w w'))
  case atStart => exact ⟨(0), (by first | rfl | (simp; done) | (simp [*]; done)), H', ⟨Nat.le_refl _⟩, ⟨by repeat (first | (with_reducible first | exact HB.out | apply below_alloc | apply pw_below_drewN | apply below_drew1) | exact HB.out)⟩⟩
  case round =>
    clear H'
    obtain ⟨x1_1, rfl, HA, HK1, HB⟩ := hrel
    cases gk with
    | zero => exact absurd HA.out (by simp [chartroomlaw01_VarintKnown.l0])
    | succ k1 =>
      have H := HA.out
      clear HA
      simp only [chartroomlaw01_VarintKnown.l0] at H
      by_cases c1 : x1_1 < 64
      · rw [if_pos c1] at H
        have c1b0 : decide (x1_1 < 64) = true := decide_eq_true c1
        clear c1
        by_cases c2 : 0 ≤ x1_1
        · rw [if_pos c2] at H
          have c2b0 := eq_true c2
          have c2b1 : decide (0 ≤ x1_1) = true := decide_eq_true c2
          clear c2
          obtain ⟨ji3, hji3⟩ : ∃ j_ : Int, (shl .u64 1 x1_1) = j_ := ⟨_, rfl⟩
          replace H : ((some (([IntKind.u64.wrap ((ji3) - 1), ji3, IntKind.u64.wrap ((ji3) + 1), Go.bits .xor .u64 18446744073709551615 (ji3)] : List Int) : List Int)).bind fun y343 => (chartroomlaw01_VarintKnown.l1 k1 x1_1 ji3 y343 (y343.length : Int) 0)) = some true := by first | (rw [hji3] at H; exact H) | (simp only [hji3] at H ⊢; exact H)
          have hji3_ : (IntKind.u64.wrap (1 * 2 ^ min x1_1.toNat 64)) = ji3 := hji3
          have hji3z : x1_1 ≤ 64 → (IntKind.u64.wrap (1 * 2 ^ x1_1.toNat)) = ji3 := shl_small hji3
          have hji3u : (IntKind.u64.wrap (2 ^ min x1_1.toNat 64)) = ji3 := by have h_ := hji3_; rw [Int.one_mul] at h_; exact h_
          have hji3v : x1_1 ≤ 64 → (IntKind.u64.wrap (2 ^ x1_1.toNat)) = ji3 := fun hle_ => by have h_ := hji3z hle_; rw [Int.one_mul] at h_; exact h_
          obtain ⟨y343, hy343⟩ : ∃ y_ : List Int, y_ = (([IntKind.u64.wrap ((ji3) - 1), ji3, IntKind.u64.wrap ((ji3) + 1), Go.bits .xor .u64 18446744073709551615 (ji3)] : List Int)) := ⟨_, rfl⟩
          replace H : (chartroomlaw01_VarintKnown.l1 k1 x1_1 ji3 y343 (y343.length : Int) 0) = some true := by first | (rw [hy343]; with_reducible exact H) | (have H2_ := (Option.bind_some _ _).symm.trans H; rw [hy343]; with_reducible exact H2_) | (have H2_ := (Option.bind_some _ _).symm.trans H; with_reducible exact H2_) | with_reducible exact H | (rw [hy343]; exact H) | exact H
          have Ny343 := Aside0.mk hy343
          clear hy343
          have H' := Aside0.mk H
          clear H
          go_wp2_with (first | ((with_reducible refine gate_dst (N := 26) rfl ?_); (try (refine gate_guard (by rfl) ?_; dsimp only)); refine Kd.R_lit (Kd.int .u64) _ 31 ?hg (N := 26) ?hd (xs := ([IntKind.u64.wrap ((ji3) - 1), ji3, IntKind.u64.wrap ((ji3) + 1), Go.bits .xor .u64 18446744073709551615 (ji3)] : List Int)) (inner := [.int .u64 (IntKind.u64.wrap ((ji3) - 1)), .int .u64 ji3, .int .u64 (IntKind.u64.wrap ((ji3) + 1)), .int .u64 (Go.bits .xor .u64 18446744073709551615 (ji3))]) (ok := fun _ => True) (okp := fun _ => True) ?hr ?hp (fun _ hk => hk) trivial (Below.refl _ _) (Nat.le_refl _) (by simp) ?_; (case hd => rfl); (case hg => rfl); (case hr => first | (go_simp; done) | (go_simp; rfl)); (case hp => exact (Reps.one (show Kd.M (Kd.int .u64) _ _ _ (IntKind.u64.wrap ((ji3) - 1)) [.int .u64 (IntKind.u64.wrap ((ji3) - 1))] from rfl) (Reps.one (show Kd.M (Kd.int .u64) _ _ _ ji3 [.int .u64 ji3] from rfl) (Reps.one (show Kd.M (Kd.int .u64) _ _ _ (IntKind.u64.wrap ((ji3) + 1)) [.int .u64 (IntKind.u64.wrap ((ji3) + 1))] from rfl) (Reps.one (show Kd.M (Kd.int .u64) _ _ _ (Go.bits .xor .u64 18446744073709551615 (ji3)) [.int .u64 (Go.bits .xor .u64 18446744073709551615 (ji3))] from rfl) (Reps.none _ _)))))); intro v344 w4 ho5 hb hg_ hnew_; clear hg_ hnew_; (first | rw [← Ny343.out] at ho5 | (simp only [Int.reduceToNat] at ho5; rw [← Ny343.out] at ho5)); have n0_ := Aside0.mk (Kd.R_lower ho5 (below_size (by repeat (first | (with_reducible first | exact HB.out | apply below_alloc | apply pw_below_drewN | apply below_drew1) | exact HB.out)))); have n1_ := Aside0.mk (below_step (by repeat (first | (with_reducible first | exact HB.out | apply below_alloc | apply pw_below_drewN | apply below_drew1) | exact HB.out)) hb); clear HB; have HO345 := n0_; have HB := n1_; clear n0_ n1_; clear hb ho5; obtain ⟨Ao6, co6, eo6⟩ := Kd.R_slice HO345.out; subst eo6))
          go_loopg [28] k1 (fun kq v28 w' => ∃ (x28_2 : Int), v28 = .int .i64 x28_2 ∧ Aside0 (chartroomlaw01_VarintKnown.l1 kq x1_1 ji3 y343 (y343.length : Int) x28_2 = some true) ∧ Aside0 (kq ≤ k1) ∧ Aside0 (Kd.R (Kd.int .u64) 31 w' w.heap.size (fun _ => True) (.slice Ao6 y343.length co6) y343) ∧ Aside0 (Below w.heap.size w w'))
          case atStart => exact ⟨(0), (by first | rfl | (simp; done) | (simp [*]; done)), H', ⟨Nat.le_refl _⟩, ⟨by (with_reducible repeat (first | apply Kd.R_alloc | apply Kd.R_drewN | apply Kd.R_drew)); exact HO345.out⟩, ⟨by repeat (first | (with_reducible first | exact HB.out | apply below_alloc | apply pw_below_drewN | apply below_drew1) | exact HB.out)⟩⟩
          case round =>
            clear H'
            try clear c1
            try clear c1b0
            try clear c2
            try clear c2b0
            try clear c2b1
            try clear p2
            try clear c6
            obtain ⟨x28_2, rfl, HA, HK2, HO_26, HB⟩ := hrel
            cases gk with
            | zero => exact absurd HA.out (by simp [chartroomlaw01_VarintKnown.l1])
            | succ k2 =>
              have H := HA.out
              clear HA
              simp only [chartroomlaw01_VarintKnown.l1] at H
              by_cases c7 : x28_2 < (y343.length : Int)
              · rw [if_pos c7] at H
                have c7b0 : decide (x28_2 < (y343.length : Int)) = true := decide_eq_true c7
                clear c7
                by_cases c8 : 0 ≤ x28_2
                · rw [if_pos c8] at H
                  have c8b0 : decide (0 ≤ x28_2) = true := decide_eq_true c8
                  clear c8
                  by_cases c9 : x28_2 < (y343.length : Int)
                  · rw [if_pos c9] at H
                    have c9b0 : decide (x28_2 < (y343.length : Int)) = true := decide_eq_true c9
                    clear c9
                    obtain ⟨y347, hy347⟩ : ∃ y_ : List Int, y_ = (([rd y343 x28_2, ji3] : List Int)) := ⟨_, rfl⟩
                    replace H : ((chartroomlaw01_VarintPuts.f k2 y347 (⟨#[97]⟩ : ByteArray)).bind fun t350 => (if t350 = true then ((varint_Put.f k2 (rd y343 x28_2)).bind fun t354 => ((varint_Put.f k2 ji3).bind fun t357 => ((chartroomlaw01_VarintBack.f k2 (([rd y343 x28_2, ji3, 0] : List Int)) (⟨#[]⟩ : ByteArray) t354 t357).bind fun t360 => (if t360 = true then (chartroomlaw01_VarintKnown.l1 k2 x1_1 ji3 y343 (y343.length : Int) (wrap64 (x28_2 + 1))) else (some false))))) else (some false))) = some true := by first | (rw [hy347]; with_reducible exact H) | (have H2_ := (Option.bind_some _ _).symm.trans H; rw [hy347]; with_reducible exact H2_) | (have H2_ := (Option.bind_some _ _).symm.trans H; with_reducible exact H2_) | with_reducible exact H | (rw [hy347]; exact H) | exact H
                    have Ny347 := Aside0.mk hy347
                    clear hy347
                    replace H := Option.bind_eq_some_iff.mp H
                    obtain ⟨t350, A100, H⟩ := H
                    replace H : (if t350 = true then ((varint_Put.f k2 (rd y343 x28_2)).bind fun t354 => ((varint_Put.f k2 ji3).bind fun t357 => ((chartroomlaw01_VarintBack.f k2 (([rd y343 x28_2, ji3, 0] : List Int)) (⟨#[]⟩ : ByteArray) t354 t357).bind fun t360 => (if t360 = true then (chartroomlaw01_VarintKnown.l1 k2 x1_1 ji3 y343 (y343.length : Int) (wrap64 (x28_2 + 1))) else (some false))))) else (some false)) = some true := H
                    have A10 := Aside0.mk A100
                    clear A100
                    by_cases c11 : t350 = true
                    · subst c11
                      have H1 : ((varint_Put.f k2 (rd y343 x28_2)).bind fun t354 => ((varint_Put.f k2 ji3).bind fun t357 => ((chartroomlaw01_VarintBack.f k2 (([rd y343 x28_2, ji3, 0] : List Int)) (⟨#[]⟩ : ByteArray) t354 t357).bind fun t360 => (if t360 = true then (chartroomlaw01_VarintKnown.l1 k2 x1_1 ji3 y343 (y343.length : Int) (wrap64 (x28_2 + 1))) else (some false))))) = some true := by rw [if_pos rfl] at H; exact H
                      clear H
                      have H := H1
                      clear H1
                      obtain ⟨y351, hy351⟩ : ∃ y_ : List Int, y_ = (([rd y343 x28_2, ji3, 0] : List Int)) := ⟨_, rfl⟩
                      replace H : ((varint_Put.f k2 (rd y343 x28_2)).bind fun t354 => ((varint_Put.f k2 ji3).bind fun t357 => ((chartroomlaw01_VarintBack.f k2 y351 (⟨#[]⟩ : ByteArray) t354 t357).bind fun t360 => (if t360 = true then (chartroomlaw01_VarintKnown.l1 k2 x1_1 ji3 y343 (y343.length : Int) (wrap64 (x28_2 + 1))) else (some false))))) = some true := by first | (rw [hy351]; with_reducible exact H) | (have H2_ := (Option.bind_some _ _).symm.trans H; rw [hy351]; with_reducible exact H2_) | (have H2_ := (Option.bind_some _ _).symm.trans H; with_reducible exact H2_) | with_reducible exact H | (rw [hy351]; exact H) | exact H
                      have Ny351 := Aside0.mk hy351
                      clear hy351
                      replace H := Option.bind_eq_some_iff.mp H
                      obtain ⟨t354, A120, H⟩ := H
                      replace H : ((varint_Put.f k2 ji3).bind fun t357 => ((chartroomlaw01_VarintBack.f k2 y351 (⟨#[]⟩ : ByteArray) t354 t357).bind fun t360 => (if t360 = true then (chartroomlaw01_VarintKnown.l1 k2 x1_1 ji3 y343 (y343.length : Int) (wrap64 (x28_2 + 1))) else (some false)))) = some true := H
                      have A12 := Aside0.mk A120
                      clear A120
                      replace H := Option.bind_eq_some_iff.mp H
                      obtain ⟨t357, A130, H⟩ := H
                      replace H : ((chartroomlaw01_VarintBack.f k2 y351 (⟨#[]⟩ : ByteArray) t354 t357).bind fun t360 => (if t360 = true then (chartroomlaw01_VarintKnown.l1 k2 x1_1 ji3 y343 (y343.length : Int) (wrap64 (x28_2 + 1))) else (some false))) = some true := H
                      have A13 := Aside0.mk A130
                      clear A130
                      replace H := Option.bind_eq_some_iff.mp H
                      obtain ⟨t360, A140, H⟩ := H
                      replace H : (if t360 = true then (chartroomlaw01_VarintKnown.l1 k2 x1_1 ji3 y343 (y343.length : Int) (wrap64 (x28_2 + 1))) else (some false)) = some true := H
                      have A14 := Aside0.mk A140
                      clear A140
                      by_cases c15 : t360 = true
                      · subst c15
                        have H1 : (chartroomlaw01_VarintKnown.l1 k2 x1_1 ji3 y343 (y343.length : Int) (wrap64 (x28_2 + 1))) = some true := by rw [if_pos rfl] at H; exact H
                        clear H
                        have H := H1
                        clear H1
                        have H' := Aside0.mk H
                        clear H
                        have p346 : 0 ≤ (x28_2 : Int) := of_decide_eq_true (by first | (with_reducible assumption) | assumption)
                        have q346 : x28_2 < (y343.length : Int) := of_decide_eq_true (by first | (with_reducible assumption) | assumption)
                        obtain ⟨ad346, e346, hx346_0⟩ := Kd.at_int (Kd.R_reads' HO_26.out).2.2 x28_2 p346 q346
                        cases e346
                        replace p346 := eq_true p346
                        replace q346 := eq_true q346
                        go_wp2_with (first | ((with_reducible refine gate_dst (N := 34) rfl ?_); (try (refine gate_guard (by rfl) ?_; dsimp only)); refine Kd.R_lit (Kd.int .u64) _ 31 ?hg (N := 34) ?hd (xs := ([rd y343 x28_2, ji3] : List Int)) (inner := [.int .u64 (rd y343 x28_2), .int .u64 ji3]) (ok := fun _ => True) (okp := fun _ => True) ?hr ?hp (fun _ hk => hk) trivial (Below.refl _ _) (Nat.le_refl _) (by simp) ?_; (case hd => rfl); (case hg => rfl); (case hr => first | (go_simp; done) | (go_simp; rfl)); (case hp => exact (Reps.one (show Kd.M (Kd.int .u64) _ _ _ (rd y343 x28_2) [.int .u64 (rd y343 x28_2)] from rfl) (Reps.one (show Kd.M (Kd.int .u64) _ _ _ ji3 [.int .u64 ji3] from rfl) (Reps.none _ _)))); intro v348 w16 ho17 hb hg_ hnew_; clear hg_ hnew_; (first | rw [← Ny347.out] at ho17 | (simp only [Int.reduceToNat] at ho17; rw [← Ny347.out] at ho17)); have n0_ := Aside0.mk (Kd.R_elder' (by (with_reducible repeat (first | apply Kd.R_alloc | apply Kd.R_drewN | apply Kd.R_drew)); exact HO_26.out) (Kd.R_base ho17) hb); have n1_ := Aside0.mk (Kd.R_lower (Kd.R_new' ho17 (Kd.R_lt (by (with_reducible repeat (first | apply Kd.R_alloc | apply Kd.R_drewN | apply Kd.R_drew)); exact HO_26.out))) (below_size (by repeat (first | (with_reducible first | exact HB.out | apply below_alloc | apply pw_below_drewN | apply below_drew1) | exact HB.out)))); have n2_ := Aside0.mk (below_step (by repeat (first | (with_reducible first | exact HB.out | apply below_alloc | apply pw_below_drewN | apply below_drew1) | exact HB.out)) hb); clear HO_26; clear HB; have HO_26 := n0_; have HO349 := n1_; have HB := n2_; clear n0_ n1_ n2_; clear hb ho17; obtain ⟨Ao18, co18, eo18⟩ := Kd.R_slice HO349.out; subst eo18) | ((with_reducible refine gate_callee (f := 3) rfl ?_); refine goesL_ (some 35) rfl rfl Try.func3 (by kernel_rfl) rfl #[.slice Ao18 y347.length co18, .string (⟨#[97]⟩ : ByteArray)] rfl (by (try simp only [List.map_toArray, List.map_cons, List.map_nil]); first | done | rfl | (simp only [List.length_drop, List.length_take]; rfl)) ?_; (with_reducible refine (chartroomlaw01_VarintPuts.calls k2 _ _ y347 (⟨#[97]⟩ : ByteArray) true _ ?side1 ?side2 A10.out).mono ?_); (case side1 => repeat (first | exact (Kd.R_reads' HO349.out).2.2 | (with_reducible refine Kd.C_alloc ?_ _) | (with_reducible refine Kd.C_drewN ?_ _) | (with_reducible refine Kd.C_drew ?_))); (case side2 => exact (Kd.R_reads' HO349.out).2.1); rintro e w19 ⟨rfl, hb⟩; refine ⟨_, rfl, ?_⟩; have n0_ := Aside0.mk (Kd.R_below (by (with_reducible repeat (first | apply Kd.R_alloc | apply Kd.R_drewN | apply Kd.R_drew)); exact HO_26.out) hb); have n1_ := Aside0.mk (Kd.R_below (by (with_reducible repeat (first | apply Kd.R_alloc | apply Kd.R_drewN | apply Kd.R_drew)); exact HO349.out) hb); have n2_ := Aside0.mk (below_step (by repeat (first | (with_reducible first | exact HB.out | apply below_alloc | apply pw_below_drewN | apply below_drew1) | exact HB.out)) hb); clear HO_26; clear HO349; clear HB; have HO_26 := n0_; have HO349 := n1_; have HB := n2_; clear n0_ n1_ n2_; (try clear hb); (try clear hb2); (try clear hk); (try clear hi)) | ((with_reducible refine gate_dst (N := 40) rfl ?_); (try (refine gate_guard (by rfl) ?_; dsimp only)); refine Kd.R_lit (Kd.int .u64) _ 31 ?hg (N := 40) ?hd (xs := ([rd y343 x28_2, ji3, 0] : List Int)) (inner := [.int .u64 (rd y343 x28_2), .int .u64 ji3, .int .u64 0]) (ok := fun _ => True) (okp := fun _ => True) ?hr ?hp (fun _ hk => hk) trivial (Below.refl _ _) (Nat.le_refl _) (by simp) ?_; (case hd => rfl); (case hg => rfl); (case hr => first | (go_simp; done) | (go_simp; rfl)); (case hp => exact (Reps.one (show Kd.M (Kd.int .u64) _ _ _ (rd y343 x28_2) [.int .u64 (rd y343 x28_2)] from rfl) (Reps.one (show Kd.M (Kd.int .u64) _ _ _ ji3 [.int .u64 ji3] from rfl) (Reps.one (show Kd.M (Kd.int .u64) _ _ _ 0 [.int .u64 0] from rfl) (Reps.none _ _))))); intro v352 w20 ho21 hb hg_ hnew_; clear hg_ hnew_; (first | rw [← Ny351.out] at ho21 | (simp only [Int.reduceToNat] at ho21; rw [← Ny351.out] at ho21)); have n0_ := Aside0.mk (Kd.R_elder' (by (with_reducible repeat (first | apply Kd.R_alloc | apply Kd.R_drewN | apply Kd.R_drew)); exact HO_26.out) (Kd.R_base ho21) hb); have n1_ := Aside0.mk (Kd.R_elder' (by (with_reducible repeat (first | apply Kd.R_alloc | apply Kd.R_drewN | apply Kd.R_drew)); exact HO349.out) (Kd.R_base ho21) hb); have n2_ := Aside0.mk (Kd.R_lower (Kd.R_new' (Kd.R_new' ho21 (Kd.R_lt (by (with_reducible repeat (first | apply Kd.R_alloc | apply Kd.R_drewN | apply Kd.R_drew)); exact HO_26.out))) (Kd.R_lt (by (with_reducible repeat (first | apply Kd.R_alloc | apply Kd.R_drewN | apply Kd.R_drew)); exact HO349.out))) (below_size (by repeat (first | (with_reducible first | exact HB.out | apply below_alloc | apply pw_below_drewN | apply below_drew1) | exact HB.out)))); have n3_ := Aside0.mk (below_step (by repeat (first | (with_reducible first | exact HB.out | apply below_alloc | apply pw_below_drewN | apply below_drew1) | exact HB.out)) hb); clear HO_26; clear HO349; clear HB; have HO_26 := n0_; have HO349 := n1_; have HO353 := n2_; have HB := n3_; clear n0_ n1_ n2_ n3_; clear hb ho21) | (go_at_call 36; refine calls_of_args (args' := #[.int .u64 (rd y343 x28_2)]) (by rfl) ?_; (with_reducible refine (varint_Put.calls k2 (rd y343 x28_2) t354 _ A12.out).mono ?_); rintro e w22 ⟨v355, rfl, ho0, hb⟩; have n0_ := Aside0.mk (Kd.R_below (by (with_reducible repeat (first | apply Kd.R_alloc | apply Kd.R_drewN | apply Kd.R_drew)); exact HO_26.out) hb); have n1_ := Aside0.mk (Kd.R_below (by (with_reducible repeat (first | apply Kd.R_alloc | apply Kd.R_drewN | apply Kd.R_drew)); exact HO349.out) hb); have n2_ := Aside0.mk (Kd.R_below (by (with_reducible repeat (first | apply Kd.R_alloc | apply Kd.R_drewN | apply Kd.R_drew)); exact HO353.out) hb); have n3_ := Aside0.mk (Kd.R_lower ho0 (below_size (by repeat (first | (with_reducible first | exact HB.out | apply below_alloc | apply pw_below_drewN | apply below_drew1) | exact HB.out)))); have n4_ := Aside0.mk (below_step (by repeat (first | (with_reducible first | exact HB.out | apply below_alloc | apply pw_below_drewN | apply below_drew1) | exact HB.out)) hb); clear HO_26; clear HO349; clear HO353; clear HB; have HO_26 := n0_; have HO349 := n1_; have HO353 := n2_; have HO356 := n3_; have HB := n4_; clear n0_ n1_ n2_ n3_ n4_; (try clear hb); (try clear hb2); (try clear hk); (try clear hi); (try clear ho0)) | (go_at_call 36; refine calls_of_args (args' := #[.int .u64 ji3]) (by rfl) ?_; (with_reducible refine (varint_Put.calls k2 ji3 t357 _ A13.out).mono ?_); rintro e w23 ⟨v358, rfl, ho0, hb⟩; have n0_ := Aside0.mk (Kd.R_below (by (with_reducible repeat (first | apply Kd.R_alloc | apply Kd.R_drewN | apply Kd.R_drew)); exact HO_26.out) hb); have n1_ := Aside0.mk (Kd.R_below (by (with_reducible repeat (first | apply Kd.R_alloc | apply Kd.R_drewN | apply Kd.R_drew)); exact HO349.out) hb); have n2_ := Aside0.mk (Kd.R_below (by (with_reducible repeat (first | apply Kd.R_alloc | apply Kd.R_drewN | apply Kd.R_drew)); exact HO353.out) hb); have n3_ := Aside0.mk (Kd.R_elder' (by (with_reducible repeat (first | apply Kd.R_alloc | apply Kd.R_drewN | apply Kd.R_drew)); exact HO356.out) (Kd.R_base ho0) hb); have n4_ := Aside0.mk (Kd.R_lower (Kd.R_new' ho0 (Kd.R_lt (by (with_reducible repeat (first | apply Kd.R_alloc | apply Kd.R_drewN | apply Kd.R_drew)); exact HO356.out))) (below_size (by repeat (first | (with_reducible first | exact HB.out | apply below_alloc | apply pw_below_drewN | apply below_drew1) | exact HB.out)))); have n5_ := Aside0.mk (below_step (by repeat (first | (with_reducible first | exact HB.out | apply below_alloc | apply pw_below_drewN | apply below_drew1) | exact HB.out)) hb); clear HO_26; clear HO349; clear HO353; clear HO356; clear HB; have HO_26 := n0_; have HO349 := n1_; have HO353 := n2_; have HO356 := n3_; have HO359 := n4_; have HB := n5_; clear n0_ n1_ n2_ n3_ n4_ n5_; (try clear hb); (try clear hb2); (try clear hk); (try clear hi); (try clear ho0); obtain ⟨Ao24, co24, eo24⟩ := Kd.R_slice HO353.out; subst eo24; obtain ⟨Ao25, co25, eo25⟩ := Kd.R_slice HO356.out; subst eo25; obtain ⟨Ao26, co26, eo26⟩ := Kd.R_slice HO359.out; subst eo26) | (go_at_call 5; refine calls_of_args (args' := #[.slice Ao24 y351.length co24, .string (⟨#[]⟩ : ByteArray), .slice Ao25 t354.length co25, .slice Ao26 t357.length co26]) (by rfl) ?_; (with_reducible refine (chartroomlaw01_VarintBack.calls k2 _ _ y351 (⟨#[]⟩ : ByteArray) _ _ t354 _ _ t357 true _ ?side1 ?side2 ?side3 ?side4 ?side5 ?side6 A14.out).mono ?_); (case side1 => repeat (first | exact (Kd.R_reads' HO353.out).2.2 | (with_reducible refine Kd.C_alloc ?_ _) | (with_reducible refine Kd.C_drewN ?_ _) | (with_reducible refine Kd.C_drew ?_))); (case side2 => exact (Kd.R_reads' HO353.out).2.1); (case side3 => repeat (first | exact (Kd.R_reads' HO356.out).2.2 | (with_reducible refine Kd.C_alloc ?_ _) | (with_reducible refine Kd.C_drewN ?_ _) | (with_reducible refine Kd.C_drew ?_))); (case side4 => exact (Kd.R_reads' HO356.out).2.1); (case side5 => repeat (first | exact (Kd.R_reads' HO359.out).2.2 | (with_reducible refine Kd.C_alloc ?_ _) | (with_reducible refine Kd.C_drewN ?_ _) | (with_reducible refine Kd.C_drew ?_))); (case side6 => exact (Kd.R_reads' HO359.out).2.1); rintro e w27 ⟨rfl, hb⟩; have n0_ := Aside0.mk (Kd.R_below (by (with_reducible repeat (first | apply Kd.R_alloc | apply Kd.R_drewN | apply Kd.R_drew)); exact HO_26.out) hb); have n1_ := Aside0.mk (Kd.R_below (by (with_reducible repeat (first | apply Kd.R_alloc | apply Kd.R_drewN | apply Kd.R_drew)); exact HO349.out) hb); have n2_ := Aside0.mk (Kd.R_below (by (with_reducible repeat (first | apply Kd.R_alloc | apply Kd.R_drewN | apply Kd.R_drew)); exact HO353.out) hb); have n3_ := Aside0.mk (Kd.R_below (by (with_reducible repeat (first | apply Kd.R_alloc | apply Kd.R_drewN | apply Kd.R_drew)); exact HO356.out) hb); have n4_ := Aside0.mk (Kd.R_below (by (with_reducible repeat (first | apply Kd.R_alloc | apply Kd.R_drewN | apply Kd.R_drew)); exact HO359.out) hb); have n5_ := Aside0.mk (below_step (by repeat (first | (with_reducible first | exact HB.out | apply below_alloc | apply pw_below_drewN | apply below_drew1) | exact HB.out)) hb); clear HO_26; clear HO349; clear HO353; clear HO356; clear HO359; clear HB; have HO_26 := n0_; have HO349 := n1_; have HO353 := n2_; have HO356 := n3_; have HO359 := n4_; have HB := n5_; clear n0_ n1_ n2_ n3_ n4_ n5_; (try clear hb); (try clear hb2); (try clear hk); (try clear hi)))
                        go_roundg k2
                        case measure => have := HK1.out; have := HK2.out; omega
                        case rel => exact ⟨(wrap64 (x28_2 + 1)), (by first | rfl | (simp; done) | (simp [*]; done)), H', ⟨by have := HK1.out; have := HK2.out; omega⟩, ⟨by (with_reducible repeat (first | apply Kd.R_alloc | apply Kd.R_drewN | apply Kd.R_drew)); exact Kd.R_mono HO_26.out (fun _ hk => trivial)⟩, ⟨by repeat (first | (with_reducible first | exact HB.out | apply below_alloc | apply pw_below_drewN | apply below_drew1) | exact HB.out)⟩⟩
                      · replace c15 := Bool.eq_false_iff.mpr c15
                        subst c15
                        have H1 : (some false) = some true := by rw [if_neg (show ¬ (false = true) by decide)] at H; exact H
                        clear H
                        have H := H1
                        clear H1
                        exact absurd H (by simp)
                    · replace c11 := Bool.eq_false_iff.mpr c11
                      subst c11
                      have H1 : (some false) = some true := by rw [if_neg (show ¬ (false = true) by decide)] at H; exact H
                      clear H
                      have H := H1
                      clear H1
                      exact absurd H (by simp)
                  · rw [if_neg c9] at H
                    exact absurd H (by simp)
                · rw [if_neg c8] at H
                  exact absurd H (by simp)
              · rw [if_neg c7] at H
                have c7b0 : decide (x28_2 < (y343.length : Int)) = false := decide_eq_false c7
                clear c7
                have H' := Aside0.mk H
                clear H
                go_wp2
                go_roundg k2
                case measure => have := HK1.out; have := HK2.out; omega
                case rel => exact ⟨(wrap64 (x1_1 + 1)), (by first | rfl | (simp; done) | (simp [*]; done)), H', ⟨by have := HK1.out; have := HK2.out; omega⟩, ⟨by repeat (first | (with_reducible first | exact HB.out | apply below_alloc | apply pw_below_drewN | apply below_drew1) | exact HB.out)⟩⟩
        · rw [if_neg c2] at H
          exact absurd H (by simp)
      · rw [if_neg c1] at H
        have c1b0 : decide (x1_1 < 64) = false := decide_eq_false c1
        clear c1
        obtain ⟨y361, hy361⟩ : ∃ y_ : List Int, y_ = (([0, 1, 2, 127, 128, 129, 255] : List Int)) := ⟨_, rfl⟩
        replace H : (chartroomlaw01_VarintKnown.l2 k1 y361 0) = some true := by first | (rw [hy361]; with_reducible exact H) | (have H2_ := (Option.bind_some _ _).symm.trans H; rw [hy361]; with_reducible exact H2_) | (have H2_ := (Option.bind_some _ _).symm.trans H; with_reducible exact H2_) | with_reducible exact H | (rw [hy361]; exact H) | exact H
        have Ny361 := Aside0.mk hy361
        clear hy361
        have H' := Aside0.mk H
        clear H
        go_wp2_with (first | ((with_reducible refine gate_dst (N := 49) rfl ?_); (try (refine gate_guard (by rfl) ?_; dsimp only)); refine Kd.R_lit (Kd.int .u8) _ 5 ?hg (N := 49) ?hd (xs := ([0, 1, 2, 127, 128, 129, 255] : List Int)) (inner := [.int .u8 0, .int .u8 1, .int .u8 2, .int .u8 127, .int .u8 128, .int .u8 129, .int .u8 255]) (ok := fun _ => True) (okp := fun _ => True) ?hr ?hp (fun _ hk => hk) trivial (Below.refl _ _) (Nat.le_refl _) (by simp) ?_; (case hd => rfl); (case hg => rfl); (case hr => first | (go_simp; done) | (go_simp; rfl)); (case hp => exact (Reps.one (show Kd.M (Kd.int .u8) _ _ _ 0 [.int .u8 0] from rfl) (Reps.one (show Kd.M (Kd.int .u8) _ _ _ 1 [.int .u8 1] from rfl) (Reps.one (show Kd.M (Kd.int .u8) _ _ _ 2 [.int .u8 2] from rfl) (Reps.one (show Kd.M (Kd.int .u8) _ _ _ 127 [.int .u8 127] from rfl) (Reps.one (show Kd.M (Kd.int .u8) _ _ _ 128 [.int .u8 128] from rfl) (Reps.one (show Kd.M (Kd.int .u8) _ _ _ 129 [.int .u8 129] from rfl) (Reps.one (show Kd.M (Kd.int .u8) _ _ _ 255 [.int .u8 255] from rfl) (Reps.none _ _))))))))); intro v362 w28 ho29 hb hg_ hnew_; clear hg_ hnew_; (first | rw [← Ny361.out] at ho29 | (simp only [Int.reduceToNat] at ho29; rw [← Ny361.out] at ho29)); have n0_ := Aside0.mk (Kd.R_lower ho29 (below_size (by repeat (first | (with_reducible first | exact HB.out | apply below_alloc | apply pw_below_drewN | apply below_drew1) | exact HB.out)))); have n1_ := Aside0.mk (below_step (by repeat (first | (with_reducible first | exact HB.out | apply below_alloc | apply pw_below_drewN | apply below_drew1) | exact HB.out)) hb); clear HB; have HO363 := n0_; have HB := n1_; clear n0_ n1_; clear hb ho29))
        go_loopg [6] k1 (fun kq v6 w' => ∃ (x6_2 : Int), v6 = .int .i64 x6_2 ∧ Aside0 (chartroomlaw01_VarintKnown.l2 kq y361 x6_2 = some true) ∧ Aside0 (kq ≤ k1) ∧ Aside0 (Kd.R (Kd.int .u8) 5 w' w.heap.size (fun _ => True) v362 y361) ∧ Aside0 (Below w.heap.size w w'))
        case atStart => exact ⟨(0), (by first | rfl | (simp; done) | (simp [*]; done)), H', ⟨Nat.le_refl _⟩, ⟨by (with_reducible repeat (first | apply Kd.R_alloc | apply Kd.R_drewN | apply Kd.R_drew)); exact HO363.out⟩, ⟨by repeat (first | (with_reducible first | exact HB.out | apply below_alloc | apply pw_below_drewN | apply below_drew1) | exact HB.out)⟩⟩
        case round =>
          clear H'
          try clear c1
          try clear c1b0
          try clear c2
          try clear c2b0
          try clear c2b1
          try clear p2
          try clear c3
          try clear p3
          try clear q3
          try clear hx3
          try clear c6
          try clear p6
          try clear c7
          try clear c7b0
          try clear c8
          try clear c8b0
          try clear c9
          try clear c9b0
          try clear c11
          try clear c15
          try clear hx346_0
          try clear p2
          try clear p346
          try clear q346
          obtain ⟨x6_2, rfl, HA, HK2, HO_5, HB⟩ := hrel
          cases gk with
          | zero => exact absurd HA.out (by simp [chartroomlaw01_VarintKnown.l2])
          | succ k2 =>
            have H := HA.out
            clear HA
            simp only [chartroomlaw01_VarintKnown.l2] at H
            by_cases c30 : x6_2 < 343
            · rw [if_pos c30] at H
              have c30b0 : decide (x6_2 < 343) = true := decide_eq_true c30
              clear c30
              obtain ⟨ji31, hji31⟩ : ∃ j_ : Int, (Int.tmod x6_2 7) = j_ := ⟨_, rfl⟩
              replace H : (if 0 ≤ (ji31) then (if (ji31) < (y361.length : Int) then (if 0 ≤ (Int.tmod (wrap64 (Int.tdiv x6_2 7)) 7) then (if (Int.tmod (wrap64 (Int.tdiv x6_2 7)) 7) < (y361.length : Int) then (if 0 ≤ (wrap64 (Int.tdiv x6_2 49)) then (if (wrap64 (Int.tdiv x6_2 49)) < (y361.length : Int) then (chartroomlaw01_VarintKnown.l3 k2 y361 x6_2 (([rd y361 (ji31), rd y361 (Int.tmod (wrap64 (Int.tdiv x6_2 7)) 7), rd y361 (wrap64 (Int.tdiv x6_2 49))] : List Int)) (([] : List Int)) 0) else (none)) else (none)) else (none)) else (none)) else (none)) else (none)) = some true := by first | (rw [hji31] at H; exact H) | (simp only [hji31] at H ⊢; exact H)
              by_cases c32 : 0 ≤ (ji31)
              · rw [if_pos c32] at H
                have c32b0 : decide (0 ≤ (ji31)) = true := decide_eq_true c32
                clear c32
                by_cases c33 : (ji31) < (y361.length : Int)
                · rw [if_pos c33] at H
                  have c33b0 : decide ((ji31) < (y361.length : Int)) = true := decide_eq_true c33
                  clear c33
                  obtain ⟨ji34, hji34⟩ : ∃ j_ : Int, (Int.tmod (wrap64 (Int.tdiv x6_2 7)) 7) = j_ := ⟨_, rfl⟩
                  replace H : (if 0 ≤ (ji34) then (if (ji34) < (y361.length : Int) then (if 0 ≤ (wrap64 (Int.tdiv x6_2 49)) then (if (wrap64 (Int.tdiv x6_2 49)) < (y361.length : Int) then (chartroomlaw01_VarintKnown.l3 k2 y361 x6_2 (([rd y361 (ji31), rd y361 (ji34), rd y361 (wrap64 (Int.tdiv x6_2 49))] : List Int)) (([] : List Int)) 0) else (none)) else (none)) else (none)) else (none)) = some true := by first | (rw [hji34] at H; exact H) | (simp only [hji34] at H ⊢; exact H)
                  by_cases c35 : 0 ≤ (ji34)
                  · rw [if_pos c35] at H
                    have c35b0 : decide (0 ≤ (ji34)) = true := decide_eq_true c35
                    clear c35
                    by_cases c36 : (ji34) < (y361.length : Int)
                    · rw [if_pos c36] at H
                      have c36b0 : decide ((ji34) < (y361.length : Int)) = true := decide_eq_true c36
                      clear c36
                      obtain ⟨ji37, hji37⟩ : ∃ j_ : Int, (wrap64 (Int.tdiv x6_2 49)) = j_ := ⟨_, rfl⟩
                      replace H : (if 0 ≤ (ji37) then (if (ji37) < (y361.length : Int) then (chartroomlaw01_VarintKnown.l3 k2 y361 x6_2 (([rd y361 (ji31), rd y361 (ji34), rd y361 (ji37)] : List Int)) (([] : List Int)) 0) else (none)) else (none)) = some true := by first | (rw [hji37] at H; exact H) | (simp only [hji37] at H ⊢; exact H)
                      have hji37w : (IntKind.i64.wrap (Int.tdiv x6_2 49)) = ji37 := (i64_w _).trans hji37
                      by_cases c38 : 0 ≤ (ji37)
                      · rw [if_pos c38] at H
                        have c38b0 : decide (0 ≤ (ji37)) = true := decide_eq_true c38
                        clear c38
                        by_cases c39 : (ji37) < (y361.length : Int)
                        · rw [if_pos c39] at H
                          have c39b0 : decide ((ji37) < (y361.length : Int)) = true := decide_eq_true c39
                          clear c39
                          obtain ⟨y367, hy367⟩ : ∃ y_ : List Int, y_ = (([rd y361 (ji31), rd y361 (ji34), rd y361 (ji37)] : List Int)) := ⟨_, rfl⟩
                          replace H : (chartroomlaw01_VarintKnown.l3 k2 y361 x6_2 y367 (([] : List Int)) 0) = some true := by first | (rw [hy367]; with_reducible exact H) | (have H2_ := (Option.bind_some _ _).symm.trans H; rw [hy367]; with_reducible exact H2_) | (have H2_ := (Option.bind_some _ _).symm.trans H; with_reducible exact H2_) | with_reducible exact H | (rw [hy367]; exact H) | exact H
                          have Ny367 := Aside0.mk hy367
                          clear hy367
                          obtain ⟨y370, hy370⟩ : ∃ y_ : List Int, y_ = (([] : List Int)) := ⟨_, rfl⟩
                          replace H : (chartroomlaw01_VarintKnown.l3 k2 y361 x6_2 y367 y370 0) = some true := by first | (rw [hy370]; with_reducible exact H) | (have H2_ := (Option.bind_some _ _).symm.trans H; rw [hy370]; with_reducible exact H2_) | (have H2_ := (Option.bind_some _ _).symm.trans H; with_reducible exact H2_) | with_reducible exact H | (rw [hy370]; exact H) | exact H
                          have Ny370 := Aside0.mk hy370
                          clear hy370
                          have H' := Aside0.mk H
                          clear H
                          try go_wp2
                          (try (rw [drewN_self wr]; generalize hq_ : World.drewN wr _ = wr; have n0_ : Aside0 (Kd.R (Kd.int .u8) 5 wr w.heap.size (fun _ => True) v362 y361) := ⟨by rw [← hq_]; exact (by (with_reducible repeat (first | apply Kd.R_alloc | apply Kd.R_drewN | apply Kd.R_drew)); exact HO_5.out)⟩; have n1_ : Aside0 (Below w.heap.size w wr) := ⟨by rw [← hq_]; exact (by repeat (first | (with_reducible first | exact HB.out | apply below_alloc | apply pw_below_drewN | apply below_drew1) | exact HB.out))⟩; clear HO_5 HB hq_; have HO_5 := n0_; have HB := n1_; clear n0_ n1_))
                          have n0_ := Aside0.mk (Kd.R_drew HO_5.out)
                          have n1_ := Aside0.mk (below_drew1 HB.out)
                          clear HO_5
                          clear HB
                          have HO_5 := n0_
                          have HB := n1_
                          clear n0_ n1_
                          obtain ⟨Ao41, co41, eo41⟩ := Kd.R_slice HO_5.out
                          (first | subst eo41 | (injection eo41 with f1_ f2_ f3_; have f4_ := f1_.symm; have f5_ := f3_.symm; clear f1_ f2_ f3_; subst f4_; subst f5_))
                          have p364 : 0 ≤ ((ji31) : Int) := of_decide_eq_true (by first | (with_reducible assumption) | assumption)
                          have q364 : (ji31) < (y361.length : Int) := of_decide_eq_true (by first | (with_reducible assumption) | assumption)
                          obtain ⟨ad364, e364, hx364_0⟩ := Kd.at_int (Kd.R_reads' HO_5.out).2.2 (ji31) p364 q364
                          cases e364
                          replace p364 := eq_true p364
                          replace q364 := eq_true q364
                          have p365 : 0 ≤ ((ji34) : Int) := of_decide_eq_true (by first | (with_reducible assumption) | assumption)
                          have q365 : (ji34) < (y361.length : Int) := of_decide_eq_true (by first | (with_reducible assumption) | assumption)
                          obtain ⟨ad365, e365, hx365_0⟩ := Kd.at_int (Kd.R_reads' HO_5.out).2.2 (ji34) p365 q365
                          obtain rfl : ad364 = ad365 := (by injection e365)
                          replace p365 := eq_true p365
                          replace q365 := eq_true q365
                          have p366 : 0 ≤ ((ji37) : Int) := of_decide_eq_true (by first | (with_reducible assumption) | assumption)
                          have q366 : (ji37) < (y361.length : Int) := of_decide_eq_true (by first | (with_reducible assumption) | assumption)
                          obtain ⟨ad366, e366, hx366_0⟩ := Kd.at_int (Kd.R_reads' HO_5.out).2.2 (ji37) p366 q366
                          obtain rfl : ad364 = ad366 := (by injection e366)
                          replace p366 := eq_true p366
                          replace q366 := eq_true q366
                          refine start_ (n := 18) (S := fun w' => w'.cell? (ad364.add ((ji31)).toNat) = some (.int .u8 (rd y361 (ji31))) ∧ w'.cell? (ad364.add ((ji34)).toNat) = some (.int .u8 (rd y361 (ji34))) ∧ w'.cell? (ad364.add ((ji37)).toNat) = some (.int .u8 (rd y361 (ji37)))) (ds := []) #[false, false, false, false, false, false, false, false, false, false, false, false, false, false, false, false, false, false] (by kernel_rfl) rfl rfl ⟨hx364_0, hx365_0, hx366_0⟩ (fun hHeld => ?_); refine with_tabW chartroomlaw01_VarintKnown.tab15 chartroomlaw01_VarintKnown.bits15 (fun HT_ HW_ => ?_)
                          generalize wr.drew = w40 at HO_5 HB hx364_0 hx365_0 hx366_0 hHeld ⊢
                          refine pure_ (i := 0) (N := some 54) (v := ?_) (a' := ?_) #[true, false, false, false, false, false, false, false, false, false, false, false, false, false, false, false, false, false] rfl rfl (any_of HT_.out (by kernel_rfl)) (fun _ _ _ h => h) (Or.inl ⟨by rfl, ?_⟩) ?_ ?_
                          rotate_left
                          · intro w'
                            go_simp
                            with_reducible rfl
                          rotate_left
                          · simp only [Act.put, List.setIfInBounds_toArray, List.set_cons_zero, List.set_cons_succ, i64_w, i32_w]
                            rfl
                          refine pure_ (i := 1) (N := some 55) (v := ?_) (a' := ?_) #[true, true, false, false, false, false, false, false, false, false, false, false, false, false, false, false, false, false] rfl rfl (any_of HT_.out (by kernel_rfl)) (fun _ _ _ h => h) (Or.inl ⟨by rfl, ?_⟩) ?_ ?_
                          rotate_left
                          · intro w'
                            go_simp
                            with_reducible rfl
                          rotate_left
                          · simp only [Act.put, List.setIfInBounds_toArray, List.set_cons_zero, List.set_cons_succ, i64_w, i32_w]
                            rfl
                          refine pure_ (i := 2) (N := some 56) (v := ?_) (a' := ?_) #[true, true, true, false, false, false, false, false, false, false, false, false, false, false, false, false, false, false] rfl rfl (any_of HT_.out (by kernel_rfl)) (fun _ _ _ h => h) (Or.inl ⟨by rfl, ?_⟩) ?_ ?_
                          rotate_left
                          · intro w'
                            go_simp
                            with_reducible rfl
                          rotate_left
                          · simp only [Act.put, List.setIfInBounds_toArray, List.set_cons_zero, List.set_cons_succ, i64_w, i32_w]
                            rfl
                          refine pure_ (i := 3) (N := some 57) (v := ?_) (a' := ?_) #[true, true, true, true, false, false, false, false, false, false, false, false, false, false, false, false, false, false] rfl rfl (any_of HT_.out (by kernel_rfl)) (fun _ _ _ h => h) (Or.inl ⟨by rfl, ?_⟩) ?_ ?_
                          rotate_left
                          · intro w'
                            go_simp
                            with_reducible rfl
                          rotate_left
                          · simp only [Act.put, List.setIfInBounds_toArray, List.set_cons_zero, List.set_cons_succ, i64_w, i32_w]
                            rfl
                          refine pure_ (i := 5) (N := some 59) (v := ?_) (a' := ?_) #[true, true, true, true, false, true, false, false, false, false, false, false, false, false, false, false, false, false] rfl rfl (any_of HT_.out (by kernel_rfl)) (fun _ _ _ h => h) (Or.inl ⟨by rfl, ?_⟩) ?_ ?_
                          rotate_left
                          · intro w'
                            go_simp
                            with_reducible rfl
                          rotate_left
                          · simp only [Act.put, List.setIfInBounds_toArray, List.set_cons_zero, List.set_cons_succ, i64_w, i32_w]
                            rfl
                          refine pure_ (i := 6) (N := some 60) (v := ?_) (a' := ?_) #[true, true, true, true, false, true, true, false, false, false, false, false, false, false, false, false, false, false] rfl rfl (any_of HT_.out (by kernel_rfl)) (fun _ _ _ h => h) (Or.inl ⟨by rfl, ?_⟩) ?_ ?_
                          rotate_left
                          · intro w'
                            go_simp
                            with_reducible rfl
                          rotate_left
                          · simp only [Act.put, List.setIfInBounds_toArray, List.set_cons_zero, List.set_cons_succ, i64_w, i32_w]
                            rfl
                          refine pure_ (i := 7) (N := some 61) (v := ?_) (a' := ?_) #[true, true, true, true, false, true, true, true, false, false, false, false, false, false, false, false, false, false] rfl rfl (any_of HT_.out (by kernel_rfl)) (fun _ _ _ h => h) (Or.inl ⟨by rfl, ?_⟩) ?_ ?_
                          rotate_left
                          · intro w'
                            go_simp
                            with_reducible rfl
                          rotate_left
                          · simp only [Act.put, List.setIfInBounds_toArray, List.set_cons_zero, List.set_cons_succ, i64_w, i32_w]
                            rfl
                          refine pure_ (i := 8) (N := some 62) (v := ?_) (a' := ?_) #[true, true, true, true, false, true, true, true, true, false, false, false, false, false, false, false, false, false] rfl rfl (any_of HT_.out (by kernel_rfl)) (fun _ _ _ h => h) (Or.inl ⟨by rfl, ?_⟩) ?_ ?_
                          rotate_left
                          · intro w'
                            go_simp
                            with_reducible rfl
                          rotate_left
                          · simp only [Act.put, List.setIfInBounds_toArray, List.set_cons_zero, List.set_cons_succ, i64_w, i32_w]
                            rfl
                          refine pure_ (i := 9) (N := some 63) (v := ?_) (a' := ?_) #[true, true, true, true, false, true, true, true, true, true, false, false, false, false, false, false, false, false] rfl rfl (any_of HT_.out (by kernel_rfl)) (fun _ _ _ h => h) (Or.inl ⟨by rfl, ?_⟩) ?_ ?_
                          rotate_left
                          · intro w'
                            go_simp
                            with_reducible rfl
                          rotate_left
                          · simp only [Act.put, List.setIfInBounds_toArray, List.set_cons_zero, List.set_cons_succ, i64_w, i32_w]
                            rfl
                          refine pure_ (i := 11) (N := some 65) (v := ?_) (a' := ?_) #[true, true, true, true, false, true, true, true, true, true, false, true, false, false, false, false, false, false] rfl rfl (any_of HT_.out (by kernel_rfl)) (fun _ _ _ h => h) (Or.inl ⟨by rfl, ?_⟩) ?_ ?_
                          rotate_left
                          · intro w'
                            go_simp
                            with_reducible rfl
                          rotate_left
                          · simp only [Act.put, List.setIfInBounds_toArray, List.set_cons_zero, List.set_cons_succ, i64_w, i32_w]
                            rfl
                          refine pure_ (i := 12) (N := some 66) (v := ?_) (a' := ?_) #[true, true, true, true, false, true, true, true, true, true, false, true, true, false, false, false, false, false] rfl rfl (any_of HT_.out (by kernel_rfl)) (fun _ _ _ h => h) (Or.inl ⟨by rfl, ?_⟩) ?_ ?_
                          rotate_left
                          · intro w'
                            go_simp
                            with_reducible rfl
                          rotate_left
                          · simp only [Act.put, List.setIfInBounds_toArray, List.set_cons_zero, List.set_cons_succ, i64_w, i32_w]
                            rfl
                          refine pure_ (i := 13) (N := some 67) (v := ?_) (a' := ?_) #[true, true, true, true, false, true, true, true, true, true, false, true, true, true, false, false, false, false] rfl rfl (any_of HT_.out (by kernel_rfl)) (fun _ _ _ h => h) (Or.inl ⟨by rfl, ?_⟩) ?_ ?_
                          rotate_left
                          · intro w'
                            go_simp
                            with_reducible rfl
                          rotate_left
                          · simp only [Act.put, List.setIfInBounds_toArray, List.set_cons_zero, List.set_cons_succ, i64_w, i32_w]
                            rfl
                          refine pure_ (i := 14) (N := some 68) (v := ?_) (a' := ?_) #[true, true, true, true, false, true, true, true, true, true, false, true, true, true, true, false, false, false] rfl rfl (any_of HT_.out (by kernel_rfl)) (fun _ _ _ h => h) (Or.inl ⟨by rfl, ?_⟩) ?_ ?_
                          rotate_left
                          · intro w'
                            go_simp
                            with_reducible rfl
                          rotate_left
                          · simp only [Act.put, List.setIfInBounds_toArray, List.set_cons_zero, List.set_cons_succ, i64_w, i32_w]
                            rfl
                          refine take_ (i := 4) (N := some 58) (v := ?_) (a' := ?_) #[true, true, true, true, true, true, true, true, true, true, false, true, true, true, true, false, false, false] rfl rfl (take_ofW HT_.out HW_.out (by kernel_rfl)) (fun _ _ _ h => h) (Or.inl ⟨by rfl, ?_⟩) hHeld ?_ ?_
                          rotate_left
                          · rintro w' ⟨s0, s1, s2⟩
                            go_simp
                            with_reducible rfl
                          rotate_left
                          · simp only [Act.put, List.setIfInBounds_toArray, List.set_cons_zero, List.set_cons_succ, i64_w, i32_w]
                            rfl
                          refine take_ (i := 10) (N := some 64) (v := ?_) (a' := ?_) #[true, true, true, true, true, true, true, true, true, true, true, true, true, true, true, false, false, false] rfl rfl (take_ofW HT_.out HW_.out (by kernel_rfl)) (fun _ _ _ h => h) (Or.inl ⟨by rfl, ?_⟩) hHeld ?_ ?_
                          rotate_left
                          · rintro w' ⟨s0, s1, s2⟩
                            go_simp
                            with_reducible rfl
                          rotate_left
                          · simp only [Act.put, List.setIfInBounds_toArray, List.set_cons_zero, List.set_cons_succ, i64_w, i32_w]
                            rfl
                          refine take_ (i := 15) (N := some 69) (v := ?_) (a' := ?_) #[true, true, true, true, true, true, true, true, true, true, true, true, true, true, true, true, false, false] rfl rfl (take_ofW HT_.out HW_.out (by kernel_rfl)) (fun _ _ _ h => h) (Or.inl ⟨by rfl, ?_⟩) hHeld ?_ ?_
                          rotate_left
                          · rintro w' ⟨s0, s1, s2⟩
                            go_simp
                            with_reducible rfl
                          rotate_left
                          · simp only [Act.put, List.setIfInBounds_toArray, List.set_cons_zero, List.set_cons_succ, i64_w, i32_w]
                            rfl
                          refine one_ (i := 16) (N := some 70) #[true, true, true, true, true, true, true, true, true, true, true, true, true, true, true, true, true, false] rfl rfl (one_of HT_.out (by kernel_rfl)) (by decide) (fun K hK => ?_)
                          refine Kd.R_lit_step (Kd.int .u8) _ 5 ?hg (N := 70) ?hd (xs := ([rd y361 (ji31), rd y361 (ji34), rd y361 (ji37)] : List Int)) (inner := [.int .u8 (rd y361 (ji31)), .int .u8 (rd y361 (ji34)), .int .u8 (rd y361 (ji37))]) (ok := fun _ => True) (okp := fun _ => True) ?hr ?hp (fun _ hk => hk) trivial (Below.refl _ _) (Nat.le_refl _) (by simp) ?_; (case hd => rfl); (case hg => rfl); (case hr => first | (go_simp; done) | (go_simp; rfl)); (case hp => exact (Reps.one (show Kd.M (Kd.int .u8) _ _ _ (rd y361 (ji31)) [.int .u8 (rd y361 (ji31))] from rfl) (Reps.one (show Kd.M (Kd.int .u8) _ _ _ (rd y361 (ji34)) [.int .u8 (rd y361 (ji34))] from rfl) (Reps.one (show Kd.M (Kd.int .u8) _ _ _ (rd y361 (ji37)) [.int .u8 (rd y361 (ji37))] from rfl) (Reps.none _ _)))))
                          intro v368 w42 ho43 hb hg_ hnew_
                          have HS0_ := (hb.cell (World.block_lt_of_cell? _ _ (hHeld.1))).trans (hHeld.1)
                          have HS1_ := (hb.cell (World.block_lt_of_cell? _ _ (hHeld.2.1))).trans (hHeld.2.1)
                          have HS2_ := (hb.cell (World.block_lt_of_cell? _ _ (hHeld.2.2))).trans (hHeld.2.2)
                          clear hg_ hnew_
                          (first | rw [← Ny367.out] at ho43 | (simp only [Int.reduceToNat] at ho43; rw [← Ny367.out] at ho43))
                          have n0_ := Aside0.mk (Kd.R_elder' (by (with_reducible repeat (first | apply Kd.R_alloc | apply Kd.R_drewN | apply Kd.R_drew)); exact HO_5.out) (Kd.R_base ho43) hb)
                          have n1_ := Aside0.mk (Kd.R_lower (Kd.R_new' ho43 (Kd.R_lt (by (with_reducible repeat (first | apply Kd.R_alloc | apply Kd.R_drewN | apply Kd.R_drew)); exact HO_5.out))) (below_size (by repeat (first | (with_reducible first | exact HB.out | apply below_alloc | apply pw_below_drewN | apply below_drew1) | exact HB.out))))
                          have n2_ := Aside0.mk (below_step (by repeat (first | (with_reducible first | exact HB.out | apply below_alloc | apply pw_below_drewN | apply below_drew1) | exact HB.out)) hb)
                          clear HO_5
                          clear HB
                          have HO_5 := n0_
                          have HO369 := n1_
                          have HB := n2_
                          clear n0_ n1_ n2_
                          clear hb ho43
                          refine hK.out _ _ ⟨HS0_, HS1_, HS2_⟩ (fun hHeld => ?_)
                          clear hK K
                          refine norm_ (a' := ?_) ?_ ?_
                          rotate_left
                          · show Act.put _ (some 70) _ = _
                            simp only [Act.put, List.setIfInBounds_toArray, List.set_cons_zero, List.set_cons_succ, i64_w, i32_w]
                            rfl
                          refine pure_ (i := 17) (N := some 7) (v := ?_) (a' := ?_) #[true, true, true, true, true, true, true, true, true, true, true, true, true, true, true, true, true, true] rfl rfl (any_of HT_.out (by kernel_rfl)) (fun _ _ _ h => h) (Or.inl ⟨by rfl, ?_⟩) ?_ ?_
                          rotate_left
                          · intro w'
                            go_simp
                            with_reducible rfl
                          rotate_left
                          · simp only [Act.put, List.setIfInBounds_toArray, List.set_cons_zero, List.set_cons_succ, i64_w, i32_w]
                            rfl
                          refine done_ (done_of HT_.out (by kernel_rfl)) ?_
                          try go_wp2_with (first | ((with_reducible refine gate_dst (N := 71) rfl ?_); (try (refine gate_guard (by rfl) ?_; dsimp only)); refine Kd.R_lit (Kd.int .u8) _ 5 ?hg (N := 71) ?hd (xs := ([] : List Int)) (inner := []) (ok := fun _ => True) (okp := fun _ => True) ?hr ?hp (fun _ hk => hk) trivial (Below.refl _ _) (Nat.le_refl _) (by simp) ?_; (case hd => rfl); (case hg => rfl); (case hr => first | (go_simp; done) | (go_simp; rfl)); (case hp => exact (Reps.none _ _)); intro v371 w44 ho45 hb hg_ hnew_; clear hg_ hnew_; (first | rw [← Ny370.out] at ho45 | (simp only [Int.reduceToNat] at ho45; rw [← Ny370.out] at ho45)); have n0_ := Aside0.mk (Kd.R_elder' (by (with_reducible repeat (first | apply Kd.R_alloc | apply Kd.R_drewN | apply Kd.R_drew)); exact HO_5.out) (Kd.R_base ho45) hb); have n1_ := Aside0.mk (Kd.R_elder' (by (with_reducible repeat (first | apply Kd.R_alloc | apply Kd.R_drewN | apply Kd.R_drew)); exact HO369.out) (Kd.R_base ho45) hb); have n2_ := Aside0.mk (Kd.R_lower (Kd.R_new' (Kd.R_new' ho45 (Kd.R_lt (by (with_reducible repeat (first | apply Kd.R_alloc | apply Kd.R_drewN | apply Kd.R_drew)); exact HO_5.out))) (Kd.R_lt (by (with_reducible repeat (first | apply Kd.R_alloc | apply Kd.R_drewN | apply Kd.R_drew)); exact HO369.out))) (below_size (by repeat (first | (with_reducible first | exact HB.out | apply below_alloc | apply pw_below_drewN | apply below_drew1) | exact HB.out)))); have n3_ := Aside0.mk (below_step (by repeat (first | (with_reducible first | exact HB.out | apply below_alloc | apply pw_below_drewN | apply below_drew1) | exact HB.out)) hb); clear HO_5; clear HO369; clear HB; have HO_5 := n0_; have HO369 := n1_; have HO372 := n2_; have HB := n3_; clear n0_ n1_ n2_ n3_; clear hb ho45))
                          go_loopg [8, 9] k2 (fun kq v8 v9 w' => ∃ (x8_3 : List Int) (x9_3 : Int), v9 = .int .i64 x9_3 ∧ Aside0 (chartroomlaw01_VarintKnown.l3 kq y361 x6_2 y367 x8_3 x9_3 = some true) ∧ Aside0 (kq ≤ k2) ∧ Aside0 (Kd.R (Kd.int .u8) 5 w' w.heap.size (fun k_ => some k_ ≠ (v368 : Value).ownBlock ∧ some k_ ≠ (v8 : Value).ownBlock) (.slice (some ad364) y361.length co41) y361) ∧ Aside0 (Kd.R (Kd.int .u8) 5 w' w.heap.size (fun k_ => some k_ ≠ ((.slice (some ad364) y361.length co41) : Value).ownBlock ∧ some k_ ≠ (v8 : Value).ownBlock) v368 y367) ∧ Aside0 (Kd.R (Kd.int .u8) 5 w' w.heap.size (fun k_ => some k_ ≠ ((.slice (some ad364) y361.length co41) : Value).ownBlock ∧ some k_ ≠ (v368 : Value).ownBlock) v8 x8_3) ∧ Aside0 (Below w.heap.size w w'))
                          case atStart => exact ⟨(y370), (0), (by first | rfl | (simp; done) | (simp [*]; done)), H', ⟨Nat.le_refl _⟩, ⟨by (with_reducible repeat (first | apply Kd.R_alloc | apply Kd.R_drewN | apply Kd.R_drew)); exact Kd.R_mono HO_5.out (fun _ hk => ⟨hk.1.2, hk.2⟩)⟩, ⟨by (with_reducible repeat (first | apply Kd.R_alloc | apply Kd.R_drewN | apply Kd.R_drew)); exact Kd.R_mono HO369.out (fun _ hk => ⟨hk.1.2, hk.2⟩)⟩, ⟨by (with_reducible repeat (first | apply Kd.R_alloc | apply Kd.R_drewN | apply Kd.R_drew)); exact Kd.R_mono HO372.out (fun _ hk => ⟨hk.1.2, hk.2⟩)⟩, ⟨by repeat (first | (with_reducible first | exact HB.out | apply below_alloc | apply pw_below_drewN | apply below_drew1) | exact HB.out)⟩⟩
                          case round =>
                            clear H'
                            try clear c1
                            try clear c1b0
                            try clear c2
                            try clear c2b0
                            try clear c2b1
                            try clear p2
                            try clear c3
                            try clear p3
                            try clear q3
                            try clear hx3
                            try clear c6
                            try clear p6
                            try clear c7
                            try clear c7b0
                            try clear c8
                            try clear c8b0
                            try clear c9
                            try clear c9b0
                            try clear c11
                            try clear c15
                            try clear c30
                            try clear c30b0
                            try clear c32
                            try clear c32b0
                            try clear c33
                            try clear c33b0
                            try clear p34
                            try clear q34
                            try clear hx34
                            try clear c35
                            try clear c35b0
                            try clear c36
                            try clear c36b0
                            try clear p36
                            try clear q36
                            try clear hx36
                            try clear c38
                            try clear c38b0
                            try clear c39
                            try clear c39b0
                            try clear hx346_0
                            try clear hx364_0
                            try clear hx365_0
                            try clear hx366_0
                            try clear p2
                            try clear p3
                            try clear p346
                            try clear p364
                            try clear p365
                            try clear p366
                            try clear p6
                            try clear q3
                            try clear q346
                            try clear q364
                            try clear q365
                            try clear q366
                            obtain ⟨x8_3, x9_3, rfl, HA, HK3, HO_5, HO_7, HO_8, HB⟩ := hrel
                            cases gk with
                            | zero => exact absurd HA.out (by simp [chartroomlaw01_VarintKnown.l3])
                            | succ k3 =>
                              have H := HA.out
                              clear HA
                              simp only [chartroomlaw01_VarintKnown.l3] at H
                              by_cases c46 : x9_3 < 3
                              · rw [if_pos c46] at H
                                have c46b0 : decide (x9_3 < 3) = true := decide_eq_true c46
                                clear c46
                                by_cases c47 : 0 ≤ x9_3
                                · rw [if_pos c47] at H
                                  have c47b0 : decide (0 ≤ x9_3) = true := decide_eq_true c47
                                  clear c47
                                  by_cases c48 : x9_3 < (y361.length : Int)
                                  · rw [if_pos c48] at H
                                    have c48b0 : decide (x9_3 < (y361.length : Int)) = true := decide_eq_true c48
                                    clear c48
                                    obtain ⟨y374, hy374⟩ : ∃ y_ : List Int, y_ = (([128, 255, rd y361 x9_3] : List Int)) := ⟨_, rfl⟩
                                    replace H : (if x8_3.length + y374.length < 140737488355328 then (chartroomlaw01_VarintKnown.l3 k3 y361 x6_2 y367 (x8_3 ++ y374) (wrap64 (x9_3 + 1))) else (none)) = some true := by first | (rw [hy374]; with_reducible exact H) | (have H2_ := (Option.bind_some _ _).symm.trans H; rw [hy374]; with_reducible exact H2_) | (have H2_ := (Option.bind_some _ _).symm.trans H; with_reducible exact H2_) | with_reducible exact H | (rw [hy374]; exact H) | exact H
                                    have Ny374 := Aside0.mk hy374
                                    clear hy374
                                    by_cases c49 : x8_3.length + y374.length < 140737488355328
                                    · rw [if_pos c49] at H
                                      have LMc49 := Aside0.mk c49
                                      clear c49
                                      obtain ⟨y377, hy377⟩ : ∃ y_ : List Int, y_ = (x8_3 ++ y374) := ⟨_, rfl⟩
                                      replace H : (chartroomlaw01_VarintKnown.l3 k3 y361 x6_2 y367 y377 (wrap64 (x9_3 + 1))) = some true := by first | (rw [hy377]; with_reducible exact H) | (have H2_ := (Option.bind_some _ _).symm.trans H; rw [hy377]; with_reducible exact H2_) | (have H2_ := (Option.bind_some _ _).symm.trans H; with_reducible exact H2_) | with_reducible exact H | (rw [hy377]; exact H) | exact H
                                      have Ny377 := Aside0.mk hy377
                                      clear hy377
                                      have H' := Aside0.mk H
                                      clear H
                                      have p373 : 0 ≤ (x9_3 : Int) := of_decide_eq_true (by first | (with_reducible assumption) | assumption)
                                      have q373 : x9_3 < (y361.length : Int) := of_decide_eq_true (by first | (with_reducible assumption) | assumption)
                                      obtain ⟨ad373, e373, hx373_0⟩ := Kd.at_int (Kd.R_reads' HO_5.out).2.2 x9_3 p373 q373
                                      obtain rfl : ad364 = ad373 := (by injection e373)
                                      replace p373 := eq_true p373
                                      replace q373 := eq_true q373
                                      go_wp2_with (first | ((with_reducible refine gate_dst (N := 81) rfl ?_); (try (refine gate_guard (by rfl) ?_; dsimp only)); refine Kd.R_lit (Kd.int .u8) _ 5 ?hg (N := 81) ?hd (xs := ([128, 255, rd y361 x9_3] : List Int)) (inner := [.int .u8 128, .int .u8 255, .int .u8 (rd y361 x9_3)]) (ok := fun _ => True) (okp := fun _ => True) ?hr ?hp (fun _ hk => hk) trivial (Below.refl _ _) (Nat.le_refl _) (by simp) ?_; (case hd => rfl); (case hg => rfl); (case hr => first | (go_simp; done) | (go_simp; rfl)); (case hp => exact (Reps.one (show Kd.M (Kd.int .u8) _ _ _ 128 [.int .u8 128] from rfl) (Reps.one (show Kd.M (Kd.int .u8) _ _ _ 255 [.int .u8 255] from rfl) (Reps.one (show Kd.M (Kd.int .u8) _ _ _ (rd y361 x9_3) [.int .u8 (rd y361 x9_3)] from rfl) (Reps.none _ _))))); intro v375 w50 ho51 hb hg_ hnew_; clear hg_ hnew_; (first | rw [← Ny374.out] at ho51 | (simp only [Int.reduceToNat] at ho51; rw [← Ny374.out] at ho51)); have n0_ := Aside0.mk (Kd.R_elder' (by (with_reducible repeat (first | apply Kd.R_alloc | apply Kd.R_drewN | apply Kd.R_drew)); exact HO_5.out) (Kd.R_base ho51) hb); have n1_ := Aside0.mk (Kd.R_elder' (by (with_reducible repeat (first | apply Kd.R_alloc | apply Kd.R_drewN | apply Kd.R_drew)); exact HO_7.out) (Kd.R_base ho51) hb); have n2_ := Aside0.mk (Kd.R_elder' (by (with_reducible repeat (first | apply Kd.R_alloc | apply Kd.R_drewN | apply Kd.R_drew)); exact HO_8.out) (Kd.R_base ho51) hb); have n3_ := Aside0.mk (Kd.R_lower (Kd.R_new' (Kd.R_new' (Kd.R_new' ho51 (Kd.R_lt (by (with_reducible repeat (first | apply Kd.R_alloc | apply Kd.R_drewN | apply Kd.R_drew)); exact HO_5.out))) (Kd.R_lt (by (with_reducible repeat (first | apply Kd.R_alloc | apply Kd.R_drewN | apply Kd.R_drew)); exact HO_7.out))) (Kd.R_lt (by (with_reducible repeat (first | apply Kd.R_alloc | apply Kd.R_drewN | apply Kd.R_drew)); exact HO_8.out))) (below_size (by repeat (first | (with_reducible first | exact HB.out | apply below_alloc | apply pw_below_drewN | apply below_drew1) | exact HB.out)))); have n4_ := Aside0.mk (below_step (by repeat (first | (with_reducible first | exact HB.out | apply below_alloc | apply pw_below_drewN | apply below_drew1) | exact HB.out)) hb); clear HO_5; clear HO_7; clear HO_8; clear HB; have HO_5 := n0_; have HO_7 := n1_; have HO_8 := n2_; have HO376 := n3_; have HB := n4_; clear n0_ n1_ n2_ n3_ n4_; clear hb ho51; obtain ⟨Ao53, co53, eo53⟩ := Kd.R_slice HO376.out; subst eo53) | ((with_reducible refine gate_builtin (b := .append) (xs := #[.tmp 76, .tmp 81]) rfl ?_); (try (refine gate_guard (by rfl) ?_; dsimp only)); at_builtin; refine Kd.R_append_rows (Kd.int .u8) (w0 := w) w.heap.size rfl (.tmp 76) (.tmp 81) 24 5 (.int .u8 0) 1 rfl Try.underlying24 info5 rfl (by decide) (by omega) u8 x8_3 y374 _ _ _ (fun k_ => some k_ ≠ (.slice (some ad364) y361.length co41 : Value).ownBlock ∧ some k_ ≠ (v368 : Value).ownBlock ∧ some k_ ≠ (.slice Ao53 y374.length co53 : Value).ownBlock) (fun _ => False) rfl rfl ?aO ?aR (fun _ _ h => h) (fun _ h => h.elim) ?aF ?aB ?aS ?aL ?_; (case aR => repeat (first | exact (Kd.R_reads' HO376.out).2.2 | (with_reducible refine Kd.C_alloc ?_ _) | (with_reducible refine Kd.C_drewN ?_ _) | (with_reducible refine Kd.C_drew ?_))); (case aB => exact (by repeat (first | (with_reducible first | exact HB.out | apply below_alloc | apply pw_below_drewN | apply below_drew1) | exact HB.out))); (case aF => exact (fun k_ hk => ⟨Kd.fresh' (Kd.R_lt (by (with_reducible repeat (first | apply Kd.R_alloc | apply Kd.R_drewN | apply Kd.R_drew)); exact HO_5.out)) k_ hk, Kd.fresh' (Kd.R_lt (by (with_reducible repeat (first | apply Kd.R_alloc | apply Kd.R_drewN | apply Kd.R_drew)); exact HO_7.out)) k_ hk, Kd.fresh' (Kd.R_lt (by (with_reducible repeat (first | apply Kd.R_alloc | apply Kd.R_drewN | apply Kd.R_drew)); exact HO376.out)) k_ hk⟩)); (case aO => exact (by (with_reducible repeat (first | apply Kd.R_alloc | apply Kd.R_drewN | apply Kd.R_drew)); exact Kd.R_mono HO_8.out (fun _ hk => ⟨hk.1.1, ⟨hk.1.2, hk.2⟩⟩))); (case aS => exact (below_size (by repeat (first | (with_reducible first | exact HB.out | apply below_alloc | apply pw_below_drewN | apply below_drew1) | exact HB.out)))); (case aL => have := LMc49.out; omega); intro v378 w52 ho hb hg hat; rw [← Ny377.out] at ho; have n0_ := Aside0.mk (Kd.R_after (ok := (fun k_ => some k_ ≠ (v368 : Value).ownBlock ∧ some k_ ≠ (.slice Ao53 y374.length co53 : Value).ownBlock)) (by (with_reducible repeat (first | apply Kd.R_alloc | apply Kd.R_drewN | apply Kd.R_drew)); exact Kd.R_mono HO_5.out (fun _ hk => ⟨⟨hk.1.1, hk.2⟩, hk.1.2⟩)) hg hat); have n1_ := Aside0.mk (Kd.R_after (ok := (fun k_ => some k_ ≠ (.slice (some ad364) y361.length co41 : Value).ownBlock ∧ some k_ ≠ (.slice Ao53 y374.length co53 : Value).ownBlock)) (by (with_reducible repeat (first | apply Kd.R_alloc | apply Kd.R_drewN | apply Kd.R_drew)); exact Kd.R_mono HO_7.out (fun _ hk => ⟨⟨hk.1.1, hk.2⟩, hk.1.2⟩)) hg hat); have n2_ := Aside0.mk (Kd.R_after (ok := (fun k_ => some k_ ≠ (.slice (some ad364) y361.length co41 : Value).ownBlock ∧ some k_ ≠ (v368 : Value).ownBlock)) (by (with_reducible repeat (first | apply Kd.R_alloc | apply Kd.R_drewN | apply Kd.R_drew)); exact Kd.R_mono HO376.out (fun _ hk => ⟨⟨hk.1.1.2, hk.1.2⟩, hk.2⟩)) hg hat); have n3_ := Aside0.mk (hb); have n4_ := Aside0.mk (ho); clear HO_5; clear HO_7; clear HO376; clear HB; clear HO_8; have HO_5 := n0_; have HO_7 := n1_; have HO376 := n2_; have HB := n3_; have HO379 := n4_; clear n0_ n1_ n2_ n3_ n4_; clear ho hb hg hat))
                                      go_roundg k3
                                      case measure => have := HK1.out; have := HK2.out; have := HK3.out; omega
                                      case rel => exact ⟨(y377), (wrap64 (x9_3 + 1)), (by first | rfl | (simp; done) | (simp [*]; done)), H', ⟨by have := HK1.out; have := HK2.out; have := HK3.out; omega⟩, ⟨by (with_reducible repeat (first | apply Kd.R_alloc | apply Kd.R_drewN | apply Kd.R_drew)); exact Kd.R_mono HO_5.out (fun _ hk => ⟨hk.1.1, hk.2⟩)⟩, ⟨by (with_reducible repeat (first | apply Kd.R_alloc | apply Kd.R_drewN | apply Kd.R_drew)); exact Kd.R_mono HO_7.out (fun _ hk => ⟨hk.1.1, hk.2⟩)⟩, ⟨by (with_reducible repeat (first | apply Kd.R_alloc | apply Kd.R_drewN | apply Kd.R_drew)); exact Kd.R_mono HO379.out (fun _ hk => ⟨hk.1, hk.2.1⟩)⟩, ⟨by repeat (first | (with_reducible first | exact HB.out | apply below_alloc | apply pw_below_drewN | apply below_drew1) | exact HB.out)⟩⟩
                                    · rw [if_neg c49] at H
                                      exact absurd H (by simp)
                                  · rw [if_neg c48] at H
                                    exact absurd H (by simp)
                                · rw [if_neg c47] at H
                                  exact absurd H (by simp)
                              · rw [if_neg c46] at H
                                have c46b0 : decide (x9_3 < 3) = false := decide_eq_false c46
                                clear c46
                                by_cases c54 : x8_3.length + y367.length < 140737488355328
                                · rw [if_pos c54] at H
                                  have LMc54 := Aside0.mk c54
                                  clear c54
                                  obtain ⟨y380, hy380⟩ : ∃ y_ : List Int, y_ = (x8_3 ++ y367) := ⟨_, rfl⟩
                                  replace H : (chartroomlaw01_VarintKnown.l4 k3 y361 x6_2 y367 y380 (-1)) = some true := by first | (rw [hy380]; with_reducible exact H) | (have H2_ := (Option.bind_some _ _).symm.trans H; rw [hy380]; with_reducible exact H2_) | (have H2_ := (Option.bind_some _ _).symm.trans H; with_reducible exact H2_) | with_reducible exact H | (rw [hy380]; exact H) | exact H
                                  have Ny380 := Aside0.mk hy380
                                  clear hy380
                                  have H' := Aside0.mk H
                                  clear H
                                  obtain ⟨Ao56, co56, eo56⟩ := Kd.R_slice HO_7.out
                                  subst eo56
                                  go_wp2_with (first | ((with_reducible refine gate_builtin (b := .append) (xs := #[.tmp 83, .tmp 84]) rfl ?_); (try (refine gate_guard (by rfl) ?_; dsimp only)); at_builtin; refine Kd.R_append_rows (Kd.int .u8) (w0 := w) w.heap.size rfl (.tmp 83) (.tmp 84) 24 5 (.int .u8 0) 1 rfl Try.underlying24 info5 rfl (by decide) (by omega) u8 x8_3 y367 _ _ _ (fun k_ => some k_ ≠ (.slice (some ad364) y361.length co41 : Value).ownBlock ∧ some k_ ≠ (.slice Ao56 y367.length co56 : Value).ownBlock) (fun _ => False) rfl rfl ?aO ?aR (fun _ _ h => h) (fun _ h => h.elim) ?aF ?aB ?aS ?aL ?_; (case aR => repeat (first | exact (Kd.R_reads' HO_7.out).2.2 | (with_reducible refine Kd.C_alloc ?_ _) | (with_reducible refine Kd.C_drewN ?_ _) | (with_reducible refine Kd.C_drew ?_))); (case aB => exact (by repeat (first | (with_reducible first | exact HB.out | apply below_alloc | apply pw_below_drewN | apply below_drew1) | exact HB.out))); (case aF => exact (fun k_ hk => ⟨Kd.fresh' (Kd.R_lt (by (with_reducible repeat (first | apply Kd.R_alloc | apply Kd.R_drewN | apply Kd.R_drew)); exact HO_5.out)) k_ hk, Kd.fresh' (Kd.R_lt (by (with_reducible repeat (first | apply Kd.R_alloc | apply Kd.R_drewN | apply Kd.R_drew)); exact HO_7.out)) k_ hk⟩)); (case aO => exact (by (with_reducible repeat (first | apply Kd.R_alloc | apply Kd.R_drewN | apply Kd.R_drew)); exact HO_8.out)); (case aS => exact (below_size (by repeat (first | (with_reducible first | exact HB.out | apply below_alloc | apply pw_below_drewN | apply below_drew1) | exact HB.out)))); (case aL => have := LMc54.out; omega); intro v381 w55 ho hb hg hat; rw [← Ny380.out] at ho; have n0_ := Aside0.mk (Kd.R_after (ok := (fun k_ => some k_ ≠ (.slice Ao56 y367.length co56 : Value).ownBlock)) (by (with_reducible repeat (first | apply Kd.R_alloc | apply Kd.R_drewN | apply Kd.R_drew)); exact HO_5.out) hg hat); have n1_ := Aside0.mk (Kd.R_after (ok := (fun k_ => some k_ ≠ (.slice (some ad364) y361.length co41 : Value).ownBlock)) (by (with_reducible repeat (first | apply Kd.R_alloc | apply Kd.R_drewN | apply Kd.R_drew)); exact HO_7.out) hg hat); have n2_ := Aside0.mk (hb); have n3_ := Aside0.mk (ho); clear HO_5; clear HO_7; clear HB; clear HO_8; have HO_5 := n0_; have HO_7 := n1_; have HB := n2_; have HO382 := n3_; clear n0_ n1_ n2_ n3_; clear ho hb hg hat))
                                  go_loopg [10] k3 (fun kq v10 w' => ∃ (x10_4 : Int), v10 = .int .i64 x10_4 ∧ Aside0 (chartroomlaw01_VarintKnown.l4 kq y361 x6_2 y367 y380 x10_4 = some true) ∧ Aside0 (kq ≤ k3) ∧ Aside0 (Kd.R (Kd.int .u8) 5 w' w.heap.size (fun k_ => some k_ ≠ ((.slice Ao56 y367.length co56) : Value).ownBlock ∧ some k_ ≠ (v381 : Value).ownBlock) (.slice (some ad364) y361.length co41) y361) ∧ Aside0 (Kd.R (Kd.int .u8) 5 w' w.heap.size (fun k_ => some k_ ≠ ((.slice (some ad364) y361.length co41) : Value).ownBlock ∧ some k_ ≠ (v381 : Value).ownBlock) (.slice Ao56 y367.length co56) y367) ∧ Aside0 (Kd.R (Kd.int .u8) 5 w' w.heap.size (fun k_ => some k_ ≠ ((.slice (some ad364) y361.length co41) : Value).ownBlock ∧ some k_ ≠ ((.slice Ao56 y367.length co56) : Value).ownBlock) v381 y380) ∧ Aside0 (Below w.heap.size w w'))
                                  case atStart => exact ⟨((-1)), (by first | rfl | (simp; done) | (simp [*]; done)), H', ⟨Nat.le_refl _⟩, ⟨by (with_reducible repeat (first | apply Kd.R_alloc | apply Kd.R_drewN | apply Kd.R_drew)); exact HO_5.out⟩, ⟨by (with_reducible repeat (first | apply Kd.R_alloc | apply Kd.R_drewN | apply Kd.R_drew)); exact HO_7.out⟩, ⟨by (with_reducible repeat (first | apply Kd.R_alloc | apply Kd.R_drewN | apply Kd.R_drew)); exact HO382.out⟩, ⟨by repeat (first | (with_reducible first | exact HB.out | apply below_alloc | apply pw_below_drewN | apply below_drew1) | exact HB.out)⟩⟩
                                  case round =>
                                    clear H'
                                    try clear c1
                                    try clear c1b0
                                    try clear c2
                                    try clear c2b0
                                    try clear c2b1
                                    try clear p2
                                    try clear c3
                                    try clear p3
                                    try clear q3
                                    try clear hx3
                                    try clear c4
                                    try clear c5
                                    try clear c6
                                    try clear p6
                                    try clear c7
                                    try clear c7b0
                                    try clear c8
                                    try clear c8b0
                                    try clear c9
                                    try clear c9b0
                                    try clear c11
                                    try clear c15
                                    try clear c30
                                    try clear c30b0
                                    try clear c32
                                    try clear c32b0
                                    try clear c33
                                    try clear c33b0
                                    try clear p34
                                    try clear q34
                                    try clear hx34
                                    try clear c35
                                    try clear c35b0
                                    try clear c36
                                    try clear c36b0
                                    try clear p36
                                    try clear q36
                                    try clear hx36
                                    try clear p37
                                    try clear q37
                                    try clear hx37
                                    try clear c38
                                    try clear c38b0
                                    try clear c39
                                    try clear c39b0
                                    try clear c46
                                    try clear c46b0
                                    try clear c47
                                    try clear c47b0
                                    try clear c48
                                    try clear c48b0
                                    try clear c49
                                    try clear c54
                                    try clear hx346_0
                                    try clear hx364_0
                                    try clear hx365_0
                                    try clear hx366_0
                                    try clear hx373_0
                                    try clear p2
                                    try clear p3
                                    try clear p34
                                    try clear p346
                                    try clear p36
                                    try clear p364
                                    try clear p365
                                    try clear p366
                                    try clear p373
                                    try clear p6
                                    try clear q3
                                    try clear q34
                                    try clear q346
                                    try clear q36
                                    try clear q364
                                    try clear q365
                                    try clear q366
                                    try clear q373
                                    obtain ⟨x10_4, rfl, HA, HK4, HO_5, HO_7, HO_8, HB⟩ := hrel
                                    cases gk with
                                    | zero => exact absurd HA.out (by simp [chartroomlaw01_VarintKnown.l4])
                                    | succ k4 =>
                                      have H := HA.out
                                      clear HA
                                      simp only [chartroomlaw01_VarintKnown.l4] at H
                                      by_cases c57 : x10_4 < 5
                                      · rw [if_pos c57] at H
                                        have c57b0 : decide (x10_4 < 5) = true := decide_eq_true c57
                                        clear c57
                                        replace H := Option.bind_eq_some_iff.mp H
                                        obtain ⟨t383, A580, H⟩ := H
                                        replace H : (if t383 = true then ((chartroomlaw01_VarintTakes.f k4 y380 x10_4 2).bind fun t384 => (if t384 = true then (chartroomlaw01_VarintKnown.l4 k4 y361 x6_2 y367 y380 (wrap64 (x10_4 + 1))) else (some false))) else (some false)) = some true := H
                                        have A58 := Aside0.mk A580
                                        clear A580
                                        by_cases c59 : t383 = true
                                        · subst c59
                                          have H1 : ((chartroomlaw01_VarintTakes.f k4 y380 x10_4 2).bind fun t384 => (if t384 = true then (chartroomlaw01_VarintKnown.l4 k4 y361 x6_2 y367 y380 (wrap64 (x10_4 + 1))) else (some false))) = some true := by rw [if_pos rfl] at H; exact H
                                          clear H
                                          have H := H1
                                          clear H1
                                          replace H := Option.bind_eq_some_iff.mp H
                                          obtain ⟨t384, A600, H⟩ := H
                                          replace H : (if t384 = true then (chartroomlaw01_VarintKnown.l4 k4 y361 x6_2 y367 y380 (wrap64 (x10_4 + 1))) else (some false)) = some true := H
                                          have A60 := Aside0.mk A600
                                          clear A600
                                          by_cases c61 : t384 = true
                                          · subst c61
                                            have H1 : (chartroomlaw01_VarintKnown.l4 k4 y361 x6_2 y367 y380 (wrap64 (x10_4 + 1))) = some true := by rw [if_pos rfl] at H; exact H
                                            clear H
                                            have H := H1
                                            clear H1
                                            have H' := Aside0.mk H
                                            clear H
                                            go_wp2_with (first | ((with_reducible refine gate_callee (f := 4) rfl ?_); refine goesL_ (some 93) rfl rfl Try.func4 (by kernel_rfl) rfl #[.slice Ao56 y367.length co56, .int .i64 x10_4, .int .i64 x10_4] rfl (by (try simp only [List.map_toArray, List.map_cons, List.map_nil]); first | done | rfl | (simp only [List.length_drop, List.length_take]; rfl)) ?_; (with_reducible refine (chartroomlaw01_VarintTakes.calls k4 _ _ y367 x10_4 x10_4 true _ ?side1 ?side2 A58.out).mono ?_); (case side1 => repeat (first | exact (Kd.R_reads' HO_7.out).2.2 | (with_reducible refine Kd.C_alloc ?_ _) | (with_reducible refine Kd.C_drewN ?_ _) | (with_reducible refine Kd.C_drew ?_))); (case side2 => exact (Kd.R_reads' HO_7.out).2.1); rintro e w62 ⟨rfl, hb⟩; refine ⟨_, rfl, ?_⟩; have n0_ := Aside0.mk (Kd.R_below (by (with_reducible repeat (first | apply Kd.R_alloc | apply Kd.R_drewN | apply Kd.R_drew)); exact HO_5.out) hb); have n1_ := Aside0.mk (Kd.R_below (by (with_reducible repeat (first | apply Kd.R_alloc | apply Kd.R_drewN | apply Kd.R_drew)); exact HO_7.out) hb); have n2_ := Aside0.mk (Kd.R_below (by (with_reducible repeat (first | apply Kd.R_alloc | apply Kd.R_drewN | apply Kd.R_drew)); exact HO_8.out) hb); have n3_ := Aside0.mk (below_step (by repeat (first | (with_reducible first | exact HB.out | apply below_alloc | apply pw_below_drewN | apply below_drew1) | exact HB.out)) hb); clear HO_5; clear HO_7; clear HO_8; clear HB; have HO_5 := n0_; have HO_7 := n1_; have HO_8 := n2_; have HB := n3_; clear n0_ n1_ n2_ n3_; (try clear hb); (try clear hb2); (try clear hk); (try clear hi); obtain ⟨Ao63, co63, eo63⟩ := Kd.R_slice HO_8.out; subst eo63) | (go_at_call 4; refine calls_of_args (args' := #[.slice Ao63 y380.length co63, .int .i64 x10_4, .int .i64 2]) (by rfl) ?_; (with_reducible refine (chartroomlaw01_VarintTakes.calls k4 _ _ y380 x10_4 2 true _ ?side1 ?side2 A60.out).mono ?_); (case side1 => repeat (first | exact (Kd.R_reads' HO_8.out).2.2 | (with_reducible refine Kd.C_alloc ?_ _) | (with_reducible refine Kd.C_drewN ?_ _) | (with_reducible refine Kd.C_drew ?_))); (case side2 => exact (Kd.R_reads' HO_8.out).2.1); rintro e w64 ⟨rfl, hb⟩; have n0_ := Aside0.mk (Kd.R_below (by (with_reducible repeat (first | apply Kd.R_alloc | apply Kd.R_drewN | apply Kd.R_drew)); exact HO_5.out) hb); have n1_ := Aside0.mk (Kd.R_below (by (with_reducible repeat (first | apply Kd.R_alloc | apply Kd.R_drewN | apply Kd.R_drew)); exact HO_7.out) hb); have n2_ := Aside0.mk (Kd.R_below (by (with_reducible repeat (first | apply Kd.R_alloc | apply Kd.R_drewN | apply Kd.R_drew)); exact HO_8.out) hb); have n3_ := Aside0.mk (below_step (by repeat (first | (with_reducible first | exact HB.out | apply below_alloc | apply pw_below_drewN | apply below_drew1) | exact HB.out)) hb); clear HO_5; clear HO_7; clear HO_8; clear HB; have HO_5 := n0_; have HO_7 := n1_; have HO_8 := n2_; have HB := n3_; clear n0_ n1_ n2_ n3_; (try clear hb); (try clear hb2); (try clear hk); (try clear hi)))
                                            go_roundg k4
                                            case measure => have := HK1.out; have := HK2.out; have := HK3.out; have := HK4.out; omega
                                            case rel => exact ⟨(wrap64 (x10_4 + 1)), (by first | rfl | (simp; done) | (simp [*]; done)), H', ⟨by have := HK1.out; have := HK2.out; have := HK3.out; have := HK4.out; omega⟩, ⟨by (with_reducible repeat (first | apply Kd.R_alloc | apply Kd.R_drewN | apply Kd.R_drew)); exact HO_5.out⟩, ⟨by (with_reducible repeat (first | apply Kd.R_alloc | apply Kd.R_drewN | apply Kd.R_drew)); exact HO_7.out⟩, ⟨by (with_reducible repeat (first | apply Kd.R_alloc | apply Kd.R_drewN | apply Kd.R_drew)); exact HO_8.out⟩, ⟨by repeat (first | (with_reducible first | exact HB.out | apply below_alloc | apply pw_below_drewN | apply below_drew1) | exact HB.out)⟩⟩
                                          · replace c61 := Bool.eq_false_iff.mpr c61
                                            subst c61
                                            have H1 : (some false) = some true := by rw [if_neg (show ¬ (false = true) by decide)] at H; exact H
                                            clear H
                                            have H := H1
                                            clear H1
                                            exact absurd H (by simp)
                                        · replace c59 := Bool.eq_false_iff.mpr c59
                                          subst c59
                                          have H1 : (some false) = some true := by rw [if_neg (show ¬ (false = true) by decide)] at H; exact H
                                          clear H
                                          have H := H1
                                          clear H1
                                          exact absurd H (by simp)
                                      · rw [if_neg c57] at H
                                        have c57b0 : decide (x10_4 < 5) = false := decide_eq_false c57
                                        clear c57
                                        have H' := Aside0.mk H
                                        clear H
                                        go_wp2
                                        go_roundg k4
                                        case measure => have := HK1.out; have := HK2.out; have := HK3.out; have := HK4.out; omega
                                        case rel => exact ⟨(wrap64 (x6_2 + 1)), (by first | rfl | (simp; done) | (simp [*]; done)), H', ⟨by have := HK1.out; have := HK2.out; have := HK3.out; have := HK4.out; omega⟩, ⟨by (with_reducible repeat (first | apply Kd.R_alloc | apply Kd.R_drewN | apply Kd.R_drew)); exact Kd.R_mono HO_5.out (fun _ hk => trivial)⟩, ⟨by repeat (first | (with_reducible first | exact HB.out | apply below_alloc | apply pw_below_drewN | apply below_drew1) | exact HB.out)⟩⟩
                                · rw [if_neg c54] at H
                                  exact absurd H (by simp)
                        · rw [if_neg c39] at H
                          exact absurd H (by simp)
                      · rw [if_neg c38] at H
                        exact absurd H (by simp)
                    · rw [if_neg c36] at H
                      exact absurd H (by simp)
                  · rw [if_neg c35] at H
                    exact absurd H (by simp)
                · rw [if_neg c33] at H
                  exact absurd H (by simp)
              · rw [if_neg c32] at H
                exact absurd H (by simp)
            · rw [if_neg c30] at H
              have c30b0 : decide (x6_2 < 343) = false := decide_eq_false c30
              clear c30
              obtain ⟨y385, hy385⟩ : ∃ y_ : List Int, y_ = (([255, 255, 255, 255, 255, 255, 255, 255, 255] : List Int)) := ⟨_, rfl⟩
              replace H : (chartroomlaw01_VarintKnown.l5 k2 y385 0) = some true := by first | (rw [hy385]; with_reducible exact H) | (have H2_ := (Option.bind_some _ _).symm.trans H; rw [hy385]; with_reducible exact H2_) | (have H2_ := (Option.bind_some _ _).symm.trans H; with_reducible exact H2_) | with_reducible exact H | (rw [hy385]; exact H) | exact H
              have Ny385 := Aside0.mk hy385
              clear hy385
              have H' := Aside0.mk H
              clear H
              go_wp2_with (first | ((with_reducible refine gate_dst (N := 101) rfl ?_); (try (refine gate_guard (by rfl) ?_; dsimp only)); refine Kd.R_lit (Kd.int .u8) _ 5 ?hg (N := 101) ?hd (xs := ([255, 255, 255, 255, 255, 255, 255, 255, 255] : List Int)) (inner := [.int .u8 255, .int .u8 255, .int .u8 255, .int .u8 255, .int .u8 255, .int .u8 255, .int .u8 255, .int .u8 255, .int .u8 255]) (ok := fun _ => True) (okp := fun _ => True) ?hr ?hp (fun _ hk => hk) trivial (Below.refl _ _) (Nat.le_refl _) (by simp) ?_; (case hd => rfl); (case hg => rfl); (case hr => first | (go_simp; done) | (go_simp; rfl)); (case hp => exact (Reps.one (show Kd.M (Kd.int .u8) _ _ _ 255 [.int .u8 255] from rfl) (Reps.one (show Kd.M (Kd.int .u8) _ _ _ 255 [.int .u8 255] from rfl) (Reps.one (show Kd.M (Kd.int .u8) _ _ _ 255 [.int .u8 255] from rfl) (Reps.one (show Kd.M (Kd.int .u8) _ _ _ 255 [.int .u8 255] from rfl) (Reps.one (show Kd.M (Kd.int .u8) _ _ _ 255 [.int .u8 255] from rfl) (Reps.one (show Kd.M (Kd.int .u8) _ _ _ 255 [.int .u8 255] from rfl) (Reps.one (show Kd.M (Kd.int .u8) _ _ _ 255 [.int .u8 255] from rfl) (Reps.one (show Kd.M (Kd.int .u8) _ _ _ 255 [.int .u8 255] from rfl) (Reps.one (show Kd.M (Kd.int .u8) _ _ _ 255 [.int .u8 255] from rfl) (Reps.none _ _))))))))))); intro v386 w65 ho66 hb hg_ hnew_; clear hg_ hnew_; (first | rw [← Ny385.out] at ho66 | (simp only [Int.reduceToNat] at ho66; rw [← Ny385.out] at ho66)); have n0_ := Aside0.mk (Kd.R_elder' (by (with_reducible repeat (first | apply Kd.R_alloc | apply Kd.R_drewN | apply Kd.R_drew)); exact HO_5.out) (Kd.R_base ho66) hb); have n1_ := Aside0.mk (Kd.R_lower (Kd.R_new' ho66 (Kd.R_lt (by (with_reducible repeat (first | apply Kd.R_alloc | apply Kd.R_drewN | apply Kd.R_drew)); exact HO_5.out))) (below_size (by repeat (first | (with_reducible first | exact HB.out | apply below_alloc | apply pw_below_drewN | apply below_drew1) | exact HB.out)))); have n2_ := Aside0.mk (below_step (by repeat (first | (with_reducible first | exact HB.out | apply below_alloc | apply pw_below_drewN | apply below_drew1) | exact HB.out)) hb); clear HO_5; clear HB; have HO_5 := n0_; have HO387 := n1_; have HB := n2_; clear n0_ n1_ n2_; clear hb ho66))
              go_loopg [12] k2 (fun kq v12 w' => ∃ (x12_3 : Int), v12 = .int .i64 x12_3 ∧ Aside0 (chartroomlaw01_VarintKnown.l5 kq y385 x12_3 = some true) ∧ Aside0 (kq ≤ k2) ∧ Aside0 (Kd.R (Kd.int .u8) 5 w' w.heap.size (fun _ => True) v386 y385) ∧ Aside0 (Below w.heap.size w w'))
              case atStart => exact ⟨(0), (by first | rfl | (simp; done) | (simp [*]; done)), H', ⟨Nat.le_refl _⟩, ⟨by (with_reducible repeat (first | apply Kd.R_alloc | apply Kd.R_drewN | apply Kd.R_drew)); exact Kd.R_mono HO387.out (fun _ hk => trivial)⟩, ⟨by repeat (first | (with_reducible first | exact HB.out | apply below_alloc | apply pw_below_drewN | apply below_drew1) | exact HB.out)⟩⟩
              case round =>
                clear H'
                try clear c1
                try clear c1b0
                try clear c2
                try clear c2b0
                try clear c2b1
                try clear p2
                try clear c3
                try clear p3
                try clear q3
                try clear hx3
                try clear c4
                try clear c5
                try clear c6
                try clear p6
                try clear c7
                try clear c7b0
                try clear c8
                try clear c8b0
                try clear c9
                try clear c9b0
                try clear c11
                try clear c15
                try clear c30
                try clear c30b0
                try clear c32
                try clear c32b0
                try clear c33
                try clear c33b0
                try clear p34
                try clear q34
                try clear hx34
                try clear c35
                try clear c35b0
                try clear c36
                try clear c36b0
                try clear p36
                try clear q36
                try clear hx36
                try clear p37
                try clear q37
                try clear hx37
                try clear c38
                try clear c38b0
                try clear c39
                try clear c39b0
                try clear c46
                try clear c46b0
                try clear c47
                try clear c47b0
                try clear c48
                try clear c48b0
                try clear c49
                try clear c54
                try clear c57
                try clear c57b0
                try clear c59
                try clear c61
                try clear p64
                try clear hx346_0
                try clear hx364_0
                try clear hx365_0
                try clear hx366_0
                try clear hx373_0
                try clear p2
                try clear p3
                try clear p34
                try clear p346
                try clear p36
                try clear p364
                try clear p365
                try clear p366
                try clear p37
                try clear p373
                try clear p6
                try clear q3
                try clear q34
                try clear q346
                try clear q36
                try clear q364
                try clear q365
                try clear q366
                try clear q37
                try clear q373
                obtain ⟨x12_3, rfl, HA, HK3, HO_11, HB⟩ := hrel
                cases gk with
                | zero => exact absurd HA.out (by simp [chartroomlaw01_VarintKnown.l5])
                | succ k3 =>
                  have H := HA.out
                  clear HA
                  simp only [chartroomlaw01_VarintKnown.l5] at H
                  by_cases c67 : x12_3 < 256
                  · rw [if_pos c67] at H
                    have c67b0 : decide (x12_3 < 256) = true := decide_eq_true c67
                    clear c67
                    replace H := Option.bind_eq_some_iff.mp H
                    obtain ⟨t388, A680, H⟩ := H
                    replace H : ((some (([(x12_3) % 256, (x12_3) % 256] : List Int) : List Int)).bind fun y391 => (if t388.length + y391.length < 140737488355328 then ((chartroomlaw01_VarintTakes.f k3 (t388 ++ y391) 0 1).bind fun t397 => (if t397 = true then (chartroomlaw01_VarintKnown.l5 k3 y385 (wrap64 (x12_3 + 1))) else (some false))) else (none))) = some true := H
                    have A68 := Aside0.mk A680
                    clear A680
                    obtain ⟨y391, hy391⟩ : ∃ y_ : List Int, y_ = (([(x12_3) % 256, (x12_3) % 256] : List Int)) := ⟨_, rfl⟩
                    replace H : (if t388.length + y391.length < 140737488355328 then ((chartroomlaw01_VarintTakes.f k3 (t388 ++ y391) 0 1).bind fun t397 => (if t397 = true then (chartroomlaw01_VarintKnown.l5 k3 y385 (wrap64 (x12_3 + 1))) else (some false))) else (none)) = some true := by first | (rw [hy391]; with_reducible exact H) | (have H2_ := (Option.bind_some _ _).symm.trans H; rw [hy391]; with_reducible exact H2_) | (have H2_ := (Option.bind_some _ _).symm.trans H; with_reducible exact H2_) | with_reducible exact H | (rw [hy391]; exact H) | exact H
                    have Ny391 := Aside0.mk hy391
                    clear hy391
                    by_cases c69 : t388.length + y391.length < 140737488355328
                    · rw [if_pos c69] at H
                      have LMc69 := Aside0.mk c69
                      clear c69
                      obtain ⟨y394, hy394⟩ : ∃ y_ : List Int, y_ = (t388 ++ y391) := ⟨_, rfl⟩
                      replace H : ((chartroomlaw01_VarintTakes.f k3 y394 0 1).bind fun t397 => (if t397 = true then (chartroomlaw01_VarintKnown.l5 k3 y385 (wrap64 (x12_3 + 1))) else (some false))) = some true := by first | (rw [hy394]; with_reducible exact H) | (have H2_ := (Option.bind_some _ _).symm.trans H; rw [hy394]; with_reducible exact H2_) | (have H2_ := (Option.bind_some _ _).symm.trans H; with_reducible exact H2_) | with_reducible exact H | (rw [hy394]; exact H) | exact H
                      have Ny394 := Aside0.mk hy394
                      clear hy394
                      replace H := Option.bind_eq_some_iff.mp H
                      obtain ⟨t397, A700, H⟩ := H
                      replace H : (if t397 = true then (chartroomlaw01_VarintKnown.l5 k3 y385 (wrap64 (x12_3 + 1))) else (some false)) = some true := H
                      have A70 := Aside0.mk A700
                      clear A700
                      by_cases c71 : t397 = true
                      · subst c71
                        have H1 : (chartroomlaw01_VarintKnown.l5 k3 y385 (wrap64 (x12_3 + 1))) = some true := by rw [if_pos rfl] at H; exact H
                        clear H
                        have H := H1
                        clear H1
                        have H' := Aside0.mk H
                        clear H
                        obtain ⟨Ao72, co72, eo72⟩ := Kd.R_slice HO_11.out
                        subst eo72
                        go_wp2_with (first | ((with_reducible refine gate_callee (f := 39) rfl ?_); refine goesL_ (some 107) rfl rfl Try.func39 (by kernel_rfl) rfl #[.slice Ao72 y385.length co72] rfl (by (try simp only [List.map_toArray, List.map_cons, List.map_nil]); first | done | rfl | (simp only [List.length_drop, List.length_take]; rfl)) ?_; (with_reducible refine (chartroomkit_Own.calls _ _ y385 t388 _ ?side1 ?side2 A68.out).mono ?_); (case side1 => repeat (first | exact (Kd.R_reads' HO_11.out).2.2 | (with_reducible refine Kd.C_alloc ?_ _) | (with_reducible refine Kd.C_drewN ?_ _) | (with_reducible refine Kd.C_drew ?_))); (case side2 => exact (Kd.R_reads' HO_11.out).2.1); rintro e w73 ⟨v389, rfl, ho0, hb⟩; refine ⟨_, rfl, ?_⟩; have n0_ := Aside0.mk (Kd.R_elder' (by (with_reducible repeat (first | apply Kd.R_alloc | apply Kd.R_drewN | apply Kd.R_drew)); exact HO_11.out) (Kd.R_base ho0) hb); have n1_ := Aside0.mk (Kd.R_lower (Kd.R_new' ho0 (Kd.R_lt (by (with_reducible repeat (first | apply Kd.R_alloc | apply Kd.R_drewN | apply Kd.R_drew)); exact HO_11.out))) (below_size (by repeat (first | (with_reducible first | exact HB.out | apply below_alloc | apply pw_below_drewN | apply below_drew1) | exact HB.out)))); have n2_ := Aside0.mk (below_step (by repeat (first | (with_reducible first | exact HB.out | apply below_alloc | apply pw_below_drewN | apply below_drew1) | exact HB.out)) hb); clear HO_11; clear HB; have HO_11 := n0_; have HO390 := n1_; have HB := n2_; clear n0_ n1_ n2_; (try clear hb); (try clear hb2); (try clear hk); (try clear hi); (try clear ho0)) | ((with_reducible refine gate_dst (N := 112) rfl ?_); (try (refine gate_guard (by rfl) ?_; dsimp only)); refine Kd.R_lit (Kd.int .u8) _ 5 ?hg (N := 112) ?hd (xs := ([(x12_3) % 256, (x12_3) % 256] : List Int)) (inner := [.int .u8 ((x12_3) % 256), .int .u8 ((x12_3) % 256)]) (ok := fun _ => True) (okp := fun _ => True) ?hr ?hp (fun _ hk => hk) trivial (Below.refl _ _) (Nat.le_refl _) (by simp) ?_; (case hd => rfl); (case hg => rfl); (case hr => first | (go_simp; done) | (go_simp; rfl)); (case hp => exact (Reps.one (show Kd.M (Kd.int .u8) _ _ _ ((x12_3) % 256) [.int .u8 ((x12_3) % 256)] from rfl) (Reps.one (show Kd.M (Kd.int .u8) _ _ _ ((x12_3) % 256) [.int .u8 ((x12_3) % 256)] from rfl) (Reps.none _ _)))); intro v392 w74 ho75 hb hg_ hnew_; clear hg_ hnew_; (first | rw [← Ny391.out] at ho75 | (simp only [Int.reduceToNat] at ho75; rw [← Ny391.out] at ho75)); have n0_ := Aside0.mk (Kd.R_elder' (by (with_reducible repeat (first | apply Kd.R_alloc | apply Kd.R_drewN | apply Kd.R_drew)); exact HO_11.out) (Kd.R_base ho75) hb); have n1_ := Aside0.mk (Kd.R_elder' (by (with_reducible repeat (first | apply Kd.R_alloc | apply Kd.R_drewN | apply Kd.R_drew)); exact HO390.out) (Kd.R_base ho75) hb); have n2_ := Aside0.mk (Kd.R_lower (Kd.R_new' (Kd.R_new' ho75 (Kd.R_lt (by (with_reducible repeat (first | apply Kd.R_alloc | apply Kd.R_drewN | apply Kd.R_drew)); exact HO_11.out))) (Kd.R_lt (by (with_reducible repeat (first | apply Kd.R_alloc | apply Kd.R_drewN | apply Kd.R_drew)); exact HO390.out))) (below_size (by repeat (first | (with_reducible first | exact HB.out | apply below_alloc | apply pw_below_drewN | apply below_drew1) | exact HB.out)))); have n3_ := Aside0.mk (below_step (by repeat (first | (with_reducible first | exact HB.out | apply below_alloc | apply pw_below_drewN | apply below_drew1) | exact HB.out)) hb); clear HO_11; clear HO390; clear HB; have HO_11 := n0_; have HO390 := n1_; have HO393 := n2_; have HB := n3_; clear n0_ n1_ n2_ n3_; clear hb ho75; obtain ⟨Ao77, co77, eo77⟩ := Kd.R_slice HO393.out; subst eo77) | ((with_reducible refine gate_builtin (b := .append) (xs := #[.tmp 107, .tmp 112]) rfl ?_); (try (refine gate_guard (by rfl) ?_; dsimp only)); at_builtin; refine Kd.R_append_rows (Kd.int .u8) (w0 := w) w.heap.size rfl (.tmp 107) (.tmp 112) 24 5 (.int .u8 0) 1 rfl Try.underlying24 info5 rfl (by decide) (by omega) v389 t388 y391 _ _ _ (fun k_ => some k_ ≠ (.slice Ao72 y385.length co72 : Value).ownBlock ∧ some k_ ≠ (.slice Ao77 y391.length co77 : Value).ownBlock) (fun _ => False) rfl rfl ?aO ?aR (fun _ _ h => h) (fun _ h => h.elim) ?aF ?aB ?aS ?aL ?_; (case aR => repeat (first | exact (Kd.R_reads' HO393.out).2.2 | (with_reducible refine Kd.C_alloc ?_ _) | (with_reducible refine Kd.C_drewN ?_ _) | (with_reducible refine Kd.C_drew ?_))); (case aB => exact (by repeat (first | (with_reducible first | exact HB.out | apply below_alloc | apply pw_below_drewN | apply below_drew1) | exact HB.out))); (case aF => exact (fun k_ hk => ⟨Kd.fresh' (Kd.R_lt (by (with_reducible repeat (first | apply Kd.R_alloc | apply Kd.R_drewN | apply Kd.R_drew)); exact HO_11.out)) k_ hk, Kd.fresh' (Kd.R_lt (by (with_reducible repeat (first | apply Kd.R_alloc | apply Kd.R_drewN | apply Kd.R_drew)); exact HO393.out)) k_ hk⟩)); (case aO => exact (by (with_reducible repeat (first | apply Kd.R_alloc | apply Kd.R_drewN | apply Kd.R_drew)); exact Kd.R_mono HO390.out (fun _ hk => ⟨hk.1.2, hk.2⟩))); (case aS => exact (below_size (by repeat (first | (with_reducible first | exact HB.out | apply below_alloc | apply pw_below_drewN | apply below_drew1) | exact HB.out)))); (case aL => have := LMc69.out; omega); intro v395 w76 ho hb hg hat; rw [← Ny394.out] at ho; have n0_ := Aside0.mk (Kd.R_after (ok := (fun k_ => some k_ ≠ (.slice Ao77 y391.length co77 : Value).ownBlock)) (by (with_reducible repeat (first | apply Kd.R_alloc | apply Kd.R_drewN | apply Kd.R_drew)); exact Kd.R_mono HO_11.out (fun _ hk => ⟨hk.2, hk.1.2⟩)) hg hat); have n1_ := Aside0.mk (Kd.R_after (ok := (fun k_ => some k_ ≠ (.slice Ao72 y385.length co72 : Value).ownBlock)) (by (with_reducible repeat (first | apply Kd.R_alloc | apply Kd.R_drewN | apply Kd.R_drew)); exact Kd.R_mono HO393.out (fun _ hk => ⟨hk.1.2, hk.2⟩)) hg hat); have n2_ := Aside0.mk (hb); have n3_ := Aside0.mk (ho); clear HO_11; clear HO393; clear HB; clear HO390; have HO_11 := n0_; have HO393 := n1_; have HB := n2_; have HO396 := n3_; clear n0_ n1_ n2_ n3_; clear ho hb hg hat; obtain ⟨Ao78, co78, eo78⟩ := Kd.R_slice HO396.out; subst eo78) | ((with_reducible refine gate_callee (f := 4) rfl ?_); refine goesL_ (some 114) rfl rfl Try.func4 (by kernel_rfl) rfl #[.slice Ao78 y394.length co78, .int .i64 0, .int .i64 1] rfl (by (try simp only [List.map_toArray, List.map_cons, List.map_nil]); first | done | rfl | (simp only [List.length_drop, List.length_take]; rfl)) ?_; (with_reducible refine (chartroomlaw01_VarintTakes.calls k3 _ _ y394 0 1 true _ ?side1 ?side2 A70.out).mono ?_); (case side1 => repeat (first | exact (Kd.R_reads' HO396.out).2.2 | (with_reducible refine Kd.C_alloc ?_ _) | (with_reducible refine Kd.C_drewN ?_ _) | (with_reducible refine Kd.C_drew ?_))); (case side2 => exact (Kd.R_reads' HO396.out).2.1); rintro e w79 ⟨rfl, hb⟩; refine ⟨_, rfl, ?_⟩; have n0_ := Aside0.mk (Kd.R_below (by (with_reducible repeat (first | apply Kd.R_alloc | apply Kd.R_drewN | apply Kd.R_drew)); exact HO_11.out) hb); have n1_ := Aside0.mk (Kd.R_below (by (with_reducible repeat (first | apply Kd.R_alloc | apply Kd.R_drewN | apply Kd.R_drew)); exact HO393.out) hb); have n2_ := Aside0.mk (Kd.R_below (by (with_reducible repeat (first | apply Kd.R_alloc | apply Kd.R_drewN | apply Kd.R_drew)); exact HO396.out) hb); have n3_ := Aside0.mk (below_step (by repeat (first | (with_reducible first | exact HB.out | apply below_alloc | apply pw_below_drewN | apply below_drew1) | exact HB.out)) hb); clear HO_11; clear HO393; clear HO396; clear HB; have HO_11 := n0_; have HO393 := n1_; have HO396 := n2_; have HB := n3_; clear n0_ n1_ n2_ n3_; (try clear hb); (try clear hb2); (try clear hk); (try clear hi)))
                        go_roundg k3
                        case measure => have := HK1.out; have := HK2.out; have := HK3.out; omega
                        case rel => exact ⟨(wrap64 (x12_3 + 1)), (by first | rfl | (simp; done) | (simp [*]; done)), H', ⟨by have := HK1.out; have := HK2.out; have := HK3.out; omega⟩, ⟨by (with_reducible repeat (first | apply Kd.R_alloc | apply Kd.R_drewN | apply Kd.R_drew)); exact Kd.R_mono HO_11.out (fun _ hk => trivial)⟩, ⟨by repeat (first | (with_reducible first | exact HB.out | apply below_alloc | apply pw_below_drewN | apply below_drew1) | exact HB.out)⟩⟩
                      · replace c71 := Bool.eq_false_iff.mpr c71
                        subst c71
                        have H1 : (some false) = some true := by rw [if_neg (show ¬ (false = true) by decide)] at H; exact H
                        clear H
                        have H := H1
                        clear H1
                        exact absurd H (by simp)
                    · rw [if_neg c69] at H
                      exact absurd H (by simp)
                  · rw [if_neg c67] at H
                    have c67b0 : decide (x12_3 < 256) = false := decide_eq_false c67
                    clear c67
                    replace H := Option.bind_eq_some_iff.mp H
                    obtain ⟨t398, A800, H⟩ := H
                    replace H : (if t398 = true then ((chartroomlaw01_VarintTakes.f k3 ([] : List Int) 0 0).bind fun t399 => (if t399 = true then ((chartroomlaw01_VarintTakes.f k3 (([3, 97, 97] : List Int)) 0 (-1)).bind fun t403 => (if t403 = true then ((chartroomlaw01_VarintTakes.f k3 (([255, 255, 255, 255, 255, 255, 255, 255, 255, 1, 97] : List Int)) 0 1).bind fun t407 => (if t407 = true then ((chartroomlaw01_VarintBack.f k3 ([] : List Int) (⟨#[97, 98, 99]⟩ : ByteArray) ([] : List Int) ([] : List Int)).bind fun t408 => (if t408 = true then ((chartroomlaw01_works.f k3).bind fun t409 => (some t409)) else (some false))) else (some false))) else (some false))) else (some false))) else (some false)) = some true := H
                    have A80 := Aside0.mk A800
                    clear A800
                    by_cases c81 : t398 = true
                    · subst c81
                      have H1 : ((chartroomlaw01_VarintTakes.f k3 ([] : List Int) 0 0).bind fun t399 => (if t399 = true then ((chartroomlaw01_VarintTakes.f k3 (([3, 97, 97] : List Int)) 0 (-1)).bind fun t403 => (if t403 = true then ((chartroomlaw01_VarintTakes.f k3 (([255, 255, 255, 255, 255, 255, 255, 255, 255, 1, 97] : List Int)) 0 1).bind fun t407 => (if t407 = true then ((chartroomlaw01_VarintBack.f k3 ([] : List Int) (⟨#[97, 98, 99]⟩ : ByteArray) ([] : List Int) ([] : List Int)).bind fun t408 => (if t408 = true then ((chartroomlaw01_works.f k3).bind fun t409 => (some t409)) else (some false))) else (some false))) else (some false))) else (some false))) = some true := by rw [if_pos rfl] at H; exact H
                      clear H
                      have H := H1
                      clear H1
                      replace H := Option.bind_eq_some_iff.mp H
                      obtain ⟨t399, A820, H⟩ := H
                      replace H : (if t399 = true then ((chartroomlaw01_VarintTakes.f k3 (([3, 97, 97] : List Int)) 0 (-1)).bind fun t403 => (if t403 = true then ((chartroomlaw01_VarintTakes.f k3 (([255, 255, 255, 255, 255, 255, 255, 255, 255, 1, 97] : List Int)) 0 1).bind fun t407 => (if t407 = true then ((chartroomlaw01_VarintBack.f k3 ([] : List Int) (⟨#[97, 98, 99]⟩ : ByteArray) ([] : List Int) ([] : List Int)).bind fun t408 => (if t408 = true then ((chartroomlaw01_works.f k3).bind fun t409 => (some t409)) else (some false))) else (some false))) else (some false))) else (some false)) = some true := H
                      have A82 := Aside0.mk A820
                      clear A820
                      by_cases c83 : t399 = true
                      · subst c83
                        have H1 : ((chartroomlaw01_VarintTakes.f k3 (([3, 97, 97] : List Int)) 0 (-1)).bind fun t403 => (if t403 = true then ((chartroomlaw01_VarintTakes.f k3 (([255, 255, 255, 255, 255, 255, 255, 255, 255, 1, 97] : List Int)) 0 1).bind fun t407 => (if t407 = true then ((chartroomlaw01_VarintBack.f k3 ([] : List Int) (⟨#[97, 98, 99]⟩ : ByteArray) ([] : List Int) ([] : List Int)).bind fun t408 => (if t408 = true then ((chartroomlaw01_works.f k3).bind fun t409 => (some t409)) else (some false))) else (some false))) else (some false))) = some true := by rw [if_pos rfl] at H; exact H
                        clear H
                        have H := H1
                        clear H1
                        obtain ⟨y400, hy400⟩ : ∃ y_ : List Int, y_ = (([3, 97, 97] : List Int)) := ⟨_, rfl⟩
                        replace H : ((chartroomlaw01_VarintTakes.f k3 y400 0 (-1)).bind fun t403 => (if t403 = true then ((chartroomlaw01_VarintTakes.f k3 (([255, 255, 255, 255, 255, 255, 255, 255, 255, 1, 97] : List Int)) 0 1).bind fun t407 => (if t407 = true then ((chartroomlaw01_VarintBack.f k3 ([] : List Int) (⟨#[97, 98, 99]⟩ : ByteArray) ([] : List Int) ([] : List Int)).bind fun t408 => (if t408 = true then ((chartroomlaw01_works.f k3).bind fun t409 => (some t409)) else (some false))) else (some false))) else (some false))) = some true := by first | (rw [hy400]; with_reducible exact H) | (have H2_ := (Option.bind_some _ _).symm.trans H; rw [hy400]; with_reducible exact H2_) | (have H2_ := (Option.bind_some _ _).symm.trans H; with_reducible exact H2_) | with_reducible exact H | (rw [hy400]; exact H) | exact H
                        have Ny400 := Aside0.mk hy400
                        clear hy400
                        replace H := Option.bind_eq_some_iff.mp H
                        obtain ⟨t403, A840, H⟩ := H
                        replace H : (if t403 = true then ((chartroomlaw01_VarintTakes.f k3 (([255, 255, 255, 255, 255, 255, 255, 255, 255, 1, 97] : List Int)) 0 1).bind fun t407 => (if t407 = true then ((chartroomlaw01_VarintBack.f k3 ([] : List Int) (⟨#[97, 98, 99]⟩ : ByteArray) ([] : List Int) ([] : List Int)).bind fun t408 => (if t408 = true then ((chartroomlaw01_works.f k3).bind fun t409 => (some t409)) else (some false))) else (some false))) else (some false)) = some true := H
                        have A84 := Aside0.mk A840
                        clear A840
                        by_cases c85 : t403 = true
                        · subst c85
                          have H1 : ((chartroomlaw01_VarintTakes.f k3 (([255, 255, 255, 255, 255, 255, 255, 255, 255, 1, 97] : List Int)) 0 1).bind fun t407 => (if t407 = true then ((chartroomlaw01_VarintBack.f k3 ([] : List Int) (⟨#[97, 98, 99]⟩ : ByteArray) ([] : List Int) ([] : List Int)).bind fun t408 => (if t408 = true then ((chartroomlaw01_works.f k3).bind fun t409 => (some t409)) else (some false))) else (some false))) = some true := by rw [if_pos rfl] at H; exact H
                          clear H
                          have H := H1
                          clear H1
                          obtain ⟨y404, hy404⟩ : ∃ y_ : List Int, y_ = (([255, 255, 255, 255, 255, 255, 255, 255, 255, 1, 97] : List Int)) := ⟨_, rfl⟩
                          replace H : ((chartroomlaw01_VarintTakes.f k3 y404 0 1).bind fun t407 => (if t407 = true then ((chartroomlaw01_VarintBack.f k3 ([] : List Int) (⟨#[97, 98, 99]⟩ : ByteArray) ([] : List Int) ([] : List Int)).bind fun t408 => (if t408 = true then ((chartroomlaw01_works.f k3).bind fun t409 => (some t409)) else (some false))) else (some false))) = some true := by first | (rw [hy404]; with_reducible exact H) | (have H2_ := (Option.bind_some _ _).symm.trans H; rw [hy404]; with_reducible exact H2_) | (have H2_ := (Option.bind_some _ _).symm.trans H; with_reducible exact H2_) | with_reducible exact H | (rw [hy404]; exact H) | exact H
                          have Ny404 := Aside0.mk hy404
                          clear hy404
                          replace H := Option.bind_eq_some_iff.mp H
                          obtain ⟨t407, A860, H⟩ := H
                          replace H : (if t407 = true then ((chartroomlaw01_VarintBack.f k3 ([] : List Int) (⟨#[97, 98, 99]⟩ : ByteArray) ([] : List Int) ([] : List Int)).bind fun t408 => (if t408 = true then ((chartroomlaw01_works.f k3).bind fun t409 => (some t409)) else (some false))) else (some false)) = some true := H
                          have A86 := Aside0.mk A860
                          clear A860
                          by_cases c87 : t407 = true
                          · subst c87
                            have H1 : ((chartroomlaw01_VarintBack.f k3 ([] : List Int) (⟨#[97, 98, 99]⟩ : ByteArray) ([] : List Int) ([] : List Int)).bind fun t408 => (if t408 = true then ((chartroomlaw01_works.f k3).bind fun t409 => (some t409)) else (some false))) = some true := by rw [if_pos rfl] at H; exact H
                            clear H
                            have H := H1
                            clear H1
                            replace H := Option.bind_eq_some_iff.mp H
                            obtain ⟨t408, A880, H⟩ := H
                            replace H : (if t408 = true then ((chartroomlaw01_works.f k3).bind fun t409 => (some t409)) else (some false)) = some true := H
                            have A88 := Aside0.mk A880
                            clear A880
                            by_cases c89 : t408 = true
                            · subst c89
                              have H1 : ((chartroomlaw01_works.f k3).bind fun t409 => (some t409)) = some true := by rw [if_pos rfl] at H; exact H
                              clear H
                              have H := H1
                              clear H1
                              replace H := Option.bind_eq_some_iff.mp H
                              obtain ⟨t409, A900, H⟩ := H
                              replace H : (some t409) = some true := H
                              have A90 := Aside0.mk A900
                              clear A900
                              have hX_ := Aside0.mk (Option.some.inj H)
                              clear H
                              obtain ⟨Ao91, co91, eo91⟩ := Kd.R_slice HO_11.out
                              subst eo91
                              go_wp2_with (first | ((with_reducible refine gate_callee (f := 4) rfl ?_); refine goesL_ (some 117) rfl rfl Try.func4 (by kernel_rfl) rfl #[.slice Ao91 y385.length co91, .int .i64 0, .int .i64 1] rfl (by (try simp only [List.map_toArray, List.map_cons, List.map_nil]); first | done | rfl | (simp only [List.length_drop, List.length_take]; rfl)) ?_; (with_reducible refine (chartroomlaw01_VarintTakes.calls k3 _ _ y385 0 1 true _ ?side1 ?side2 A80.out).mono ?_); (case side1 => repeat (first | exact (Kd.R_reads' HO_11.out).2.2 | (with_reducible refine Kd.C_alloc ?_ _) | (with_reducible refine Kd.C_drewN ?_ _) | (with_reducible refine Kd.C_drew ?_))); (case side2 => exact (Kd.R_reads' HO_11.out).2.1); rintro e w92 ⟨rfl, hb⟩; refine ⟨_, rfl, ?_⟩; have n0_ := Aside0.mk (Kd.R_below (by (with_reducible repeat (first | apply Kd.R_alloc | apply Kd.R_drewN | apply Kd.R_drew)); exact HO_11.out) hb); have n1_ := Aside0.mk (below_step (by repeat (first | (with_reducible first | exact HB.out | apply below_alloc | apply pw_below_drewN | apply below_drew1) | exact HB.out)) hb); clear HO_11; clear HB; have HO_11 := n0_; have HB := n1_; clear n0_ n1_; (try clear hb); (try clear hb2); (try clear hk); (try clear hi)) | ((with_reducible refine gate_dst (N := 122) rfl ?_); (try (refine gate_guard (by rfl) ?_; dsimp only)); refine Kd.R_lit (Kd.int .u8) _ 5 ?hg (N := 122) ?hd (xs := ([3, 97, 97] : List Int)) (inner := [.int .u8 3, .int .u8 97, .int .u8 97]) (ok := fun _ => True) (okp := fun _ => True) ?hr ?hp (fun _ hk => hk) trivial (Below.refl _ _) (Nat.le_refl _) (by simp) ?_; (case hd => rfl); (case hg => rfl); (case hr => first | (go_simp; done) | (go_simp; rfl)); (case hp => exact (Reps.one (show Kd.M (Kd.int .u8) _ _ _ 3 [.int .u8 3] from rfl) (Reps.one (show Kd.M (Kd.int .u8) _ _ _ 97 [.int .u8 97] from rfl) (Reps.one (show Kd.M (Kd.int .u8) _ _ _ 97 [.int .u8 97] from rfl) (Reps.none _ _))))); intro v401 w94 ho95 hb hg_ hnew_; clear hg_ hnew_; (first | rw [← Ny400.out] at ho95 | (simp only [Int.reduceToNat] at ho95; rw [← Ny400.out] at ho95)); have n0_ := Aside0.mk (Kd.R_elder' (by (with_reducible repeat (first | apply Kd.R_alloc | apply Kd.R_drewN | apply Kd.R_drew)); exact HO_11.out) (Kd.R_base ho95) hb); have n1_ := Aside0.mk (Kd.R_lower (Kd.R_new' ho95 (Kd.R_lt (by (with_reducible repeat (first | apply Kd.R_alloc | apply Kd.R_drewN | apply Kd.R_drew)); exact HO_11.out))) (below_size (by repeat (first | (with_reducible first | exact HB.out | apply below_alloc | apply pw_below_drewN | apply below_drew1) | exact HB.out)))); have n2_ := Aside0.mk (below_step (by repeat (first | (with_reducible first | exact HB.out | apply below_alloc | apply pw_below_drewN | apply below_drew1) | exact HB.out)) hb); clear HO_11; clear HB; have HO_11 := n0_; have HO402 := n1_; have HB := n2_; clear n0_ n1_ n2_; clear hb ho95; obtain ⟨Ao96, co96, eo96⟩ := Kd.R_slice HO402.out; subst eo96) | ((with_reducible refine gate_dst (N := 126) rfl ?_); (try (refine gate_guard (by rfl) ?_; dsimp only)); refine Kd.R_lit (Kd.int .u8) _ 5 ?hg (N := 126) ?hd (xs := ([255, 255, 255, 255, 255, 255, 255, 255, 255, 1, 97] : List Int)) (inner := [.int .u8 255, .int .u8 255, .int .u8 255, .int .u8 255, .int .u8 255, .int .u8 255, .int .u8 255, .int .u8 255, .int .u8 255, .int .u8 1, .int .u8 97]) (ok := fun _ => True) (okp := fun _ => True) ?hr ?hp (fun _ hk => hk) trivial (Below.refl _ _) (Nat.le_refl _) (by simp) ?_; (case hd => rfl); (case hg => rfl); (case hr => first | (go_simp; done) | (go_simp; rfl)); (case hp => exact (Reps.one (show Kd.M (Kd.int .u8) _ _ _ 255 [.int .u8 255] from rfl) (Reps.one (show Kd.M (Kd.int .u8) _ _ _ 255 [.int .u8 255] from rfl) (Reps.one (show Kd.M (Kd.int .u8) _ _ _ 255 [.int .u8 255] from rfl) (Reps.one (show Kd.M (Kd.int .u8) _ _ _ 255 [.int .u8 255] from rfl) (Reps.one (show Kd.M (Kd.int .u8) _ _ _ 255 [.int .u8 255] from rfl) (Reps.one (show Kd.M (Kd.int .u8) _ _ _ 255 [.int .u8 255] from rfl) (Reps.one (show Kd.M (Kd.int .u8) _ _ _ 255 [.int .u8 255] from rfl) (Reps.one (show Kd.M (Kd.int .u8) _ _ _ 255 [.int .u8 255] from rfl) (Reps.one (show Kd.M (Kd.int .u8) _ _ _ 255 [.int .u8 255] from rfl) (Reps.one (show Kd.M (Kd.int .u8) _ _ _ 1 [.int .u8 1] from rfl) (Reps.one (show Kd.M (Kd.int .u8) _ _ _ 97 [.int .u8 97] from rfl) (Reps.none _ _))))))))))))); intro v405 w98 ho99 hb hg_ hnew_; clear hg_ hnew_; (first | rw [← Ny404.out] at ho99 | (simp only [Int.reduceToNat] at ho99; rw [← Ny404.out] at ho99)); have n0_ := Aside0.mk (Kd.R_elder' (by (with_reducible repeat (first | apply Kd.R_alloc | apply Kd.R_drewN | apply Kd.R_drew)); exact HO_11.out) (Kd.R_base ho99) hb); have n1_ := Aside0.mk (Kd.R_elder' (by (with_reducible repeat (first | apply Kd.R_alloc | apply Kd.R_drewN | apply Kd.R_drew)); exact HO402.out) (Kd.R_base ho99) hb); have n2_ := Aside0.mk (Kd.R_lower (Kd.R_new' (Kd.R_new' ho99 (Kd.R_lt (by (with_reducible repeat (first | apply Kd.R_alloc | apply Kd.R_drewN | apply Kd.R_drew)); exact HO_11.out))) (Kd.R_lt (by (with_reducible repeat (first | apply Kd.R_alloc | apply Kd.R_drewN | apply Kd.R_drew)); exact HO402.out))) (below_size (by repeat (first | (with_reducible first | exact HB.out | apply below_alloc | apply pw_below_drewN | apply below_drew1) | exact HB.out)))); have n3_ := Aside0.mk (below_step (by repeat (first | (with_reducible first | exact HB.out | apply below_alloc | apply pw_below_drewN | apply below_drew1) | exact HB.out)) hb); clear HO_11; clear HO402; clear HB; have HO_11 := n0_; have HO402 := n1_; have HO406 := n2_; have HB := n3_; clear n0_ n1_ n2_ n3_; clear hb ho99; obtain ⟨Ao100, co100, eo100⟩ := Kd.R_slice HO406.out; subst eo100) | (go_at_call 4; refine calls_of_args (args' := #[.slice none 0 0, .int .i64 0, .int .i64 0]) (by rfl) ?_; (refine (chartroomlaw01_VarintTakes.calls k3 _ _ ([] : List Int) 0 0 true _ ?side1 ?side2 A82.out).mono ?_); (case side1 => exact Kd.C_nil _ _); (case side2 => exact Nat.le_refl _); rintro e w93 ⟨rfl, hb⟩; have n0_ := Aside0.mk (Kd.R_below (by (with_reducible repeat (first | apply Kd.R_alloc | apply Kd.R_drewN | apply Kd.R_drew)); exact HO_11.out) hb); have n1_ := Aside0.mk (below_step (by repeat (first | (with_reducible first | exact HB.out | apply below_alloc | apply pw_below_drewN | apply below_drew1) | exact HB.out)) hb); clear HO_11; clear HB; have HO_11 := n0_; have HB := n1_; clear n0_ n1_; (try clear hb); (try clear hb2); (try clear hk); (try clear hi)) | (go_at_call 4; refine calls_of_args (args' := #[.slice Ao96 y400.length co96, .int .i64 0, .int .i64 (-1)]) (by rfl) ?_; (with_reducible refine (chartroomlaw01_VarintTakes.calls k3 _ _ y400 0 (-1) true _ ?side1 ?side2 A84.out).mono ?_); (case side1 => repeat (first | exact (Kd.R_reads' HO402.out).2.2 | (with_reducible refine Kd.C_alloc ?_ _) | (with_reducible refine Kd.C_drewN ?_ _) | (with_reducible refine Kd.C_drew ?_))); (case side2 => exact (Kd.R_reads' HO402.out).2.1); rintro e w97 ⟨rfl, hb⟩; have n0_ := Aside0.mk (Kd.R_below (by (with_reducible repeat (first | apply Kd.R_alloc | apply Kd.R_drewN | apply Kd.R_drew)); exact HO_11.out) hb); have n1_ := Aside0.mk (Kd.R_below (by (with_reducible repeat (first | apply Kd.R_alloc | apply Kd.R_drewN | apply Kd.R_drew)); exact HO402.out) hb); have n2_ := Aside0.mk (below_step (by repeat (first | (with_reducible first | exact HB.out | apply below_alloc | apply pw_below_drewN | apply below_drew1) | exact HB.out)) hb); clear HO_11; clear HO402; clear HB; have HO_11 := n0_; have HO402 := n1_; have HB := n2_; clear n0_ n1_ n2_; (try clear hb); (try clear hb2); (try clear hk); (try clear hi)) | (go_at_call 4; refine calls_of_args (args' := #[.slice Ao100 y404.length co100, .int .i64 0, .int .i64 1]) (by rfl) ?_; (with_reducible refine (chartroomlaw01_VarintTakes.calls k3 _ _ y404 0 1 true _ ?side1 ?side2 A86.out).mono ?_); (case side1 => repeat (first | exact (Kd.R_reads' HO406.out).2.2 | (with_reducible refine Kd.C_alloc ?_ _) | (with_reducible refine Kd.C_drewN ?_ _) | (with_reducible refine Kd.C_drew ?_))); (case side2 => exact (Kd.R_reads' HO406.out).2.1); rintro e w101 ⟨rfl, hb⟩; have n0_ := Aside0.mk (Kd.R_below (by (with_reducible repeat (first | apply Kd.R_alloc | apply Kd.R_drewN | apply Kd.R_drew)); exact HO_11.out) hb); have n1_ := Aside0.mk (Kd.R_below (by (with_reducible repeat (first | apply Kd.R_alloc | apply Kd.R_drewN | apply Kd.R_drew)); exact HO402.out) hb); have n2_ := Aside0.mk (Kd.R_below (by (with_reducible repeat (first | apply Kd.R_alloc | apply Kd.R_drewN | apply Kd.R_drew)); exact HO406.out) hb); have n3_ := Aside0.mk (below_step (by repeat (first | (with_reducible first | exact HB.out | apply below_alloc | apply pw_below_drewN | apply below_drew1) | exact HB.out)) hb); clear HO_11; clear HO402; clear HO406; clear HB; have HO_11 := n0_; have HO402 := n1_; have HO406 := n2_; have HB := n3_; clear n0_ n1_ n2_ n3_; (try clear hb); (try clear hb2); (try clear hk); (try clear hi)) | (go_at_call 5; refine calls_of_args (args' := #[.slice none 0 0, .string (⟨#[97, 98, 99]⟩ : ByteArray), .slice none 0 0, .slice none 0 0]) (by rfl) ?_; (refine (chartroomlaw01_VarintBack.calls k3 _ _ ([] : List Int) (⟨#[97, 98, 99]⟩ : ByteArray) _ _ ([] : List Int) _ _ ([] : List Int) true _ ?side1 ?side2 ?side3 ?side4 ?side5 ?side6 A88.out).mono ?_); (case side1 => exact Kd.C_nil _ _); (case side2 => exact Nat.le_refl _); (case side3 => exact Kd.C_nil _ _); (case side4 => exact Nat.le_refl _); (case side5 => exact Kd.C_nil _ _); (case side6 => exact Nat.le_refl _); rintro e w102 ⟨rfl, hb⟩; have n0_ := Aside0.mk (Kd.R_below (by (with_reducible repeat (first | apply Kd.R_alloc | apply Kd.R_drewN | apply Kd.R_drew)); exact HO_11.out) hb); have n1_ := Aside0.mk (Kd.R_below (by (with_reducible repeat (first | apply Kd.R_alloc | apply Kd.R_drewN | apply Kd.R_drew)); exact HO402.out) hb); have n2_ := Aside0.mk (Kd.R_below (by (with_reducible repeat (first | apply Kd.R_alloc | apply Kd.R_drewN | apply Kd.R_drew)); exact HO406.out) hb); have n3_ := Aside0.mk (below_step (by repeat (first | (with_reducible first | exact HB.out | apply below_alloc | apply pw_below_drewN | apply below_drew1) | exact HB.out)) hb); clear HO_11; clear HO402; clear HO406; clear HB; have HO_11 := n0_; have HO402 := n1_; have HO406 := n2_; have HB := n3_; clear n0_ n1_ n2_ n3_; (try clear hb); (try clear hb2); (try clear hk); (try clear hi)) | (go_at_call 29; refine calls_of_args (args' := #[]) (by rfl) ?_; (with_reducible refine (chartroomlaw01_works.calls k3  t409 _ A90.out).mono ?_); rintro e w103 ⟨rfl, hb⟩; have n0_ := Aside0.mk (Kd.R_below (by (with_reducible repeat (first | apply Kd.R_alloc | apply Kd.R_drewN | apply Kd.R_drew)); exact HO_11.out) hb); have n1_ := Aside0.mk (Kd.R_below (by (with_reducible repeat (first | apply Kd.R_alloc | apply Kd.R_drewN | apply Kd.R_drew)); exact HO402.out) hb); have n2_ := Aside0.mk (Kd.R_below (by (with_reducible repeat (first | apply Kd.R_alloc | apply Kd.R_drewN | apply Kd.R_drew)); exact HO406.out) hb); have n3_ := Aside0.mk (below_step (by repeat (first | (with_reducible first | exact HB.out | apply below_alloc | apply pw_below_drewN | apply below_drew1) | exact HB.out)) hb); clear HO_11; clear HO402; clear HO406; clear HB; have HO_11 := n0_; have HO402 := n1_; have HO406 := n2_; have HB := n3_; clear n0_ n1_ n2_ n3_; (try clear hb); (try clear hb2); (try clear hk); (try clear hi)))
                              go_ret
                              exact ⟨by first | rfl | (rw [hX_.out] <;> rfl) | (simp [errW_none, errW_some] <;> rfl) | (simp [*, errW_none, errW_some] <;> rfl), by repeat (first | (with_reducible first | exact HB.out | apply below_alloc | apply pw_below_drewN | apply below_drew1) | exact HB.out)⟩
                            · replace c89 := Bool.eq_false_iff.mpr c89
                              subst c89
                              have H1 : (some false) = some true := by rw [if_neg (show ¬ (false = true) by decide)] at H; exact H
                              clear H
                              have H := H1
                              clear H1
                              exact absurd H (by simp)
                          · replace c87 := Bool.eq_false_iff.mpr c87
                            subst c87
                            have H1 : (some false) = some true := by rw [if_neg (show ¬ (false = true) by decide)] at H; exact H
                            clear H
                            have H := H1
                            clear H1
                            exact absurd H (by simp)
                        · replace c85 := Bool.eq_false_iff.mpr c85
                          subst c85
                          have H1 : (some false) = some true := by rw [if_neg (show ¬ (false = true) by decide)] at H; exact H
                          clear H
                          have H := H1
                          clear H1
                          exact absurd H (by simp)
                      · replace c83 := Bool.eq_false_iff.mpr c83
                        subst c83
                        have H1 : (some false) = some true := by rw [if_neg (show ¬ (false = true) by decide)] at H; exact H
                        clear H
                        have H := H1
                        clear H1
                        exact absurd H (by simp)
                    · replace c81 := Bool.eq_false_iff.mpr c81
                      subst c81
                      have H1 : (some false) = some true := by rw [if_neg (show ¬ (false = true) by decide)] at H; exact H
                      clear H
                      have H := H1
                      clear H1
                      exact absurd H (by simp)

/-- THE ONE PURE STATEMENT of chartroomlaw01_VarintKnown: yours. -/
def chartroomlaw01_VarintKnown.Pure : Prop := ∃ k, chartroomlaw01_VarintKnown.f k  = some true
theorem chartroomlaw01_VarintKnown.walk (P : chartroomlaw01_VarintKnown.Pure)  (w : World)  :
    Calls Try.prog 6 #[] w fun e w' => e = .returned (.bool true) ∧ Below w.heap.size w w' := by
  obtain ⟨k, h⟩ := P  
  refine (chartroomlaw01_VarintKnown.calls k  true w h).mono ?_
  rintro e w' ⟨rfl, hd⟩
  exact ⟨rfl, hd⟩

end Go.Proofs.Ytoeabgeglgiobaa.P
