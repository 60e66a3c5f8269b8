/- What functions of the given program do, each as a plain Lean function that its call meets: printed by a program of this session out of the translation, checked by Lean. Its conditions: those of each theorem. -/
import Derived.Test.YtoeabgeglgiobaaP0
import Derived.Test.YtoeabgeglgiobaaGkit0
import Derived.Test.YtoeabgeglgiobaaGlaw010
import Derived.Test.YtoeabgeglgiobaaGref010
import Derived.Test.YtoeabgeglgiobaaGvarint0
namespace Go.Proofs.Ytoeabgeglgiobaa.P
open Go.RowKit Go.Proofs.YtoeabgeglgiobaaW.PrintWords Go.Proofs.YtoeabgeglgiobaaW.PrintLast Go.Proofs.YtoeabgeglgiobaaW.PrintMore
attribute [local go_sem] max2_int min2_int max_two min_two max_three min_three max_four min_four   -- for this text's walks alone
set_option linter.unusedVariables false
set_option linter.unusedSimpArgs false

/-! ### chartroomlaw01_VarintTakes: function 4 -/
def chartroomlaw01_VarintTakes.j0 : Nat → List Int → Int → Int → Bool → Option (Bool)
  | 0, _, _, _, _ => none
  | k + 1, x0, x1, x2, x32 => if x32 = true then ((chartroomlaw01_works.f k).bind fun t271 => (some t271)) else ((chartroomkit_Own.f x0).bind fun t272 => ((varint_Take.f k x0 x1).bind fun bt275 => ((chartroomref01_Take.f k t272 x1).bind fun bt278 => ((varint_TakeText.f k x0 x1).bind fun bt281 => ((chartroomref01_TakeText.f k t272 x1).bind fun bt284 => ((varint_TakeAll.f k x0 x1 x2).bind fun bt287 => ((chartroomref01_TakeAll.f k t272 x1 x2).bind fun bt292 => (if bt275.1 = bt278.1 then (if bt275.2.1 = bt278.2.1 then (if bt275.2.2 = bt278.2.2 then (if bt281.1.toList = bt284.1.toList then (if bt281.2.1 = bt284.2.1 then (if bt281.2.2 = bt284.2.2 then ((chartroomlaw01_same.f k bt287.1 bt292.1).bind fun t297 => (if t297 = true then (if bt287.2.1 = bt292.2.1 then (if bt287.2.2 = bt292.2.2 then ((chartroomkit_SameBytes.f k x0 t272).bind fun t298 => (if t298 = true then ((chartroomlaw01_works.f k).bind fun t299 => (some t299)) else (some false))) else (some false)) else (some false)) else (some false))) else (some false)) else (some false)) else (some false)) else (some false)) else (some false)) else (some false)))))))))
def chartroomlaw01_VarintTakes.f (k : Nat) (l0 : List Int) (a1 : Int) (a2 : Int) : Option (Bool) := if (l0.length : Int) > 2000 then (chartroomlaw01_VarintTakes.j0 k l0 a1 a2 true) else (chartroomlaw01_VarintTakes.j0 k l0 a1 a2 (decide (a2 > 100)))
theorem chartroomlaw01_VarintTakes.mono_l : ∀ k, (∀ y0 y1 y2 y3, LeO (chartroomlaw01_VarintTakes.j0 k y0 y1 y2 y3) (chartroomlaw01_VarintTakes.j0 (k + 1) y0 y1 y2 y3))
  | 0 => fun _ _ _ _ r h => by simp [chartroomlaw01_VarintTakes.j0] at h
  | k + 1 => by
    have ih0 := chartroomlaw01_VarintTakes.mono_l k
    · intro y0 y1 y2 y3
      unfold chartroomlaw01_VarintTakes.j0
      repeat' first
      | (with_reducible exact ih0 _ _ _ _)
      | (with_reducible exact chartroomkit_SameBytes.mono _ _ _)
      | (with_reducible exact chartroomlaw01_same.mono _ _ _)
      | (with_reducible exact chartroomlaw01_works.mono _)
      | (with_reducible exact chartroomref01_Take.mono _ _ _)
      | (with_reducible exact chartroomref01_TakeAll.mono _ _ _ _)
      | (with_reducible exact chartroomref01_TakeText.mono _ _ _)
      | (with_reducible exact varint_Take.mono _ _ _)
      | (with_reducible exact varint_TakeAll.mono _ _ _ _)
      | (with_reducible exact varint_TakeText.mono _ _ _)
      | (with_reducible exact LeO.refl _)
      | (with_reducible exact LeO.none _)
      | (with_reducible refine LeO.ite ?_ ?_)
      | (with_reducible refine LeO.bind ?_ (fun _ => ?_))
      | exact ih0 _ _ _ _
      | exact chartroomkit_SameBytes.mono _ _ _
      | exact chartroomlaw01_same.mono _ _ _
      | exact chartroomlaw01_works.mono _
      | exact chartroomref01_Take.mono _ _ _
      | exact chartroomref01_TakeAll.mono _ _ _ _
      | exact chartroomref01_TakeText.mono _ _ _
      | exact varint_Take.mono _ _ _
      | exact varint_TakeAll.mono _ _ _ _
      | exact varint_TakeText.mono _ _ _
      | exact LeO.none _
      | refine LeO.ite ?_ ?_
      | refine LeO.bind ?_ (fun _ => ?_)
theorem chartroomlaw01_VarintTakes.mono : ∀ a0 a1 a2 k, LeO (chartroomlaw01_VarintTakes.f k a0 a1 a2) (chartroomlaw01_VarintTakes.f (k + 1) a0 a1 a2) := by
  intro a0 a1 a2 k
  have ih0 := chartroomlaw01_VarintTakes.mono_l k
  unfold chartroomlaw01_VarintTakes.f
  repeat' first
      | (with_reducible exact ih0 _ _ _ _)
      | (with_reducible exact chartroomkit_SameBytes.mono _ _ _)
      | (with_reducible exact chartroomlaw01_same.mono _ _ _)
      | (with_reducible exact chartroomlaw01_works.mono _)
      | (with_reducible exact chartroomref01_Take.mono _ _ _)
      | (with_reducible exact chartroomref01_TakeAll.mono _ _ _ _)
      | (with_reducible exact chartroomref01_TakeText.mono _ _ _)
      | (with_reducible exact varint_Take.mono _ _ _)
      | (with_reducible exact varint_TakeAll.mono _ _ _ _)
      | (with_reducible exact varint_TakeText.mono _ _ _)
      | (with_reducible exact LeO.refl _)
      | (with_reducible exact LeO.none _)
      | (with_reducible refine LeO.ite ?_ ?_)
      | (with_reducible refine LeO.bind ?_ (fun _ => ?_))
      | exact ih0 _ _ _ _
      | exact chartroomkit_SameBytes.mono _ _ _
      | exact chartroomlaw01_same.mono _ _ _
      | exact chartroomlaw01_works.mono _
      | exact chartroomref01_Take.mono _ _ _
      | exact chartroomref01_TakeAll.mono _ _ _ _
      | exact chartroomref01_TakeText.mono _ _ _
      | exact varint_Take.mono _ _ _
      | exact varint_TakeAll.mono _ _ _ _
      | exact varint_TakeText.mono _ _ _
      | exact LeO.none _
      | refine LeO.ite ?_ ?_
      | refine LeO.bind ?_ (fun _ => ?_)
set_option maxHeartbeats 8000000 in
set_option maxRecDepth 100000 in
theorem chartroomlaw01_VarintTakes.calls (k : Nat) (A0 : Option Addr) (c0 : Nat) (l0 : List Int) (a1 : Int) (a2 : Int) (r : Bool) (w : World) (hr0 : Kd.C (Kd.int .u8) w A0 l0.length l0) (hc0 : l0.length ≤ c0) (h : chartroomlaw01_VarintTakes.f k l0 a1 a2 = some r) (hT_ : r = true := by first | rfl | assumption | exact Aside0.out (by assumption)) :
    Calls Try.prog 4 #[.slice A0 l0.length c0, .int .i64 a1, .int .i64 a2] w fun e w' => e = .returned (.bool r) ∧ Below w.heap.size w w' := by
  subst hT_
  have HR0 := Aside0.mk hr0
  have HC0 := Aside0.mk hc0
  clear hr0 hc0
  have HB := Aside0.mk (Below.refl w.heap.size w)
  have H : (if (l0.length : Int) > 2000 then (chartroomlaw01_VarintTakes.j0 k l0 a1 a2 true) else (chartroomlaw01_VarintTakes.j0 k l0 a1 a2 (decide (a2 > 100)))) = some true := h
  clear h
  have HC4 := Aside0.mk H
  clear H
  go_enter Try.func4, Try.ntmps4
  go_upto_region 1 with (fail)
  go_cut [32] (fun v32 wc => ∃ (kq : Nat) (x32_3 : Bool), v32 = .bool x32_3 ∧ Aside0 (chartroomlaw01_VarintTakes.j0 kq l0 a1 a2 x32_3 = some true) ∧ Aside0 (kq ≤ k) ∧ Aside0 (Below w.heap.size w wc))
  case first =>
    have H := HC4.out
    clear HC4
    by_cases c5 : (l0.length : Int) > 2000
    · rw [if_pos c5] at H
      have c5b0 : decide (2000 < (l0.length : Int)) = true := decide_eq_true c5
      have c5b1 : decide (2000 < l0.length) = true := decide_eq_true (by omega)
      clear c5
      (first | rw [c5b0] | (simp only [i64_w, i32_w]; rw [c5b0]) | skip)
      have H' := Aside0.mk H
      clear H
      go_wp2
      go_meet
      case rel => exact ⟨_, (true), (by first | rfl | (simp; done) | (simp [*]; done)), H', ⟨by first | omega | exact Nat.le_refl _⟩, ⟨by repeat (first | (with_reducible first | exact HB.out | apply below_alloc | apply pw_below_drewN | apply below_drew1) | exact HB.out)⟩⟩
    · rw [if_neg c5] at H
      have c5b0 : decide (2000 < (l0.length : Int)) = false := decide_eq_false c5
      have c5b1 : decide (2000 < l0.length) = false := decide_eq_false (by omega)
      clear c5
      (first | rw [c5b0] | (simp only [i64_w, i32_w]; rw [c5b0]) | skip)
      have H' := Aside0.mk H
      clear H
      go_wp2
      go_meet
      case rel => exact ⟨_, (decide (a2 > 100)), (by first | rfl | (simp; done) | (simp [*]; done)), H', ⟨by first | omega | exact Nat.le_refl _⟩, ⟨by repeat (first | (with_reducible first | exact HB.out | apply below_alloc | apply pw_below_drewN | apply below_drew1) | exact HB.out)⟩⟩
  case rest =>
    clear HC4
    try clear p2
    try clear c4
    try clear c5
    try clear c5b0
    try clear c5b1
    obtain ⟨kq, x32_3, rfl, HA, HJ3, HB⟩ := hcut
    cases kq with
    | zero => exact absurd HA.out (by simp [chartroomlaw01_VarintTakes.j0])
    | succ kj3 =>
      have H := HA.out
      clear HA
      simp only [chartroomlaw01_VarintTakes.j0] at H
      by_cases c6 : x32_3 = true
      · subst c6
        have H1 : ((chartroomlaw01_works.f kj3).bind fun t271 => (some t271)) = some true := by rw [if_pos rfl] at H; exact H
        clear H
        have H := H1
        clear H1
        replace H := Option.bind_eq_some_iff.mp H
        obtain ⟨t271, A70, H⟩ := H
        replace H : (some t271) = some true := H
        have A7 := Aside0.mk A70
        clear A70
        have hX_ := Aside0.mk (Option.some.inj H)
        clear H
        go_wp2_with (first | ((with_reducible refine gate_callee (f := 29) rfl ?_); refine goesL_ (some 33) rfl rfl Try.func29 (by kernel_rfl) rfl #[] rfl (by (try simp only [List.map_toArray, List.map_cons, List.map_nil]); first | done | rfl | (simp only [List.length_drop, List.length_take]; rfl)) ?_; (with_reducible refine (chartroomlaw01_works.calls kj3  t271 _ A7.out).mono ?_); rintro e w8 ⟨rfl, hb⟩; refine ⟨_, rfl, ?_⟩; have n0_ := Aside0.mk (below_step (by repeat (first | (with_reducible first | exact HB.out | apply below_alloc | apply pw_below_drewN | apply below_drew1) | exact HB.out)) hb); clear HB; have HB := n0_; clear n0_; (try clear hb); (try clear hb2); (try clear hk); (try clear hi)))
        go_ret
        exact ⟨by first | rfl | (rw [hX_.out] <;> rfl) | (simp [errW_none, errW_some] <;> rfl) | (simp [*, errW_none, errW_some] <;> rfl), by repeat (first | (with_reducible first | exact HB.out | apply below_alloc | apply pw_below_drewN | apply below_drew1) | exact HB.out)⟩
      · replace c6 := Bool.eq_false_iff.mpr c6
        subst c6
        have H1 : ((chartroomkit_Own.f l0).bind fun t272 => ((varint_Take.f kj3 l0 a1).bind fun bt275 => ((chartroomref01_Take.f kj3 t272 a1).bind fun bt278 => ((varint_TakeText.f kj3 l0 a1).bind fun bt281 => ((chartroomref01_TakeText.f kj3 t272 a1).bind fun bt284 => ((varint_TakeAll.f kj3 l0 a1 a2).bind fun bt287 => ((chartroomref01_TakeAll.f kj3 t272 a1 a2).bind fun bt292 => (if bt275.1 = bt278.1 then (if bt275.2.1 = bt278.2.1 then (if bt275.2.2 = bt278.2.2 then (if bt281.1.toList = bt284.1.toList then (if bt281.2.1 = bt284.2.1 then (if bt281.2.2 = bt284.2.2 then ((chartroomlaw01_same.f kj3 bt287.1 bt292.1).bind fun t297 => (if t297 = true then (if bt287.2.1 = bt292.2.1 then (if bt287.2.2 = bt292.2.2 then ((chartroomkit_SameBytes.f kj3 l0 t272).bind fun t298 => (if t298 = true then ((chartroomlaw01_works.f kj3).bind fun t299 => (some t299)) else (some false))) else (some false)) else (some false)) else (some false))) else (some false)) else (some false)) else (some false)) else (some false)) else (some false)) else (some false))))))))) = some true := by rw [if_neg (show ¬ (false = true) by decide)] at H; exact H
        clear H
        have H := H1
        clear H1
        replace H := Option.bind_eq_some_iff.mp H
        obtain ⟨t272, A90, H⟩ := H
        replace H : ((varint_Take.f kj3 l0 a1).bind fun bt275 => ((chartroomref01_Take.f kj3 t272 a1).bind fun bt278 => ((varint_TakeText.f kj3 l0 a1).bind fun bt281 => ((chartroomref01_TakeText.f kj3 t272 a1).bind fun bt284 => ((varint_TakeAll.f kj3 l0 a1 a2).bind fun bt287 => ((chartroomref01_TakeAll.f kj3 t272 a1 a2).bind fun bt292 => (if bt275.1 = bt278.1 then (if bt275.2.1 = bt278.2.1 then (if bt275.2.2 = bt278.2.2 then (if bt281.1.toList = bt284.1.toList then (if bt281.2.1 = bt284.2.1 then (if bt281.2.2 = bt284.2.2 then ((chartroomlaw01_same.f kj3 bt287.1 bt292.1).bind fun t297 => (if t297 = true then (if bt287.2.1 = bt292.2.1 then (if bt287.2.2 = bt292.2.2 then ((chartroomkit_SameBytes.f kj3 l0 t272).bind fun t298 => (if t298 = true then ((chartroomlaw01_works.f kj3).bind fun t299 => (some t299)) else (some false))) else (some false)) else (some false)) else (some false))) else (some false)) else (some false)) else (some false)) else (some false)) else (some false)) else (some false)))))))) = some true := H
        have A9 := Aside0.mk A90
        clear A90
        replace H := Option.bind_eq_some_iff.mp H
        obtain ⟨⟨t275, t276, t277⟩, A100, H⟩ := H
        replace H : ((chartroomref01_Take.f kj3 t272 a1).bind fun bt278 => ((varint_TakeText.f kj3 l0 a1).bind fun bt281 => ((chartroomref01_TakeText.f kj3 t272 a1).bind fun bt284 => ((varint_TakeAll.f kj3 l0 a1 a2).bind fun bt287 => ((chartroomref01_TakeAll.f kj3 t272 a1 a2).bind fun bt292 => (if t275 = bt278.1 then (if t276 = bt278.2.1 then (if t277 = bt278.2.2 then (if bt281.1.toList = bt284.1.toList then (if bt281.2.1 = bt284.2.1 then (if bt281.2.2 = bt284.2.2 then ((chartroomlaw01_same.f kj3 bt287.1 bt292.1).bind fun t297 => (if t297 = true then (if bt287.2.1 = bt292.2.1 then (if bt287.2.2 = bt292.2.2 then ((chartroomkit_SameBytes.f kj3 l0 t272).bind fun t298 => (if t298 = true then ((chartroomlaw01_works.f kj3).bind fun t299 => (some t299)) else (some false))) else (some false)) else (some false)) else (some false))) else (some false)) else (some false)) else (some false)) else (some false)) else (some false)) else (some false))))))) = some true := H
        have A10 := Aside0.mk A100
        clear A100
        replace H := Option.bind_eq_some_iff.mp H
        obtain ⟨⟨t278, t279, t280⟩, A110, H⟩ := H
        replace H : ((varint_TakeText.f kj3 l0 a1).bind fun bt281 => ((chartroomref01_TakeText.f kj3 t272 a1).bind fun bt284 => ((varint_TakeAll.f kj3 l0 a1 a2).bind fun bt287 => ((chartroomref01_TakeAll.f kj3 t272 a1 a2).bind fun bt292 => (if t275 = t278 then (if t276 = t279 then (if t277 = t280 then (if bt281.1.toList = bt284.1.toList then (if bt281.2.1 = bt284.2.1 then (if bt281.2.2 = bt284.2.2 then ((chartroomlaw01_same.f kj3 bt287.1 bt292.1).bind fun t297 => (if t297 = true then (if bt287.2.1 = bt292.2.1 then (if bt287.2.2 = bt292.2.2 then ((chartroomkit_SameBytes.f kj3 l0 t272).bind fun t298 => (if t298 = true then ((chartroomlaw01_works.f kj3).bind fun t299 => (some t299)) else (some false))) else (some false)) else (some false)) else (some false))) else (some false)) else (some false)) else (some false)) else (some false)) else (some false)) else (some false)))))) = some true := H
        have A11 := Aside0.mk A110
        clear A110
        replace H := Option.bind_eq_some_iff.mp H
        obtain ⟨⟨t281, t282, t283⟩, A120, H⟩ := H
        replace H : ((chartroomref01_TakeText.f kj3 t272 a1).bind fun bt284 => ((varint_TakeAll.f kj3 l0 a1 a2).bind fun bt287 => ((chartroomref01_TakeAll.f kj3 t272 a1 a2).bind fun bt292 => (if t275 = t278 then (if t276 = t279 then (if t277 = t280 then (if t281.toList = bt284.1.toList then (if t282 = bt284.2.1 then (if t283 = bt284.2.2 then ((chartroomlaw01_same.f kj3 bt287.1 bt292.1).bind fun t297 => (if t297 = true then (if bt287.2.1 = bt292.2.1 then (if bt287.2.2 = bt292.2.2 then ((chartroomkit_SameBytes.f kj3 l0 t272).bind fun t298 => (if t298 = true then ((chartroomlaw01_works.f kj3).bind fun t299 => (some t299)) else (some false))) else (some false)) else (some false)) else (some false))) else (some false)) else (some false)) else (some false)) else (some false)) else (some false)) else (some false))))) = some true := H
        have A12 := Aside0.mk A120
        clear A120
        replace H := Option.bind_eq_some_iff.mp H
        obtain ⟨⟨t284, t285, t286⟩, A130, H⟩ := H
        replace H : ((varint_TakeAll.f kj3 l0 a1 a2).bind fun bt287 => ((chartroomref01_TakeAll.f kj3 t272 a1 a2).bind fun bt292 => (if t275 = t278 then (if t276 = t279 then (if t277 = t280 then (if t281.toList = t284.toList then (if t282 = t285 then (if t283 = t286 then ((chartroomlaw01_same.f kj3 bt287.1 bt292.1).bind fun t297 => (if t297 = true then (if bt287.2.1 = bt292.2.1 then (if bt287.2.2 = bt292.2.2 then ((chartroomkit_SameBytes.f kj3 l0 t272).bind fun t298 => (if t298 = true then ((chartroomlaw01_works.f kj3).bind fun t299 => (some t299)) else (some false))) else (some false)) else (some false)) else (some false))) else (some false)) else (some false)) else (some false)) else (some false)) else (some false)) else (some false)))) = some true := H
        have A13 := Aside0.mk A130
        clear A130
        replace H := Option.bind_eq_some_iff.mp H
        obtain ⟨⟨t287, t288, t289⟩, A140, H⟩ := H
        replace H : ((chartroomref01_TakeAll.f kj3 t272 a1 a2).bind fun bt292 => (if t275 = t278 then (if t276 = t279 then (if t277 = t280 then (if t281.toList = t284.toList then (if t282 = t285 then (if t283 = t286 then ((chartroomlaw01_same.f kj3 t287 bt292.1).bind fun t297 => (if t297 = true then (if t288 = bt292.2.1 then (if t289 = bt292.2.2 then ((chartroomkit_SameBytes.f kj3 l0 t272).bind fun t298 => (if t298 = true then ((chartroomlaw01_works.f kj3).bind fun t299 => (some t299)) else (some false))) else (some false)) else (some false)) else (some false))) else (some false)) else (some false)) else (some false)) else (some false)) else (some false)) else (some false))) = some true := H
        have A14 := Aside0.mk A140
        clear A140
        replace H := Option.bind_eq_some_iff.mp H
        obtain ⟨⟨t292, t293, t294⟩, A150, H⟩ := H
        replace H : (if t275 = t278 then (if t276 = t279 then (if t277 = t280 then (if t281.toList = t284.toList then (if t282 = t285 then (if t283 = t286 then ((chartroomlaw01_same.f kj3 t287 t292).bind fun t297 => (if t297 = true then (if t288 = t293 then (if t289 = t294 then ((chartroomkit_SameBytes.f kj3 l0 t272).bind fun t298 => (if t298 = true then ((chartroomlaw01_works.f kj3).bind fun t299 => (some t299)) else (some false))) else (some false)) else (some false)) else (some false))) else (some false)) else (some false)) else (some false)) else (some false)) else (some false)) else (some false)) = some true := H
        have A15 := Aside0.mk A150
        clear A150
        by_cases c16 : t275 = t278
        · rw [if_pos c16] at H
          have c16b0 : (t275 == t278) = true := beq_iff_eq.mpr c16
          have c16b1 : (t275 != t278) = false := bne_eq_false_iff_eq.mpr c16
          clear c16
          by_cases c17 : t276 = t279
          · rw [if_pos c17] at H
            have c17b0 : (t276 == t279) = true := beq_iff_eq.mpr c17
            have c17b1 : (t276 != t279) = false := bne_eq_false_iff_eq.mpr c17
            clear c17
            by_cases c18 : t277 = t280
            · rw [if_pos c18] at H
              have c18b0 : (t277 == t280) = true := beq_iff_eq.mpr c18
              have c18b1 : (t277 != t280) = false := bne_eq_false_iff_eq.mpr c18
              clear c18
              by_cases c19 : t281.toList = t284.toList
              · rw [if_pos c19] at H
                have c19b0 : (t281.toList == t284.toList) = true := beq_iff_eq.mpr c19
                have c19b1 : (t281.toList != t284.toList) = false := bne_eq_false_iff_eq.mpr c19
                clear c19
                by_cases c20 : t282 = t285
                · rw [if_pos c20] at H
                  have c20b0 : (t282 == t285) = true := beq_iff_eq.mpr c20
                  have c20b1 : (t282 != t285) = false := bne_eq_false_iff_eq.mpr c20
                  clear c20
                  by_cases c21 : t283 = t286
                  · rw [if_pos c21] at H
                    have c21b0 : (t283 == t286) = true := beq_iff_eq.mpr c21
                    have c21b1 : (t283 != t286) = false := bne_eq_false_iff_eq.mpr c21
                    clear c21
                    replace H := Option.bind_eq_some_iff.mp H
                    obtain ⟨t297, A220, H⟩ := H
                    replace H : (if t297 = true then (if t288 = t293 then (if t289 = t294 then ((chartroomkit_SameBytes.f kj3 l0 t272).bind fun t298 => (if t298 = true then ((chartroomlaw01_works.f kj3).bind fun t299 => (some t299)) else (some false))) else (some false)) else (some false)) else (some false)) = some true := H
                    have A22 := Aside0.mk A220
                    clear A220
                    by_cases c23 : t297 = true
                    · subst c23
                      have H1 : (if t288 = t293 then (if t289 = t294 then ((chartroomkit_SameBytes.f kj3 l0 t272).bind fun t298 => (if t298 = true then ((chartroomlaw01_works.f kj3).bind fun t299 => (some t299)) else (some false))) else (some false)) else (some false)) = some true := by rw [if_pos rfl] at H; exact H
                      clear H
                      have H := H1
                      clear H1
                      by_cases c24 : t288 = t293
                      · rw [if_pos c24] at H
                        have c24b0 : (t288 == t293) = true := beq_iff_eq.mpr c24
                        have c24b1 : (t288 != t293) = false := bne_eq_false_iff_eq.mpr c24
                        clear c24
                        by_cases c25 : t289 = t294
                        · rw [if_pos c25] at H
                          have c25b0 : (t289 == t294) = true := beq_iff_eq.mpr c25
                          have c25b1 : (t289 != t294) = false := bne_eq_false_iff_eq.mpr c25
                          clear c25
                          replace H := Option.bind_eq_some_iff.mp H
                          obtain ⟨t298, A260, H⟩ := H
                          replace H : (if t298 = true then ((chartroomlaw01_works.f kj3).bind fun t299 => (some t299)) else (some false)) = some true := H
                          have A26 := Aside0.mk A260
                          clear A260
                          by_cases c27 : t298 = true
                          · subst c27
                            have H1 : ((chartroomlaw01_works.f kj3).bind fun t299 => (some t299)) = some true := by rw [if_pos rfl] at H; exact H
                            clear H
                            have H := H1
                            clear H1
                            replace H := Option.bind_eq_some_iff.mp H
                            obtain ⟨t299, A280, H⟩ := H
                            replace H : (some t299) = some true := H
                            have A28 := Aside0.mk A280
                            clear A280
                            have hX_ := Aside0.mk (Option.some.inj H)
                            clear H
                            go_wp2_with (first | ((with_reducible refine gate_callee (f := 39) rfl ?_); refine goesL_ (some 35) rfl rfl Try.func39 (by kernel_rfl) rfl #[.slice A0 l0.length c0] rfl (by (try simp only [List.map_toArray, List.map_cons, List.map_nil]); first | done | rfl | (simp only [List.length_drop, List.length_take]; rfl)) ?_; (with_reducible refine (chartroomkit_Own.calls _ _ l0 t272 _ ?side1 ?side2 A9.out).mono ?_); (case side1 => repeat (first | exact (Kd.C_below HR0.out HB.out) | (with_reducible refine Kd.C_alloc ?_ _) | (with_reducible refine Kd.C_drewN ?_ _) | (with_reducible refine Kd.C_drew ?_))); (case side2 => exact HC0.out); rintro e w29 ⟨v273, rfl, ho0, hb⟩; refine ⟨_, rfl, ?_⟩; have n0_ := Aside0.mk (Kd.R_lower ho0 (below_size (by repeat (first | (with_reducible first | exact HB.out | apply below_alloc | apply pw_below_drewN | apply below_drew1) | exact HB.out)))); have n1_ := Aside0.mk (below_step (by repeat (first | (with_reducible first | exact HB.out | apply below_alloc | apply pw_below_drewN | apply below_drew1) | exact HB.out)) hb); clear HB; have HO274 := n0_; have HB := n1_; clear n0_ n1_; (try clear hb); (try clear hb2); (try clear hk); (try clear hi); (try clear ho0)) | ((with_reducible refine gate_callee (f := 40) rfl ?_); refine goesL_ (some 39) rfl rfl Try.func40 (by kernel_rfl) rfl #[.slice A0 l0.length c0, .int .i64 a1] rfl (by (try simp only [List.map_toArray, List.map_cons, List.map_nil]); first | done | rfl | (simp only [List.length_drop, List.length_take]; rfl)) ?_; (with_reducible refine (varint_Take.calls kj3 _ _ l0 a1 t275 t276 t277 _ ?side1 ?side2 A10.out).mono ?_); (case side1 => repeat (first | exact (Kd.C_below HR0.out HB.out) | (with_reducible refine Kd.C_alloc ?_ _) | (with_reducible refine Kd.C_drewN ?_ _) | (with_reducible refine Kd.C_drew ?_))); (case side2 => exact HC0.out); rintro e w' ⟨rfl, ⟨nd, rfl⟩⟩; refine ⟨_, rfl, ?_⟩; obtain ⟨Ao30, co30, eo30⟩ := Kd.R_slice HO274.out; subst eo30) | ((with_reducible refine gate_callee (f := 41) rfl ?_); refine goesL_ (some 46) rfl rfl Try.func41 (by kernel_rfl) rfl #[.slice Ao30 t272.length co30, .int .i64 a1] rfl (by (try simp only [List.map_toArray, List.map_cons, List.map_nil]); first | done | rfl | (simp only [List.length_drop, List.length_take]; rfl)) ?_; (with_reducible refine (chartroomref01_Take.calls kj3 _ _ t272 a1 t278 t279 t280 _ ?side1 ?side2 A11.out).mono ?_); (case side1 => repeat (first | exact (Kd.R_reads' HO274.out).2.2 | (with_reducible refine Kd.C_alloc ?_ _) | (with_reducible refine Kd.C_drewN ?_ _) | (with_reducible refine Kd.C_drew ?_))); (case side2 => exact (Kd.R_reads' HO274.out).2.1); rintro e w31 ⟨rfl, hb⟩; refine ⟨_, rfl, ?_⟩; have n0_ := Aside0.mk (Kd.R_below (by (with_reducible repeat (first | apply Kd.R_alloc | apply Kd.R_drewN | apply Kd.R_drew)); exact HO274.out) hb); have n1_ := Aside0.mk (below_step (by repeat (first | (with_reducible first | exact HB.out | apply below_alloc | apply pw_below_drewN | apply below_drew1) | exact HB.out)) hb); clear HO274; clear HB; have HO274 := n0_; have HB := n1_; clear n0_ n1_; (try clear hb); (try clear hb2); (try clear hk); (try clear hi)) | ((with_reducible refine gate_callee (f := 42) rfl ?_); refine goesL_ (some 53) rfl rfl Try.func42 (by kernel_rfl) rfl #[.slice A0 l0.length c0, .int .i64 a1] rfl (by (try simp only [List.map_toArray, List.map_cons, List.map_nil]); first | done | rfl | (simp only [List.length_drop, List.length_take]; rfl)) ?_; (with_reducible refine (varint_TakeText.calls kj3 _ _ l0 a1 t281 t282 t283 _ ?side1 ?side2 A12.out).mono ?_); (case side1 => repeat (first | exact (Kd.C_below HR0.out HB.out) | (with_reducible refine Kd.C_alloc ?_ _) | (with_reducible refine Kd.C_drewN ?_ _) | (with_reducible refine Kd.C_drew ?_))); (case side2 => exact HC0.out); rintro e w' ⟨rfl, ⟨nd, rfl⟩⟩; refine ⟨_, rfl, ?_⟩) | ((with_reducible refine gate_callee (f := 43) rfl ?_); refine goesL_ (some 60) rfl rfl Try.func43 (by kernel_rfl) rfl #[.slice Ao30 t272.length co30, .int .i64 a1] rfl (by (try simp only [List.map_toArray, List.map_cons, List.map_nil]); first | done | rfl | (simp only [List.length_drop, List.length_take]; rfl)) ?_; (with_reducible refine (chartroomref01_TakeText.calls kj3 _ _ t272 a1 t284 t285 t286 _ ?side1 ?side2 A13.out).mono ?_); (case side1 => repeat (first | exact (Kd.R_reads' HO274.out).2.2 | (with_reducible refine Kd.C_alloc ?_ _) | (with_reducible refine Kd.C_drewN ?_ _) | (with_reducible refine Kd.C_drew ?_))); (case side2 => exact (Kd.R_reads' HO274.out).2.1); rintro e w32 ⟨rfl, hb⟩; refine ⟨_, rfl, ?_⟩; have n0_ := Aside0.mk (Kd.R_below (by (with_reducible repeat (first | apply Kd.R_alloc | apply Kd.R_drewN | apply Kd.R_drew)); exact HO274.out) hb); have n1_ := Aside0.mk (below_step (by repeat (first | (with_reducible first | exact HB.out | apply below_alloc | apply pw_below_drewN | apply below_drew1) | exact HB.out)) hb); clear HO274; clear HB; have HO274 := n0_; have HB := n1_; clear n0_ n1_; (try clear hb); (try clear hb2); (try clear hk); (try clear hi)) | ((with_reducible refine gate_callee (f := 44) rfl ?_); refine goesL_ (some 68) rfl rfl Try.func44 (by kernel_rfl) rfl #[.slice A0 l0.length c0, .int .i64 a1, .int .i64 a2] rfl (by (try simp only [List.map_toArray, List.map_cons, List.map_nil]); first | done | rfl | (simp only [List.length_drop, List.length_take]; rfl)) ?_; (with_reducible refine (varint_TakeAll.calls kj3 _ _ l0 a1 a2 t287 t288 t289 _ ?side1 ?side2 A14.out).mono ?_); (case side1 => repeat (first | exact (Kd.C_below HR0.out HB.out) | (with_reducible refine Kd.C_alloc ?_ _) | (with_reducible refine Kd.C_drewN ?_ _) | (with_reducible refine Kd.C_drew ?_))); (case side2 => exact HC0.out); rintro e w33 ⟨v290, rfl, ho0, hb⟩; refine ⟨_, rfl, ?_⟩; have n0_ := Aside0.mk (Kd.R_below (by (with_reducible repeat (first | apply Kd.R_alloc | apply Kd.R_drewN | apply Kd.R_drew)); exact HO274.out) hb); have n1_ := Aside0.mk (Kd.R_lower ho0 (below_size (by repeat (first | (with_reducible first | exact HB.out | apply below_alloc | apply pw_below_drewN | apply below_drew1) | exact HB.out)))); have n2_ := Aside0.mk (below_step (by repeat (first | (with_reducible first | exact HB.out | apply below_alloc | apply pw_below_drewN | apply below_drew1) | exact HB.out)) hb); clear HO274; clear HB; have HO274 := n0_; have HO291 := n1_; have HB := n2_; clear n0_ n1_ n2_; (try clear hb); (try clear hb2); (try clear hk); (try clear hi); (try clear ho0)) | ((with_reducible refine gate_callee (f := 45) rfl ?_); refine goesL_ (some 76) rfl rfl Try.func45 (by kernel_rfl) rfl #[.slice Ao30 t272.length co30, .int .i64 a1, .int .i64 a2] rfl (by (try simp only [List.map_toArray, List.map_cons, List.map_nil]); first | done | rfl | (simp only [List.length_drop, List.length_take]; rfl)) ?_; (with_reducible refine (chartroomref01_TakeAll.calls kj3 _ _ t272 a1 a2 t292 t293 t294 _ ?side1 ?side2 A15.out).mono ?_); (case side1 => repeat (first | exact (Kd.R_reads' HO274.out).2.2 | (with_reducible refine Kd.C_alloc ?_ _) | (with_reducible refine Kd.C_drewN ?_ _) | (with_reducible refine Kd.C_drew ?_))); (case side2 => exact (Kd.R_reads' HO274.out).2.1); rintro e w34 ⟨v295, rfl, ho0, hb⟩; refine ⟨_, rfl, ?_⟩; have n0_ := Aside0.mk (Kd.R_below (by (with_reducible repeat (first | apply Kd.R_alloc | apply Kd.R_drewN | apply Kd.R_drew)); exact HO274.out) hb); have n1_ := Aside0.mk (Kd.R_elder' (by (with_reducible repeat (first | apply Kd.R_alloc | apply Kd.R_drewN | apply Kd.R_drew)); exact HO291.out) (Kd.R_base ho0) hb); have n2_ := Aside0.mk (Kd.R_lower (Kd.R_new' ho0 (Kd.R_lt (by (with_reducible repeat (first | apply Kd.R_alloc | apply Kd.R_drewN | apply Kd.R_drew)); exact HO291.out))) (below_size (by repeat (first | (with_reducible first | exact HB.out | apply below_alloc | apply pw_below_drewN | apply below_drew1) | exact HB.out)))); have n3_ := Aside0.mk (below_step (by repeat (first | (with_reducible first | exact HB.out | apply below_alloc | apply pw_below_drewN | apply below_drew1) | exact HB.out)) hb); clear HO274; clear HO291; clear HB; have HO274 := n0_; have HO291 := n1_; have HO296 := n2_; have HB := n3_; clear n0_ n1_ n2_ n3_; (try clear hb); (try clear hb2); (try clear hk); (try clear hi); (try clear ho0); obtain ⟨Ao35, co35, eo35⟩ := Kd.R_slice HO291.out; subst eo35; obtain ⟨Ao36, co36, eo36⟩ := Kd.R_slice HO296.out; subst eo36) | (go_at_call 46; refine calls_of_args (args' := #[.slice Ao35 t287.length co35, .slice Ao36 t292.length co36]) (by rfl) ?_; (with_reducible refine (chartroomlaw01_same.calls kj3 _ _ t287 _ _ t292 true _ ?side1 ?side2 ?side3 ?side4 A22.out).mono ?_); (case side1 => repeat (first | exact (Kd.R_reads' HO291.out).2.2 | (with_reducible refine Kd.C_alloc ?_ _) | (with_reducible refine Kd.C_drewN ?_ _) | (with_reducible refine Kd.C_drew ?_))); (case side2 => exact (Kd.R_reads' HO291.out).2.1); (case side3 => repeat (first | exact (Kd.R_reads' HO296.out).2.2 | (with_reducible refine Kd.C_alloc ?_ _) | (with_reducible refine Kd.C_drewN ?_ _) | (with_reducible refine Kd.C_drew ?_))); (case side4 => exact (Kd.R_reads' HO296.out).2.1); rintro e w' ⟨rfl, ⟨nd, rfl⟩⟩) | (go_at_call 32; refine calls_of_args (args' := #[.slice A0 l0.length c0, .slice Ao30 t272.length co30]) (by rfl) ?_; (with_reducible refine (chartroomkit_SameBytes.calls kj3 _ _ l0 _ _ t272 true _ ?side1 ?side2 ?side3 ?side4 A26.out).mono ?_); (case side1 => repeat (first | exact (Kd.C_below HR0.out (by repeat (first | (with_reducible first | exact HB.out | apply below_alloc | apply pw_below_drewN | apply below_drew1) | exact HB.out))) | (with_reducible refine Kd.C_alloc ?_ _) | (with_reducible refine Kd.C_drewN ?_ _) | (with_reducible refine Kd.C_drew ?_))); (case side2 => exact HC0.out); (case side3 => repeat (first | exact (Kd.R_reads' HO274.out).2.2 | (with_reducible refine Kd.C_alloc ?_ _) | (with_reducible refine Kd.C_drewN ?_ _) | (with_reducible refine Kd.C_drew ?_))); (case side4 => exact (Kd.R_reads' HO274.out).2.1); rintro e w' ⟨rfl, ⟨nd, rfl⟩⟩) | (go_at_call 29; refine calls_of_args (args' := #[]) (by rfl) ?_; (with_reducible refine (chartroomlaw01_works.calls kj3  t299 _ A28.out).mono ?_); rintro e w37 ⟨rfl, hb⟩; have n0_ := Aside0.mk (Kd.R_below (by (with_reducible repeat (first | apply Kd.R_alloc | apply Kd.R_drewN | apply Kd.R_drew)); exact HO274.out) hb); have n1_ := Aside0.mk (Kd.R_below (by (with_reducible repeat (first | apply Kd.R_alloc | apply Kd.R_drewN | apply Kd.R_drew)); exact HO291.out) hb); have n2_ := Aside0.mk (Kd.R_below (by (with_reducible repeat (first | apply Kd.R_alloc | apply Kd.R_drewN | apply Kd.R_drew)); exact HO296.out) hb); have n3_ := Aside0.mk (below_step (by repeat (first | (with_reducible first | exact HB.out | apply below_alloc | apply pw_below_drewN | apply below_drew1) | exact HB.out)) hb); clear HO274; clear HO291; clear HO296; clear HB; have HO274 := n0_; have HO291 := n1_; have HO296 := n2_; have HB := n3_; clear n0_ n1_ n2_ n3_; (try clear hb); (try clear hb2); (try clear hk); (try clear hi)))
                            go_ret
                            exact ⟨by first | rfl | (rw [hX_.out] <;> rfl) | (simp [errW_none, errW_some] <;> rfl) | (simp [*, errW_none, errW_some] <;> rfl), by repeat (first | (with_reducible first | exact HB.out | apply below_alloc | apply pw_below_drewN | apply below_drew1) | exact HB.out)⟩
                          · replace c27 := Bool.eq_false_iff.mpr c27
                            subst c27
                            have H1 : (some false) = some true := by rw [if_neg (show ¬ (false = true) by decide)] at H; exact H
                            clear H
                            have H := H1
                            clear H1
                            exact absurd H (by simp)
                        · rw [if_neg c25] at H
                          have c25b0 : (t289 == t294) = false := beq_eq_false_iff_ne.mpr c25
                          have c25b1 : (t289 != t294) = true := bne_iff_ne.mpr c25
                          exact absurd H (by simp)
                      · rw [if_neg c24] at H
                        have c24b0 : (t288 == t293) = false := beq_eq_false_iff_ne.mpr c24
                        have c24b1 : (t288 != t293) = true := bne_iff_ne.mpr c24
                        exact absurd H (by simp)
                    · replace c23 := Bool.eq_false_iff.mpr c23
                      subst c23
                      have H1 : (some false) = some true := by rw [if_neg (show ¬ (false = true) by decide)] at H; exact H
                      clear H
                      have H := H1
                      clear H1
                      exact absurd H (by simp)
                  · rw [if_neg c21] at H
                    have c21b0 : (t283 == t286) = false := beq_eq_false_iff_ne.mpr c21
                    have c21b1 : (t283 != t286) = true := bne_iff_ne.mpr c21
                    exact absurd H (by simp)
                · rw [if_neg c20] at H
                  have c20b0 : (t282 == t285) = false := beq_eq_false_iff_ne.mpr c20
                  have c20b1 : (t282 != t285) = true := bne_iff_ne.mpr c20
                  exact absurd H (by simp)
              · rw [if_neg c19] at H
                have c19b0 : (t281.toList == t284.toList) = false := beq_eq_false_iff_ne.mpr c19
                have c19b1 : (t281.toList != t284.toList) = true := bne_iff_ne.mpr c19
                exact absurd H (by simp)
            · rw [if_neg c18] at H
              have c18b0 : (t277 == t280) = false := beq_eq_false_iff_ne.mpr c18
              have c18b1 : (t277 != t280) = true := bne_iff_ne.mpr c18
              exact absurd H (by simp)
          · rw [if_neg c17] at H
            have c17b0 : (t276 == t279) = false := beq_eq_false_iff_ne.mpr c17
            have c17b1 : (t276 != t279) = true := bne_iff_ne.mpr c17
            exact absurd H (by simp)
        · rw [if_neg c16] at H
          have c16b0 : (t275 == t278) = false := beq_eq_false_iff_ne.mpr c16
          have c16b1 : (t275 != t278) = true := bne_iff_ne.mpr c16
          exact absurd H (by simp)

/-- THE ONE PURE STATEMENT of chartroomlaw01_VarintTakes: yours. -/
def chartroomlaw01_VarintTakes.Pure : Prop := ∀ (l0 : List Int) (a1 : Int) (a2 : Int), l0.length ≤ maxLen → l0.length * 1 ≤ 140737488351232 → (∀ x ∈ l0, (Lit.int .u8 x).wf = true) → (Lit.int .i64 a1).wf = true → (Lit.int .i64 a2).wf = true → ∃ k, chartroomlaw01_VarintTakes.f k l0 a1 a2 = some true
theorem chartroomlaw01_VarintTakes.walk (P : chartroomlaw01_VarintTakes.Pure) (a0 : Option Addr) (len0 cap0 : Nat) (z0 : List Int) (a1 : Int) (a2 : Int) (w : World) (w0 : (a0 = none ∧ len0 = 0 ∧ cap0 = 0 ∧ z0 = []) ∨ ∃ x, a0 = some x ∧ len0 ≤ cap0 ∧ cap0 ≤ maxLen ∧ z0.length = cap0 ∧ (∀ i, i < z0.length → w.cell? (x.add i) = some (.int .u8 (z0.getD i 0))) ∧ ∀ n ∈ z0, (Lit.int .u8 n).wf = true) (y0 : len0 * 1 ≤ 140737488351232) (w1 : (Lit.int .i64 a1).wf = true) (w2 : (Lit.int .i64 a2).wf = true) :
    Calls Try.prog 4 #[.slice a0 len0 cap0, .int .i64 a1, .int .i64 a2] w fun e w' => e = .returned (.bool true) ∧ Below w.heap.size w w' := by
  obtain ⟨l0, rfl, hr0, hm0, hw0, hc0⟩ := ReadsInt.ofRowC w0
  obtain ⟨k, h⟩ := P l0 a1 a2 hm0 y0 hw0 w1 w2
  refine (chartroomlaw01_VarintTakes.calls k _ _ l0 a1 a2 true w (Kd.C_of_reads (d := (0 : Int)) (h1 := fun _ => rfl) hr0) hc0 h).mono ?_
  rintro e w' ⟨rfl, hd⟩
  exact ⟨rfl, hd⟩

end Go.Proofs.Ytoeabgeglgiobaa.P
