/- What functions of the given program do, each as a plain Lean function that its call meets: printed by a program of this session out of the translation, checked by Lean. Its conditions: those of each theorem. -/
import Derived.Test.Ytoeabgeglgiobaac5aP0
import Derived.Test.Ytoeabgeglgiobaac5aGdelta0
import Derived.Test.Ytoeabgeglgiobaac5aGdelta1
import Derived.Test.Ytoeabgeglgiobaac5aGkit0
import Derived.Test.Ytoeabgeglgiobaac5aGlaw050
import Derived.Test.Ytoeabgeglgiobaac5aGlaw051
import Derived.Test.Ytoeabgeglgiobaac5aGref050
import Derived.Test.Ytoeabgeglgiobaac5aGref05n
import Derived.Test.Ytoeabgeglgiobaac5aHdeltaApply
import Derived.Test.Ytoeabgeglgiobaac5aHdeltaRight
namespace Go.Proofs.Ytoeabgeglgiobaa.P
open Go.RowKit Go.Proofs.YtoeabgeglgiobaaW.PrintWords Go.Proofs.YtoeabgeglgiobaaW.PrintLast Go.Proofs.YtoeabgeglgiobaaW.PrintMore
attribute [local go_sem] max2_int min2_int max_two min_two max_three min_three max_four min_four   -- for this text's walks alone
set_option linter.unusedVariables false
set_option linter.unusedSimpArgs false
/-! ### chartroomlaw05_DeltaApplies: function 17 -/
mutual
def chartroomlaw05_DeltaApplies.j0 : Nat → ByteArray → List (S153) → Bool → Option (Bool)
  | 0, _, _, _ => none
  | k + 1, x0, x1, x30 => if x30 = true then ((chartroomlaw05_works.f k).bind fun t442 => (some t442)) else ((chartroomlaw05_refs.f k x1).bind fun t443 => ((delta_Apply.f x0 x1).bind fun bt446 => ((chartroomref05_Apply.f k x0 t443).bind fun bt448 => ((delta_Sizes.f k x1).bind fun bt450 => ((chartroomref05_Sizes.f k t443).bind fun bt452 => ((delta_Normal.f k x1).bind fun bt454 => ((chartroomref05_Normal.f k t443).bind fun bt458 => ((delta_Put.f k x1).bind fun bt462 => ((chartroomref05_Put.f k t443).bind fun bt466 => (if bt446.1.toList = bt448.1.toList then (if bt446.2 = bt448.2 then (if bt450.1 = bt452.1 then (if bt450.2 = bt452.2 then ((chartroomlaw05_same.f k bt454.1 bt458.1).bind fun t470 => (if t470 = true then (if bt454.2 = bt458.2 then ((chartroomkit_SameBytes.f k bt462.1 bt466.1).bind fun t471 => (if t471 = true then (if bt462.2 = bt466.2 then ((delta_Right.f x1).bind fun t472 => ((chartroomref05_Right.f k t443).bind fun t473 => (chartroomlaw05_DeltaApplies.j1 k x1 t443 bt454.1 (t472 != t473)))) else (chartroomlaw05_DeltaApplies.j1 k x1 t443 bt454.1 true)) else (chartroomlaw05_DeltaApplies.j1 k x1 t443 bt454.1 true))) else (chartroomlaw05_DeltaApplies.j1 k x1 t443 bt454.1 true)) else (chartroomlaw05_DeltaApplies.j1 k x1 t443 bt454.1 true))) else (chartroomlaw05_DeltaApplies.j1 k x1 t443 bt454.1 true)) else (chartroomlaw05_DeltaApplies.j1 k x1 t443 bt454.1 true)) else (chartroomlaw05_DeltaApplies.j1 k x1 t443 bt454.1 true)) else (chartroomlaw05_DeltaApplies.j1 k x1 t443 bt454.1 true)))))))))))
def chartroomlaw05_DeltaApplies.j1 : Nat → List (S153) → List (S226) → List (S153) → Bool → Option (Bool)
  | 0, _, _, _, _ => none
  | k + 1, x1, x5, x14, x122 => if x122 = true then (some false) else (chartroomlaw05_DeltaApplies.l0 k x1 x5 x14 0)
def chartroomlaw05_DeltaApplies.l0 : Nat → List (S153) → List (S226) → List (S153) → Int → Option (Bool)
  | 0, _, _, _, _ => none
  | k + 1, x1, x5, x14, x22 => if x22 < (x14.length : Int) then (if 0 ≤ x22 then (chartroomlaw05_DeltaApplies.l0 k x1 x5 (x14.set (x22 : Int).toNat (⟨0, 0, (⟨#[]⟩ : ByteArray)⟩ : S153)) (wrap64 (x22 + 1))) else (none)) else ((chartroomlaw05_same.f k x1 x5).bind fun t475 => (if t475 = true then ((chartroomlaw05_works.f k).bind fun t476 => (some t476)) else (some false)))
end
def chartroomlaw05_DeltaApplies.f (k : Nat) (a0 : ByteArray) (l1 : List (S153)) : Option (Bool) := if (a0.size : Int) > 2000 then (chartroomlaw05_DeltaApplies.j0 k a0 l1 true) else ((chartroomlaw05_few.f k l1).bind fun t441 => (chartroomlaw05_DeltaApplies.j0 k a0 l1 (!t441)))
set_option maxHeartbeats 8000000 in
set_option maxRecDepth 100000 in
theorem chartroomlaw05_DeltaApplies.calls (k : Nat) (a0 : ByteArray) (A1 : Option Addr) (c1 : Nat) (l1 : List (S153)) (r : Bool) (w : World) (hr1 : Kd.C k153 w A1 l1.length l1) (hc1 : l1.length ≤ c1) (h : chartroomlaw05_DeltaApplies.f k a0 l1 = some r) (hT_ : r = true := by first | rfl | assumption | exact Aside0.out (by assumption)) :
    Calls Try.prog 17 #[.string a0, .slice A1 l1.length c1] w fun e w' => e = .returned (.bool r) ∧ Below w.heap.size w w' := by
  subst hT_
  have hu153 := Try.underlying153
  have HR1 := Aside0.mk hr1
  have HC1 := Aside0.mk hc1
  clear hr1 hc1
  have HB := Aside0.mk (Below.refl w.heap.size w)
  have H : (if (a0.size : Int) > 2000 then (chartroomlaw05_DeltaApplies.j0 k a0 l1 true) else ((chartroomlaw05_few.f k l1).bind fun t441 => (chartroomlaw05_DeltaApplies.j0 k a0 l1 (!t441)))) = some true := h
  clear h
  have HC3 := Aside0.mk H
  clear H
  go_enter Try.func17, Try.ntmps17
  go_upto_region 1 with (fail)
  go_cut [30] (fun v30 wc => ∃ (kq : Nat) (x30_2 : Bool), v30 = .bool x30_2 ∧ Aside0 (chartroomlaw05_DeltaApplies.j0 kq a0 l1 x30_2 = some true) ∧ Aside0 (kq ≤ k) ∧ Aside0 (Below w.heap.size w wc))
  case first =>
    have H := HC3.out
    clear HC3
    by_cases c4 : (a0.size : Int) > 2000
    · rw [if_pos c4] at H
      have c4b0 : decide (2000 < (a0.size : Int)) = true := decide_eq_true c4
      have c4b1 : decide (2000 < a0.size) = true := decide_eq_true (by omega)
      clear c4
      (first | rw [c4b0] | (simp only [i64_w, i32_w]; rw [c4b0]) | skip)
      have H' := Aside0.mk H
      clear H
      go_wp2
      go_meet
      case rel => exact ⟨_, (true), (by first | rfl | (simp; done) | (simp [*]; done)), H', ⟨by first | omega | exact Nat.le_refl _⟩, ⟨by repeat (first | (with_reducible first | exact HB.out | apply below_alloc | apply pw_below_drewN | apply below_drew1) | exact HB.out)⟩⟩
    · rw [if_neg c4] at H
      have c4b0 : decide (2000 < (a0.size : Int)) = false := decide_eq_false c4
      have c4b1 : decide (2000 < a0.size) = false := decide_eq_false (by omega)
      clear c4
      (first | rw [c4b0] | (simp only [i64_w, i32_w]; rw [c4b0]) | skip)
      replace H := Option.bind_eq_some_iff.mp H
      obtain ⟨t441, A50, H⟩ := H
      replace H : (chartroomlaw05_DeltaApplies.j0 k a0 l1 (!t441)) = some true := H
      have A5 := Aside0.mk A50
      clear A50
      have H' := Aside0.mk H
      clear H
      go_wp2_with (first | (go_at_call 101; refine calls_of_args (args' := #[.slice A1 l1.length c1]) (by rfl) ?_; (with_reducible refine (chartroomlaw05_few.calls k _ _ l1 t441 _ ?side1 ?side2 A5.out).mono ?_); (case side1 => repeat (first | exact (Kd.C_below HR1.out HB.out) | (with_reducible refine Kd.C_alloc ?_ _) | (with_reducible refine Kd.C_drewN ?_ _) | (with_reducible refine Kd.C_drew ?_))); (case side2 => exact HC1.out); rintro e w' ⟨rfl, ⟨nd, rfl⟩⟩))
      go_meet
      case rel => exact ⟨_, (!t441), (by first | rfl | (simp; done) | (simp [*]; done)), H', ⟨by first | omega | exact Nat.le_refl _⟩, ⟨by repeat (first | (with_reducible first | exact HB.out | apply below_alloc | apply pw_below_drewN | apply below_drew1) | exact HB.out)⟩⟩
  case rest =>
    clear HC3
    try clear c1
    try clear p2
    try clear c4
    try clear c4b0
    try clear c4b1
    obtain ⟨kq, x30_2, rfl, HA, HJ2, HB⟩ := hcut
    cases kq with
    | zero => exact absurd HA.out (by simp [chartroomlaw05_DeltaApplies.j0])
    | succ kj2 =>
      have H := HA.out
      clear HA
      simp only [chartroomlaw05_DeltaApplies.j0] at H
      by_cases c6 : x30_2 = true
      · subst c6
        have H1 : ((chartroomlaw05_works.f kj2).bind fun t442 => (some t442)) = some true := by rw [if_pos rfl] at H; exact H
        clear H
        have H := H1
        clear H1
        replace H := Option.bind_eq_some_iff.mp H
        obtain ⟨t442, A70, H⟩ := H
        replace H : (some t442) = some true := H
        have A7 := Aside0.mk A70
        clear A70
        have hX_ := Aside0.mk (Option.some.inj H)
        clear H
        go_wp2_with (first | ((with_reducible refine gate_callee (f := 102) rfl ?_); refine goesL_ (some 31) rfl rfl Try.func102 (by kernel_rfl) rfl #[] rfl (by (try simp only [List.map_toArray, List.map_cons, List.map_nil]); first | done | rfl | (simp only [List.length_drop, List.length_take]; rfl)) ?_; (with_reducible refine (chartroomlaw05_works.calls kj2  t442 _ A7.out).mono ?_); rintro e w8 ⟨rfl, hb⟩; refine ⟨_, rfl, ?_⟩; have n0_ := Aside0.mk (below_step (by repeat (first | (with_reducible first | exact HB.out | apply below_alloc | apply pw_below_drewN | apply below_drew1) | exact HB.out)) hb); clear HB; have HB := n0_; clear n0_; (try clear hb); (try clear hb2); (try clear hk); (try clear hi)))
        go_ret
        exact ⟨by first | rfl | (rw [hX_.out] <;> rfl) | (simp [errW_none, errW_some] <;> rfl) | (simp [*, errW_none, errW_some] <;> rfl), by repeat (first | (with_reducible first | exact HB.out | apply below_alloc | apply pw_below_drewN | apply below_drew1) | exact HB.out)⟩
      · replace c6 := Bool.eq_false_iff.mpr c6
        subst c6
        have H1 : ((chartroomlaw05_refs.f kj2 l1).bind fun t443 => ((delta_Apply.f a0 l1).bind fun bt446 => ((chartroomref05_Apply.f kj2 a0 t443).bind fun bt448 => ((delta_Sizes.f kj2 l1).bind fun bt450 => ((chartroomref05_Sizes.f kj2 t443).bind fun bt452 => ((delta_Normal.f kj2 l1).bind fun bt454 => ((chartroomref05_Normal.f kj2 t443).bind fun bt458 => ((delta_Put.f kj2 l1).bind fun bt462 => ((chartroomref05_Put.f kj2 t443).bind fun bt466 => (if bt446.1.toList = bt448.1.toList then (if bt446.2 = bt448.2 then (if bt450.1 = bt452.1 then (if bt450.2 = bt452.2 then ((chartroomlaw05_same.f kj2 bt454.1 bt458.1).bind fun t470 => (if t470 = true then (if bt454.2 = bt458.2 then ((chartroomkit_SameBytes.f kj2 bt462.1 bt466.1).bind fun t471 => (if t471 = true then (if bt462.2 = bt466.2 then ((delta_Right.f l1).bind fun t472 => ((chartroomref05_Right.f kj2 t443).bind fun t473 => (chartroomlaw05_DeltaApplies.j1 kj2 l1 t443 bt454.1 (t472 != t473)))) else (chartroomlaw05_DeltaApplies.j1 kj2 l1 t443 bt454.1 true)) else (chartroomlaw05_DeltaApplies.j1 kj2 l1 t443 bt454.1 true))) else (chartroomlaw05_DeltaApplies.j1 kj2 l1 t443 bt454.1 true)) else (chartroomlaw05_DeltaApplies.j1 kj2 l1 t443 bt454.1 true))) else (chartroomlaw05_DeltaApplies.j1 kj2 l1 t443 bt454.1 true)) else (chartroomlaw05_DeltaApplies.j1 kj2 l1 t443 bt454.1 true)) else (chartroomlaw05_DeltaApplies.j1 kj2 l1 t443 bt454.1 true)) else (chartroomlaw05_DeltaApplies.j1 kj2 l1 t443 bt454.1 true))))))))))) = some true := by rw [if_neg (show ¬ (false = true) by decide)] at H; exact H
        clear H
        have H := H1
        clear H1
        replace H := Option.bind_eq_some_iff.mp H
        obtain ⟨t443, A90, H⟩ := H
        replace H : ((delta_Apply.f a0 l1).bind fun bt446 => ((chartroomref05_Apply.f kj2 a0 t443).bind fun bt448 => ((delta_Sizes.f kj2 l1).bind fun bt450 => ((chartroomref05_Sizes.f kj2 t443).bind fun bt452 => ((delta_Normal.f kj2 l1).bind fun bt454 => ((chartroomref05_Normal.f kj2 t443).bind fun bt458 => ((delta_Put.f kj2 l1).bind fun bt462 => ((chartroomref05_Put.f kj2 t443).bind fun bt466 => (if bt446.1.toList = bt448.1.toList then (if bt446.2 = bt448.2 then (if bt450.1 = bt452.1 then (if bt450.2 = bt452.2 then ((chartroomlaw05_same.f kj2 bt454.1 bt458.1).bind fun t470 => (if t470 = true then (if bt454.2 = bt458.2 then ((chartroomkit_SameBytes.f kj2 bt462.1 bt466.1).bind fun t471 => (if t471 = true then (if bt462.2 = bt466.2 then ((delta_Right.f l1).bind fun t472 => ((chartroomref05_Right.f kj2 t443).bind fun t473 => (chartroomlaw05_DeltaApplies.j1 kj2 l1 t443 bt454.1 (t472 != t473)))) else (chartroomlaw05_DeltaApplies.j1 kj2 l1 t443 bt454.1 true)) else (chartroomlaw05_DeltaApplies.j1 kj2 l1 t443 bt454.1 true))) else (chartroomlaw05_DeltaApplies.j1 kj2 l1 t443 bt454.1 true)) else (chartroomlaw05_DeltaApplies.j1 kj2 l1 t443 bt454.1 true))) else (chartroomlaw05_DeltaApplies.j1 kj2 l1 t443 bt454.1 true)) else (chartroomlaw05_DeltaApplies.j1 kj2 l1 t443 bt454.1 true)) else (chartroomlaw05_DeltaApplies.j1 kj2 l1 t443 bt454.1 true)) else (chartroomlaw05_DeltaApplies.j1 kj2 l1 t443 bt454.1 true)))))))))) = some true := H
        have A9 := Aside0.mk A90
        clear A90
        replace H := Option.bind_eq_some_iff.mp H
        obtain ⟨⟨t446, t447⟩, A100, H⟩ := H
        replace H : ((chartroomref05_Apply.f kj2 a0 t443).bind fun bt448 => ((delta_Sizes.f kj2 l1).bind fun bt450 => ((chartroomref05_Sizes.f kj2 t443).bind fun bt452 => ((delta_Normal.f kj2 l1).bind fun bt454 => ((chartroomref05_Normal.f kj2 t443).bind fun bt458 => ((delta_Put.f kj2 l1).bind fun bt462 => ((chartroomref05_Put.f kj2 t443).bind fun bt466 => (if t446.toList = bt448.1.toList then (if t447 = bt448.2 then (if bt450.1 = bt452.1 then (if bt450.2 = bt452.2 then ((chartroomlaw05_same.f kj2 bt454.1 bt458.1).bind fun t470 => (if t470 = true then (if bt454.2 = bt458.2 then ((chartroomkit_SameBytes.f kj2 bt462.1 bt466.1).bind fun t471 => (if t471 = true then (if bt462.2 = bt466.2 then ((delta_Right.f l1).bind fun t472 => ((chartroomref05_Right.f kj2 t443).bind fun t473 => (chartroomlaw05_DeltaApplies.j1 kj2 l1 t443 bt454.1 (t472 != t473)))) else (chartroomlaw05_DeltaApplies.j1 kj2 l1 t443 bt454.1 true)) else (chartroomlaw05_DeltaApplies.j1 kj2 l1 t443 bt454.1 true))) else (chartroomlaw05_DeltaApplies.j1 kj2 l1 t443 bt454.1 true)) else (chartroomlaw05_DeltaApplies.j1 kj2 l1 t443 bt454.1 true))) else (chartroomlaw05_DeltaApplies.j1 kj2 l1 t443 bt454.1 true)) else (chartroomlaw05_DeltaApplies.j1 kj2 l1 t443 bt454.1 true)) else (chartroomlaw05_DeltaApplies.j1 kj2 l1 t443 bt454.1 true)) else (chartroomlaw05_DeltaApplies.j1 kj2 l1 t443 bt454.1 true))))))))) = some true := H
        have A10 := Aside0.mk A100
        clear A100
        replace H := Option.bind_eq_some_iff.mp H
        obtain ⟨⟨t448, t449⟩, A110, H⟩ := H
        replace H : ((delta_Sizes.f kj2 l1).bind fun bt450 => ((chartroomref05_Sizes.f kj2 t443).bind fun bt452 => ((delta_Normal.f kj2 l1).bind fun bt454 => ((chartroomref05_Normal.f kj2 t443).bind fun bt458 => ((delta_Put.f kj2 l1).bind fun bt462 => ((chartroomref05_Put.f kj2 t443).bind fun bt466 => (if t446.toList = t448.toList then (if t447 = t449 then (if bt450.1 = bt452.1 then (if bt450.2 = bt452.2 then ((chartroomlaw05_same.f kj2 bt454.1 bt458.1).bind fun t470 => (if t470 = true then (if bt454.2 = bt458.2 then ((chartroomkit_SameBytes.f kj2 bt462.1 bt466.1).bind fun t471 => (if t471 = true then (if bt462.2 = bt466.2 then ((delta_Right.f l1).bind fun t472 => ((chartroomref05_Right.f kj2 t443).bind fun t473 => (chartroomlaw05_DeltaApplies.j1 kj2 l1 t443 bt454.1 (t472 != t473)))) else (chartroomlaw05_DeltaApplies.j1 kj2 l1 t443 bt454.1 true)) else (chartroomlaw05_DeltaApplies.j1 kj2 l1 t443 bt454.1 true))) else (chartroomlaw05_DeltaApplies.j1 kj2 l1 t443 bt454.1 true)) else (chartroomlaw05_DeltaApplies.j1 kj2 l1 t443 bt454.1 true))) else (chartroomlaw05_DeltaApplies.j1 kj2 l1 t443 bt454.1 true)) else (chartroomlaw05_DeltaApplies.j1 kj2 l1 t443 bt454.1 true)) else (chartroomlaw05_DeltaApplies.j1 kj2 l1 t443 bt454.1 true)) else (chartroomlaw05_DeltaApplies.j1 kj2 l1 t443 bt454.1 true)))))))) = some true := H
        have A11 := Aside0.mk A110
        clear A110
        replace H := Option.bind_eq_some_iff.mp H
        obtain ⟨⟨t450, t451⟩, A120, H⟩ := H
        replace H : ((chartroomref05_Sizes.f kj2 t443).bind fun bt452 => ((delta_Normal.f kj2 l1).bind fun bt454 => ((chartroomref05_Normal.f kj2 t443).bind fun bt458 => ((delta_Put.f kj2 l1).bind fun bt462 => ((chartroomref05_Put.f kj2 t443).bind fun bt466 => (if t446.toList = t448.toList then (if t447 = t449 then (if t450 = bt452.1 then (if t451 = bt452.2 then ((chartroomlaw05_same.f kj2 bt454.1 bt458.1).bind fun t470 => (if t470 = true then (if bt454.2 = bt458.2 then ((chartroomkit_SameBytes.f kj2 bt462.1 bt466.1).bind fun t471 => (if t471 = true then (if bt462.2 = bt466.2 then ((delta_Right.f l1).bind fun t472 => ((chartroomref05_Right.f kj2 t443).bind fun t473 => (chartroomlaw05_DeltaApplies.j1 kj2 l1 t443 bt454.1 (t472 != t473)))) else (chartroomlaw05_DeltaApplies.j1 kj2 l1 t443 bt454.1 true)) else (chartroomlaw05_DeltaApplies.j1 kj2 l1 t443 bt454.1 true))) else (chartroomlaw05_DeltaApplies.j1 kj2 l1 t443 bt454.1 true)) else (chartroomlaw05_DeltaApplies.j1 kj2 l1 t443 bt454.1 true))) else (chartroomlaw05_DeltaApplies.j1 kj2 l1 t443 bt454.1 true)) else (chartroomlaw05_DeltaApplies.j1 kj2 l1 t443 bt454.1 true)) else (chartroomlaw05_DeltaApplies.j1 kj2 l1 t443 bt454.1 true)) else (chartroomlaw05_DeltaApplies.j1 kj2 l1 t443 bt454.1 true))))))) = some true := H
        have A12 := Aside0.mk A120
        clear A120
        replace H := Option.bind_eq_some_iff.mp H
        obtain ⟨⟨t452, t453⟩, A130, H⟩ := H
        replace H : ((delta_Normal.f kj2 l1).bind fun bt454 => ((chartroomref05_Normal.f kj2 t443).bind fun bt458 => ((delta_Put.f kj2 l1).bind fun bt462 => ((chartroomref05_Put.f kj2 t443).bind fun bt466 => (if t446.toList = t448.toList then (if t447 = t449 then (if t450 = t452 then (if t451 = t453 then ((chartroomlaw05_same.f kj2 bt454.1 bt458.1).bind fun t470 => (if t470 = true then (if bt454.2 = bt458.2 then ((chartroomkit_SameBytes.f kj2 bt462.1 bt466.1).bind fun t471 => (if t471 = true then (if bt462.2 = bt466.2 then ((delta_Right.f l1).bind fun t472 => ((chartroomref05_Right.f kj2 t443).bind fun t473 => (chartroomlaw05_DeltaApplies.j1 kj2 l1 t443 bt454.1 (t472 != t473)))) else (chartroomlaw05_DeltaApplies.j1 kj2 l1 t443 bt454.1 true)) else (chartroomlaw05_DeltaApplies.j1 kj2 l1 t443 bt454.1 true))) else (chartroomlaw05_DeltaApplies.j1 kj2 l1 t443 bt454.1 true)) else (chartroomlaw05_DeltaApplies.j1 kj2 l1 t443 bt454.1 true))) else (chartroomlaw05_DeltaApplies.j1 kj2 l1 t443 bt454.1 true)) else (chartroomlaw05_DeltaApplies.j1 kj2 l1 t443 bt454.1 true)) else (chartroomlaw05_DeltaApplies.j1 kj2 l1 t443 bt454.1 true)) else (chartroomlaw05_DeltaApplies.j1 kj2 l1 t443 bt454.1 true)))))) = some true := H
        have A13 := Aside0.mk A130
        clear A130
        replace H := Option.bind_eq_some_iff.mp H
        obtain ⟨⟨t454, t455⟩, A140, H⟩ := H
        replace H : ((chartroomref05_Normal.f kj2 t443).bind fun bt458 => ((delta_Put.f kj2 l1).bind fun bt462 => ((chartroomref05_Put.f kj2 t443).bind fun bt466 => (if t446.toList = t448.toList then (if t447 = t449 then (if t450 = t452 then (if t451 = t453 then ((chartroomlaw05_same.f kj2 t454 bt458.1).bind fun t470 => (if t470 = true then (if t455 = bt458.2 then ((chartroomkit_SameBytes.f kj2 bt462.1 bt466.1).bind fun t471 => (if t471 = true then (if bt462.2 = bt466.2 then ((delta_Right.f l1).bind fun t472 => ((chartroomref05_Right.f kj2 t443).bind fun t473 => (chartroomlaw05_DeltaApplies.j1 kj2 l1 t443 t454 (t472 != t473)))) else (chartroomlaw05_DeltaApplies.j1 kj2 l1 t443 t454 true)) else (chartroomlaw05_DeltaApplies.j1 kj2 l1 t443 t454 true))) else (chartroomlaw05_DeltaApplies.j1 kj2 l1 t443 t454 true)) else (chartroomlaw05_DeltaApplies.j1 kj2 l1 t443 t454 true))) else (chartroomlaw05_DeltaApplies.j1 kj2 l1 t443 t454 true)) else (chartroomlaw05_DeltaApplies.j1 kj2 l1 t443 t454 true)) else (chartroomlaw05_DeltaApplies.j1 kj2 l1 t443 t454 true)) else (chartroomlaw05_DeltaApplies.j1 kj2 l1 t443 t454 true))))) = some true := H
        have A14 := Aside0.mk A140
        clear A140
        replace H := Option.bind_eq_some_iff.mp H
        obtain ⟨⟨t458, t461⟩, A150, H⟩ := H
        replace H : ((delta_Put.f kj2 l1).bind fun bt462 => ((chartroomref05_Put.f kj2 t443).bind fun bt466 => (if t446.toList = t448.toList then (if t447 = t449 then (if t450 = t452 then (if t451 = t453 then ((chartroomlaw05_same.f kj2 t454 t458).bind fun t470 => (if t470 = true then (if t455 = t461 then ((chartroomkit_SameBytes.f kj2 bt462.1 bt466.1).bind fun t471 => (if t471 = true then (if bt462.2 = bt466.2 then ((delta_Right.f l1).bind fun t472 => ((chartroomref05_Right.f kj2 t443).bind fun t473 => (chartroomlaw05_DeltaApplies.j1 kj2 l1 t443 t454 (t472 != t473)))) else (chartroomlaw05_DeltaApplies.j1 kj2 l1 t443 t454 true)) else (chartroomlaw05_DeltaApplies.j1 kj2 l1 t443 t454 true))) else (chartroomlaw05_DeltaApplies.j1 kj2 l1 t443 t454 true)) else (chartroomlaw05_DeltaApplies.j1 kj2 l1 t443 t454 true))) else (chartroomlaw05_DeltaApplies.j1 kj2 l1 t443 t454 true)) else (chartroomlaw05_DeltaApplies.j1 kj2 l1 t443 t454 true)) else (chartroomlaw05_DeltaApplies.j1 kj2 l1 t443 t454 true)) else (chartroomlaw05_DeltaApplies.j1 kj2 l1 t443 t454 true)))) = some true := H
        have A15 := Aside0.mk A150
        clear A150
        replace H := Option.bind_eq_some_iff.mp H
        obtain ⟨⟨t462, t463⟩, A160, H⟩ := H
        replace H : ((chartroomref05_Put.f kj2 t443).bind fun bt466 => (if t446.toList = t448.toList then (if t447 = t449 then (if t450 = t452 then (if t451 = t453 then ((chartroomlaw05_same.f kj2 t454 t458).bind fun t470 => (if t470 = true then (if t455 = t461 then ((chartroomkit_SameBytes.f kj2 t462 bt466.1).bind fun t471 => (if t471 = true then (if t463 = bt466.2 then ((delta_Right.f l1).bind fun t472 => ((chartroomref05_Right.f kj2 t443).bind fun t473 => (chartroomlaw05_DeltaApplies.j1 kj2 l1 t443 t454 (t472 != t473)))) else (chartroomlaw05_DeltaApplies.j1 kj2 l1 t443 t454 true)) else (chartroomlaw05_DeltaApplies.j1 kj2 l1 t443 t454 true))) else (chartroomlaw05_DeltaApplies.j1 kj2 l1 t443 t454 true)) else (chartroomlaw05_DeltaApplies.j1 kj2 l1 t443 t454 true))) else (chartroomlaw05_DeltaApplies.j1 kj2 l1 t443 t454 true)) else (chartroomlaw05_DeltaApplies.j1 kj2 l1 t443 t454 true)) else (chartroomlaw05_DeltaApplies.j1 kj2 l1 t443 t454 true)) else (chartroomlaw05_DeltaApplies.j1 kj2 l1 t443 t454 true))) = some true := H
        have A16 := Aside0.mk A160
        clear A160
        replace H := Option.bind_eq_some_iff.mp H
        obtain ⟨⟨t466, t467⟩, A170, H⟩ := H
        replace H : (if t446.toList = t448.toList then (if t447 = t449 then (if t450 = t452 then (if t451 = t453 then ((chartroomlaw05_same.f kj2 t454 t458).bind fun t470 => (if t470 = true then (if t455 = t461 then ((chartroomkit_SameBytes.f kj2 t462 t466).bind fun t471 => (if t471 = true then (if t463 = t467 then ((delta_Right.f l1).bind fun t472 => ((chartroomref05_Right.f kj2 t443).bind fun t473 => (chartroomlaw05_DeltaApplies.j1 kj2 l1 t443 t454 (t472 != t473)))) else (chartroomlaw05_DeltaApplies.j1 kj2 l1 t443 t454 true)) else (chartroomlaw05_DeltaApplies.j1 kj2 l1 t443 t454 true))) else (chartroomlaw05_DeltaApplies.j1 kj2 l1 t443 t454 true)) else (chartroomlaw05_DeltaApplies.j1 kj2 l1 t443 t454 true))) else (chartroomlaw05_DeltaApplies.j1 kj2 l1 t443 t454 true)) else (chartroomlaw05_DeltaApplies.j1 kj2 l1 t443 t454 true)) else (chartroomlaw05_DeltaApplies.j1 kj2 l1 t443 t454 true)) else (chartroomlaw05_DeltaApplies.j1 kj2 l1 t443 t454 true)) = some true := H
        have A17 := Aside0.mk A170
        clear A170
        have HC18 := Aside0.mk H
        clear H
        go_upto_region 12 with (first | ((with_reducible refine gate_callee (f := 103) rfl ?_); refine goesL_ (some 33) rfl rfl Try.func103 (by kernel_rfl) rfl #[.slice A1 l1.length c1] rfl (by (try simp only [List.map_toArray, List.map_cons, List.map_nil]); first | done | rfl | (simp only [List.length_drop, List.length_take]; rfl)) ?_; (with_reducible refine (chartroomlaw05_refs.calls kj2 _ _ l1 t443 _ ?side1 ?side2 A9.out).mono ?_); (case side1 => repeat (first | exact (Kd.C_below HR1.out HB.out) | (with_reducible refine Kd.C_alloc ?_ _) | (with_reducible refine Kd.C_drewN ?_ _) | (with_reducible refine Kd.C_drew ?_))); (case side2 => exact HC1.out); rintro e w19 ⟨v444, rfl, ho0, hb⟩; refine ⟨_, rfl, ?_⟩; have n0_ := Aside0.mk (Kd.R_lower ho0 (below_size (by repeat (first | (with_reducible first | exact HB.out | apply below_alloc | apply pw_below_drewN | apply below_drew1) | exact HB.out)))); have n1_ := Aside0.mk (below_step (by repeat (first | (with_reducible first | exact HB.out | apply below_alloc | apply pw_below_drewN | apply below_drew1) | exact HB.out)) hb); clear HB; have HO445 := n0_; have HB := n1_; clear n0_ n1_; (try clear hb); (try clear hb2); (try clear hk); (try clear hi); (try clear ho0)) | ((with_reducible refine gate_callee (f := 104) rfl ?_); refine goesL_ (some 37) rfl rfl Try.func104 (by kernel_rfl) rfl #[.string a0, .slice A1 l1.length c1] rfl (by (try simp only [List.map_toArray, List.map_cons, List.map_nil]); first | done | rfl | (simp only [List.length_drop, List.length_take]; rfl)) ?_; (with_reducible refine (delta_Apply.calls a0 _ _ l1 t446 t447 _ ?side1 ?side2 A10.out).mono ?_); (case side1 => repeat (first | exact (Kd.C_below HR1.out HB.out) | (with_reducible refine Kd.C_alloc ?_ _) | (with_reducible refine Kd.C_drewN ?_ _) | (with_reducible refine Kd.C_drew ?_))); (case side2 => exact HC1.out); rintro e w20 ⟨rfl, hb⟩; refine ⟨_, rfl, ?_⟩; have n0_ := Aside0.mk (Kd.R_below (by (with_reducible repeat (first | apply Kd.R_alloc | apply Kd.R_drewN | apply Kd.R_drew)); exact HO445.out) hb); have n1_ := Aside0.mk (below_step (by repeat (first | (with_reducible first | exact HB.out | apply below_alloc | apply pw_below_drewN | apply below_drew1) | exact HB.out)) hb); clear HO445; clear HB; have HO445 := n0_; have HB := n1_; clear n0_ n1_; (try clear hb); (try clear hb2); (try clear hk); (try clear hi); obtain ⟨Ao21, co21, eo21⟩ := Kd.R_slice HO445.out; subst eo21) | ((with_reducible refine gate_callee (f := 105) rfl ?_); refine goesL_ (some 43) rfl rfl Try.func105 (by kernel_rfl) rfl #[.string a0, .slice Ao21 t443.length co21] rfl (by (try simp only [List.map_toArray, List.map_cons, List.map_nil]); first | done | rfl | (simp only [List.length_drop, List.length_take]; rfl)) ?_; (with_reducible refine (chartroomref05_Apply.calls kj2 a0 _ _ t443 t448 t449 _ ?side1 ?side2 A11.out).mono ?_); (case side1 => repeat (first | exact (Kd.R_reads' HO445.out).2.2 | (with_reducible refine Kd.C_alloc ?_ _) | (with_reducible refine Kd.C_drewN ?_ _) | (with_reducible refine Kd.C_drew ?_))); (case side2 => exact (Kd.R_reads' HO445.out).2.1); rintro e w22 ⟨rfl, hb⟩; refine ⟨_, rfl, ?_⟩; have n0_ := Aside0.mk (Kd.R_below (by (with_reducible repeat (first | apply Kd.R_alloc | apply Kd.R_drewN | apply Kd.R_drew)); exact HO445.out) hb); have n1_ := Aside0.mk (below_step (by repeat (first | (with_reducible first | exact HB.out | apply below_alloc | apply pw_below_drewN | apply below_drew1) | exact HB.out)) hb); clear HO445; clear HB; have HO445 := n0_; have HB := n1_; clear n0_ n1_; (try clear hb); (try clear hb2); (try clear hk); (try clear hi)) | ((with_reducible refine gate_callee (f := 106) rfl ?_); refine goesL_ (some 48) rfl rfl Try.func106 (by kernel_rfl) rfl #[.slice A1 l1.length c1] rfl (by (try simp only [List.map_toArray, List.map_cons, List.map_nil]); first | done | rfl | (simp only [List.length_drop, List.length_take]; rfl)) ?_; (with_reducible refine (delta_Sizes.calls kj2 _ _ l1 t450 t451 _ ?side1 ?side2 A12.out).mono ?_); (case side1 => repeat (first | exact (Kd.C_below HR1.out HB.out) | (with_reducible refine Kd.C_alloc ?_ _) | (with_reducible refine Kd.C_drewN ?_ _) | (with_reducible refine Kd.C_drew ?_))); (case side2 => exact HC1.out); rintro e w23 ⟨rfl, hb⟩; refine ⟨_, rfl, ?_⟩; have n0_ := Aside0.mk (Kd.R_below (by (with_reducible repeat (first | apply Kd.R_alloc | apply Kd.R_drewN | apply Kd.R_drew)); exact HO445.out) hb); have n1_ := Aside0.mk (below_step (by repeat (first | (with_reducible first | exact HB.out | apply below_alloc | apply pw_below_drewN | apply below_drew1) | exact HB.out)) hb); clear HO445; clear HB; have HO445 := n0_; have HB := n1_; clear n0_ n1_; (try clear hb); (try clear hb2); (try clear hk); (try clear hi)) | ((with_reducible refine gate_callee (f := 107) rfl ?_); refine goesL_ (some 53) rfl rfl Try.func107 (by kernel_rfl) rfl #[.slice Ao21 t443.length co21] rfl (by (try simp only [List.map_toArray, List.map_cons, List.map_nil]); first | done | rfl | (simp only [List.length_drop, List.length_take]; rfl)) ?_; (with_reducible refine (chartroomref05_Sizes.calls kj2 _ _ t443 t452 t453 _ ?side1 ?side2 A13.out).mono ?_); (case side1 => repeat (first | exact (Kd.R_reads' HO445.out).2.2 | (with_reducible refine Kd.C_alloc ?_ _) | (with_reducible refine Kd.C_drewN ?_ _) | (with_reducible refine Kd.C_drew ?_))); (case side2 => exact (Kd.R_reads' HO445.out).2.1); rintro e w24 ⟨rfl, hb⟩; refine ⟨_, rfl, ?_⟩; have n0_ := Aside0.mk (Kd.R_below (by (with_reducible repeat (first | apply Kd.R_alloc | apply Kd.R_drewN | apply Kd.R_drew)); exact HO445.out) hb); have n1_ := Aside0.mk (below_step (by repeat (first | (with_reducible first | exact HB.out | apply below_alloc | apply pw_below_drewN | apply below_drew1) | exact HB.out)) hb); clear HO445; clear HB; have HO445 := n0_; have HB := n1_; clear n0_ n1_; (try clear hb); (try clear hb2); (try clear hk); (try clear hi)) | ((with_reducible refine gate_callee (f := 108) rfl ?_); refine goesL_ (some 58) rfl rfl Try.func108 (by kernel_rfl) rfl #[.slice A1 l1.length c1] rfl (by (try simp only [List.map_toArray, List.map_cons, List.map_nil]); first | done | rfl | (simp only [List.length_drop, List.length_take]; rfl)) ?_; (with_reducible refine (delta_Normal.calls kj2 _ _ l1 t454 t455 _ ?side1 ?side2 A14.out).mono ?_); (case side1 => repeat (first | exact (Kd.C_below HR1.out HB.out) | (with_reducible refine Kd.C_alloc ?_ _) | (with_reducible refine Kd.C_drewN ?_ _) | (with_reducible refine Kd.C_drew ?_))); (case side2 => exact HC1.out); rintro e w25 ⟨v456, rfl, ho0, hb⟩; refine ⟨_, rfl, ?_⟩; have n0_ := Aside0.mk (Kd.R_below (by (with_reducible repeat (first | apply Kd.R_alloc | apply Kd.R_drewN | apply Kd.R_drew)); exact HO445.out) hb); have n1_ := Aside0.mk (Kd.R_lower ho0 (below_size (by repeat (first | (with_reducible first | exact HB.out | apply below_alloc | apply pw_below_drewN | apply below_drew1) | exact HB.out)))); have n2_ := Aside0.mk (below_step (by repeat (first | (with_reducible first | exact HB.out | apply below_alloc | apply pw_below_drewN | apply below_drew1) | exact HB.out)) hb); clear HO445; clear HB; have HO445 := n0_; have HO457 := n1_; have HB := n2_; clear n0_ n1_ n2_; (try clear hb); (try clear hb2); (try clear hk); (try clear hi); (try clear ho0)) | ((with_reducible refine gate_callee (f := 109) rfl ?_); refine goesL_ (some 63) rfl rfl Try.func109 (by kernel_rfl) rfl #[.slice Ao21 t443.length co21] rfl (by (try simp only [List.map_toArray, List.map_cons, List.map_nil]); first | done | rfl | (simp only [List.length_drop, List.length_take]; rfl)) ?_; (with_reducible refine (chartroomref05_Normal.calls kj2 (fun k_ => some k_ = (.slice Ao21 t443.length co21 : Value).ownBlock) _ _ t443 t458 t461 _ ?side1 A15.out).mono ?_); (case side1 => exact Kd.R_V (Kd.R_tight rfl (Kd.R_apart' (HO445.out) (Kd.R_typed HO457.out) (by decide)))); rintro e w26 ⟨v459, rfl, ho0, hb⟩; refine ⟨_, rfl, ?_⟩; have n0_ := Aside0.mk (Kd.R_below (by (with_reducible repeat (first | apply Kd.R_alloc | apply Kd.R_drewN | apply Kd.R_drew)); exact HO445.out) hb); have n1_ := Aside0.mk (Kd.R_below (by (with_reducible repeat (first | apply Kd.R_alloc | apply Kd.R_drewN | apply Kd.R_drew)); exact HO457.out) hb); have n2_ := Aside0.mk (Kd.V_lower (Kd.V_mono (ok' := fun k_ => some k_ ≠ (v456 : Value).ownBlock) ho0 (fun k_ hk_ => Or.elim hk_ (fun hs_ => ((Kd.R_apart' (HO445.out) (Kd.R_typed HO457.out) (by decide)).1 k_ hs_.symm).2) (fun hn_ => (Kd.fresh' (Kd.R_lt (by (with_reducible repeat (first | apply Kd.R_alloc | apply Kd.R_drewN | apply Kd.R_drew)); exact HO457.out)) k_ hn_)))) (below_size (by repeat (first | (with_reducible first | exact HB.out | apply below_alloc | apply pw_below_drewN | apply below_drew1) | exact HB.out)))); have n3_ := Aside0.mk (below_step (by repeat (first | (with_reducible first | exact HB.out | apply below_alloc | apply pw_below_drewN | apply below_drew1) | exact HB.out)) hb); clear HO445; clear HO457; clear HB; have HO445 := n0_; have HO457 := n1_; have HO460 := n2_; have HB := n3_; clear n0_ n1_ n2_ n3_; (try clear hb); (try clear hb2); (try clear hk); (try clear hi); (try clear ho0)) | ((with_reducible refine gate_callee (f := 110) rfl ?_); refine goesL_ (some 68) rfl rfl Try.func110 (by kernel_rfl) rfl #[.slice A1 l1.length c1] rfl (by (try simp only [List.map_toArray, List.map_cons, List.map_nil]); first | done | rfl | (simp only [List.length_drop, List.length_take]; rfl)) ?_; (with_reducible refine (delta_Put.calls kj2 _ _ l1 t462 t463 _ ?side1 ?side2 A16.out).mono ?_); (case side1 => repeat (first | exact (Kd.C_below HR1.out HB.out) | (with_reducible refine Kd.C_alloc ?_ _) | (with_reducible refine Kd.C_drewN ?_ _) | (with_reducible refine Kd.C_drew ?_))); (case side2 => exact HC1.out); rintro e w27 ⟨v464, rfl, ho0, hb⟩; refine ⟨_, rfl, ?_⟩; have n0_ := Aside0.mk (Kd.R_below (by (with_reducible repeat (first | apply Kd.R_alloc | apply Kd.R_drewN | apply Kd.R_drew)); exact HO445.out) hb); have n1_ := Aside0.mk (Kd.R_below (by (with_reducible repeat (first | apply Kd.R_alloc | apply Kd.R_drewN | apply Kd.R_drew)); exact HO457.out) hb); have n2_ := Aside0.mk (Kd.V_elder' (by (with_reducible repeat (first | apply Kd.V_alloc | apply Kd.V_drewN | apply Kd.V_drew)); exact HO460.out) (Kd.R_base ho0) hb); have n3_ := Aside0.mk (Kd.R_lower ho0 (below_size (by repeat (first | (with_reducible first | exact HB.out | apply below_alloc | apply pw_below_drewN | apply below_drew1) | exact HB.out)))); have n4_ := Aside0.mk (below_step (by repeat (first | (with_reducible first | exact HB.out | apply below_alloc | apply pw_below_drewN | apply below_drew1) | exact HB.out)) hb); clear HO445; clear HO457; clear HO460; clear HB; have HO445 := n0_; have HO457 := n1_; have HO460 := n2_; have HO465 := n3_; have HB := n4_; clear n0_ n1_ n2_ n3_ n4_; (try clear hb); (try clear hb2); (try clear hk); (try clear hi); (try clear ho0)) | ((with_reducible refine gate_callee (f := 111) rfl ?_); refine goesL_ (some 73) rfl rfl Try.func111 (by kernel_rfl) rfl #[.slice Ao21 t443.length co21] rfl (by (try simp only [List.map_toArray, List.map_cons, List.map_nil]); first | done | rfl | (simp only [List.length_drop, List.length_take]; rfl)) ?_; (with_reducible refine (chartroomref05_Put.calls kj2 _ _ t443 t466 t467 _ ?side1 ?side2 A17.out).mono ?_); (case side1 => repeat (first | exact (Kd.R_reads' HO445.out).2.2 | (with_reducible refine Kd.C_alloc ?_ _) | (with_reducible refine Kd.C_drewN ?_ _) | (with_reducible refine Kd.C_drew ?_))); (case side2 => exact (Kd.R_reads' HO445.out).2.1); rintro e w28 ⟨v468, rfl, ho0, hb⟩; refine ⟨_, rfl, ?_⟩; have n0_ := Aside0.mk (Kd.R_below (by (with_reducible repeat (first | apply Kd.R_alloc | apply Kd.R_drewN | apply Kd.R_drew)); exact HO445.out) hb); have n1_ := Aside0.mk (Kd.R_below (by (with_reducible repeat (first | apply Kd.R_alloc | apply Kd.R_drewN | apply Kd.R_drew)); exact HO457.out) hb); have n2_ := Aside0.mk (Kd.V_elder' (by (with_reducible repeat (first | apply Kd.V_alloc | apply Kd.V_drewN | apply Kd.V_drew)); exact HO460.out) (Kd.R_base ho0) hb); have n3_ := Aside0.mk (Kd.R_elder' (by (with_reducible repeat (first | apply Kd.R_alloc | apply Kd.R_drewN | apply Kd.R_drew)); exact HO465.out) (Kd.R_base ho0) hb); have n4_ := Aside0.mk (Kd.R_lower (Kd.R_new' ho0 (Kd.R_lt (by (with_reducible repeat (first | apply Kd.R_alloc | apply Kd.R_drewN | apply Kd.R_drew)); exact HO465.out))) (below_size (by repeat (first | (with_reducible first | exact HB.out | apply below_alloc | apply pw_below_drewN | apply below_drew1) | exact HB.out)))); have n5_ := Aside0.mk (below_step (by repeat (first | (with_reducible first | exact HB.out | apply below_alloc | apply pw_below_drewN | apply below_drew1) | exact HB.out)) hb); clear HO445; clear HO457; clear HO460; clear HO465; clear HB; have HO445 := n0_; have HO457 := n1_; have HO460 := n2_; have HO465 := n3_; have HO469 := n4_; have HB := n5_; clear n0_ n1_ n2_ n3_ n4_ n5_; (try clear hb); (try clear hb2); (try clear hk); (try clear hi); (try clear ho0)))
        (try simp only [Act.put, List.setIfInBounds_toArray, List.set_cons_zero, List.set_cons_succ])
        go_cut [122] (fun v122 wc => ∃ (kq : Nat) (x122_17 : Bool), v122 = .bool x122_17 ∧ Aside0 (chartroomlaw05_DeltaApplies.j1 kq l1 t443 t454 x122_17 = some true) ∧ Aside0 (kq ≤ kj2) ∧ Aside0 (Kd.R k226 226 wc w.heap.size (fun _ => True) (.slice Ao21 t443.length co21) t443) ∧ Aside0 (Kd.R k153 153 wc w.heap.size (fun _ => True) v456 t454) ∧ Aside0 (Below w.heap.size w wc))
        case first =>
          have H := HC18.out
          clear HC18
          by_cases c29 : t446.toList = t448.toList
          · rw [if_pos c29] at H
            have c29b0 : (t446.toList == t448.toList) = true := beq_iff_eq.mpr c29
            have c29b1 : (t446.toList != t448.toList) = false := bne_eq_false_iff_eq.mpr c29
            clear c29
            (first | rw [c29b0] | (simp only [i64_w, i32_w]; rw [c29b0]) | skip)
            by_cases c30 : t447 = t449
            · rw [if_pos c30] at H
              have c30b0 : (t447 == t449) = true := beq_iff_eq.mpr c30
              have c30b1 : (t447 != t449) = false := bne_eq_false_iff_eq.mpr c30
              clear c30
              by_cases c31 : t450 = t452
              · rw [if_pos c31] at H
                have c31b0 : (t450 == t452) = true := beq_iff_eq.mpr c31
                have c31b1 : (t450 != t452) = false := bne_eq_false_iff_eq.mpr c31
                clear c31
                by_cases c32 : t451 = t453
                · rw [if_pos c32] at H
                  have c32b0 : (t451 == t453) = true := beq_iff_eq.mpr c32
                  have c32b1 : (t451 != t453) = false := bne_eq_false_iff_eq.mpr c32
                  clear c32
                  replace H := Option.bind_eq_some_iff.mp H
                  obtain ⟨t470, A330, H⟩ := H
                  replace H : (if t470 = true then (if t455 = t461 then ((chartroomkit_SameBytes.f kj2 t462 t466).bind fun t471 => (if t471 = true then (if t463 = t467 then ((delta_Right.f l1).bind fun t472 => ((chartroomref05_Right.f kj2 t443).bind fun t473 => (chartroomlaw05_DeltaApplies.j1 kj2 l1 t443 t454 (t472 != t473)))) else (chartroomlaw05_DeltaApplies.j1 kj2 l1 t443 t454 true)) else (chartroomlaw05_DeltaApplies.j1 kj2 l1 t443 t454 true))) else (chartroomlaw05_DeltaApplies.j1 kj2 l1 t443 t454 true)) else (chartroomlaw05_DeltaApplies.j1 kj2 l1 t443 t454 true)) = some true := H
                  have A33 := Aside0.mk A330
                  clear A330
                  by_cases c34 : t470 = true
                  · subst c34
                    have H1 : (if t455 = t461 then ((chartroomkit_SameBytes.f kj2 t462 t466).bind fun t471 => (if t471 = true then (if t463 = t467 then ((delta_Right.f l1).bind fun t472 => ((chartroomref05_Right.f kj2 t443).bind fun t473 => (chartroomlaw05_DeltaApplies.j1 kj2 l1 t443 t454 (t472 != t473)))) else (chartroomlaw05_DeltaApplies.j1 kj2 l1 t443 t454 true)) else (chartroomlaw05_DeltaApplies.j1 kj2 l1 t443 t454 true))) else (chartroomlaw05_DeltaApplies.j1 kj2 l1 t443 t454 true)) = some true := by rw [if_pos rfl] at H; exact H
                    clear H
                    have H := H1
                    clear H1
                    by_cases c35 : t455 = t461
                    · rw [if_pos c35] at H
                      have c35b0 : (t455 == t461) = true := beq_iff_eq.mpr c35
                      have c35b1 : (t455 != t461) = false := bne_eq_false_iff_eq.mpr c35
                      clear c35
                      replace H := Option.bind_eq_some_iff.mp H
                      obtain ⟨t471, A360, H⟩ := H
                      replace H : (if t471 = true then (if t463 = t467 then ((delta_Right.f l1).bind fun t472 => ((chartroomref05_Right.f kj2 t443).bind fun t473 => (chartroomlaw05_DeltaApplies.j1 kj2 l1 t443 t454 (t472 != t473)))) else (chartroomlaw05_DeltaApplies.j1 kj2 l1 t443 t454 true)) else (chartroomlaw05_DeltaApplies.j1 kj2 l1 t443 t454 true)) = some true := H
                      have A36 := Aside0.mk A360
                      clear A360
                      by_cases c37 : t471 = true
                      · subst c37
                        have H1 : (if t463 = t467 then ((delta_Right.f l1).bind fun t472 => ((chartroomref05_Right.f kj2 t443).bind fun t473 => (chartroomlaw05_DeltaApplies.j1 kj2 l1 t443 t454 (t472 != t473)))) else (chartroomlaw05_DeltaApplies.j1 kj2 l1 t443 t454 true)) = some true := by rw [if_pos rfl] at H; exact H
                        clear H
                        have H := H1
                        clear H1
                        by_cases c38 : t463 = t467
                        · rw [if_pos c38] at H
                          have c38b0 : (t463 == t467) = true := beq_iff_eq.mpr c38
                          have c38b1 : (t463 != t467) = false := bne_eq_false_iff_eq.mpr c38
                          clear c38
                          replace H := Option.bind_eq_some_iff.mp H
                          obtain ⟨t472, A390, H⟩ := H
                          replace H : ((chartroomref05_Right.f kj2 t443).bind fun t473 => (chartroomlaw05_DeltaApplies.j1 kj2 l1 t443 t454 (t472 != t473))) = some true := H
                          have A39 := Aside0.mk A390
                          clear A390
                          replace H := Option.bind_eq_some_iff.mp H
                          obtain ⟨t473, A400, H⟩ := H
                          replace H : (chartroomlaw05_DeltaApplies.j1 kj2 l1 t443 t454 (t472 != t473)) = some true := H
                          have A40 := Aside0.mk A400
                          clear A400
                          have H' := Aside0.mk H
                          clear H
                          obtain ⟨Ao41, co41, eo41⟩ := Kd.R_slice HO457.out
                          subst eo41
                          obtain ⟨Ao42, co42, eo42⟩ := Kd.V_slice HO460.out
                          subst eo42
                          go_wp2_with (first | (go_at_call 112; refine calls_of_args (args' := #[.slice Ao41 t454.length co41, .slice Ao42 t458.length co42]) (by rfl) ?_; (with_reducible refine (chartroomlaw05_same.calls kj2 _ _ t454 _ _ t458 true _ ?side1 ?side2 ?side3 ?side4 A33.out).mono ?_); (case side1 => repeat (first | exact (Kd.R_reads' HO457.out).2.2 | (with_reducible refine Kd.C_alloc ?_ _) | (with_reducible refine Kd.C_drewN ?_ _) | (with_reducible refine Kd.C_drew ?_))); (case side2 => exact (Kd.R_reads' HO457.out).2.1); (case side3 => repeat (first | exact (Kd.V_reads' HO460.out).2.2 | (with_reducible refine Kd.C_alloc ?_ _) | (with_reducible refine Kd.C_drewN ?_ _) | (with_reducible refine Kd.C_drew ?_))); (case side4 => exact (Kd.V_reads' HO460.out).2.1); rintro e w' ⟨rfl, ⟨nd, rfl⟩⟩; obtain ⟨Ao43, co43, eo43⟩ := Kd.R_slice HO465.out; subst eo43; obtain ⟨Ao44, co44, eo44⟩ := Kd.R_slice HO469.out; subst eo44) | (go_at_call 32; refine calls_of_args (args' := #[.slice Ao43 t462.length co43, .slice Ao44 t466.length co44]) (by rfl) ?_; (with_reducible refine (chartroomkit_SameBytes.calls kj2 _ _ t462 _ _ t466 true _ ?side1 ?side2 ?side3 ?side4 A36.out).mono ?_); (case side1 => repeat (first | exact (Kd.R_reads' HO465.out).2.2 | (with_reducible refine Kd.C_alloc ?_ _) | (with_reducible refine Kd.C_drewN ?_ _) | (with_reducible refine Kd.C_drew ?_))); (case side2 => exact (Kd.R_reads' HO465.out).2.1); (case side3 => repeat (first | exact (Kd.R_reads' HO469.out).2.2 | (with_reducible refine Kd.C_alloc ?_ _) | (with_reducible refine Kd.C_drewN ?_ _) | (with_reducible refine Kd.C_drew ?_))); (case side4 => exact (Kd.R_reads' HO469.out).2.1); rintro e w' ⟨rfl, ⟨nd, rfl⟩⟩) | (go_at_call 113; refine calls_of_args (args' := #[.slice A1 l1.length c1]) (by rfl) ?_; (with_reducible refine (delta_Right.calls _ _ l1 t472 _ ?side1 ?side2 A39.out).mono ?_); (case side1 => repeat (first | exact (Kd.C_below HR1.out (by repeat (first | (with_reducible first | exact HB.out | apply below_alloc | apply pw_below_drewN | apply below_drew1) | exact HB.out))) | (with_reducible refine Kd.C_alloc ?_ _) | (with_reducible refine Kd.C_drewN ?_ _) | (with_reducible refine Kd.C_drew ?_))); (case side2 => exact HC1.out); rintro e w45 ⟨rfl, hb⟩; have n0_ := Aside0.mk (Kd.R_below (by (with_reducible repeat (first | apply Kd.R_alloc | apply Kd.R_drewN | apply Kd.R_drew)); exact HO445.out) hb); have n1_ := Aside0.mk (Kd.R_below (by (with_reducible repeat (first | apply Kd.R_alloc | apply Kd.R_drewN | apply Kd.R_drew)); exact HO457.out) hb); have n2_ := Aside0.mk (Kd.V_below (by (with_reducible repeat (first | apply Kd.V_alloc | apply Kd.V_drewN | apply Kd.V_drew)); exact HO460.out) hb); have n3_ := Aside0.mk (Kd.R_below (by (with_reducible repeat (first | apply Kd.R_alloc | apply Kd.R_drewN | apply Kd.R_drew)); exact HO465.out) hb); have n4_ := Aside0.mk (Kd.R_below (by (with_reducible repeat (first | apply Kd.R_alloc | apply Kd.R_drewN | apply Kd.R_drew)); exact HO469.out) hb); have n5_ := Aside0.mk (below_step (by repeat (first | (with_reducible first | exact HB.out | apply below_alloc | apply pw_below_drewN | apply below_drew1) | exact HB.out)) hb); clear HO445; clear HO457; clear HO460; clear HO465; clear HO469; clear HB; have HO445 := n0_; have HO457 := n1_; have HO460 := n2_; have HO465 := n3_; have HO469 := n4_; have HB := n5_; clear n0_ n1_ n2_ n3_ n4_ n5_; (try clear hb); (try clear hb2); (try clear hk); (try clear hi)) | (go_at_call 114; refine calls_of_args (args' := #[.slice Ao21 t443.length co21]) (by rfl) ?_; (with_reducible refine (chartroomref05_Right.calls kj2 _ _ t443 t473 _ ?side1 ?side2 A40.out).mono ?_); (case side1 => repeat (first | exact (Kd.R_reads' HO445.out).2.2 | (with_reducible refine Kd.C_alloc ?_ _) | (with_reducible refine Kd.C_drewN ?_ _) | (with_reducible refine Kd.C_drew ?_))); (case side2 => exact (Kd.R_reads' HO445.out).2.1); rintro e w46 ⟨rfl, hb⟩; have n0_ := Aside0.mk (Kd.R_below (by (with_reducible repeat (first | apply Kd.R_alloc | apply Kd.R_drewN | apply Kd.R_drew)); exact HO445.out) hb); have n1_ := Aside0.mk (Kd.R_below (by (with_reducible repeat (first | apply Kd.R_alloc | apply Kd.R_drewN | apply Kd.R_drew)); exact HO457.out) hb); have n2_ := Aside0.mk (Kd.V_below (by (with_reducible repeat (first | apply Kd.V_alloc | apply Kd.V_drewN | apply Kd.V_drew)); exact HO460.out) hb); have n3_ := Aside0.mk (Kd.R_below (by (with_reducible repeat (first | apply Kd.R_alloc | apply Kd.R_drewN | apply Kd.R_drew)); exact HO465.out) hb); have n4_ := Aside0.mk (Kd.R_below (by (with_reducible repeat (first | apply Kd.R_alloc | apply Kd.R_drewN | apply Kd.R_drew)); exact HO469.out) hb); have n5_ := Aside0.mk (below_step (by repeat (first | (with_reducible first | exact HB.out | apply below_alloc | apply pw_below_drewN | apply below_drew1) | exact HB.out)) hb); clear HO445; clear HO457; clear HO460; clear HO465; clear HO469; clear HB; have HO445 := n0_; have HO457 := n1_; have HO460 := n2_; have HO465 := n3_; have HO469 := n4_; have HB := n5_; clear n0_ n1_ n2_ n3_ n4_ n5_; (try clear hb); (try clear hb2); (try clear hk); (try clear hi)))
                          go_meet
                          case rel => exact ⟨_, ((t472 != t473)), (by first | rfl | (simp; done) | (simp [*]; done)), H', ⟨by have := HJ2.out; first | omega | exact Nat.le_refl _⟩, ⟨by (with_reducible repeat (first | apply Kd.R_alloc | apply Kd.R_drewN | apply Kd.R_drew)); exact HO445.out⟩, ⟨by (with_reducible repeat (first | apply Kd.R_alloc | apply Kd.R_drewN | apply Kd.R_drew)); exact HO457.out⟩, ⟨by repeat (first | (with_reducible first | exact HB.out | apply below_alloc | apply pw_below_drewN | apply below_drew1) | exact HB.out)⟩⟩
                        · rw [if_neg c38] at H
                          have c38b0 : (t463 == t467) = false := beq_eq_false_iff_ne.mpr c38
                          have c38b1 : (t463 != t467) = true := bne_iff_ne.mpr c38
                          have H' := Aside0.mk H
                          clear H
                          obtain ⟨Ao47, co47, eo47⟩ := Kd.R_slice HO457.out
                          subst eo47
                          obtain ⟨Ao48, co48, eo48⟩ := Kd.V_slice HO460.out
                          subst eo48
                          go_wp2_with (first | (go_at_call 112; refine calls_of_args (args' := #[.slice Ao47 t454.length co47, .slice Ao48 t458.length co48]) (by rfl) ?_; (with_reducible refine (chartroomlaw05_same.calls kj2 _ _ t454 _ _ t458 true _ ?side1 ?side2 ?side3 ?side4 A33.out).mono ?_); (case side1 => repeat (first | exact (Kd.R_reads' HO457.out).2.2 | (with_reducible refine Kd.C_alloc ?_ _) | (with_reducible refine Kd.C_drewN ?_ _) | (with_reducible refine Kd.C_drew ?_))); (case side2 => exact (Kd.R_reads' HO457.out).2.1); (case side3 => repeat (first | exact (Kd.V_reads' HO460.out).2.2 | (with_reducible refine Kd.C_alloc ?_ _) | (with_reducible refine Kd.C_drewN ?_ _) | (with_reducible refine Kd.C_drew ?_))); (case side4 => exact (Kd.V_reads' HO460.out).2.1); rintro e w' ⟨rfl, ⟨nd, rfl⟩⟩; obtain ⟨Ao49, co49, eo49⟩ := Kd.R_slice HO465.out; subst eo49; obtain ⟨Ao50, co50, eo50⟩ := Kd.R_slice HO469.out; subst eo50) | (go_at_call 32; refine calls_of_args (args' := #[.slice Ao49 t462.length co49, .slice Ao50 t466.length co50]) (by rfl) ?_; (with_reducible refine (chartroomkit_SameBytes.calls kj2 _ _ t462 _ _ t466 true _ ?side1 ?side2 ?side3 ?side4 A36.out).mono ?_); (case side1 => repeat (first | exact (Kd.R_reads' HO465.out).2.2 | (with_reducible refine Kd.C_alloc ?_ _) | (with_reducible refine Kd.C_drewN ?_ _) | (with_reducible refine Kd.C_drew ?_))); (case side2 => exact (Kd.R_reads' HO465.out).2.1); (case side3 => repeat (first | exact (Kd.R_reads' HO469.out).2.2 | (with_reducible refine Kd.C_alloc ?_ _) | (with_reducible refine Kd.C_drewN ?_ _) | (with_reducible refine Kd.C_drew ?_))); (case side4 => exact (Kd.R_reads' HO469.out).2.1); rintro e w' ⟨rfl, ⟨nd, rfl⟩⟩))
                          go_meet
                          case rel => exact ⟨_, (true), (by first | rfl | (simp; done) | (simp [*]; done)), H', ⟨by have := HJ2.out; first | omega | exact Nat.le_refl _⟩, ⟨by (with_reducible repeat (first | apply Kd.R_alloc | apply Kd.R_drewN | apply Kd.R_drew)); exact HO445.out⟩, ⟨by (with_reducible repeat (first | apply Kd.R_alloc | apply Kd.R_drewN | apply Kd.R_drew)); exact HO457.out⟩, ⟨by repeat (first | (with_reducible first | exact HB.out | apply below_alloc | apply pw_below_drewN | apply below_drew1) | exact HB.out)⟩⟩
                      · replace c37 := Bool.eq_false_iff.mpr c37
                        subst c37
                        have H1 : (chartroomlaw05_DeltaApplies.j1 kj2 l1 t443 t454 true) = some true := by rw [if_neg (show ¬ (false = true) by decide)] at H; exact H
                        clear H
                        have H := H1
                        clear H1
                        have H' := Aside0.mk H
                        clear H
                        obtain ⟨Ao51, co51, eo51⟩ := Kd.R_slice HO457.out
                        subst eo51
                        obtain ⟨Ao52, co52, eo52⟩ := Kd.V_slice HO460.out
                        subst eo52
                        go_wp2_with (first | (go_at_call 112; refine calls_of_args (args' := #[.slice Ao51 t454.length co51, .slice Ao52 t458.length co52]) (by rfl) ?_; (with_reducible refine (chartroomlaw05_same.calls kj2 _ _ t454 _ _ t458 true _ ?side1 ?side2 ?side3 ?side4 A33.out).mono ?_); (case side1 => repeat (first | exact (Kd.R_reads' HO457.out).2.2 | (with_reducible refine Kd.C_alloc ?_ _) | (with_reducible refine Kd.C_drewN ?_ _) | (with_reducible refine Kd.C_drew ?_))); (case side2 => exact (Kd.R_reads' HO457.out).2.1); (case side3 => repeat (first | exact (Kd.V_reads' HO460.out).2.2 | (with_reducible refine Kd.C_alloc ?_ _) | (with_reducible refine Kd.C_drewN ?_ _) | (with_reducible refine Kd.C_drew ?_))); (case side4 => exact (Kd.V_reads' HO460.out).2.1); rintro e w' ⟨rfl, ⟨nd, rfl⟩⟩; obtain ⟨Ao53, co53, eo53⟩ := Kd.R_slice HO465.out; subst eo53; obtain ⟨Ao54, co54, eo54⟩ := Kd.R_slice HO469.out; subst eo54) | (go_at_call 32; refine calls_of_args (args' := #[.slice Ao53 t462.length co53, .slice Ao54 t466.length co54]) (by rfl) ?_; (with_reducible refine (chartroomkit_SameBytes.calls kj2 _ _ t462 _ _ t466 false _ ?side1 ?side2 ?side3 ?side4 A36.out).mono ?_); (case side1 => repeat (first | exact (Kd.R_reads' HO465.out).2.2 | (with_reducible refine Kd.C_alloc ?_ _) | (with_reducible refine Kd.C_drewN ?_ _) | (with_reducible refine Kd.C_drew ?_))); (case side2 => exact (Kd.R_reads' HO465.out).2.1); (case side3 => repeat (first | exact (Kd.R_reads' HO469.out).2.2 | (with_reducible refine Kd.C_alloc ?_ _) | (with_reducible refine Kd.C_drewN ?_ _) | (with_reducible refine Kd.C_drew ?_))); (case side4 => exact (Kd.R_reads' HO469.out).2.1); rintro e w' ⟨rfl, ⟨nd, rfl⟩⟩))
                        go_meet
                        case rel => exact ⟨_, (true), (by first | rfl | (simp; done) | (simp [*]; done)), H', ⟨by have := HJ2.out; first | omega | exact Nat.le_refl _⟩, ⟨by (with_reducible repeat (first | apply Kd.R_alloc | apply Kd.R_drewN | apply Kd.R_drew)); exact HO445.out⟩, ⟨by (with_reducible repeat (first | apply Kd.R_alloc | apply Kd.R_drewN | apply Kd.R_drew)); exact HO457.out⟩, ⟨by repeat (first | (with_reducible first | exact HB.out | apply below_alloc | apply pw_below_drewN | apply below_drew1) | exact HB.out)⟩⟩
                    · rw [if_neg c35] at H
                      have c35b0 : (t455 == t461) = false := beq_eq_false_iff_ne.mpr c35
                      have c35b1 : (t455 != t461) = true := bne_iff_ne.mpr c35
                      have H' := Aside0.mk H
                      clear H
                      obtain ⟨Ao55, co55, eo55⟩ := Kd.R_slice HO457.out
                      subst eo55
                      obtain ⟨Ao56, co56, eo56⟩ := Kd.V_slice HO460.out
                      subst eo56
                      go_wp2_with (first | (go_at_call 112; refine calls_of_args (args' := #[.slice Ao55 t454.length co55, .slice Ao56 t458.length co56]) (by rfl) ?_; (with_reducible refine (chartroomlaw05_same.calls kj2 _ _ t454 _ _ t458 true _ ?side1 ?side2 ?side3 ?side4 A33.out).mono ?_); (case side1 => repeat (first | exact (Kd.R_reads' HO457.out).2.2 | (with_reducible refine Kd.C_alloc ?_ _) | (with_reducible refine Kd.C_drewN ?_ _) | (with_reducible refine Kd.C_drew ?_))); (case side2 => exact (Kd.R_reads' HO457.out).2.1); (case side3 => repeat (first | exact (Kd.V_reads' HO460.out).2.2 | (with_reducible refine Kd.C_alloc ?_ _) | (with_reducible refine Kd.C_drewN ?_ _) | (with_reducible refine Kd.C_drew ?_))); (case side4 => exact (Kd.V_reads' HO460.out).2.1); rintro e w' ⟨rfl, ⟨nd, rfl⟩⟩))
                      go_meet
                      case rel => exact ⟨_, (true), (by first | rfl | (simp; done) | (simp [*]; done)), H', ⟨by have := HJ2.out; first | omega | exact Nat.le_refl _⟩, ⟨by (with_reducible repeat (first | apply Kd.R_alloc | apply Kd.R_drewN | apply Kd.R_drew)); exact HO445.out⟩, ⟨by (with_reducible repeat (first | apply Kd.R_alloc | apply Kd.R_drewN | apply Kd.R_drew)); exact HO457.out⟩, ⟨by repeat (first | (with_reducible first | exact HB.out | apply below_alloc | apply pw_below_drewN | apply below_drew1) | exact HB.out)⟩⟩
                  · replace c34 := Bool.eq_false_iff.mpr c34
                    subst c34
                    have H1 : (chartroomlaw05_DeltaApplies.j1 kj2 l1 t443 t454 true) = some true := by rw [if_neg (show ¬ (false = true) by decide)] at H; exact H
                    clear H
                    have H := H1
                    clear H1
                    have H' := Aside0.mk H
                    clear H
                    obtain ⟨Ao57, co57, eo57⟩ := Kd.R_slice HO457.out
                    subst eo57
                    obtain ⟨Ao58, co58, eo58⟩ := Kd.V_slice HO460.out
                    subst eo58
                    go_wp2_with (first | (go_at_call 112; refine calls_of_args (args' := #[.slice Ao57 t454.length co57, .slice Ao58 t458.length co58]) (by rfl) ?_; (with_reducible refine (chartroomlaw05_same.calls kj2 _ _ t454 _ _ t458 false _ ?side1 ?side2 ?side3 ?side4 A33.out).mono ?_); (case side1 => repeat (first | exact (Kd.R_reads' HO457.out).2.2 | (with_reducible refine Kd.C_alloc ?_ _) | (with_reducible refine Kd.C_drewN ?_ _) | (with_reducible refine Kd.C_drew ?_))); (case side2 => exact (Kd.R_reads' HO457.out).2.1); (case side3 => repeat (first | exact (Kd.V_reads' HO460.out).2.2 | (with_reducible refine Kd.C_alloc ?_ _) | (with_reducible refine Kd.C_drewN ?_ _) | (with_reducible refine Kd.C_drew ?_))); (case side4 => exact (Kd.V_reads' HO460.out).2.1); rintro e w' ⟨rfl, ⟨nd, rfl⟩⟩))
                    go_meet
                    case rel => exact ⟨_, (true), (by first | rfl | (simp; done) | (simp [*]; done)), H', ⟨by have := HJ2.out; first | omega | exact Nat.le_refl _⟩, ⟨by (with_reducible repeat (first | apply Kd.R_alloc | apply Kd.R_drewN | apply Kd.R_drew)); exact HO445.out⟩, ⟨by (with_reducible repeat (first | apply Kd.R_alloc | apply Kd.R_drewN | apply Kd.R_drew)); exact HO457.out⟩, ⟨by repeat (first | (with_reducible first | exact HB.out | apply below_alloc | apply pw_below_drewN | apply below_drew1) | exact HB.out)⟩⟩
                · rw [if_neg c32] at H
                  have c32b0 : (t451 == t453) = false := beq_eq_false_iff_ne.mpr c32
                  have c32b1 : (t451 != t453) = true := bne_iff_ne.mpr c32
                  have H' := Aside0.mk H
                  clear H
                  go_wp2
                  go_meet
                  case rel => exact ⟨_, (true), (by first | rfl | (simp; done) | (simp [*]; done)), H', ⟨by have := HJ2.out; first | omega | exact Nat.le_refl _⟩, ⟨by (with_reducible repeat (first | apply Kd.R_alloc | apply Kd.R_drewN | apply Kd.R_drew)); exact HO445.out⟩, ⟨by (with_reducible repeat (first | apply Kd.R_alloc | apply Kd.R_drewN | apply Kd.R_drew)); exact HO457.out⟩, ⟨by repeat (first | (with_reducible first | exact HB.out | apply below_alloc | apply pw_below_drewN | apply below_drew1) | exact HB.out)⟩⟩
              · rw [if_neg c31] at H
                have c31b0 : (t450 == t452) = false := beq_eq_false_iff_ne.mpr c31
                have c31b1 : (t450 != t452) = true := bne_iff_ne.mpr c31
                have H' := Aside0.mk H
                clear H
                go_wp2
                go_meet
                case rel => exact ⟨_, (true), (by first | rfl | (simp; done) | (simp [*]; done)), H', ⟨by have := HJ2.out; first | omega | exact Nat.le_refl _⟩, ⟨by (with_reducible repeat (first | apply Kd.R_alloc | apply Kd.R_drewN | apply Kd.R_drew)); exact HO445.out⟩, ⟨by (with_reducible repeat (first | apply Kd.R_alloc | apply Kd.R_drewN | apply Kd.R_drew)); exact HO457.out⟩, ⟨by repeat (first | (with_reducible first | exact HB.out | apply below_alloc | apply pw_below_drewN | apply below_drew1) | exact HB.out)⟩⟩
            · rw [if_neg c30] at H
              have c30b0 : (t447 == t449) = false := beq_eq_false_iff_ne.mpr c30
              have c30b1 : (t447 != t449) = true := bne_iff_ne.mpr c30
              have H' := Aside0.mk H
              clear H
              go_wp2
              go_meet
              case rel => exact ⟨_, (true), (by first | rfl | (simp; done) | (simp [*]; done)), H', ⟨by have := HJ2.out; first | omega | exact Nat.le_refl _⟩, ⟨by (with_reducible repeat (first | apply Kd.R_alloc | apply Kd.R_drewN | apply Kd.R_drew)); exact HO445.out⟩, ⟨by (with_reducible repeat (first | apply Kd.R_alloc | apply Kd.R_drewN | apply Kd.R_drew)); exact HO457.out⟩, ⟨by repeat (first | (with_reducible first | exact HB.out | apply below_alloc | apply pw_below_drewN | apply below_drew1) | exact HB.out)⟩⟩
          · rw [if_neg c29] at H
            have c29b0 : (t446.toList == t448.toList) = false := beq_eq_false_iff_ne.mpr c29
            have c29b1 : (t446.toList != t448.toList) = true := bne_iff_ne.mpr c29
            (first | rw [c29b0] | (simp only [i64_w, i32_w]; rw [c29b0]) | skip)
            have H' := Aside0.mk H
            clear H
            go_wp2
            go_meet
            case rel => exact ⟨_, (true), (by first | rfl | (simp; done) | (simp [*]; done)), H', ⟨by have := HJ2.out; first | omega | exact Nat.le_refl _⟩, ⟨by (with_reducible repeat (first | apply Kd.R_alloc | apply Kd.R_drewN | apply Kd.R_drew)); exact HO445.out⟩, ⟨by (with_reducible repeat (first | apply Kd.R_alloc | apply Kd.R_drewN | apply Kd.R_drew)); exact HO457.out⟩, ⟨by repeat (first | (with_reducible first | exact HB.out | apply below_alloc | apply pw_below_drewN | apply below_drew1) | exact HB.out)⟩⟩
        case rest =>
          clear HC18
          try clear c1
          try clear c2
          try clear p2
          try clear c3
          try clear c4
          try clear c4b0
          try clear c4b1
          try clear c6
          try clear c10
          try clear c11
          try clear c17
          try clear c29
          try clear c29b0
          try clear c29b1
          try clear c30
          try clear c30b0
          try clear c30b1
          try clear c31
          try clear c31b0
          try clear c31b1
          try clear c32
          try clear c32b0
          try clear c32b1
          try clear c34
          try clear c35
          try clear c35b0
          try clear c35b1
          try clear c37
          try clear c38
          try clear c38b0
          try clear c38b1
          try clear p2
          obtain ⟨kq, x122_17, rfl, HA, HJ17, HO_5, HO_14, HB⟩ := hcut
          cases kq with
          | zero => exact absurd HA.out (by simp [chartroomlaw05_DeltaApplies.j1])
          | succ kj17 =>
            have H := HA.out
            clear HA
            simp only [chartroomlaw05_DeltaApplies.j1] at H
            by_cases c59 : x122_17 = true
            · subst c59
              have H1 : (some false) = some true := by rw [if_pos rfl] at H; exact H
              clear H
              have H := H1
              clear H1
              exact absurd H (by simp)
            · replace c59 := Bool.eq_false_iff.mpr c59
              subst c59
              have H1 : (chartroomlaw05_DeltaApplies.l0 kj17 l1 t443 t454 0) = some true := by rw [if_neg (show ¬ (false = true) by decide)] at H; exact H
              clear H
              have H := H1
              clear H1
              have H' := Aside0.mk H
              clear H
              go_wp2
              go_loopg [22] kj17 (fun kq v22 w' => ∃ (x14_3 : List (S153)) (x22_3 : Int), v22 = .int .i64 x22_3 ∧ Aside0 (chartroomlaw05_DeltaApplies.l0 kq l1 t443 x14_3 x22_3 = some true) ∧ Aside0 (kq ≤ kj17) ∧ Aside0 (Kd.R k226 226 w' w.heap.size (fun _ => True) (.slice Ao21 t443.length co21) t443) ∧ Aside0 (Kd.R k153 153 w' w.heap.size (fun _ => True) v456 x14_3) ∧ Aside0 (Below w.heap.size w w'))
              case atStart => exact ⟨(t454), (0), (by first | rfl | (simp; done) | (simp [*]; done)), H', ⟨Nat.le_refl _⟩, ⟨by (with_reducible repeat (first | apply Kd.R_alloc | apply Kd.R_drewN | apply Kd.R_drew)); exact HO_5.out⟩, ⟨by (with_reducible repeat (first | apply Kd.R_alloc | apply Kd.R_drewN | apply Kd.R_drew)); exact HO_14.out⟩, ⟨by repeat (first | (with_reducible first | exact HB.out | apply below_alloc | apply pw_below_drewN | apply below_drew1) | exact HB.out)⟩⟩
              case round =>
                clear H'
                try clear c1
                try clear c2
                try clear p2
                try clear c3
                try clear c4
                try clear c4b0
                try clear c4b1
                try clear c5
                try clear c6
                try clear c10
                try clear c11
                try clear c17
                try clear c29
                try clear c29b0
                try clear c29b1
                try clear c30
                try clear c30b0
                try clear c30b1
                try clear c31
                try clear c31b0
                try clear c31b1
                try clear c32
                try clear c32b0
                try clear c32b1
                try clear c34
                try clear c35
                try clear c35b0
                try clear c35b1
                try clear c37
                try clear c38
                try clear c38b0
                try clear c38b1
                try clear c59
                try clear p2
                obtain ⟨x14_3, x22_3, rfl, HA, HK3, HO_5, HO_14, HB⟩ := hrel
                cases gk with
                | zero => exact absurd HA.out (by simp [chartroomlaw05_DeltaApplies.l0])
                | succ k3 =>
                  have H := HA.out
                  clear HA
                  simp only [chartroomlaw05_DeltaApplies.l0] at H
                  by_cases c60 : x22_3 < (x14_3.length : Int)
                  · rw [if_pos c60] at H
                    have c60b0 : decide (x22_3 < (x14_3.length : Int)) = true := decide_eq_true c60
                    clear c60
                    by_cases c61 : 0 ≤ x22_3
                    · rw [if_pos c61] at H
                      have c61b0 : decide (0 ≤ x22_3) = true := decide_eq_true c61
                      clear c61
                      obtain ⟨y474, hy474⟩ : ∃ y_ : List (S153), y_ = (x14_3.set (x22_3 : Int).toNat (⟨0, 0, (⟨#[]⟩ : ByteArray)⟩ : S153)) := ⟨_, rfl⟩
                      replace H : (chartroomlaw05_DeltaApplies.l0 k3 l1 t443 y474 (wrap64 (x22_3 + 1))) = some true := by first | (rw [hy474]; with_reducible exact H) | (have H2_ := (Option.bind_some _ _).symm.trans H; rw [hy474]; with_reducible exact H2_) | (have H2_ := (Option.bind_some _ _).symm.trans H; with_reducible exact H2_) | with_reducible exact H | (rw [hy474]; exact H) | exact H
                      have Ny474 := Aside0.mk hy474
                      clear hy474
                      have H' := Aside0.mk H
                      clear H
                      obtain ⟨Ao63, co63, eo63⟩ := Kd.R_slice HO_14.out
                      subst eo63
                      have p62 : 0 ≤ (x22_3 : Int) := of_decide_eq_true (by first | (with_reducible assumption) | assumption)
                      have q62 : (x22_3 : Int) < ((x14_3.length : Int) : Int) := of_decide_eq_true (by first | (with_reducible assumption) | assumption)
                      obtain ⟨go62, co62, eo62, gb62, gl62, cl62, HG62⟩ := Kd.R_form HO_14.out (by omega)
                      (first | cases eo62 | (injection eo62 with ea_ en_ ec_; (first | subst ea_ | (injection ea_ with ea_; subst ea_)); subst ec_; clear en_))
                      have GB62 := Aside0.mk gb62
                      have GG62 := Aside0.mk HG62
                      clear gb62 gl62 HG62
                      obtain ⟨ce62, hcl62, hM62, hcc62, hfr62⟩ := Kd.R_elem HO_14.out z153 (x22_3 : Int) p62 q62
                      obtain rfl := k153_openM hM62
                      have hx62_0 : wr.cell? ⟨go62, (x22_3 : Int).toNat * 3, none⟩ = some (.int .u8 ((rd_T153 x14_3 x22_3).f0)) := hcc62 0 _ rfl
                      have hx62_1 : wr.cell? ⟨go62, (x22_3 : Int).toNat * 3 + 1, none⟩ = some (.int .i64 ((rd_T153 x14_3 x22_3).f1)) := hcc62 1 _ rfl
                      have hx62_2 : wr.cell? ⟨go62, (x22_3 : Int).toNat * 3 + 2, none⟩ = some (.string ((rd_T153 x14_3 x22_3).f2)) := hcc62 2 _ rfl
                      have hf62_0 : wr.frozen? ⟨go62, (x22_3 : Int).toNat * 3, none⟩ = false := hfr62 0
                      have hf62_1 : wr.frozen? ⟨go62, (x22_3 : Int).toNat * 3 + 1, none⟩ = false := hfr62 1
                      have hf62_2 : wr.frozen? ⟨go62, (x22_3 : Int).toNat * 3 + 2, none⟩ = false := hfr62 2
                      clear hcl62 hcc62 hfr62 hM62
                      replace p62 := eq_true p62
                      replace q62 := eq_true q62
                      have HX64 := Aside0.mk (show Kd.R k153 153 wr w.heap.size (fun _ => True) (.slice (some ⟨go62, 0, none⟩) x14_3.length co63) x14_3 from (by (with_reducible repeat (first | apply Kd.R_alloc | apply Kd.R_drewN | apply Kd.R_drew)); exact HO_14.out))
                      obtain ⟨ce64, hcl64, hM64, hcc64, hfr64⟩ := Kd.R_elem HX64.out z153 (x22_3 : Int) (of_decide_eq_true (by first | (with_reducible assumption) | assumption)) (by have h_ : (x22_3 : Int) < ((x14_3.length : Int) : Int) := of_decide_eq_true (by first | (with_reducible assumption) | assumption); first | exact h_ | (have e_ := (Kd.R_reads' HO_14.out).1; omega) | simpa using h_)
                      obtain rfl := k153_openM hM64
                      have HP64 := Kd.R_seg HX64.out (x22_3 : Int) (of_decide_eq_true (by first | (with_reducible assumption) | assumption)) (by have h_ : (x22_3 : Int) < ((x14_3.length : Int) : Int) := of_decide_eq_true (by first | (with_reducible assumption) | assumption); first | exact h_ | (have e_ := (Kd.R_reads' HO_14.out).1; omega) | simpa using h_) (seg := [.int .u8 0, .int .i64 0, .string (⟨#[]⟩ : ByteArray)]) (j := 0) hcl64 hcc64 (show 3 ≤ 3 from by decide) (x' := (⟨0, 0, (⟨#[]⟩ : ByteArray)⟩ : S153)) (k153_mkM _ _ _ (⟨0, 0, (⟨#[]⟩ : ByteArray)⟩ : S153) ) (fun _ hk => hk)
                      have hx64_0 := hcc64 0 _ rfl
                      (try simp only [show (k153).sz = 3 from rfl, Nat.mul_one, Nat.add_zero] at hx64_0)
                      have hf64_0 := hfr64 0
                      (try simp only [show (k153).sz = 3 from rfl, Nat.mul_one, Nat.add_zero] at hf64_0)
                      have hx64_1 := hcc64 1 _ rfl
                      (try simp only [show (k153).sz = 3 from rfl, Nat.mul_one, Nat.add_zero] at hx64_1)
                      have hf64_1 := hfr64 1
                      (try simp only [show (k153).sz = 3 from rfl, Nat.mul_one, Nat.add_zero] at hf64_1)
                      have hx64_2 := hcc64 2 _ rfl
                      (try simp only [show (k153).sz = 3 from rfl, Nat.mul_one, Nat.add_zero] at hx64_2)
                      have hf64_2 := hfr64 2
                      (try simp only [show (k153).sz = 3 from rfl, Nat.mul_one, Nat.add_zero] at hf64_2)
                      clear hcl64 hcc64 hfr64 hM64
                      go_wp2_with (first | ((with_reducible refine gate_store (t := 153) (p := 132) rfl ?_); refine store_event (t := 153) (p := 132) (v := ?vo_w65) (w1 := (((wr.setCell ⟨go62, (x22_3 : Int).toNat * 3, none⟩ (.int .u8 0)).setCell ⟨go62, (x22_3 : Int).toNat * 3 + 1, none⟩ (.int .i64 0)).setCell ⟨go62, (x22_3 : Int).toNat * 3 + 2, none⟩ (.string (⟨#[]⟩ : ByteArray)))) ?hg ?ho ?hn ?hr ?_; (case ho => rfl); (case hg => rfl); (case hn => rfl); (case hr => first | (go_simp; done) | (go_simp; rfl)); intro w65 hw; have hg : wr.grownBy w65 (some go62) := (by rw [hw]; exact HP64.2); have hp_ : Kd.R k153 153 w65 w.heap.size (fun _ => True) (.slice (some ⟨go62, 0, none⟩) x14_3.length co63) y474 := (by rw [hw, Ny474.out]; exact HP64.1); clear HP64; have n0_ := Aside0.mk (Kd.R_over' (v := (.slice (some ⟨go62, 0, none⟩) x14_3.length co63)) (by (with_reducible repeat (first | apply Kd.R_alloc | apply Kd.R_drewN | apply Kd.R_drew)); exact HO_5.out) (Kd.R_typed HO_14.out) (by decide) hg); have n1_ := Aside0.mk (hp_); have n2_ := Aside0.mk ((by rw [hw]; exact below_set (below_set (below_set (HB.out) GB62.out) GB62.out) GB62.out : Below w.heap.size w w65)); clear HO_5; clear HO_14; clear HB; have HO_5 := n0_; have HO_14 := n1_; have HB := n2_; clear n0_ n1_ n2_; clear hg hw hp_))
                      go_roundg k3
                      case measure => have := HJ2.out; have := HJ17.out; have := HK3.out; omega
                      case rel => exact ⟨(y474), (wrap64 (x22_3 + 1)), (by first | rfl | (simp; done) | (simp [*]; done)), H', ⟨by have := HJ2.out; have := HJ17.out; have := HK3.out; omega⟩, ⟨by (with_reducible repeat (first | apply Kd.R_alloc | apply Kd.R_drewN | apply Kd.R_drew)); exact HO_5.out⟩, ⟨by (with_reducible repeat (first | apply Kd.R_alloc | apply Kd.R_drewN | apply Kd.R_drew)); exact HO_14.out⟩, ⟨by repeat (first | (with_reducible first | exact HB.out | apply below_alloc | apply pw_below_drewN | apply below_drew1) | exact HB.out)⟩⟩
                    · rw [if_neg c61] at H
                      exact absurd H (by simp)
                  · rw [if_neg c60] at H
                    have c60b0 : decide (x22_3 < (x14_3.length : Int)) = false := decide_eq_false c60
                    clear c60
                    replace H := Option.bind_eq_some_iff.mp H
                    obtain ⟨t475, A660, H⟩ := H
                    replace H : (if t475 = true then ((chartroomlaw05_works.f k3).bind fun t476 => (some t476)) else (some false)) = some true := H
                    have A66 := Aside0.mk A660
                    clear A660
                    by_cases c67 : t475 = true
                    · subst c67
                      have H1 : ((chartroomlaw05_works.f k3).bind fun t476 => (some t476)) = some true := by rw [if_pos rfl] at H; exact H
                      clear H
                      have H := H1
                      clear H1
                      replace H := Option.bind_eq_some_iff.mp H
                      obtain ⟨t476, A680, H⟩ := H
                      replace H : (some t476) = some true := H
                      have A68 := Aside0.mk A680
                      clear A680
                      have hX_ := Aside0.mk (Option.some.inj H)
                      clear H
                      obtain ⟨Ao69, co69, eo69⟩ := Kd.R_slice HO_14.out
                      subst eo69
                      go_wp2_with (first | ((with_reducible refine gate_callee (f := 112) rfl ?_); refine goesL_ (some 135) rfl rfl Try.func112 (by kernel_rfl) rfl #[.slice A1 l1.length c1, .slice Ao21 t443.length co21] rfl (by (try simp only [List.map_toArray, List.map_cons, List.map_nil]); first | done | rfl | (simp only [List.length_drop, List.length_take]; rfl)) ?_; (with_reducible refine (chartroomlaw05_same.calls k3 _ _ l1 _ _ t443 true _ ?side1 ?side2 ?side3 ?side4 A66.out).mono ?_); (case side1 => repeat (first | exact (Kd.C_below HR1.out HB.out) | (with_reducible refine Kd.C_alloc ?_ _) | (with_reducible refine Kd.C_drewN ?_ _) | (with_reducible refine Kd.C_drew ?_))); (case side2 => exact HC1.out); (case side3 => repeat (first | exact (Kd.R_reads' HO_5.out).2.2 | (with_reducible refine Kd.C_alloc ?_ _) | (with_reducible refine Kd.C_drewN ?_ _) | (with_reducible refine Kd.C_drew ?_))); (case side4 => exact (Kd.R_reads' HO_5.out).2.1); rintro e w' ⟨rfl, ⟨nd, rfl⟩⟩; refine ⟨_, rfl, ?_⟩) | (go_at_call 102; refine calls_of_args (args' := #[]) (by rfl) ?_; (with_reducible refine (chartroomlaw05_works.calls k3  t476 _ A68.out).mono ?_); rintro e w70 ⟨rfl, hb⟩; have n0_ := Aside0.mk (Kd.R_below (by (with_reducible repeat (first | apply Kd.R_alloc | apply Kd.R_drewN | apply Kd.R_drew)); exact HO_5.out) hb); have n1_ := Aside0.mk (Kd.R_below (by (with_reducible repeat (first | apply Kd.R_alloc | apply Kd.R_drewN | apply Kd.R_drew)); exact HO_14.out) hb); have n2_ := Aside0.mk (below_step (by repeat (first | (with_reducible first | exact HB.out | apply below_alloc | apply pw_below_drewN | apply below_drew1) | exact HB.out)) hb); clear HO_5; clear HO_14; clear HB; have HO_5 := n0_; have HO_14 := n1_; have HB := n2_; clear n0_ n1_ n2_; (try clear hb); (try clear hb2); (try clear hk); (try clear hi)))
                      go_ret
                      exact ⟨by first | rfl | (rw [hX_.out] <;> rfl) | (simp [errW_none, errW_some] <;> rfl) | (simp [*, errW_none, errW_some] <;> rfl), by repeat (first | (with_reducible first | exact HB.out | apply below_alloc | apply pw_below_drewN | apply below_drew1) | exact HB.out)⟩
                    · replace c67 := Bool.eq_false_iff.mpr c67
                      subst c67
                      have H1 : (some false) = some true := by rw [if_neg (show ¬ (false = true) by decide)] at H; exact H
                      clear H
                      have H := H1
                      clear H1
                      exact absurd H (by simp)
end Go.Proofs.Ytoeabgeglgiobaa.P
