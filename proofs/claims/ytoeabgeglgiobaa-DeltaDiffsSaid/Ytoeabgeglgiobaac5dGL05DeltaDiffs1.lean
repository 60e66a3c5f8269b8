/- What functions of the given program do, each as a plain Lean function that its call meets: printed by a program of this session out of the translation, checked by Lean. Its conditions: those of each theorem. -/
import Derived.Test.Ytoeabgeglgiobaac5dP0
import Derived.Test.Ytoeabgeglgiobaac5dGdelta0
import Derived.Test.Ytoeabgeglgiobaac5dGdelta1
import Derived.Test.Ytoeabgeglgiobaac5dGlaw050
import Derived.Test.Ytoeabgeglgiobaac5dGlaw051
import Derived.Test.Ytoeabgeglgiobaac5dGref05n
import Derived.Test.Ytoeabgeglgiobaac5dHdeltaApply
import Derived.Test.Ytoeabgeglgiobaac5dHdeltaDiff
namespace Go.Proofs.Ytoeabgeglgiobaa.P
open Go.RowKit Go.Proofs.YtoeabgeglgiobaaW.PrintWords Go.Proofs.YtoeabgeglgiobaaW.PrintLast Go.Proofs.YtoeabgeglgiobaaW.PrintMore
attribute [local go_sem] max2_int min2_int max_two min_two max_three min_three max_four min_four   -- for this text's walks alone
set_option linter.unusedVariables false
set_option linter.unusedSimpArgs false
/-! ### chartroomlaw05_DeltaDiffs: function 18 -/
def chartroomlaw05_DeltaDiffs.j0 : Nat → ByteArray → ByteArray → Bool → Option (Bool)
  | 0, _, _, _ => none
  | k + 1, x0, x1, x19 => if x19 = true then ((chartroomlaw05_works.f k).bind fun t508 => (some t508)) else ((delta_Diff.f x0 x1).bind fun t509 => ((delta_Apply.f x0 t509).bind fun bt512 => ((delta_Normal.f k t509).bind fun bt514 => ((delta_Sizes.f k t509).bind fun bt518 => ((chartroomref05_Diff.f k x0 x1).bind fun t520 => ((chartroomlaw05_same.f k t509 t520).bind fun t523 => (if t523 = true then (if bt512.2 = 0 then (if bt512.1.toList = x1.toList then (if bt514.2 = 0 then ((chartroomlaw05_refs.f k t509).bind fun t524 => ((chartroomlaw05_same.f k bt514.1 t524).bind fun t527 => (if t527 = true then (if bt518.1 = (x0.size : Int) then (if bt518.2 = (x1.size : Int) then ((chartroomlaw05_works.f k).bind fun t528 => (some t528)) else (some false)) else (some false)) else (some false)))) else (some false)) else (some false)) else (some false)) else (some false))))))))
def chartroomlaw05_DeltaDiffs.f (k : Nat) (a0 : ByteArray) (a1 : ByteArray) : Option (Bool) := if (a0.size : Int) > 2000 then (chartroomlaw05_DeltaDiffs.j0 k a0 a1 true) else (chartroomlaw05_DeltaDiffs.j0 k a0 a1 (decide ((a1.size : Int) > 2000)))
set_option maxHeartbeats 8000000 in
set_option maxRecDepth 100000 in
theorem chartroomlaw05_DeltaDiffs.calls (k : Nat) (a0 : ByteArray) (a1 : ByteArray) (r : Bool) (w : World) (h : chartroomlaw05_DeltaDiffs.f k a0 a1 = some r) (hT_ : r = true := by first | rfl | assumption | exact Aside0.out (by assumption)) :
    Calls Try.prog 18 #[.string a0, .string a1] w fun e w' => e = .returned (.bool r) ∧ Below w.heap.size w w' := by
  subst hT_
  have HB := Aside0.mk (Below.refl w.heap.size w)
  have H : (if (a0.size : Int) > 2000 then (chartroomlaw05_DeltaDiffs.j0 k a0 a1 true) else (chartroomlaw05_DeltaDiffs.j0 k a0 a1 (decide ((a1.size : Int) > 2000)))) = some true := h
  clear h
  have HC3 := Aside0.mk H
  clear H
  go_enter Try.func18, Try.ntmps18
  go_upto_region 1 with (fail)
  go_cut [19] (fun v19 wc => ∃ (kq : Nat) (x19_2 : Bool), v19 = .bool x19_2 ∧ Aside0 (chartroomlaw05_DeltaDiffs.j0 kq a0 a1 x19_2 = some true) ∧ Aside0 (kq ≤ k) ∧ Aside0 (Below w.heap.size w wc))
  case first =>
    have H := HC3.out
    clear HC3
    by_cases c4 : (a0.size : Int) > 2000
    · rw [if_pos c4] at H
      have c4b0 : decide (2000 < (a0.size : Int)) = true := decide_eq_true c4
      have c4b1 : decide (2000 < a0.size) = true := decide_eq_true (by omega)
      clear c4
      (first | rw [c4b0] | (simp only [i64_w, i32_w]; rw [c4b0]) | skip)
      have H' := Aside0.mk H
      clear H
      go_wp2
      go_meet
      case rel => exact ⟨_, (true), (by first | rfl | (simp; done) | (simp [*]; done)), H', ⟨by first | omega | exact Nat.le_refl _⟩, ⟨by repeat (first | (with_reducible first | exact HB.out | apply below_alloc | apply pw_below_drewN | apply below_drew1) | exact HB.out)⟩⟩
    · rw [if_neg c4] at H
      have c4b0 : decide (2000 < (a0.size : Int)) = false := decide_eq_false c4
      have c4b1 : decide (2000 < a0.size) = false := decide_eq_false (by omega)
      clear c4
      (first | rw [c4b0] | (simp only [i64_w, i32_w]; rw [c4b0]) | skip)
      have H' := Aside0.mk H
      clear H
      go_wp2
      go_meet
      case rel => exact ⟨_, (decide ((a1.size : Int) > 2000)), (by first | rfl | (simp; done) | (simp [*]; done)), H', ⟨by first | omega | exact Nat.le_refl _⟩, ⟨by repeat (first | (with_reducible first | exact HB.out | apply below_alloc | apply pw_below_drewN | apply below_drew1) | exact HB.out)⟩⟩
  case rest =>
    clear HC3
    try clear c1
    try clear p2
    try clear c4
    try clear c4b0
    try clear c4b1
    obtain ⟨kq, x19_2, rfl, HA, HJ2, HB⟩ := hcut
    cases kq with
    | zero => exact absurd HA.out (by simp [chartroomlaw05_DeltaDiffs.j0])
    | succ kj2 =>
      have H := HA.out
      clear HA
      simp only [chartroomlaw05_DeltaDiffs.j0] at H
      by_cases c5 : x19_2 = true
      · subst c5
        have H1 : ((chartroomlaw05_works.f kj2).bind fun t508 => (some t508)) = some true := by rw [if_pos rfl] at H; exact H
        clear H
        have H := H1
        clear H1
        replace H := Option.bind_eq_some_iff.mp H
        obtain ⟨t508, A60, H⟩ := H
        replace H : (some t508) = some true := H
        have A6 := Aside0.mk A60
        clear A60
        have hX_ := Aside0.mk (Option.some.inj H)
        clear H
        go_wp2_with (first | ((with_reducible refine gate_callee (f := 102) rfl ?_); refine goesL_ (some 20) rfl rfl Try.func102 (by kernel_rfl) rfl #[] rfl (by (try simp only [List.map_toArray, List.map_cons, List.map_nil]); first | done | rfl | (simp only [List.length_drop, List.length_take]; rfl)) ?_; (with_reducible refine (chartroomlaw05_works.calls kj2  t508 _ A6.out).mono ?_); rintro e w7 ⟨rfl, hb⟩; refine ⟨_, rfl, ?_⟩; have n0_ := Aside0.mk (below_step (by repeat (first | (with_reducible first | exact HB.out | apply below_alloc | apply pw_below_drewN | apply below_drew1) | exact HB.out)) hb); clear HB; have HB := n0_; clear n0_; (try clear hb); (try clear hb2); (try clear hk); (try clear hi)))
        go_ret
        exact ⟨by first | rfl | (rw [hX_.out] <;> rfl) | (simp [errW_none, errW_some] <;> rfl) | (simp [*, errW_none, errW_some] <;> rfl), by repeat (first | (with_reducible first | exact HB.out | apply below_alloc | apply pw_below_drewN | apply below_drew1) | exact HB.out)⟩
      · replace c5 := Bool.eq_false_iff.mpr c5
        subst c5
        have H1 : ((delta_Diff.f a0 a1).bind fun t509 => ((delta_Apply.f a0 t509).bind fun bt512 => ((delta_Normal.f kj2 t509).bind fun bt514 => ((delta_Sizes.f kj2 t509).bind fun bt518 => ((chartroomref05_Diff.f kj2 a0 a1).bind fun t520 => ((chartroomlaw05_same.f kj2 t509 t520).bind fun t523 => (if t523 = true then (if bt512.2 = 0 then (if bt512.1.toList = a1.toList then (if bt514.2 = 0 then ((chartroomlaw05_refs.f kj2 t509).bind fun t524 => ((chartroomlaw05_same.f kj2 bt514.1 t524).bind fun t527 => (if t527 = true then (if bt518.1 = (a0.size : Int) then (if bt518.2 = (a1.size : Int) then ((chartroomlaw05_works.f kj2).bind fun t528 => (some t528)) else (some false)) else (some false)) else (some false)))) else (some false)) else (some false)) else (some false)) else (some false)))))))) = some true := by rw [if_neg (show ¬ (false = true) by decide)] at H; exact H
        clear H
        have H := H1
        clear H1
        replace H := Option.bind_eq_some_iff.mp H
        obtain ⟨t509, A80, H⟩ := H
        replace H : ((delta_Apply.f a0 t509).bind fun bt512 => ((delta_Normal.f kj2 t509).bind fun bt514 => ((delta_Sizes.f kj2 t509).bind fun bt518 => ((chartroomref05_Diff.f kj2 a0 a1).bind fun t520 => ((chartroomlaw05_same.f kj2 t509 t520).bind fun t523 => (if t523 = true then (if bt512.2 = 0 then (if bt512.1.toList = a1.toList then (if bt514.2 = 0 then ((chartroomlaw05_refs.f kj2 t509).bind fun t524 => ((chartroomlaw05_same.f kj2 bt514.1 t524).bind fun t527 => (if t527 = true then (if bt518.1 = (a0.size : Int) then (if bt518.2 = (a1.size : Int) then ((chartroomlaw05_works.f kj2).bind fun t528 => (some t528)) else (some false)) else (some false)) else (some false)))) else (some false)) else (some false)) else (some false)) else (some false))))))) = some true := H
        have A8 := Aside0.mk A80
        clear A80
        replace H := Option.bind_eq_some_iff.mp H
        obtain ⟨⟨t512, t513⟩, A90, H⟩ := H
        replace H : ((delta_Normal.f kj2 t509).bind fun bt514 => ((delta_Sizes.f kj2 t509).bind fun bt518 => ((chartroomref05_Diff.f kj2 a0 a1).bind fun t520 => ((chartroomlaw05_same.f kj2 t509 t520).bind fun t523 => (if t523 = true then (if t513 = 0 then (if t512.toList = a1.toList then (if bt514.2 = 0 then ((chartroomlaw05_refs.f kj2 t509).bind fun t524 => ((chartroomlaw05_same.f kj2 bt514.1 t524).bind fun t527 => (if t527 = true then (if bt518.1 = (a0.size : Int) then (if bt518.2 = (a1.size : Int) then ((chartroomlaw05_works.f kj2).bind fun t528 => (some t528)) else (some false)) else (some false)) else (some false)))) else (some false)) else (some false)) else (some false)) else (some false)))))) = some true := H
        have A9 := Aside0.mk A90
        clear A90
        replace H := Option.bind_eq_some_iff.mp H
        obtain ⟨⟨t514, t515⟩, A100, H⟩ := H
        replace H : ((delta_Sizes.f kj2 t509).bind fun bt518 => ((chartroomref05_Diff.f kj2 a0 a1).bind fun t520 => ((chartroomlaw05_same.f kj2 t509 t520).bind fun t523 => (if t523 = true then (if t513 = 0 then (if t512.toList = a1.toList then (if t515 = 0 then ((chartroomlaw05_refs.f kj2 t509).bind fun t524 => ((chartroomlaw05_same.f kj2 t514 t524).bind fun t527 => (if t527 = true then (if bt518.1 = (a0.size : Int) then (if bt518.2 = (a1.size : Int) then ((chartroomlaw05_works.f kj2).bind fun t528 => (some t528)) else (some false)) else (some false)) else (some false)))) else (some false)) else (some false)) else (some false)) else (some false))))) = some true := H
        have A10 := Aside0.mk A100
        clear A100
        replace H := Option.bind_eq_some_iff.mp H
        obtain ⟨⟨t518, t519⟩, A110, H⟩ := H
        replace H : ((chartroomref05_Diff.f kj2 a0 a1).bind fun t520 => ((chartroomlaw05_same.f kj2 t509 t520).bind fun t523 => (if t523 = true then (if t513 = 0 then (if t512.toList = a1.toList then (if t515 = 0 then ((chartroomlaw05_refs.f kj2 t509).bind fun t524 => ((chartroomlaw05_same.f kj2 t514 t524).bind fun t527 => (if t527 = true then (if t518 = (a0.size : Int) then (if t519 = (a1.size : Int) then ((chartroomlaw05_works.f kj2).bind fun t528 => (some t528)) else (some false)) else (some false)) else (some false)))) else (some false)) else (some false)) else (some false)) else (some false)))) = some true := H
        have A11 := Aside0.mk A110
        clear A110
        replace H := Option.bind_eq_some_iff.mp H
        obtain ⟨t520, A120, H⟩ := H
        replace H : ((chartroomlaw05_same.f kj2 t509 t520).bind fun t523 => (if t523 = true then (if t513 = 0 then (if t512.toList = a1.toList then (if t515 = 0 then ((chartroomlaw05_refs.f kj2 t509).bind fun t524 => ((chartroomlaw05_same.f kj2 t514 t524).bind fun t527 => (if t527 = true then (if t518 = (a0.size : Int) then (if t519 = (a1.size : Int) then ((chartroomlaw05_works.f kj2).bind fun t528 => (some t528)) else (some false)) else (some false)) else (some false)))) else (some false)) else (some false)) else (some false)) else (some false))) = some true := H
        have A12 := Aside0.mk A120
        clear A120
        replace H := Option.bind_eq_some_iff.mp H
        obtain ⟨t523, A130, H⟩ := H
        replace H : (if t523 = true then (if t513 = 0 then (if t512.toList = a1.toList then (if t515 = 0 then ((chartroomlaw05_refs.f kj2 t509).bind fun t524 => ((chartroomlaw05_same.f kj2 t514 t524).bind fun t527 => (if t527 = true then (if t518 = (a0.size : Int) then (if t519 = (a1.size : Int) then ((chartroomlaw05_works.f kj2).bind fun t528 => (some t528)) else (some false)) else (some false)) else (some false)))) else (some false)) else (some false)) else (some false)) else (some false)) = some true := H
        have A13 := Aside0.mk A130
        clear A130
        by_cases c14 : t523 = true
        · subst c14
          have H1 : (if t513 = 0 then (if t512.toList = a1.toList then (if t515 = 0 then ((chartroomlaw05_refs.f kj2 t509).bind fun t524 => ((chartroomlaw05_same.f kj2 t514 t524).bind fun t527 => (if t527 = true then (if t518 = (a0.size : Int) then (if t519 = (a1.size : Int) then ((chartroomlaw05_works.f kj2).bind fun t528 => (some t528)) else (some false)) else (some false)) else (some false)))) else (some false)) else (some false)) else (some false)) = some true := by rw [if_pos rfl] at H; exact H
          clear H
          have H := H1
          clear H1
          by_cases c15 : t513 = 0
          · rw [if_pos c15] at H
            have c15b0 : (t513 == 0) = true := beq_iff_eq.mpr c15
            have c15b1 : (t513 != 0) = false := bne_eq_false_iff_eq.mpr c15
            clear c15
            by_cases c16 : t512.toList = a1.toList
            · rw [if_pos c16] at H
              have c16b0 : (t512.toList == a1.toList) = true := beq_iff_eq.mpr c16
              have c16b1 : (t512.toList != a1.toList) = false := bne_eq_false_iff_eq.mpr c16
              clear c16
              by_cases c17 : t515 = 0
              · rw [if_pos c17] at H
                have c17b0 : (t515 == 0) = true := beq_iff_eq.mpr c17
                have c17b1 : (t515 != 0) = false := bne_eq_false_iff_eq.mpr c17
                clear c17
                replace H := Option.bind_eq_some_iff.mp H
                obtain ⟨t524, A180, H⟩ := H
                replace H : ((chartroomlaw05_same.f kj2 t514 t524).bind fun t527 => (if t527 = true then (if t518 = (a0.size : Int) then (if t519 = (a1.size : Int) then ((chartroomlaw05_works.f kj2).bind fun t528 => (some t528)) else (some false)) else (some false)) else (some false))) = some true := H
                have A18 := Aside0.mk A180
                clear A180
                replace H := Option.bind_eq_some_iff.mp H
                obtain ⟨t527, A190, H⟩ := H
                replace H : (if t527 = true then (if t518 = (a0.size : Int) then (if t519 = (a1.size : Int) then ((chartroomlaw05_works.f kj2).bind fun t528 => (some t528)) else (some false)) else (some false)) else (some false)) = some true := H
                have A19 := Aside0.mk A190
                clear A190
                by_cases c20 : t527 = true
                · subst c20
                  have H1 : (if t518 = (a0.size : Int) then (if t519 = (a1.size : Int) then ((chartroomlaw05_works.f kj2).bind fun t528 => (some t528)) else (some false)) else (some false)) = some true := by rw [if_pos rfl] at H; exact H
                  clear H
                  have H := H1
                  clear H1
                  by_cases c21 : t518 = (a0.size : Int)
                  · rw [if_pos c21] at H
                    have c21b0 : (t518 == (a0.size : Int)) = true := beq_iff_eq.mpr c21
                    have c21b1 : (t518 != (a0.size : Int)) = false := bne_eq_false_iff_eq.mpr c21
                    clear c21
                    by_cases c22 : t519 = (a1.size : Int)
                    · rw [if_pos c22] at H
                      have c22b0 : (t519 == (a1.size : Int)) = true := beq_iff_eq.mpr c22
                      have c22b1 : (t519 != (a1.size : Int)) = false := bne_eq_false_iff_eq.mpr c22
                      clear c22
                      replace H := Option.bind_eq_some_iff.mp H
                      obtain ⟨t528, A230, H⟩ := H
                      replace H : (some t528) = some true := H
                      have A23 := Aside0.mk A230
                      clear A230
                      have hX_ := Aside0.mk (Option.some.inj H)
                      clear H
                      go_wp2_with (first | ((with_reducible refine gate_callee (f := 115) rfl ?_); refine goesL_ (some 23) rfl rfl Try.func115 (by kernel_rfl) rfl #[.string a0, .string a1] rfl (by (try simp only [List.map_toArray, List.map_cons, List.map_nil]); first | done | rfl | (simp only [List.length_drop, List.length_take]; rfl)) ?_; (with_reducible refine (delta_Diff.calls a0 a1 t509 _ A8.out).mono ?_); rintro e w24 ⟨v510, rfl, ho0, hb⟩; refine ⟨_, rfl, ?_⟩; have n0_ := Aside0.mk (Kd.R_lower ho0 (below_size (by repeat (first | (with_reducible first | exact HB.out | apply below_alloc | apply pw_below_drewN | apply below_drew1) | exact HB.out)))); have n1_ := Aside0.mk (below_step (by repeat (first | (with_reducible first | exact HB.out | apply below_alloc | apply pw_below_drewN | apply below_drew1) | exact HB.out)) hb); clear HB; have HO511 := n0_; have HB := n1_; clear n0_ n1_; (try clear hb); (try clear hb2); (try clear hk); (try clear hi); (try clear ho0); obtain ⟨Ao25, co25, eo25⟩ := Kd.R_slice HO511.out; subst eo25) | ((with_reducible refine gate_callee (f := 104) rfl ?_); refine goesL_ (some 27) rfl rfl Try.func104 (by kernel_rfl) rfl #[.string a0, .slice Ao25 t509.length co25] rfl (by (try simp only [List.map_toArray, List.map_cons, List.map_nil]); first | done | rfl | (simp only [List.length_drop, List.length_take]; rfl)) ?_; (with_reducible refine (delta_Apply.calls a0 _ _ t509 t512 t513 _ ?side1 ?side2 A9.out).mono ?_); (case side1 => repeat (first | exact (Kd.R_reads' HO511.out).2.2 | (with_reducible refine Kd.C_alloc ?_ _) | (with_reducible refine Kd.C_drewN ?_ _) | (with_reducible refine Kd.C_drew ?_))); (case side2 => exact (Kd.R_reads' HO511.out).2.1); rintro e w26 ⟨rfl, hb⟩; refine ⟨_, rfl, ?_⟩; have n0_ := Aside0.mk (Kd.R_below (by (with_reducible repeat (first | apply Kd.R_alloc | apply Kd.R_drewN | apply Kd.R_drew)); exact HO511.out) hb); have n1_ := Aside0.mk (below_step (by repeat (first | (with_reducible first | exact HB.out | apply below_alloc | apply pw_below_drewN | apply below_drew1) | exact HB.out)) hb); clear HO511; clear HB; have HO511 := n0_; have HB := n1_; clear n0_ n1_; (try clear hb); (try clear hb2); (try clear hk); (try clear hi)) | ((with_reducible refine gate_callee (f := 108) rfl ?_); refine goesL_ (some 32) rfl rfl Try.func108 (by kernel_rfl) rfl #[.slice Ao25 t509.length co25] rfl (by (try simp only [List.map_toArray, List.map_cons, List.map_nil]); first | done | rfl | (simp only [List.length_drop, List.length_take]; rfl)) ?_; (with_reducible refine (delta_Normal.calls kj2 _ _ t509 t514 t515 _ ?side1 ?side2 A10.out).mono ?_); (case side1 => repeat (first | exact (Kd.R_reads' HO511.out).2.2 | (with_reducible refine Kd.C_alloc ?_ _) | (with_reducible refine Kd.C_drewN ?_ _) | (with_reducible refine Kd.C_drew ?_))); (case side2 => exact (Kd.R_reads' HO511.out).2.1); rintro e w27 ⟨v516, rfl, ho0, hb⟩; refine ⟨_, rfl, ?_⟩; have n0_ := Aside0.mk (Kd.R_elder' (by (with_reducible repeat (first | apply Kd.R_alloc | apply Kd.R_drewN | apply Kd.R_drew)); exact HO511.out) (Kd.R_base ho0) hb); have n1_ := Aside0.mk (Kd.R_lower (Kd.R_new' ho0 (Kd.R_lt (by (with_reducible repeat (first | apply Kd.R_alloc | apply Kd.R_drewN | apply Kd.R_drew)); exact HO511.out))) (below_size (by repeat (first | (with_reducible first | exact HB.out | apply below_alloc | apply pw_below_drewN | apply below_drew1) | exact HB.out)))); have n2_ := Aside0.mk (below_step (by repeat (first | (with_reducible first | exact HB.out | apply below_alloc | apply pw_below_drewN | apply below_drew1) | exact HB.out)) hb); clear HO511; clear HB; have HO511 := n0_; have HO517 := n1_; have HB := n2_; clear n0_ n1_ n2_; (try clear hb); (try clear hb2); (try clear hk); (try clear hi); (try clear ho0)) | ((with_reducible refine gate_callee (f := 106) rfl ?_); refine goesL_ (some 37) rfl rfl Try.func106 (by kernel_rfl) rfl #[.slice Ao25 t509.length co25] rfl (by (try simp only [List.map_toArray, List.map_cons, List.map_nil]); first | done | rfl | (simp only [List.length_drop, List.length_take]; rfl)) ?_; (with_reducible refine (delta_Sizes.calls kj2 _ _ t509 t518 t519 _ ?side1 ?side2 A11.out).mono ?_); (case side1 => repeat (first | exact (Kd.R_reads' HO511.out).2.2 | (with_reducible refine Kd.C_alloc ?_ _) | (with_reducible refine Kd.C_drewN ?_ _) | (with_reducible refine Kd.C_drew ?_))); (case side2 => exact (Kd.R_reads' HO511.out).2.1); rintro e w28 ⟨rfl, hb⟩; refine ⟨_, rfl, ?_⟩; have n0_ := Aside0.mk (Kd.R_below (by (with_reducible repeat (first | apply Kd.R_alloc | apply Kd.R_drewN | apply Kd.R_drew)); exact HO511.out) hb); have n1_ := Aside0.mk (Kd.R_below (by (with_reducible repeat (first | apply Kd.R_alloc | apply Kd.R_drewN | apply Kd.R_drew)); exact HO517.out) hb); have n2_ := Aside0.mk (below_step (by repeat (first | (with_reducible first | exact HB.out | apply below_alloc | apply pw_below_drewN | apply below_drew1) | exact HB.out)) hb); clear HO511; clear HO517; clear HB; have HO511 := n0_; have HO517 := n1_; have HB := n2_; clear n0_ n1_ n2_; (try clear hb); (try clear hb2); (try clear hk); (try clear hi)) | ((with_reducible refine gate_callee (f := 116) rfl ?_); refine goesL_ (some 43) rfl rfl Try.func116 (by kernel_rfl) rfl #[.string a0, .string a1] rfl (by (try simp only [List.map_toArray, List.map_cons, List.map_nil]); first | done | rfl | (simp only [List.length_drop, List.length_take]; rfl)) ?_; (with_reducible refine (chartroomref05_Diff.calls kj2 a0 a1 t520 _ A12.out).mono ?_); rintro e w29 ⟨v521, rfl, ho0, hb⟩; refine ⟨_, rfl, ?_⟩; have n0_ := Aside0.mk (Kd.R_below (by (with_reducible repeat (first | apply Kd.R_alloc | apply Kd.R_drewN | apply Kd.R_drew)); exact HO511.out) hb); have n1_ := Aside0.mk (Kd.R_below (by (with_reducible repeat (first | apply Kd.R_alloc | apply Kd.R_drewN | apply Kd.R_drew)); exact HO517.out) hb); have n2_ := Aside0.mk (Kd.V_lower (Kd.V_mono (ok' := fun k_ => some k_ ≠ (.slice Ao25 t509.length co25 : Value).ownBlock ∧ some k_ ≠ (v516 : Value).ownBlock) ho0 (fun k_ hk_ => ⟨(Kd.fresh' (Kd.R_lt (by (with_reducible repeat (first | apply Kd.R_alloc | apply Kd.R_drewN | apply Kd.R_drew)); exact HO511.out)) k_ hk_), (Kd.fresh' (Kd.R_lt (by (with_reducible repeat (first | apply Kd.R_alloc | apply Kd.R_drewN | apply Kd.R_drew)); exact HO517.out)) k_ hk_)⟩)) (below_size (by repeat (first | (with_reducible first | exact HB.out | apply below_alloc | apply pw_below_drewN | apply below_drew1) | exact HB.out)))); have n3_ := Aside0.mk (below_step (by repeat (first | (with_reducible first | exact HB.out | apply below_alloc | apply pw_below_drewN | apply below_drew1) | exact HB.out)) hb); clear HO511; clear HO517; clear HB; have HO511 := n0_; have HO517 := n1_; have HO522 := n2_; have HB := n3_; clear n0_ n1_ n2_ n3_; (try clear hb); (try clear hb2); (try clear hk); (try clear hi); (try clear ho0); obtain ⟨Ao30, co30, eo30⟩ := Kd.V_slice HO522.out; subst eo30) | ((with_reducible refine gate_callee (f := 112) rfl ?_); refine goesL_ (some 44) rfl rfl Try.func112 (by kernel_rfl) rfl #[.slice Ao25 t509.length co25, .slice Ao30 t520.length co30] rfl (by (try simp only [List.map_toArray, List.map_cons, List.map_nil]); first | done | rfl | (simp only [List.length_drop, List.length_take]; rfl)) ?_; (with_reducible refine (chartroomlaw05_same.calls kj2 _ _ t509 _ _ t520 true _ ?side1 ?side2 ?side3 ?side4 A13.out).mono ?_); (case side1 => repeat (first | exact (Kd.R_reads' HO511.out).2.2 | (with_reducible refine Kd.C_alloc ?_ _) | (with_reducible refine Kd.C_drewN ?_ _) | (with_reducible refine Kd.C_drew ?_))); (case side2 => exact (Kd.R_reads' HO511.out).2.1); (case side3 => repeat (first | exact (Kd.V_reads' HO522.out).2.2 | (with_reducible refine Kd.C_alloc ?_ _) | (with_reducible refine Kd.C_drewN ?_ _) | (with_reducible refine Kd.C_drew ?_))); (case side4 => exact (Kd.V_reads' HO522.out).2.1); rintro e w' ⟨rfl, ⟨nd, rfl⟩⟩; refine ⟨_, rfl, ?_⟩) | (go_at_call 103; refine calls_of_args (args' := #[.slice Ao25 t509.length co25]) (by rfl) ?_; (with_reducible refine (chartroomlaw05_refs.calls kj2 _ _ t509 t524 _ ?side1 ?side2 A18.out).mono ?_); (case side1 => repeat (first | exact (Kd.R_reads' HO511.out).2.2 | (with_reducible refine Kd.C_alloc ?_ _) | (with_reducible refine Kd.C_drewN ?_ _) | (with_reducible refine Kd.C_drew ?_))); (case side2 => exact (Kd.R_reads' HO511.out).2.1); rintro e w31 ⟨v525, rfl, ho0, hb⟩; have n0_ := Aside0.mk (Kd.R_below (by (with_reducible repeat (first | apply Kd.R_alloc | apply Kd.R_drewN | apply Kd.R_drew)); exact HO511.out) hb); have n1_ := Aside0.mk (Kd.R_below (by (with_reducible repeat (first | apply Kd.R_alloc | apply Kd.R_drewN | apply Kd.R_drew)); exact HO517.out) hb); have n2_ := Aside0.mk (Kd.V_elder' (by (with_reducible repeat (first | apply Kd.V_alloc | apply Kd.V_drewN | apply Kd.V_drew)); exact HO522.out) (Kd.R_base ho0) hb); have n3_ := Aside0.mk (Kd.R_lower ho0 (below_size (by repeat (first | (with_reducible first | exact HB.out | apply below_alloc | apply pw_below_drewN | apply below_drew1) | exact HB.out)))); have n4_ := Aside0.mk (below_step (by repeat (first | (with_reducible first | exact HB.out | apply below_alloc | apply pw_below_drewN | apply below_drew1) | exact HB.out)) hb); clear HO511; clear HO517; clear HO522; clear HB; have HO511 := n0_; have HO517 := n1_; have HO522 := n2_; have HO526 := n3_; have HB := n4_; clear n0_ n1_ n2_ n3_ n4_; (try clear hb); (try clear hb2); (try clear hk); (try clear hi); (try clear ho0); obtain ⟨Ao32, co32, eo32⟩ := Kd.R_slice HO517.out; subst eo32; obtain ⟨Ao33, co33, eo33⟩ := Kd.R_slice HO526.out; subst eo33) | (go_at_call 112; refine calls_of_args (args' := #[.slice Ao32 t514.length co32, .slice Ao33 t524.length co33]) (by rfl) ?_; (with_reducible refine (chartroomlaw05_same.calls kj2 _ _ t514 _ _ t524 true _ ?side1 ?side2 ?side3 ?side4 A19.out).mono ?_); (case side1 => repeat (first | exact (Kd.R_reads' HO517.out).2.2 | (with_reducible refine Kd.C_alloc ?_ _) | (with_reducible refine Kd.C_drewN ?_ _) | (with_reducible refine Kd.C_drew ?_))); (case side2 => exact (Kd.R_reads' HO517.out).2.1); (case side3 => repeat (first | exact (Kd.R_reads' HO526.out).2.2 | (with_reducible refine Kd.C_alloc ?_ _) | (with_reducible refine Kd.C_drewN ?_ _) | (with_reducible refine Kd.C_drew ?_))); (case side4 => exact (Kd.R_reads' HO526.out).2.1); rintro e w' ⟨rfl, ⟨nd, rfl⟩⟩) | (go_at_call 102; refine calls_of_args (args' := #[]) (by rfl) ?_; (with_reducible refine (chartroomlaw05_works.calls kj2  t528 _ A23.out).mono ?_); rintro e w34 ⟨rfl, hb⟩; have n0_ := Aside0.mk (Kd.R_below (by (with_reducible repeat (first | apply Kd.R_alloc | apply Kd.R_drewN | apply Kd.R_drew)); exact HO511.out) hb); have n1_ := Aside0.mk (Kd.R_below (by (with_reducible repeat (first | apply Kd.R_alloc | apply Kd.R_drewN | apply Kd.R_drew)); exact HO517.out) hb); have n2_ := Aside0.mk (Kd.V_below (by (with_reducible repeat (first | apply Kd.V_alloc | apply Kd.V_drewN | apply Kd.V_drew)); exact HO522.out) hb); have n3_ := Aside0.mk (Kd.R_below (by (with_reducible repeat (first | apply Kd.R_alloc | apply Kd.R_drewN | apply Kd.R_drew)); exact HO526.out) hb); have n4_ := Aside0.mk (below_step (by repeat (first | (with_reducible first | exact HB.out | apply below_alloc | apply pw_below_drewN | apply below_drew1) | exact HB.out)) hb); clear HO511; clear HO517; clear HO522; clear HO526; clear HB; have HO511 := n0_; have HO517 := n1_; have HO522 := n2_; have HO526 := n3_; have HB := n4_; clear n0_ n1_ n2_ n3_ n4_; (try clear hb); (try clear hb2); (try clear hk); (try clear hi)))
                      go_ret
                      exact ⟨by first | rfl | (rw [hX_.out] <;> rfl) | (simp [errW_none, errW_some] <;> rfl) | (simp [*, errW_none, errW_some] <;> rfl), by repeat (first | (with_reducible first | exact HB.out | apply below_alloc | apply pw_below_drewN | apply below_drew1) | exact HB.out)⟩
                    · rw [if_neg c22] at H
                      have c22b0 : (t519 == (a1.size : Int)) = false := beq_eq_false_iff_ne.mpr c22
                      have c22b1 : (t519 != (a1.size : Int)) = true := bne_iff_ne.mpr c22
                      exact absurd H (by simp)
                  · rw [if_neg c21] at H
                    have c21b0 : (t518 == (a0.size : Int)) = false := beq_eq_false_iff_ne.mpr c21
                    have c21b1 : (t518 != (a0.size : Int)) = true := bne_iff_ne.mpr c21
                    exact absurd H (by simp)
                · replace c20 := Bool.eq_false_iff.mpr c20
                  subst c20
                  have H1 : (some false) = some true := by rw [if_neg (show ¬ (false = true) by decide)] at H; exact H
                  clear H
                  have H := H1
                  clear H1
                  exact absurd H (by simp)
              · rw [if_neg c17] at H
                have c17b0 : (t515 == 0) = false := beq_eq_false_iff_ne.mpr c17
                have c17b1 : (t515 != 0) = true := bne_iff_ne.mpr c17
                exact absurd H (by simp)
            · rw [if_neg c16] at H
              have c16b0 : (t512.toList == a1.toList) = false := beq_eq_false_iff_ne.mpr c16
              have c16b1 : (t512.toList != a1.toList) = true := bne_iff_ne.mpr c16
              exact absurd H (by simp)
          · rw [if_neg c15] at H
            have c15b0 : (t513 == 0) = false := beq_eq_false_iff_ne.mpr c15
            have c15b1 : (t513 != 0) = true := bne_iff_ne.mpr c15
            exact absurd H (by simp)
        · replace c14 := Bool.eq_false_iff.mpr c14
          subst c14
          have H1 : (some false) = some true := by rw [if_neg (show ¬ (false = true) by decide)] at H; exact H
          clear H
          have H := H1
          clear H1
          exact absurd H (by simp)
/-- THE ONE PURE STATEMENT of chartroomlaw05_DeltaDiffs: yours. -/
def chartroomlaw05_DeltaDiffs.Pure : Prop := ∀ (a0 : ByteArray) (a1 : ByteArray), a0.size ≤ 140737488351232 → a1.size ≤ 140737488351232 → ∃ k, chartroomlaw05_DeltaDiffs.f k a0 a1 = some true
theorem chartroomlaw05_DeltaDiffs.walk (P : chartroomlaw05_DeltaDiffs.Pure) (a0 : ByteArray) (a1 : ByteArray) (w : World) (w0 : a0.size ≤ 140737488351232) (w1 : a1.size ≤ 140737488351232) :
    Calls Try.prog 18 #[.string a0, .string a1] w fun e w' => e = .returned (.bool true) ∧ Below w.heap.size w w' := by
  obtain ⟨k, h⟩ := P a0 a1 w0 w1
  refine (chartroomlaw05_DeltaDiffs.calls k a0 a1 true w h).mono ?_
  rintro e w' ⟨rfl, hd⟩
  exact ⟨rfl, hd⟩
end Go.Proofs.Ytoeabgeglgiobaa.P
