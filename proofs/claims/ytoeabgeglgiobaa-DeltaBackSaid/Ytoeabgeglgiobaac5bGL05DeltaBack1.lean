/- What functions of the given program do, each as a plain Lean function that its call meets: printed by a program of this session out of the translation, checked by Lean. Its conditions: those of each theorem. -/
import Derived.Test.Ytoeabgeglgiobaac5bP0
import Derived.Test.Ytoeabgeglgiobaac5bGdelta0
import Derived.Test.Ytoeabgeglgiobaac5bGdelta1
import Derived.Test.Ytoeabgeglgiobaac5bGkit0
import Derived.Test.Ytoeabgeglgiobaac5bGlaw050
import Derived.Test.Ytoeabgeglgiobaac5bGlaw051
import Derived.Test.Ytoeabgeglgiobaac5bHdeltaApply
namespace Go.Proofs.Ytoeabgeglgiobaa.P
open Go.RowKit Go.Proofs.YtoeabgeglgiobaaW.PrintWords Go.Proofs.YtoeabgeglgiobaaW.PrintLast Go.Proofs.YtoeabgeglgiobaaW.PrintMore
attribute [local go_sem] max2_int min2_int max_two min_two max_three min_three max_four min_four   -- for this text's walks alone
set_option linter.unusedVariables false
set_option linter.unusedSimpArgs false
/-! ### chartroomlaw05_DeltaBack: function 24 -/
mutual
def chartroomlaw05_DeltaBack.j0 : Nat → ByteArray → List (S153) → List Int → Bool → Option (Bool)
  | 0, _, _, _, _ => none
  | k + 1, x0, x1, x2, x39 => if x39 = true then ((chartroomlaw05_works.f k).bind fun t556 => (some t556)) else ((delta_Put.f k x1).bind fun bt557 => (if bt557.2 = 0 then ((delta_Parse.f k bt557.1).bind fun bt561 => (if bt561.2 = 0 then ((chartroomlaw05_refs.f k x1).bind fun t565 => ((chartroomlaw05_same.f k bt561.1 t565).bind fun t568 => (if t568 = true then (chartroomlaw05_DeltaBack.j1 k x0 x1 x2) else (some false)))) else (some false))) else (chartroomlaw05_DeltaBack.j1 k x0 x1 x2)))
def chartroomlaw05_DeltaBack.j1 : Nat → ByteArray → List (S153) → List Int → Option (Bool)
  | 0, _, _, _ => none
  | k + 1, x0, x1, x2 => (delta_Parse.f k x2).bind fun bt569 => (if bt569.2 = 0 then ((delta_Put.f k bt569.1).bind fun bt573 => (if bt573.2 = 0 then ((chartroomkit_SameBytes.f k bt573.1 x2).bind fun t577 => (if t577 = true then (chartroomlaw05_DeltaBack.j2 k x0 x1) else (some false))) else (some false))) else (chartroomlaw05_DeltaBack.j2 k x0 x1))
def chartroomlaw05_DeltaBack.j2 : Nat → ByteArray → List (S153) → Option (Bool)
  | 0, _, _ => none
  | k + 1, x0, x1 => (delta_Normal.f k x1).bind fun bt578 => ((delta_Apply.f x0 x1).bind fun bt582 => (if bt578.2 = 0 then ((delta_Apply.f x0 bt578.1).bind fun bt585 => ((delta_Normal.f k bt578.1).bind fun bt587 => ((delta_Sizes.f k x1).bind fun bt591 => ((delta_Sizes.f k bt578.1).bind fun bt593 => (if bt585.1.toList = bt582.1.toList then (if bt585.2 = bt582.2 then (if (bt578.1.length : Int) > (x1.length : Int) then (some false) else (if bt587.2 = 0 then ((chartroomlaw05_refs.f k bt578.1).bind fun t595 => ((chartroomlaw05_same.f k bt587.1 t595).bind fun t598 => (if t598 = true then (if bt591.1 = bt593.1 then (if bt591.2 = bt593.2 then (if ((bt582.2 == 0) == (bt591.1 == (x0.size : Int))) = true then (if bt582.2 = 0 then (if (bt582.1.size : Int) = bt591.2 then ((chartroomlaw05_works.f k).bind fun t599 => (some t599)) else (some false)) else ((chartroomlaw05_works.f k).bind fun t600 => (some t600))) else (some false)) else (some false)) else (some false)) else (some false)))) else (some false))) else (some false)) else (some false)))))) else ((chartroomlaw05_works.f k).bind fun t584 => (some t584))))
end
def chartroomlaw05_DeltaBack.f (k : Nat) (a0 : ByteArray) (l1 : List (S153)) (l2 : List Int) : Option (Bool) := if (a0.size : Int) > 2000 then (chartroomlaw05_DeltaBack.j0 k a0 l1 l2 true) else ((chartroomlaw05_few.f k l1).bind fun t555 => (if t555 = true then (chartroomlaw05_DeltaBack.j0 k a0 l1 l2 (decide ((l2.length : Int) > 500))) else (chartroomlaw05_DeltaBack.j0 k a0 l1 l2 true)))
set_option maxHeartbeats 8000000 in
set_option maxRecDepth 100000 in
theorem chartroomlaw05_DeltaBack.calls (k : Nat) (a0 : ByteArray) (A1 : Option Addr) (c1 : Nat) (l1 : List (S153)) (A2 : Option Addr) (c2 : Nat) (l2 : List Int) (r : Bool) (w : World) (hr1 : Kd.C k153 w A1 l1.length l1) (hc1 : l1.length ≤ c1) (hr2 : Kd.C (Kd.int .u8) w A2 l2.length l2) (hc2 : l2.length ≤ c2) (h : chartroomlaw05_DeltaBack.f k a0 l1 l2 = some r) (hT_ : r = true := by first | rfl | assumption | exact Aside0.out (by assumption)) :
    Calls Try.prog 24 #[.string a0, .slice A1 l1.length c1, .slice A2 l2.length c2] w fun e w' => e = .returned (.bool r) ∧ Below w.heap.size w w' := by
  subst hT_
  have HR1 := Aside0.mk hr1
  have HC1 := Aside0.mk hc1
  clear hr1 hc1
  have HR2 := Aside0.mk hr2
  have HC2 := Aside0.mk hc2
  clear hr2 hc2
  have HB := Aside0.mk (Below.refl w.heap.size w)
  have H : (if (a0.size : Int) > 2000 then (chartroomlaw05_DeltaBack.j0 k a0 l1 l2 true) else ((chartroomlaw05_few.f k l1).bind fun t555 => (if t555 = true then (chartroomlaw05_DeltaBack.j0 k a0 l1 l2 (decide ((l2.length : Int) > 500))) else (chartroomlaw05_DeltaBack.j0 k a0 l1 l2 true)))) = some true := h
  clear h
  have HC4 := Aside0.mk H
  clear H
  go_enter Try.func24, Try.ntmps24
  go_upto_region 1 with (fail)
  go_cut [39] (fun v39 wc => ∃ (kq : Nat) (x39_3 : Bool), v39 = .bool x39_3 ∧ Aside0 (chartroomlaw05_DeltaBack.j0 kq a0 l1 l2 x39_3 = some true) ∧ Aside0 (kq ≤ k) ∧ Aside0 (Below w.heap.size w wc))
  case first =>
    have H := HC4.out
    clear HC4
    by_cases c5 : (a0.size : Int) > 2000
    · rw [if_pos c5] at H
      have c5b0 : decide (2000 < (a0.size : Int)) = true := decide_eq_true c5
      have c5b1 : decide (2000 < a0.size) = true := decide_eq_true (by omega)
      clear c5
      (first | rw [c5b0] | (simp only [i64_w, i32_w]; rw [c5b0]) | skip)
      have H' := Aside0.mk H
      clear H
      go_wp2
      go_meet
      case rel => exact ⟨_, (true), (by first | rfl | (simp; done) | (simp [*]; done)), H', ⟨by first | omega | exact Nat.le_refl _⟩, ⟨by repeat (first | (with_reducible first | exact HB.out | apply below_alloc | apply pw_below_drewN | apply below_drew1) | exact HB.out)⟩⟩
    · rw [if_neg c5] at H
      have c5b0 : decide (2000 < (a0.size : Int)) = false := decide_eq_false c5
      have c5b1 : decide (2000 < a0.size) = false := decide_eq_false (by omega)
      clear c5
      (first | rw [c5b0] | (simp only [i64_w, i32_w]; rw [c5b0]) | skip)
      replace H := Option.bind_eq_some_iff.mp H
      obtain ⟨t555, A60, H⟩ := H
      replace H : (if t555 = true then (chartroomlaw05_DeltaBack.j0 k a0 l1 l2 (decide ((l2.length : Int) > 500))) else (chartroomlaw05_DeltaBack.j0 k a0 l1 l2 true)) = some true := H
      have A6 := Aside0.mk A60
      clear A60
      by_cases c7 : t555 = true
      · subst c7
        have H1 : (chartroomlaw05_DeltaBack.j0 k a0 l1 l2 (decide ((l2.length : Int) > 500))) = some true := by rw [if_pos rfl] at H; exact H
        clear H
        have H := H1
        clear H1
        have H' := Aside0.mk H
        clear H
        go_wp2_with (first | (go_at_call 101; refine calls_of_args (args' := #[.slice A1 l1.length c1]) (by rfl) ?_; (with_reducible refine (chartroomlaw05_few.calls k _ _ l1 true _ ?side1 ?side2 A6.out).mono ?_); (case side1 => repeat (first | exact (Kd.C_below HR1.out HB.out) | (with_reducible refine Kd.C_alloc ?_ _) | (with_reducible refine Kd.C_drewN ?_ _) | (with_reducible refine Kd.C_drew ?_))); (case side2 => exact HC1.out); rintro e w' ⟨rfl, ⟨nd, rfl⟩⟩))
        go_meet
        case rel => exact ⟨_, (decide ((l2.length : Int) > 500)), (by first | rfl | (simp; done) | (simp [*]; done)), H', ⟨by first | omega | exact Nat.le_refl _⟩, ⟨by repeat (first | (with_reducible first | exact HB.out | apply below_alloc | apply pw_below_drewN | apply below_drew1) | exact HB.out)⟩⟩
      · replace c7 := Bool.eq_false_iff.mpr c7
        subst c7
        have H1 : (chartroomlaw05_DeltaBack.j0 k a0 l1 l2 true) = some true := by rw [if_neg (show ¬ (false = true) by decide)] at H; exact H
        clear H
        have H := H1
        clear H1
        have H' := Aside0.mk H
        clear H
        go_wp2_with (first | (go_at_call 101; refine calls_of_args (args' := #[.slice A1 l1.length c1]) (by rfl) ?_; (with_reducible refine (chartroomlaw05_few.calls k _ _ l1 false _ ?side1 ?side2 A6.out).mono ?_); (case side1 => repeat (first | exact (Kd.C_below HR1.out HB.out) | (with_reducible refine Kd.C_alloc ?_ _) | (with_reducible refine Kd.C_drewN ?_ _) | (with_reducible refine Kd.C_drew ?_))); (case side2 => exact HC1.out); rintro e w' ⟨rfl, ⟨nd, rfl⟩⟩))
        go_meet
        case rel => exact ⟨_, (true), (by first | rfl | (simp; done) | (simp [*]; done)), H', ⟨by first | omega | exact Nat.le_refl _⟩, ⟨by repeat (first | (with_reducible first | exact HB.out | apply below_alloc | apply pw_below_drewN | apply below_drew1) | exact HB.out)⟩⟩
  case rest =>
    clear HC4
    try clear c1
    try clear c2
    try clear p2
    try clear c5
    try clear c5b0
    try clear c5b1
    try clear c7
    obtain ⟨kq, x39_3, rfl, HA, HJ3, HB⟩ := hcut
    cases kq with
    | zero => exact absurd HA.out (by simp [chartroomlaw05_DeltaBack.j0])
    | succ kj3 =>
      have H := HA.out
      clear HA
      simp only [chartroomlaw05_DeltaBack.j0] at H
      by_cases c8 : x39_3 = true
      · subst c8
        have H1 : ((chartroomlaw05_works.f kj3).bind fun t556 => (some t556)) = some true := by rw [if_pos rfl] at H; exact H
        clear H
        have H := H1
        clear H1
        replace H := Option.bind_eq_some_iff.mp H
        obtain ⟨t556, A90, H⟩ := H
        replace H : (some t556) = some true := H
        have A9 := Aside0.mk A90
        clear A90
        have hX_ := Aside0.mk (Option.some.inj H)
        clear H
        go_wp2_with (first | ((with_reducible refine gate_callee (f := 102) rfl ?_); refine goesL_ (some 40) rfl rfl Try.func102 (by kernel_rfl) rfl #[] rfl (by (try simp only [List.map_toArray, List.map_cons, List.map_nil]); first | done | rfl | (simp only [List.length_drop, List.length_take]; rfl)) ?_; (with_reducible refine (chartroomlaw05_works.calls kj3  t556 _ A9.out).mono ?_); rintro e w10 ⟨rfl, hb⟩; refine ⟨_, rfl, ?_⟩; have n0_ := Aside0.mk (below_step (by repeat (first | (with_reducible first | exact HB.out | apply below_alloc | apply pw_below_drewN | apply below_drew1) | exact HB.out)) hb); clear HB; have HB := n0_; clear n0_; (try clear hb); (try clear hb2); (try clear hk); (try clear hi)))
        go_ret
        exact ⟨by first | rfl | (rw [hX_.out] <;> rfl) | (simp [errW_none, errW_some] <;> rfl) | (simp [*, errW_none, errW_some] <;> rfl), by repeat (first | (with_reducible first | exact HB.out | apply below_alloc | apply pw_below_drewN | apply below_drew1) | exact HB.out)⟩
      · replace c8 := Bool.eq_false_iff.mpr c8
        subst c8
        have H1 : ((delta_Put.f kj3 l1).bind fun bt557 => (if bt557.2 = 0 then ((delta_Parse.f kj3 bt557.1).bind fun bt561 => (if bt561.2 = 0 then ((chartroomlaw05_refs.f kj3 l1).bind fun t565 => ((chartroomlaw05_same.f kj3 bt561.1 t565).bind fun t568 => (if t568 = true then (chartroomlaw05_DeltaBack.j1 kj3 a0 l1 l2) else (some false)))) else (some false))) else (chartroomlaw05_DeltaBack.j1 kj3 a0 l1 l2))) = some true := by rw [if_neg (show ¬ (false = true) by decide)] at H; exact H
        clear H
        have H := H1
        clear H1
        replace H := Option.bind_eq_some_iff.mp H
        obtain ⟨⟨t557, t558⟩, A110, H⟩ := H
        replace H : (if t558 = 0 then ((delta_Parse.f kj3 t557).bind fun bt561 => (if bt561.2 = 0 then ((chartroomlaw05_refs.f kj3 l1).bind fun t565 => ((chartroomlaw05_same.f kj3 bt561.1 t565).bind fun t568 => (if t568 = true then (chartroomlaw05_DeltaBack.j1 kj3 a0 l1 l2) else (some false)))) else (some false))) else (chartroomlaw05_DeltaBack.j1 kj3 a0 l1 l2)) = some true := H
        have A11 := Aside0.mk A110
        clear A110
        have HC12 := Aside0.mk H
        clear H
        go_upto_if 47 with (first | ((with_reducible refine gate_callee (f := 110) rfl ?_); refine goesL_ (some 43) rfl rfl Try.func110 (by kernel_rfl) rfl #[.slice A1 l1.length c1] rfl (by (try simp only [List.map_toArray, List.map_cons, List.map_nil]); first | done | rfl | (simp only [List.length_drop, List.length_take]; rfl)) ?_; (with_reducible refine (delta_Put.calls kj3 _ _ l1 t557 t558 _ ?side1 ?side2 A11.out).mono ?_); (case side1 => repeat (first | exact (Kd.C_below HR1.out HB.out) | (with_reducible refine Kd.C_alloc ?_ _) | (with_reducible refine Kd.C_drewN ?_ _) | (with_reducible refine Kd.C_drew ?_))); (case side2 => exact HC1.out); rintro e w13 ⟨v559, rfl, ho0, hb⟩; refine ⟨_, rfl, ?_⟩; have n0_ := Aside0.mk (Kd.R_lower ho0 (below_size (by repeat (first | (with_reducible first | exact HB.out | apply below_alloc | apply pw_below_drewN | apply below_drew1) | exact HB.out)))); have n1_ := Aside0.mk (below_step (by repeat (first | (with_reducible first | exact HB.out | apply below_alloc | apply pw_below_drewN | apply below_drew1) | exact HB.out)) hb); clear HB; have HO560 := n0_; have HB := n1_; clear n0_ n1_; (try clear hb); (try clear hb2); (try clear hk); (try clear hi); (try clear ho0)))
        (try simp only [Act.put, List.setIfInBounds_toArray, List.set_cons_zero, List.set_cons_succ])
        go_cut [] (fun wc => ∃ (kq : Nat), Aside0 (chartroomlaw05_DeltaBack.j1 kq a0 l1 l2 = some true) ∧ Aside0 (kq ≤ kj3) ∧ Aside0 (Below w.heap.size w wc))
        case first =>
          have H := HC12.out
          clear HC12
          by_cases c14 : t558 = 0
          · rw [if_pos c14] at H
            have c14b0 : (t558 == 0) = true := beq_iff_eq.mpr c14
            have c14b1 : (t558 != 0) = false := bne_eq_false_iff_eq.mpr c14
            clear c14
            (first | rw [c14b0] | (simp only [i64_w, i32_w]; rw [c14b0]) | skip)
            replace H := Option.bind_eq_some_iff.mp H
            obtain ⟨⟨t561, t562⟩, A150, H⟩ := H
            replace H : (if t562 = 0 then ((chartroomlaw05_refs.f kj3 l1).bind fun t565 => ((chartroomlaw05_same.f kj3 t561 t565).bind fun t568 => (if t568 = true then (chartroomlaw05_DeltaBack.j1 kj3 a0 l1 l2) else (some false)))) else (some false)) = some true := H
            have A15 := Aside0.mk A150
            clear A150
            by_cases c16 : t562 = 0
            · rw [if_pos c16] at H
              have c16b0 : (t562 == 0) = true := beq_iff_eq.mpr c16
              have c16b1 : (t562 != 0) = false := bne_eq_false_iff_eq.mpr c16
              clear c16
              replace H := Option.bind_eq_some_iff.mp H
              obtain ⟨t565, A170, H⟩ := H
              replace H : ((chartroomlaw05_same.f kj3 t561 t565).bind fun t568 => (if t568 = true then (chartroomlaw05_DeltaBack.j1 kj3 a0 l1 l2) else (some false))) = some true := H
              have A17 := Aside0.mk A170
              clear A170
              replace H := Option.bind_eq_some_iff.mp H
              obtain ⟨t568, A180, H⟩ := H
              replace H : (if t568 = true then (chartroomlaw05_DeltaBack.j1 kj3 a0 l1 l2) else (some false)) = some true := H
              have A18 := Aside0.mk A180
              clear A180
              by_cases c19 : t568 = true
              · subst c19
                have H1 : (chartroomlaw05_DeltaBack.j1 kj3 a0 l1 l2) = some true := by rw [if_pos rfl] at H; exact H
                clear H
                have H := H1
                clear H1
                have H' := Aside0.mk H
                clear H
                obtain ⟨Ao20, co20, eo20⟩ := Kd.R_slice HO560.out
                subst eo20
                go_wp2_with (first | ((with_reducible refine gate_callee (f := 121) rfl ?_); refine goesL_ (some 50) rfl rfl Try.func121 (by kernel_rfl) rfl #[.slice Ao20 t557.length co20] rfl (by (try simp only [List.map_toArray, List.map_cons, List.map_nil]); first | done | rfl | (simp only [List.length_drop, List.length_take]; rfl)) ?_; (with_reducible refine (delta_Parse.calls kj3 _ _ t557 t561 t562 _ ?side1 ?side2 A15.out).mono ?_); (case side1 => repeat (first | exact (Kd.R_reads' HO560.out).2.2 | (with_reducible refine Kd.C_alloc ?_ _) | (with_reducible refine Kd.C_drewN ?_ _) | (with_reducible refine Kd.C_drew ?_))); (case side2 => exact (Kd.R_reads' HO560.out).2.1); rintro e w21 ⟨v563, rfl, ho0, hb⟩; refine ⟨_, rfl, ?_⟩; have n0_ := Aside0.mk (Kd.R_below (by (with_reducible repeat (first | apply Kd.R_alloc | apply Kd.R_drewN | apply Kd.R_drew)); exact HO560.out) hb); have n1_ := Aside0.mk (Kd.R_lower ho0 (below_size (by repeat (first | (with_reducible first | exact HB.out | apply below_alloc | apply pw_below_drewN | apply below_drew1) | exact HB.out)))); have n2_ := Aside0.mk (below_step (by repeat (first | (with_reducible first | exact HB.out | apply below_alloc | apply pw_below_drewN | apply below_drew1) | exact HB.out)) hb); clear HO560; clear HB; have HO560 := n0_; have HO564 := n1_; have HB := n2_; clear n0_ n1_ n2_; (try clear hb); (try clear hb2); (try clear hk); (try clear hi); (try clear ho0)) | (go_at_call 103; refine calls_of_args (args' := #[.slice A1 l1.length c1]) (by rfl) ?_; (with_reducible refine (chartroomlaw05_refs.calls kj3 _ _ l1 t565 _ ?side1 ?side2 A17.out).mono ?_); (case side1 => repeat (first | exact (Kd.C_below HR1.out HB.out) | (with_reducible refine Kd.C_alloc ?_ _) | (with_reducible refine Kd.C_drewN ?_ _) | (with_reducible refine Kd.C_drew ?_))); (case side2 => exact HC1.out); rintro e w22 ⟨v566, rfl, ho0, hb⟩; have n0_ := Aside0.mk (Kd.R_below (by (with_reducible repeat (first | apply Kd.R_alloc | apply Kd.R_drewN | apply Kd.R_drew)); exact HO560.out) hb); have n1_ := Aside0.mk (Kd.R_below (by (with_reducible repeat (first | apply Kd.R_alloc | apply Kd.R_drewN | apply Kd.R_drew)); exact HO564.out) hb); have n2_ := Aside0.mk (Kd.R_lower ho0 (below_size (by repeat (first | (with_reducible first | exact HB.out | apply below_alloc | apply pw_below_drewN | apply below_drew1) | exact HB.out)))); have n3_ := Aside0.mk (below_step (by repeat (first | (with_reducible first | exact HB.out | apply below_alloc | apply pw_below_drewN | apply below_drew1) | exact HB.out)) hb); clear HO560; clear HO564; clear HB; have HO560 := n0_; have HO564 := n1_; have HO567 := n2_; have HB := n3_; clear n0_ n1_ n2_ n3_; (try clear hb); (try clear hb2); (try clear hk); (try clear hi); (try clear ho0); obtain ⟨Ao23, co23, eo23⟩ := Kd.R_slice HO564.out; subst eo23; obtain ⟨Ao24, co24, eo24⟩ := Kd.R_slice HO567.out; subst eo24) | (go_at_call 112; refine calls_of_args (args' := #[.slice Ao23 t561.length co23, .slice Ao24 t565.length co24]) (by rfl) ?_; (with_reducible refine (chartroomlaw05_same.calls kj3 _ _ t561 _ _ t565 true _ ?side1 ?side2 ?side3 ?side4 A18.out).mono ?_); (case side1 => repeat (first | exact (Kd.R_reads' HO564.out).2.2 | (with_reducible refine Kd.C_alloc ?_ _) | (with_reducible refine Kd.C_drewN ?_ _) | (with_reducible refine Kd.C_drew ?_))); (case side2 => exact (Kd.R_reads' HO564.out).2.1); (case side3 => repeat (first | exact (Kd.R_reads' HO567.out).2.2 | (with_reducible refine Kd.C_alloc ?_ _) | (with_reducible refine Kd.C_drewN ?_ _) | (with_reducible refine Kd.C_drew ?_))); (case side4 => exact (Kd.R_reads' HO567.out).2.1); rintro e w' ⟨rfl, ⟨nd, rfl⟩⟩))
                go_meet
                case rel => exact ⟨_, H', ⟨by have := HJ3.out; first | omega | exact Nat.le_refl _⟩, ⟨by repeat (first | (with_reducible first | exact HB.out | apply below_alloc | apply pw_below_drewN | apply below_drew1) | exact HB.out)⟩⟩
              · replace c19 := Bool.eq_false_iff.mpr c19
                subst c19
                have H1 : (some false) = some true := by rw [if_neg (show ¬ (false = true) by decide)] at H; exact H
                clear H
                have H := H1
                clear H1
                exact absurd H (by simp)
            · rw [if_neg c16] at H
              have c16b0 : (t562 == 0) = false := beq_eq_false_iff_ne.mpr c16
              have c16b1 : (t562 != 0) = true := bne_iff_ne.mpr c16
              exact absurd H (by simp)
          · rw [if_neg c14] at H
            have c14b0 : (t558 == 0) = false := beq_eq_false_iff_ne.mpr c14
            have c14b1 : (t558 != 0) = true := bne_iff_ne.mpr c14
            (first | rw [c14b0] | (simp only [i64_w, i32_w]; rw [c14b0]) | skip)
            have H' := Aside0.mk H
            clear H
            go_wp2
            go_meet
            case rel => exact ⟨_, H', ⟨by have := HJ3.out; first | omega | exact Nat.le_refl _⟩, ⟨by repeat (first | (with_reducible first | exact HB.out | apply below_alloc | apply pw_below_drewN | apply below_drew1) | exact HB.out)⟩⟩
        case rest =>
          clear HC12
          try clear c1
          try clear c2
          try clear p2
          try clear c5
          try clear c5b0
          try clear c5b1
          try clear c7
          try clear c8
          try clear c10
          try clear c11
          try clear c12
          try clear c14
          try clear c14b0
          try clear c14b1
          try clear c16
          try clear c16b0
          try clear c16b1
          try clear c19
          try clear c24
          try clear p2
          obtain ⟨kq, HA, HJ11, HB⟩ := hcut
          cases kq with
          | zero => exact absurd HA.out (by simp [chartroomlaw05_DeltaBack.j1])
          | succ kj11 =>
            have H := HA.out
            clear HA
            simp only [chartroomlaw05_DeltaBack.j1] at H
            replace H := Option.bind_eq_some_iff.mp H
            obtain ⟨⟨t569, t570⟩, A250, H⟩ := H
            replace H : (if t570 = 0 then ((delta_Put.f kj11 t569).bind fun bt573 => (if bt573.2 = 0 then ((chartroomkit_SameBytes.f kj11 bt573.1 l2).bind fun t577 => (if t577 = true then (chartroomlaw05_DeltaBack.j2 kj11 a0 l1) else (some false))) else (some false))) else (chartroomlaw05_DeltaBack.j2 kj11 a0 l1)) = some true := H
            have A25 := Aside0.mk A250
            clear A250
            have HC26 := Aside0.mk H
            clear H
            go_upto_if 68 with (first | ((with_reducible refine gate_callee (f := 121) rfl ?_); refine goesL_ (some 64) rfl rfl Try.func121 (by kernel_rfl) rfl #[.slice A2 l2.length c2] rfl (by (try simp only [List.map_toArray, List.map_cons, List.map_nil]); first | done | rfl | (simp only [List.length_drop, List.length_take]; rfl)) ?_; (with_reducible refine (delta_Parse.calls kj11 _ _ l2 t569 t570 _ ?side1 ?side2 A25.out).mono ?_); (case side1 => repeat (first | exact (Kd.C_below HR2.out HB.out) | (with_reducible refine Kd.C_alloc ?_ _) | (with_reducible refine Kd.C_drewN ?_ _) | (with_reducible refine Kd.C_drew ?_))); (case side2 => exact HC2.out); rintro e w27 ⟨v571, rfl, ho0, hb⟩; refine ⟨_, rfl, ?_⟩; have n0_ := Aside0.mk (Kd.R_lower ho0 (below_size (by repeat (first | (with_reducible first | exact HB.out | apply below_alloc | apply pw_below_drewN | apply below_drew1) | exact HB.out)))); have n1_ := Aside0.mk (below_step (by repeat (first | (with_reducible first | exact HB.out | apply below_alloc | apply pw_below_drewN | apply below_drew1) | exact HB.out)) hb); clear HB; have HO572 := n0_; have HB := n1_; clear n0_ n1_; (try clear hb); (try clear hb2); (try clear hk); (try clear hi); (try clear ho0)))
            (try simp only [Act.put, List.setIfInBounds_toArray, List.set_cons_zero, List.set_cons_succ])
            go_cut [] (fun wc => ∃ (kq : Nat), Aside0 (chartroomlaw05_DeltaBack.j2 kq a0 l1 = some true) ∧ Aside0 (kq ≤ kj11) ∧ Aside0 (Below w.heap.size w wc))
            case first =>
              have H := HC26.out
              clear HC26
              by_cases c28 : t570 = 0
              · rw [if_pos c28] at H
                have c28b0 : (t570 == 0) = true := beq_iff_eq.mpr c28
                have c28b1 : (t570 != 0) = false := bne_eq_false_iff_eq.mpr c28
                clear c28
                (first | rw [c28b0] | (simp only [i64_w, i32_w]; rw [c28b0]) | skip)
                replace H := Option.bind_eq_some_iff.mp H
                obtain ⟨⟨t573, t574⟩, A290, H⟩ := H
                replace H : (if t574 = 0 then ((chartroomkit_SameBytes.f kj11 t573 l2).bind fun t577 => (if t577 = true then (chartroomlaw05_DeltaBack.j2 kj11 a0 l1) else (some false))) else (some false)) = some true := H
                have A29 := Aside0.mk A290
                clear A290
                by_cases c30 : t574 = 0
                · rw [if_pos c30] at H
                  have c30b0 : (t574 == 0) = true := beq_iff_eq.mpr c30
                  have c30b1 : (t574 != 0) = false := bne_eq_false_iff_eq.mpr c30
                  clear c30
                  replace H := Option.bind_eq_some_iff.mp H
                  obtain ⟨t577, A310, H⟩ := H
                  replace H : (if t577 = true then (chartroomlaw05_DeltaBack.j2 kj11 a0 l1) else (some false)) = some true := H
                  have A31 := Aside0.mk A310
                  clear A310
                  by_cases c32 : t577 = true
                  · subst c32
                    have H1 : (chartroomlaw05_DeltaBack.j2 kj11 a0 l1) = some true := by rw [if_pos rfl] at H; exact H
                    clear H
                    have H := H1
                    clear H1
                    have H' := Aside0.mk H
                    clear H
                    obtain ⟨Ao33, co33, eo33⟩ := Kd.R_slice HO572.out
                    subst eo33
                    go_wp2_with (first | ((with_reducible refine gate_callee (f := 110) rfl ?_); refine goesL_ (some 71) rfl rfl Try.func110 (by kernel_rfl) rfl #[.slice Ao33 t569.length co33] rfl (by (try simp only [List.map_toArray, List.map_cons, List.map_nil]); first | done | rfl | (simp only [List.length_drop, List.length_take]; rfl)) ?_; (with_reducible refine (delta_Put.calls kj11 _ _ t569 t573 t574 _ ?side1 ?side2 A29.out).mono ?_); (case side1 => repeat (first | exact (Kd.R_reads' HO572.out).2.2 | (with_reducible refine Kd.C_alloc ?_ _) | (with_reducible refine Kd.C_drewN ?_ _) | (with_reducible refine Kd.C_drew ?_))); (case side2 => exact (Kd.R_reads' HO572.out).2.1); rintro e w34 ⟨v575, rfl, ho0, hb⟩; refine ⟨_, rfl, ?_⟩; have n0_ := Aside0.mk (Kd.R_below (by (with_reducible repeat (first | apply Kd.R_alloc | apply Kd.R_drewN | apply Kd.R_drew)); exact HO572.out) hb); have n1_ := Aside0.mk (Kd.R_lower ho0 (below_size (by repeat (first | (with_reducible first | exact HB.out | apply below_alloc | apply pw_below_drewN | apply below_drew1) | exact HB.out)))); have n2_ := Aside0.mk (below_step (by repeat (first | (with_reducible first | exact HB.out | apply below_alloc | apply pw_below_drewN | apply below_drew1) | exact HB.out)) hb); clear HO572; clear HB; have HO572 := n0_; have HO576 := n1_; have HB := n2_; clear n0_ n1_ n2_; (try clear hb); (try clear hb2); (try clear hk); (try clear hi); (try clear ho0); obtain ⟨Ao35, co35, eo35⟩ := Kd.R_slice HO576.out; subst eo35) | (go_at_call 32; refine calls_of_args (args' := #[.slice Ao35 t573.length co35, .slice A2 l2.length c2]) (by rfl) ?_; (with_reducible refine (chartroomkit_SameBytes.calls kj11 _ _ t573 _ _ l2 true _ ?side1 ?side2 ?side3 ?side4 A31.out).mono ?_); (case side1 => repeat (first | exact (Kd.R_reads' HO576.out).2.2 | (with_reducible refine Kd.C_alloc ?_ _) | (with_reducible refine Kd.C_drewN ?_ _) | (with_reducible refine Kd.C_drew ?_))); (case side2 => exact (Kd.R_reads' HO576.out).2.1); (case side3 => repeat (first | exact (Kd.C_below HR2.out HB.out) | (with_reducible refine Kd.C_alloc ?_ _) | (with_reducible refine Kd.C_drewN ?_ _) | (with_reducible refine Kd.C_drew ?_))); (case side4 => exact HC2.out); rintro e w' ⟨rfl, ⟨nd, rfl⟩⟩))
                    go_meet
                    case rel => exact ⟨_, H', ⟨by have := HJ3.out; have := HJ11.out; first | omega | exact Nat.le_refl _⟩, ⟨by repeat (first | (with_reducible first | exact HB.out | apply below_alloc | apply pw_below_drewN | apply below_drew1) | exact HB.out)⟩⟩
                  · replace c32 := Bool.eq_false_iff.mpr c32
                    subst c32
                    have H1 : (some false) = some true := by rw [if_neg (show ¬ (false = true) by decide)] at H; exact H
                    clear H
                    have H := H1
                    clear H1
                    exact absurd H (by simp)
                · rw [if_neg c30] at H
                  have c30b0 : (t574 == 0) = false := beq_eq_false_iff_ne.mpr c30
                  have c30b1 : (t574 != 0) = true := bne_iff_ne.mpr c30
                  exact absurd H (by simp)
              · rw [if_neg c28] at H
                have c28b0 : (t570 == 0) = false := beq_eq_false_iff_ne.mpr c28
                have c28b1 : (t570 != 0) = true := bne_iff_ne.mpr c28
                (first | rw [c28b0] | (simp only [i64_w, i32_w]; rw [c28b0]) | skip)
                have H' := Aside0.mk H
                clear H
                go_wp2
                go_meet
                case rel => exact ⟨_, H', ⟨by have := HJ3.out; have := HJ11.out; first | omega | exact Nat.le_refl _⟩, ⟨by repeat (first | (with_reducible first | exact HB.out | apply below_alloc | apply pw_below_drewN | apply below_drew1) | exact HB.out)⟩⟩
            case rest =>
              clear HC26
              try clear c1
              try clear c2
              try clear p2
              try clear c3
              try clear c5
              try clear c5b0
              try clear c5b1
              try clear c7
              try clear c8
              try clear c10
              try clear c11
              try clear c12
              try clear c14
              try clear c14b0
              try clear c14b1
              try clear c16
              try clear c16b0
              try clear c16b1
              try clear c19
              try clear c24
              try clear c28
              try clear c28b0
              try clear c28b1
              try clear c30
              try clear c30b0
              try clear c30b1
              try clear c32
              try clear p2
              obtain ⟨kq, HA, HJ25, HB⟩ := hcut
              cases kq with
              | zero => exact absurd HA.out (by simp [chartroomlaw05_DeltaBack.j2])
              | succ kj25 =>
                have H := HA.out
                clear HA
                simp only [chartroomlaw05_DeltaBack.j2] at H
                replace H := Option.bind_eq_some_iff.mp H
                obtain ⟨⟨t578, t579⟩, A360, H⟩ := H
                replace H : ((delta_Apply.f a0 l1).bind fun bt582 => (if t579 = 0 then ((delta_Apply.f a0 t578).bind fun bt585 => ((delta_Normal.f kj25 t578).bind fun bt587 => ((delta_Sizes.f kj25 l1).bind fun bt591 => ((delta_Sizes.f kj25 t578).bind fun bt593 => (if bt585.1.toList = bt582.1.toList then (if bt585.2 = bt582.2 then (if (t578.length : Int) > (l1.length : Int) then (some false) else (if bt587.2 = 0 then ((chartroomlaw05_refs.f kj25 t578).bind fun t595 => ((chartroomlaw05_same.f kj25 bt587.1 t595).bind fun t598 => (if t598 = true then (if bt591.1 = bt593.1 then (if bt591.2 = bt593.2 then (if ((bt582.2 == 0) == (bt591.1 == (a0.size : Int))) = true then (if bt582.2 = 0 then (if (bt582.1.size : Int) = bt591.2 then ((chartroomlaw05_works.f kj25).bind fun t599 => (some t599)) else (some false)) else ((chartroomlaw05_works.f kj25).bind fun t600 => (some t600))) else (some false)) else (some false)) else (some false)) else (some false)))) else (some false))) else (some false)) else (some false)))))) else ((chartroomlaw05_works.f kj25).bind fun t584 => (some t584)))) = some true := H
                have A36 := Aside0.mk A360
                clear A360
                replace H := Option.bind_eq_some_iff.mp H
                obtain ⟨⟨t582, t583⟩, A370, H⟩ := H
                replace H : (if t579 = 0 then ((delta_Apply.f a0 t578).bind fun bt585 => ((delta_Normal.f kj25 t578).bind fun bt587 => ((delta_Sizes.f kj25 l1).bind fun bt591 => ((delta_Sizes.f kj25 t578).bind fun bt593 => (if bt585.1.toList = t582.toList then (if bt585.2 = t583 then (if (t578.length : Int) > (l1.length : Int) then (some false) else (if bt587.2 = 0 then ((chartroomlaw05_refs.f kj25 t578).bind fun t595 => ((chartroomlaw05_same.f kj25 bt587.1 t595).bind fun t598 => (if t598 = true then (if bt591.1 = bt593.1 then (if bt591.2 = bt593.2 then (if ((t583 == 0) == (bt591.1 == (a0.size : Int))) = true then (if t583 = 0 then (if (t582.size : Int) = bt591.2 then ((chartroomlaw05_works.f kj25).bind fun t599 => (some t599)) else (some false)) else ((chartroomlaw05_works.f kj25).bind fun t600 => (some t600))) else (some false)) else (some false)) else (some false)) else (some false)))) else (some false))) else (some false)) else (some false)))))) else ((chartroomlaw05_works.f kj25).bind fun t584 => (some t584))) = some true := H
                have A37 := Aside0.mk A370
                clear A370
                by_cases c38 : t579 = 0
                · rw [if_pos c38] at H
                  have c38b0 : (t579 == 0) = true := beq_iff_eq.mpr c38
                  have c38b1 : (t579 != 0) = false := bne_eq_false_iff_eq.mpr c38
                  clear c38
                  replace H := Option.bind_eq_some_iff.mp H
                  obtain ⟨⟨t585, t586⟩, A390, H⟩ := H
                  replace H : ((delta_Normal.f kj25 t578).bind fun bt587 => ((delta_Sizes.f kj25 l1).bind fun bt591 => ((delta_Sizes.f kj25 t578).bind fun bt593 => (if t585.toList = t582.toList then (if t586 = t583 then (if (t578.length : Int) > (l1.length : Int) then (some false) else (if bt587.2 = 0 then ((chartroomlaw05_refs.f kj25 t578).bind fun t595 => ((chartroomlaw05_same.f kj25 bt587.1 t595).bind fun t598 => (if t598 = true then (if bt591.1 = bt593.1 then (if bt591.2 = bt593.2 then (if ((t583 == 0) == (bt591.1 == (a0.size : Int))) = true then (if t583 = 0 then (if (t582.size : Int) = bt591.2 then ((chartroomlaw05_works.f kj25).bind fun t599 => (some t599)) else (some false)) else ((chartroomlaw05_works.f kj25).bind fun t600 => (some t600))) else (some false)) else (some false)) else (some false)) else (some false)))) else (some false))) else (some false)) else (some false))))) = some true := H
                  have A39 := Aside0.mk A390
                  clear A390
                  replace H := Option.bind_eq_some_iff.mp H
                  obtain ⟨⟨t587, t588⟩, A400, H⟩ := H
                  replace H : ((delta_Sizes.f kj25 l1).bind fun bt591 => ((delta_Sizes.f kj25 t578).bind fun bt593 => (if t585.toList = t582.toList then (if t586 = t583 then (if (t578.length : Int) > (l1.length : Int) then (some false) else (if t588 = 0 then ((chartroomlaw05_refs.f kj25 t578).bind fun t595 => ((chartroomlaw05_same.f kj25 t587 t595).bind fun t598 => (if t598 = true then (if bt591.1 = bt593.1 then (if bt591.2 = bt593.2 then (if ((t583 == 0) == (bt591.1 == (a0.size : Int))) = true then (if t583 = 0 then (if (t582.size : Int) = bt591.2 then ((chartroomlaw05_works.f kj25).bind fun t599 => (some t599)) else (some false)) else ((chartroomlaw05_works.f kj25).bind fun t600 => (some t600))) else (some false)) else (some false)) else (some false)) else (some false)))) else (some false))) else (some false)) else (some false)))) = some true := H
                  have A40 := Aside0.mk A400
                  clear A400
                  replace H := Option.bind_eq_some_iff.mp H
                  obtain ⟨⟨t591, t592⟩, A410, H⟩ := H
                  replace H : ((delta_Sizes.f kj25 t578).bind fun bt593 => (if t585.toList = t582.toList then (if t586 = t583 then (if (t578.length : Int) > (l1.length : Int) then (some false) else (if t588 = 0 then ((chartroomlaw05_refs.f kj25 t578).bind fun t595 => ((chartroomlaw05_same.f kj25 t587 t595).bind fun t598 => (if t598 = true then (if t591 = bt593.1 then (if t592 = bt593.2 then (if ((t583 == 0) == (t591 == (a0.size : Int))) = true then (if t583 = 0 then (if (t582.size : Int) = t592 then ((chartroomlaw05_works.f kj25).bind fun t599 => (some t599)) else (some false)) else ((chartroomlaw05_works.f kj25).bind fun t600 => (some t600))) else (some false)) else (some false)) else (some false)) else (some false)))) else (some false))) else (some false)) else (some false))) = some true := H
                  have A41 := Aside0.mk A410
                  clear A410
                  replace H := Option.bind_eq_some_iff.mp H
                  obtain ⟨⟨t593, t594⟩, A420, H⟩ := H
                  replace H : (if t585.toList = t582.toList then (if t586 = t583 then (if (t578.length : Int) > (l1.length : Int) then (some false) else (if t588 = 0 then ((chartroomlaw05_refs.f kj25 t578).bind fun t595 => ((chartroomlaw05_same.f kj25 t587 t595).bind fun t598 => (if t598 = true then (if t591 = t593 then (if t592 = t594 then (if ((t583 == 0) == (t591 == (a0.size : Int))) = true then (if t583 = 0 then (if (t582.size : Int) = t592 then ((chartroomlaw05_works.f kj25).bind fun t599 => (some t599)) else (some false)) else ((chartroomlaw05_works.f kj25).bind fun t600 => (some t600))) else (some false)) else (some false)) else (some false)) else (some false)))) else (some false))) else (some false)) else (some false)) = some true := H
                  have A42 := Aside0.mk A420
                  clear A420
                  by_cases c43 : t585.toList = t582.toList
                  · rw [if_pos c43] at H
                    have c43b0 : (t585.toList == t582.toList) = true := beq_iff_eq.mpr c43
                    have c43b1 : (t585.toList != t582.toList) = false := bne_eq_false_iff_eq.mpr c43
                    clear c43
                    by_cases c44 : t586 = t583
                    · rw [if_pos c44] at H
                      have c44b0 : (t586 == t583) = true := beq_iff_eq.mpr c44
                      have c44b1 : (t586 != t583) = false := bne_eq_false_iff_eq.mpr c44
                      clear c44
                      by_cases c45 : (t578.length : Int) > (l1.length : Int)
                      · rw [if_pos c45] at H
                        have c45b0 : decide ((l1.length : Int) < (t578.length : Int)) = true := decide_eq_true c45
                        have c45b1 : decide (l1.length < t578.length) = true := decide_eq_true (Int.ofNat_lt.mp c45)
                        clear c45
                        exact absurd H (by simp)
                      · rw [if_neg c45] at H
                        have c45b0 : decide ((l1.length : Int) < (t578.length : Int)) = false := decide_eq_false c45
                        have c45b1 : decide (l1.length < t578.length) = false := decide_eq_false (fun h => c45 (Int.ofNat_lt.mpr h))
                        clear c45
                        by_cases c46 : t588 = 0
                        · rw [if_pos c46] at H
                          have c46b0 : (t588 == 0) = true := beq_iff_eq.mpr c46
                          have c46b1 : (t588 != 0) = false := bne_eq_false_iff_eq.mpr c46
                          clear c46
                          replace H := Option.bind_eq_some_iff.mp H
                          obtain ⟨t595, A470, H⟩ := H
                          replace H : ((chartroomlaw05_same.f kj25 t587 t595).bind fun t598 => (if t598 = true then (if t591 = t593 then (if t592 = t594 then (if ((t583 == 0) == (t591 == (a0.size : Int))) = true then (if t583 = 0 then (if (t582.size : Int) = t592 then ((chartroomlaw05_works.f kj25).bind fun t599 => (some t599)) else (some false)) else ((chartroomlaw05_works.f kj25).bind fun t600 => (some t600))) else (some false)) else (some false)) else (some false)) else (some false))) = some true := H
                          have A47 := Aside0.mk A470
                          clear A470
                          replace H := Option.bind_eq_some_iff.mp H
                          obtain ⟨t598, A480, H⟩ := H
                          replace H : (if t598 = true then (if t591 = t593 then (if t592 = t594 then (if ((t583 == 0) == (t591 == (a0.size : Int))) = true then (if t583 = 0 then (if (t582.size : Int) = t592 then ((chartroomlaw05_works.f kj25).bind fun t599 => (some t599)) else (some false)) else ((chartroomlaw05_works.f kj25).bind fun t600 => (some t600))) else (some false)) else (some false)) else (some false)) else (some false)) = some true := H
                          have A48 := Aside0.mk A480
                          clear A480
                          by_cases c49 : t598 = true
                          · subst c49
                            have H1 : (if t591 = t593 then (if t592 = t594 then (if ((t583 == 0) == (t591 == (a0.size : Int))) = true then (if t583 = 0 then (if (t582.size : Int) = t592 then ((chartroomlaw05_works.f kj25).bind fun t599 => (some t599)) else (some false)) else ((chartroomlaw05_works.f kj25).bind fun t600 => (some t600))) else (some false)) else (some false)) else (some false)) = some true := by rw [if_pos rfl] at H; exact H
                            clear H
                            have H := H1
                            clear H1
                            by_cases c50 : t591 = t593
                            · rw [if_pos c50] at H
                              have c50b0 : (t591 == t593) = true := beq_iff_eq.mpr c50
                              have c50b1 : (t591 != t593) = false := bne_eq_false_iff_eq.mpr c50
                              clear c50
                              by_cases c51 : t592 = t594
                              · rw [if_pos c51] at H
                                have c51b0 : (t592 == t594) = true := beq_iff_eq.mpr c51
                                have c51b1 : (t592 != t594) = false := bne_eq_false_iff_eq.mpr c51
                                clear c51
                                by_cases c52 : ((t583 == 0) == (t591 == (a0.size : Int))) = true
                                · rw [if_pos c52] at H
                                  have c52b0 : ((t583 == 0) == (t591 == (a0.size : Int))) = true := c52
                                  (try (have c52b1 : decide ((t583 == 0) = (t591 == (a0.size : Int))) = true := by simpa using c52))
                                  (try (have c52b2 : ((t583 == 0) == (t591 == (a0.size : Int))) = true := by simpa using c52))
                                  clear c52
                                  by_cases c53 : t583 = 0
                                  · rw [if_pos c53] at H
                                    have c53b0 : (t583 == 0) = true := beq_iff_eq.mpr c53
                                    have c53b1 : (t583 != 0) = false := bne_eq_false_iff_eq.mpr c53
                                    have cz0 : (t591 == (a0.size : Int)) = true := by rw [c53b0] at c52b0; simpa using c52b0
                                    have cz2 : decide (t591 = (a0.size : Int)) = true := by simpa using cz0
                                    clear c53
                                    by_cases c54 : (t582.size : Int) = t592
                                    · rw [if_pos c54] at H
                                      have c54b0 : ((t582.size : Int) == t592) = true := beq_iff_eq.mpr c54
                                      have c54b1 : ((t582.size : Int) != t592) = false := bne_eq_false_iff_eq.mpr c54
                                      clear c54
                                      replace H := Option.bind_eq_some_iff.mp H
                                      obtain ⟨t599, A550, H⟩ := H
                                      replace H : (some t599) = some true := H
                                      have A55 := Aside0.mk A550
                                      clear A550
                                      have hX_ := Aside0.mk (Option.some.inj H)
                                      clear H
                                      go_wp2_with (first | ((with_reducible refine gate_callee (f := 108) rfl ?_); refine goesL_ (some 84) rfl rfl Try.func108 (by kernel_rfl) rfl #[.slice A1 l1.length c1] rfl (by (try simp only [List.map_toArray, List.map_cons, List.map_nil]); first | done | rfl | (simp only [List.length_drop, List.length_take]; rfl)) ?_; (with_reducible refine (delta_Normal.calls kj25 _ _ l1 t578 t579 _ ?side1 ?side2 A36.out).mono ?_); (case side1 => repeat (first | exact (Kd.C_below HR1.out HB.out) | (with_reducible refine Kd.C_alloc ?_ _) | (with_reducible refine Kd.C_drewN ?_ _) | (with_reducible refine Kd.C_drew ?_))); (case side2 => exact HC1.out); rintro e w56 ⟨v580, rfl, ho0, hb⟩; refine ⟨_, rfl, ?_⟩; have n0_ := Aside0.mk (Kd.R_lower ho0 (below_size (by repeat (first | (with_reducible first | exact HB.out | apply below_alloc | apply pw_below_drewN | apply below_drew1) | exact HB.out)))); have n1_ := Aside0.mk (below_step (by repeat (first | (with_reducible first | exact HB.out | apply below_alloc | apply pw_below_drewN | apply below_drew1) | exact HB.out)) hb); clear HB; have HO581 := n0_; have HB := n1_; clear n0_ n1_; (try clear hb); (try clear hb2); (try clear hk); (try clear hi); (try clear ho0)) | ((with_reducible refine gate_callee (f := 104) rfl ?_); refine goesL_ (some 90) rfl rfl Try.func104 (by kernel_rfl) rfl #[.string a0, .slice A1 l1.length c1] rfl (by (try simp only [List.map_toArray, List.map_cons, List.map_nil]); first | done | rfl | (simp only [List.length_drop, List.length_take]; rfl)) ?_; (with_reducible refine (delta_Apply.calls a0 _ _ l1 t582 t583 _ ?side1 ?side2 A37.out).mono ?_); (case side1 => repeat (first | exact (Kd.C_below HR1.out HB.out) | (with_reducible refine Kd.C_alloc ?_ _) | (with_reducible refine Kd.C_drewN ?_ _) | (with_reducible refine Kd.C_drew ?_))); (case side2 => exact HC1.out); rintro e w57 ⟨rfl, hb⟩; refine ⟨_, rfl, ?_⟩; have n0_ := Aside0.mk (Kd.R_below (by (with_reducible repeat (first | apply Kd.R_alloc | apply Kd.R_drewN | apply Kd.R_drew)); exact HO581.out) hb); have n1_ := Aside0.mk (below_step (by repeat (first | (with_reducible first | exact HB.out | apply below_alloc | apply pw_below_drewN | apply below_drew1) | exact HB.out)) hb); clear HO581; clear HB; have HO581 := n0_; have HB := n1_; clear n0_ n1_; (try clear hb); (try clear hb2); (try clear hk); (try clear hi); obtain ⟨Ao58, co58, eo58⟩ := Kd.R_slice HO581.out; subst eo58) | ((with_reducible refine gate_callee (f := 104) rfl ?_); refine goesL_ (some 99) rfl rfl Try.func104 (by kernel_rfl) rfl #[.string a0, .slice Ao58 t578.length co58] rfl (by (try simp only [List.map_toArray, List.map_cons, List.map_nil]); first | done | rfl | (simp only [List.length_drop, List.length_take]; rfl)) ?_; (with_reducible refine (delta_Apply.calls a0 _ _ t578 t585 t586 _ ?side1 ?side2 A39.out).mono ?_); (case side1 => repeat (first | exact (Kd.R_reads' HO581.out).2.2 | (with_reducible refine Kd.C_alloc ?_ _) | (with_reducible refine Kd.C_drewN ?_ _) | (with_reducible refine Kd.C_drew ?_))); (case side2 => exact (Kd.R_reads' HO581.out).2.1); rintro e w59 ⟨rfl, hb⟩; refine ⟨_, rfl, ?_⟩; have n0_ := Aside0.mk (Kd.R_below (by (with_reducible repeat (first | apply Kd.R_alloc | apply Kd.R_drewN | apply Kd.R_drew)); exact HO581.out) hb); have n1_ := Aside0.mk (below_step (by repeat (first | (with_reducible first | exact HB.out | apply below_alloc | apply pw_below_drewN | apply below_drew1) | exact HB.out)) hb); clear HO581; clear HB; have HO581 := n0_; have HB := n1_; clear n0_ n1_; (try clear hb); (try clear hb2); (try clear hk); (try clear hi)) | ((with_reducible refine gate_callee (f := 108) rfl ?_); refine goesL_ (some 104) rfl rfl Try.func108 (by kernel_rfl) rfl #[.slice Ao58 t578.length co58] rfl (by (try simp only [List.map_toArray, List.map_cons, List.map_nil]); first | done | rfl | (simp only [List.length_drop, List.length_take]; rfl)) ?_; (with_reducible refine (delta_Normal.calls kj25 _ _ t578 t587 t588 _ ?side1 ?side2 A40.out).mono ?_); (case side1 => repeat (first | exact (Kd.R_reads' HO581.out).2.2 | (with_reducible refine Kd.C_alloc ?_ _) | (with_reducible refine Kd.C_drewN ?_ _) | (with_reducible refine Kd.C_drew ?_))); (case side2 => exact (Kd.R_reads' HO581.out).2.1); rintro e w60 ⟨v589, rfl, ho0, hb⟩; refine ⟨_, rfl, ?_⟩; have n0_ := Aside0.mk (Kd.R_elder' (by (with_reducible repeat (first | apply Kd.R_alloc | apply Kd.R_drewN | apply Kd.R_drew)); exact HO581.out) (Kd.R_base ho0) hb); have n1_ := Aside0.mk (Kd.R_lower (Kd.R_new' ho0 (Kd.R_lt (by (with_reducible repeat (first | apply Kd.R_alloc | apply Kd.R_drewN | apply Kd.R_drew)); exact HO581.out))) (below_size (by repeat (first | (with_reducible first | exact HB.out | apply below_alloc | apply pw_below_drewN | apply below_drew1) | exact HB.out)))); have n2_ := Aside0.mk (below_step (by repeat (first | (with_reducible first | exact HB.out | apply below_alloc | apply pw_below_drewN | apply below_drew1) | exact HB.out)) hb); clear HO581; clear HB; have HO581 := n0_; have HO590 := n1_; have HB := n2_; clear n0_ n1_ n2_; (try clear hb); (try clear hb2); (try clear hk); (try clear hi); (try clear ho0)) | ((with_reducible refine gate_callee (f := 106) rfl ?_); refine goesL_ (some 109) rfl rfl Try.func106 (by kernel_rfl) rfl #[.slice A1 l1.length c1] rfl (by (try simp only [List.map_toArray, List.map_cons, List.map_nil]); first | done | rfl | (simp only [List.length_drop, List.length_take]; rfl)) ?_; (with_reducible refine (delta_Sizes.calls kj25 _ _ l1 t591 t592 _ ?side1 ?side2 A41.out).mono ?_); (case side1 => repeat (first | exact (Kd.C_below HR1.out HB.out) | (with_reducible refine Kd.C_alloc ?_ _) | (with_reducible refine Kd.C_drewN ?_ _) | (with_reducible refine Kd.C_drew ?_))); (case side2 => exact HC1.out); rintro e w61 ⟨rfl, hb⟩; refine ⟨_, rfl, ?_⟩; have n0_ := Aside0.mk (Kd.R_below (by (with_reducible repeat (first | apply Kd.R_alloc | apply Kd.R_drewN | apply Kd.R_drew)); exact HO581.out) hb); have n1_ := Aside0.mk (Kd.R_below (by (with_reducible repeat (first | apply Kd.R_alloc | apply Kd.R_drewN | apply Kd.R_drew)); exact HO590.out) hb); have n2_ := Aside0.mk (below_step (by repeat (first | (with_reducible first | exact HB.out | apply below_alloc | apply pw_below_drewN | apply below_drew1) | exact HB.out)) hb); clear HO581; clear HO590; clear HB; have HO581 := n0_; have HO590 := n1_; have HB := n2_; clear n0_ n1_ n2_; (try clear hb); (try clear hb2); (try clear hk); (try clear hi)) | ((with_reducible refine gate_callee (f := 106) rfl ?_); refine goesL_ (some 114) rfl rfl Try.func106 (by kernel_rfl) rfl #[.slice Ao58 t578.length co58] rfl (by (try simp only [List.map_toArray, List.map_cons, List.map_nil]); first | done | rfl | (simp only [List.length_drop, List.length_take]; rfl)) ?_; (with_reducible refine (delta_Sizes.calls kj25 _ _ t578 t593 t594 _ ?side1 ?side2 A42.out).mono ?_); (case side1 => repeat (first | exact (Kd.R_reads' HO581.out).2.2 | (with_reducible refine Kd.C_alloc ?_ _) | (with_reducible refine Kd.C_drewN ?_ _) | (with_reducible refine Kd.C_drew ?_))); (case side2 => exact (Kd.R_reads' HO581.out).2.1); rintro e w62 ⟨rfl, hb⟩; refine ⟨_, rfl, ?_⟩; have n0_ := Aside0.mk (Kd.R_below (by (with_reducible repeat (first | apply Kd.R_alloc | apply Kd.R_drewN | apply Kd.R_drew)); exact HO581.out) hb); have n1_ := Aside0.mk (Kd.R_below (by (with_reducible repeat (first | apply Kd.R_alloc | apply Kd.R_drewN | apply Kd.R_drew)); exact HO590.out) hb); have n2_ := Aside0.mk (below_step (by repeat (first | (with_reducible first | exact HB.out | apply below_alloc | apply pw_below_drewN | apply below_drew1) | exact HB.out)) hb); clear HO581; clear HO590; clear HB; have HO581 := n0_; have HO590 := n1_; have HB := n2_; clear n0_ n1_ n2_; (try clear hb); (try clear hb2); (try clear hk); (try clear hi)) | (go_at_call 103; refine calls_of_args (args' := #[.slice Ao58 t578.length co58]) (by rfl) ?_; (with_reducible refine (chartroomlaw05_refs.calls kj25 _ _ t578 t595 _ ?side1 ?side2 A47.out).mono ?_); (case side1 => repeat (first | exact (Kd.R_reads' HO581.out).2.2 | (with_reducible refine Kd.C_alloc ?_ _) | (with_reducible refine Kd.C_drewN ?_ _) | (with_reducible refine Kd.C_drew ?_))); (case side2 => exact (Kd.R_reads' HO581.out).2.1); rintro e w63 ⟨v596, rfl, ho0, hb⟩; have n0_ := Aside0.mk (Kd.R_below (by (with_reducible repeat (first | apply Kd.R_alloc | apply Kd.R_drewN | apply Kd.R_drew)); exact HO581.out) hb); have n1_ := Aside0.mk (Kd.R_below (by (with_reducible repeat (first | apply Kd.R_alloc | apply Kd.R_drewN | apply Kd.R_drew)); exact HO590.out) hb); have n2_ := Aside0.mk (Kd.R_lower ho0 (below_size (by repeat (first | (with_reducible first | exact HB.out | apply below_alloc | apply pw_below_drewN | apply below_drew1) | exact HB.out)))); have n3_ := Aside0.mk (below_step (by repeat (first | (with_reducible first | exact HB.out | apply below_alloc | apply pw_below_drewN | apply below_drew1) | exact HB.out)) hb); clear HO581; clear HO590; clear HB; have HO581 := n0_; have HO590 := n1_; have HO597 := n2_; have HB := n3_; clear n0_ n1_ n2_ n3_; (try clear hb); (try clear hb2); (try clear hk); (try clear hi); (try clear ho0); obtain ⟨Ao64, co64, eo64⟩ := Kd.R_slice HO590.out; subst eo64; obtain ⟨Ao65, co65, eo65⟩ := Kd.R_slice HO597.out; subst eo65) | (go_at_call 112; refine calls_of_args (args' := #[.slice Ao64 t587.length co64, .slice Ao65 t595.length co65]) (by rfl) ?_; (with_reducible refine (chartroomlaw05_same.calls kj25 _ _ t587 _ _ t595 true _ ?side1 ?side2 ?side3 ?side4 A48.out).mono ?_); (case side1 => repeat (first | exact (Kd.R_reads' HO590.out).2.2 | (with_reducible refine Kd.C_alloc ?_ _) | (with_reducible refine Kd.C_drewN ?_ _) | (with_reducible refine Kd.C_drew ?_))); (case side2 => exact (Kd.R_reads' HO590.out).2.1); (case side3 => repeat (first | exact (Kd.R_reads' HO597.out).2.2 | (with_reducible refine Kd.C_alloc ?_ _) | (with_reducible refine Kd.C_drewN ?_ _) | (with_reducible refine Kd.C_drew ?_))); (case side4 => exact (Kd.R_reads' HO597.out).2.1); rintro e w' ⟨rfl, ⟨nd, rfl⟩⟩) | (go_at_call 102; refine calls_of_args (args' := #[]) (by rfl) ?_; (with_reducible refine (chartroomlaw05_works.calls kj25  t599 _ A55.out).mono ?_); rintro e w66 ⟨rfl, hb⟩; have n0_ := Aside0.mk (Kd.R_below (by (with_reducible repeat (first | apply Kd.R_alloc | apply Kd.R_drewN | apply Kd.R_drew)); exact HO581.out) hb); have n1_ := Aside0.mk (Kd.R_below (by (with_reducible repeat (first | apply Kd.R_alloc | apply Kd.R_drewN | apply Kd.R_drew)); exact HO590.out) hb); have n2_ := Aside0.mk (Kd.R_below (by (with_reducible repeat (first | apply Kd.R_alloc | apply Kd.R_drewN | apply Kd.R_drew)); exact HO597.out) hb); have n3_ := Aside0.mk (below_step (by repeat (first | (with_reducible first | exact HB.out | apply below_alloc | apply pw_below_drewN | apply below_drew1) | exact HB.out)) hb); clear HO581; clear HO590; clear HO597; clear HB; have HO581 := n0_; have HO590 := n1_; have HO597 := n2_; have HB := n3_; clear n0_ n1_ n2_ n3_; (try clear hb); (try clear hb2); (try clear hk); (try clear hi)))
                                      go_ret
                                      exact ⟨by first | rfl | (rw [hX_.out] <;> rfl) | (simp [errW_none, errW_some] <;> rfl) | (simp [*, errW_none, errW_some] <;> rfl), by repeat (first | (with_reducible first | exact HB.out | apply below_alloc | apply pw_below_drewN | apply below_drew1) | exact HB.out)⟩
                                    · rw [if_neg c54] at H
                                      have c54b0 : ((t582.size : Int) == t592) = false := beq_eq_false_iff_ne.mpr c54
                                      have c54b1 : ((t582.size : Int) != t592) = true := bne_iff_ne.mpr c54
                                      exact absurd H (by simp)
                                  · rw [if_neg c53] at H
                                    have c53b0 : (t583 == 0) = false := beq_eq_false_iff_ne.mpr c53
                                    have c53b1 : (t583 != 0) = true := bne_iff_ne.mpr c53
                                    have cz0 : (t591 == (a0.size : Int)) = false := by rw [c53b0] at c52b0; simpa using c52b0
                                    have cz2 : decide (t591 = (a0.size : Int)) = false := by simpa using cz0
                                    replace H := Option.bind_eq_some_iff.mp H
                                    obtain ⟨t600, A670, H⟩ := H
                                    replace H : (some t600) = some true := H
                                    have A67 := Aside0.mk A670
                                    clear A670
                                    have hX_ := Aside0.mk (Option.some.inj H)
                                    clear H
                                    go_wp2_with (first | ((with_reducible refine gate_callee (f := 108) rfl ?_); refine goesL_ (some 84) rfl rfl Try.func108 (by kernel_rfl) rfl #[.slice A1 l1.length c1] rfl (by (try simp only [List.map_toArray, List.map_cons, List.map_nil]); first | done | rfl | (simp only [List.length_drop, List.length_take]; rfl)) ?_; (with_reducible refine (delta_Normal.calls kj25 _ _ l1 t578 t579 _ ?side1 ?side2 A36.out).mono ?_); (case side1 => repeat (first | exact (Kd.C_below HR1.out HB.out) | (with_reducible refine Kd.C_alloc ?_ _) | (with_reducible refine Kd.C_drewN ?_ _) | (with_reducible refine Kd.C_drew ?_))); (case side2 => exact HC1.out); rintro e w68 ⟨v580, rfl, ho0, hb⟩; refine ⟨_, rfl, ?_⟩; have n0_ := Aside0.mk (Kd.R_lower ho0 (below_size (by repeat (first | (with_reducible first | exact HB.out | apply below_alloc | apply pw_below_drewN | apply below_drew1) | exact HB.out)))); have n1_ := Aside0.mk (below_step (by repeat (first | (with_reducible first | exact HB.out | apply below_alloc | apply pw_below_drewN | apply below_drew1) | exact HB.out)) hb); clear HB; have HO581 := n0_; have HB := n1_; clear n0_ n1_; (try clear hb); (try clear hb2); (try clear hk); (try clear hi); (try clear ho0)) | ((with_reducible refine gate_callee (f := 104) rfl ?_); refine goesL_ (some 90) rfl rfl Try.func104 (by kernel_rfl) rfl #[.string a0, .slice A1 l1.length c1] rfl (by (try simp only [List.map_toArray, List.map_cons, List.map_nil]); first | done | rfl | (simp only [List.length_drop, List.length_take]; rfl)) ?_; (with_reducible refine (delta_Apply.calls a0 _ _ l1 t582 t583 _ ?side1 ?side2 A37.out).mono ?_); (case side1 => repeat (first | exact (Kd.C_below HR1.out HB.out) | (with_reducible refine Kd.C_alloc ?_ _) | (with_reducible refine Kd.C_drewN ?_ _) | (with_reducible refine Kd.C_drew ?_))); (case side2 => exact HC1.out); rintro e w69 ⟨rfl, hb⟩; refine ⟨_, rfl, ?_⟩; have n0_ := Aside0.mk (Kd.R_below (by (with_reducible repeat (first | apply Kd.R_alloc | apply Kd.R_drewN | apply Kd.R_drew)); exact HO581.out) hb); have n1_ := Aside0.mk (below_step (by repeat (first | (with_reducible first | exact HB.out | apply below_alloc | apply pw_below_drewN | apply below_drew1) | exact HB.out)) hb); clear HO581; clear HB; have HO581 := n0_; have HB := n1_; clear n0_ n1_; (try clear hb); (try clear hb2); (try clear hk); (try clear hi); obtain ⟨Ao70, co70, eo70⟩ := Kd.R_slice HO581.out; subst eo70) | ((with_reducible refine gate_callee (f := 104) rfl ?_); refine goesL_ (some 99) rfl rfl Try.func104 (by kernel_rfl) rfl #[.string a0, .slice Ao70 t578.length co70] rfl (by (try simp only [List.map_toArray, List.map_cons, List.map_nil]); first | done | rfl | (simp only [List.length_drop, List.length_take]; rfl)) ?_; (with_reducible refine (delta_Apply.calls a0 _ _ t578 t585 t586 _ ?side1 ?side2 A39.out).mono ?_); (case side1 => repeat (first | exact (Kd.R_reads' HO581.out).2.2 | (with_reducible refine Kd.C_alloc ?_ _) | (with_reducible refine Kd.C_drewN ?_ _) | (with_reducible refine Kd.C_drew ?_))); (case side2 => exact (Kd.R_reads' HO581.out).2.1); rintro e w71 ⟨rfl, hb⟩; refine ⟨_, rfl, ?_⟩; have n0_ := Aside0.mk (Kd.R_below (by (with_reducible repeat (first | apply Kd.R_alloc | apply Kd.R_drewN | apply Kd.R_drew)); exact HO581.out) hb); have n1_ := Aside0.mk (below_step (by repeat (first | (with_reducible first | exact HB.out | apply below_alloc | apply pw_below_drewN | apply below_drew1) | exact HB.out)) hb); clear HO581; clear HB; have HO581 := n0_; have HB := n1_; clear n0_ n1_; (try clear hb); (try clear hb2); (try clear hk); (try clear hi)) | ((with_reducible refine gate_callee (f := 108) rfl ?_); refine goesL_ (some 104) rfl rfl Try.func108 (by kernel_rfl) rfl #[.slice Ao70 t578.length co70] rfl (by (try simp only [List.map_toArray, List.map_cons, List.map_nil]); first | done | rfl | (simp only [List.length_drop, List.length_take]; rfl)) ?_; (with_reducible refine (delta_Normal.calls kj25 _ _ t578 t587 t588 _ ?side1 ?side2 A40.out).mono ?_); (case side1 => repeat (first | exact (Kd.R_reads' HO581.out).2.2 | (with_reducible refine Kd.C_alloc ?_ _) | (with_reducible refine Kd.C_drewN ?_ _) | (with_reducible refine Kd.C_drew ?_))); (case side2 => exact (Kd.R_reads' HO581.out).2.1); rintro e w72 ⟨v589, rfl, ho0, hb⟩; refine ⟨_, rfl, ?_⟩; have n0_ := Aside0.mk (Kd.R_elder' (by (with_reducible repeat (first | apply Kd.R_alloc | apply Kd.R_drewN | apply Kd.R_drew)); exact HO581.out) (Kd.R_base ho0) hb); have n1_ := Aside0.mk (Kd.R_lower (Kd.R_new' ho0 (Kd.R_lt (by (with_reducible repeat (first | apply Kd.R_alloc | apply Kd.R_drewN | apply Kd.R_drew)); exact HO581.out))) (below_size (by repeat (first | (with_reducible first | exact HB.out | apply below_alloc | apply pw_below_drewN | apply below_drew1) | exact HB.out)))); have n2_ := Aside0.mk (below_step (by repeat (first | (with_reducible first | exact HB.out | apply below_alloc | apply pw_below_drewN | apply below_drew1) | exact HB.out)) hb); clear HO581; clear HB; have HO581 := n0_; have HO590 := n1_; have HB := n2_; clear n0_ n1_ n2_; (try clear hb); (try clear hb2); (try clear hk); (try clear hi); (try clear ho0)) | ((with_reducible refine gate_callee (f := 106) rfl ?_); refine goesL_ (some 109) rfl rfl Try.func106 (by kernel_rfl) rfl #[.slice A1 l1.length c1] rfl (by (try simp only [List.map_toArray, List.map_cons, List.map_nil]); first | done | rfl | (simp only [List.length_drop, List.length_take]; rfl)) ?_; (with_reducible refine (delta_Sizes.calls kj25 _ _ l1 t591 t592 _ ?side1 ?side2 A41.out).mono ?_); (case side1 => repeat (first | exact (Kd.C_below HR1.out HB.out) | (with_reducible refine Kd.C_alloc ?_ _) | (with_reducible refine Kd.C_drewN ?_ _) | (with_reducible refine Kd.C_drew ?_))); (case side2 => exact HC1.out); rintro e w73 ⟨rfl, hb⟩; refine ⟨_, rfl, ?_⟩; have n0_ := Aside0.mk (Kd.R_below (by (with_reducible repeat (first | apply Kd.R_alloc | apply Kd.R_drewN | apply Kd.R_drew)); exact HO581.out) hb); have n1_ := Aside0.mk (Kd.R_below (by (with_reducible repeat (first | apply Kd.R_alloc | apply Kd.R_drewN | apply Kd.R_drew)); exact HO590.out) hb); have n2_ := Aside0.mk (below_step (by repeat (first | (with_reducible first | exact HB.out | apply below_alloc | apply pw_below_drewN | apply below_drew1) | exact HB.out)) hb); clear HO581; clear HO590; clear HB; have HO581 := n0_; have HO590 := n1_; have HB := n2_; clear n0_ n1_ n2_; (try clear hb); (try clear hb2); (try clear hk); (try clear hi)) | ((with_reducible refine gate_callee (f := 106) rfl ?_); refine goesL_ (some 114) rfl rfl Try.func106 (by kernel_rfl) rfl #[.slice Ao70 t578.length co70] rfl (by (try simp only [List.map_toArray, List.map_cons, List.map_nil]); first | done | rfl | (simp only [List.length_drop, List.length_take]; rfl)) ?_; (with_reducible refine (delta_Sizes.calls kj25 _ _ t578 t593 t594 _ ?side1 ?side2 A42.out).mono ?_); (case side1 => repeat (first | exact (Kd.R_reads' HO581.out).2.2 | (with_reducible refine Kd.C_alloc ?_ _) | (with_reducible refine Kd.C_drewN ?_ _) | (with_reducible refine Kd.C_drew ?_))); (case side2 => exact (Kd.R_reads' HO581.out).2.1); rintro e w74 ⟨rfl, hb⟩; refine ⟨_, rfl, ?_⟩; have n0_ := Aside0.mk (Kd.R_below (by (with_reducible repeat (first | apply Kd.R_alloc | apply Kd.R_drewN | apply Kd.R_drew)); exact HO581.out) hb); have n1_ := Aside0.mk (Kd.R_below (by (with_reducible repeat (first | apply Kd.R_alloc | apply Kd.R_drewN | apply Kd.R_drew)); exact HO590.out) hb); have n2_ := Aside0.mk (below_step (by repeat (first | (with_reducible first | exact HB.out | apply below_alloc | apply pw_below_drewN | apply below_drew1) | exact HB.out)) hb); clear HO581; clear HO590; clear HB; have HO581 := n0_; have HO590 := n1_; have HB := n2_; clear n0_ n1_ n2_; (try clear hb); (try clear hb2); (try clear hk); (try clear hi)) | (go_at_call 103; refine calls_of_args (args' := #[.slice Ao70 t578.length co70]) (by rfl) ?_; (with_reducible refine (chartroomlaw05_refs.calls kj25 _ _ t578 t595 _ ?side1 ?side2 A47.out).mono ?_); (case side1 => repeat (first | exact (Kd.R_reads' HO581.out).2.2 | (with_reducible refine Kd.C_alloc ?_ _) | (with_reducible refine Kd.C_drewN ?_ _) | (with_reducible refine Kd.C_drew ?_))); (case side2 => exact (Kd.R_reads' HO581.out).2.1); rintro e w75 ⟨v596, rfl, ho0, hb⟩; have n0_ := Aside0.mk (Kd.R_below (by (with_reducible repeat (first | apply Kd.R_alloc | apply Kd.R_drewN | apply Kd.R_drew)); exact HO581.out) hb); have n1_ := Aside0.mk (Kd.R_below (by (with_reducible repeat (first | apply Kd.R_alloc | apply Kd.R_drewN | apply Kd.R_drew)); exact HO590.out) hb); have n2_ := Aside0.mk (Kd.R_lower ho0 (below_size (by repeat (first | (with_reducible first | exact HB.out | apply below_alloc | apply pw_below_drewN | apply below_drew1) | exact HB.out)))); have n3_ := Aside0.mk (below_step (by repeat (first | (with_reducible first | exact HB.out | apply below_alloc | apply pw_below_drewN | apply below_drew1) | exact HB.out)) hb); clear HO581; clear HO590; clear HB; have HO581 := n0_; have HO590 := n1_; have HO597 := n2_; have HB := n3_; clear n0_ n1_ n2_ n3_; (try clear hb); (try clear hb2); (try clear hk); (try clear hi); (try clear ho0); obtain ⟨Ao76, co76, eo76⟩ := Kd.R_slice HO590.out; subst eo76; obtain ⟨Ao77, co77, eo77⟩ := Kd.R_slice HO597.out; subst eo77) | (go_at_call 112; refine calls_of_args (args' := #[.slice Ao76 t587.length co76, .slice Ao77 t595.length co77]) (by rfl) ?_; (with_reducible refine (chartroomlaw05_same.calls kj25 _ _ t587 _ _ t595 true _ ?side1 ?side2 ?side3 ?side4 A48.out).mono ?_); (case side1 => repeat (first | exact (Kd.R_reads' HO590.out).2.2 | (with_reducible refine Kd.C_alloc ?_ _) | (with_reducible refine Kd.C_drewN ?_ _) | (with_reducible refine Kd.C_drew ?_))); (case side2 => exact (Kd.R_reads' HO590.out).2.1); (case side3 => repeat (first | exact (Kd.R_reads' HO597.out).2.2 | (with_reducible refine Kd.C_alloc ?_ _) | (with_reducible refine Kd.C_drewN ?_ _) | (with_reducible refine Kd.C_drew ?_))); (case side4 => exact (Kd.R_reads' HO597.out).2.1); rintro e w' ⟨rfl, ⟨nd, rfl⟩⟩) | (go_at_call 102; refine calls_of_args (args' := #[]) (by rfl) ?_; (with_reducible refine (chartroomlaw05_works.calls kj25  t600 _ A67.out).mono ?_); rintro e w78 ⟨rfl, hb⟩; have n0_ := Aside0.mk (Kd.R_below (by (with_reducible repeat (first | apply Kd.R_alloc | apply Kd.R_drewN | apply Kd.R_drew)); exact HO581.out) hb); have n1_ := Aside0.mk (Kd.R_below (by (with_reducible repeat (first | apply Kd.R_alloc | apply Kd.R_drewN | apply Kd.R_drew)); exact HO590.out) hb); have n2_ := Aside0.mk (Kd.R_below (by (with_reducible repeat (first | apply Kd.R_alloc | apply Kd.R_drewN | apply Kd.R_drew)); exact HO597.out) hb); have n3_ := Aside0.mk (below_step (by repeat (first | (with_reducible first | exact HB.out | apply below_alloc | apply pw_below_drewN | apply below_drew1) | exact HB.out)) hb); clear HO581; clear HO590; clear HO597; clear HB; have HO581 := n0_; have HO590 := n1_; have HO597 := n2_; have HB := n3_; clear n0_ n1_ n2_ n3_; (try clear hb); (try clear hb2); (try clear hk); (try clear hi)))
                                    go_ret
                                    exact ⟨by first | rfl | (rw [hX_.out] <;> rfl) | (simp [errW_none, errW_some] <;> rfl) | (simp [*, errW_none, errW_some] <;> rfl), by repeat (first | (with_reducible first | exact HB.out | apply below_alloc | apply pw_below_drewN | apply below_drew1) | exact HB.out)⟩
                                · rw [if_neg c52] at H
                                  have c52b0 : ((t583 == 0) == (t591 == (a0.size : Int))) = false := by simpa using c52
                                  (try (have c52b1 : decide ((t583 == 0) = (t591 == (a0.size : Int))) = false := by simpa using c52))
                                  (try (have c52b2 : ((t583 == 0) == (t591 == (a0.size : Int))) = false := by simpa using c52))
                                  (try (have c52b3 : ¬ ((t583 == 0) = (t591 == (a0.size : Int))) := by simpa using c52))
                                  clear c52
                                  exact absurd H (by simp)
                              · rw [if_neg c51] at H
                                have c51b0 : (t592 == t594) = false := beq_eq_false_iff_ne.mpr c51
                                have c51b1 : (t592 != t594) = true := bne_iff_ne.mpr c51
                                exact absurd H (by simp)
                            · rw [if_neg c50] at H
                              have c50b0 : (t591 == t593) = false := beq_eq_false_iff_ne.mpr c50
                              have c50b1 : (t591 != t593) = true := bne_iff_ne.mpr c50
                              exact absurd H (by simp)
                          · replace c49 := Bool.eq_false_iff.mpr c49
                            subst c49
                            have H1 : (some false) = some true := by rw [if_neg (show ¬ (false = true) by decide)] at H; exact H
                            clear H
                            have H := H1
                            clear H1
                            exact absurd H (by simp)
                        · rw [if_neg c46] at H
                          have c46b0 : (t588 == 0) = false := beq_eq_false_iff_ne.mpr c46
                          have c46b1 : (t588 != 0) = true := bne_iff_ne.mpr c46
                          exact absurd H (by simp)
                    · rw [if_neg c44] at H
                      have c44b0 : (t586 == t583) = false := beq_eq_false_iff_ne.mpr c44
                      have c44b1 : (t586 != t583) = true := bne_iff_ne.mpr c44
                      exact absurd H (by simp)
                  · rw [if_neg c43] at H
                    have c43b0 : (t585.toList == t582.toList) = false := beq_eq_false_iff_ne.mpr c43
                    have c43b1 : (t585.toList != t582.toList) = true := bne_iff_ne.mpr c43
                    exact absurd H (by simp)
                · rw [if_neg c38] at H
                  have c38b0 : (t579 == 0) = false := beq_eq_false_iff_ne.mpr c38
                  have c38b1 : (t579 != 0) = true := bne_iff_ne.mpr c38
                  replace H := Option.bind_eq_some_iff.mp H
                  obtain ⟨t584, A790, H⟩ := H
                  replace H : (some t584) = some true := H
                  have A79 := Aside0.mk A790
                  clear A790
                  have hX_ := Aside0.mk (Option.some.inj H)
                  clear H
                  go_wp2_with (first | ((with_reducible refine gate_callee (f := 108) rfl ?_); refine goesL_ (some 84) rfl rfl Try.func108 (by kernel_rfl) rfl #[.slice A1 l1.length c1] rfl (by (try simp only [List.map_toArray, List.map_cons, List.map_nil]); first | done | rfl | (simp only [List.length_drop, List.length_take]; rfl)) ?_; (with_reducible refine (delta_Normal.calls kj25 _ _ l1 t578 t579 _ ?side1 ?side2 A36.out).mono ?_); (case side1 => repeat (first | exact (Kd.C_below HR1.out HB.out) | (with_reducible refine Kd.C_alloc ?_ _) | (with_reducible refine Kd.C_drewN ?_ _) | (with_reducible refine Kd.C_drew ?_))); (case side2 => exact HC1.out); rintro e w80 ⟨v580, rfl, ho0, hb⟩; refine ⟨_, rfl, ?_⟩; have n0_ := Aside0.mk (Kd.R_lower ho0 (below_size (by repeat (first | (with_reducible first | exact HB.out | apply below_alloc | apply pw_below_drewN | apply below_drew1) | exact HB.out)))); have n1_ := Aside0.mk (below_step (by repeat (first | (with_reducible first | exact HB.out | apply below_alloc | apply pw_below_drewN | apply below_drew1) | exact HB.out)) hb); clear HB; have HO581 := n0_; have HB := n1_; clear n0_ n1_; (try clear hb); (try clear hb2); (try clear hk); (try clear hi); (try clear ho0)) | ((with_reducible refine gate_callee (f := 104) rfl ?_); refine goesL_ (some 90) rfl rfl Try.func104 (by kernel_rfl) rfl #[.string a0, .slice A1 l1.length c1] rfl (by (try simp only [List.map_toArray, List.map_cons, List.map_nil]); first | done | rfl | (simp only [List.length_drop, List.length_take]; rfl)) ?_; (with_reducible refine (delta_Apply.calls a0 _ _ l1 t582 t583 _ ?side1 ?side2 A37.out).mono ?_); (case side1 => repeat (first | exact (Kd.C_below HR1.out HB.out) | (with_reducible refine Kd.C_alloc ?_ _) | (with_reducible refine Kd.C_drewN ?_ _) | (with_reducible refine Kd.C_drew ?_))); (case side2 => exact HC1.out); rintro e w81 ⟨rfl, hb⟩; refine ⟨_, rfl, ?_⟩; have n0_ := Aside0.mk (Kd.R_below (by (with_reducible repeat (first | apply Kd.R_alloc | apply Kd.R_drewN | apply Kd.R_drew)); exact HO581.out) hb); have n1_ := Aside0.mk (below_step (by repeat (first | (with_reducible first | exact HB.out | apply below_alloc | apply pw_below_drewN | apply below_drew1) | exact HB.out)) hb); clear HO581; clear HB; have HO581 := n0_; have HB := n1_; clear n0_ n1_; (try clear hb); (try clear hb2); (try clear hk); (try clear hi)) | ((with_reducible refine gate_callee (f := 102) rfl ?_); refine goesL_ (some 95) rfl rfl Try.func102 (by kernel_rfl) rfl #[] rfl (by (try simp only [List.map_toArray, List.map_cons, List.map_nil]); first | done | rfl | (simp only [List.length_drop, List.length_take]; rfl)) ?_; (with_reducible refine (chartroomlaw05_works.calls kj25  t584 _ A79.out).mono ?_); rintro e w82 ⟨rfl, hb⟩; refine ⟨_, rfl, ?_⟩; have n0_ := Aside0.mk (Kd.R_below (by (with_reducible repeat (first | apply Kd.R_alloc | apply Kd.R_drewN | apply Kd.R_drew)); exact HO581.out) hb); have n1_ := Aside0.mk (below_step (by repeat (first | (with_reducible first | exact HB.out | apply below_alloc | apply pw_below_drewN | apply below_drew1) | exact HB.out)) hb); clear HO581; clear HB; have HO581 := n0_; have HB := n1_; clear n0_ n1_; (try clear hb); (try clear hb2); (try clear hk); (try clear hi)))
                  go_ret
                  exact ⟨by first | rfl | (rw [hX_.out] <;> rfl) | (simp [errW_none, errW_some] <;> rfl) | (simp [*, errW_none, errW_some] <;> rfl), by repeat (first | (with_reducible first | exact HB.out | apply below_alloc | apply pw_below_drewN | apply below_drew1) | exact HB.out)⟩
end Go.Proofs.Ytoeabgeglgiobaa.P
