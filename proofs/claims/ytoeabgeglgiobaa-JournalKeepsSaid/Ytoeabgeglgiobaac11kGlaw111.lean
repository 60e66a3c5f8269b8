/- What functions of the given program do, each as a plain Lean function that its call meets: printed by a program of this session out of the translation, checked by Lean. Its conditions: those of each theorem. -/
import Derived.Test.Ytoeabgeglgiobaac11kHconv2
import Derived.Test.Ytoeabgeglgiobaac11kP0
import Derived.Test.Ytoeabgeglgiobaac11kGeq
import Derived.Test.Ytoeabgeglgiobaac11kGjournal1
import Derived.Test.Ytoeabgeglgiobaac11kHframe
import Derived.Test.Ytoeabgeglgiobaac11kHjournalWhole
namespace Go.Proofs.Ytoeabgeglgiobaa.P
open Go.RowKit Go.Proofs.YtoeabgeglgiobaaW.PrintWords Go.Proofs.YtoeabgeglgiobaaW.PrintLast Go.Proofs.YtoeabgeglgiobaaW.PrintMore
attribute [local go_sem] max2_int min2_int max_two min_two max_three min_three max_four min_four   -- for this text's walks alone
set_option linter.unusedVariables false
set_option linter.unusedSimpArgs false
section
attribute [local go_sem high] eqA92
/-! ### chartroomlaw11_works: function 89 -/
def chartroomlaw11_works.j0 : Nat → List Int → Bool → Option (Bool)
  | 0, _, _ => none
  | k + 1, x1, x35 => if x35 = true then (some false) else (if 13 ≤ (x1.length : Int) then ((journal_Append.f k (x1.take 13) (([99] : List Int))).bind fun bt1640 => ((journal_Of.f (([99] : List Int))).bind fun bt1651 => ((journal_Get.f k bt1640.1 8 bt1651.1 bt1651.2).bind fun bt1653 => ((journal_Of.f (([99] : List Int))).bind fun bt1660 => ((journal_Get.f k bt1640.1 0 bt1660.1 bt1660.2).bind fun bt1662 => (if bt1640.2.2.2.2 = 0 then (if (bt1640.1.length : Int) = 15 then (if bt1640.2.1 = 8 then ((journal_Of.f (([99] : List Int))).bind fun bt1669 => (if (bt1640.2.2.1 == bt1669.1 && (bt1640.2.2.2.1 == bt1669.2)) = true then (if bt1653.2 = 0 then (if (strOfNums bt1653.1).toList = ([99] : List UInt8) then (some (bt1662.2 == 110)) else (some false)) else (some false)) else (some false))) else (some false)) else (some false)) else (some false))))))) else (none))
def chartroomlaw11_works.f (k : Nat)  : Option (Bool) := (journal_Put.f k (([(([97, 98] : List Int)), []] : List (List Int)))).bind fun bt1621 => (if bt1621.2 = 0 then (if (bt1621.1.length : Int) = 14 then ((journal_Whole.f bt1621.1).bind fun t1625 => (if t1625 = 14 then (if 13 ≤ (bt1621.1.length : Int) then ((journal_Whole.f (bt1621.1.take 13)).bind fun t1631 => (chartroomlaw11_works.j0 k bt1621.1 (t1631 != 8))) else (none)) else (chartroomlaw11_works.j0 k bt1621.1 true))) else (chartroomlaw11_works.j0 k bt1621.1 true)) else (chartroomlaw11_works.j0 k bt1621.1 true))
theorem chartroomlaw11_works.mono_l : ∀ k, (∀ y0 y1, LeO (chartroomlaw11_works.j0 k y0 y1) (chartroomlaw11_works.j0 (k + 1) y0 y1))
  | 0 => fun _ _ r h => by simp [chartroomlaw11_works.j0] at h
  | k + 1 => by
    have ih0 := chartroomlaw11_works.mono_l k
    · intro y0 y1
      unfold chartroomlaw11_works.j0
      repeat' first
      | (with_reducible exact ih0 _ _)
      | (with_reducible exact journal_Append.mono _ _ _)
      | (with_reducible exact journal_Get.mono _ _ _ _ _)
      | (with_reducible exact journal_Put.mono _ _)
      | (with_reducible exact LeO.refl _)
      | (with_reducible exact LeO.none _)
      | (with_reducible refine LeO.ite ?_ ?_)
      | (with_reducible refine LeO.bind ?_ (fun _ => ?_))
      | exact ih0 _ _
      | exact journal_Append.mono _ _ _
      | exact journal_Get.mono _ _ _ _ _
      | exact journal_Put.mono _ _
      | exact LeO.none _
      | refine LeO.ite ?_ ?_
      | refine LeO.bind ?_ (fun _ => ?_)
theorem chartroomlaw11_works.mono : ∀ k, LeO (chartroomlaw11_works.f k ) (chartroomlaw11_works.f (k + 1) ) := by
  intro  k
  have ih0 := chartroomlaw11_works.mono_l k
  unfold chartroomlaw11_works.f
  repeat' first
      | (with_reducible exact ih0 _ _)
      | (with_reducible exact journal_Append.mono _ _ _)
      | (with_reducible exact journal_Get.mono _ _ _ _ _)
      | (with_reducible exact journal_Put.mono _ _)
      | (with_reducible exact LeO.refl _)
      | (with_reducible exact LeO.none _)
      | (with_reducible refine LeO.ite ?_ ?_)
      | (with_reducible refine LeO.bind ?_ (fun _ => ?_))
      | exact ih0 _ _
      | exact journal_Append.mono _ _ _
      | exact journal_Get.mono _ _ _ _ _
      | exact journal_Put.mono _ _
      | exact LeO.none _
      | refine LeO.ite ?_ ?_
      | refine LeO.bind ?_ (fun _ => ?_)
def chartroomlaw11_works.T7 : Bool × List (List Nat × List Nat) := (true, [([], []), ([0], [0]), ([1], [1]), ([2], [2]), ([3, 2], [2, 3]), ([4, 2], [2, 4]), ([2, 5], [2, 5]), ([6, 2], [6]), ([7], [7]), ([8, 7], [7, 8]), ([7, 9], [7, 9]), ([10, 7], [10]), ([11], [11]), ([11], [11]), ([13, 11], [11, 13]), ([14, 11, 11], [11, 14]), ([12, 15, 11], [11, 12, 15]), ([11, 16], [11, 16]), ([17, 15], [17]), ([18], [18]), ([19, 18], [18, 19]), ([18, 20], [18, 20]), ([21, 18], [21]), ([22], [22]), ([23, 22], [22, 23]), ([24, 22], [22, 24]), ([22, 25], [22, 25]), ([26, 22], [26]), ([27], [27]), ([28, 27], [27, 28]), ([27, 29], [27, 29]), ([30, 27, 0, 1, 2, 3, 4, 5, 6, 7, 8, 9, 10, 11, 12, 13, 14, 15, 16, 17, 18, 19, 20, 21, 22, 23, 24, 25, 26, 27, 28, 29, 30], [30])])
def chartroomlaw11_works.B7 : List Nat := [0, 1, 3, 7, 15, 31, 63, 127, 255, 511, 1023, 2047, 4095, 4095, 12287, 28671, 65535, 131071, 262143, 524287, 1048575, 2097151, 4194303, 8388607, 16777215, 33554431, 67108863, 134217727, 268435455, 536870911, 1073741823, 2147483647]
theorem chartroomlaw11_works.tab7 : rtab .any (opsOf Try.f89 7) = chartroomlaw11_works.T7 := by kernel_rfl
theorem chartroomlaw11_works.bits7 : waitsOk chartroomlaw11_works.T7.2 chartroomlaw11_works.B7 = true := by kernel_rfl
set_option maxHeartbeats 8000000 in
set_option maxRecDepth 100000 in
theorem chartroomlaw11_works.calls (k : Nat)  (r : Bool) (w : World) (h : chartroomlaw11_works.f k  = some r) (hT_ : r = true := by first | rfl | assumption | exact Aside0.out (by assumption)) :
    Calls Try.prog 89 #[] w fun e w' => e = .returned (.bool r) ∧ Below w.heap.size w w' := by
  subst hT_
  have hu92 := Try.underlying92
  have HB := Aside0.mk (Below.refl w.heap.size w)
  have H : ((journal_Put.f k (([(([97, 98] : List Int)), []] : List (List Int)))).bind fun bt1621 => (if bt1621.2 = 0 then (if (bt1621.1.length : Int) = 14 then ((journal_Whole.f bt1621.1).bind fun t1625 => (if t1625 = 14 then (if 13 ≤ (bt1621.1.length : Int) then ((journal_Whole.f (bt1621.1.take 13)).bind fun t1631 => (chartroomlaw11_works.j0 k bt1621.1 (t1631 != 8))) else (none)) else (chartroomlaw11_works.j0 k bt1621.1 true))) else (chartroomlaw11_works.j0 k bt1621.1 true)) else (chartroomlaw11_works.j0 k bt1621.1 true))) = some true := h
  clear h
  obtain ⟨y1615, hy1615⟩ : ∃ y_ : List Int, y_ = (([97, 98] : List Int)) := ⟨_, rfl⟩
  replace H : ((journal_Put.f k (([y1615, []] : List (List Int)))).bind fun bt1621 => (if bt1621.2 = 0 then (if (bt1621.1.length : Int) = 14 then ((journal_Whole.f bt1621.1).bind fun t1625 => (if t1625 = 14 then (if 13 ≤ (bt1621.1.length : Int) then ((journal_Whole.f (bt1621.1.take 13)).bind fun t1631 => (chartroomlaw11_works.j0 k bt1621.1 (t1631 != 8))) else (none)) else (chartroomlaw11_works.j0 k bt1621.1 true))) else (chartroomlaw11_works.j0 k bt1621.1 true)) else (chartroomlaw11_works.j0 k bt1621.1 true))) = some true := by first | (rw [hy1615]; with_reducible exact H) | (have H2_ := (Option.bind_some _ _).symm.trans H; rw [hy1615]; with_reducible exact H2_) | (have H2_ := (Option.bind_some _ _).symm.trans H; with_reducible exact H2_) | with_reducible exact H | (rw [hy1615]; exact H) | exact H
  have Ny1615 := Aside0.mk hy1615
  clear hy1615
  obtain ⟨y1618, hy1618⟩ : ∃ y_ : List (List Int), y_ = (([y1615, []] : List (List Int))) := ⟨_, rfl⟩
  replace H : ((journal_Put.f k y1618).bind fun bt1621 => (if bt1621.2 = 0 then (if (bt1621.1.length : Int) = 14 then ((journal_Whole.f bt1621.1).bind fun t1625 => (if t1625 = 14 then (if 13 ≤ (bt1621.1.length : Int) then ((journal_Whole.f (bt1621.1.take 13)).bind fun t1631 => (chartroomlaw11_works.j0 k bt1621.1 (t1631 != 8))) else (none)) else (chartroomlaw11_works.j0 k bt1621.1 true))) else (chartroomlaw11_works.j0 k bt1621.1 true)) else (chartroomlaw11_works.j0 k bt1621.1 true))) = some true := by first | (rw [hy1618]; with_reducible exact H) | (have H2_ := (Option.bind_some _ _).symm.trans H; rw [hy1618]; with_reducible exact H2_) | (have H2_ := (Option.bind_some _ _).symm.trans H; with_reducible exact H2_) | with_reducible exact H | (rw [hy1618]; exact H) | exact H
  have Ny1618 := Aside0.mk hy1618
  clear hy1618
  replace H := Option.bind_eq_some_iff.mp H
  obtain ⟨⟨t1621, t1624⟩, A10, H⟩ := H
  replace H : (if t1624 = 0 then (if (t1621.length : Int) = 14 then ((journal_Whole.f t1621).bind fun t1625 => (if t1625 = 14 then (if 13 ≤ (t1621.length : Int) then ((journal_Whole.f (t1621.take 13)).bind fun t1631 => (chartroomlaw11_works.j0 k t1621 (t1631 != 8))) else (none)) else (chartroomlaw11_works.j0 k t1621 true))) else (chartroomlaw11_works.j0 k t1621 true)) else (chartroomlaw11_works.j0 k t1621 true)) = some true := H
  have A1 := Aside0.mk A10
  clear A10
  have HC2 := Aside0.mk H
  clear H
  go_enter Try.func89, Try.ntmps89
  go_upto_region 2 with (first | ((with_reducible refine gate_dst (N := 12) rfl ?_); (try (refine gate_guard (by rfl) ?_; dsimp only)); refine Kd.R_lit (Kd.int .u8) _ 5 ?hg (N := 12) ?hd (xs := ([97, 98] : List Int)) (inner := [.int .u8 97, .int .u8 98]) (ok := fun _ => True) (okp := fun _ => True) ?hr ?hp (fun _ hk => hk) trivial (Below.refl _ _) (Nat.le_refl _) (by simp) ?_; (case hd => rfl); (case hg => rfl); (case hr => first | (go_simp; done) | (go_simp; rfl)); (case hp => exact (Reps.one (show Kd.M (Kd.int .u8) _ _ _ 97 [.int .u8 97] from rfl) (Reps.one (show Kd.M (Kd.int .u8) _ _ _ 98 [.int .u8 98] from rfl) (Reps.none _ _)))); intro v1616 w30 ho40 hb0 hg_ hnew_; (try (refine gate_guard (by rfl) ?_; dsimp only)); refine Kd.lit_conv ?hg (N := 13) ?hd 24 Try.underlying24 Try.underlying5 ?hr ho40 hb0 hnew_ ?_; (case hd => rfl); (case hg => rfl); (case hr => intro w9_ hc_; first | (go_simp; done) | (go_simp; rw [hc_]; done) | (go_simp; rw [hc_]; rfl)); clear ho40 hb0 hg_ hnew_; intro w3 ho4 hb; (first | rw [← Ny1615.out] at ho4 | (simp only [Int.reduceToNat] at ho4; rw [← Ny1615.out] at ho4)); have n0_ := Aside0.mk (Kd.V_lower (Kd.V_mono (ok' := fun k_ => True) ho4 (fun k_ hk_ => trivial)) (below_size (by repeat (first | (with_reducible first | exact HB.out | apply below_alloc | apply pw_below_drewN | apply below_drew1) | exact HB.out)))); have n1_ := Aside0.mk (below_step (by repeat (first | (with_reducible first | exact HB.out | apply below_alloc | apply pw_below_drewN | apply below_drew1) | exact HB.out)) hb); clear HB; have HO1617 := n0_; have HB := n1_; clear n0_ n1_; clear hb ho4; obtain ⟨Ao5, co5, eo5⟩ := Kd.V_slice HO1617.out; subst eo5) | ((with_reducible refine gate_dst (N := 14) rfl ?_); (try (refine gate_guard (by rfl) ?_; dsimp only)); refine Kd.N_lit (Kd.slice 5 (Kd.int .u8)) _ 24 ?hg (N' := 14) ?hd (xs := ([y1615, []] : List (List Int))) (inner := [.slice Ao5 y1615.length co5, .slice none 0 0]) (ok := (fun _ => True)) (okp := (fun _ => True)) ?hr ?hp (fun _ hk => hk) ((show ∀ k_, w3.heap.size ≤ k_ → (fun _ => True) k_ from fun k_ hk => trivial) _ (Nat.le_refl _)) (Below.refl _ _) (Nat.le_refl _) (by simp) ?_; (case hd => rfl); (case hg => rfl); (case hr => first | (go_simp; done) | (go_simp; rfl)); (case hp => exact (Reps.one (show Kd.FK (Kd.slice 5 (Kd.int .u8)) _ _ y1615 [.slice Ao5 y1615.length co5] from (Kd.FK_slice_mk (Kd.V_reads' (Kd.V_mono (ok' := (fun _ => True)) (HO1617.out) (fun k_ hk => trivial))).2.1 (Kd.V_F (Kd.V_mono (ok' := (fun _ => True)) (HO1617.out) (fun k_ hk => trivial))))) (Reps.one (show Kd.FK (Kd.slice 5 (Kd.int .u8)) _ _ [] [.slice none 0 0] from (Kd.FK_slice_mk (Nat.le_refl _) (Kd.F_nil _ _ _))) (Reps.none _ _)))); intro v1619 w6 ho7 hb hg_ hnew_; clear hg_ hnew_; (first | rw [← Ny1618.out] at ho7 | (simp only [Int.reduceToNat] at ho7; rw [← Ny1618.out] at ho7)); have n0_ := Aside0.mk (Kd.V_elder' (by (with_reducible repeat (first | apply Kd.V_alloc | apply Kd.V_drewN | apply Kd.V_drew)); exact HO1617.out) (Kd.N_base ho7) hb); have n1_ := Aside0.mk (Kd.N_lower ho7 (below_size (by repeat (first | (with_reducible first | exact HB.out | apply below_alloc | apply pw_below_drewN | apply below_drew1) | exact HB.out)))); have n2_ := Aside0.mk (below_step (by repeat (first | (with_reducible first | exact HB.out | apply below_alloc | apply pw_below_drewN | apply below_drew1) | exact HB.out)) hb); clear HO1617; clear HB; have HO1617 := n0_; have HO1620 := n1_; have HB := n2_; clear n0_ n1_ n2_; clear hb ho7; obtain ⟨Ao8, co8, eo8⟩ := Kd.N_slice HO1620.out; subst eo8) | ((with_reducible refine gate_callee (f := 92) rfl ?_); refine goesL_ (some 15) rfl rfl Try.func92 (by kernel_rfl) rfl #[.slice Ao8 y1618.length co8] rfl (by (try simp only [List.map_toArray, List.map_cons, List.map_nil]); first | done | rfl | (simp only [List.length_drop, List.length_take]; rfl)) ?_; (with_reducible refine (journal_Put.calls k (fun k_ => True) _ _ y1618 t1621 t1624 _ ?side1 A1.out).mono ?_); (case side1 => exact Kd.N_V (HO1620.out)); rintro e w9 ⟨v1622, rfl, ho0, hb⟩; refine ⟨_, rfl, ?_⟩; have n0_ := Aside0.mk (Kd.V_elder' (by (with_reducible repeat (first | apply Kd.V_alloc | apply Kd.V_drewN | apply Kd.V_drew)); exact HO1617.out) (Kd.R_base ho0) hb); have n1_ := Aside0.mk (Kd.N_elder' (by (with_reducible repeat (first | apply Kd.N_alloc | apply Kd.N_drewN | apply Kd.N_drew)); exact HO1620.out) (Kd.R_base ho0) hb); have n2_ := Aside0.mk (Kd.R_lower (Kd.R_mono (ok' := fun k_ => True) ho0 (fun _ hk_ => trivial)) (below_size (by repeat (first | (with_reducible first | exact HB.out | apply below_alloc | apply pw_below_drewN | apply below_drew1) | exact HB.out)))); have n3_ := Aside0.mk (below_step (by repeat (first | (with_reducible first | exact HB.out | apply below_alloc | apply pw_below_drewN | apply below_drew1) | exact HB.out)) hb); clear HO1617; clear HO1620; clear HB; have HO1617 := n0_; have HO1620 := n1_; have HO1623 := n2_; have HB := n3_; clear n0_ n1_ n2_ n3_; (try clear hb); (try clear hb2); (try clear hk); (try clear hi); (try clear ho0)))
  (try simp only [Act.put, List.setIfInBounds_toArray, List.set_cons_zero, List.set_cons_succ])
  go_cut [35] (fun v35 wc => ∃ (kq : Nat) (x35_1 : Bool), v35 = .bool x35_1 ∧ Aside0 (chartroomlaw11_works.j0 kq t1621 x35_1 = some true) ∧ Aside0 (kq ≤ k) ∧ Aside0 (Kd.R (Kd.int .u8) 5 wc w.heap.size (fun _ => True) v1622 t1621) ∧ Aside0 (Below w.heap.size w wc))
  case first =>
    have H := HC2.out
    clear HC2
    by_cases c10 : t1624 = 0
    · rw [if_pos c10] at H
      have c10b0 : (t1624 == 0) = true := beq_iff_eq.mpr c10
      have c10b1 : (t1624 != 0) = false := bne_eq_false_iff_eq.mpr c10
      clear c10
      (first | rw [c10b0] | (simp only [i64_w, i32_w]; rw [c10b0]) | skip)
      by_cases c11 : (t1621.length : Int) = 14
      · rw [if_pos c11] at H
        have c11b0 : ((t1621.length : Int) == 14) = true := beq_iff_eq.mpr c11
        have c11b1 : ((t1621.length : Int) != 14) = false := bne_eq_false_iff_eq.mpr c11
        clear c11
        replace H := Option.bind_eq_some_iff.mp H
        obtain ⟨t1625, A120, H⟩ := H
        replace H : (if t1625 = 14 then (if 13 ≤ (t1621.length : Int) then ((journal_Whole.f (t1621.take 13)).bind fun t1631 => (chartroomlaw11_works.j0 k t1621 (t1631 != 8))) else (none)) else (chartroomlaw11_works.j0 k t1621 true)) = some true := H
        have A12 := Aside0.mk A120
        clear A120
        by_cases c13 : t1625 = 14
        · rw [if_pos c13] at H
          have c13b0 : (t1625 == 14) = true := beq_iff_eq.mpr c13
          have c13b1 : (t1625 != 14) = false := bne_eq_false_iff_eq.mpr c13
          clear c13
          by_cases c14 : 13 ≤ (t1621.length : Int)
          · rw [if_pos c14] at H
            have c14b0 := eq_true c14
            have c14b1 : decide (13 ≤ (t1621.length : Int)) = true := decide_eq_true c14
            clear c14
            obtain ⟨y1626, hy1626⟩ : ∃ y_ : List Int, y_ = (t1621.take 13) := ⟨_, rfl⟩
            replace H : ((journal_Whole.f y1626).bind fun t1631 => (chartroomlaw11_works.j0 k t1621 (t1631 != 8))) = some true := by first | (rw [hy1626]; with_reducible exact H) | (have H2_ := (Option.bind_some _ _).symm.trans H; rw [hy1626]; with_reducible exact H2_) | (have H2_ := (Option.bind_some _ _).symm.trans H; with_reducible exact H2_) | with_reducible exact H | (rw [hy1626]; exact H) | exact H
            have Ny1626 := Aside0.mk hy1626
            clear hy1626
            replace H := Option.bind_eq_some_iff.mp H
            obtain ⟨t1631, A150, H⟩ := H
            replace H : (chartroomlaw11_works.j0 k t1621 (t1631 != 8)) = some true := H
            have A15 := Aside0.mk A150
            clear A150
            have H' := Aside0.mk H
            clear H
            obtain ⟨Ao16, co16, eo16⟩ := Kd.R_slice HO1623.out
            subst eo16
            go_wp2_with (first | (go_at_call 96; (with_reducible refine (journal_Whole.calls _ _ t1621 t1625 _ ?side1 ?side2 A12.out).mono ?_); (case side1 => repeat (first | exact (Kd.R_reads' HO1623.out).2.2 | (with_reducible refine Kd.C_alloc ?_ _) | (with_reducible refine Kd.C_drewN ?_ _) | (with_reducible refine Kd.C_drew ?_))); (case side2 => exact (Kd.R_reads' HO1623.out).2.1); rintro e w17 ⟨rfl, hb⟩; have n0_ := Aside0.mk (Kd.V_below (by (with_reducible repeat (first | apply Kd.V_alloc | apply Kd.V_drewN | apply Kd.V_drew)); exact HO1617.out) hb); have n1_ := Aside0.mk (Kd.N_below (by (with_reducible repeat (first | apply Kd.N_alloc | apply Kd.N_drewN | apply Kd.N_drew)); exact HO1620.out) hb); have n2_ := Aside0.mk (Kd.R_below (by (with_reducible repeat (first | apply Kd.R_alloc | apply Kd.R_drewN | apply Kd.R_drew)); exact HO1623.out) hb); have n3_ := Aside0.mk (below_step (by repeat (first | (with_reducible first | exact HB.out | apply below_alloc | apply pw_below_drewN | apply below_drew1) | exact HB.out)) hb); clear HO1617; clear HO1620; clear HO1623; clear HB; have HO1617 := n0_; have HO1620 := n1_; have HO1623 := n2_; have HB := n3_; clear n0_ n1_ n2_ n3_; (try clear hb); (try clear hb2); (try clear hk); (try clear hi); have q18 : (13 : Int) ≤ ((t1621.length : Int) : Int) := of_decide_eq_true (by first | (with_reducible assumption) | assumption); obtain ⟨i018, hi018, _, hsz18, _⟩ := info_parts info5; have hroom18 : t1621.length ≤ co16 := (Kd.R_reads' HO1623.out).2.1; have hC18 : Kd.F (Kd.int .u8) _ _ Ao16 t1621.length t1621 := (Kd.V_at (base := w.heap.size) (Kd.R_V (Kd.R_apart' (HO1623.out) (Kd.N_typed HO1620.out) (by decide)))).2.2; have hcut18 := cut_to (P := Try.prog) 24 5 .i64 Try.underlying24 hi018 Ao16 t1621.length co16 13 (by omega) q18 hroom18; have hr18 := Kd.F_take (m := 13) hC18 (by omega); have hy18 : y1626.length = (13 : Int).toNat := (by rw [Ny1626.out, List.length_take]; omega); rw [← Ny1626.out] at hr18; rw [← hy18] at hcut18; have HO1630 := Aside0.mk (show Kd.V (Kd.int .u8) 5 _ w.heap.size _ (.slice Ao16 y1626.length co16) y1626 from Kd.V_mk (by omega) hr18); have HC1630 := Aside0.mk (show y1626.length ≤ co16 from by omega); clear hr18 hC18 hroom18 hi018 hsz18; have KY18 := Aside0.mk hy18; clear hy18; replace q18 := eq_true q18) | (go_at_call 96; (with_reducible refine (journal_Whole.calls _ _ y1626 t1631 _ ?side1 ?side2 A15.out).mono ?_); (case side1 => repeat (first | exact (Kd.V_reads' HO1630.out).2.2 | (with_reducible refine Kd.C_alloc ?_ _) | (with_reducible refine Kd.C_drewN ?_ _) | (with_reducible refine Kd.C_drew ?_))); (case side2 => exact (Kd.V_reads' HO1630.out).2.1); rintro e w19 ⟨rfl, hb⟩; have n0_ := Aside0.mk (Kd.V_below (by (with_reducible repeat (first | apply Kd.V_alloc | apply Kd.V_drewN | apply Kd.V_drew)); exact HO1617.out) hb); have n1_ := Aside0.mk (Kd.N_below (by (with_reducible repeat (first | apply Kd.N_alloc | apply Kd.N_drewN | apply Kd.N_drew)); exact HO1620.out) hb); have n2_ := Aside0.mk (Kd.R_below (by (with_reducible repeat (first | apply Kd.R_alloc | apply Kd.R_drewN | apply Kd.R_drew)); exact HO1623.out) hb); have n3_ := Aside0.mk (Kd.V_below (by (with_reducible repeat (first | apply Kd.V_alloc | apply Kd.V_drewN | apply Kd.V_drew)); exact HO1630.out) hb); have n4_ := Aside0.mk (below_step (by repeat (first | (with_reducible first | exact HB.out | apply below_alloc | apply pw_below_drewN | apply below_drew1) | exact HB.out)) hb); clear HO1617; clear HO1620; clear HO1623; clear HO1630; clear HB; have HO1617 := n0_; have HO1620 := n1_; have HO1623 := n2_; have HO1630 := n3_; have HB := n4_; clear n0_ n1_ n2_ n3_ n4_; (try clear hb); (try clear hb2); (try clear hk); (try clear hi)))
            go_meet
            case rel => exact ⟨_, ((t1631 != 8)), (by first | rfl | (simp; done) | (simp [*]; done)), H', ⟨by first | omega | exact Nat.le_refl _⟩, ⟨by (with_reducible repeat (first | apply Kd.R_alloc | apply Kd.R_drewN | apply Kd.R_drew)); exact HO1623.out⟩, ⟨by repeat (first | (with_reducible first | exact HB.out | apply below_alloc | apply pw_below_drewN | apply below_drew1) | exact HB.out)⟩⟩
          · rw [if_neg c14] at H
            exact absurd H (by simp)
        · rw [if_neg c13] at H
          have c13b0 : (t1625 == 14) = false := beq_eq_false_iff_ne.mpr c13
          have c13b1 : (t1625 != 14) = true := bne_iff_ne.mpr c13
          have H' := Aside0.mk H
          clear H
          obtain ⟨Ao20, co20, eo20⟩ := Kd.R_slice HO1623.out
          subst eo20
          go_wp2_with (first | (go_at_call 96; (with_reducible refine (journal_Whole.calls _ _ t1621 t1625 _ ?side1 ?side2 A12.out).mono ?_); (case side1 => repeat (first | exact (Kd.R_reads' HO1623.out).2.2 | (with_reducible refine Kd.C_alloc ?_ _) | (with_reducible refine Kd.C_drewN ?_ _) | (with_reducible refine Kd.C_drew ?_))); (case side2 => exact (Kd.R_reads' HO1623.out).2.1); rintro e w21 ⟨rfl, hb⟩; have n0_ := Aside0.mk (Kd.V_below (by (with_reducible repeat (first | apply Kd.V_alloc | apply Kd.V_drewN | apply Kd.V_drew)); exact HO1617.out) hb); have n1_ := Aside0.mk (Kd.N_below (by (with_reducible repeat (first | apply Kd.N_alloc | apply Kd.N_drewN | apply Kd.N_drew)); exact HO1620.out) hb); have n2_ := Aside0.mk (Kd.R_below (by (with_reducible repeat (first | apply Kd.R_alloc | apply Kd.R_drewN | apply Kd.R_drew)); exact HO1623.out) hb); have n3_ := Aside0.mk (below_step (by repeat (first | (with_reducible first | exact HB.out | apply below_alloc | apply pw_below_drewN | apply below_drew1) | exact HB.out)) hb); clear HO1617; clear HO1620; clear HO1623; clear HB; have HO1617 := n0_; have HO1620 := n1_; have HO1623 := n2_; have HB := n3_; clear n0_ n1_ n2_ n3_; (try clear hb); (try clear hb2); (try clear hk); (try clear hi)))
          go_meet
          case rel => exact ⟨_, (true), (by first | rfl | (simp; done) | (simp [*]; done)), H', ⟨by first | omega | exact Nat.le_refl _⟩, ⟨by (with_reducible repeat (first | apply Kd.R_alloc | apply Kd.R_drewN | apply Kd.R_drew)); exact HO1623.out⟩, ⟨by repeat (first | (with_reducible first | exact HB.out | apply below_alloc | apply pw_below_drewN | apply below_drew1) | exact HB.out)⟩⟩
      · rw [if_neg c11] at H
        have c11b0 : ((t1621.length : Int) == 14) = false := beq_eq_false_iff_ne.mpr c11
        have c11b1 : ((t1621.length : Int) != 14) = true := bne_iff_ne.mpr c11
        have H' := Aside0.mk H
        clear H
        obtain ⟨Ao22, co22, eo22⟩ := Kd.R_slice HO1623.out
        subst eo22
        go_wp2
        go_meet
        case rel => exact ⟨_, (true), (by first | rfl | (simp; done) | (simp [*]; done)), H', ⟨by first | omega | exact Nat.le_refl _⟩, ⟨by (with_reducible repeat (first | apply Kd.R_alloc | apply Kd.R_drewN | apply Kd.R_drew)); exact HO1623.out⟩, ⟨by repeat (first | (with_reducible first | exact HB.out | apply below_alloc | apply pw_below_drewN | apply below_drew1) | exact HB.out)⟩⟩
    · rw [if_neg c10] at H
      have c10b0 : (t1624 == 0) = false := beq_eq_false_iff_ne.mpr c10
      have c10b1 : (t1624 != 0) = true := bne_iff_ne.mpr c10
      (first | rw [c10b0] | (simp only [i64_w, i32_w]; rw [c10b0]) | skip)
      have H' := Aside0.mk H
      clear H
      go_wp2
      go_meet
      case rel => exact ⟨_, (true), (by first | rfl | (simp; done) | (simp [*]; done)), H', ⟨by first | omega | exact Nat.le_refl _⟩, ⟨by (with_reducible repeat (first | apply Kd.R_alloc | apply Kd.R_drewN | apply Kd.R_drew)); exact HO1623.out⟩, ⟨by repeat (first | (with_reducible first | exact HB.out | apply below_alloc | apply pw_below_drewN | apply below_drew1) | exact HB.out)⟩⟩
  case rest =>
    clear HC2
    try clear c1
    try clear q1
    try clear p2
    try clear c8
    try clear c9
    try clear c10
    try clear c10b0
    try clear c10b1
    try clear c11
    try clear c11b0
    try clear c11b1
    try clear c13
    try clear c13b0
    try clear c13b1
    try clear c14
    try clear c14b0
    try clear c14b1
    try clear q18
    try clear q18
    obtain ⟨kq, x35_1, rfl, HA, HJ1, HO_1, HB⟩ := hcut
    cases kq with
    | zero => exact absurd HA.out (by simp [chartroomlaw11_works.j0])
    | succ kj1 =>
      have H := HA.out
      clear HA
      simp only [chartroomlaw11_works.j0] at H
      by_cases c23 : x35_1 = true
      · subst c23
        have H1 : (some false) = some true := by rw [if_pos rfl] at H; exact H
        clear H
        have H := H1
        clear H1
        exact absurd H (by simp)
      · replace c23 := Bool.eq_false_iff.mpr c23
        subst c23
        have H1 : (if 13 ≤ (t1621.length : Int) then ((journal_Append.f kj1 (t1621.take 13) (([99] : List Int))).bind fun bt1640 => ((journal_Of.f (([99] : List Int))).bind fun bt1651 => ((journal_Get.f kj1 bt1640.1 8 bt1651.1 bt1651.2).bind fun bt1653 => ((journal_Of.f (([99] : List Int))).bind fun bt1660 => ((journal_Get.f kj1 bt1640.1 0 bt1660.1 bt1660.2).bind fun bt1662 => (if bt1640.2.2.2.2 = 0 then (if (bt1640.1.length : Int) = 15 then (if bt1640.2.1 = 8 then ((journal_Of.f (([99] : List Int))).bind fun bt1669 => (if (bt1640.2.2.1 == bt1669.1 && (bt1640.2.2.2.1 == bt1669.2)) = true then (if bt1653.2 = 0 then (if (strOfNums bt1653.1).toList = ([99] : List UInt8) then (some (bt1662.2 == 110)) else (some false)) else (some false)) else (some false))) else (some false)) else (some false)) else (some false))))))) else (none)) = some true := by rw [if_neg (show ¬ (false = true) by decide)] at H; exact H
        clear H
        have H := H1
        clear H1
        by_cases c24 : 13 ≤ (t1621.length : Int)
        · rw [if_pos c24] at H
          have c24b0 := eq_true c24
          have c24b1 : decide (13 ≤ (t1621.length : Int)) = true := decide_eq_true c24
          clear c24
          obtain ⟨y1632, hy1632⟩ : ∃ y_ : List Int, y_ = (t1621.take 13) := ⟨_, rfl⟩
          replace H : ((journal_Append.f kj1 y1632 (([99] : List Int))).bind fun bt1640 => ((journal_Of.f (([99] : List Int))).bind fun bt1651 => ((journal_Get.f kj1 bt1640.1 8 bt1651.1 bt1651.2).bind fun bt1653 => ((journal_Of.f (([99] : List Int))).bind fun bt1660 => ((journal_Get.f kj1 bt1640.1 0 bt1660.1 bt1660.2).bind fun bt1662 => (if bt1640.2.2.2.2 = 0 then (if (bt1640.1.length : Int) = 15 then (if bt1640.2.1 = 8 then ((journal_Of.f (([99] : List Int))).bind fun bt1669 => (if (bt1640.2.2.1 == bt1669.1 && (bt1640.2.2.2.1 == bt1669.2)) = true then (if bt1653.2 = 0 then (if (strOfNums bt1653.1).toList = ([99] : List UInt8) then (some (bt1662.2 == 110)) else (some false)) else (some false)) else (some false))) else (some false)) else (some false)) else (some false))))))) = some true := by first | (rw [hy1632]; with_reducible exact H) | (have H2_ := (Option.bind_some _ _).symm.trans H; rw [hy1632]; with_reducible exact H2_) | (have H2_ := (Option.bind_some _ _).symm.trans H; with_reducible exact H2_) | with_reducible exact H | (rw [hy1632]; exact H) | exact H
          have Ny1632 := Aside0.mk hy1632
          clear hy1632
          obtain ⟨y1637, hy1637⟩ : ∃ y_ : List Int, y_ = (([99] : List Int)) := ⟨_, rfl⟩
          replace H : ((journal_Append.f kj1 y1632 y1637).bind fun bt1640 => ((journal_Of.f (([99] : List Int))).bind fun bt1651 => ((journal_Get.f kj1 bt1640.1 8 bt1651.1 bt1651.2).bind fun bt1653 => ((journal_Of.f (([99] : List Int))).bind fun bt1660 => ((journal_Get.f kj1 bt1640.1 0 bt1660.1 bt1660.2).bind fun bt1662 => (if bt1640.2.2.2.2 = 0 then (if (bt1640.1.length : Int) = 15 then (if bt1640.2.1 = 8 then ((journal_Of.f (([99] : List Int))).bind fun bt1669 => (if (bt1640.2.2.1 == bt1669.1 && (bt1640.2.2.2.1 == bt1669.2)) = true then (if bt1653.2 = 0 then (if (strOfNums bt1653.1).toList = ([99] : List UInt8) then (some (bt1662.2 == 110)) else (some false)) else (some false)) else (some false))) else (some false)) else (some false)) else (some false))))))) = some true := by first | (rw [hy1637]; with_reducible exact H) | (have H2_ := (Option.bind_some _ _).symm.trans H; rw [hy1637]; with_reducible exact H2_) | (have H2_ := (Option.bind_some _ _).symm.trans H; with_reducible exact H2_) | with_reducible exact H | (rw [hy1637]; exact H) | exact H
          have Ny1637 := Aside0.mk hy1637
          clear hy1637
          replace H := Option.bind_eq_some_iff.mp H
          obtain ⟨⟨t1640, t1643, t1644, t1645, t1646⟩, A250, H⟩ := H
          replace H : ((journal_Of.f (([99] : List Int))).bind fun bt1651 => ((journal_Get.f kj1 t1640 8 bt1651.1 bt1651.2).bind fun bt1653 => ((journal_Of.f (([99] : List Int))).bind fun bt1660 => ((journal_Get.f kj1 t1640 0 bt1660.1 bt1660.2).bind fun bt1662 => (if t1646 = 0 then (if (t1640.length : Int) = 15 then (if t1643 = 8 then ((journal_Of.f (([99] : List Int))).bind fun bt1669 => (if (t1644 == bt1669.1 && (t1645 == bt1669.2)) = true then (if bt1653.2 = 0 then (if (strOfNums bt1653.1).toList = ([99] : List UInt8) then (some (bt1662.2 == 110)) else (some false)) else (some false)) else (some false))) else (some false)) else (some false)) else (some false)))))) = some true := H
          have A25 := Aside0.mk A250
          clear A250
          obtain ⟨y1648, hy1648⟩ : ∃ y_ : List Int, y_ = (([99] : List Int)) := ⟨_, rfl⟩
          replace H : ((journal_Of.f y1648).bind fun bt1651 => ((journal_Get.f kj1 t1640 8 bt1651.1 bt1651.2).bind fun bt1653 => ((journal_Of.f (([99] : List Int))).bind fun bt1660 => ((journal_Get.f kj1 t1640 0 bt1660.1 bt1660.2).bind fun bt1662 => (if t1646 = 0 then (if (t1640.length : Int) = 15 then (if t1643 = 8 then ((journal_Of.f (([99] : List Int))).bind fun bt1669 => (if (t1644 == bt1669.1 && (t1645 == bt1669.2)) = true then (if bt1653.2 = 0 then (if (strOfNums bt1653.1).toList = ([99] : List UInt8) then (some (bt1662.2 == 110)) else (some false)) else (some false)) else (some false))) else (some false)) else (some false)) else (some false)))))) = some true := by first | (rw [hy1648]; with_reducible exact H) | (have H2_ := (Option.bind_some _ _).symm.trans H; rw [hy1648]; with_reducible exact H2_) | (have H2_ := (Option.bind_some _ _).symm.trans H; with_reducible exact H2_) | with_reducible exact H | (rw [hy1648]; exact H) | exact H
          have Ny1648 := Aside0.mk hy1648
          clear hy1648
          replace H := Option.bind_eq_some_iff.mp H
          obtain ⟨⟨t1651, t1652⟩, A260, H⟩ := H
          replace H : ((journal_Get.f kj1 t1640 8 t1651 t1652).bind fun bt1653 => ((journal_Of.f (([99] : List Int))).bind fun bt1660 => ((journal_Get.f kj1 t1640 0 bt1660.1 bt1660.2).bind fun bt1662 => (if t1646 = 0 then (if (t1640.length : Int) = 15 then (if t1643 = 8 then ((journal_Of.f (([99] : List Int))).bind fun bt1669 => (if (t1644 == bt1669.1 && (t1645 == bt1669.2)) = true then (if bt1653.2 = 0 then (if (strOfNums bt1653.1).toList = ([99] : List UInt8) then (some (bt1662.2 == 110)) else (some false)) else (some false)) else (some false))) else (some false)) else (some false)) else (some false))))) = some true := H
          have A26 := Aside0.mk A260
          clear A260
          replace H := Option.bind_eq_some_iff.mp H
          obtain ⟨⟨t1653, t1656⟩, A270, H⟩ := H
          replace H : ((journal_Of.f (([99] : List Int))).bind fun bt1660 => ((journal_Get.f kj1 t1640 0 bt1660.1 bt1660.2).bind fun bt1662 => (if t1646 = 0 then (if (t1640.length : Int) = 15 then (if t1643 = 8 then ((journal_Of.f (([99] : List Int))).bind fun bt1669 => (if (t1644 == bt1669.1 && (t1645 == bt1669.2)) = true then (if t1656 = 0 then (if (strOfNums t1653).toList = ([99] : List UInt8) then (some (bt1662.2 == 110)) else (some false)) else (some false)) else (some false))) else (some false)) else (some false)) else (some false)))) = some true := H
          have A27 := Aside0.mk A270
          clear A270
          obtain ⟨y1657, hy1657⟩ : ∃ y_ : List Int, y_ = (([99] : List Int)) := ⟨_, rfl⟩
          replace H : ((journal_Of.f y1657).bind fun bt1660 => ((journal_Get.f kj1 t1640 0 bt1660.1 bt1660.2).bind fun bt1662 => (if t1646 = 0 then (if (t1640.length : Int) = 15 then (if t1643 = 8 then ((journal_Of.f (([99] : List Int))).bind fun bt1669 => (if (t1644 == bt1669.1 && (t1645 == bt1669.2)) = true then (if t1656 = 0 then (if (strOfNums t1653).toList = ([99] : List UInt8) then (some (bt1662.2 == 110)) else (some false)) else (some false)) else (some false))) else (some false)) else (some false)) else (some false)))) = some true := by first | (rw [hy1657]; with_reducible exact H) | (have H2_ := (Option.bind_some _ _).symm.trans H; rw [hy1657]; with_reducible exact H2_) | (have H2_ := (Option.bind_some _ _).symm.trans H; with_reducible exact H2_) | with_reducible exact H | (rw [hy1657]; exact H) | exact H
          have Ny1657 := Aside0.mk hy1657
          clear hy1657
          replace H := Option.bind_eq_some_iff.mp H
          obtain ⟨⟨t1660, t1661⟩, A280, H⟩ := H
          replace H : ((journal_Get.f kj1 t1640 0 t1660 t1661).bind fun bt1662 => (if t1646 = 0 then (if (t1640.length : Int) = 15 then (if t1643 = 8 then ((journal_Of.f (([99] : List Int))).bind fun bt1669 => (if (t1644 == bt1669.1 && (t1645 == bt1669.2)) = true then (if t1656 = 0 then (if (strOfNums t1653).toList = ([99] : List UInt8) then (some (bt1662.2 == 110)) else (some false)) else (some false)) else (some false))) else (some false)) else (some false)) else (some false))) = some true := H
          have A28 := Aside0.mk A280
          clear A280
          replace H := Option.bind_eq_some_iff.mp H
          obtain ⟨⟨t1662, t1665⟩, A290, H⟩ := H
          replace H : (if t1646 = 0 then (if (t1640.length : Int) = 15 then (if t1643 = 8 then ((journal_Of.f (([99] : List Int))).bind fun bt1669 => (if (t1644 == bt1669.1 && (t1645 == bt1669.2)) = true then (if t1656 = 0 then (if (strOfNums t1653).toList = ([99] : List UInt8) then (some (t1665 == 110)) else (some false)) else (some false)) else (some false))) else (some false)) else (some false)) else (some false)) = some true := H
          have A29 := Aside0.mk A290
          clear A290
          by_cases c30 : t1646 = 0
          · rw [if_pos c30] at H
            have c30b0 : (t1646 == 0) = true := beq_iff_eq.mpr c30
            have c30b1 : (t1646 != 0) = false := bne_eq_false_iff_eq.mpr c30
            clear c30
            by_cases c31 : (t1640.length : Int) = 15
            · rw [if_pos c31] at H
              have c31b0 : ((t1640.length : Int) == 15) = true := beq_iff_eq.mpr c31
              have c31b1 : ((t1640.length : Int) != 15) = false := bne_eq_false_iff_eq.mpr c31
              clear c31
              by_cases c32 : t1643 = 8
              · rw [if_pos c32] at H
                have c32b0 : (t1643 == 8) = true := beq_iff_eq.mpr c32
                have c32b1 : (t1643 != 8) = false := bne_eq_false_iff_eq.mpr c32
                clear c32
                obtain ⟨y1666, hy1666⟩ : ∃ y_ : List Int, y_ = (([99] : List Int)) := ⟨_, rfl⟩
                replace H : ((journal_Of.f y1666).bind fun bt1669 => (if (t1644 == bt1669.1 && (t1645 == bt1669.2)) = true then (if t1656 = 0 then (if (strOfNums t1653).toList = ([99] : List UInt8) then (some (t1665 == 110)) else (some false)) else (some false)) else (some false))) = some true := by first | (rw [hy1666]; with_reducible exact H) | (have H2_ := (Option.bind_some _ _).symm.trans H; rw [hy1666]; with_reducible exact H2_) | (have H2_ := (Option.bind_some _ _).symm.trans H; with_reducible exact H2_) | with_reducible exact H | (rw [hy1666]; exact H) | exact H
                have Ny1666 := Aside0.mk hy1666
                clear hy1666
                replace H := Option.bind_eq_some_iff.mp H
                obtain ⟨⟨t1669, t1670⟩, A330, H⟩ := H
                replace H : (if (t1644 == t1669 && (t1645 == t1670)) = true then (if t1656 = 0 then (if (strOfNums t1653).toList = ([99] : List UInt8) then (some (t1665 == 110)) else (some false)) else (some false)) else (some false)) = some true := H
                have A33 := Aside0.mk A330
                clear A330
                by_cases c34 : (t1644 == t1669 && (t1645 == t1670)) = true
                · rw [if_pos c34] at H
                  have c34b0 : (t1644 == t1669 && (t1645 == t1670)) = true := c34
                  (try (have c34b1 : decide (t1644 = t1669 && (t1645 == t1670)) = true := by simpa using c34))
                  (try (have c34b2 : (t1644 == t1669 && (t1645 == t1670)) = true := by simpa using c34))
                  clear c34
                  by_cases c35 : t1656 = 0
                  · rw [if_pos c35] at H
                    have c35b0 : (t1656 == 0) = true := beq_iff_eq.mpr c35
                    have c35b1 : (t1656 != 0) = false := bne_eq_false_iff_eq.mpr c35
                    clear c35
                    by_cases c36 : (strOfNums t1653).toList = ([99] : List UInt8)
                    · rw [if_pos c36] at H
                      have c36b0 : ((strOfNums t1653).toList == ([99] : List UInt8)) = true := beq_iff_eq.mpr c36
                      have c36b1 : ((strOfNums t1653).toList != ([99] : List UInt8)) = false := bne_eq_false_iff_eq.mpr c36
                      clear c36
                      have hX_ := Aside0.mk (Option.some.inj H)
                      clear H
                      obtain ⟨Ao38, co38, eo38⟩ := Kd.R_slice HO_1.out
                      subst eo38
                      have q37 : (13 : Int) ≤ ((t1621.length : Int) : Int) := of_decide_eq_true (by first | (with_reducible assumption) | assumption)
                      obtain ⟨i037, hi037, _, hsz37, _⟩ := info_parts info5
                      have hroom37 : t1621.length ≤ co38 := (Kd.R_reads' HO_1.out).2.1
                      have hC37 : Kd.F (Kd.int .u8) _ _ Ao38 t1621.length t1621 := (Kd.V_at (base := w.heap.size) (Kd.R_V HO_1.out)).2.2
                      have hcut37 := cut_to (P := Try.prog) 24 5 .i64 Try.underlying24 hi037 Ao38 t1621.length co38 13 (by omega) q37 hroom37
                      have hr37 := Kd.F_take (m := 13) hC37 (by omega)
                      have hy37 : y1632.length = (13 : Int).toNat := (by rw [Ny1632.out, List.length_take]; omega)
                      rw [← Ny1632.out] at hr37
                      rw [← hy37] at hcut37
                      have HO1636 := Aside0.mk (show Kd.V (Kd.int .u8) 5 _ w.heap.size _ (.slice Ao38 y1632.length co38) y1632 from Kd.V_mk (by omega) hr37)
                      have HC1636 := Aside0.mk (show y1632.length ≤ co38 from by omega)
                      clear hr37 hC37 hroom37 hi037 hsz37
                      have KY37 := Aside0.mk hy37
                      clear hy37
                      replace q37 := eq_true q37
                      try go_wp2_with (first | ((with_reducible refine gate_dst (N := 39) rfl ?_); (try (refine gate_guard (by rfl) ?_; dsimp only)); refine Kd.R_lit (Kd.int .u8) _ 5 ?hg (N := 39) ?hd (xs := ([99] : List Int)) (inner := [.int .u8 99]) (ok := fun _ => True) (okp := fun _ => True) ?hr ?hp (fun _ hk => hk) trivial (Below.refl _ _) (Nat.le_refl _) (by simp) ?_; (case hd => rfl); (case hg => rfl); (case hr => first | (go_simp; done) | (go_simp; rfl)); (case hp => exact (Reps.one (show Kd.M (Kd.int .u8) _ _ _ 99 [.int .u8 99] from rfl) (Reps.none _ _))); intro v1638 w390 ho400 hb0 hg_ hnew_; (try (refine gate_guard (by rfl) ?_; dsimp only)); refine Kd.lit_conv ?hg (N := 40) ?hd 24 Try.underlying24 Try.underlying5 ?hr ho400 hb0 hnew_ ?_; (case hd => rfl); (case hg => rfl); (case hr => intro w9_ hc_; first | (go_simp; done) | (go_simp; rw [hc_]; done) | (go_simp; rw [hc_]; rfl)); clear ho400 hb0 hg_ hnew_; intro w39 ho40 hb; (first | rw [← Ny1637.out] at ho40 | (simp only [Int.reduceToNat] at ho40; rw [← Ny1637.out] at ho40)); have n0_ := Aside0.mk (Kd.R_below (by (with_reducible repeat (first | apply Kd.R_alloc | apply Kd.R_drewN | apply Kd.R_drew)); exact HO_1.out) hb); have n1_ := Aside0.mk (Kd.V_below (by (with_reducible repeat (first | apply Kd.V_alloc | apply Kd.V_drewN | apply Kd.V_drew)); exact HO1636.out) hb); have n2_ := Aside0.mk (Kd.V_lower (Kd.V_mono (ok' := fun k_ => some k_ ≠ (.slice Ao38 t1621.length co38 : Value).ownBlock) ho40 (fun k_ hk_ => (Kd.fresh' (Kd.R_lt (by (with_reducible repeat (first | apply Kd.R_alloc | apply Kd.R_drewN | apply Kd.R_drew)); exact HO_1.out)) k_ hk_.2.1))) (below_size (by repeat (first | (with_reducible first | exact HB.out | apply below_alloc | apply pw_below_drewN | apply below_drew1) | exact HB.out)))); have n3_ := Aside0.mk (below_step (by repeat (first | (with_reducible first | exact HB.out | apply below_alloc | apply pw_below_drewN | apply below_drew1) | exact HB.out)) hb); clear HO_1; clear HO1636; clear HB; have HO_1 := n0_; have HO1636 := n1_; have HO1639 := n2_; have HB := n3_; clear n0_ n1_ n2_ n3_; clear hb ho40; obtain ⟨Ao41, co41, eo41⟩ := Kd.V_slice HO1639.out; subst eo41) | ((with_reducible refine gate_callee (f := 90) rfl ?_); refine goesL_ (some 41) rfl rfl Try.func90 (by kernel_rfl) rfl #[.slice Ao38 y1632.length co38, .slice Ao41 y1637.length co41] rfl (by (try simp only [List.map_toArray, List.map_cons, List.map_nil]); first | done | rfl | (simp only [List.length_drop, List.length_take]; rfl)) ?_; (with_reducible refine (journal_Append.calls kj1 _ _ y1632 (fun k_ => some k_ ≠ (.slice Ao38 t1621.length co38 : Value).ownBlock) _ _ y1637 t1640 t1643 t1644 t1645 t1646 _ ?side1 ?side2 ?side3 A25.out).mono ?_); (case side1 => repeat (first | exact (Kd.V_reads' HO1636.out).2.2 | (with_reducible refine Kd.C_alloc ?_ _) | (with_reducible refine Kd.C_drewN ?_ _) | (with_reducible refine Kd.C_drew ?_))); (case side2 => exact (Kd.V_reads' HO1636.out).2.1); (case side3 => exact HO1639.out); rintro e w42 ⟨v1641, rfl, ho0, hb⟩; refine ⟨_, rfl, ?_⟩; have n0_ := Aside0.mk (Kd.R_elder' (by (with_reducible repeat (first | apply Kd.R_alloc | apply Kd.R_drewN | apply Kd.R_drew)); exact HO_1.out) (Kd.R_base ho0) hb); have n1_ := Aside0.mk (Kd.V_elder' (by (with_reducible repeat (first | apply Kd.V_alloc | apply Kd.V_drewN | apply Kd.V_drew)); exact HO1636.out) (Kd.R_base ho0) hb); have n2_ := Aside0.mk (Kd.V_elder' (by (with_reducible repeat (first | apply Kd.V_alloc | apply Kd.V_drewN | apply Kd.V_drew)); exact HO1639.out) (Kd.R_base ho0) hb); have n3_ := Aside0.mk (Kd.R_lower (Kd.R_new' (Kd.R_mono (ok' := fun k_ => True) ho0 (fun _ hk_ => trivial)) (Kd.R_lt (by (with_reducible repeat (first | apply Kd.R_alloc | apply Kd.R_drewN | apply Kd.R_drew)); exact HO_1.out))) (below_size (by repeat (first | (with_reducible first | exact HB.out | apply below_alloc | apply pw_below_drewN | apply below_drew1) | exact HB.out)))); have n4_ := Aside0.mk (below_step (by repeat (first | (with_reducible first | exact HB.out | apply below_alloc | apply pw_below_drewN | apply below_drew1) | exact HB.out)) hb); clear HO_1; clear HO1636; clear HO1639; clear HB; have HO_1 := n0_; have HO1636 := n1_; have HO1639 := n2_; have HO1642 := n3_; have HB := n4_; clear n0_ n1_ n2_ n3_ n4_; (try clear hb); (try clear hb2); (try clear hk); (try clear hi); (try clear ho0)) | ((with_reducible refine gate_dst (N := 5) rfl ?_); (try (refine gate_guard (by rfl) ?_; dsimp only)); refine box_event ?hg (N := 5) ?hd (cs := #[.int .u64 0, .int .u64 0]) (t := 92) ?hr ?_; (case hd => rfl); (case hg => rfl); (case hr => first | (go_simp; done) | (go_simp; rfl)); intro gb1647 hg w43 hbox hb; have n0_ := Aside0.mk (Kd.R_below (by (with_reducible repeat (first | apply Kd.R_alloc | apply Kd.R_drewN | apply Kd.R_drew)); exact HO_1.out) hb); have n1_ := Aside0.mk (Kd.V_below (Kd.V_elderB (by (with_reducible repeat (first | apply Kd.V_alloc | apply Kd.V_drewN | apply Kd.V_drew)); exact HO1636.out) gb1647 (Nat.le_of_eq hg.symm)) hb); have n2_ := Aside0.mk (Kd.V_below (Kd.V_elderB (by (with_reducible repeat (first | apply Kd.V_alloc | apply Kd.V_drewN | apply Kd.V_drew)); exact HO1639.out) gb1647 (Nat.le_of_eq hg.symm)) hb); have n3_ := Aside0.mk (Kd.R_below (by (with_reducible repeat (first | apply Kd.R_alloc | apply Kd.R_drewN | apply Kd.R_drew)); exact HO1642.out) hb); have n4_ := Aside0.mk (below_step (by repeat (first | (with_reducible first | exact HB.out | apply below_alloc | apply pw_below_drewN | apply below_drew1) | exact HB.out)) hb); have n5_ := Aside0.mk (hbox); have n6_ := Aside0.mk ((by rw [hg]; exact (below_size (by repeat (first | (with_reducible first | exact HB.out | apply below_alloc | apply pw_below_drewN | apply below_drew1) | exact HB.out))) : w.heap.size ≤ gb1647)); have n7_ := Aside0.mk ((by rw [hg]; exact (below_size (by repeat (first | (with_reducible first | exact HB.out | apply below_alloc | apply pw_below_drewN | apply below_drew1) | exact HB.out))) : w.heap.size ≤ gb1647)); clear HO_1; clear HO1636; clear HO1639; clear HO1642; clear HB; have HO_1 := n0_; have HO1636 := n1_; have HO1639 := n2_; have HO1642 := n3_; have HB := n4_; have BK1647 := n5_; have GW1647 := n6_; have GE1647 := n7_; clear n0_ n1_ n2_ n3_ n4_ n5_ n6_ n7_; clear hb hbox hg; have hcz44_0 : w43.cell? ⟨gb1647, 0, none⟩ = some (.int .u64 0) := (blk_cell BK1647.out 0).trans rfl; have hcz44_1 : w43.cell? ⟨gb1647, 1, none⟩ = some (.int .u64 0) := (blk_cell BK1647.out 1).trans rfl; have hfz44_0 := blk_frozen BK1647.out 0; have hfz44_1 := blk_frozen BK1647.out 1) | ((with_reducible refine gate_dst (N := 48) rfl ?_); (try (refine gate_guard (by rfl) ?_; dsimp only)); refine Kd.R_lit (Kd.int .u8) _ 5 ?hg (N := 48) ?hd (xs := ([99] : List Int)) (inner := [.int .u8 99]) (ok := fun _ => True) (okp := fun _ => True) ?hr ?hp (fun _ hk => hk) trivial (Below.refl _ _) (Nat.le_refl _) (by simp) ?_; (case hd => rfl); (case hg => rfl); (case hr => first | (go_simp; done) | (go_simp; rfl)); (case hp => exact (Reps.one (show Kd.M (Kd.int .u8) _ _ _ 99 [.int .u8 99] from rfl) (Reps.none _ _))); intro v1649 w450 ho460 hb0 hg_ hnew_; (try (refine gate_guard (by rfl) ?_; dsimp only)); refine Kd.lit_conv ?hg (N := 49) ?hd 24 Try.underlying24 Try.underlying5 ?hr ho460 hb0 hnew_ ?_; (case hd => rfl); (case hg => rfl); (case hr => intro w9_ hc_; first | (go_simp; done) | (go_simp; rw [hc_]; done) | (go_simp; rw [hc_]; rfl)); clear ho460 hb0 hg_ hnew_; intro w45 ho46 hb; (first | rw [← Ny1648.out] at ho46 | (simp only [Int.reduceToNat] at ho46; rw [← Ny1648.out] at ho46)); have n0_ := Aside0.mk (Kd.R_below (by (with_reducible repeat (first | apply Kd.R_alloc | apply Kd.R_drewN | apply Kd.R_drew)); exact (Kd.R_mono (Kd.R_far (p := ⟨gb1647, 1, none⟩) (Kd.R_far (p := ⟨gb1647, 0, none⟩) (Kd.R_types HO_1.out BK1647.out (by decide)) (fun _ hk => hk.2) (.int .u64 t1644)) (fun _ hk => hk.2) (.int .u64 t1645)) (fun _ h_ => h_.1))) hb); have n1_ := Aside0.mk (Kd.V_below (by (with_reducible repeat (first | apply Kd.V_alloc | apply Kd.V_drewN | apply Kd.V_drew)); exact (Kd.V_mono (Kd.V_far (p := ⟨gb1647, 1, none⟩) (Kd.V_far (p := ⟨gb1647, 0, none⟩) (Kd.V_mono HO1636.out (fun k_ hk => (⟨hk, hk.2⟩ : _ ∧ k_ ≠ gb1647))) (fun _ hk => hk.2) (.int .u64 t1644)) (fun _ hk => hk.2) (.int .u64 t1645)) (fun _ h_ => h_.1))) hb); have n2_ := Aside0.mk (Kd.V_below (by (with_reducible repeat (first | apply Kd.V_alloc | apply Kd.V_drewN | apply Kd.V_drew)); exact (Kd.V_mono (Kd.V_far (p := ⟨gb1647, 1, none⟩) (Kd.V_far (p := ⟨gb1647, 0, none⟩) (Kd.V_mono HO1639.out (fun k_ hk => (⟨hk, hk.2⟩ : _ ∧ k_ ≠ gb1647))) (fun _ hk => hk.2) (.int .u64 t1644)) (fun _ hk => hk.2) (.int .u64 t1645)) (fun _ h_ => h_.1))) hb); have n3_ := Aside0.mk (Kd.R_below (by (with_reducible repeat (first | apply Kd.R_alloc | apply Kd.R_drewN | apply Kd.R_drew)); exact (Kd.R_mono (Kd.R_far (p := ⟨gb1647, 1, none⟩) (Kd.R_far (p := ⟨gb1647, 0, none⟩) (Kd.R_types HO1642.out BK1647.out (by decide)) (fun _ hk => hk.2) (.int .u64 t1644)) (fun _ hk => hk.2) (.int .u64 t1645)) (fun _ h_ => h_.1))) hb); have n4_ := Aside0.mk (Kd.V_lower (Kd.V_mono (ok' := fun k_ => some k_ ≠ (.slice Ao38 t1621.length co38 : Value).ownBlock ∧ some k_ ≠ (v1641 : Value).ownBlock ∧ k_ ≠ gb1647) ho46 (fun k_ hk_ => ⟨(Kd.fresh' (Kd.R_lt (by (with_reducible repeat (first | apply Kd.R_alloc | apply Kd.R_drewN | apply Kd.R_drew)); exact (Kd.R_mono (Kd.R_far (p := ⟨gb1647, 1, none⟩) (Kd.R_far (p := ⟨gb1647, 0, none⟩) (Kd.R_types HO_1.out BK1647.out (by decide)) (fun _ hk => hk.2) (.int .u64 t1644)) (fun _ hk => hk.2) (.int .u64 t1645)) (fun _ h_ => h_.1)))) k_ hk_.2.1), (Kd.fresh' (Kd.R_lt (by (with_reducible repeat (first | apply Kd.R_alloc | apply Kd.R_drewN | apply Kd.R_drew)); exact (Kd.R_mono (Kd.R_far (p := ⟨gb1647, 1, none⟩) (Kd.R_far (p := ⟨gb1647, 0, none⟩) (Kd.R_types HO1642.out BK1647.out (by decide)) (fun _ hk => hk.2) (.int .u64 t1644)) (fun _ hk => hk.2) (.int .u64 t1645)) (fun _ h_ => h_.1)))) k_ hk_.2.1), (Kd.freshB (g := gb1647) (o := .cells #[.int .u64 t1644, .int .u64 t1645] 92 (0, 0)) (by (with_reducible repeat (first | refine blk_drewN ?_ _ | refine blk_drew ?_ | refine blk_alloc ?_ _)); refine blk_put (cs := #[.int .u64 t1644, .int .u64 0]) ?_ 1 _ rfl; (with_reducible repeat (first | refine blk_drewN ?_ _ | refine blk_drew ?_ | refine blk_alloc ?_ _)); refine blk_put (cs := #[.int .u64 0, .int .u64 0]) ?_ 0 _ rfl; (with_reducible repeat (first | refine blk_drewN ?_ _ | refine blk_drew ?_ | refine blk_alloc ?_ _)); exact BK1647.out) k_ hk_.2.1)⟩)) (below_size (by repeat (first | (with_reducible first | exact HB.out | apply below_alloc | apply pw_below_drewN | apply below_drew1 | refine below_set ?_ GE1647.out) | exact HB.out)))); have n5_ := Aside0.mk (blk_below (g := gb1647) (o := .cells #[.int .u64 t1644, .int .u64 t1645] 92 (0, 0)) (by (with_reducible repeat (first | refine blk_drewN ?_ _ | refine blk_drew ?_ | refine blk_alloc ?_ _)); refine blk_put (cs := #[.int .u64 t1644, .int .u64 0]) ?_ 1 _ rfl; (with_reducible repeat (first | refine blk_drewN ?_ _ | refine blk_drew ?_ | refine blk_alloc ?_ _)); refine blk_put (cs := #[.int .u64 0, .int .u64 0]) ?_ 0 _ rfl; (with_reducible repeat (first | refine blk_drewN ?_ _ | refine blk_drew ?_ | refine blk_alloc ?_ _)); exact BK1647.out) hb); have n6_ := Aside0.mk (below_step (by repeat (first | (with_reducible first | exact HB.out | apply below_alloc | apply pw_below_drewN | apply below_drew1 | refine below_set ?_ GE1647.out) | exact HB.out)) hb); clear HO_1; clear HO1636; clear HO1639; clear HO1642; clear BK1647; clear HB; have HO_1 := n0_; have HO1636 := n1_; have HO1639 := n2_; have HO1642 := n3_; have HO1650 := n4_; have BK1647 := n5_; have HB := n6_; clear n0_ n1_ n2_ n3_ n4_ n5_ n6_; clear hb ho46; obtain ⟨Ao47, co47, eo47⟩ := Kd.V_slice HO1650.out; subst eo47) | ((with_reducible refine gate_callee (f := 75) rfl ?_); refine goesL_ (some 50) rfl rfl Try.func75 (by kernel_rfl) rfl #[.slice Ao47 y1648.length co47] rfl (by (try simp only [List.map_toArray, List.map_cons, List.map_nil]); first | done | rfl | (simp only [List.length_drop, List.length_take]; rfl)) ?_; (with_reducible refine (journal_Of.calls _ _ y1648 t1651 t1652 _ ?side1 ?side2 A26.out).mono ?_); (case side1 => repeat (first | exact (Kd.V_reads' HO1650.out).2.2 | (with_reducible refine Kd.C_alloc ?_ _) | (with_reducible refine Kd.C_drewN ?_ _) | (with_reducible refine Kd.C_drew ?_))); (case side2 => exact (Kd.V_reads' HO1650.out).2.1); rintro e w48 ⟨rfl, hb⟩; refine ⟨_, rfl, ?_⟩; have n0_ := Aside0.mk (Kd.R_below (by (with_reducible repeat (first | apply Kd.R_alloc | apply Kd.R_drewN | apply Kd.R_drew)); exact HO_1.out) hb); have n1_ := Aside0.mk (Kd.V_below (by (with_reducible repeat (first | apply Kd.V_alloc | apply Kd.V_drewN | apply Kd.V_drew)); exact HO1636.out) hb); have n2_ := Aside0.mk (Kd.V_below (by (with_reducible repeat (first | apply Kd.V_alloc | apply Kd.V_drewN | apply Kd.V_drew)); exact HO1639.out) hb); have n3_ := Aside0.mk (Kd.R_below (by (with_reducible repeat (first | apply Kd.R_alloc | apply Kd.R_drewN | apply Kd.R_drew)); exact HO1642.out) hb); have n4_ := Aside0.mk (Kd.V_below (by (with_reducible repeat (first | apply Kd.V_alloc | apply Kd.V_drewN | apply Kd.V_drew)); exact HO1650.out) hb); have n5_ := Aside0.mk (blk_below (g := gb1647) (o := .cells #[.int .u64 t1644, .int .u64 t1645] 92 (0, 0)) (by (with_reducible repeat (first | refine blk_drewN ?_ _ | refine blk_drew ?_ | refine blk_alloc ?_ _)); exact BK1647.out) hb); have n6_ := Aside0.mk (below_step (by repeat (first | (with_reducible first | exact HB.out | apply below_alloc | apply pw_below_drewN | apply below_drew1 | refine below_set ?_ GE1647.out) | exact HB.out)) hb); clear HO_1; clear HO1636; clear HO1639; clear HO1642; clear HO1650; clear BK1647; clear HB; have HO_1 := n0_; have HO1636 := n1_; have HO1639 := n2_; have HO1642 := n3_; have HO1650 := n4_; have BK1647 := n5_; have HB := n6_; clear n0_ n1_ n2_ n3_ n4_ n5_ n6_; (try clear hb); (try clear hb2); (try clear hk); (try clear hi); obtain ⟨Ao49, co49, eo49⟩ := Kd.R_slice HO1642.out; subst eo49) | ((with_reducible refine gate_callee (f := 99) rfl ?_); refine goesL_ (some 51) rfl rfl Try.func99 (by kernel_rfl) rfl #[.slice Ao49 t1640.length co49, .int .i64 8, .agg #[.int .u64 t1651, .int .u64 t1652]] rfl (by (try simp only [List.map_toArray, List.map_cons, List.map_nil]); first | done | rfl | (simp only [List.length_drop, List.length_take]; rfl)) ?_; (with_reducible refine (journal_Get.calls kj1 _ _ t1640 8 t1651 t1652 t1653 t1656 _ ?side1 ?side2 A27.out).mono ?_); (case side1 => repeat (first | exact (Kd.R_reads' HO1642.out).2.2 | (with_reducible refine Kd.C_alloc ?_ _) | (with_reducible refine Kd.C_drewN ?_ _) | (with_reducible refine Kd.C_drew ?_))); (case side2 => exact (Kd.R_reads' HO1642.out).2.1); rintro e w50 ⟨v1654, rfl, ho0, hb⟩; refine ⟨_, rfl, ?_⟩; have n0_ := Aside0.mk (Kd.R_elder' (by (with_reducible repeat (first | apply Kd.R_alloc | apply Kd.R_drewN | apply Kd.R_drew)); exact HO_1.out) (Kd.R_base ho0) hb); have n1_ := Aside0.mk (Kd.V_elder' (by (with_reducible repeat (first | apply Kd.V_alloc | apply Kd.V_drewN | apply Kd.V_drew)); exact HO1636.out) (Kd.R_base ho0) hb); have n2_ := Aside0.mk (Kd.V_elder' (by (with_reducible repeat (first | apply Kd.V_alloc | apply Kd.V_drewN | apply Kd.V_drew)); exact HO1639.out) (Kd.R_base ho0) hb); have n3_ := Aside0.mk (Kd.R_elder' (by (with_reducible repeat (first | apply Kd.R_alloc | apply Kd.R_drewN | apply Kd.R_drew)); exact HO1642.out) (Kd.R_base ho0) hb); have n4_ := Aside0.mk (Kd.V_elder' (by (with_reducible repeat (first | apply Kd.V_alloc | apply Kd.V_drewN | apply Kd.V_drew)); exact HO1650.out) (Kd.R_base ho0) hb); have n5_ := Aside0.mk (Kd.R_lower (Kd.R_new' (Kd.R_new' ho0 (Kd.R_lt (by (with_reducible repeat (first | apply Kd.R_alloc | apply Kd.R_drewN | apply Kd.R_drew)); exact HO_1.out))) (Kd.R_lt (by (with_reducible repeat (first | apply Kd.R_alloc | apply Kd.R_drewN | apply Kd.R_drew)); exact HO1642.out))) (below_size (by repeat (first | (with_reducible first | exact HB.out | apply below_alloc | apply pw_below_drewN | apply below_drew1 | refine below_set ?_ GE1647.out) | exact HB.out)))); have n6_ := Aside0.mk (blk_below (g := gb1647) (o := .cells #[.int .u64 t1644, .int .u64 t1645] 92 (0, 0)) (by (with_reducible repeat (first | refine blk_drewN ?_ _ | refine blk_drew ?_ | refine blk_alloc ?_ _)); exact BK1647.out) hb); have n7_ := Aside0.mk (below_step (by repeat (first | (with_reducible first | exact HB.out | apply below_alloc | apply pw_below_drewN | apply below_drew1 | refine below_set ?_ GE1647.out) | exact HB.out)) hb); clear HO_1; clear HO1636; clear HO1639; clear HO1642; clear HO1650; clear BK1647; clear HB; have HO_1 := n0_; have HO1636 := n1_; have HO1639 := n2_; have HO1642 := n3_; have HO1650 := n4_; have HO1655 := n5_; have BK1647 := n6_; have HB := n7_; clear n0_ n1_ n2_ n3_ n4_ n5_ n6_ n7_; (try clear hb); (try clear hb2); (try clear hk); (try clear hi); (try clear ho0)) | ((with_reducible refine gate_dst (N := 56) rfl ?_); (try (refine gate_guard (by rfl) ?_; dsimp only)); refine Kd.R_lit (Kd.int .u8) _ 5 ?hg (N := 56) ?hd (xs := ([99] : List Int)) (inner := [.int .u8 99]) (ok := fun _ => True) (okp := fun _ => True) ?hr ?hp (fun _ hk => hk) trivial (Below.refl _ _) (Nat.le_refl _) (by simp) ?_; (case hd => rfl); (case hg => rfl); (case hr => first | (go_simp; done) | (go_simp; rfl)); (case hp => exact (Reps.one (show Kd.M (Kd.int .u8) _ _ _ 99 [.int .u8 99] from rfl) (Reps.none _ _))); intro v1658 w510 ho520 hb0 hg_ hnew_; (try (refine gate_guard (by rfl) ?_; dsimp only)); refine Kd.lit_conv ?hg (N := 57) ?hd 24 Try.underlying24 Try.underlying5 ?hr ho520 hb0 hnew_ ?_; (case hd => rfl); (case hg => rfl); (case hr => intro w9_ hc_; first | (go_simp; done) | (go_simp; rw [hc_]; done) | (go_simp; rw [hc_]; rfl)); clear ho520 hb0 hg_ hnew_; intro w51 ho52 hb; (first | rw [← Ny1657.out] at ho52 | (simp only [Int.reduceToNat] at ho52; rw [← Ny1657.out] at ho52)); have n0_ := Aside0.mk (Kd.R_below (by (with_reducible repeat (first | apply Kd.R_alloc | apply Kd.R_drewN | apply Kd.R_drew)); exact HO_1.out) hb); have n1_ := Aside0.mk (Kd.V_below (by (with_reducible repeat (first | apply Kd.V_alloc | apply Kd.V_drewN | apply Kd.V_drew)); exact HO1636.out) hb); have n2_ := Aside0.mk (Kd.V_below (by (with_reducible repeat (first | apply Kd.V_alloc | apply Kd.V_drewN | apply Kd.V_drew)); exact HO1639.out) hb); have n3_ := Aside0.mk (Kd.R_below (by (with_reducible repeat (first | apply Kd.R_alloc | apply Kd.R_drewN | apply Kd.R_drew)); exact HO1642.out) hb); have n4_ := Aside0.mk (Kd.V_below (by (with_reducible repeat (first | apply Kd.V_alloc | apply Kd.V_drewN | apply Kd.V_drew)); exact HO1650.out) hb); have n5_ := Aside0.mk (Kd.R_below (by (with_reducible repeat (first | apply Kd.R_alloc | apply Kd.R_drewN | apply Kd.R_drew)); exact HO1655.out) hb); have n6_ := Aside0.mk (Kd.V_lower (Kd.V_mono (ok' := fun k_ => some k_ ≠ (.slice Ao38 t1621.length co38 : Value).ownBlock ∧ some k_ ≠ (.slice Ao49 t1640.length co49 : Value).ownBlock ∧ some k_ ≠ (v1654 : Value).ownBlock ∧ k_ ≠ gb1647) ho52 (fun k_ hk_ => ⟨(Kd.fresh' (Kd.R_lt (by (with_reducible repeat (first | apply Kd.R_alloc | apply Kd.R_drewN | apply Kd.R_drew)); exact HO_1.out)) k_ hk_.2.1), (Kd.fresh' (Kd.R_lt (by (with_reducible repeat (first | apply Kd.R_alloc | apply Kd.R_drewN | apply Kd.R_drew)); exact HO1642.out)) k_ hk_.2.1), (Kd.fresh' (Kd.R_lt (by (with_reducible repeat (first | apply Kd.R_alloc | apply Kd.R_drewN | apply Kd.R_drew)); exact HO1655.out)) k_ hk_.2.1), (Kd.freshB (g := gb1647) (o := .cells #[.int .u64 t1644, .int .u64 t1645] 92 (0, 0)) (by (with_reducible repeat (first | refine blk_drewN ?_ _ | refine blk_drew ?_ | refine blk_alloc ?_ _)); exact BK1647.out) k_ hk_.2.1)⟩)) (below_size (by repeat (first | (with_reducible first | exact HB.out | apply below_alloc | apply pw_below_drewN | apply below_drew1 | refine below_set ?_ GE1647.out) | exact HB.out)))); have n7_ := Aside0.mk (blk_below (g := gb1647) (o := .cells #[.int .u64 t1644, .int .u64 t1645] 92 (0, 0)) (by (with_reducible repeat (first | refine blk_drewN ?_ _ | refine blk_drew ?_ | refine blk_alloc ?_ _)); exact BK1647.out) hb); have n8_ := Aside0.mk (below_step (by repeat (first | (with_reducible first | exact HB.out | apply below_alloc | apply pw_below_drewN | apply below_drew1 | refine below_set ?_ GE1647.out) | exact HB.out)) hb); clear HO_1; clear HO1636; clear HO1639; clear HO1642; clear HO1650; clear HO1655; clear BK1647; clear HB; have HO_1 := n0_; have HO1636 := n1_; have HO1639 := n2_; have HO1642 := n3_; have HO1650 := n4_; have HO1655 := n5_; have HO1659 := n6_; have BK1647 := n7_; have HB := n8_; clear n0_ n1_ n2_ n3_ n4_ n5_ n6_ n7_ n8_; clear hb ho52; obtain ⟨Ao53, co53, eo53⟩ := Kd.V_slice HO1659.out; subst eo53) | ((with_reducible refine gate_callee (f := 75) rfl ?_); refine goesL_ (some 58) rfl rfl Try.func75 (by kernel_rfl) rfl #[.slice Ao53 y1657.length co53] rfl (by (try simp only [List.map_toArray, List.map_cons, List.map_nil]); first | done | rfl | (simp only [List.length_drop, List.length_take]; rfl)) ?_; (with_reducible refine (journal_Of.calls _ _ y1657 t1660 t1661 _ ?side1 ?side2 A28.out).mono ?_); (case side1 => repeat (first | exact (Kd.V_reads' HO1659.out).2.2 | (with_reducible refine Kd.C_alloc ?_ _) | (with_reducible refine Kd.C_drewN ?_ _) | (with_reducible refine Kd.C_drew ?_))); (case side2 => exact (Kd.V_reads' HO1659.out).2.1); rintro e w54 ⟨rfl, hb⟩; refine ⟨_, rfl, ?_⟩; have n0_ := Aside0.mk (Kd.R_below (by (with_reducible repeat (first | apply Kd.R_alloc | apply Kd.R_drewN | apply Kd.R_drew)); exact HO_1.out) hb); have n1_ := Aside0.mk (Kd.V_below (by (with_reducible repeat (first | apply Kd.V_alloc | apply Kd.V_drewN | apply Kd.V_drew)); exact HO1636.out) hb); have n2_ := Aside0.mk (Kd.V_below (by (with_reducible repeat (first | apply Kd.V_alloc | apply Kd.V_drewN | apply Kd.V_drew)); exact HO1639.out) hb); have n3_ := Aside0.mk (Kd.R_below (by (with_reducible repeat (first | apply Kd.R_alloc | apply Kd.R_drewN | apply Kd.R_drew)); exact HO1642.out) hb); have n4_ := Aside0.mk (Kd.V_below (by (with_reducible repeat (first | apply Kd.V_alloc | apply Kd.V_drewN | apply Kd.V_drew)); exact HO1650.out) hb); have n5_ := Aside0.mk (Kd.R_below (by (with_reducible repeat (first | apply Kd.R_alloc | apply Kd.R_drewN | apply Kd.R_drew)); exact HO1655.out) hb); have n6_ := Aside0.mk (Kd.V_below (by (with_reducible repeat (first | apply Kd.V_alloc | apply Kd.V_drewN | apply Kd.V_drew)); exact HO1659.out) hb); have n7_ := Aside0.mk (blk_below (g := gb1647) (o := .cells #[.int .u64 t1644, .int .u64 t1645] 92 (0, 0)) (by (with_reducible repeat (first | refine blk_drewN ?_ _ | refine blk_drew ?_ | refine blk_alloc ?_ _)); exact BK1647.out) hb); have n8_ := Aside0.mk (below_step (by repeat (first | (with_reducible first | exact HB.out | apply below_alloc | apply pw_below_drewN | apply below_drew1 | refine below_set ?_ GE1647.out) | exact HB.out)) hb); clear HO_1; clear HO1636; clear HO1639; clear HO1642; clear HO1650; clear HO1655; clear HO1659; clear BK1647; clear HB; have HO_1 := n0_; have HO1636 := n1_; have HO1639 := n2_; have HO1642 := n3_; have HO1650 := n4_; have HO1655 := n5_; have HO1659 := n6_; have BK1647 := n7_; have HB := n8_; clear n0_ n1_ n2_ n3_ n4_ n5_ n6_ n7_ n8_; (try clear hb); (try clear hb2); (try clear hk); (try clear hi)) | ((with_reducible refine gate_callee (f := 99) rfl ?_); refine goesL_ (some 59) rfl rfl Try.func99 (by kernel_rfl) rfl #[.slice Ao49 t1640.length co49, .int .i64 0, .agg #[.int .u64 t1660, .int .u64 t1661]] rfl (by (try simp only [List.map_toArray, List.map_cons, List.map_nil]); first | done | rfl | (simp only [List.length_drop, List.length_take]; rfl)) ?_; (with_reducible refine (journal_Get.calls kj1 _ _ t1640 0 t1660 t1661 t1662 t1665 _ ?side1 ?side2 A29.out).mono ?_); (case side1 => repeat (first | exact (Kd.R_reads' HO1642.out).2.2 | (with_reducible refine Kd.C_alloc ?_ _) | (with_reducible refine Kd.C_drewN ?_ _) | (with_reducible refine Kd.C_drew ?_))); (case side2 => exact (Kd.R_reads' HO1642.out).2.1); rintro e w55 ⟨v1663, rfl, ho0, hb⟩; refine ⟨_, rfl, ?_⟩; have n0_ := Aside0.mk (Kd.R_elder' (by (with_reducible repeat (first | apply Kd.R_alloc | apply Kd.R_drewN | apply Kd.R_drew)); exact HO_1.out) (Kd.R_base ho0) hb); have n1_ := Aside0.mk (Kd.V_elder' (by (with_reducible repeat (first | apply Kd.V_alloc | apply Kd.V_drewN | apply Kd.V_drew)); exact HO1636.out) (Kd.R_base ho0) hb); have n2_ := Aside0.mk (Kd.V_elder' (by (with_reducible repeat (first | apply Kd.V_alloc | apply Kd.V_drewN | apply Kd.V_drew)); exact HO1639.out) (Kd.R_base ho0) hb); have n3_ := Aside0.mk (Kd.R_elder' (by (with_reducible repeat (first | apply Kd.R_alloc | apply Kd.R_drewN | apply Kd.R_drew)); exact HO1642.out) (Kd.R_base ho0) hb); have n4_ := Aside0.mk (Kd.V_elder' (by (with_reducible repeat (first | apply Kd.V_alloc | apply Kd.V_drewN | apply Kd.V_drew)); exact HO1650.out) (Kd.R_base ho0) hb); have n5_ := Aside0.mk (Kd.R_elder' (by (with_reducible repeat (first | apply Kd.R_alloc | apply Kd.R_drewN | apply Kd.R_drew)); exact HO1655.out) (Kd.R_base ho0) hb); have n6_ := Aside0.mk (Kd.V_elder' (by (with_reducible repeat (first | apply Kd.V_alloc | apply Kd.V_drewN | apply Kd.V_drew)); exact HO1659.out) (Kd.R_base ho0) hb); have n7_ := Aside0.mk (Kd.R_lower (Kd.R_new' (Kd.R_new' (Kd.R_new' ho0 (Kd.R_lt (by (with_reducible repeat (first | apply Kd.R_alloc | apply Kd.R_drewN | apply Kd.R_drew)); exact HO_1.out))) (Kd.R_lt (by (with_reducible repeat (first | apply Kd.R_alloc | apply Kd.R_drewN | apply Kd.R_drew)); exact HO1642.out))) (Kd.R_lt (by (with_reducible repeat (first | apply Kd.R_alloc | apply Kd.R_drewN | apply Kd.R_drew)); exact HO1655.out))) (below_size (by repeat (first | (with_reducible first | exact HB.out | apply below_alloc | apply pw_below_drewN | apply below_drew1 | refine below_set ?_ GE1647.out) | exact HB.out)))); have n8_ := Aside0.mk (blk_below (g := gb1647) (o := .cells #[.int .u64 t1644, .int .u64 t1645] 92 (0, 0)) (by (with_reducible repeat (first | refine blk_drewN ?_ _ | refine blk_drew ?_ | refine blk_alloc ?_ _)); exact BK1647.out) hb); have n9_ := Aside0.mk (below_step (by repeat (first | (with_reducible first | exact HB.out | apply below_alloc | apply pw_below_drewN | apply below_drew1 | refine below_set ?_ GE1647.out) | exact HB.out)) hb); clear HO_1; clear HO1636; clear HO1639; clear HO1642; clear HO1650; clear HO1655; clear HO1659; clear BK1647; clear HB; have HO_1 := n0_; have HO1636 := n1_; have HO1639 := n2_; have HO1642 := n3_; have HO1650 := n4_; have HO1655 := n5_; have HO1659 := n6_; have HO1664 := n7_; have BK1647 := n8_; have HB := n9_; clear n0_ n1_ n2_ n3_ n4_ n5_ n6_ n7_ n8_ n9_; (try clear hb); (try clear hb2); (try clear hk); (try clear hi); (try clear ho0)))
                      (try (rw [drewN_self w55]; generalize hq_ : World.drewN w55 _ = w55; have n0_ : Aside0 (Kd.V (Kd.int .u8) 5 w55 w.heap.size (fun k_ => some k_ ≠ (.slice Ao49 t1640.length co49 : Value).ownBlock ∧ some k_ ≠ (v1654 : Value).ownBlock ∧ some k_ ≠ (v1663 : Value).ownBlock ∧ k_ ≠ gb1647) (.slice Ao38 y1632.length co38) y1632) := ⟨by rw [← hq_]; exact (by (with_reducible repeat (first | apply Kd.V_alloc | apply Kd.V_drewN | apply Kd.V_drew)); exact Kd.V_mono HO1636.out (fun _ hk => ⟨hk.1.1.1.2, ⟨hk.1.2, ⟨hk.2, hk.1.1.2⟩⟩⟩))⟩; have n1_ : Aside0 (Kd.V (Kd.int .u8) 5 w55 w.heap.size (fun k_ => some k_ ≠ (.slice Ao49 t1640.length co49 : Value).ownBlock ∧ some k_ ≠ (v1654 : Value).ownBlock ∧ some k_ ≠ (v1663 : Value).ownBlock ∧ some k_ ≠ (.slice Ao38 t1621.length co38 : Value).ownBlock ∧ k_ ≠ gb1647) (.slice Ao41 y1637.length co41) y1637) := ⟨by rw [← hq_]; exact (by (with_reducible repeat (first | apply Kd.V_alloc | apply Kd.V_drewN | apply Kd.V_drew)); exact Kd.V_mono HO1639.out (fun _ hk => ⟨hk.1.1.1.2, ⟨hk.1.2, ⟨hk.2, ⟨hk.1.1.1.1, hk.1.1.2⟩⟩⟩⟩))⟩; have n2_ : Aside0 (Kd.R (Kd.int .u8) 5 w55 w.heap.size (fun k_ => some k_ ≠ (v1654 : Value).ownBlock ∧ some k_ ≠ (v1663 : Value).ownBlock ∧ some k_ ≠ (.slice Ao38 t1621.length co38 : Value).ownBlock) (.slice Ao49 t1640.length co49) t1640) := ⟨by rw [← hq_]; exact (by (with_reducible repeat (first | apply Kd.R_alloc | apply Kd.R_drewN | apply Kd.R_drew)); exact Kd.R_mono HO1642.out (fun _ hk => ⟨hk.1.2, ⟨hk.2, hk.1.1.2⟩⟩))⟩; have n3_ : Aside0 (Kd.V (Kd.int .u8) 5 w55 w.heap.size (fun k_ => some k_ ≠ (.slice Ao49 t1640.length co49 : Value).ownBlock ∧ some k_ ≠ (v1654 : Value).ownBlock ∧ some k_ ≠ (v1663 : Value).ownBlock ∧ some k_ ≠ (.slice Ao38 t1621.length co38 : Value).ownBlock ∧ k_ ≠ gb1647) (.slice Ao47 y1648.length co47) y1648) := ⟨by rw [← hq_]; exact (by (with_reducible repeat (first | apply Kd.V_alloc | apply Kd.V_drewN | apply Kd.V_drew)); exact Kd.V_mono HO1650.out (fun _ hk => ⟨hk.1.1.2.1, ⟨hk.1.2, ⟨hk.2, ⟨hk.1.1.1, hk.1.1.2.2⟩⟩⟩⟩))⟩; have n4_ : Aside0 (Kd.R (Kd.int .u8) 5 w55 w.heap.size (fun k_ => some k_ ≠ (.slice Ao49 t1640.length co49 : Value).ownBlock ∧ some k_ ≠ (v1663 : Value).ownBlock ∧ some k_ ≠ (.slice Ao38 t1621.length co38 : Value).ownBlock) v1654 t1653) := ⟨by rw [← hq_]; exact (by (with_reducible repeat (first | apply Kd.R_alloc | apply Kd.R_drewN | apply Kd.R_drew)); exact Kd.R_mono HO1655.out (fun _ hk => ⟨hk.1.2, ⟨hk.2, hk.1.1.2⟩⟩))⟩; have n5_ : Aside0 (Kd.V (Kd.int .u8) 5 w55 w.heap.size (fun k_ => some k_ ≠ (.slice Ao49 t1640.length co49 : Value).ownBlock ∧ some k_ ≠ (v1654 : Value).ownBlock ∧ some k_ ≠ (v1663 : Value).ownBlock ∧ some k_ ≠ (.slice Ao38 t1621.length co38 : Value).ownBlock ∧ k_ ≠ gb1647) (.slice Ao53 y1657.length co53) y1657) := ⟨by rw [← hq_]; exact (by (with_reducible repeat (first | apply Kd.V_alloc | apply Kd.V_drewN | apply Kd.V_drew)); exact Kd.V_mono HO1659.out (fun _ hk => ⟨hk.1.2.1, ⟨hk.1.2.2.1, ⟨hk.2, ⟨hk.1.1, hk.1.2.2.2⟩⟩⟩⟩))⟩; have n6_ : Aside0 (Kd.R (Kd.int .u8) 5 w55 w.heap.size (fun k_ => some k_ ≠ (.slice Ao49 t1640.length co49 : Value).ownBlock ∧ some k_ ≠ (v1654 : Value).ownBlock ∧ some k_ ≠ (.slice Ao38 t1621.length co38 : Value).ownBlock) v1663 t1662) := ⟨by rw [← hq_]; exact (by (with_reducible repeat (first | apply Kd.R_alloc | apply Kd.R_drewN | apply Kd.R_drew)); exact Kd.R_mono HO1664.out (fun _ hk => ⟨hk.1.2, ⟨hk.2, hk.1.1.2⟩⟩))⟩; have n7_ : Aside0 (Kd.R (Kd.int .u8) 5 w55 w.heap.size (fun k_ => some k_ ≠ (.slice Ao49 t1640.length co49 : Value).ownBlock ∧ some k_ ≠ (v1654 : Value).ownBlock ∧ some k_ ≠ (v1663 : Value).ownBlock) (.slice Ao38 t1621.length co38) t1621) := ⟨by rw [← hq_]; exact (by (with_reducible repeat (first | apply Kd.R_alloc | apply Kd.R_drewN | apply Kd.R_drew)); exact Kd.R_mono HO_1.out (fun _ hk => ⟨hk.1.1.2, ⟨hk.1.2, hk.2⟩⟩))⟩; have n8_ : Aside0 (w55.heap[gb1647]? = some (.cells #[.int .u64 t1644, .int .u64 t1645] 92 (0, 0))) := ⟨by rw [← hq_]; exact (by (with_reducible repeat (first | refine blk_drewN ?_ _ | refine blk_drew ?_ | refine blk_alloc ?_ _)); exact BK1647.out)⟩; have n9_ : Aside0 (Below w.heap.size w w55) := ⟨by rw [← hq_]; exact (by repeat (first | (with_reducible first | exact HB.out | apply below_alloc | apply pw_below_drewN | apply below_drew1 | refine below_set ?_ GE1647.out) | exact HB.out))⟩; clear HO1636 HO1639 HO1642 HO1650 HO1655 HO1659 HO1664 HO_1 BK1647 HB hq_; have HO1636 := n0_; have HO1639 := n1_; have HO1642 := n2_; have HO1650 := n3_; have HO1655 := n4_; have HO1659 := n5_; have HO1664 := n6_; have HO_1 := n7_; have BK1647 := n8_; have HB := n9_; clear n0_ n1_ n2_ n3_ n4_ n5_ n6_ n7_ n8_ n9_))
                      have n0_ := Aside0.mk (Kd.R_drew HO_1.out)
                      have n1_ := Aside0.mk (Kd.V_drew HO1636.out)
                      have n2_ := Aside0.mk (Kd.V_drew HO1639.out)
                      have n3_ := Aside0.mk (Kd.R_drew HO1642.out)
                      have n4_ := Aside0.mk (Kd.V_drew HO1650.out)
                      have n5_ := Aside0.mk (Kd.R_drew HO1655.out)
                      have n6_ := Aside0.mk (Kd.V_drew HO1659.out)
                      have n7_ := Aside0.mk (Kd.R_drew HO1664.out)
                      have n8_ := Aside0.mk (blk_drew BK1647.out)
                      have n9_ := Aside0.mk (below_drew1 HB.out)
                      clear HO_1
                      clear HO1636
                      clear HO1639
                      clear HO1642
                      clear HO1650
                      clear HO1655
                      clear HO1659
                      clear HO1664
                      clear BK1647
                      clear HB
                      have HO_1 := n0_
                      have HO1636 := n1_
                      have HO1639 := n2_
                      have HO1642 := n3_
                      have HO1650 := n4_
                      have HO1655 := n5_
                      have HO1659 := n6_
                      have HO1664 := n7_
                      have BK1647 := n8_
                      have HB := n9_
                      clear n0_ n1_ n2_ n3_ n4_ n5_ n6_ n7_ n8_ n9_
                      obtain ⟨Ag_, cg_, eg_⟩ := Kd.R_slice HO1655.out
                      subst eg_
                      refine start_ (n := 32) (S := fun w' => w'.cell? ⟨gb1647, 0, none⟩ = some (.int .u64 t1644) ∧ w'.cell? ⟨gb1647, 1, none⟩ = some (.int .u64 t1645) ∧ Kd.C (Kd.int .u8) w' Ag_ t1653.length t1653) (ds := []) #[false, false, false, false, false, false, false, false, false, false, false, false, false, false, false, false, false, false, false, false, false, false, false, false, false, false, false, false, false, false, false, false] (by kernel_rfl) rfl rfl ⟨(blk_cell BK1647.out 0).trans rfl, (blk_cell BK1647.out 1).trans rfl, (Kd.R_reads' HO1655.out).2.2⟩ (fun hHeld => ?_); refine with_tabW chartroomlaw11_works.tab7 chartroomlaw11_works.bits7 (fun HT_ HW_ => ?_)
                      generalize w55.drew = w56 at HO_1 HO1636 HO1639 HO1642 HO1650 HO1655 HO1659 HO1664 BK1647 HB hHeld ⊢
                      refine pure_ (i := 0) (N := some 62) (v := ?_) (a' := ?_) #[true, false, false, false, false, false, false, false, false, false, false, false, false, false, false, false, false, false, false, false, false, false, false, false, false, false, false, false, false, false, false, false] rfl rfl (any_of HT_.out (by kernel_rfl)) (fun _ _ _ h => h) (Or.inl ⟨by rfl, ?_⟩) ?_ ?_
                      rotate_left
                      · intro w'
                        go_simp
                        with_reducible rfl
                      rotate_left
                      · simp only [Act.put, List.setIfInBounds_toArray, List.set_cons_zero, List.set_cons_succ, i64_w, i32_w]
                        rfl
                      refine pure_ (i := 1) (N := some 63) (v := ?_) (a' := ?_) #[true, true, false, false, false, false, false, false, false, false, false, false, false, false, false, false, false, false, false, false, false, false, false, false, false, false, false, false, false, false, false, false] rfl rfl (any_of HT_.out (by kernel_rfl)) (fun _ _ _ h => h) (Or.inl ⟨by rfl, ?_⟩) ?_ ?_
                      rotate_left
                      · intro w'
                        go_simp
                        with_reducible rfl
                      rotate_left
                      · simp only [Act.put, List.setIfInBounds_toArray, List.set_cons_zero, List.set_cons_succ, i64_w, i32_w]
                        rfl
                      refine pure_ (i := 2) (N := some 64) (v := ?_) (a' := ?_) #[true, true, true, false, false, false, false, false, false, false, false, false, false, false, false, false, false, false, false, false, false, false, false, false, false, false, false, false, false, false, false, false] rfl rfl (any_of HT_.out (by kernel_rfl)) (fun _ _ _ h => h) (Or.inl ⟨by rfl, ?_⟩) ?_ ?_
                      rotate_left
                      · intro w'
                        go_simp
                        with_reducible rfl
                      rotate_left
                      · simp only [Act.put, List.setIfInBounds_toArray, List.set_cons_zero, List.set_cons_succ, i64_w, i32_w]
                        rfl
                      refine pure_ (i := 3) (N := some 65) (v := ?_) (a' := ?_) #[true, true, true, true, false, false, false, false, false, false, false, false, false, false, false, false, false, false, false, false, false, false, false, false, false, false, false, false, false, false, false, false] rfl rfl (any_of HT_.out (by kernel_rfl)) (fun _ _ _ h => h) (Or.inl ⟨by rfl, ?_⟩) ?_ ?_
                      rotate_left
                      · intro w'
                        go_simp
                        with_reducible rfl
                      rotate_left
                      · simp only [Act.put, List.setIfInBounds_toArray, List.set_cons_zero, List.set_cons_succ, i64_w, i32_w]
                        rfl
                      refine pure_ (i := 4) (N := some 66) (v := ?_) (a' := ?_) #[true, true, true, true, true, false, false, false, false, false, false, false, false, false, false, false, false, false, false, false, false, false, false, false, false, false, false, false, false, false, false, false] rfl rfl (any_of HT_.out (by kernel_rfl)) (fun _ _ _ h => h) (Or.inl ⟨by rfl, ?_⟩) ?_ ?_
                      rotate_left
                      · intro w'
                        go_simp
                        with_reducible rfl
                      rotate_left
                      · simp only [Act.put, List.setIfInBounds_toArray, List.set_cons_zero, List.set_cons_succ, i64_w, i32_w]
                        rfl
                      refine pure_ (i := 5) (N := some 67) (v := ?_) (a' := ?_) #[true, true, true, true, true, true, false, false, false, false, false, false, false, false, false, false, false, false, false, false, false, false, false, false, false, false, false, false, false, false, false, false] rfl rfl (any_of HT_.out (by kernel_rfl)) (fun _ _ _ h => h) (Or.inl ⟨by rfl, ?_⟩) ?_ ?_
                      rotate_left
                      · intro w'
                        go_simp
                        with_reducible rfl
                      rotate_left
                      · simp only [Act.put, List.setIfInBounds_toArray, List.set_cons_zero, List.set_cons_succ, i64_w, i32_w]
                        rfl
                      refine pure_ (i := 6) (N := some 68) (v := ?_) (a' := ?_) #[true, true, true, true, true, true, true, false, false, false, false, false, false, false, false, false, false, false, false, false, false, false, false, false, false, false, false, false, false, false, false, false] rfl rfl (any_of HT_.out (by kernel_rfl)) (fun _ _ _ h => h) (Or.inl ⟨by rfl, ?_⟩) ?_ ?_
                      rotate_left
                      · intro w'
                        go_simp
                        with_reducible rfl
                      rotate_left
                      · simp only [Act.put, List.setIfInBounds_toArray, List.set_cons_zero, List.set_cons_succ, i64_w, i32_w]
                        rfl
                      refine pure_ (i := 7) (N := some 69) (v := ?_) (a' := ?_) #[true, true, true, true, true, true, true, true, false, false, false, false, false, false, false, false, false, false, false, false, false, false, false, false, false, false, false, false, false, false, false, false] rfl rfl (any_of HT_.out (by kernel_rfl)) (fun _ _ _ h => h) (Or.inl ⟨by rfl, ?_⟩) ?_ ?_
                      rotate_left
                      · intro w'
                        go_simp
                        with_reducible rfl
                      rotate_left
                      · simp only [Act.put, List.setIfInBounds_toArray, List.set_cons_zero, List.set_cons_succ, i64_w, i32_w]
                        rfl
                      refine pure_ (i := 8) (N := some 70) (v := ?_) (a' := ?_) #[true, true, true, true, true, true, true, true, true, false, false, false, false, false, false, false, false, false, false, false, false, false, false, false, false, false, false, false, false, false, false, false] rfl rfl (any_of HT_.out (by kernel_rfl)) (fun _ _ _ h => h) (Or.inl ⟨by rfl, ?_⟩) ?_ ?_
                      rotate_left
                      · intro w'
                        go_simp
                        with_reducible rfl
                      rotate_left
                      · simp only [Act.put, List.setIfInBounds_toArray, List.set_cons_zero, List.set_cons_succ, i64_w, i32_w]
                        rfl
                      refine pure_ (i := 9) (N := some 71) (v := ?_) (a' := ?_) #[true, true, true, true, true, true, true, true, true, true, false, false, false, false, false, false, false, false, false, false, false, false, false, false, false, false, false, false, false, false, false, false] rfl rfl (any_of HT_.out (by kernel_rfl)) (fun _ _ _ h => h) (Or.inl ⟨by rfl, ?_⟩) ?_ ?_
                      rotate_left
                      · intro w'
                        go_simp
                        with_reducible rfl
                      rotate_left
                      · simp only [Act.put, List.setIfInBounds_toArray, List.set_cons_zero, List.set_cons_succ, i64_w, i32_w]
                        rfl
                      refine pure_ (i := 10) (N := some 72) (v := ?_) (a' := ?_) #[true, true, true, true, true, true, true, true, true, true, true, false, false, false, false, false, false, false, false, false, false, false, false, false, false, false, false, false, false, false, false, false] rfl rfl (any_of HT_.out (by kernel_rfl)) (fun _ _ _ h => h) (Or.inl ⟨by rfl, ?_⟩) ?_ ?_
                      rotate_left
                      · intro w'
                        go_simp
                        with_reducible rfl
                      rotate_left
                      · simp only [Act.put, List.setIfInBounds_toArray, List.set_cons_zero, List.set_cons_succ, i64_w, i32_w]
                        rfl
                      refine pure_ (i := 11) (N := some 73) (v := ?_) (a' := ?_) #[true, true, true, true, true, true, true, true, true, true, true, true, false, false, false, false, false, false, false, false, false, false, false, false, false, false, false, false, false, false, false, false] rfl rfl (any_of HT_.out (by kernel_rfl)) (fun _ _ _ h => h) (Or.inl ⟨by rfl, ?_⟩) ?_ ?_
                      rotate_left
                      · intro w'
                        go_simp
                        with_reducible rfl
                      rotate_left
                      · simp only [Act.put, List.setIfInBounds_toArray, List.set_cons_zero, List.set_cons_succ, i64_w, i32_w]
                        rfl
                      refine take_ (i := 12) (N := some 74) (v := ?_) (a' := ?_) #[true, true, true, true, true, true, true, true, true, true, true, true, true, false, false, false, false, false, false, false, false, false, false, false, false, false, false, false, false, false, false, false] rfl rfl (take_ofW HT_.out HW_.out (by kernel_rfl)) (fun _ _ _ h => h) (Or.inl ⟨by rfl, ?_⟩) hHeld ?_ ?_
                      rotate_left
                      · rintro w' ⟨s0, s1, s2⟩
                        go_simp
                        with_reducible rfl
                      rotate_left
                      · simp only [Act.put, List.setIfInBounds_toArray, List.set_cons_zero, List.set_cons_succ, i64_w, i32_w]
                        rfl
                      refine one_ (i := 13) (N := some 75) #[true, true, true, true, true, true, true, true, true, true, true, true, true, true, false, false, false, false, false, false, false, false, false, false, false, false, false, false, false, false, false, false] rfl rfl (one_of HT_.out (by kernel_rfl)) (by decide) (fun K hK => ?_)
                      refine Kd.R_lit_step (Kd.int .u8) _ 5 ?hg (N := 75) ?hd (xs := ([99] : List Int)) (inner := [.int .u8 99]) (ok := fun _ => True) (okp := fun _ => True) ?hr ?hp (fun _ hk => hk) trivial (Below.refl _ _) (Nat.le_refl _) (by simp) ?_; (case hd => rfl); (case hg => rfl); (case hr => first | (go_simp; done) | (go_simp; rfl)); (case hp => exact (Reps.one (show Kd.M (Kd.int .u8) _ _ _ 99 [.int .u8 99] from rfl) (Reps.none _ _)))
                      intro v1667 w570 ho580 hb0 hg_ hnew_
                      refine hK.out _ _ ⟨(blk_cell (blk_below BK1647.out hb0) 0).trans rfl, (blk_cell (blk_below BK1647.out hb0) 1).trans rfl, (Kd.R_reads' (Kd.R_below HO1655.out hb0)).2.2⟩ (fun hHeld => ?_)
                      clear hK K
                      refine norm_ (a' := ?_) ?_ ?_
                      rotate_left
                      · show Act.put _ (some 75) _ = _
                        simp only [Act.put, List.setIfInBounds_toArray, List.set_cons_zero, List.set_cons_succ, i64_w, i32_w]
                        rfl
                      refine one_ (i := 14) (N := some 76) #[true, true, true, true, true, true, true, true, true, true, true, true, true, true, true, false, false, false, false, false, false, false, false, false, false, false, false, false, false, false, false, false] rfl rfl (one_of HT_.out (by kernel_rfl)) (by decide) (fun K hK => ?_)
                      refine Kd.lit_conv_step ?hg (N := 76) ?hd 24 Try.underlying24 Try.underlying5 ?hr ho580 hb0 hnew_ ?_; (case hd => rfl); (case hg => rfl); (case hr => intro w9_ hc_; first | (go_simp; done) | (go_simp; rw [hc_]; done) | (go_simp; rw [hc_]; rfl))
                      clear ho580 hb0 hg_ hnew_
                      intro w57 ho58 hb
                      (first | rw [← Ny1666.out] at ho58 | (simp only [Int.reduceToNat] at ho58; rw [← Ny1666.out] at ho58))
                      have n0_ := Aside0.mk (Kd.R_below (by (with_reducible repeat (first | apply Kd.R_alloc | apply Kd.R_drewN | apply Kd.R_drew)); exact HO_1.out) hb)
                      have n1_ := Aside0.mk (Kd.V_below (by (with_reducible repeat (first | apply Kd.V_alloc | apply Kd.V_drewN | apply Kd.V_drew)); exact HO1636.out) hb)
                      have n2_ := Aside0.mk (Kd.V_below (by (with_reducible repeat (first | apply Kd.V_alloc | apply Kd.V_drewN | apply Kd.V_drew)); exact HO1639.out) hb)
                      have n3_ := Aside0.mk (Kd.R_below (by (with_reducible repeat (first | apply Kd.R_alloc | apply Kd.R_drewN | apply Kd.R_drew)); exact HO1642.out) hb)
                      have n4_ := Aside0.mk (Kd.V_below (by (with_reducible repeat (first | apply Kd.V_alloc | apply Kd.V_drewN | apply Kd.V_drew)); exact HO1650.out) hb)
                      have n5_ := Aside0.mk (Kd.R_below (by (with_reducible repeat (first | apply Kd.R_alloc | apply Kd.R_drewN | apply Kd.R_drew)); exact HO1655.out) hb)
                      have n6_ := Aside0.mk (Kd.V_below (by (with_reducible repeat (first | apply Kd.V_alloc | apply Kd.V_drewN | apply Kd.V_drew)); exact HO1659.out) hb)
                      have n7_ := Aside0.mk (Kd.R_below (by (with_reducible repeat (first | apply Kd.R_alloc | apply Kd.R_drewN | apply Kd.R_drew)); exact HO1664.out) hb)
                      have n8_ := Aside0.mk (Kd.V_lower (Kd.V_mono (ok' := fun k_ => some k_ ≠ (.slice Ao38 t1621.length co38 : Value).ownBlock ∧ some k_ ≠ (.slice Ao49 t1640.length co49 : Value).ownBlock ∧ some k_ ≠ (.slice Ag_ t1653.length cg_ : Value).ownBlock ∧ some k_ ≠ (v1663 : Value).ownBlock ∧ k_ ≠ gb1647) ho58 (fun k_ hk_ => ⟨(Kd.fresh' (Kd.R_lt (by (with_reducible repeat (first | apply Kd.R_alloc | apply Kd.R_drewN | apply Kd.R_drew)); exact HO_1.out)) k_ hk_.2.1), (Kd.fresh' (Kd.R_lt (by (with_reducible repeat (first | apply Kd.R_alloc | apply Kd.R_drewN | apply Kd.R_drew)); exact HO1642.out)) k_ hk_.2.1), (Kd.fresh' (Kd.R_lt (by (with_reducible repeat (first | apply Kd.R_alloc | apply Kd.R_drewN | apply Kd.R_drew)); exact HO1655.out)) k_ hk_.2.1), (Kd.fresh' (Kd.R_lt (by (with_reducible repeat (first | apply Kd.R_alloc | apply Kd.R_drewN | apply Kd.R_drew)); exact HO1664.out)) k_ hk_.2.1), (Kd.freshB (g := gb1647) (o := .cells #[.int .u64 t1644, .int .u64 t1645] 92 (0, 0)) (by (with_reducible repeat (first | refine blk_drewN ?_ _ | refine blk_drew ?_ | refine blk_alloc ?_ _)); exact BK1647.out) k_ hk_.2.1)⟩)) (below_size (by repeat (first | (with_reducible first | exact HB.out | apply below_alloc | apply pw_below_drewN | apply below_drew1 | refine below_set ?_ GE1647.out) | exact HB.out))))
                      have n9_ := Aside0.mk (blk_below (g := gb1647) (o := .cells #[.int .u64 t1644, .int .u64 t1645] 92 (0, 0)) (by (with_reducible repeat (first | refine blk_drewN ?_ _ | refine blk_drew ?_ | refine blk_alloc ?_ _)); exact BK1647.out) hb)
                      have n10_ := Aside0.mk (below_step (by repeat (first | (with_reducible first | exact HB.out | apply below_alloc | apply pw_below_drewN | apply below_drew1 | refine below_set ?_ GE1647.out) | exact HB.out)) hb)
                      clear HO_1
                      clear HO1636
                      clear HO1639
                      clear HO1642
                      clear HO1650
                      clear HO1655
                      clear HO1659
                      clear HO1664
                      clear BK1647
                      clear HB
                      have HO_1 := n0_
                      have HO1636 := n1_
                      have HO1639 := n2_
                      have HO1642 := n3_
                      have HO1650 := n4_
                      have HO1655 := n5_
                      have HO1659 := n6_
                      have HO1664 := n7_
                      have HO1668 := n8_
                      have BK1647 := n9_
                      have HB := n10_
                      clear n0_ n1_ n2_ n3_ n4_ n5_ n6_ n7_ n8_ n9_ n10_
                      clear hb ho58
                      obtain ⟨Ao59, co59, eo59⟩ := Kd.V_slice HO1668.out
                      (first | subst eo59 | (injection eo59 with f1_ f2_ f3_; have f4_ := f1_.symm; have f5_ := f3_.symm; clear f1_ f2_ f3_; subst f4_; subst f5_))
                      refine hK.out _ _ ⟨(blk_cell BK1647.out 0).trans rfl, (blk_cell BK1647.out 1).trans rfl, (Kd.R_reads' HO1655.out).2.2⟩ (fun hHeld => ?_)
                      clear hK K
                      refine norm_ (a' := ?_) ?_ ?_
                      rotate_left
                      · show Act.put _ (some 76) _ = _
                        simp only [Act.put, List.setIfInBounds_toArray, List.set_cons_zero, List.set_cons_succ, i64_w, i32_w]
                        rfl
                      refine one_ (i := 15) (N := some 77) #[true, true, true, true, true, true, true, true, true, true, true, true, true, true, true, true, false, false, false, false, false, false, false, false, false, false, false, false, false, false, false, false] rfl rfl (one_of HT_.out (by kernel_rfl)) (by decide) (fun K hK => ?_)
                      refine goes_ Try.func75 (by kernel_rfl) rfl #[.slice Ao59 y1666.length co59] (by rfl) rfl rfl (by (try simp only [List.map_toArray, List.map_cons, List.map_nil]); first | done | rfl | (simp only [List.length_drop, List.length_take]; rfl)) ?_
                      with_reducible refine (journal_Of.calls _ _ y1666 t1669 t1670 _ ?side1 ?side2 A33.out).mono ?_
                      (case side1 => repeat (first | exact (Kd.V_reads' HO1668.out).2.2 | (with_reducible refine Kd.C_alloc ?_ _) | (with_reducible refine Kd.C_drewN ?_ _) | (with_reducible refine Kd.C_drew ?_)))
                      (case side2 => exact (Kd.V_reads' HO1668.out).2.1)
                      rintro e w60 ⟨rfl, hb⟩
                      refine ⟨_, rfl, ?_⟩
                      have n0_ := Aside0.mk (Kd.R_below (by (with_reducible repeat (first | apply Kd.R_alloc | apply Kd.R_drewN | apply Kd.R_drew)); exact HO_1.out) hb)
                      have n1_ := Aside0.mk (Kd.V_below (by (with_reducible repeat (first | apply Kd.V_alloc | apply Kd.V_drewN | apply Kd.V_drew)); exact HO1636.out) hb)
                      have n2_ := Aside0.mk (Kd.V_below (by (with_reducible repeat (first | apply Kd.V_alloc | apply Kd.V_drewN | apply Kd.V_drew)); exact HO1639.out) hb)
                      have n3_ := Aside0.mk (Kd.R_below (by (with_reducible repeat (first | apply Kd.R_alloc | apply Kd.R_drewN | apply Kd.R_drew)); exact HO1642.out) hb)
                      have n4_ := Aside0.mk (Kd.V_below (by (with_reducible repeat (first | apply Kd.V_alloc | apply Kd.V_drewN | apply Kd.V_drew)); exact HO1650.out) hb)
                      have n5_ := Aside0.mk (Kd.R_below (by (with_reducible repeat (first | apply Kd.R_alloc | apply Kd.R_drewN | apply Kd.R_drew)); exact HO1655.out) hb)
                      have n6_ := Aside0.mk (Kd.V_below (by (with_reducible repeat (first | apply Kd.V_alloc | apply Kd.V_drewN | apply Kd.V_drew)); exact HO1659.out) hb)
                      have n7_ := Aside0.mk (Kd.R_below (by (with_reducible repeat (first | apply Kd.R_alloc | apply Kd.R_drewN | apply Kd.R_drew)); exact HO1664.out) hb)
                      have n8_ := Aside0.mk (Kd.V_below (by (with_reducible repeat (first | apply Kd.V_alloc | apply Kd.V_drewN | apply Kd.V_drew)); exact HO1668.out) hb)
                      have n9_ := Aside0.mk (blk_below (g := gb1647) (o := .cells #[.int .u64 t1644, .int .u64 t1645] 92 (0, 0)) (by (with_reducible repeat (first | refine blk_drewN ?_ _ | refine blk_drew ?_ | refine blk_alloc ?_ _)); exact BK1647.out) hb)
                      have n10_ := Aside0.mk (below_step (by repeat (first | (with_reducible first | exact HB.out | apply below_alloc | apply pw_below_drewN | apply below_drew1 | refine below_set ?_ GE1647.out) | exact HB.out)) hb)
                      clear HO_1
                      clear HO1636
                      clear HO1639
                      clear HO1642
                      clear HO1650
                      clear HO1655
                      clear HO1659
                      clear HO1664
                      clear HO1668
                      clear BK1647
                      clear HB
                      have HO_1 := n0_
                      have HO1636 := n1_
                      have HO1639 := n2_
                      have HO1642 := n3_
                      have HO1650 := n4_
                      have HO1655 := n5_
                      have HO1659 := n6_
                      have HO1664 := n7_
                      have HO1668 := n8_
                      have BK1647 := n9_
                      have HB := n10_
                      clear n0_ n1_ n2_ n3_ n4_ n5_ n6_ n7_ n8_ n9_ n10_
                      (try clear hb)
                      (try clear hb2)
                      (try clear hk)
                      (try clear hi)
                      have hcv61 := own_string (P := Try.prog) Try.underlying24 Try.underlying5 Try.underlying9 (Kd.own_of_R HO1655.out)
                      refine hK.out _ _ ⟨(blk_cell BK1647.out 0).trans rfl, (blk_cell BK1647.out 1).trans rfl, (Kd.R_reads' HO1655.out).2.2⟩ (fun hHeld => ?_)
                      clear hK K
                      refine norm_ (a' := ?_) ?_ ?_
                      rotate_left
                      · show Act.put _ (some 77) _ = _
                        simp only [Act.put, List.setIfInBounds_toArray, List.set_cons_zero, List.set_cons_succ, i64_w, i32_w]
                        rfl
                      refine pure_ (i := 16) (N := some 78) (v := ?_) (a' := ?_) #[true, true, true, true, true, true, true, true, true, true, true, true, true, true, true, true, true, false, false, false, false, false, false, false, false, false, false, false, false, false, false, false] rfl rfl (any_of HT_.out (by kernel_rfl)) (fun _ _ _ h => h) (Or.inl ⟨by rfl, ?_⟩) ?_ ?_
                      rotate_left
                      · intro w'
                        go_simp
                        with_reducible rfl
                      rotate_left
                      · simp only [Act.put, List.setIfInBounds_toArray, List.set_cons_zero, List.set_cons_succ, i64_w, i32_w]
                        rfl
                      refine pure_ (i := 17) (N := some 79) (v := ?_) (a' := ?_) #[true, true, true, true, true, true, true, true, true, true, true, true, true, true, true, true, true, true, false, false, false, false, false, false, false, false, false, false, false, false, false, false] rfl rfl (any_of HT_.out (by kernel_rfl)) (fun _ _ _ h => h) (Or.inl ⟨by rfl, ?_⟩) ?_ ?_
                      rotate_left
                      · intro w'
                        go_simp
                        with_reducible rfl
                      rotate_left
                      · simp only [Act.put, List.setIfInBounds_toArray, List.set_cons_zero, List.set_cons_succ, i64_w, i32_w]
                        rfl
                      refine pure_ (i := 18) (N := some 80) (v := ?_) (a' := ?_) #[true, true, true, true, true, true, true, true, true, true, true, true, true, true, true, true, true, true, true, false, false, false, false, false, false, false, false, false, false, false, false, false] rfl rfl (any_of HT_.out (by kernel_rfl)) (fun _ _ _ h => h) (Or.inl ⟨by rfl, ?_⟩) ?_ ?_
                      rotate_left
                      · intro w'
                        go_simp
                        with_reducible rfl
                      rotate_left
                      · simp only [Act.put, List.setIfInBounds_toArray, List.set_cons_zero, List.set_cons_succ, i64_w, i32_w]
                        rfl
                      refine pure_ (i := 19) (N := some 81) (v := ?_) (a' := ?_) #[true, true, true, true, true, true, true, true, true, true, true, true, true, true, true, true, true, true, true, true, false, false, false, false, false, false, false, false, false, false, false, false] rfl rfl (any_of HT_.out (by kernel_rfl)) (fun _ _ _ h => h) (Or.inl ⟨by rfl, ?_⟩) ?_ ?_
                      rotate_left
                      · intro w'
                        go_simp
                        with_reducible rfl
                      rotate_left
                      · simp only [Act.put, List.setIfInBounds_toArray, List.set_cons_zero, List.set_cons_succ, i64_w, i32_w]
                        rfl
                      refine pure_ (i := 20) (N := some 82) (v := ?_) (a' := ?_) #[true, true, true, true, true, true, true, true, true, true, true, true, true, true, true, true, true, true, true, true, true, false, false, false, false, false, false, false, false, false, false, false] rfl rfl (any_of HT_.out (by kernel_rfl)) (fun _ _ _ h => h) (Or.inl ⟨by rfl, ?_⟩) ?_ ?_
                      rotate_left
                      · intro w'
                        go_simp
                        with_reducible rfl
                      rotate_left
                      · simp only [Act.put, List.setIfInBounds_toArray, List.set_cons_zero, List.set_cons_succ, i64_w, i32_w]
                        rfl
                      refine pure_ (i := 21) (N := some 83) (v := ?_) (a' := ?_) #[true, true, true, true, true, true, true, true, true, true, true, true, true, true, true, true, true, true, true, true, true, true, false, false, false, false, false, false, false, false, false, false] rfl rfl (any_of HT_.out (by kernel_rfl)) (fun _ _ _ h => h) (Or.inl ⟨by rfl, ?_⟩) ?_ ?_
                      rotate_left
                      · intro w'
                        go_simp
                        with_reducible rfl
                      rotate_left
                      · simp only [Act.put, List.setIfInBounds_toArray, List.set_cons_zero, List.set_cons_succ, i64_w, i32_w]
                        rfl
                      refine pure_ (i := 22) (N := some 84) (v := ?_) (a' := ?_) #[true, true, true, true, true, true, true, true, true, true, true, true, true, true, true, true, true, true, true, true, true, true, true, false, false, false, false, false, false, false, false, false] rfl rfl (any_of HT_.out (by kernel_rfl)) (fun _ _ _ h => h) (Or.inl ⟨by rfl, ?_⟩) ?_ ?_
                      rotate_left
                      · intro w'
                        go_simp
                        with_reducible rfl
                      rotate_left
                      · simp only [Act.put, List.setIfInBounds_toArray, List.set_cons_zero, List.set_cons_succ, i64_w, i32_w]
                        rfl
                      refine pure_ (i := 23) (N := some 85) (v := ?_) (a' := ?_) #[true, true, true, true, true, true, true, true, true, true, true, true, true, true, true, true, true, true, true, true, true, true, true, true, false, false, false, false, false, false, false, false] rfl rfl (any_of HT_.out (by kernel_rfl)) (fun _ _ _ h => h) (Or.inl ⟨by rfl, ?_⟩) ?_ ?_
                      rotate_left
                      · intro w'
                        go_simp
                        with_reducible rfl
                      rotate_left
                      · simp only [Act.put, List.setIfInBounds_toArray, List.set_cons_zero, List.set_cons_succ, i64_w, i32_w]
                        rfl
                      refine take_ (i := 24) (N := some 86) (v := ?_) (a' := ?_) #[true, true, true, true, true, true, true, true, true, true, true, true, true, true, true, true, true, true, true, true, true, true, true, true, true, false, false, false, false, false, false, false] rfl rfl (take_ofW HT_.out HW_.out (by kernel_rfl)) (fun _ _ _ h => h) (Or.inl ⟨by rfl, ?_⟩) hHeld ?_ ?_
                      rotate_left
                      · rintro w' ⟨s0, s1, s2⟩
                        go_simp
                        rw [Kd.C_string Try.underlying24 Try.underlying5 Try.underlying9 s2]
                        rfl
                      rotate_left
                      · simp only [Act.put, List.setIfInBounds_toArray, List.set_cons_zero, List.set_cons_succ, i64_w, i32_w]
                        rfl
                      refine pure_ (i := 25) (N := some 87) (v := ?_) (a' := ?_) #[true, true, true, true, true, true, true, true, true, true, true, true, true, true, true, true, true, true, true, true, true, true, true, true, true, true, false, false, false, false, false, false] rfl rfl (any_of HT_.out (by kernel_rfl)) (fun _ _ _ h => h) (Or.inl ⟨by rfl, ?_⟩) ?_ ?_
                      rotate_left
                      · intro w'
                        go_simp
                        with_reducible rfl
                      rotate_left
                      · simp only [Act.put, List.setIfInBounds_toArray, List.set_cons_zero, List.set_cons_succ, i64_w, i32_w]
                        rfl
                      refine pure_ (i := 26) (N := some 88) (v := ?_) (a' := ?_) #[true, true, true, true, true, true, true, true, true, true, true, true, true, true, true, true, true, true, true, true, true, true, true, true, true, true, true, false, false, false, false, false] rfl rfl (any_of HT_.out (by kernel_rfl)) (fun _ _ _ h => h) (Or.inl ⟨by rfl, ?_⟩) ?_ ?_
                      rotate_left
                      · intro w'
                        go_simp
                        with_reducible rfl
                      rotate_left
                      · simp only [Act.put, List.setIfInBounds_toArray, List.set_cons_zero, List.set_cons_succ, i64_w, i32_w]
                        rfl
                      refine pure_ (i := 27) (N := some 89) (v := ?_) (a' := ?_) #[true, true, true, true, true, true, true, true, true, true, true, true, true, true, true, true, true, true, true, true, true, true, true, true, true, true, true, true, false, false, false, false] rfl rfl (any_of HT_.out (by kernel_rfl)) (fun _ _ _ h => h) (Or.inl ⟨by rfl, ?_⟩) ?_ ?_
                      rotate_left
                      · intro w'
                        go_simp
                        with_reducible rfl
                      rotate_left
                      · simp only [Act.put, List.setIfInBounds_toArray, List.set_cons_zero, List.set_cons_succ, i64_w, i32_w]
                        rfl
                      refine pure_ (i := 28) (N := some 90) (v := ?_) (a' := ?_) #[true, true, true, true, true, true, true, true, true, true, true, true, true, true, true, true, true, true, true, true, true, true, true, true, true, true, true, true, true, false, false, false] rfl rfl (any_of HT_.out (by kernel_rfl)) (fun _ _ _ h => h) (Or.inl ⟨by rfl, ?_⟩) ?_ ?_
                      rotate_left
                      · intro w'
                        go_simp
                        with_reducible rfl
                      rotate_left
                      · simp only [Act.put, List.setIfInBounds_toArray, List.set_cons_zero, List.set_cons_succ, i64_w, i32_w]
                        rfl
                      refine pure_ (i := 29) (N := some 91) (v := ?_) (a' := ?_) #[true, true, true, true, true, true, true, true, true, true, true, true, true, true, true, true, true, true, true, true, true, true, true, true, true, true, true, true, true, true, false, false] rfl rfl (any_of HT_.out (by kernel_rfl)) (fun _ _ _ h => h) (Or.inl ⟨by rfl, ?_⟩) ?_ ?_
                      rotate_left
                      · intro w'
                        go_simp
                        with_reducible rfl
                      rotate_left
                      · simp only [Act.put, List.setIfInBounds_toArray, List.set_cons_zero, List.set_cons_succ, i64_w, i32_w]
                        rfl
                      refine pure_ (i := 30) (N := some 92) (v := ?_) (a' := ?_) #[true, true, true, true, true, true, true, true, true, true, true, true, true, true, true, true, true, true, true, true, true, true, true, true, true, true, true, true, true, true, true, false] rfl rfl (any_of HT_.out (by kernel_rfl)) (fun _ _ _ h => h) (Or.inl ⟨by rfl, ?_⟩) ?_ ?_
                      rotate_left
                      · intro w'
                        go_simp
                        with_reducible rfl
                      rotate_left
                      · simp only [Act.put, List.setIfInBounds_toArray, List.set_cons_zero, List.set_cons_succ, i64_w, i32_w]
                        rfl
                      refine pure_ (i := 31) (N := some 0) (v := ?_) (a' := ?_) #[true, true, true, true, true, true, true, true, true, true, true, true, true, true, true, true, true, true, true, true, true, true, true, true, true, true, true, true, true, true, true, true] rfl rfl (any_of HT_.out (by kernel_rfl)) (fun _ _ _ h => h) (Or.inl ⟨by rfl, ?_⟩) ?_ ?_
                      rotate_left
                      · intro w'
                        go_simp
                        with_reducible rfl
                      rotate_left
                      · simp only [Act.put, List.setIfInBounds_toArray, List.set_cons_zero, List.set_cons_succ, i64_w, i32_w]
                        rfl
                      refine done_ (done_of HT_.out (by kernel_rfl)) ?_
                      try go_wp2
                      go_ret
                      exact ⟨by first | rfl | (rw [hX_.out] <;> rfl) | (simp [errW_none, errW_some] <;> rfl) | (simp [*, errW_none, errW_some] <;> rfl), by repeat (first | (with_reducible first | exact HB.out | apply below_alloc | apply pw_below_drewN | apply below_drew1 | refine below_set ?_ GE1647.out) | exact HB.out)⟩
                    · rw [if_neg c36] at H
                      have c36b0 : ((strOfNums t1653).toList == ([99] : List UInt8)) = false := beq_eq_false_iff_ne.mpr c36
                      have c36b1 : ((strOfNums t1653).toList != ([99] : List UInt8)) = true := bne_iff_ne.mpr c36
                      exact absurd H (by simp)
                  · rw [if_neg c35] at H
                    have c35b0 : (t1656 == 0) = false := beq_eq_false_iff_ne.mpr c35
                    have c35b1 : (t1656 != 0) = true := bne_iff_ne.mpr c35
                    exact absurd H (by simp)
                · rw [if_neg c34] at H
                  have c34b0 : (t1644 == t1669 && (t1645 == t1670)) = false := by simpa using c34
                  (try (have c34b1 : decide (t1644 = t1669 && (t1645 == t1670)) = false := by simpa using c34))
                  (try (have c34b2 : (t1644 == t1669 && (t1645 == t1670)) = false := by simpa using c34))
                  (try (have c34b3 : ¬ (t1644 = t1669 && (t1645 == t1670)) := by simpa using c34))
                  clear c34
                  exact absurd H (by simp)
              · rw [if_neg c32] at H
                have c32b0 : (t1643 == 8) = false := beq_eq_false_iff_ne.mpr c32
                have c32b1 : (t1643 != 8) = true := bne_iff_ne.mpr c32
                exact absurd H (by simp)
            · rw [if_neg c31] at H
              have c31b0 : ((t1640.length : Int) == 15) = false := beq_eq_false_iff_ne.mpr c31
              have c31b1 : ((t1640.length : Int) != 15) = true := bne_iff_ne.mpr c31
              exact absurd H (by simp)
          · rw [if_neg c30] at H
            have c30b0 : (t1646 == 0) = false := beq_eq_false_iff_ne.mpr c30
            have c30b1 : (t1646 != 0) = true := bne_iff_ne.mpr c30
            exact absurd H (by simp)
        · rw [if_neg c24] at H
          exact absurd H (by simp)
end
end Go.Proofs.Ytoeabgeglgiobaa.P
