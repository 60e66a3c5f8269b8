/- What functions of the given program do, each as a plain Lean function that its call meets: printed by a program of this session out of the translation, checked by Lean. Its conditions: those of each theorem. -/
import Derived.Test.Ytoeabgeglgiobaac3kHmore
import Derived.Test.Ytoeabgeglgiobaac3kP0
import Derived.Test.Ytoeabgeglgiobaac3kGframe0
import Derived.Test.Ytoeabgeglgiobaac3kGframe1
import Derived.Test.Ytoeabgeglgiobaac3kGkit0
import Derived.Test.Ytoeabgeglgiobaac3kGlaw030
import Derived.Test.Ytoeabgeglgiobaac3kGlaw031
namespace Go.Proofs.Ytoeabgeglgiobaa.P
open Go.RowKit Go.Proofs.YtoeabgeglgiobaaW.PrintWords Go.Proofs.YtoeabgeglgiobaaW.PrintLast Go.Proofs.YtoeabgeglgiobaaW.PrintMore
attribute [local go_sem] max2_int min2_int max_two min_two max_three min_three max_four min_four   -- for this text's walks alone
set_option linter.unusedVariables false
set_option linter.unusedSimpArgs false
/-! ### chartroomlaw03_FrameBack: function 11 -/
mutual
def chartroomlaw03_FrameBack.j0 : Nat → List (S46) → List Int → Int → Bool → Option (Bool)
  | 0, _, _, _, _ => none
  | k + 1, x0, x1, x2, x27 => if x27 = true then ((chartroomlaw03_works.f k).bind fun t1025 => (some t1025)) else ((frame_Join.f k x0).bind fun bt1026 => (if bt1026.2 = 0 then ((chartroomkit_Own.f x1).bind fun t1030 => (if t1030.length + bt1026.1.length < 140737488355328 then (chartroomlaw03_FrameBack.l0 k x0 x2 bt1026.1 (x1.length : Int) (t1030 ++ bt1026.1) 0) else (none))) else (some false)))
def chartroomlaw03_FrameBack.l0 : Nat → List (S46) → Int → List Int → Int → List Int → Int → Option (Bool)
  | 0, _, _, _, _, _, _ => none
  | k + 1, x0, x2, x7, x9, x10, x11 => if x11 < (x0.length : Int) then ((frame_Take.f k x10 x9).bind fun bt1036 => (if bt1036.2.2.2 = 0 then (if 0 ≤ x11 then ((frame_Size.f k ((rd_T46 x0 x11).f0) ((rd_T46 x0 x11).f1)).bind fun t1044 => (if bt1036.2.2.1 = (wrap64 (x9 + t1044)) then (if x11 ≤ (wrap64 (x11 + 1)) then (if (wrap64 (x11 + 1)) ≤ (x0.length : Int) then ((chartroomlaw03_refs.f k ((x0.take ((wrap64 (x11 + 1)) : Int).toNat).drop (x11 : Int).toNat)).bind fun t1049 => (if 0 < (t1049.length : Int) then ((chartroomlaw03_same.f k bt1036.1 bt1036.2.1 ((rd_T49 t1049 0).f0) ((rd_T49 t1049 0).f1)).bind fun t1053 => (if t1053 = true then (chartroomlaw03_FrameBack.l0 k x0 x2 x7 bt1036.2.2.1 x10 (wrap64 (x11 + 1))) else (some false))) else (none))) else (none)) else (none)) else (some false))) else (none)) else (some false))) else ((chartroomkit_Pick.f x2 (wrap64 ((x7.length : Int) + 1))).bind fun t1054 => (chartroomlaw03_FrameBack.l1 k x0 x7 t1054 0 0))
def chartroomlaw03_FrameBack.j3 : Nat → List (S46) → List Int → Int → Int → Int → Option (Bool)
  | 0, _, _, _, _, _ => none
  | k + 1, x0, x7, x15, x16, x17 => if 0 ≤ x15 then (if x15 ≤ (x7.length : Int) then ((frame_All.f k (x7.take (x15 : Int).toNat)).bind fun bt1063 => (if 0 ≤ x16 then (if x16 ≤ (x0.length : Int) then ((chartroomlaw03_refs.f k (x0.take (x16 : Int).toNat)).bind fun t1071 => ((chartroomlaw03_sameAll.f k bt1063.1 t1071).bind fun t1074 => (if t1074 = true then (if bt1063.2 = x17 then ((chartroomlaw03_works.f k).bind fun t1075 => (some t1075)) else (some false)) else (some false)))) else (none)) else (none))) else (none)) else (none)
def chartroomlaw03_FrameBack.l1 : Nat → List (S46) → List Int → Int → Int → Int → Option (Bool)
  | 0, _, _, _, _, _ => none
  | k + 1, x0, x7, x15, x16, x17 => if x16 < (x0.length : Int) then (if 0 ≤ x16 then ((frame_Size.f k ((rd_T46 x0 x16).f0) ((rd_T46 x0 x16).f1)).bind fun t1056 => (if (wrap64 (x17 + t1056)) ≤ x15 then ((frame_Size.f k ((rd_T46 x0 x16).f0) ((rd_T46 x0 x16).f1)).bind fun t1058 => (chartroomlaw03_FrameBack.l1 k x0 x7 x15 (wrap64 (x16 + 1)) (wrap64 (x17 + t1058)))) else (chartroomlaw03_FrameBack.j3 k x0 x7 x15 x16 x17))) else (none)) else (chartroomlaw03_FrameBack.j3 k x0 x7 x15 x16 x17)
end
def chartroomlaw03_FrameBack.f (k : Nat) (l0 : List (S46)) (l1 : List Int) (a2 : Int) : Option (Bool) := (chartroomlaw03_few.f k l0).bind fun t1024 => (if t1024 = true then (chartroomlaw03_FrameBack.j0 k l0 l1 a2 (decide ((l1.length : Int) > 100))) else (chartroomlaw03_FrameBack.j0 k l0 l1 a2 true))
def chartroomlaw03_FrameBack.T13 : Bool × List (List Nat × List Nat) := (true, [([], []), ([0], [0]), ([1], [1]), ([2], [2]), ([2], [2]), ([2], [2]), ([2], [2]), ([5, 6, 2], [2, 5, 6]), ([7, 2], [2, 7]), ([8, 2, 2], [2, 8]), ([4, 9, 2], [2, 4, 9]), ([3, 10, 2], [2, 3, 10]), ([2, 11], [2, 11]), ([12, 9], [12]), ([13], [13]), ([13], [13]), ([13], [13]), ([13], [13]), ([17, 13], [13, 17]), ([15, 16, 18, 13], [13, 15, 16, 18]), ([19, 13, 13], [13, 19]), ([20, 13], [13, 20]), ([21, 13], [13, 21]), ([14, 22, 20, 13], [13, 14, 22]), ([23, 13], [13, 23]), ([13, 24], [13, 24])])
def chartroomlaw03_FrameBack.B13 : List Nat := [0, 1, 3, 7, 7, 7, 7, 103, 231, 487, 1015, 2047, 4095, 8191, 16383, 16383, 16383, 16383, 147455, 507903, 1032191, 2080767, 4177919, 8388607, 16777215, 33554431]
theorem chartroomlaw03_FrameBack.tab13 : rtab .any (opsOf Try.f11 13) = chartroomlaw03_FrameBack.T13 := by kernel_rfl
theorem chartroomlaw03_FrameBack.bits13 : waitsOk chartroomlaw03_FrameBack.T13.2 chartroomlaw03_FrameBack.B13 = true := by kernel_rfl
set_option maxHeartbeats 8000000 in
set_option maxRecDepth 100000 in
theorem chartroomlaw03_FrameBack.calls (k : Nat) (A0 : Option Addr) (c0 : Nat) (l0 : List (S46)) (A1 : Option Addr) (c1 : Nat) (l1 : List Int) (a2 : Int) (r : Bool) (w : World) (hr0 : Kd.C k46 w A0 l0.length l0) (hc0 : l0.length ≤ c0) (hr1 : Kd.C (Kd.int .u8) w A1 l1.length l1) (hc1 : l1.length ≤ c1) (h : chartroomlaw03_FrameBack.f k l0 l1 a2 = some r) (hT_ : r = true := by first | rfl | assumption | exact Aside0.out (by assumption)) :
    Calls Try.prog 11 #[.slice A0 l0.length c0, .slice A1 l1.length c1, .int .i64 a2] w fun e w' => e = .returned (.bool r) ∧ Below w.heap.size w w' := by
  subst hT_
  have hu46 := Try.underlying46
  have hu49 := Try.underlying49
  have HR0 := Aside0.mk hr0
  have HC0 := Aside0.mk hc0
  clear hr0 hc0
  have HR1 := Aside0.mk hr1
  have HC1 := Aside0.mk hc1
  clear hr1 hc1
  have HB := Aside0.mk (Below.refl w.heap.size w)
  have H : ((chartroomlaw03_few.f k l0).bind fun t1024 => (if t1024 = true then (chartroomlaw03_FrameBack.j0 k l0 l1 a2 (decide ((l1.length : Int) > 100))) else (chartroomlaw03_FrameBack.j0 k l0 l1 a2 true))) = some true := h
  clear h
  have HC4 := Aside0.mk H
  clear H
  go_enter Try.func11, Try.ntmps11
  go_upto_region 1 with (fail)
  go_cut [27] (fun v27 wc => ∃ (kq : Nat) (x27_3 : Bool), v27 = .bool x27_3 ∧ Aside0 (chartroomlaw03_FrameBack.j0 kq l0 l1 a2 x27_3 = some true) ∧ Aside0 (kq ≤ k) ∧ Aside0 (Below w.heap.size w wc))
  case first =>
    have H := HC4.out
    clear HC4
    replace H := Option.bind_eq_some_iff.mp H
    obtain ⟨t1024, A50, H⟩ := H
    replace H : (if t1024 = true then (chartroomlaw03_FrameBack.j0 k l0 l1 a2 (decide ((l1.length : Int) > 100))) else (chartroomlaw03_FrameBack.j0 k l0 l1 a2 true)) = some true := H
    have A5 := Aside0.mk A50
    clear A50
    by_cases c6 : t1024 = true
    · subst c6
      have H1 : (chartroomlaw03_FrameBack.j0 k l0 l1 a2 (decide ((l1.length : Int) > 100))) = some true := by rw [if_pos rfl] at H; exact H
      clear H
      have H := H1
      clear H1
      have H' := Aside0.mk H
      clear H
      go_wp2_with (first | ((with_reducible refine gate_callee (f := 58) rfl ?_); refine goesL_ (some 21) rfl rfl Try.func58 (by kernel_rfl) rfl #[.slice A0 l0.length c0] rfl (by (try simp only [List.map_toArray, List.map_cons, List.map_nil]); first | done | rfl | (simp only [List.length_drop, List.length_take]; rfl)) ?_; (with_reducible refine (chartroomlaw03_few.calls k _ _ l0 true _ ?side1 ?side2 A5.out).mono ?_); (case side1 => repeat (first | exact (Kd.C_below HR0.out HB.out) | (with_reducible refine Kd.C_alloc ?_ _) | (with_reducible refine Kd.C_drewN ?_ _) | (with_reducible refine Kd.C_drew ?_))); (case side2 => exact HC0.out); rintro e w' ⟨rfl, ⟨nd, rfl⟩⟩; refine ⟨_, rfl, ?_⟩))
      go_meet
      case rel => exact ⟨_, (decide ((l1.length : Int) > 100)), (by first | rfl | (simp; done) | (simp [*]; done)), H', ⟨by first | omega | exact Nat.le_refl _⟩, ⟨by repeat (first | (with_reducible first | exact HB.out | apply below_alloc | apply pw_below_drewN | apply below_drew1) | exact HB.out)⟩⟩
    · replace c6 := Bool.eq_false_iff.mpr c6
      subst c6
      have H1 : (chartroomlaw03_FrameBack.j0 k l0 l1 a2 true) = some true := by rw [if_neg (show ¬ (false = true) by decide)] at H; exact H
      clear H
      have H := H1
      clear H1
      have H' := Aside0.mk H
      clear H
      go_wp2_with (first | ((with_reducible refine gate_callee (f := 58) rfl ?_); refine goesL_ (some 21) rfl rfl Try.func58 (by kernel_rfl) rfl #[.slice A0 l0.length c0] rfl (by (try simp only [List.map_toArray, List.map_cons, List.map_nil]); first | done | rfl | (simp only [List.length_drop, List.length_take]; rfl)) ?_; (with_reducible refine (chartroomlaw03_few.calls k _ _ l0 false _ ?side1 ?side2 A5.out).mono ?_); (case side1 => repeat (first | exact (Kd.C_below HR0.out HB.out) | (with_reducible refine Kd.C_alloc ?_ _) | (with_reducible refine Kd.C_drewN ?_ _) | (with_reducible refine Kd.C_drew ?_))); (case side2 => exact HC0.out); rintro e w' ⟨rfl, ⟨nd, rfl⟩⟩; refine ⟨_, rfl, ?_⟩))
      go_meet
      case rel => exact ⟨_, (true), (by first | rfl | (simp; done) | (simp [*]; done)), H', ⟨by first | omega | exact Nat.le_refl _⟩, ⟨by repeat (first | (with_reducible first | exact HB.out | apply below_alloc | apply pw_below_drewN | apply below_drew1) | exact HB.out)⟩⟩
  case rest =>
    clear HC4
    try clear c1
    try clear p2
    try clear c5
    try clear c6
    obtain ⟨kq, x27_3, rfl, HA, HJ3, HB⟩ := hcut
    cases kq with
    | zero => exact absurd HA.out (by simp [chartroomlaw03_FrameBack.j0])
    | succ kj3 =>
      have H := HA.out
      clear HA
      simp only [chartroomlaw03_FrameBack.j0] at H
      by_cases c7 : x27_3 = true
      · subst c7
        have H1 : ((chartroomlaw03_works.f kj3).bind fun t1025 => (some t1025)) = some true := by rw [if_pos rfl] at H; exact H
        clear H
        have H := H1
        clear H1
        replace H := Option.bind_eq_some_iff.mp H
        obtain ⟨t1025, A80, H⟩ := H
        replace H : (some t1025) = some true := H
        have A8 := Aside0.mk A80
        clear A80
        have hX_ := Aside0.mk (Option.some.inj H)
        clear H
        go_wp2_with (first | ((with_reducible refine gate_callee (f := 47) rfl ?_); refine goesL_ (some 28) rfl rfl Try.func47 (by kernel_rfl) rfl #[] rfl (by (try simp only [List.map_toArray, List.map_cons, List.map_nil]); first | done | rfl | (simp only [List.length_drop, List.length_take]; rfl)) ?_; (with_reducible refine (chartroomlaw03_works.calls kj3  t1025 _ A8.out).mono ?_); rintro e w9 ⟨rfl, hb⟩; refine ⟨_, rfl, ?_⟩; have n0_ := Aside0.mk (below_step (by repeat (first | (with_reducible first | exact HB.out | apply below_alloc | apply pw_below_drewN | apply below_drew1) | exact HB.out)) hb); clear HB; have HB := n0_; clear n0_; (try clear hb); (try clear hb2); (try clear hk); (try clear hi)))
        go_ret
        exact ⟨by first | rfl | (rw [hX_.out] <;> rfl) | (simp [errW_none, errW_some] <;> rfl) | (simp [*, errW_none, errW_some] <;> rfl), by repeat (first | (with_reducible first | exact HB.out | apply below_alloc | apply pw_below_drewN | apply below_drew1) | exact HB.out)⟩
      · replace c7 := Bool.eq_false_iff.mpr c7
        subst c7
        have H1 : ((frame_Join.f kj3 l0).bind fun bt1026 => (if bt1026.2 = 0 then ((chartroomkit_Own.f l1).bind fun t1030 => (if t1030.length + bt1026.1.length < 140737488355328 then (chartroomlaw03_FrameBack.l0 kj3 l0 a2 bt1026.1 (l1.length : Int) (t1030 ++ bt1026.1) 0) else (none))) else (some false))) = some true := by rw [if_neg (show ¬ (false = true) by decide)] at H; exact H
        clear H
        have H := H1
        clear H1
        replace H := Option.bind_eq_some_iff.mp H
        obtain ⟨⟨t1026, t1027⟩, A100, H⟩ := H
        replace H : (if t1027 = 0 then ((chartroomkit_Own.f l1).bind fun t1030 => (if t1030.length + t1026.length < 140737488355328 then (chartroomlaw03_FrameBack.l0 kj3 l0 a2 t1026 (l1.length : Int) (t1030 ++ t1026) 0) else (none))) else (some false)) = some true := H
        have A10 := Aside0.mk A100
        clear A100
        by_cases c11 : t1027 = 0
        · rw [if_pos c11] at H
          have c11b0 : (t1027 == 0) = true := beq_iff_eq.mpr c11
          have c11b1 : (t1027 != 0) = false := bne_eq_false_iff_eq.mpr c11
          clear c11
          replace H := Option.bind_eq_some_iff.mp H
          obtain ⟨t1030, A120, H⟩ := H
          replace H : (if t1030.length + t1026.length < 140737488355328 then (chartroomlaw03_FrameBack.l0 kj3 l0 a2 t1026 (l1.length : Int) (t1030 ++ t1026) 0) else (none)) = some true := H
          have A12 := Aside0.mk A120
          clear A120
          by_cases c13 : t1030.length + t1026.length < 140737488355328
          · rw [if_pos c13] at H
            have LMc13 := Aside0.mk c13
            clear c13
            obtain ⟨y1033, hy1033⟩ : ∃ y_ : List Int, y_ = (t1030 ++ t1026) := ⟨_, rfl⟩
            replace H : (chartroomlaw03_FrameBack.l0 kj3 l0 a2 t1026 (l1.length : Int) y1033 0) = some true := by first | (rw [hy1033]; with_reducible exact H) | (have H2_ := (Option.bind_some _ _).symm.trans H; rw [hy1033]; with_reducible exact H2_) | (have H2_ := (Option.bind_some _ _).symm.trans H; with_reducible exact H2_) | with_reducible exact H | (rw [hy1033]; exact H) | exact H
            have Ny1033 := Aside0.mk hy1033
            clear hy1033
            have H' := Aside0.mk H
            clear H
            go_wp2_with (first | ((with_reducible refine gate_callee (f := 60) rfl ?_); refine goesL_ (some 31) rfl rfl Try.func60 (by kernel_rfl) rfl #[.slice A0 l0.length c0] rfl (by (try simp only [List.map_toArray, List.map_cons, List.map_nil]); first | done | rfl | (simp only [List.length_drop, List.length_take]; rfl)) ?_; (with_reducible refine (frame_Join.calls kj3 _ _ l0 t1026 t1027 _ ?side1 ?side2 A10.out).mono ?_); (case side1 => repeat (first | exact (Kd.C_below HR0.out HB.out) | (with_reducible refine Kd.C_alloc ?_ _) | (with_reducible refine Kd.C_drewN ?_ _) | (with_reducible refine Kd.C_drew ?_))); (case side2 => exact HC0.out); rintro e w14 ⟨v1028, rfl, ho0, hb⟩; refine ⟨_, rfl, ?_⟩; have n0_ := Aside0.mk (Kd.R_lower ho0 (below_size (by repeat (first | (with_reducible first | exact HB.out | apply below_alloc | apply pw_below_drewN | apply below_drew1) | exact HB.out)))); have n1_ := Aside0.mk (below_step (by repeat (first | (with_reducible first | exact HB.out | apply below_alloc | apply pw_below_drewN | apply below_drew1) | exact HB.out)) hb); clear HB; have HO1029 := n0_; have HB := n1_; clear n0_ n1_; (try clear hb); (try clear hb2); (try clear hk); (try clear hi); (try clear ho0)) | ((with_reducible refine gate_callee (f := 39) rfl ?_); refine goesL_ (some 39) rfl rfl Try.func39 (by kernel_rfl) rfl #[.slice A1 l1.length c1] rfl (by (try simp only [List.map_toArray, List.map_cons, List.map_nil]); first | done | rfl | (simp only [List.length_drop, List.length_take]; rfl)) ?_; (with_reducible refine (chartroomkit_Own.calls _ _ l1 t1030 _ ?side1 ?side2 A12.out).mono ?_); (case side1 => repeat (first | exact (Kd.C_below HR1.out HB.out) | (with_reducible refine Kd.C_alloc ?_ _) | (with_reducible refine Kd.C_drewN ?_ _) | (with_reducible refine Kd.C_drew ?_))); (case side2 => exact HC1.out); rintro e w15 ⟨v1031, rfl, ho0, hb⟩; refine ⟨_, rfl, ?_⟩; have n0_ := Aside0.mk (Kd.R_elder' (by (with_reducible repeat (first | apply Kd.R_alloc | apply Kd.R_drewN | apply Kd.R_drew)); exact HO1029.out) (Kd.R_base ho0) hb); have n1_ := Aside0.mk (Kd.R_lower (Kd.R_new' ho0 (Kd.R_lt (by (with_reducible repeat (first | apply Kd.R_alloc | apply Kd.R_drewN | apply Kd.R_drew)); exact HO1029.out))) (below_size (by repeat (first | (with_reducible first | exact HB.out | apply below_alloc | apply pw_below_drewN | apply below_drew1) | exact HB.out)))); have n2_ := Aside0.mk (below_step (by repeat (first | (with_reducible first | exact HB.out | apply below_alloc | apply pw_below_drewN | apply below_drew1) | exact HB.out)) hb); clear HO1029; clear HB; have HO1029 := n0_; have HO1032 := n1_; have HB := n2_; clear n0_ n1_ n2_; (try clear hb); (try clear hb2); (try clear hk); (try clear hi); (try clear ho0); obtain ⟨Ao17, co17, eo17⟩ := Kd.R_slice HO1029.out; subst eo17) | ((with_reducible refine gate_builtin (b := .append) (xs := #[.tmp 40, .tmp 41]) rfl ?_); (try (refine gate_guard (by rfl) ?_; dsimp only)); at_builtin; refine Kd.R_append_rows (Kd.int .u8) (w0 := w) w.heap.size rfl (.tmp 40) (.tmp 41) 24 5 (.int .u8 0) 1 rfl Try.underlying24 info5 rfl (by decide) (by omega) v1031 t1030 t1026 _ _ _ (fun k_ => some k_ ≠ (.slice Ao17 t1026.length co17 : Value).ownBlock) (fun _ => False) rfl rfl ?aO ?aR (fun _ _ h => h) (fun _ h => h.elim) ?aF ?aB ?aS ?aL ?_; (case aR => repeat (first | exact (Kd.R_reads' HO1029.out).2.2 | (with_reducible refine Kd.C_alloc ?_ _) | (with_reducible refine Kd.C_drewN ?_ _) | (with_reducible refine Kd.C_drew ?_))); (case aB => exact (by repeat (first | (with_reducible first | exact HB.out | apply below_alloc | apply pw_below_drewN | apply below_drew1) | exact HB.out))); (case aF => exact (fun k_ hk => Kd.fresh' (Kd.R_lt (by (with_reducible repeat (first | apply Kd.R_alloc | apply Kd.R_drewN | apply Kd.R_drew)); exact HO1029.out)) k_ hk)); (case aO => exact (by (with_reducible repeat (first | apply Kd.R_alloc | apply Kd.R_drewN | apply Kd.R_drew)); exact Kd.R_mono HO1032.out (fun _ hk => hk.2))); (case aS => exact (below_size (by repeat (first | (with_reducible first | exact HB.out | apply below_alloc | apply pw_below_drewN | apply below_drew1) | exact HB.out)))); (case aL => have := LMc13.out; omega); intro v1034 w16 ho hb hg hat; rw [← Ny1033.out] at ho; have n0_ := Aside0.mk (Kd.R_after (ok := (fun _ => True)) (by (with_reducible repeat (first | apply Kd.R_alloc | apply Kd.R_drewN | apply Kd.R_drew)); exact HO1029.out) hg hat); have n1_ := Aside0.mk (hb); have n2_ := Aside0.mk (ho); clear HO1029; clear HB; clear HO1032; have HO1029 := n0_; have HB := n1_; have HO1035 := n2_; clear n0_ n1_ n2_; clear ho hb hg hat))
            go_loopg [9, 11] kj3 (fun kq v9 v11 w' => ∃ (x9_2 : Int) (x11_2 : Int), v9 = .int .i64 x9_2 ∧ v11 = .int .i64 x11_2 ∧ Aside0 (chartroomlaw03_FrameBack.l0 kq l0 a2 t1026 x9_2 y1033 x11_2 = some true) ∧ Aside0 (kq ≤ kj3) ∧ Aside0 (Kd.R (Kd.int .u8) 5 w' w.heap.size (fun k_ => some k_ ≠ (v1034 : Value).ownBlock) (.slice Ao17 t1026.length co17) t1026) ∧ Aside0 (Kd.R (Kd.int .u8) 5 w' w.heap.size (fun k_ => some k_ ≠ ((.slice Ao17 t1026.length co17) : Value).ownBlock) v1034 y1033) ∧ Aside0 (Below w.heap.size w w'))
            case atStart => exact ⟨((l1.length : Int)), (0), (by first | rfl | (simp; done) | (simp [*]; done)), (by first | rfl | (simp; done) | (simp [*]; done)), H', ⟨Nat.le_refl _⟩, ⟨by (with_reducible repeat (first | apply Kd.R_alloc | apply Kd.R_drewN | apply Kd.R_drew)); exact Kd.R_mono HO1029.out (fun _ hk => hk.2)⟩, ⟨by (with_reducible repeat (first | apply Kd.R_alloc | apply Kd.R_drewN | apply Kd.R_drew)); exact HO1035.out⟩, ⟨by repeat (first | (with_reducible first | exact HB.out | apply below_alloc | apply pw_below_drewN | apply below_drew1) | exact HB.out)⟩⟩
            case round =>
              clear H'
              try clear c1
              try clear p2
              try clear c3
              try clear c4
              try clear c5
              try clear c6
              try clear c7
              try clear c11
              try clear c11b0
              try clear c11b1
              try clear c13
              try clear p2
              obtain ⟨x9_2, x11_2, rfl, rfl, HA, HK2, HO_7, HO_10, HB⟩ := hrel
              cases gk with
              | zero => exact absurd HA.out (by simp [chartroomlaw03_FrameBack.l0])
              | succ k2 =>
                have H := HA.out
                clear HA
                simp only [chartroomlaw03_FrameBack.l0] at H
                by_cases c18 : x11_2 < (l0.length : Int)
                · rw [if_pos c18] at H
                  have c18b0 : decide (x11_2 < (l0.length : Int)) = true := decide_eq_true c18
                  clear c18
                  replace H := Option.bind_eq_some_iff.mp H
                  obtain ⟨⟨t1036, t1037, t1040, t1041⟩, A190, H⟩ := H
                  replace H : (if t1041 = 0 then (if 0 ≤ x11_2 then ((frame_Size.f k2 ((rd_T46 l0 x11_2).f0) ((rd_T46 l0 x11_2).f1)).bind fun t1044 => (if t1040 = (wrap64 (x9_2 + t1044)) then (if x11_2 ≤ (wrap64 (x11_2 + 1)) then (if (wrap64 (x11_2 + 1)) ≤ (l0.length : Int) then ((chartroomlaw03_refs.f k2 ((l0.take ((wrap64 (x11_2 + 1)) : Int).toNat).drop (x11_2 : Int).toNat)).bind fun t1049 => (if 0 < (t1049.length : Int) then ((chartroomlaw03_same.f k2 t1036 t1037 ((rd_T49 t1049 0).f0) ((rd_T49 t1049 0).f1)).bind fun t1053 => (if t1053 = true then (chartroomlaw03_FrameBack.l0 k2 l0 a2 t1026 t1040 y1033 (wrap64 (x11_2 + 1))) else (some false))) else (none))) else (none)) else (none)) else (some false))) else (none)) else (some false)) = some true := H
                  have A19 := Aside0.mk A190
                  clear A190
                  by_cases c20 : t1041 = 0
                  · rw [if_pos c20] at H
                    have c20b0 : (t1041 == 0) = true := beq_iff_eq.mpr c20
                    have c20b1 : (t1041 != 0) = false := bne_eq_false_iff_eq.mpr c20
                    clear c20
                    by_cases c21 : 0 ≤ x11_2
                    · rw [if_pos c21] at H
                      have c21b0 : decide (0 ≤ x11_2) = true := decide_eq_true c21
                      clear c21
                      replace H := Option.bind_eq_some_iff.mp H
                      obtain ⟨t1044, A220, H⟩ := H
                      replace H : (if t1040 = (wrap64 (x9_2 + t1044)) then (if x11_2 ≤ (wrap64 (x11_2 + 1)) then (if (wrap64 (x11_2 + 1)) ≤ (l0.length : Int) then ((chartroomlaw03_refs.f k2 ((l0.take ((wrap64 (x11_2 + 1)) : Int).toNat).drop (x11_2 : Int).toNat)).bind fun t1049 => (if 0 < (t1049.length : Int) then ((chartroomlaw03_same.f k2 t1036 t1037 ((rd_T49 t1049 0).f0) ((rd_T49 t1049 0).f1)).bind fun t1053 => (if t1053 = true then (chartroomlaw03_FrameBack.l0 k2 l0 a2 t1026 t1040 y1033 (wrap64 (x11_2 + 1))) else (some false))) else (none))) else (none)) else (none)) else (some false)) = some true := H
                      have A22 := Aside0.mk A220
                      clear A220
                      by_cases c23 : t1040 = (wrap64 (x9_2 + t1044))
                      · rw [if_pos c23] at H
                        have c23b0 : (t1040 == (wrap64 (x9_2 + t1044))) = true := beq_iff_eq.mpr c23
                        have c23b1 : (t1040 != (wrap64 (x9_2 + t1044))) = false := bne_eq_false_iff_eq.mpr c23
                        clear c23
                        have c24b0 := eq_true (of_decide_eq_true (by first | (with_reducible assumption) | assumption) : 0 ≤ x11_2)
                        by_cases c25 : x11_2 ≤ (wrap64 (x11_2 + 1))
                        · rw [if_pos c25] at H
                          have c25b0 := eq_true c25
                          have c25b1 : decide (x11_2 ≤ (wrap64 (x11_2 + 1))) = true := decide_eq_true c25
                          by_cases c26 : (wrap64 (x11_2 + 1)) ≤ (l0.length : Int)
                          · rw [if_pos c26] at H
                            have c26b0 := eq_true c26
                            have c26b1 : decide ((wrap64 (x11_2 + 1)) ≤ (l0.length : Int)) = true := decide_eq_true c26
                            obtain ⟨y1045, hy1045⟩ : ∃ y_ : List (S46), y_ = ((l0.take ((wrap64 (x11_2 + 1)) : Int).toNat).drop (x11_2 : Int).toNat) := ⟨_, rfl⟩
                            replace H : ((chartroomlaw03_refs.f k2 y1045).bind fun t1049 => (if 0 < (t1049.length : Int) then ((chartroomlaw03_same.f k2 t1036 t1037 ((rd_T49 t1049 0).f0) ((rd_T49 t1049 0).f1)).bind fun t1053 => (if t1053 = true then (chartroomlaw03_FrameBack.l0 k2 l0 a2 t1026 t1040 y1033 (wrap64 (x11_2 + 1))) else (some false))) else (none))) = some true := by first | (rw [hy1045]; with_reducible exact H) | (have H2_ := (Option.bind_some _ _).symm.trans H; rw [hy1045]; with_reducible exact H2_) | (have H2_ := (Option.bind_some _ _).symm.trans H; with_reducible exact H2_) | with_reducible exact H | (rw [hy1045]; exact H) | exact H
                            have Ny1045 := Aside0.mk hy1045
                            clear hy1045
                            replace H := Option.bind_eq_some_iff.mp H
                            obtain ⟨t1049, A270, H⟩ := H
                            replace H : (if 0 < (t1049.length : Int) then ((chartroomlaw03_same.f k2 t1036 t1037 ((rd_T49 t1049 0).f0) ((rd_T49 t1049 0).f1)).bind fun t1053 => (if t1053 = true then (chartroomlaw03_FrameBack.l0 k2 l0 a2 t1026 t1040 y1033 (wrap64 (x11_2 + 1))) else (some false))) else (none)) = some true := H
                            have A27 := Aside0.mk A270
                            clear A270
                            by_cases c28 : 0 < (t1049.length : Int)
                            · rw [if_pos c28] at H
                              have c28b0 : decide (0 < (t1049.length : Int)) = true := decide_eq_true c28
                              have c28b1 : decide (0 < t1049.length) = true := decide_eq_true (by omega)
                              clear c28
                              replace H := Option.bind_eq_some_iff.mp H
                              obtain ⟨t1053, A290, H⟩ := H
                              replace H : (if t1053 = true then (chartroomlaw03_FrameBack.l0 k2 l0 a2 t1026 t1040 y1033 (wrap64 (x11_2 + 1))) else (some false)) = some true := H
                              have A29 := Aside0.mk A290
                              clear A290
                              by_cases c30 : t1053 = true
                              · subst c30
                                have H1 : (chartroomlaw03_FrameBack.l0 k2 l0 a2 t1026 t1040 y1033 (wrap64 (x11_2 + 1))) = some true := by rw [if_pos rfl] at H; exact H
                                clear H
                                have H := H1
                                clear H1
                                have H' := Aside0.mk H
                                clear H
                                obtain ⟨Ao31, co31, eo31⟩ := Kd.R_slice HO_10.out
                                subst eo31
                                try go_wp2_with (first | ((with_reducible refine gate_callee (f := 48) rfl ?_); refine goesL_ (some 52) rfl rfl Try.func48 (by kernel_rfl) rfl #[.slice Ao31 y1033.length co31, .int .i64 x9_2] rfl (by (try simp only [List.map_toArray, List.map_cons, List.map_nil]); first | done | rfl | (simp only [List.length_drop, List.length_take]; rfl)) ?_; (with_reducible refine (frame_Take.calls k2 _ _ y1033 x9_2 t1036 t1037 t1040 t1041 _ ?side1 ?side2 A19.out).mono ?_); (case side1 => repeat (first | exact (Kd.R_reads' HO_10.out).2.2 | (with_reducible refine Kd.C_alloc ?_ _) | (with_reducible refine Kd.C_drewN ?_ _) | (with_reducible refine Kd.C_drew ?_))); (case side2 => exact (Kd.R_reads' HO_10.out).2.1); rintro e w32 ⟨v1038, rfl, ho0, hb⟩; refine ⟨_, rfl, ?_⟩; have n0_ := Aside0.mk (Kd.R_elder' (by (with_reducible repeat (first | apply Kd.R_alloc | apply Kd.R_drewN | apply Kd.R_drew)); exact HO_7.out) (Kd.R_base ho0) hb); have n1_ := Aside0.mk (Kd.R_elder' (by (with_reducible repeat (first | apply Kd.R_alloc | apply Kd.R_drewN | apply Kd.R_drew)); exact HO_10.out) (Kd.R_base ho0) hb); have n2_ := Aside0.mk (Kd.R_lower (Kd.R_new' (Kd.R_new' ho0 (Kd.R_lt (by (with_reducible repeat (first | apply Kd.R_alloc | apply Kd.R_drewN | apply Kd.R_drew)); exact HO_7.out))) (Kd.R_lt (by (with_reducible repeat (first | apply Kd.R_alloc | apply Kd.R_drewN | apply Kd.R_drew)); exact HO_10.out))) (below_size (by repeat (first | (with_reducible first | exact HB.out | apply below_alloc | apply pw_below_drewN | apply below_drew1) | exact HB.out)))); have n3_ := Aside0.mk (below_step (by repeat (first | (with_reducible first | exact HB.out | apply below_alloc | apply pw_below_drewN | apply below_drew1) | exact HB.out)) hb); clear HO_7; clear HO_10; clear HB; have HO_7 := n0_; have HO_10 := n1_; have HO1039 := n2_; have HB := n3_; clear n0_ n1_ n2_ n3_; (try clear hb); (try clear hb2); (try clear hk); (try clear hi); (try clear ho0)) | ((with_reducible refine gate_dst (N := 12) rfl ?_); (try (refine gate_guard (by rfl) ?_; dsimp only)); refine box_event ?hg (N := 12) ?hd (cs := #[.int .u8 0, .slice none 0 0]) (t := 46) ?hr ?_; (case hd => rfl); (case hg => rfl); (case hr => first | (go_simp; done) | (go_simp; rfl)); intro gb1042 hg w33 hbox hb; have n0_ := Aside0.mk (Kd.R_below (by (with_reducible repeat (first | apply Kd.R_alloc | apply Kd.R_drewN | apply Kd.R_drew)); exact HO_7.out) hb); have n1_ := Aside0.mk (Kd.R_below (by (with_reducible repeat (first | apply Kd.R_alloc | apply Kd.R_drewN | apply Kd.R_drew)); exact HO_10.out) hb); have n2_ := Aside0.mk (Kd.R_below (by (with_reducible repeat (first | apply Kd.R_alloc | apply Kd.R_drewN | apply Kd.R_drew)); exact HO1039.out) hb); have n3_ := Aside0.mk (below_step (by repeat (first | (with_reducible first | exact HB.out | apply below_alloc | apply pw_below_drewN | apply below_drew1) | exact HB.out)) hb); have n4_ := Aside0.mk (hbox); have n5_ := Aside0.mk ((by rw [hg]; exact (below_size (by repeat (first | (with_reducible first | exact HB.out | apply below_alloc | apply pw_below_drewN | apply below_drew1) | exact HB.out))) : w.heap.size ≤ gb1042)); have n6_ := Aside0.mk ((by rw [hg]; exact (below_size (by repeat (first | (with_reducible first | exact HB.out | apply below_alloc | apply pw_below_drewN | apply below_drew1) | exact HB.out))) : w.heap.size ≤ gb1042)); clear HO_7; clear HO_10; clear HO1039; clear HB; have HO_7 := n0_; have HO_10 := n1_; have HO1039 := n2_; have HB := n3_; have BK1042 := n4_; have GW1042 := n5_; have GE1042 := n6_; clear n0_ n1_ n2_ n3_ n4_ n5_ n6_; clear hb hbox hg; have hcz34_0 : w33.cell? ⟨gb1042, 0, none⟩ = some (.int .u8 0) := (blk_cell BK1042.out 0).trans rfl; have hcz34_1 : w33.cell? ⟨gb1042, 1, none⟩ = some (.slice none 0 0) := (blk_cell BK1042.out 1).trans rfl; have hfz34_0 := blk_frozen BK1042.out 0; have hfz34_1 := blk_frozen BK1042.out 1; obtain ⟨Ao35, co35, eo35⟩ := Kd.R_slice HO1039.out; subst eo35))
                                have n0_ : Aside0 (Kd.R (Kd.int .u8) 5 ((w33.setCell ⟨gb1042, 0, none⟩ (.int .u8 t1036)).setCell ⟨gb1042, 1, none⟩ (.slice Ao35 t1037.length co35)) w.heap.size (fun k_ => some k_ ≠ (.slice Ao31 y1033.length co31 : Value).ownBlock ∧ some k_ ≠ (.slice Ao35 t1037.length co35 : Value).ownBlock) (.slice Ao17 t1026.length co17) t1026) := ⟨by (with_reducible repeat (first | apply Kd.R_alloc | apply Kd.R_drewN | apply Kd.R_drew)); exact Kd.R_mono (Kd.R_far (p := ⟨gb1042, 1, none⟩) (Kd.R_far (p := ⟨gb1042, 0, none⟩) (Kd.R_types HO_7.out BK1042.out (by decide)) (fun _ hk => hk.2) (.int .u8 t1036)) (fun _ hk => hk.2) (.slice Ao35 t1037.length co35)) (fun _ hk => ⟨hk.1.1, hk.1.2⟩)⟩
                                have n1_ : Aside0 (Kd.R (Kd.int .u8) 5 ((w33.setCell ⟨gb1042, 0, none⟩ (.int .u8 t1036)).setCell ⟨gb1042, 1, none⟩ (.slice Ao35 t1037.length co35)) w.heap.size (fun k_ => some k_ ≠ (.slice Ao17 t1026.length co17 : Value).ownBlock ∧ some k_ ≠ (.slice Ao35 t1037.length co35 : Value).ownBlock) (.slice Ao31 y1033.length co31) y1033) := ⟨by (with_reducible repeat (first | apply Kd.R_alloc | apply Kd.R_drewN | apply Kd.R_drew)); exact Kd.R_mono (Kd.R_far (p := ⟨gb1042, 1, none⟩) (Kd.R_far (p := ⟨gb1042, 0, none⟩) (Kd.R_types HO_10.out BK1042.out (by decide)) (fun _ hk => hk.2) (.int .u8 t1036)) (fun _ hk => hk.2) (.slice Ao35 t1037.length co35)) (fun _ hk => ⟨hk.1.1, hk.1.2⟩)⟩
                                have n2_ : Aside0 (Kd.R (Kd.int .u8) 5 ((w33.setCell ⟨gb1042, 0, none⟩ (.int .u8 t1036)).setCell ⟨gb1042, 1, none⟩ (.slice Ao35 t1037.length co35)) w.heap.size (fun k_ => some k_ ≠ (.slice Ao17 t1026.length co17 : Value).ownBlock ∧ some k_ ≠ (.slice Ao31 y1033.length co31 : Value).ownBlock) (.slice Ao35 t1037.length co35) t1037) := ⟨by (with_reducible repeat (first | apply Kd.R_alloc | apply Kd.R_drewN | apply Kd.R_drew)); exact Kd.R_mono (Kd.R_far (p := ⟨gb1042, 1, none⟩) (Kd.R_far (p := ⟨gb1042, 0, none⟩) (Kd.R_types HO1039.out BK1042.out (by decide)) (fun _ hk => hk.2) (.int .u8 t1036)) (fun _ hk => hk.2) (.slice Ao35 t1037.length co35)) (fun _ hk => ⟨hk.1.1.2, hk.1.2⟩)⟩
                                have n3_ : Aside0 (((w33.setCell ⟨gb1042, 0, none⟩ (.int .u8 t1036)).setCell ⟨gb1042, 1, none⟩ (.slice Ao35 t1037.length co35)).heap[gb1042]? = some (.cells #[.int .u8 t1036, .slice Ao35 t1037.length co35] 46 (0, 0))) := ⟨by (with_reducible repeat (first | refine blk_drewN ?_ _ | refine blk_drew ?_ | refine blk_alloc ?_ _)); refine blk_put (cs := #[.int .u8 t1036, .slice none 0 0]) ?_ 1 _ rfl; (with_reducible repeat (first | refine blk_drewN ?_ _ | refine blk_drew ?_ | refine blk_alloc ?_ _)); refine blk_put (cs := #[.int .u8 0, .slice none 0 0]) ?_ 0 _ rfl; (with_reducible repeat (first | refine blk_drewN ?_ _ | refine blk_drew ?_ | refine blk_alloc ?_ _)); exact BK1042.out⟩
                                have n4_ : Aside0 (Below w.heap.size w ((w33.setCell ⟨gb1042, 0, none⟩ (.int .u8 t1036)).setCell ⟨gb1042, 1, none⟩ (.slice Ao35 t1037.length co35))) := ⟨by repeat (first | (with_reducible first | exact HB.out | apply below_alloc | apply pw_below_drewN | apply below_drew1 | refine below_set ?_ GE1042.out) | exact HB.out)⟩
                                (try clear HO_7)
                                (try clear HO_10)
                                (try clear HO1039)
                                (try clear BK1042)
                                (try clear HB)
                                generalize ((w33.setCell ⟨gb1042, 0, none⟩ (.int .u8 t1036)).setCell ⟨gb1042, 1, none⟩ (.slice Ao35 t1037.length co35)) = w36 at n0_ n1_ n2_ n3_ n4_ ⊢
                                have HO_7 := n0_
                                have HO_10 := n1_
                                have HO1039 := n2_
                                have BK1042 := n3_
                                have HB := n4_
                                clear n0_ n1_ n2_ n3_ n4_
                                (try (rw [drewN_self w36]; generalize hq_ : World.drewN w36 _ = w36; have n0_ : Aside0 (Kd.R (Kd.int .u8) 5 w36 w.heap.size (fun k_ => some k_ ≠ (.slice Ao31 y1033.length co31 : Value).ownBlock ∧ some k_ ≠ (.slice Ao17 t1026.length co17 : Value).ownBlock) (.slice Ao35 t1037.length co35) t1037) := ⟨by rw [← hq_]; exact (by (with_reducible repeat (first | apply Kd.R_alloc | apply Kd.R_drewN | apply Kd.R_drew)); exact Kd.R_mono HO1039.out (fun _ hk => ⟨hk.2, hk.1⟩))⟩; have n1_ : Aside0 (Kd.R (Kd.int .u8) 5 w36 w.heap.size (fun k_ => some k_ ≠ (.slice Ao35 t1037.length co35 : Value).ownBlock ∧ some k_ ≠ (.slice Ao17 t1026.length co17 : Value).ownBlock) (.slice Ao31 y1033.length co31) y1033) := ⟨by rw [← hq_]; exact (by (with_reducible repeat (first | apply Kd.R_alloc | apply Kd.R_drewN | apply Kd.R_drew)); exact Kd.R_mono HO_10.out (fun _ hk => ⟨hk.2, hk.1⟩))⟩; have n2_ : Aside0 (Kd.R (Kd.int .u8) 5 w36 w.heap.size (fun k_ => some k_ ≠ (.slice Ao35 t1037.length co35 : Value).ownBlock ∧ some k_ ≠ (.slice Ao31 y1033.length co31 : Value).ownBlock) (.slice Ao17 t1026.length co17) t1026) := ⟨by rw [← hq_]; exact (by (with_reducible repeat (first | apply Kd.R_alloc | apply Kd.R_drewN | apply Kd.R_drew)); exact Kd.R_mono HO_7.out (fun _ hk => ⟨hk.2, hk.1⟩))⟩; have n3_ : Aside0 (w36.heap[gb1042]? = some (.cells #[.int .u8 t1036, .slice Ao35 t1037.length co35] 46 (0, 0))) := ⟨by rw [← hq_]; exact (by (with_reducible repeat (first | refine blk_drewN ?_ _ | refine blk_drew ?_ | refine blk_alloc ?_ _)); exact BK1042.out)⟩; have n4_ : Aside0 (Below w.heap.size w w36) := ⟨by rw [← hq_]; exact (by repeat (first | (with_reducible first | exact HB.out | apply below_alloc | apply pw_below_drewN | apply below_drew1 | refine below_set ?_ GE1042.out) | exact HB.out))⟩; clear HO1039 HO_10 HO_7 BK1042 HB hq_; have HO1039 := n0_; have HO_10 := n1_; have HO_7 := n2_; have BK1042 := n3_; have HB := n4_; clear n0_ n1_ n2_ n3_ n4_))
                                have n0_ := Aside0.mk (Kd.R_drew HO_7.out)
                                have n1_ := Aside0.mk (Kd.R_drew HO_10.out)
                                have n2_ := Aside0.mk (Kd.R_drew HO1039.out)
                                have n3_ := Aside0.mk (blk_drew BK1042.out)
                                have n4_ := Aside0.mk (below_drew1 HB.out)
                                clear HO_7
                                clear HO_10
                                clear HO1039
                                clear BK1042
                                clear HB
                                have HO_7 := n0_
                                have HO_10 := n1_
                                have HO1039 := n2_
                                have BK1042 := n3_
                                have HB := n4_
                                clear n0_ n1_ n2_ n3_ n4_
                                have p1043 : 0 ≤ (x11_2 : Int) := of_decide_eq_true (by first | (with_reducible assumption) | assumption)
                                have q1043 : x11_2 < (l0.length : Int) := of_decide_eq_true (by first | (with_reducible assumption) | assumption)
                                obtain ⟨ad1043, A1043_1, c1043_1, e1043, hx1043_0, hx1043_1, hl1043_1, hi1043_1⟩ := at_T46 HR0.out x11_2 p1043 q1043
                                have hw1043_1 := hx1043_1
                                have hw1043_0 := hx1043_0
                                cases e1043
                                replace hx1043_0 := (HB.out.cell (World.block_lt_of_cell? w _ hx1043_0)).trans hx1043_0
                                replace hx1043_1 := (HB.out.cell (World.block_lt_of_cell? w _ hx1043_1)).trans hx1043_1
                                have HR1043_1 := Aside0.mk hi1043_1
                                have HC1043_1 := Aside0.mk hl1043_1
                                clear hi1043_1 hl1043_1
                                replace p1043 := eq_true p1043
                                replace q1043 := eq_true q1043
                                refine start_ (n := 26) (S := fun w' => w'.cell? ⟨gb1042, 0, none⟩ = some (.int .u8 t1036) ∧ w'.cell? ⟨gb1042, 1, none⟩ = some (.slice Ao35 t1037.length co35) ∧ w'.cell? (ad1043.add ((x11_2).toNat * 2)) = some (.int .u8 ((rd_T46 l0 x11_2).f0)) ∧ w'.cell? ⟨(ad1043.add ((x11_2).toNat * 2)).block, (ad1043.add ((x11_2).toNat * 2)).off + 1, none⟩ = some (.slice A1043_1 ((rd_T46 l0 x11_2).f1).length c1043_1)) (ds := []) #[false, false, false, false, false, false, false, false, false, false, false, false, false, false, false, false, false, false, false, false, false, false, false, false, false, false] (by kernel_rfl) rfl rfl ⟨(blk_cell BK1042.out 0).trans rfl, (blk_cell BK1042.out 1).trans rfl, ((HB.out.cell (World.block_lt_of_cell? w _ hw1043_0)).trans hw1043_0), ((HB.out.cell (World.block_lt_of_cell? w _ hw1043_1)).trans hw1043_1)⟩ (fun hHeld => ?_); refine with_tabW chartroomlaw03_FrameBack.tab13 chartroomlaw03_FrameBack.bits13 (fun HT_ HW_ => ?_)
                                generalize w36.drew = w37 at HO_7 HO_10 HO1039 BK1042 HB HR1043_1 hx1043_0 hx1043_1 hHeld ⊢
                                refine pure_ (i := 0) (N := some 56) (v := ?_) (a' := ?_) #[true, false, false, false, false, false, false, false, false, false, false, false, false, false, false, false, false, false, false, false, false, false, false, false, false, false] rfl rfl (any_of HT_.out (by kernel_rfl)) (fun _ _ _ h => h) (Or.inl ⟨by rfl, ?_⟩) ?_ ?_
                                rotate_left
                                · intro w'
                                  go_simp
                                  with_reducible rfl
                                rotate_left
                                · simp only [Act.put, List.setIfInBounds_toArray, List.set_cons_zero, List.set_cons_succ, i64_w, i32_w]
                                  rfl
                                refine pure_ (i := 1) (N := some 57) (v := ?_) (a' := ?_) #[true, true, false, false, false, false, false, false, false, false, false, false, false, false, false, false, false, false, false, false, false, false, false, false, false, false] rfl rfl (any_of HT_.out (by kernel_rfl)) (fun _ _ _ h => h) (Or.inl ⟨by rfl, ?_⟩) ?_ ?_
                                rotate_left
                                · intro w'
                                  go_simp
                                  with_reducible rfl
                                rotate_left
                                · simp only [Act.put, List.setIfInBounds_toArray, List.set_cons_zero, List.set_cons_succ, i64_w, i32_w]
                                  rfl
                                refine pure_ (i := 2) (N := some 58) (v := ?_) (a' := ?_) #[true, true, true, false, false, false, false, false, false, false, false, false, false, false, false, false, false, false, false, false, false, false, false, false, false, false] rfl rfl (any_of HT_.out (by kernel_rfl)) (fun _ _ _ h => h) (Or.inl ⟨by rfl, ?_⟩) ?_ ?_
                                rotate_left
                                · intro w'
                                  go_simp
                                  with_reducible rfl
                                rotate_left
                                · simp only [Act.put, List.setIfInBounds_toArray, List.set_cons_zero, List.set_cons_succ, i64_w, i32_w]
                                  rfl
                                refine pure_ (i := 3) (N := some 59) (v := ?_) (a' := ?_) #[true, true, true, true, false, false, false, false, false, false, false, false, false, false, false, false, false, false, false, false, false, false, false, false, false, false] rfl rfl (any_of HT_.out (by kernel_rfl)) (fun _ _ _ h => h) (Or.inl ⟨by rfl, ?_⟩) ?_ ?_
                                rotate_left
                                · intro w'
                                  go_simp
                                  with_reducible rfl
                                rotate_left
                                · simp only [Act.put, List.setIfInBounds_toArray, List.set_cons_zero, List.set_cons_succ, i64_w, i32_w]
                                  rfl
                                refine pure_ (i := 4) (N := some 60) (v := ?_) (a' := ?_) #[true, true, true, true, true, false, false, false, false, false, false, false, false, false, false, false, false, false, false, false, false, false, false, false, false, false] rfl rfl (any_of HT_.out (by kernel_rfl)) (fun _ _ _ h => h) (Or.inl ⟨by rfl, ?_⟩) ?_ ?_
                                rotate_left
                                · intro w'
                                  go_simp
                                  with_reducible rfl
                                rotate_left
                                · simp only [Act.put, List.setIfInBounds_toArray, List.set_cons_zero, List.set_cons_succ, i64_w, i32_w]
                                  rfl
                                refine pure_ (i := 5) (N := some 61) (v := ?_) (a' := ?_) #[true, true, true, true, true, true, false, false, false, false, false, false, false, false, false, false, false, false, false, false, false, false, false, false, false, false] rfl rfl (any_of HT_.out (by kernel_rfl)) (fun _ _ _ h => h) (Or.inl ⟨by rfl, ?_⟩) ?_ ?_
                                rotate_left
                                · intro w'
                                  go_simp
                                  with_reducible rfl
                                rotate_left
                                · simp only [Act.put, List.setIfInBounds_toArray, List.set_cons_zero, List.set_cons_succ, i64_w, i32_w]
                                  rfl
                                refine pure_ (i := 6) (N := some 62) (v := ?_) (a' := ?_) #[true, true, true, true, true, true, true, false, false, false, false, false, false, false, false, false, false, false, false, false, false, false, false, false, false, false] rfl rfl (any_of HT_.out (by kernel_rfl)) (fun _ _ _ h => h) (Or.inl ⟨by rfl, ?_⟩) ?_ ?_
                                rotate_left
                                · intro w'
                                  go_simp
                                  with_reducible rfl
                                rotate_left
                                · simp only [Act.put, List.setIfInBounds_toArray, List.set_cons_zero, List.set_cons_succ, i64_w, i32_w]
                                  rfl
                                refine pure_ (i := 7) (N := some 63) (v := ?_) (a' := ?_) #[true, true, true, true, true, true, true, true, false, false, false, false, false, false, false, false, false, false, false, false, false, false, false, false, false, false] rfl rfl (any_of HT_.out (by kernel_rfl)) (fun _ _ _ h => h) (Or.inl ⟨by rfl, ?_⟩) ?_ ?_
                                rotate_left
                                · intro w'
                                  go_simp
                                  with_reducible rfl
                                rotate_left
                                · simp only [Act.put, List.setIfInBounds_toArray, List.set_cons_zero, List.set_cons_succ, i64_w, i32_w]
                                  rfl
                                refine take_ (i := 8) (N := some 64) (v := ?_) (a' := ?_) #[true, true, true, true, true, true, true, true, true, false, false, false, false, false, false, false, false, false, false, false, false, false, false, false, false, false] rfl rfl (take_ofW HT_.out HW_.out (by kernel_rfl)) (fun _ _ _ h => h) (Or.inl ⟨by rfl, ?_⟩) hHeld ?_ ?_
                                rotate_left
                                · rintro w' ⟨s0, s1, s2, s3⟩
                                  go_simp
                                  with_reducible rfl
                                rotate_left
                                · simp only [Act.put, List.setIfInBounds_toArray, List.set_cons_zero, List.set_cons_succ, i64_w, i32_w]
                                  rfl
                                refine one_ (i := 9) (N := some 65) #[true, true, true, true, true, true, true, true, true, true, false, false, false, false, false, false, false, false, false, false, false, false, false, false, false, false] rfl rfl (one_of HT_.out (by kernel_rfl)) (by decide) (fun K hK => ?_)
                                refine goes_ Try.func63 (by kernel_rfl) rfl #[.agg #[.int .u8 ((rd_T46 l0 x11_2).f0), .slice A1043_1 ((rd_T46 l0 x11_2).f1).length c1043_1]] (by rfl) rfl rfl (by (try simp only [List.map_toArray, List.map_cons, List.map_nil]); first | done | rfl | (simp only [List.length_drop, List.length_take]; rfl)) ?_
                                with_reducible refine (frame_Size.calls k2 ((rd_T46 l0 x11_2).f0) _ _ ((rd_T46 l0 x11_2).f1) t1044 _ ?side1 ?side2 A22.out).mono ?_
                                (case side1 => repeat (first | exact (Kd.C_below HR1043_1.out HB.out) | (with_reducible refine Kd.C_alloc ?_ _) | (with_reducible refine Kd.C_drewN ?_ _) | (with_reducible refine Kd.C_drew ?_)))
                                (case side2 => exact HC1043_1.out)
                                rintro e w38 ⟨rfl, hb⟩
                                refine ⟨_, rfl, ?_⟩
                                have n0_ := Aside0.mk (Kd.R_below (by (with_reducible repeat (first | apply Kd.R_alloc | apply Kd.R_drewN | apply Kd.R_drew)); exact HO_7.out) hb)
                                have n1_ := Aside0.mk (Kd.R_below (by (with_reducible repeat (first | apply Kd.R_alloc | apply Kd.R_drewN | apply Kd.R_drew)); exact HO_10.out) hb)
                                have n2_ := Aside0.mk (Kd.R_below (by (with_reducible repeat (first | apply Kd.R_alloc | apply Kd.R_drewN | apply Kd.R_drew)); exact HO1039.out) hb)
                                have n3_ := Aside0.mk (blk_below (g := gb1042) (o := .cells #[.int .u8 t1036, .slice Ao35 t1037.length co35] 46 (0, 0)) (by (with_reducible repeat (first | refine blk_drewN ?_ _ | refine blk_drew ?_ | refine blk_alloc ?_ _)); exact BK1042.out) hb)
                                have n4_ := Aside0.mk (below_step (by repeat (first | (with_reducible first | exact HB.out | apply below_alloc | apply pw_below_drewN | apply below_drew1 | refine below_set ?_ GE1042.out) | exact HB.out)) hb)
                                clear HO_7
                                clear HO_10
                                clear HO1039
                                clear BK1042
                                clear HB
                                have HO_7 := n0_
                                have HO_10 := n1_
                                have HO1039 := n2_
                                have BK1042 := n3_
                                have HB := n4_
                                clear n0_ n1_ n2_ n3_ n4_
                                (try clear hb)
                                (try clear hb2)
                                (try clear hk)
                                (try clear hi)
                                have q39 : ((wrap64 (x11_2 + 1)) : Int) ≤ ((l0.length : Int) : Int) := of_decide_eq_true (by first | (with_reducible assumption) | assumption)
                                obtain ⟨i039, hi039, _, hsz39, _⟩ := info_parts info46
                                have hroom39 : l0.length ≤ c0 := HC0.out
                                have hC39 : Kd.C k46 _ (some ad1043) l0.length l0 := HR0.out
                                have ql39 : (x11_2 : Int) ≤ ((wrap64 (x11_2 + 1)) : Int) := of_decide_eq_true (by first | (with_reducible assumption) | assumption)
                                have q039 : (0 : Int) ≤ (x11_2 : Int) := of_decide_eq_true (by first | (with_reducible assumption) | assumption)
                                have hcut39 := cut_mid (P := Try.prog) 52 46 .i64 .i64 Try.underlying52 hi039 2 hsz39 (some ad1043) l0.length c0 x11_2 (wrap64 (x11_2 + 1)) q039 ql39 q39 hroom39
                                have hr39 := Kd.C_mid (lo := (x11_2 : Int).toNat) (hi := ((wrap64 (x11_2 + 1)) : Int).toNat) (c := c0) hC39 (by omega) (by omega) hroom39
                                obtain ⟨A39, hA39⟩ : ∃ A1, A1 = (if c0 = (x11_2 : Int).toNat then (some ad1043) else ((some ad1043) : Option Addr).map (·.add ((x11_2 : Int).toNat * 2))) := ⟨_, rfl⟩
                                obtain ⟨c39, hc39⟩ : ∃ c1, c1 = c0 - (x11_2 : Int).toNat := ⟨_, rfl⟩
                                have hy39 : y1045.length = ((wrap64 (x11_2 + 1)) : Int).toNat - (x11_2 : Int).toNat := (by rw [Ny1045.out, List.length_drop, List.length_take] <;> omega)
                                rw [show ((l0).take ((wrap64 (x11_2 + 1)) : Int).toNat).drop (x11_2 : Int).toNat = y1045 from Ny1045.out.symm] at hr39
                                replace hr39 : Kd.C k46 _ A39 y1045.length y1045 := (by rw [hA39]; exact hr39)
                                rw [← hy39, ← hA39, ← hc39] at hcut39
                                have HR1048 := Aside0.mk hr39
                                have HC1048 := Aside0.mk (show y1045.length ≤ c39 from by rw [hy39, hc39]; exact Nat.sub_le_sub_right (Nat.le_trans (by omega) hroom39) _)
                                clear hr39 hC39 hroom39 hi039 hsz39 hc39
                                have KY39 := Aside0.mk hy39
                                have KA39 := Aside0.mk hA39
                                clear hy39 hA39
                                replace q39 := eq_true q39
                                refine hK.out _ _ ⟨(blk_cell BK1042.out 0).trans rfl, (blk_cell BK1042.out 1).trans rfl, ((HB.out.cell (World.block_lt_of_cell? w _ hw1043_0)).trans hw1043_0), ((HB.out.cell (World.block_lt_of_cell? w _ hw1043_1)).trans hw1043_1)⟩ (fun hHeld => ?_)
                                clear hK K
                                refine norm_ (a' := ?_) ?_ ?_
                                rotate_left
                                · show Act.put _ (some 65) _ = _
                                  simp only [Act.put, List.setIfInBounds_toArray, List.set_cons_zero, List.set_cons_succ, i64_w, i32_w]
                                  rfl
                                refine pure_ (i := 10) (N := some 66) (v := ?_) (a' := ?_) #[true, true, true, true, true, true, true, true, true, true, true, false, false, false, false, false, false, false, false, false, false, false, false, false, false, false] rfl rfl (any_of HT_.out (by kernel_rfl)) (fun _ _ _ h => h) (Or.inl ⟨by rfl, ?_⟩) ?_ ?_
                                rotate_left
                                · intro w'
                                  go_simp
                                  with_reducible rfl
                                rotate_left
                                · simp only [Act.put, List.setIfInBounds_toArray, List.set_cons_zero, List.set_cons_succ, i64_w, i32_w]
                                  rfl
                                refine pure_ (i := 11) (N := some 67) (v := ?_) (a' := ?_) #[true, true, true, true, true, true, true, true, true, true, true, true, false, false, false, false, false, false, false, false, false, false, false, false, false, false] rfl rfl (any_of HT_.out (by kernel_rfl)) (fun _ _ _ h => h) (Or.inl ⟨by rfl, ?_⟩) ?_ ?_
                                rotate_left
                                · intro w'
                                  go_simp
                                  with_reducible rfl
                                rotate_left
                                · simp only [Act.put, List.setIfInBounds_toArray, List.set_cons_zero, List.set_cons_succ, i64_w, i32_w]
                                  rfl
                                refine pure_ (i := 12) (N := some 68) (v := ?_) (a' := ?_) #[true, true, true, true, true, true, true, true, true, true, true, true, true, false, false, false, false, false, false, false, false, false, false, false, false, false] rfl rfl (any_of HT_.out (by kernel_rfl)) (fun _ _ _ h => h) (Or.inl ⟨by rfl, ?_⟩) ?_ ?_
                                rotate_left
                                · intro w'
                                  go_simp
                                  with_reducible rfl
                                rotate_left
                                · simp only [Act.put, List.setIfInBounds_toArray, List.set_cons_zero, List.set_cons_succ, i64_w, i32_w]
                                  rfl
                                refine pure_ (i := 13) (N := some 69) (v := ?_) (a' := ?_) #[true, true, true, true, true, true, true, true, true, true, true, true, true, true, false, false, false, false, false, false, false, false, false, false, false, false] rfl rfl (any_of HT_.out (by kernel_rfl)) (fun _ _ _ h => h) (Or.inl ⟨by rfl, ?_⟩) ?_ ?_
                                rotate_left
                                · intro w'
                                  go_simp
                                  with_reducible rfl
                                rotate_left
                                · simp only [Act.put, List.setIfInBounds_toArray, List.set_cons_zero, List.set_cons_succ, i64_w, i32_w]
                                  rfl
                                refine pure_ (i := 15) (N := some 71) (v := ?_) (a' := ?_) #[true, true, true, true, true, true, true, true, true, true, true, true, true, true, false, true, false, false, false, false, false, false, false, false, false, false] rfl rfl (any_of HT_.out (by kernel_rfl)) (fun _ _ _ h => h) (Or.inl ⟨by rfl, ?_⟩) ?_ ?_
                                rotate_left
                                · intro w'
                                  go_simp
                                  with_reducible rfl
                                rotate_left
                                · simp only [Act.put, List.setIfInBounds_toArray, List.set_cons_zero, List.set_cons_succ, i64_w, i32_w]
                                  rfl
                                refine pure_ (i := 16) (N := some 72) (v := ?_) (a' := ?_) #[true, true, true, true, true, true, true, true, true, true, true, true, true, true, false, true, true, false, false, false, false, false, false, false, false, false] rfl rfl (any_of HT_.out (by kernel_rfl)) (fun _ _ _ h => h) (Or.inl ⟨by rfl, ?_⟩) ?_ ?_
                                rotate_left
                                · intro w'
                                  go_simp
                                  with_reducible rfl
                                rotate_left
                                · simp only [Act.put, List.setIfInBounds_toArray, List.set_cons_zero, List.set_cons_succ, i64_w, i32_w]
                                  rfl
                                refine pure_ (i := 17) (N := some 73) (v := ?_) (a' := ?_) #[true, true, true, true, true, true, true, true, true, true, true, true, true, true, false, true, true, true, false, false, false, false, false, false, false, false] rfl rfl (any_of HT_.out (by kernel_rfl)) (fun _ _ _ h => h) (Or.inl ⟨by rfl, ?_⟩) ?_ ?_
                                rotate_left
                                · intro w'
                                  go_simp
                                  with_reducible rfl
                                rotate_left
                                · simp only [Act.put, List.setIfInBounds_toArray, List.set_cons_zero, List.set_cons_succ, i64_w, i32_w]
                                  rfl
                                refine pure_ (i := 18) (N := some 74) (v := ?_) (a' := ?_) #[true, true, true, true, true, true, true, true, true, true, true, true, true, true, false, true, true, true, true, false, false, false, false, false, false, false] rfl rfl (any_of HT_.out (by kernel_rfl)) (fun _ _ _ h => h) (Or.inl ⟨by rfl, ?_⟩) ?_ ?_
                                rotate_left
                                · intro w'
                                  go_simp
                                  with_reducible rfl
                                rotate_left
                                · simp only [Act.put, List.setIfInBounds_toArray, List.set_cons_zero, List.set_cons_succ, i64_w, i32_w]
                                  rfl
                                refine pure_ (i := 19) (N := some 75) (v := ?_) (a' := ?_) #[true, true, true, true, true, true, true, true, true, true, true, true, true, true, false, true, true, true, true, true, false, false, false, false, false, false] rfl rfl (any_of HT_.out (by kernel_rfl)) (fun _ _ _ h => h) (Or.inl ⟨by rfl, ?_⟩) ?_ ?_
                                rotate_left
                                · intro w'
                                  go_simp
                                  with_reducible rfl
                                rotate_left
                                · simp only [Act.put, List.setIfInBounds_toArray, List.set_cons_zero, List.set_cons_succ, i64_w, i32_w]
                                  rfl
                                refine take_ (i := 14) (N := some 70) (v := ?_) (a' := ?_) #[true, true, true, true, true, true, true, true, true, true, true, true, true, true, true, true, true, true, true, true, false, false, false, false, false, false] rfl rfl (take_ofW HT_.out HW_.out (by kernel_rfl)) (fun _ _ _ h => h) (Or.inl ⟨by rfl, ?_⟩) hHeld ?_ ?_
                                rotate_left
                                · rintro w' ⟨s0, s1, s2, s3⟩
                                  go_simp
                                  with_reducible rfl
                                rotate_left
                                · simp only [Act.put, List.setIfInBounds_toArray, List.set_cons_zero, List.set_cons_succ, i64_w, i32_w]
                                  rfl
                                refine one_ (i := 20) (N := some 76) #[true, true, true, true, true, true, true, true, true, true, true, true, true, true, true, true, true, true, true, true, true, false, false, false, false, false] rfl rfl (one_of HT_.out (by kernel_rfl)) (by decide) (fun K hK => ?_)
                                refine goes_ Try.func59 (by kernel_rfl) rfl #[.slice A39 y1045.length c39] (by rfl) rfl rfl (by (try simp only [List.map_toArray, List.map_cons, List.map_nil]); first | done | rfl | (simp only [List.length_drop, List.length_take]; rfl)) ?_
                                with_reducible refine (chartroomlaw03_refs.calls k2 _ _ y1045 t1049 _ ?side1 ?side2 A27.out).mono ?_
                                (case side1 => repeat (first | exact (Kd.C_below HR1048.out HB.out) | (with_reducible refine Kd.C_alloc ?_ _) | (with_reducible refine Kd.C_drewN ?_ _) | (with_reducible refine Kd.C_drew ?_)))
                                (case side2 => exact HC1048.out)
                                rintro e w40 ⟨v1050, rfl, ho0, hb⟩
                                refine ⟨_, rfl, ?_⟩
                                have n0_ := Aside0.mk (Kd.R_below (by (with_reducible repeat (first | apply Kd.R_alloc | apply Kd.R_drewN | apply Kd.R_drew)); exact HO_7.out) hb)
                                have n1_ := Aside0.mk (Kd.R_below (by (with_reducible repeat (first | apply Kd.R_alloc | apply Kd.R_drewN | apply Kd.R_drew)); exact HO_10.out) hb)
                                have n2_ := Aside0.mk (Kd.R_below (by (with_reducible repeat (first | apply Kd.R_alloc | apply Kd.R_drewN | apply Kd.R_drew)); exact HO1039.out) hb)
                                have n3_ := Aside0.mk (Kd.S_lower (Kd.S_new' (Kd.S_new' (Kd.S_new' ho0 (Kd.R_lt (by (with_reducible repeat (first | apply Kd.R_alloc | apply Kd.R_drewN | apply Kd.R_drew)); exact HO_7.out))) (Kd.R_lt (by (with_reducible repeat (first | apply Kd.R_alloc | apply Kd.R_drewN | apply Kd.R_drew)); exact HO_10.out))) (Kd.R_lt (by (with_reducible repeat (first | apply Kd.R_alloc | apply Kd.R_drewN | apply Kd.R_drew)); exact HO1039.out))) (below_size (by repeat (first | (with_reducible first | exact HB.out | apply below_alloc | apply pw_below_drewN | apply below_drew1 | refine below_set ?_ GE1042.out) | exact HB.out))))
                                have n4_ := Aside0.mk (blk_below (g := gb1042) (o := .cells #[.int .u8 t1036, .slice Ao35 t1037.length co35] 46 (0, 0)) (by (with_reducible repeat (first | refine blk_drewN ?_ _ | refine blk_drew ?_ | refine blk_alloc ?_ _)); exact BK1042.out) hb)
                                have n5_ := Aside0.mk (below_step (by repeat (first | (with_reducible first | exact HB.out | apply below_alloc | apply pw_below_drewN | apply below_drew1 | refine below_set ?_ GE1042.out) | exact HB.out)) hb)
                                clear HO_7
                                clear HO_10
                                clear HO1039
                                clear BK1042
                                clear HB
                                have HO_7 := n0_
                                have HO_10 := n1_
                                have HO1039 := n2_
                                have HO1051 := n3_
                                have BK1042 := n4_
                                have HB := n5_
                                clear n0_ n1_ n2_ n3_ n4_ n5_
                                (try clear hb)
                                (try clear hb2)
                                (try clear hk)
                                (try clear hi)
                                (try clear ho0)
                                obtain ⟨Ao41, co41, eo41⟩ := Kd.S_slice HO1051.out
                                (first | subst eo41 | (injection eo41 with f1_ f2_ f3_; have f4_ := f1_.symm; have f5_ := f3_.symm; clear f1_ f2_ f3_; subst f4_; subst f5_))
                                have p1052 : 0 ≤ (0 : Int) := (by omega)
                                have q1052 : 0 < (t1049.length : Int) := of_decide_eq_true (by first | (with_reducible assumption) | assumption)
                                obtain ⟨ad1052, A1052_1, c1052_1, e1052, hx1052_0, hx1052_1, hl1052_1, hi1052_1⟩ := at_T49 (Kd.S_reads' HO1051.out).2.2 0 p1052 q1052
                                cases e1052
                                obtain ⟨ce1052, hce1052, hMe1052, hcc1052⟩ := Kd.S_get HO1051.out z49 0 p1052 (by first | exact q1052 | exact of_decide_eq_true (by first | (with_reducible assumption) | assumption) | (have e_ := (Kd.S_reads' HO1051.out).1; omega))
                                obtain ⟨ve1052_1, rfl, ge1052_1⟩ := k49_openM hMe1052
                                have hv1052_1 := hcc1052 1 _ rfl
                                rw [add_field _ _ 1 (by omega)] at hv1052_1
                                replace hv1052_1 := Option.some.inj (hv1052_1.symm.trans hx1052_1)
                                rw [hv1052_1] at ge1052_1
                                have HL1052_1 := Aside0.mk (show Kd.R (Kd.int .u8) 5 _ _ _ _ ((rd_T49 t1049 0).f1) from ge1052_1)
                                clear hv1052_1 ge1052_1
                                clear hcc1052 hce1052
                                have qi1052 : (0 < t1049.length) = True := eq_true (by omega)
                                (try rw [show ((0 : Int)).toNat = 0 from rfl] at hx1052_0)
                                (try rw [show 0 * 2 = 0 from rfl] at hx1052_0)
                                (try rw [Addr.add_zero'] at hx1052_0)
                                (try rw [show ((0 : Int)).toNat = 0 from rfl] at hx1052_1)
                                (try rw [show 0 * 2 = 0 from rfl] at hx1052_1)
                                (try rw [Addr.add_zero'] at hx1052_1)
                                have HR1052_1 := Aside0.mk hi1052_1
                                have HC1052_1 := Aside0.mk hl1052_1
                                clear hi1052_1 hl1052_1
                                replace p1052 := eq_true p1052
                                replace q1052 := eq_true q1052
                                refine hK.out _ _ ⟨(blk_cell BK1042.out 0).trans rfl, (blk_cell BK1042.out 1).trans rfl, ((HB.out.cell (World.block_lt_of_cell? w _ hw1043_0)).trans hw1043_0), ((HB.out.cell (World.block_lt_of_cell? w _ hw1043_1)).trans hw1043_1)⟩ (fun hHeld => ?_)
                                clear hK K
                                refine more_ (S' := fun w' => w'.cell? ⟨gb1042, 0, none⟩ = some (.int .u8 t1036) ∧ w'.cell? ⟨gb1042, 1, none⟩ = some (.slice Ao35 t1037.length co35) ∧ w'.cell? (ad1043.add ((x11_2).toNat * 2)) = some (.int .u8 ((rd_T46 l0 x11_2).f0)) ∧ w'.cell? ⟨(ad1043.add ((x11_2).toNat * 2)).block, (ad1043.add ((x11_2).toNat * 2)).off + 1, none⟩ = some (.slice A1043_1 ((rd_T46 l0 x11_2).f1).length c1043_1) ∧ w'.cell? ad1052 = some (.int .u8 ((rd_T49 t1049 0).f0)) ∧ w'.cell? ⟨ad1052.block, ad1052.off + 1, none⟩ = some (.slice A1052_1 ((rd_T49 t1049 0).f1).length c1052_1)) (fun _ h_ => ⟨h_.1, h_.2.1, h_.2.2.1, h_.2.2.2.1⟩) ⟨hHeld.1, hHeld.2.1, hHeld.2.2.1, hHeld.2.2.2, hx1052_0, hx1052_1⟩ (fun hHeld => ?_)
                                refine norm_ (a' := ?_) ?_ ?_
                                rotate_left
                                · show Act.put _ (some 76) _ = _
                                  simp only [Act.put, List.setIfInBounds_toArray, List.set_cons_zero, List.set_cons_succ, i64_w, i32_w]
                                  rfl
                                refine pure_ (i := 21) (N := some 77) (v := ?_) (a' := ?_) #[true, true, true, true, true, true, true, true, true, true, true, true, true, true, true, true, true, true, true, true, true, true, false, false, false, false] rfl rfl (any_of HT_.out (by kernel_rfl)) (fun _ _ _ h => h) (Or.inl ⟨by rfl, ?_⟩) ?_ ?_
                                rotate_left
                                · intro w'
                                  go_simp
                                  with_reducible rfl
                                rotate_left
                                · simp only [Act.put, List.setIfInBounds_toArray, List.set_cons_zero, List.set_cons_succ, i64_w, i32_w]
                                  rfl
                                refine take_ (i := 22) (N := some 78) (v := ?_) (a' := ?_) #[true, true, true, true, true, true, true, true, true, true, true, true, true, true, true, true, true, true, true, true, true, true, true, false, false, false] rfl rfl (take_ofW HT_.out HW_.out (by kernel_rfl)) (fun _ _ _ h => h) (Or.inl ⟨by rfl, ?_⟩) hHeld ?_ ?_
                                rotate_left
                                · rintro w' ⟨s0, s1, s2, s3, s4, s5⟩
                                  go_simp
                                  with_reducible rfl
                                rotate_left
                                · simp only [Act.put, List.setIfInBounds_toArray, List.set_cons_zero, List.set_cons_succ, i64_w, i32_w]
                                  rfl
                                refine one_ (i := 23) (N := some 79) #[true, true, true, true, true, true, true, true, true, true, true, true, true, true, true, true, true, true, true, true, true, true, true, true, false, false] rfl rfl (one_of HT_.out (by kernel_rfl)) (by decide) (fun K hK => ?_)
                                refine goes_ Try.func54 (by kernel_rfl) rfl #[.agg #[.int .u8 t1036, .slice Ao35 t1037.length co35], .agg #[.int .u8 ((rd_T49 t1049 0).f0), .slice A1052_1 ((rd_T49 t1049 0).f1).length c1052_1]] (by rfl) rfl rfl (by (try simp only [List.map_toArray, List.map_cons, List.map_nil]); first | done | rfl | (simp only [List.length_drop, List.length_take]; rfl)) ?_
                                with_reducible refine (chartroomlaw03_same.calls k2 t1036 _ _ t1037 ((rd_T49 t1049 0).f0) _ _ ((rd_T49 t1049 0).f1) true _ ?side1 ?side2 ?side3 ?side4 A29.out).mono ?_
                                (case side1 => repeat (first | exact (Kd.R_reads' HO1039.out).2.2 | (with_reducible refine Kd.C_alloc ?_ _) | (with_reducible refine Kd.C_drewN ?_ _) | (with_reducible refine Kd.C_drew ?_)))
                                (case side2 => exact (Kd.R_reads' HO1039.out).2.1)
                                (case side3 => repeat (first | exact (by repeat (first | (with_reducible exact HR1052_1.out) | (with_reducible refine Kd.C_alloc ?_ _) | (with_reducible refine Kd.C_drewN ?_ _) | (with_reducible refine Kd.C_drew ?_) | exact HR1052_1.out)) | (with_reducible refine Kd.C_alloc ?_ _) | (with_reducible refine Kd.C_drewN ?_ _) | (with_reducible refine Kd.C_drew ?_)))
                                (case side4 => exact HC1052_1.out)
                                rintro e w42 ⟨rfl, hb⟩
                                have HS4_ := (hb.cell (World.block_lt_of_cell? _ _ (hHeld.2.2.2.2.1))).trans (hHeld.2.2.2.2.1)
                                have HS5_ := (hb.cell (World.block_lt_of_cell? _ _ (hHeld.2.2.2.2.2))).trans (hHeld.2.2.2.2.2)
                                refine ⟨_, rfl, ?_⟩
                                have n0_ := Aside0.mk (Kd.R_below (by (with_reducible repeat (first | apply Kd.R_alloc | apply Kd.R_drewN | apply Kd.R_drew)); exact HO_7.out) hb)
                                have n1_ := Aside0.mk (Kd.R_below (by (with_reducible repeat (first | apply Kd.R_alloc | apply Kd.R_drewN | apply Kd.R_drew)); exact HO_10.out) hb)
                                have n2_ := Aside0.mk (Kd.R_below (by (with_reducible repeat (first | apply Kd.R_alloc | apply Kd.R_drewN | apply Kd.R_drew)); exact HO1039.out) hb)
                                have n3_ := Aside0.mk (Kd.S_below (by (with_reducible repeat (first | apply Kd.S_alloc | apply Kd.S_drewN | apply Kd.S_drew)); exact HO1051.out) hb)
                                have n4_ := Aside0.mk (Kd.R_below (by (with_reducible repeat (first | apply Kd.R_alloc | apply Kd.R_drewN | apply Kd.R_drew)); exact HL1052_1.out) hb)
                                have n5_ := Aside0.mk (blk_below (g := gb1042) (o := .cells #[.int .u8 t1036, .slice Ao35 t1037.length co35] 46 (0, 0)) (by (with_reducible repeat (first | refine blk_drewN ?_ _ | refine blk_drew ?_ | refine blk_alloc ?_ _)); exact BK1042.out) hb)
                                have n6_ := Aside0.mk (Kd.C_below (by repeat (first | (with_reducible exact HR1052_1.out) | (with_reducible refine Kd.C_alloc ?_ _) | (with_reducible refine Kd.C_drewN ?_ _) | (with_reducible refine Kd.C_drew ?_) | exact HR1052_1.out)) hb)
                                have n7_ := Aside0.mk (below_step (by repeat (first | (with_reducible first | exact HB.out | apply below_alloc | apply pw_below_drewN | apply below_drew1 | refine below_set ?_ GE1042.out) | exact HB.out)) hb)
                                clear HO_7
                                clear HO_10
                                clear HO1039
                                clear HO1051
                                clear HL1052_1
                                clear BK1042
                                clear HR1052_1
                                clear HB
                                have HO_7 := n0_
                                have HO_10 := n1_
                                have HO1039 := n2_
                                have HO1051 := n3_
                                have HL1052_1 := n4_
                                have BK1042 := n5_
                                have HR1052_1 := n6_
                                have HB := n7_
                                clear n0_ n1_ n2_ n3_ n4_ n5_ n6_ n7_
                                (try clear hb)
                                (try clear hb2)
                                (try clear hk)
                                (try clear hi)
                                refine hK.out _ _ ⟨(blk_cell BK1042.out 0).trans rfl, (blk_cell BK1042.out 1).trans rfl, ((HB.out.cell (World.block_lt_of_cell? w _ hw1043_0)).trans hw1043_0), ((HB.out.cell (World.block_lt_of_cell? w _ hw1043_1)).trans hw1043_1), HS4_, HS5_⟩ (fun hHeld => ?_)
                                clear hK K
                                refine norm_ (a' := ?_) ?_ ?_
                                rotate_left
                                · show Act.put _ (some 79) _ = _
                                  simp only [Act.put, List.setIfInBounds_toArray, List.set_cons_zero, List.set_cons_succ, i64_w, i32_w]
                                  rfl
                                refine pure_ (i := 24) (N := some 80) (v := ?_) (a' := ?_) #[true, true, true, true, true, true, true, true, true, true, true, true, true, true, true, true, true, true, true, true, true, true, true, true, true, false] rfl rfl (any_of HT_.out (by kernel_rfl)) (fun _ _ _ h => h) (Or.inl ⟨by rfl, ?_⟩) ?_ ?_
                                rotate_left
                                · intro w'
                                  go_simp
                                  with_reducible rfl
                                rotate_left
                                · simp only [Act.put, List.setIfInBounds_toArray, List.set_cons_zero, List.set_cons_succ, i64_w, i32_w]
                                  rfl
                                refine pure_ (i := 25) (N := some 81) (v := ?_) (a' := ?_) #[true, true, true, true, true, true, true, true, true, true, true, true, true, true, true, true, true, true, true, true, true, true, true, true, true, true] rfl rfl (any_of HT_.out (by kernel_rfl)) (fun _ _ _ h => h) (Or.inl ⟨by rfl, ?_⟩) ?_ ?_
                                rotate_left
                                · intro w'
                                  go_simp
                                  with_reducible rfl
                                rotate_left
                                · simp only [Act.put, List.setIfInBounds_toArray, List.set_cons_zero, List.set_cons_succ, i64_w, i32_w]
                                  rfl
                                refine done_ (done_of HT_.out (by kernel_rfl)) ?_
                                try go_wp2
                                go_roundg k2
                                case measure => have := HJ3.out; have := HK2.out; omega
                                case rel => exact ⟨(t1040), (wrap64 (x11_2 + 1)), (by first | rfl | (simp; done) | (simp [*]; done)), (by first | rfl | (simp; done) | (simp [*]; done)), H', ⟨by have := HJ3.out; have := HK2.out; omega⟩, ⟨by (with_reducible repeat (first | apply Kd.R_alloc | apply Kd.R_drewN | apply Kd.R_drew)); exact Kd.R_mono HO_7.out (fun _ hk => hk.1)⟩, ⟨by (with_reducible repeat (first | apply Kd.R_alloc | apply Kd.R_drewN | apply Kd.R_drew)); exact Kd.R_mono HO_10.out (fun _ hk => hk.1)⟩, ⟨by repeat (first | (with_reducible first | exact HB.out | apply below_alloc | apply pw_below_drewN | apply below_drew1 | refine below_set ?_ GE1042.out) | exact HB.out)⟩⟩
                              · replace c30 := Bool.eq_false_iff.mpr c30
                                subst c30
                                have H1 : (some false) = some true := by rw [if_neg (show ¬ (false = true) by decide)] at H; exact H
                                clear H
                                have H := H1
                                clear H1
                                exact absurd H (by simp)
                            · rw [if_neg c28] at H
                              exact absurd H (by simp)
                          · rw [if_neg c26] at H
                            exact absurd H (by simp)
                        · rw [if_neg c25] at H
                          exact absurd H (by simp)
                      · rw [if_neg c23] at H
                        have c23b0 : (t1040 == (wrap64 (x9_2 + t1044))) = false := beq_eq_false_iff_ne.mpr c23
                        have c23b1 : (t1040 != (wrap64 (x9_2 + t1044))) = true := bne_iff_ne.mpr c23
                        exact absurd H (by simp)
                    · rw [if_neg c21] at H
                      exact absurd H (by simp)
                  · rw [if_neg c20] at H
                    have c20b0 : (t1041 == 0) = false := beq_eq_false_iff_ne.mpr c20
                    have c20b1 : (t1041 != 0) = true := bne_iff_ne.mpr c20
                    exact absurd H (by simp)
                · rw [if_neg c18] at H
                  have c18b0 : decide (x11_2 < (l0.length : Int)) = false := decide_eq_false c18
                  clear c18
                  replace H := Option.bind_eq_some_iff.mp H
                  obtain ⟨t1054, A430, H⟩ := H
                  replace H : (chartroomlaw03_FrameBack.l1 k2 l0 t1026 t1054 0 0) = some true := H
                  have A43 := Aside0.mk A430
                  clear A430
                  have HC44 := Aside0.mk H
                  clear H
                  go_upto_block 2 with (first | ((with_reducible refine gate_callee (f := 57) rfl ?_); refine goesL_ (some 87) rfl rfl Try.func57 (by kernel_rfl) rfl #[.int .i64 a2, .int .i64 (wrap64 ((t1026.length : Int) + 1))] rfl (by (try simp only [List.map_toArray, List.map_cons, List.map_nil]); first | done | rfl | (simp only [List.length_drop, List.length_take]; rfl)) ?_; (with_reducible refine (chartroomkit_Pick.calls a2 (wrap64 ((t1026.length : Int) + 1)) t1054 _ A43.out).mono ?_); rintro e w' ⟨rfl, ⟨nd, rfl⟩⟩; refine ⟨_, rfl, ?_⟩))
                  (try simp only [Act.put, List.setIfInBounds_toArray, List.set_cons_zero, List.set_cons_succ])
                  go_cut [16, 17] (fun v16 v17 wc => ∃ (kq : Nat) (x16_43 : Int) (x17_43 : Int), v16 = .int .i64 x16_43 ∧ v17 = .int .i64 x17_43 ∧ Aside0 (chartroomlaw03_FrameBack.j3 kq l0 t1026 t1054 x16_43 x17_43 = some true) ∧ Aside0 (kq ≤ k2) ∧ Aside0 (Kd.R (Kd.int .u8) 5 wc w.heap.size (fun _ => True) (.slice Ao17 t1026.length co17) t1026) ∧ Aside0 (Below w.heap.size w wc))
                  case first =>
                    have H := HC44.out
                    clear HC44
                    have H' := Aside0.mk H
                    clear H
                    go_wp2
                    go_loopg [16, 17] k2 (fun kq v16 v17 w' => ∃ (x16_3 : Int) (x17_3 : Int), v16 = .int .i64 x16_3 ∧ v17 = .int .i64 x17_3 ∧ Aside0 (chartroomlaw03_FrameBack.l1 kq l0 t1026 t1054 x16_3 x17_3 = some true) ∧ Aside0 (kq ≤ k2) ∧ Aside0 (Kd.R (Kd.int .u8) 5 w' w.heap.size (fun _ => True) (.slice Ao17 t1026.length co17) t1026) ∧ Aside0 (Below w.heap.size w w'))
                    case atStart => exact ⟨(0), (0), (by first | rfl | (simp; done) | (simp [*]; done)), (by first | rfl | (simp; done) | (simp [*]; done)), H', ⟨Nat.le_refl _⟩, ⟨by (with_reducible repeat (first | apply Kd.R_alloc | apply Kd.R_drewN | apply Kd.R_drew)); exact Kd.R_mono HO_7.out (fun _ hk => trivial)⟩, ⟨by repeat (first | (with_reducible first | exact HB.out | apply below_alloc | apply pw_below_drewN | apply below_drew1) | exact HB.out)⟩⟩
                    case round =>
                      clear H'
                      try clear c1
                      try clear p1
                      try clear q1
                      try clear hx1
                      try clear qi1
                      try clear c2
                      try clear p2
                      try clear c3
                      try clear q3
                      try clear c4
                      try clear c5
                      try clear c6
                      try clear p6
                      try clear c7
                      try clear c10
                      try clear p10
                      try clear q10
                      try clear hx10
                      try clear qi10
                      try clear c11
                      try clear c11b0
                      try clear c11b1
                      try clear c13
                      try clear c18
                      try clear c18b0
                      try clear c20
                      try clear c20b0
                      try clear c20b1
                      try clear c21
                      try clear c21b0
                      try clear c23
                      try clear c23b0
                      try clear c23b1
                      try clear c24
                      try clear c24b0
                      try clear c25
                      try clear c25b0
                      try clear c25b1
                      try clear c26
                      try clear c26b0
                      try clear c26b1
                      try clear c28
                      try clear c28b0
                      try clear c28b1
                      try clear c30
                      try clear c39
                      try clear q39
                      try clear hcz34_0
                      try clear hcz34_1
                      try clear hfz34_0
                      try clear hfz34_1
                      try clear hx1043_0
                      try clear hx1043_1
                      try clear hx1052_0
                      try clear hx1052_1
                      try clear p1043
                      try clear p1052
                      try clear p2
                      try clear q039
                      try clear q1043
                      try clear q1052
                      try clear q39
                      obtain ⟨x16_3, x17_3, rfl, rfl, HA, HK3, HO_7, HB⟩ := hrel
                      cases gk with
                      | zero => exact absurd HA.out (by simp [chartroomlaw03_FrameBack.l1])
                      | succ k3 =>
                        have H := HA.out
                        clear HA
                        simp only [chartroomlaw03_FrameBack.l1] at H
                        by_cases c45 : x16_3 < (l0.length : Int)
                        · rw [if_pos c45] at H
                          have c45b0 : decide (x16_3 < (l0.length : Int)) = true := decide_eq_true c45
                          clear c45
                          (first | rw [c45b0] | (simp only [i64_w, i32_w]; rw [c45b0]) | skip)
                          by_cases c46 : 0 ≤ x16_3
                          · rw [if_pos c46] at H
                            have c46b0 : decide (0 ≤ x16_3) = true := decide_eq_true c46
                            clear c46
                            replace H := Option.bind_eq_some_iff.mp H
                            obtain ⟨t1056, A470, H⟩ := H
                            replace H : (if (wrap64 (x17_3 + t1056)) ≤ t1054 then ((frame_Size.f k3 ((rd_T46 l0 x16_3).f0) ((rd_T46 l0 x16_3).f1)).bind fun t1058 => (chartroomlaw03_FrameBack.l1 k3 l0 t1026 t1054 (wrap64 (x16_3 + 1)) (wrap64 (x17_3 + t1058)))) else (chartroomlaw03_FrameBack.j3 k3 l0 t1026 t1054 x16_3 x17_3)) = some true := H
                            have A47 := Aside0.mk A470
                            clear A470
                            by_cases c48 : (wrap64 (x17_3 + t1056)) ≤ t1054
                            · rw [if_pos c48] at H
                              have c48b0 : decide ((wrap64 (x17_3 + t1056)) ≤ t1054) = true := decide_eq_true c48
                              clear c48
                              replace H := Option.bind_eq_some_iff.mp H
                              obtain ⟨t1058, A490, H⟩ := H
                              replace H : (chartroomlaw03_FrameBack.l1 k3 l0 t1026 t1054 (wrap64 (x16_3 + 1)) (wrap64 (x17_3 + t1058))) = some true := H
                              have A49 := Aside0.mk A490
                              clear A490
                              have H' := Aside0.mk H
                              clear H
                              have p1055 : 0 ≤ (x16_3 : Int) := of_decide_eq_true (by first | (with_reducible assumption) | assumption)
                              have q1055 : x16_3 < (l0.length : Int) := of_decide_eq_true (by first | (with_reducible assumption) | assumption)
                              obtain ⟨ad1055, A1055_1, c1055_1, e1055, hx1055_0, hx1055_1, hl1055_1, hi1055_1⟩ := at_T46 HR0.out x16_3 p1055 q1055
                              cases e1055
                              replace hx1055_0 := (HB.out.cell (World.block_lt_of_cell? w _ hx1055_0)).trans hx1055_0
                              replace hx1055_1 := (HB.out.cell (World.block_lt_of_cell? w _ hx1055_1)).trans hx1055_1
                              have HR1055_1 := Aside0.mk hi1055_1
                              have HC1055_1 := Aside0.mk hl1055_1
                              clear hi1055_1 hl1055_1
                              replace p1055 := eq_true p1055
                              replace q1055 := eq_true q1055
                              go_wp2_with (first | ((with_reducible refine gate_callee (f := 63) rfl ?_); refine goesL_ (some 108) rfl rfl Try.func63 (by kernel_rfl) rfl #[.agg #[.int .u8 ((rd_T46 l0 x16_3).f0), .slice A1057_1 ((rd_T46 l0 x16_3).f1).length c1057_1]] rfl (by (try simp only [List.map_toArray, List.map_cons, List.map_nil]); first | done | rfl | (simp only [List.length_drop, List.length_take]; rfl)) ?_; (with_reducible refine (frame_Size.calls k3 ((rd_T46 l0 x16_3).f0) _ _ ((rd_T46 l0 x16_3).f1) t1058 _ ?side1 ?side2 A49.out).mono ?_); (case side1 => repeat (first | exact (Kd.C_below HR1057_1.out HB.out) | (with_reducible refine Kd.C_alloc ?_ _) | (with_reducible refine Kd.C_drewN ?_ _) | (with_reducible refine Kd.C_drew ?_))); (case side2 => exact HC1057_1.out); rintro e w51 ⟨rfl, hb⟩; refine ⟨_, rfl, ?_⟩; have n0_ := Aside0.mk (Kd.R_below (by (with_reducible repeat (first | apply Kd.R_alloc | apply Kd.R_drewN | apply Kd.R_drew)); exact HO_7.out) hb); have n1_ := Aside0.mk (below_step (by repeat (first | (with_reducible first | exact HB.out | apply below_alloc | apply pw_below_drewN | apply below_drew1) | exact HB.out)) hb); clear HO_7; clear HB; have HO_7 := n0_; have HB := n1_; clear n0_ n1_; (try clear hb); (try clear hb2); (try clear hk); (try clear hi)) | (go_at_call 63; refine calls_of_args (args' := #[.agg #[.int .u8 ((rd_T46 l0 x16_3).f0), .slice A1055_1 ((rd_T46 l0 x16_3).f1).length c1055_1]]) (by rfl) ?_; (with_reducible refine (frame_Size.calls k3 ((rd_T46 l0 x16_3).f0) _ _ ((rd_T46 l0 x16_3).f1) t1056 _ ?side1 ?side2 A47.out).mono ?_); (case side1 => repeat (first | exact (Kd.C_below HR1055_1.out HB.out) | (with_reducible refine Kd.C_alloc ?_ _) | (with_reducible refine Kd.C_drewN ?_ _) | (with_reducible refine Kd.C_drew ?_))); (case side2 => exact HC1055_1.out); rintro e w50 ⟨rfl, hb⟩; have n0_ := Aside0.mk (Kd.R_below (by (with_reducible repeat (first | apply Kd.R_alloc | apply Kd.R_drewN | apply Kd.R_drew)); exact HO_7.out) hb); have n1_ := Aside0.mk (below_step (by repeat (first | (with_reducible first | exact HB.out | apply below_alloc | apply pw_below_drewN | apply below_drew1) | exact HB.out)) hb); clear HO_7; clear HB; have HO_7 := n0_; have HB := n1_; clear n0_ n1_; (try clear hb); (try clear hb2); (try clear hk); (try clear hi); have p1057 : 0 ≤ (x16_3 : Int) := of_decide_eq_true (by first | (with_reducible assumption) | assumption); have q1057 : x16_3 < (l0.length : Int) := of_decide_eq_true (by first | (with_reducible assumption) | assumption); obtain ⟨ad1057, A1057_1, c1057_1, e1057, hx1057_0, hx1057_1, hl1057_1, hi1057_1⟩ := at_T46 HR0.out x16_3 p1057 q1057; obtain rfl : ad1055 = ad1057 := (by injection e1057); replace hx1057_0 := (HB.out.cell (World.block_lt_of_cell? w _ hx1057_0)).trans hx1057_0; replace hx1057_1 := (HB.out.cell (World.block_lt_of_cell? w _ hx1057_1)).trans hx1057_1; have HR1057_1 := Aside0.mk hi1057_1; have HC1057_1 := Aside0.mk hl1057_1; clear hi1057_1 hl1057_1; replace p1057 := eq_true p1057; replace q1057 := eq_true q1057))
                              go_roundg k3
                              case measure => have := HJ3.out; have := HK2.out; have := HK3.out; omega
                              case rel => exact ⟨(wrap64 (x16_3 + 1)), (wrap64 (x17_3 + t1058)), (by first | rfl | (simp; done) | (simp [*]; done)), (by first | rfl | (simp; done) | (simp [*]; done)), H', ⟨by have := HJ3.out; have := HK2.out; have := HK3.out; omega⟩, ⟨by (with_reducible repeat (first | apply Kd.R_alloc | apply Kd.R_drewN | apply Kd.R_drew)); exact HO_7.out⟩, ⟨by repeat (first | (with_reducible first | exact HB.out | apply below_alloc | apply pw_below_drewN | apply below_drew1) | exact HB.out)⟩⟩
                            · rw [if_neg c48] at H
                              have c48b0 : decide ((wrap64 (x17_3 + t1056)) ≤ t1054) = false := decide_eq_false c48
                              clear c48
                              have H' := Aside0.mk H
                              clear H
                              have p1055 : 0 ≤ (x16_3 : Int) := of_decide_eq_true (by first | (with_reducible assumption) | assumption)
                              have q1055 : x16_3 < (l0.length : Int) := of_decide_eq_true (by first | (with_reducible assumption) | assumption)
                              obtain ⟨ad1055, A1055_1, c1055_1, e1055, hx1055_0, hx1055_1, hl1055_1, hi1055_1⟩ := at_T46 HR0.out x16_3 p1055 q1055
                              cases e1055
                              replace hx1055_0 := (HB.out.cell (World.block_lt_of_cell? w _ hx1055_0)).trans hx1055_0
                              replace hx1055_1 := (HB.out.cell (World.block_lt_of_cell? w _ hx1055_1)).trans hx1055_1
                              have HR1055_1 := Aside0.mk hi1055_1
                              have HC1055_1 := Aside0.mk hl1055_1
                              clear hi1055_1 hl1055_1
                              replace p1055 := eq_true p1055
                              replace q1055 := eq_true q1055
                              go_wp2_with (first | (go_at_call 63; refine calls_of_args (args' := #[.agg #[.int .u8 ((rd_T46 l0 x16_3).f0), .slice A1055_1 ((rd_T46 l0 x16_3).f1).length c1055_1]]) (by rfl) ?_; (with_reducible refine (frame_Size.calls k3 ((rd_T46 l0 x16_3).f0) _ _ ((rd_T46 l0 x16_3).f1) t1056 _ ?side1 ?side2 A47.out).mono ?_); (case side1 => repeat (first | exact (Kd.C_below HR1055_1.out HB.out) | (with_reducible refine Kd.C_alloc ?_ _) | (with_reducible refine Kd.C_drewN ?_ _) | (with_reducible refine Kd.C_drew ?_))); (case side2 => exact HC1055_1.out); rintro e w52 ⟨rfl, hb⟩; have n0_ := Aside0.mk (Kd.R_below (by (with_reducible repeat (first | apply Kd.R_alloc | apply Kd.R_drewN | apply Kd.R_drew)); exact HO_7.out) hb); have n1_ := Aside0.mk (below_step (by repeat (first | (with_reducible first | exact HB.out | apply below_alloc | apply pw_below_drewN | apply below_drew1) | exact HB.out)) hb); clear HO_7; clear HB; have HO_7 := n0_; have HB := n1_; clear n0_ n1_; (try clear hb); (try clear hb2); (try clear hk); (try clear hi)))
                              go_meet
                              case rel => exact ⟨_, (x16_3), (x17_3), (by first | rfl | (simp; done) | (simp [*]; done)), (by first | rfl | (simp; done) | (simp [*]; done)), H', ⟨by have := HJ3.out; have := HK2.out; have := HK3.out; first | omega | exact Nat.le_refl _⟩, ⟨by (with_reducible repeat (first | apply Kd.R_alloc | apply Kd.R_drewN | apply Kd.R_drew)); exact HO_7.out⟩, ⟨by repeat (first | (with_reducible first | exact HB.out | apply below_alloc | apply pw_below_drewN | apply below_drew1) | exact HB.out)⟩⟩
                          · rw [if_neg c46] at H
                            exact absurd H (by simp)
                        · rw [if_neg c45] at H
                          have c45b0 : decide (x16_3 < (l0.length : Int)) = false := decide_eq_false c45
                          clear c45
                          (first | rw [c45b0] | (simp only [i64_w, i32_w]; rw [c45b0]) | skip)
                          have H' := Aside0.mk H
                          clear H
                          go_wp2
                          go_meet
                          case rel => exact ⟨_, (x16_3), (x17_3), (by first | rfl | (simp; done) | (simp [*]; done)), (by first | rfl | (simp; done) | (simp [*]; done)), H', ⟨by have := HJ3.out; have := HK2.out; have := HK3.out; first | omega | exact Nat.le_refl _⟩, ⟨by (with_reducible repeat (first | apply Kd.R_alloc | apply Kd.R_drewN | apply Kd.R_drew)); exact HO_7.out⟩, ⟨by repeat (first | (with_reducible first | exact HB.out | apply below_alloc | apply pw_below_drewN | apply below_drew1) | exact HB.out)⟩⟩
                  case rest =>
                    clear HC44
                    try clear c1
                    try clear p1
                    try clear q1
                    try clear hx1
                    try clear qi1
                    try clear c2
                    try clear p2
                    try clear c3
                    try clear q3
                    try clear c4
                    try clear c5
                    try clear c6
                    try clear p6
                    try clear c7
                    try clear c10
                    try clear p10
                    try clear q10
                    try clear hx10
                    try clear qi10
                    try clear c11
                    try clear c11b0
                    try clear c11b1
                    try clear c13
                    try clear c18
                    try clear c18b0
                    try clear c20
                    try clear c20b0
                    try clear c20b1
                    try clear c21
                    try clear c21b0
                    try clear c23
                    try clear c23b0
                    try clear c23b1
                    try clear c24
                    try clear c24b0
                    try clear c25
                    try clear c25b0
                    try clear c25b1
                    try clear c26
                    try clear c26b0
                    try clear c26b1
                    try clear c28
                    try clear c28b0
                    try clear c28b1
                    try clear c30
                    try clear c39
                    try clear q39
                    try clear c45
                    try clear c45b0
                    try clear c46
                    try clear c46b0
                    try clear c48
                    try clear c48b0
                    try clear hcz34_0
                    try clear hcz34_1
                    try clear hfz34_0
                    try clear hfz34_1
                    try clear hx1043_0
                    try clear hx1043_1
                    try clear hx1052_0
                    try clear hx1052_1
                    try clear hx1055_0
                    try clear hx1055_1
                    try clear hx1057_0
                    try clear hx1057_1
                    try clear p1
                    try clear p10
                    try clear p1043
                    try clear p1052
                    try clear p1055
                    try clear p1057
                    try clear p2
                    try clear p6
                    try clear q039
                    try clear q1
                    try clear q10
                    try clear q1043
                    try clear q1052
                    try clear q1055
                    try clear q1057
                    try clear q3
                    try clear q39
                    obtain ⟨kq, x16_43, x17_43, rfl, rfl, HA, HJ43, HO_7, HB⟩ := hcut
                    cases kq with
                    | zero => exact absurd HA.out (by simp [chartroomlaw03_FrameBack.j3])
                    | succ kj43 =>
                      have H := HA.out
                      clear HA
                      simp only [chartroomlaw03_FrameBack.j3] at H
                      by_cases c53 : 0 ≤ t1054
                      · rw [if_pos c53] at H
                        have c53b0 := eq_true c53
                        have c53b1 : decide (0 ≤ t1054) = true := decide_eq_true c53
                        clear c53
                        by_cases c54 : t1054 ≤ (t1026.length : Int)
                        · rw [if_pos c54] at H
                          have c54b0 := eq_true c54
                          have c54b1 : decide (t1054 ≤ (t1026.length : Int)) = true := decide_eq_true c54
                          clear c54
                          obtain ⟨y1059, hy1059⟩ : ∃ y_ : List Int, y_ = (t1026.take (t1054 : Int).toNat) := ⟨_, rfl⟩
                          replace H : ((frame_All.f kj43 y1059).bind fun bt1063 => (if 0 ≤ x16_43 then (if x16_43 ≤ (l0.length : Int) then ((chartroomlaw03_refs.f kj43 (l0.take (x16_43 : Int).toNat)).bind fun t1071 => ((chartroomlaw03_sameAll.f kj43 bt1063.1 t1071).bind fun t1074 => (if t1074 = true then (if bt1063.2 = x17_43 then ((chartroomlaw03_works.f kj43).bind fun t1075 => (some t1075)) else (some false)) else (some false)))) else (none)) else (none))) = some true := by first | (rw [hy1059]; with_reducible exact H) | (have H2_ := (Option.bind_some _ _).symm.trans H; rw [hy1059]; with_reducible exact H2_) | (have H2_ := (Option.bind_some _ _).symm.trans H; with_reducible exact H2_) | with_reducible exact H | (rw [hy1059]; exact H) | exact H
                          have Ny1059 := Aside0.mk hy1059
                          clear hy1059
                          replace H := Option.bind_eq_some_iff.mp H
                          obtain ⟨⟨t1063, t1064⟩, A550, H⟩ := H
                          replace H : (if 0 ≤ x16_43 then (if x16_43 ≤ (l0.length : Int) then ((chartroomlaw03_refs.f kj43 (l0.take (x16_43 : Int).toNat)).bind fun t1071 => ((chartroomlaw03_sameAll.f kj43 t1063 t1071).bind fun t1074 => (if t1074 = true then (if t1064 = x17_43 then ((chartroomlaw03_works.f kj43).bind fun t1075 => (some t1075)) else (some false)) else (some false)))) else (none)) else (none)) = some true := H
                          have A55 := Aside0.mk A550
                          clear A550
                          by_cases c56 : 0 ≤ x16_43
                          · rw [if_pos c56] at H
                            have c56b0 := eq_true c56
                            have c56b1 : decide (0 ≤ x16_43) = true := decide_eq_true c56
                            clear c56
                            by_cases c57 : x16_43 ≤ (l0.length : Int)
                            · rw [if_pos c57] at H
                              have c57b0 := eq_true c57
                              have c57b1 : decide (x16_43 ≤ (l0.length : Int)) = true := decide_eq_true c57
                              clear c57
                              obtain ⟨y1067, hy1067⟩ : ∃ y_ : List (S46), y_ = (l0.take (x16_43 : Int).toNat) := ⟨_, rfl⟩
                              replace H : ((chartroomlaw03_refs.f kj43 y1067).bind fun t1071 => ((chartroomlaw03_sameAll.f kj43 t1063 t1071).bind fun t1074 => (if t1074 = true then (if t1064 = x17_43 then ((chartroomlaw03_works.f kj43).bind fun t1075 => (some t1075)) else (some false)) else (some false)))) = some true := by first | (rw [hy1067]; with_reducible exact H) | (have H2_ := (Option.bind_some _ _).symm.trans H; rw [hy1067]; with_reducible exact H2_) | (have H2_ := (Option.bind_some _ _).symm.trans H; with_reducible exact H2_) | with_reducible exact H | (rw [hy1067]; exact H) | exact H
                              have Ny1067 := Aside0.mk hy1067
                              clear hy1067
                              replace H := Option.bind_eq_some_iff.mp H
                              obtain ⟨t1071, A580, H⟩ := H
                              replace H : ((chartroomlaw03_sameAll.f kj43 t1063 t1071).bind fun t1074 => (if t1074 = true then (if t1064 = x17_43 then ((chartroomlaw03_works.f kj43).bind fun t1075 => (some t1075)) else (some false)) else (some false))) = some true := H
                              have A58 := Aside0.mk A580
                              clear A580
                              replace H := Option.bind_eq_some_iff.mp H
                              obtain ⟨t1074, A590, H⟩ := H
                              replace H : (if t1074 = true then (if t1064 = x17_43 then ((chartroomlaw03_works.f kj43).bind fun t1075 => (some t1075)) else (some false)) else (some false)) = some true := H
                              have A59 := Aside0.mk A590
                              clear A590
                              by_cases c60 : t1074 = true
                              · subst c60
                                have H1 : (if t1064 = x17_43 then ((chartroomlaw03_works.f kj43).bind fun t1075 => (some t1075)) else (some false)) = some true := by rw [if_pos rfl] at H; exact H
                                clear H
                                have H := H1
                                clear H1
                                by_cases c61 : t1064 = x17_43
                                · rw [if_pos c61] at H
                                  have c61b0 : (t1064 == x17_43) = true := beq_iff_eq.mpr c61
                                  have c61b1 : (t1064 != x17_43) = false := bne_eq_false_iff_eq.mpr c61
                                  clear c61
                                  replace H := Option.bind_eq_some_iff.mp H
                                  obtain ⟨t1075, A620, H⟩ := H
                                  replace H : (some t1075) = some true := H
                                  have A62 := Aside0.mk A620
                                  clear A620
                                  have hX_ := Aside0.mk (Option.some.inj H)
                                  clear H
                                  have q63 : (t1054 : Int) ≤ ((t1026.length : Int) : Int) := of_decide_eq_true (by first | (with_reducible assumption) | assumption)
                                  obtain ⟨i063, hi063, _, hsz63, _⟩ := info_parts info5
                                  have hroom63 : t1026.length ≤ co17 := (Kd.R_reads' HO_7.out).2.1
                                  have hC63 : Kd.C (Kd.int .u8) _ Ao17 t1026.length t1026 := (Kd.R_reads' HO_7.out).2.2
                                  have hcut63 := cut_to (P := Try.prog) 24 5 .i64 Try.underlying24 hi063 Ao17 t1026.length co17 t1054 (of_decide_eq_true (by first | (with_reducible assumption) | assumption)) q63 hroom63
                                  have hr63 := Kd.C_take (m := (t1054 : Int).toNat) hC63 (by omega)
                                  have hy63 : y1059.length = (t1054 : Int).toNat := (by rw [Ny1059.out, List.length_take]; omega)
                                  rw [← Ny1059.out] at hr63
                                  rw [← hy63] at hcut63
                                  have HR1062 := Aside0.mk hr63
                                  have HC1062 := Aside0.mk (show y1059.length ≤ co17 from by omega)
                                  clear hr63 hC63 hroom63 hi063 hsz63
                                  have KY63 := Aside0.mk hy63
                                  clear hy63
                                  have KL63 := Aside0.mk (show (t1054 : Int).toNat ≤ t1026.length from by omega)
                                  replace q63 := eq_true q63
                                  go_wp2_with (first | ((with_reducible refine gate_callee (f := 50) rfl ?_); refine goesL_ (some 116) rfl rfl Try.func50 (by kernel_rfl) rfl #[.slice Ao17 y1059.length co17] rfl (by (try simp only [List.map_toArray, List.map_cons, List.map_nil]); first | done | rfl | (simp only [List.length_drop, List.length_take]; rfl)) ?_; (with_reducible refine (frame_All.calls kj43 _ _ y1059 t1063 t1064 _ ?side1 ?side2 A55.out).mono ?_); (case side1 => repeat (first | exact (by repeat (first | (with_reducible exact HR1062.out) | (with_reducible refine Kd.C_alloc ?_ _) | (with_reducible refine Kd.C_drewN ?_ _) | (with_reducible refine Kd.C_drew ?_) | exact HR1062.out)) | (with_reducible refine Kd.C_alloc ?_ _) | (with_reducible refine Kd.C_drewN ?_ _) | (with_reducible refine Kd.C_drew ?_))); (case side2 => exact HC1062.out); rintro e w64 ⟨v1065, rfl, ho0, hb⟩; refine ⟨_, rfl, ?_⟩; have n0_ := Aside0.mk (Kd.R_below (by (with_reducible repeat (first | apply Kd.R_alloc | apply Kd.R_drewN | apply Kd.R_drew)); exact HO_7.out) hb); have n1_ := Aside0.mk (Kd.S_lower (Kd.S_new' ho0 (Kd.R_lt (by (with_reducible repeat (first | apply Kd.R_alloc | apply Kd.R_drewN | apply Kd.R_drew)); exact HO_7.out))) (below_size (by repeat (first | (with_reducible first | exact HB.out | apply below_alloc | apply pw_below_drewN | apply below_drew1) | exact HB.out)))); have n2_ := Aside0.mk (Kd.C_below (by repeat (first | (with_reducible exact HR1062.out) | (with_reducible refine Kd.C_alloc ?_ _) | (with_reducible refine Kd.C_drewN ?_ _) | (with_reducible refine Kd.C_drew ?_) | exact HR1062.out)) hb); have n3_ := Aside0.mk (below_step (by repeat (first | (with_reducible first | exact HB.out | apply below_alloc | apply pw_below_drewN | apply below_drew1) | exact HB.out)) hb); clear HO_7; clear HR1062; clear HB; have HO_7 := n0_; have HO1066 := n1_; have HR1062 := n2_; have HB := n3_; clear n0_ n1_ n2_ n3_; (try clear hb); (try clear hb2); (try clear hk); (try clear hi); (try clear ho0); have q65 : (x16_43 : Int) ≤ ((l0.length : Int) : Int) := of_decide_eq_true (by first | (with_reducible assumption) | assumption); obtain ⟨i065, hi065, _, hsz65, _⟩ := info_parts info46; have hroom65 : l0.length ≤ c0 := HC0.out; have hC65 : Kd.C k46 _ A0 l0.length l0 := HR0.out; have hcut65 := cut_to (P := Try.prog) 52 46 .i64 Try.underlying52 hi065 A0 l0.length c0 x16_43 (of_decide_eq_true (by first | (with_reducible assumption) | assumption)) q65 hroom65; have hr65 := Kd.C_take (m := (x16_43 : Int).toNat) hC65 (by omega); have hy65 : y1067.length = (x16_43 : Int).toNat := (by rw [Ny1067.out, List.length_take]; omega); rw [← Ny1067.out] at hr65; rw [← hy65] at hcut65; have HR1070 := Aside0.mk hr65; have HC1070 := Aside0.mk (show y1067.length ≤ c0 from by omega); clear hr65 hC65 hroom65 hi065 hsz65; have KY65 := Aside0.mk hy65; clear hy65; replace q65 := eq_true q65) | ((with_reducible refine gate_callee (f := 59) rfl ?_); refine goesL_ (some 123) rfl rfl Try.func59 (by kernel_rfl) rfl #[.slice A0 y1067.length c0] rfl (by (try simp only [List.map_toArray, List.map_cons, List.map_nil]); first | done | rfl | (simp only [List.length_drop, List.length_take]; rfl)) ?_; (with_reducible refine (chartroomlaw03_refs.calls kj43 _ _ y1067 t1071 _ ?side1 ?side2 A58.out).mono ?_); (case side1 => repeat (first | exact (Kd.C_below HR1070.out HB.out) | (with_reducible refine Kd.C_alloc ?_ _) | (with_reducible refine Kd.C_drewN ?_ _) | (with_reducible refine Kd.C_drew ?_))); (case side2 => exact HC1070.out); rintro e w66 ⟨v1072, rfl, ho0, hb⟩; refine ⟨_, rfl, ?_⟩; have n0_ := Aside0.mk (Kd.R_below (by (with_reducible repeat (first | apply Kd.R_alloc | apply Kd.R_drewN | apply Kd.R_drew)); exact HO_7.out) hb); have n1_ := Aside0.mk (Kd.S_below (by (with_reducible repeat (first | apply Kd.S_alloc | apply Kd.S_drewN | apply Kd.S_drew)); exact HO1066.out) hb); have n2_ := Aside0.mk (Kd.S_lower (Kd.S_new' ho0 (Kd.R_lt (by (with_reducible repeat (first | apply Kd.R_alloc | apply Kd.R_drewN | apply Kd.R_drew)); exact HO_7.out))) (below_size (by repeat (first | (with_reducible first | exact HB.out | apply below_alloc | apply pw_below_drewN | apply below_drew1) | exact HB.out)))); have n3_ := Aside0.mk (Kd.C_below (by repeat (first | (with_reducible exact HR1062.out) | (with_reducible refine Kd.C_alloc ?_ _) | (with_reducible refine Kd.C_drewN ?_ _) | (with_reducible refine Kd.C_drew ?_) | exact HR1062.out)) hb); have n4_ := Aside0.mk (below_step (by repeat (first | (with_reducible first | exact HB.out | apply below_alloc | apply pw_below_drewN | apply below_drew1) | exact HB.out)) hb); clear HO_7; clear HO1066; clear HR1062; clear HB; have HO_7 := n0_; have HO1066 := n1_; have HO1073 := n2_; have HR1062 := n3_; have HB := n4_; clear n0_ n1_ n2_ n3_ n4_; (try clear hb); (try clear hb2); (try clear hk); (try clear hi); (try clear ho0); obtain ⟨Ao67, co67, eo67⟩ := Kd.S_slice HO1066.out; subst eo67; obtain ⟨Ao68, co68, eo68⟩ := Kd.S_slice HO1073.out; subst eo68) | ((with_reducible refine gate_callee (f := 55) rfl ?_); refine goesL_ (some 124) rfl rfl Try.func55 (by kernel_rfl) rfl #[.slice Ao67 t1063.length co67, .slice Ao68 t1071.length co68] rfl (by (try simp only [List.map_toArray, List.map_cons, List.map_nil]); first | done | rfl | (simp only [List.length_drop, List.length_take]; rfl)) ?_; (with_reducible refine (chartroomlaw03_sameAll.calls kj43 _ _ t1063 _ _ t1071 true _ ?side1 ?side2 ?side3 ?side4 A59.out).mono ?_); (case side1 => repeat (first | exact (Kd.S_reads' HO1066.out).2.2 | (with_reducible refine Kd.C_alloc ?_ _) | (with_reducible refine Kd.C_drewN ?_ _) | (with_reducible refine Kd.C_drew ?_))); (case side2 => exact (Kd.S_reads' HO1066.out).2.1); (case side3 => repeat (first | exact (Kd.S_reads' HO1073.out).2.2 | (with_reducible refine Kd.C_alloc ?_ _) | (with_reducible refine Kd.C_drewN ?_ _) | (with_reducible refine Kd.C_drew ?_))); (case side4 => exact (Kd.S_reads' HO1073.out).2.1); rintro e w69 ⟨rfl, hb⟩; refine ⟨_, rfl, ?_⟩; have n0_ := Aside0.mk (Kd.R_below (by (with_reducible repeat (first | apply Kd.R_alloc | apply Kd.R_drewN | apply Kd.R_drew)); exact HO_7.out) hb); have n1_ := Aside0.mk (Kd.S_below (by (with_reducible repeat (first | apply Kd.S_alloc | apply Kd.S_drewN | apply Kd.S_drew)); exact HO1066.out) hb); have n2_ := Aside0.mk (Kd.S_below (by (with_reducible repeat (first | apply Kd.S_alloc | apply Kd.S_drewN | apply Kd.S_drew)); exact HO1073.out) hb); have n3_ := Aside0.mk (Kd.C_below (by repeat (first | (with_reducible exact HR1062.out) | (with_reducible refine Kd.C_alloc ?_ _) | (with_reducible refine Kd.C_drewN ?_ _) | (with_reducible refine Kd.C_drew ?_) | exact HR1062.out)) hb); have n4_ := Aside0.mk (below_step (by repeat (first | (with_reducible first | exact HB.out | apply below_alloc | apply pw_below_drewN | apply below_drew1) | exact HB.out)) hb); clear HO_7; clear HO1066; clear HO1073; clear HR1062; clear HB; have HO_7 := n0_; have HO1066 := n1_; have HO1073 := n2_; have HR1062 := n3_; have HB := n4_; clear n0_ n1_ n2_ n3_ n4_; (try clear hb); (try clear hb2); (try clear hk); (try clear hi)) | (go_at_call 47; refine calls_of_args (args' := #[]) (by rfl) ?_; (with_reducible refine (chartroomlaw03_works.calls kj43  t1075 _ A62.out).mono ?_); rintro e w70 ⟨rfl, hb⟩; have n0_ := Aside0.mk (Kd.R_below (by (with_reducible repeat (first | apply Kd.R_alloc | apply Kd.R_drewN | apply Kd.R_drew)); exact HO_7.out) hb); have n1_ := Aside0.mk (Kd.S_below (by (with_reducible repeat (first | apply Kd.S_alloc | apply Kd.S_drewN | apply Kd.S_drew)); exact HO1066.out) hb); have n2_ := Aside0.mk (Kd.S_below (by (with_reducible repeat (first | apply Kd.S_alloc | apply Kd.S_drewN | apply Kd.S_drew)); exact HO1073.out) hb); have n3_ := Aside0.mk (Kd.C_below (by repeat (first | (with_reducible exact HR1062.out) | (with_reducible refine Kd.C_alloc ?_ _) | (with_reducible refine Kd.C_drewN ?_ _) | (with_reducible refine Kd.C_drew ?_) | exact HR1062.out)) hb); have n4_ := Aside0.mk (below_step (by repeat (first | (with_reducible first | exact HB.out | apply below_alloc | apply pw_below_drewN | apply below_drew1) | exact HB.out)) hb); clear HO_7; clear HO1066; clear HO1073; clear HR1062; clear HB; have HO_7 := n0_; have HO1066 := n1_; have HO1073 := n2_; have HR1062 := n3_; have HB := n4_; clear n0_ n1_ n2_ n3_ n4_; (try clear hb); (try clear hb2); (try clear hk); (try clear hi)))
                                  go_ret
                                  exact ⟨by first | rfl | (rw [hX_.out] <;> rfl) | (simp [errW_none, errW_some] <;> rfl) | (simp [*, errW_none, errW_some] <;> rfl), by repeat (first | (with_reducible first | exact HB.out | apply below_alloc | apply pw_below_drewN | apply below_drew1) | exact HB.out)⟩
                                · rw [if_neg c61] at H
                                  have c61b0 : (t1064 == x17_43) = false := beq_eq_false_iff_ne.mpr c61
                                  have c61b1 : (t1064 != x17_43) = true := bne_iff_ne.mpr c61
                                  exact absurd H (by simp)
                              · replace c60 := Bool.eq_false_iff.mpr c60
                                subst c60
                                have H1 : (some false) = some true := by rw [if_neg (show ¬ (false = true) by decide)] at H; exact H
                                clear H
                                have H := H1
                                clear H1
                                exact absurd H (by simp)
                            · rw [if_neg c57] at H
                              exact absurd H (by simp)
                          · rw [if_neg c56] at H
                            exact absurd H (by simp)
                        · rw [if_neg c54] at H
                          exact absurd H (by simp)
                      · rw [if_neg c53] at H
                        exact absurd H (by simp)
          · rw [if_neg c13] at H
            exact absurd H (by simp)
        · rw [if_neg c11] at H
          have c11b0 : (t1027 == 0) = false := beq_eq_false_iff_ne.mpr c11
          have c11b1 : (t1027 != 0) = true := bne_iff_ne.mpr c11
          exact absurd H (by simp)
end Go.Proofs.Ytoeabgeglgiobaa.P
