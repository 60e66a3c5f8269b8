/- What functions of the given program do, each as a plain Lean function that its call meets: printed by a program of this session out of the translation, checked by Lean. Its conditions: those of each theorem. -/
import Derived.Test.Ytoeabgeglgiobaac11kHconv
import Derived.Test.Ytoeabgeglgiobaac11kP0
import Derived.Test.Ytoeabgeglgiobaac11kGjournal1
import Derived.Test.Ytoeabgeglgiobaac11kGkit0
import Derived.Test.Ytoeabgeglgiobaac11kGlaw110
import Derived.Test.Ytoeabgeglgiobaac11kGlaw111
import Derived.Test.Ytoeabgeglgiobaac11kHjournalAll
import Derived.Test.Ytoeabgeglgiobaac11kHjournalWhole
namespace Go.Proofs.Ytoeabgeglgiobaa.P
open Go.RowKit Go.Proofs.YtoeabgeglgiobaaW.PrintWords Go.Proofs.YtoeabgeglgiobaaW.PrintLast Go.Proofs.YtoeabgeglgiobaaW.PrintMore
attribute [local go_sem] max2_int min2_int max_two min_two max_three min_three max_four min_four   -- for this text's walks alone
set_option linter.unusedVariables false
set_option linter.unusedSimpArgs false
/-! ### chartroomlaw11_JournalKeeps: function 16 -/
mutual
def chartroomlaw11_JournalKeeps.j0 : Nat → List (List Int) → Int → List Int → Bool → Option (Bool)
  | 0, _, _, _, _ => none
  | k + 1, x0, x1, x2, x30 => if x30 = true then ((chartroomlaw11_works.f k).bind fun t1759 => (some t1759)) else (chartroomlaw11_JournalKeeps.l0 k x0 x1 x2 ([] : List Int) ([] : List Int) ([] : List (S92)) 0)
def chartroomlaw11_JournalKeeps.l0 : Nat → List (List Int) → Int → List Int → List Int → List Int → List (S92) → Int → Option (Bool)
  | 0, _, _, _, _, _, _, _ => none
  | k + 1, x0, x1, x2, x7, x8, x9, x10 => if x10 < (x0.length : Int) then (if 0 ≤ x10 then ((journal_Append.f k x7 (rd_L2 x0 x10)).bind fun bt1761 => (if bt1761.2.2.2.2 = 0 then (if bt1761.2.1 = (x7.length : Int) then (if x8.length < 17592186044416 then (if x9.length < 8796093022208 then (chartroomlaw11_JournalKeeps.l0 k x0 x1 x2 bt1761.1 (x8 ++ [bt1761.2.1]) (x9 ++ [(⟨bt1761.2.2.1, bt1761.2.2.2.1⟩ : S92)]) (wrap64 (x10 + 1))) else (none)) else (none)) else (some false)) else (some false))) else (none)) else ((journal_Whole.f x7).bind fun t1775 => (if t1775 = (x7.length : Int) then ((journal_All.f x7).bind fun t1776 => ((chartroomlaw11_rows.f k t1776 x0).bind fun t1779 => (chartroomlaw11_JournalKeeps.j2 k x0 x1 x2 x7 x8 x9 (!t1779)))) else (chartroomlaw11_JournalKeeps.j2 k x0 x1 x2 x7 x8 x9 true)))
def chartroomlaw11_JournalKeeps.j2 : Nat → List (List Int) → Int → List Int → List Int → List Int → List (S92) → Bool → Option (Bool)
  | 0, _, _, _, _, _, _, _ => none
  | k + 1, x0, x1, x2, x7, x8, x9, x77 => if x77 = true then (some false) else ((chartroomkit_Pick.f x1 (wrap64 ((x7.length : Int) + 1))).bind fun t1780 => (chartroomlaw11_JournalKeeps.l1 k x0 x2 x7 x8 x9 t1780 0 0))
def chartroomlaw11_JournalKeeps.l1 : Nat → List (List Int) → List Int → List Int → List Int → List (S92) → Int → Int → Int → Option (Bool)
  | 0, _, _, _, _, _, _, _, _ => none
  | k + 1, x0, x2, x7, x8, x9, x15, x16, x17 => if x17 < (x0.length : Int) then (if (wrap64 (x17 + 1)) < (x0.length : Int) then (if 0 ≤ (wrap64 (x17 + 1)) then (if (wrap64 (x17 + 1)) < (x8.length : Int) then (chartroomlaw11_JournalKeeps.j4 k x0 x2 x7 x8 x9 x15 x16 x17 (rd x8 (wrap64 (x17 + 1)))) else (none)) else (none)) else (chartroomlaw11_JournalKeeps.j4 k x0 x2 x7 x8 x9 x15 x16 x17 (x7.length : Int))) else (if 0 ≤ x15 then (if x15 ≤ (x7.length : Int) then ((journal_Cut.f (x7.take (x15 : Int).toNat)).bind fun t1798 => ((chartroomkit_Own.f x7).bind fun t1801 => (if t1801.length + x2.length < 140737488355328 then ((journal_All.f (x7.take (x15 : Int).toNat)).bind fun t1811 => (if 0 ≤ x16 then (if x16 ≤ (x0.length : Int) then ((chartroomlaw11_rows.f k t1811 (x0.take (x16 : Int).toNat)).bind fun t1818 => (if t1818 = true then ((journal_Whole.f t1798).bind fun t1819 => (if t1819 = (t1798.length : Int) then ((journal_Whole.f (t1801 ++ x2)).bind fun t1820 => (if t1820 ≥ (x7.length : Int) then ((chartroomlaw11_works.f k).bind fun t1821 => (some t1821)) else (some false))) else (some false))) else (some false))) else (none)) else (none))) else (none)))) else (none)) else (none))
def chartroomlaw11_JournalKeeps.j4 : Nat → List (List Int) → List Int → List Int → List Int → List (S92) → Int → Int → Int → Int → Option (Bool)
  | 0, _, _, _, _, _, _, _, _, _ => none
  | k + 1, x0, x2, x7, x8, x9, x15, x16, x17, x18 => if 0 ≤ x15 then (if x15 ≤ (x7.length : Int) then (if 0 ≤ x17 then (if x17 < (x8.length : Int) then (if x17 < (x9.length : Int) then ((journal_Get.f k (x7.take (x15 : Int).toNat) (rd x8 x17) ((rd_T92 x9 x17).f0) ((rd_T92 x9 x17).f1)).bind fun bt1788 => (if ((bt1788.2 == 0) != (decide (x18 ≤ x15))) = true then (chartroomlaw11_JournalKeeps.j5 k x0 x2 x7 x8 x9 x15 x16 x17 x18 true) else (if bt1788.2 = 0 then (if x17 < (x0.length : Int) then ((chartroomkit_SameBytes.f k bt1788.1 (rd_L2 x0 x17)).bind fun t1793 => (chartroomlaw11_JournalKeeps.j5 k x0 x2 x7 x8 x9 x15 x16 x17 x18 (!t1793))) else (none)) else (chartroomlaw11_JournalKeeps.j5 k x0 x2 x7 x8 x9 x15 x16 x17 x18 false)))) else (none)) else (none)) else (none)) else (none)) else (none)
def chartroomlaw11_JournalKeeps.j5 : Nat → List (List Int) → List Int → List Int → List Int → List (S92) → Int → Int → Int → Int → Bool → Option (Bool)
  | 0, _, _, _, _, _, _, _, _, _, _ => none
  | k + 1, x0, x2, x7, x8, x9, x15, x16, x17, x18, x134 => if x134 = true then (some false) else (if x18 ≤ x15 then (chartroomlaw11_JournalKeeps.l1 k x0 x2 x7 x8 x9 x15 (wrap64 (x16 + 1)) (wrap64 (x17 + 1))) else (chartroomlaw11_JournalKeeps.l1 k x0 x2 x7 x8 x9 x15 x16 (wrap64 (x17 + 1))))
end
def chartroomlaw11_JournalKeeps.f (k : Nat) (l0 : List (List Int)) (a1 : Int) (l2 : List Int) : Option (Bool) := (chartroomlaw11_few.f k l0).bind fun t1758 => (if t1758 = true then (chartroomlaw11_JournalKeeps.j0 k l0 a1 l2 (decide ((l2.length : Int) > 100))) else (chartroomlaw11_JournalKeeps.j0 k l0 a1 l2 true))
def chartroomlaw11_JournalKeeps.T25 : Bool × List (List Nat × List Nat) := (true, [([], []), ([], []), ([0, 1], [0, 1]), ([], []), ([], []), ([3, 4], [3, 4]), ([5], [5]), ([], []), ([], []), ([7, 8], [7, 8]), ([9], [9]), ([2, 6, 10], [2, 6, 10]), ([11], [11]), ([12], [12]), ([12], [12]), ([13, 11, 0, 1, 2, 3, 4, 5, 6, 7, 8, 9, 10, 11, 12, 13], [13]), ([14, 15, 0, 1, 2, 3, 4, 5, 6, 7, 8, 9, 10, 11, 12, 13, 14, 15], [14])])
def chartroomlaw11_JournalKeeps.B25 : List Nat := [0, 0, 3, 0, 0, 24, 56, 0, 0, 384, 896, 2047, 4095, 8191, 8191, 16383, 65535]
theorem chartroomlaw11_JournalKeeps.tab25 : rtab .any (opsOf Try.f16 25) = chartroomlaw11_JournalKeeps.T25 := by kernel_rfl
theorem chartroomlaw11_JournalKeeps.bits25 : waitsOk chartroomlaw11_JournalKeeps.T25.2 chartroomlaw11_JournalKeeps.B25 = true := by kernel_rfl
def chartroomlaw11_JournalKeeps.T33 : Bool × List (List Nat × List Nat) := (true, [([], []), ([], []), ([0, 1], [0, 1]), ([2], [2]), ([], []), ([], []), ([4, 5], [4, 5]), ([3, 6, 3], [3, 6]), ([7, 7], [7]), ([8], [8]), ([9, 8, 8], [8, 9]), ([8], [8]), ([11, 8], [8, 11]), ([10, 12, 8], [8, 10, 12]), ([8, 13], [8, 13]), ([14, 10], [14]), ([15], [15]), ([16, 15, 15], [15, 16]), ([15], [15]), ([18, 15], [15, 18]), ([17, 19, 15], [15, 17, 19]), ([15, 20], [15, 20]), ([21, 17], [21]), ([22, 22], [22]), ([22, 23], [22, 23]), ([24, 23, 0, 1, 2, 3, 4, 5, 6, 7, 8, 9, 10, 11, 12, 13, 14, 15, 16, 17, 18, 19, 20, 21, 22, 23, 24], [24])])
def chartroomlaw11_JournalKeeps.B33 : List Nat := [0, 0, 3, 7, 0, 0, 48, 127, 255, 511, 1023, 511, 2559, 8191, 16383, 32767, 65535, 131071, 65535, 327679, 1048575, 2097151, 4194303, 8388607, 16777215, 33554431]
theorem chartroomlaw11_JournalKeeps.tab33 : rtab .any (opsOf Try.f16 33) = chartroomlaw11_JournalKeeps.T33 := by kernel_rfl
theorem chartroomlaw11_JournalKeeps.bits33 : waitsOk chartroomlaw11_JournalKeeps.T33.2 chartroomlaw11_JournalKeeps.B33 = true := by kernel_rfl
set_option maxHeartbeats 8000000 in
set_option maxRecDepth 100000 in
theorem chartroomlaw11_JournalKeeps.calls (k : Nat) (A0 : Option Addr) (c0 : Nat) (l0 : List (List Int)) (a1 : Int) (A2 : Option Addr) (c2 : Nat) (l2 : List Int) (r : Bool) (w : World) (hr0 : Kd.C (Kd.slice 5 (Kd.int .u8)) w A0 l0.length l0) (hc0 : l0.length ≤ c0) (hr2 : Kd.C (Kd.int .u8) w A2 l2.length l2) (hc2 : l2.length ≤ c2) (h : chartroomlaw11_JournalKeeps.f k l0 a1 l2 = some r) (hT_ : r = true := by first | rfl | assumption | exact Aside0.out (by assumption)) :
    Calls Try.prog 16 #[.slice A0 l0.length c0, .int .i64 a1, .slice A2 l2.length c2] w fun e w' => e = .returned (.bool r) ∧ Below w.heap.size w w' := by
  subst hT_
  have hu92 := Try.underlying92
  have HR0 := Aside0.mk hr0
  have HC0 := Aside0.mk hc0
  clear hr0 hc0
  have HR2 := Aside0.mk hr2
  have HC2 := Aside0.mk hc2
  clear hr2 hc2
  have HB := Aside0.mk (Below.refl w.heap.size w)
  have H : ((chartroomlaw11_few.f k l0).bind fun t1758 => (if t1758 = true then (chartroomlaw11_JournalKeeps.j0 k l0 a1 l2 (decide ((l2.length : Int) > 100))) else (chartroomlaw11_JournalKeeps.j0 k l0 a1 l2 true))) = some true := h
  clear h
  have HC4 := Aside0.mk H
  clear H
  go_enter Try.func16, Try.ntmps16
  go_upto_region 1 with (fail)
  go_cut [30] (fun v30 wc => ∃ (kq : Nat) (x30_3 : Bool), v30 = .bool x30_3 ∧ Aside0 (chartroomlaw11_JournalKeeps.j0 kq l0 a1 l2 x30_3 = some true) ∧ Aside0 (kq ≤ k) ∧ Aside0 (Below w.heap.size w wc))
  case first =>
    have H := HC4.out
    clear HC4
    replace H := Option.bind_eq_some_iff.mp H
    obtain ⟨t1758, A50, H⟩ := H
    replace H : (if t1758 = true then (chartroomlaw11_JournalKeeps.j0 k l0 a1 l2 (decide ((l2.length : Int) > 100))) else (chartroomlaw11_JournalKeeps.j0 k l0 a1 l2 true)) = some true := H
    have A5 := Aside0.mk A50
    clear A50
    by_cases c6 : t1758 = true
    · subst c6
      have H1 : (chartroomlaw11_JournalKeeps.j0 k l0 a1 l2 (decide ((l2.length : Int) > 100))) = some true := by rw [if_pos rfl] at H; exact H
      clear H
      have H := H1
      clear H1
      have H' := Aside0.mk H
      clear H
      go_wp2_with (first | ((with_reducible refine gate_callee (f := 88) rfl ?_); refine goesL_ (some 24) rfl rfl Try.func88 (by kernel_rfl) rfl #[.slice A0 l0.length c0] rfl (by (try simp only [List.map_toArray, List.map_cons, List.map_nil]); first | done | rfl | (simp only [List.length_drop, List.length_take]; rfl)) ?_; (with_reducible refine (chartroomlaw11_few.calls k _ _ l0 true _ ?side1 ?side2 A5.out).mono ?_); (case side1 => repeat (first | exact (Kd.C_below HR0.out HB.out) | (with_reducible refine Kd.C_alloc ?_ _) | (with_reducible refine Kd.C_drewN ?_ _) | (with_reducible refine Kd.C_drew ?_))); (case side2 => exact HC0.out); rintro e w' ⟨rfl, ⟨nd, rfl⟩⟩; refine ⟨_, rfl, ?_⟩))
      go_meet
      case rel => exact ⟨_, (decide ((l2.length : Int) > 100)), (by first | rfl | (simp; done) | (simp [*]; done)), H', ⟨by first | omega | exact Nat.le_refl _⟩, ⟨by repeat (first | (with_reducible first | exact HB.out | apply below_alloc | apply pw_below_drewN | apply below_drew1) | exact HB.out)⟩⟩
    · replace c6 := Bool.eq_false_iff.mpr c6
      subst c6
      have H1 : (chartroomlaw11_JournalKeeps.j0 k l0 a1 l2 true) = some true := by rw [if_neg (show ¬ (false = true) by decide)] at H; exact H
      clear H
      have H := H1
      clear H1
      have H' := Aside0.mk H
      clear H
      go_wp2_with (first | ((with_reducible refine gate_callee (f := 88) rfl ?_); refine goesL_ (some 24) rfl rfl Try.func88 (by kernel_rfl) rfl #[.slice A0 l0.length c0] rfl (by (try simp only [List.map_toArray, List.map_cons, List.map_nil]); first | done | rfl | (simp only [List.length_drop, List.length_take]; rfl)) ?_; (with_reducible refine (chartroomlaw11_few.calls k _ _ l0 false _ ?side1 ?side2 A5.out).mono ?_); (case side1 => repeat (first | exact (Kd.C_below HR0.out HB.out) | (with_reducible refine Kd.C_alloc ?_ _) | (with_reducible refine Kd.C_drewN ?_ _) | (with_reducible refine Kd.C_drew ?_))); (case side2 => exact HC0.out); rintro e w' ⟨rfl, ⟨nd, rfl⟩⟩; refine ⟨_, rfl, ?_⟩))
      go_meet
      case rel => exact ⟨_, (true), (by first | rfl | (simp; done) | (simp [*]; done)), H', ⟨by first | omega | exact Nat.le_refl _⟩, ⟨by repeat (first | (with_reducible first | exact HB.out | apply below_alloc | apply pw_below_drewN | apply below_drew1) | exact HB.out)⟩⟩
  case rest =>
    clear HC4
    try clear c1
    try clear c2
    try clear p2
    try clear c6
    obtain ⟨kq, x30_3, rfl, HA, HJ3, HB⟩ := hcut
    cases kq with
    | zero => exact absurd HA.out (by simp [chartroomlaw11_JournalKeeps.j0])
    | succ kj3 =>
      have H := HA.out
      clear HA
      simp only [chartroomlaw11_JournalKeeps.j0] at H
      by_cases c7 : x30_3 = true
      · subst c7
        have H1 : ((chartroomlaw11_works.f kj3).bind fun t1759 => (some t1759)) = some true := by rw [if_pos rfl] at H; exact H
        clear H
        have H := H1
        clear H1
        replace H := Option.bind_eq_some_iff.mp H
        obtain ⟨t1759, A80, H⟩ := H
        replace H : (some t1759) = some true := H
        have A8 := Aside0.mk A80
        clear A80
        have hX_ := Aside0.mk (Option.some.inj H)
        clear H
        go_wp2_with (first | ((with_reducible refine gate_callee (f := 89) rfl ?_); refine goesL_ (some 31) rfl rfl Try.func89 (by kernel_rfl) rfl #[] rfl (by (try simp only [List.map_toArray, List.map_cons, List.map_nil]); first | done | rfl | (simp only [List.length_drop, List.length_take]; rfl)) ?_; (with_reducible refine (chartroomlaw11_works.calls kj3  t1759 _ A8.out).mono ?_); rintro e w9 ⟨rfl, hb⟩; refine ⟨_, rfl, ?_⟩; have n0_ := Aside0.mk (below_step (by repeat (first | (with_reducible first | exact HB.out | apply below_alloc | apply pw_below_drewN | apply below_drew1) | exact HB.out)) hb); clear HB; have HB := n0_; clear n0_; (try clear hb); (try clear hb2); (try clear hk); (try clear hi)))
        go_ret
        exact ⟨by first | rfl | (rw [hX_.out] <;> rfl) | (simp [errW_none, errW_some] <;> rfl) | (simp [*, errW_none, errW_some] <;> rfl), by repeat (first | (with_reducible first | exact HB.out | apply below_alloc | apply pw_below_drewN | apply below_drew1) | exact HB.out)⟩
      · replace c7 := Bool.eq_false_iff.mpr c7
        subst c7
        have H1 : (chartroomlaw11_JournalKeeps.l0 kj3 l0 a1 l2 ([] : List Int) ([] : List Int) ([] : List (S92)) 0) = some true := by rw [if_neg (show ¬ (false = true) by decide)] at H; exact H
        clear H
        have H := H1
        clear H1
        have H' := Aside0.mk H
        clear H
        go_wp2
        go_loopg [7, 8, 9, 10] kj3 (fun kq v7 v8 v9 v10 w' => ∃ (x7_2 : List Int) (x8_2 : List Int) (x9_2 : List (S92)) (x10_2 : Int), v10 = .int .i64 x10_2 ∧ Aside0 (chartroomlaw11_JournalKeeps.l0 kq l0 a1 l2 x7_2 x8_2 x9_2 x10_2 = some true) ∧ Aside0 (kq ≤ kj3) ∧ Aside0 (Kd.R (Kd.int .u8) 5 w' w.heap.size (fun _ => True) v7 x7_2) ∧ Aside0 (Kd.R (Kd.int .i64) 3 w' w.heap.size (fun _ => True) v8 x8_2) ∧ Aside0 (Kd.R k92 92 w' w.heap.size (fun _ => True) v9 x9_2) ∧ Aside0 (Below w.heap.size w w'))
        case atStart => exact ⟨(([] : List Int)), (([] : List Int)), (([] : List (S92))), (0), (by first | rfl | (simp; done) | (simp [*]; done)), H', ⟨Nat.le_refl _⟩, ⟨by first | exact Kd.R_nil _ _ _ _ _ | exact Kd.N_nil _ _ _ _ _ | exact Kd.V_nil _ _ _ _ _ | exact Kd.Q_nil _ _ _ _ _ | exact Kd.S_nil _ _ _ _ _⟩, ⟨by first | exact Kd.R_nil _ _ _ _ _ | exact Kd.N_nil _ _ _ _ _ | exact Kd.V_nil _ _ _ _ _ | exact Kd.Q_nil _ _ _ _ _ | exact Kd.S_nil _ _ _ _ _⟩, ⟨by first | exact Kd.R_nil _ _ _ _ _ | exact Kd.N_nil _ _ _ _ _ | exact Kd.V_nil _ _ _ _ _ | exact Kd.Q_nil _ _ _ _ _ | exact Kd.S_nil _ _ _ _ _⟩, ⟨by repeat (first | (with_reducible first | exact HB.out | apply below_alloc | apply pw_below_drewN | apply below_drew1) | exact HB.out)⟩⟩
        case round =>
          clear H'
          try clear c1
          try clear c2
          try clear p2
          try clear c6
          try clear c7
          try clear c8
          try clear p2
          obtain ⟨x7_2, x8_2, x9_2, x10_2, rfl, HA, HK2, HO_7, HO_8, HO_9, HB⟩ := hrel
          cases gk with
          | zero => exact absurd HA.out (by simp [chartroomlaw11_JournalKeeps.l0])
          | succ k2 =>
            have H := HA.out
            clear HA
            simp only [chartroomlaw11_JournalKeeps.l0] at H
            by_cases c10 : x10_2 < (l0.length : Int)
            · rw [if_pos c10] at H
              have c10b0 : decide (x10_2 < (l0.length : Int)) = true := decide_eq_true c10
              clear c10
              by_cases c11 : 0 ≤ x10_2
              · rw [if_pos c11] at H
                have c11b0 : decide (0 ≤ x10_2) = true := decide_eq_true c11
                clear c11
                replace H := Option.bind_eq_some_iff.mp H
                obtain ⟨⟨t1761, t1764, t1765, t1766, t1767⟩, A120, H⟩ := H
                replace H : (if t1767 = 0 then (if t1764 = (x7_2.length : Int) then (if x8_2.length < 17592186044416 then (if x9_2.length < 8796093022208 then (chartroomlaw11_JournalKeeps.l0 k2 l0 a1 l2 t1761 (x8_2 ++ [t1764]) (x9_2 ++ [(⟨t1765, t1766⟩ : S92)]) (wrap64 (x10_2 + 1))) else (none)) else (none)) else (some false)) else (some false)) = some true := H
                have A12 := Aside0.mk A120
                clear A120
                by_cases c13 : t1767 = 0
                · rw [if_pos c13] at H
                  have c13b0 : (t1767 == 0) = true := beq_iff_eq.mpr c13
                  have c13b1 : (t1767 != 0) = false := bne_eq_false_iff_eq.mpr c13
                  clear c13
                  by_cases c14 : t1764 = (x7_2.length : Int)
                  · rw [if_pos c14] at H
                    have c14b0 : (t1764 == (x7_2.length : Int)) = true := beq_iff_eq.mpr c14
                    have c14b1 : (t1764 != (x7_2.length : Int)) = false := bne_eq_false_iff_eq.mpr c14
                    clear c14
                    by_cases c15 : x8_2.length < 17592186044416
                    · rw [if_pos c15] at H
                      have LMc15 := Aside0.mk c15
                      clear c15
                      obtain ⟨y1769, hy1769⟩ : ∃ y_ : List Int, y_ = (x8_2 ++ [t1764]) := ⟨_, rfl⟩
                      replace H : (if x9_2.length < 8796093022208 then (chartroomlaw11_JournalKeeps.l0 k2 l0 a1 l2 t1761 y1769 (x9_2 ++ [(⟨t1765, t1766⟩ : S92)]) (wrap64 (x10_2 + 1))) else (none)) = some true := by first | (rw [hy1769]; with_reducible exact H) | (have H2_ := (Option.bind_some _ _).symm.trans H; rw [hy1769]; with_reducible exact H2_) | (have H2_ := (Option.bind_some _ _).symm.trans H; with_reducible exact H2_) | with_reducible exact H | (rw [hy1769]; exact H) | exact H
                      have Ny1769 := Aside0.mk hy1769
                      clear hy1769
                      by_cases c16 : x9_2.length < 8796093022208
                      · rw [if_pos c16] at H
                        have LMc16 := Aside0.mk c16
                        clear c16
                        obtain ⟨y1772, hy1772⟩ : ∃ y_ : List (S92), y_ = (x9_2 ++ [(⟨t1765, t1766⟩ : S92)]) := ⟨_, rfl⟩
                        replace H : (chartroomlaw11_JournalKeeps.l0 k2 l0 a1 l2 t1761 y1769 y1772 (wrap64 (x10_2 + 1))) = some true := by first | (rw [hy1772]; with_reducible exact H) | (have H2_ := (Option.bind_some _ _).symm.trans H; rw [hy1772]; with_reducible exact H2_) | (have H2_ := (Option.bind_some _ _).symm.trans H; with_reducible exact H2_) | with_reducible exact H | (rw [hy1772]; exact H) | exact H
                        have Ny1772 := Aside0.mk hy1772
                        clear hy1772
                        have H' := Aside0.mk H
                        clear H
                        have p1760 : 0 ≤ (x10_2 : Int) := of_decide_eq_true (by first | (with_reducible assumption) | assumption)
                        have q1760 : x10_2 < (l0.length : Int) := of_decide_eq_true (by first | (with_reducible assumption) | assumption)
                        obtain ⟨ad1760, A1760_0, c1760_0, e1760, hx1760_0, hl1760_0, hi1760_0⟩ := at_L2 HR0.out x10_2 p1760 q1760
                        cases e1760
                        replace hx1760_0 := (HB.out.cell (World.block_lt_of_cell? w _ hx1760_0)).trans hx1760_0
                        have HR1760_0 := Aside0.mk hi1760_0
                        have HC1760_0 := Aside0.mk hl1760_0
                        clear hi1760_0 hl1760_0
                        replace p1760 := eq_true p1760
                        replace q1760 := eq_true q1760
                        obtain ⟨Ao17, co17, eo17⟩ := Kd.R_slice HO_7.out
                        subst eo17
                        go_wp2_with (first | ((with_reducible refine gate_callee (f := 90) rfl ?_); refine goesL_ (some 44) rfl rfl Try.func90 (by kernel_rfl) rfl #[.slice Ao17 x7_2.length co17, .slice A1760_0 (rd_L2 l0 x10_2).length c1760_0] rfl (by (try simp only [List.map_toArray, List.map_cons, List.map_nil]); first | done | rfl | (simp only [List.length_drop, List.length_take]; rfl)) ?_; (with_reducible refine (journal_Append.calls k2 _ _ x7_2 (fun k_ => k_ < w.heap.size) _ _ (rd_L2 l0 x10_2) t1761 t1764 t1765 t1766 t1767 _ ?side1 ?side2 ?side3 A12.out).mono ?_); (case side1 => repeat (first | exact (Kd.R_reads' HO_7.out).2.2 | (with_reducible refine Kd.C_alloc ?_ _) | (with_reducible refine Kd.C_drewN ?_ _) | (with_reducible refine Kd.C_drew ?_))); (case side2 => exact (Kd.R_reads' HO_7.out).2.1); (case side3 => exact Kd.V_mk HC1760_0.out (Kd.F_below (Kd.C_F (Kd.heap_int .u8) HR1760_0.out) (by repeat (first | (with_reducible first | exact HB.out | apply below_alloc | apply pw_below_drewN | apply below_drew1) | exact HB.out)))); rintro e w18 ⟨v1762, rfl, ho0, hb⟩; refine ⟨_, rfl, ?_⟩; have n0_ := Aside0.mk (Kd.R_elder' (by (with_reducible repeat (first | apply Kd.R_alloc | apply Kd.R_drewN | apply Kd.R_drew)); exact HO_7.out) (Kd.R_base ho0) hb); have n1_ := Aside0.mk (Kd.R_below (by (with_reducible repeat (first | apply Kd.R_alloc | apply Kd.R_drewN | apply Kd.R_drew)); exact HO_8.out) hb); have n2_ := Aside0.mk (Kd.R_below (by (with_reducible repeat (first | apply Kd.R_alloc | apply Kd.R_drewN | apply Kd.R_drew)); exact HO_9.out) hb); have n3_ := Aside0.mk (Kd.R_lower (Kd.R_new' (Kd.R_mono (ok' := fun k_ => True) ho0 (fun _ hk_ => trivial)) (Kd.R_lt (by (with_reducible repeat (first | apply Kd.R_alloc | apply Kd.R_drewN | apply Kd.R_drew)); exact HO_7.out))) (below_size (by repeat (first | (with_reducible first | exact HB.out | apply below_alloc | apply pw_below_drewN | apply below_drew1) | exact HB.out)))); have n4_ := Aside0.mk (below_step (by repeat (first | (with_reducible first | exact HB.out | apply below_alloc | apply pw_below_drewN | apply below_drew1) | exact HB.out)) hb); clear HO_7; clear HO_8; clear HO_9; clear HB; have HO_7 := n0_; have HO_8 := n1_; have HO_9 := n2_; have HO1763 := n3_; have HB := n4_; clear n0_ n1_ n2_ n3_ n4_; (try clear hb); (try clear hb2); (try clear hk); (try clear hi); (try clear ho0)) | ((with_reducible refine gate_dst (N := 13) rfl ?_); (try (refine gate_guard (by rfl) ?_; dsimp only)); refine box_event ?hg (N := 13) ?hd (cs := #[.int .u64 0, .int .u64 0]) (t := 92) ?hr ?_; (case hd => rfl); (case hg => rfl); (case hr => first | (go_simp; done) | (go_simp; rfl)); intro gb1768 hg w19 hbox hb; have n0_ := Aside0.mk (Kd.R_below (by (with_reducible repeat (first | apply Kd.R_alloc | apply Kd.R_drewN | apply Kd.R_drew)); exact HO_7.out) hb); have n1_ := Aside0.mk (Kd.R_below (by (with_reducible repeat (first | apply Kd.R_alloc | apply Kd.R_drewN | apply Kd.R_drew)); exact HO_8.out) hb); have n2_ := Aside0.mk (Kd.R_below (Kd.R_elderB (by (with_reducible repeat (first | apply Kd.R_alloc | apply Kd.R_drewN | apply Kd.R_drew)); exact HO_9.out) gb1768 (Nat.le_of_eq hg.symm)) hb); have n3_ := Aside0.mk (Kd.R_below (by (with_reducible repeat (first | apply Kd.R_alloc | apply Kd.R_drewN | apply Kd.R_drew)); exact HO1763.out) hb); have n4_ := Aside0.mk (below_step (by repeat (first | (with_reducible first | exact HB.out | apply below_alloc | apply pw_below_drewN | apply below_drew1) | exact HB.out)) hb); have n5_ := Aside0.mk (hbox); have n6_ := Aside0.mk ((by rw [hg]; exact (below_size (by repeat (first | (with_reducible first | exact HB.out | apply below_alloc | apply pw_below_drewN | apply below_drew1) | exact HB.out))) : w.heap.size ≤ gb1768)); have n7_ := Aside0.mk ((by rw [hg]; exact (below_size (by repeat (first | (with_reducible first | exact HB.out | apply below_alloc | apply pw_below_drewN | apply below_drew1) | exact HB.out))) : w.heap.size ≤ gb1768)); clear HO_7; clear HO_8; clear HO_9; clear HO1763; clear HB; have HO_7 := n0_; have HO_8 := n1_; have HO_9 := n2_; have HO1763 := n3_; have HB := n4_; have BK1768 := n5_; have GW1768 := n6_; have GE1768 := n7_; clear n0_ n1_ n2_ n3_ n4_ n5_ n6_ n7_; clear hb hbox hg; have hcz20_0 : w19.cell? ⟨gb1768, 0, none⟩ = some (.int .u64 0) := (blk_cell BK1768.out 0).trans rfl; have hcz20_1 : w19.cell? ⟨gb1768, 1, none⟩ = some (.int .u64 0) := (blk_cell BK1768.out 1).trans rfl; have hfz20_0 := blk_frozen BK1768.out 0; have hfz20_1 := blk_frozen BK1768.out 1) | ((with_reducible refine gate_builtin (b := .append) (xs := #[.tmp 58, .tmp 60]) rfl ?_); (try (refine gate_guard (by rfl) ?_; dsimp only)); at_builtin; refine Kd.R_append (Kd.int .i64) (w0 := w) w.heap.size rfl (.tmp 58) (.tmp 60) 126 3 (.int .i64 0) 8 rfl Try.underlying126 info3 rfl (by decide) (by omega) u8 x8_2 t1764 [.int .i64 t1764] (fun _ => True) (fun _ => False) rfl (by first | (go_simp; done) | (go_simp; rfl)) ?aP (fun _ hk => hk.elim) ?aF ?aO ?aB ?aS ?aL ?_; (case aP => exact rfl); (case aB => exact (by repeat (first | (with_reducible first | exact HB.out | apply below_alloc | apply pw_below_drewN | apply below_drew1 | refine below_set ?_ GE1768.out) | exact HB.out))); (case aF => exact (fun _ _ => trivial)); (case aO => exact (by (with_reducible repeat (first | apply Kd.R_alloc | apply Kd.R_drewN | apply Kd.R_drew)); exact Kd.R_mono (Kd.R_far (p := ⟨gb1768, 1, none⟩) (Kd.R_far (p := ⟨gb1768, 0, none⟩) (Kd.R_types HO_8.out BK1768.out (by decide)) (fun _ hk => hk.2) (.int .u64 t1765)) (fun _ hk => hk.2) (.int .u64 t1766)) (fun _ hk => trivial))); (case aS => exact (below_size (by repeat (first | (with_reducible first | exact HB.out | apply below_alloc | apply pw_below_drewN | apply below_drew1 | refine below_set ?_ GE1768.out) | exact HB.out)))); (case aL => have := LMc15.out; omega); intro v1770 w21 ho hb hg hat; rw [← Ny1769.out] at ho; have n0_ := Aside0.mk (Kd.R_over' (by (with_reducible repeat (first | apply Kd.R_alloc | apply Kd.R_drewN | apply Kd.R_drew)); exact (Kd.R_mono (Kd.R_far (p := ⟨gb1768, 1, none⟩) (Kd.R_far (p := ⟨gb1768, 0, none⟩) (Kd.R_types HO_7.out BK1768.out (by decide)) (fun _ hk => hk.2) (.int .u64 t1765)) (fun _ hk => hk.2) (.int .u64 t1766)) (fun _ h_ => h_.1))) (Kd.R_typed (by (with_reducible repeat (first | apply Kd.R_alloc | apply Kd.R_drewN | apply Kd.R_drew)); exact (Kd.R_mono (Kd.R_far (p := ⟨gb1768, 1, none⟩) (Kd.R_far (p := ⟨gb1768, 0, none⟩) (Kd.R_types HO_8.out BK1768.out (by decide)) (fun _ hk => hk.2) (.int .u64 t1765)) (fun _ hk => hk.2) (.int .u64 t1766)) (fun _ h_ => h_.1)))) (by decide) hg); have n1_ := Aside0.mk (Kd.R_over' (by (with_reducible repeat (first | apply Kd.R_alloc | apply Kd.R_drewN | apply Kd.R_drew)); exact (Kd.R_mono (Kd.R_far (p := ⟨gb1768, 1, none⟩) (Kd.R_far (p := ⟨gb1768, 0, none⟩) (Kd.R_mono HO_9.out (fun k_ hk => (⟨hk, hk.2⟩ : _ ∧ k_ ≠ gb1768))) (fun _ hk => hk.2) (.int .u64 t1765)) (fun _ hk => hk.2) (.int .u64 t1766)) (fun _ h_ => h_.1))) (Kd.R_typed (by (with_reducible repeat (first | apply Kd.R_alloc | apply Kd.R_drewN | apply Kd.R_drew)); exact (Kd.R_mono (Kd.R_far (p := ⟨gb1768, 1, none⟩) (Kd.R_far (p := ⟨gb1768, 0, none⟩) (Kd.R_types HO_8.out BK1768.out (by decide)) (fun _ hk => hk.2) (.int .u64 t1765)) (fun _ hk => hk.2) (.int .u64 t1766)) (fun _ h_ => h_.1)))) (by decide) hg); have n2_ := Aside0.mk (Kd.R_over' (by (with_reducible repeat (first | apply Kd.R_alloc | apply Kd.R_drewN | apply Kd.R_drew)); exact (Kd.R_mono (Kd.R_far (p := ⟨gb1768, 1, none⟩) (Kd.R_far (p := ⟨gb1768, 0, none⟩) (Kd.R_types HO1763.out BK1768.out (by decide)) (fun _ hk => hk.2) (.int .u64 t1765)) (fun _ hk => hk.2) (.int .u64 t1766)) (fun _ h_ => h_.1))) (Kd.R_typed (by (with_reducible repeat (first | apply Kd.R_alloc | apply Kd.R_drewN | apply Kd.R_drew)); exact (Kd.R_mono (Kd.R_far (p := ⟨gb1768, 1, none⟩) (Kd.R_far (p := ⟨gb1768, 0, none⟩) (Kd.R_types HO_8.out BK1768.out (by decide)) (fun _ hk => hk.2) (.int .u64 t1765)) (fun _ hk => hk.2) (.int .u64 t1766)) (fun _ h_ => h_.1)))) (by decide) hg); have n3_ := Aside0.mk (blk_grown (g := gb1768) (o := .cells #[.int .u64 t1765, .int .u64 t1766] 92 (0, 0)) (by (with_reducible repeat (first | refine blk_drewN ?_ _ | refine blk_drew ?_ | refine blk_alloc ?_ _)); refine blk_put (cs := #[.int .u64 t1765, .int .u64 0]) ?_ 1 _ rfl; (with_reducible repeat (first | refine blk_drewN ?_ _ | refine blk_drew ?_ | refine blk_alloc ?_ _)); refine blk_put (cs := #[.int .u64 0, .int .u64 0]) ?_ 0 _ rfl; (with_reducible repeat (first | refine blk_drewN ?_ _ | refine blk_drew ?_ | refine blk_alloc ?_ _)); exact BK1768.out) hg (Kd.R_ne HO_8.out BK1768.out (by decide))); have n4_ := Aside0.mk (hb); have n5_ := Aside0.mk (ho); clear HO_7; clear HO_9; clear HO1763; clear BK1768; clear HB; clear HO_8; have HO_7 := n0_; have HO_9 := n1_; have HO1763 := n2_; have BK1768 := n3_; have HB := n4_; have HO1771 := n5_; clear n0_ n1_ n2_ n3_ n4_ n5_; clear ho hb hg hat; have hcz22_0 : w21.cell? ⟨gb1768, 0, none⟩ = some (.int .u64 t1765) := (blk_cell BK1768.out 0).trans rfl; have hcz22_1 : w21.cell? ⟨gb1768, 1, none⟩ = some (.int .u64 t1766) := (blk_cell BK1768.out 1).trans rfl; have hfz22_0 := blk_frozen BK1768.out 0; have hfz22_1 := blk_frozen BK1768.out 1) | ((with_reducible refine gate_builtin (b := .append) (xs := #[.tmp 62, .tmp 64]) rfl ?_); (try (refine gate_guard (by rfl) ?_; dsimp only)); at_builtin; refine Kd.R_append k92 (w0 := w) w.heap.size rfl (.tmp 62) (.tmp 64) 127 92 (.agg #[(.int .u64 0), (.int .u64 0)]) 16 rfl Try.underlying127 info92 rfl (by decide) (by omega) u9 x9_2 (⟨t1765, t1766⟩ : S92) [.int .u64 t1765, .int .u64 t1766] (fun k_ => k_ ≠ gb1768) (fun _ => False) rfl rfl ?aP (fun _ hk => hk.elim) ?aF ?aO ?aB ?aS ?aL ?_; (case aP => exact k92_mkM _ _ _ (⟨t1765, t1766⟩ : S92)); (case aB => exact (by repeat (first | (with_reducible first | exact HB.out | apply below_alloc | apply pw_below_drewN | apply below_drew1 | refine below_set ?_ GE1768.out) | exact HB.out))); (case aF => exact (fun k_ hk => Kd.freshB (g := gb1768) (o := .cells #[.int .u64 t1765, .int .u64 t1766] 92 (0, 0)) (by (with_reducible repeat (first | refine blk_drewN ?_ _ | refine blk_drew ?_ | refine blk_alloc ?_ _)); exact BK1768.out) k_ hk)); (case aO => exact (by (with_reducible repeat (first | apply Kd.R_alloc | apply Kd.R_drewN | apply Kd.R_drew)); exact Kd.R_mono HO_9.out (fun _ hk => hk.2))); (case aS => exact (below_size (by repeat (first | (with_reducible first | exact HB.out | apply below_alloc | apply pw_below_drewN | apply below_drew1 | refine below_set ?_ GE1768.out) | exact HB.out)))); (case aL => have := LMc16.out; omega); intro v1773 w23 ho hb hg hat; rw [← Ny1772.out] at ho; have n0_ := Aside0.mk (Kd.R_over' (by (with_reducible repeat (first | apply Kd.R_alloc | apply Kd.R_drewN | apply Kd.R_drew)); exact HO_7.out) (Kd.R_typed (by (with_reducible repeat (first | apply Kd.R_alloc | apply Kd.R_drewN | apply Kd.R_drew)); exact HO_9.out)) (by decide) hg); have n1_ := Aside0.mk (Kd.R_over' (by (with_reducible repeat (first | apply Kd.R_alloc | apply Kd.R_drewN | apply Kd.R_drew)); exact HO1763.out) (Kd.R_typed (by (with_reducible repeat (first | apply Kd.R_alloc | apply Kd.R_drewN | apply Kd.R_drew)); exact HO_9.out)) (by decide) hg); have n2_ := Aside0.mk (blk_grown (g := gb1768) (o := .cells #[.int .u64 t1765, .int .u64 t1766] 92 (0, 0)) (by (with_reducible repeat (first | refine blk_drewN ?_ _ | refine blk_drew ?_ | refine blk_alloc ?_ _)); exact BK1768.out) hg (Kd.R_away HO_9.out (fun _ hk => hk.2))); have n3_ := Aside0.mk (Kd.R_over' (by (with_reducible repeat (first | apply Kd.R_alloc | apply Kd.R_drewN | apply Kd.R_drew)); exact HO1771.out) (Kd.R_typed (by (with_reducible repeat (first | apply Kd.R_alloc | apply Kd.R_drewN | apply Kd.R_drew)); exact HO_9.out)) (by decide) hg); have n4_ := Aside0.mk (hb); have n5_ := Aside0.mk (ho); clear HO_7; clear HO1763; clear BK1768; clear HO1771; clear HB; clear HO_9; have HO_7 := n0_; have HO1763 := n1_; have BK1768 := n2_; have HO1771 := n3_; have HB := n4_; have HO1774 := n5_; clear n0_ n1_ n2_ n3_ n4_ n5_; clear ho hb hg hat))
                        go_roundg k2
                        case measure => have := HJ3.out; have := HK2.out; omega
                        case rel => exact ⟨(t1761), (y1769), (y1772), (wrap64 (x10_2 + 1)), (by first | rfl | (simp; done) | (simp [*]; done)), H', ⟨by have := HJ3.out; have := HK2.out; omega⟩, ⟨by (with_reducible repeat (first | apply Kd.R_alloc | apply Kd.R_drewN | apply Kd.R_drew)); exact Kd.R_mono HO1763.out (fun _ hk => trivial)⟩, ⟨by (with_reducible repeat (first | apply Kd.R_alloc | apply Kd.R_drewN | apply Kd.R_drew)); exact HO1771.out⟩, ⟨by (with_reducible repeat (first | apply Kd.R_alloc | apply Kd.R_drewN | apply Kd.R_drew)); exact Kd.R_mono HO1774.out (fun _ hk => trivial)⟩, ⟨by repeat (first | (with_reducible first | exact HB.out | apply below_alloc | apply pw_below_drewN | apply below_drew1 | refine below_set ?_ GE1768.out) | exact HB.out)⟩⟩
                      · rw [if_neg c16] at H
                        exact absurd H (by simp)
                    · rw [if_neg c15] at H
                      exact absurd H (by simp)
                  · rw [if_neg c14] at H
                    have c14b0 : (t1764 == (x7_2.length : Int)) = false := beq_eq_false_iff_ne.mpr c14
                    have c14b1 : (t1764 != (x7_2.length : Int)) = true := bne_iff_ne.mpr c14
                    exact absurd H (by simp)
                · rw [if_neg c13] at H
                  have c13b0 : (t1767 == 0) = false := beq_eq_false_iff_ne.mpr c13
                  have c13b1 : (t1767 != 0) = true := bne_iff_ne.mpr c13
                  exact absurd H (by simp)
              · rw [if_neg c11] at H
                exact absurd H (by simp)
            · rw [if_neg c10] at H
              have c10b0 : decide (x10_2 < (l0.length : Int)) = false := decide_eq_false c10
              clear c10
              have HC24 := Aside0.mk H
              clear H
              go_upto_region 15 with (fail)
              go_cut [77] (fun v77 wc => ∃ (kq : Nat) (x77_23 : Bool), v77 = .bool x77_23 ∧ Aside0 (chartroomlaw11_JournalKeeps.j2 kq l0 a1 l2 x7_2 x8_2 x9_2 x77_23 = some true) ∧ Aside0 (kq ≤ k2) ∧ Aside0 (Kd.R (Kd.int .u8) 5 wc w.heap.size (fun _ => True) u7 x7_2) ∧ Aside0 (Kd.R (Kd.int .i64) 3 wc w.heap.size (fun _ => True) u8 x8_2) ∧ Aside0 (Kd.R k92 92 wc w.heap.size (fun _ => True) u9 x9_2) ∧ Aside0 (Below w.heap.size w wc))
              case first =>
                have H := HC24.out
                clear HC24
                replace H := Option.bind_eq_some_iff.mp H
                obtain ⟨t1775, A250, H⟩ := H
                replace H : (if t1775 = (x7_2.length : Int) then ((journal_All.f x7_2).bind fun t1776 => ((chartroomlaw11_rows.f k2 t1776 l0).bind fun t1779 => (chartroomlaw11_JournalKeeps.j2 k2 l0 a1 l2 x7_2 x8_2 x9_2 (!t1779)))) else (chartroomlaw11_JournalKeeps.j2 k2 l0 a1 l2 x7_2 x8_2 x9_2 true)) = some true := H
                have A25 := Aside0.mk A250
                clear A250
                by_cases c26 : t1775 = (x7_2.length : Int)
                · rw [if_pos c26] at H
                  have c26b0 : (t1775 == (x7_2.length : Int)) = true := beq_iff_eq.mpr c26
                  have c26b1 : (t1775 != (x7_2.length : Int)) = false := bne_eq_false_iff_eq.mpr c26
                  clear c26
                  (first | rw [c26b0] | (simp only [i64_w, i32_w]; rw [c26b0]) | skip)
                  replace H := Option.bind_eq_some_iff.mp H
                  obtain ⟨t1776, A270, H⟩ := H
                  replace H : ((chartroomlaw11_rows.f k2 t1776 l0).bind fun t1779 => (chartroomlaw11_JournalKeeps.j2 k2 l0 a1 l2 x7_2 x8_2 x9_2 (!t1779))) = some true := H
                  have A27 := Aside0.mk A270
                  clear A270
                  replace H := Option.bind_eq_some_iff.mp H
                  obtain ⟨t1779, A280, H⟩ := H
                  replace H : (chartroomlaw11_JournalKeeps.j2 k2 l0 a1 l2 x7_2 x8_2 x9_2 (!t1779)) = some true := H
                  have A28 := Aside0.mk A280
                  clear A280
                  have H' := Aside0.mk H
                  clear H
                  obtain ⟨Ao29, co29, eo29⟩ := Kd.R_slice HO_7.out
                  subst eo29
                  go_wp2_with (first | ((with_reducible refine gate_callee (f := 96) rfl ?_); refine goesL_ (some 67) rfl rfl Try.func96 (by kernel_rfl) rfl #[.slice Ao29 x7_2.length co29] rfl (by (try simp only [List.map_toArray, List.map_cons, List.map_nil]); first | done | rfl | (simp only [List.length_drop, List.length_take]; rfl)) ?_; (with_reducible refine (journal_Whole.calls _ _ x7_2 t1775 _ ?side1 ?side2 A25.out).mono ?_); (case side1 => repeat (first | exact (Kd.R_reads' HO_7.out).2.2 | (with_reducible refine Kd.C_alloc ?_ _) | (with_reducible refine Kd.C_drewN ?_ _) | (with_reducible refine Kd.C_drew ?_))); (case side2 => exact (Kd.R_reads' HO_7.out).2.1); rintro e w30 ⟨rfl, hb⟩; refine ⟨_, rfl, ?_⟩; have n0_ := Aside0.mk (Kd.R_below (by (with_reducible repeat (first | apply Kd.R_alloc | apply Kd.R_drewN | apply Kd.R_drew)); exact HO_7.out) hb); have n1_ := Aside0.mk (Kd.R_below (by (with_reducible repeat (first | apply Kd.R_alloc | apply Kd.R_drewN | apply Kd.R_drew)); exact HO_8.out) hb); have n2_ := Aside0.mk (Kd.R_below (by (with_reducible repeat (first | apply Kd.R_alloc | apply Kd.R_drewN | apply Kd.R_drew)); exact HO_9.out) hb); have n3_ := Aside0.mk (below_step (by repeat (first | (with_reducible first | exact HB.out | apply below_alloc | apply pw_below_drewN | apply below_drew1) | exact HB.out)) hb); clear HO_7; clear HO_8; clear HO_9; clear HB; have HO_7 := n0_; have HO_8 := n1_; have HO_9 := n2_; have HB := n3_; clear n0_ n1_ n2_ n3_; (try clear hb); (try clear hb2); (try clear hk); (try clear hi)) | (go_at_call 98; refine calls_of_args (args' := #[.slice Ao29 x7_2.length co29]) (by rfl) ?_; (with_reducible refine (journal_All.calls _ _ x7_2 t1776 _ ?side1 ?side2 A27.out).mono ?_); (case side1 => repeat (first | exact (Kd.R_reads' HO_7.out).2.2 | (with_reducible refine Kd.C_alloc ?_ _) | (with_reducible refine Kd.C_drewN ?_ _) | (with_reducible refine Kd.C_drew ?_))); (case side2 => exact (Kd.R_reads' HO_7.out).2.1); rintro e w31 ⟨v1777, rfl, ho0, hb⟩; have n0_ := Aside0.mk (Kd.R_below (by (with_reducible repeat (first | apply Kd.R_alloc | apply Kd.R_drewN | apply Kd.R_drew)); exact HO_7.out) hb); have n1_ := Aside0.mk (Kd.R_below (by (with_reducible repeat (first | apply Kd.R_alloc | apply Kd.R_drewN | apply Kd.R_drew)); exact HO_8.out) hb); have n2_ := Aside0.mk (Kd.R_below (by (with_reducible repeat (first | apply Kd.R_alloc | apply Kd.R_drewN | apply Kd.R_drew)); exact HO_9.out) hb); have n3_ := Aside0.mk (Kd.S_lower (Kd.S_new' ho0 (Kd.R_lt (by (with_reducible repeat (first | apply Kd.R_alloc | apply Kd.R_drewN | apply Kd.R_drew)); exact HO_7.out))) (below_size (by repeat (first | (with_reducible first | exact HB.out | apply below_alloc | apply pw_below_drewN | apply below_drew1) | exact HB.out)))); have n4_ := Aside0.mk (below_step (by repeat (first | (with_reducible first | exact HB.out | apply below_alloc | apply pw_below_drewN | apply below_drew1) | exact HB.out)) hb); clear HO_7; clear HO_8; clear HO_9; clear HB; have HO_7 := n0_; have HO_8 := n1_; have HO_9 := n2_; have HO1778 := n3_; have HB := n4_; clear n0_ n1_ n2_ n3_ n4_; (try clear hb); (try clear hb2); (try clear hk); (try clear hi); (try clear ho0); obtain ⟨Ao32, co32, eo32⟩ := Kd.S_slice HO1778.out; subst eo32) | (go_at_call 97; refine calls_of_args (args' := #[.slice Ao32 t1776.length co32, .slice A0 l0.length c0]) (by rfl) ?_; (with_reducible refine (chartroomlaw11_rows.calls k2 _ _ t1776 _ _ l0 t1779 _ ?side1 ?side2 ?side3 ?side4 A28.out).mono ?_); (case side1 => repeat (first | exact (Kd.S_reads' HO1778.out).2.2 | (with_reducible refine Kd.C_alloc ?_ _) | (with_reducible refine Kd.C_drewN ?_ _) | (with_reducible refine Kd.C_drew ?_))); (case side2 => exact (Kd.S_reads' HO1778.out).2.1); (case side3 => repeat (first | exact (Kd.C_below HR0.out HB.out) | (with_reducible refine Kd.C_alloc ?_ _) | (with_reducible refine Kd.C_drewN ?_ _) | (with_reducible refine Kd.C_drew ?_))); (case side4 => exact HC0.out); rintro e w' ⟨rfl, ⟨nd, rfl⟩⟩))
                  go_meet
                  case rel => exact ⟨_, (!t1779), (by first | rfl | (simp; done) | (simp [*]; done)), H', ⟨by have := HJ3.out; have := HK2.out; first | omega | exact Nat.le_refl _⟩, ⟨by (with_reducible repeat (first | apply Kd.R_alloc | apply Kd.R_drewN | apply Kd.R_drew)); exact HO_7.out⟩, ⟨by (with_reducible repeat (first | apply Kd.R_alloc | apply Kd.R_drewN | apply Kd.R_drew)); exact HO_8.out⟩, ⟨by (with_reducible repeat (first | apply Kd.R_alloc | apply Kd.R_drewN | apply Kd.R_drew)); exact HO_9.out⟩, ⟨by repeat (first | (with_reducible first | exact HB.out | apply below_alloc | apply pw_below_drewN | apply below_drew1) | exact HB.out)⟩⟩
                · rw [if_neg c26] at H
                  have c26b0 : (t1775 == (x7_2.length : Int)) = false := beq_eq_false_iff_ne.mpr c26
                  have c26b1 : (t1775 != (x7_2.length : Int)) = true := bne_iff_ne.mpr c26
                  (first | rw [c26b0] | (simp only [i64_w, i32_w]; rw [c26b0]) | skip)
                  have H' := Aside0.mk H
                  clear H
                  obtain ⟨Ao33, co33, eo33⟩ := Kd.R_slice HO_7.out
                  subst eo33
                  go_wp2_with (first | ((with_reducible refine gate_callee (f := 96) rfl ?_); refine goesL_ (some 67) rfl rfl Try.func96 (by kernel_rfl) rfl #[.slice Ao33 x7_2.length co33] rfl (by (try simp only [List.map_toArray, List.map_cons, List.map_nil]); first | done | rfl | (simp only [List.length_drop, List.length_take]; rfl)) ?_; (with_reducible refine (journal_Whole.calls _ _ x7_2 t1775 _ ?side1 ?side2 A25.out).mono ?_); (case side1 => repeat (first | exact (Kd.R_reads' HO_7.out).2.2 | (with_reducible refine Kd.C_alloc ?_ _) | (with_reducible refine Kd.C_drewN ?_ _) | (with_reducible refine Kd.C_drew ?_))); (case side2 => exact (Kd.R_reads' HO_7.out).2.1); rintro e w34 ⟨rfl, hb⟩; refine ⟨_, rfl, ?_⟩; have n0_ := Aside0.mk (Kd.R_below (by (with_reducible repeat (first | apply Kd.R_alloc | apply Kd.R_drewN | apply Kd.R_drew)); exact HO_7.out) hb); have n1_ := Aside0.mk (Kd.R_below (by (with_reducible repeat (first | apply Kd.R_alloc | apply Kd.R_drewN | apply Kd.R_drew)); exact HO_8.out) hb); have n2_ := Aside0.mk (Kd.R_below (by (with_reducible repeat (first | apply Kd.R_alloc | apply Kd.R_drewN | apply Kd.R_drew)); exact HO_9.out) hb); have n3_ := Aside0.mk (below_step (by repeat (first | (with_reducible first | exact HB.out | apply below_alloc | apply pw_below_drewN | apply below_drew1) | exact HB.out)) hb); clear HO_7; clear HO_8; clear HO_9; clear HB; have HO_7 := n0_; have HO_8 := n1_; have HO_9 := n2_; have HB := n3_; clear n0_ n1_ n2_ n3_; (try clear hb); (try clear hb2); (try clear hk); (try clear hi)))
                  go_meet
                  case rel => exact ⟨_, (true), (by first | rfl | (simp; done) | (simp [*]; done)), H', ⟨by have := HJ3.out; have := HK2.out; first | omega | exact Nat.le_refl _⟩, ⟨by (with_reducible repeat (first | apply Kd.R_alloc | apply Kd.R_drewN | apply Kd.R_drew)); exact HO_7.out⟩, ⟨by (with_reducible repeat (first | apply Kd.R_alloc | apply Kd.R_drewN | apply Kd.R_drew)); exact HO_8.out⟩, ⟨by (with_reducible repeat (first | apply Kd.R_alloc | apply Kd.R_drewN | apply Kd.R_drew)); exact HO_9.out⟩, ⟨by repeat (first | (with_reducible first | exact HB.out | apply below_alloc | apply pw_below_drewN | apply below_drew1) | exact HB.out)⟩⟩
              case rest =>
                clear HC24
                try clear c1
                try clear p1
                try clear q1
                try clear hx1
                try clear c2
                try clear p2
                try clear c6
                try clear p6
                try clear c7
                try clear c8
                try clear c9
                try clear c10
                try clear c10b0
                try clear c11
                try clear c11b0
                try clear c13
                try clear c13b0
                try clear c13b1
                try clear c14
                try clear c14b0
                try clear c14b1
                try clear c15
                try clear c16
                try clear c17
                try clear p17
                try clear q17
                try clear hx17
                try clear c26
                try clear c26b0
                try clear c26b1
                try clear hcz20_0
                try clear hcz20_1
                try clear hcz22_0
                try clear hcz22_1
                try clear hfz20_0
                try clear hfz20_1
                try clear hfz22_0
                try clear hfz22_1
                try clear hx1760_0
                try clear p1760
                try clear p2
                try clear q1760
                obtain ⟨kq, x77_23, rfl, HA, HJ23, HO_7, HO_8, HO_9, HB⟩ := hcut
                cases kq with
                | zero => exact absurd HA.out (by simp [chartroomlaw11_JournalKeeps.j2])
                | succ kj23 =>
                  have H := HA.out
                  clear HA
                  simp only [chartroomlaw11_JournalKeeps.j2] at H
                  by_cases c35 : x77_23 = true
                  · subst c35
                    have H1 : (some false) = some true := by rw [if_pos rfl] at H; exact H
                    clear H
                    have H := H1
                    clear H1
                    exact absurd H (by simp)
                  · replace c35 := Bool.eq_false_iff.mpr c35
                    subst c35
                    have H1 : ((chartroomkit_Pick.f a1 (wrap64 ((x7_2.length : Int) + 1))).bind fun t1780 => (chartroomlaw11_JournalKeeps.l1 kj23 l0 l2 x7_2 x8_2 x9_2 t1780 0 0)) = some true := by rw [if_neg (show ¬ (false = true) by decide)] at H; exact H
                    clear H
                    have H := H1
                    clear H1
                    replace H := Option.bind_eq_some_iff.mp H
                    obtain ⟨t1780, A360, H⟩ := H
                    replace H : (chartroomlaw11_JournalKeeps.l1 kj23 l0 l2 x7_2 x8_2 x9_2 t1780 0 0) = some true := H
                    have A36 := Aside0.mk A360
                    clear A360
                    have H' := Aside0.mk H
                    clear H
                    obtain ⟨Ao37, co37, eo37⟩ := Kd.R_slice HO_7.out
                    subst eo37
                    go_wp2_with (first | ((with_reducible refine gate_callee (f := 57) rfl ?_); refine goesL_ (some 82) rfl rfl Try.func57 (by kernel_rfl) rfl #[.int .i64 a1, .int .i64 (wrap64 ((x7_2.length : Int) + 1))] rfl (by (try simp only [List.map_toArray, List.map_cons, List.map_nil]); first | done | rfl | (simp only [List.length_drop, List.length_take]; rfl)) ?_; (with_reducible refine (chartroomkit_Pick.calls a1 (wrap64 ((x7_2.length : Int) + 1)) t1780 _ A36.out).mono ?_); rintro e w' ⟨rfl, ⟨nd, rfl⟩⟩; refine ⟨_, rfl, ?_⟩))
                    go_loopg [16, 17] kj23 (fun kq v16 v17 w' => ∃ (x16_4 : Int) (x17_4 : Int), v16 = .int .i64 x16_4 ∧ v17 = .int .i64 x17_4 ∧ Aside0 (chartroomlaw11_JournalKeeps.l1 kq l0 l2 x7_2 x8_2 x9_2 t1780 x16_4 x17_4 = some true) ∧ Aside0 (kq ≤ kj23) ∧ Aside0 (Kd.R (Kd.int .u8) 5 w' w.heap.size (fun _ => True) (.slice Ao37 x7_2.length co37) x7_2) ∧ Aside0 (Kd.R (Kd.int .i64) 3 w' w.heap.size (fun _ => True) u8 x8_2) ∧ Aside0 (Kd.R k92 92 w' w.heap.size (fun _ => True) u9 x9_2) ∧ Aside0 (Below w.heap.size w w'))
                    case atStart => exact ⟨(0), (0), (by first | rfl | (simp; done) | (simp [*]; done)), (by first | rfl | (simp; done) | (simp [*]; done)), H', ⟨Nat.le_refl _⟩, ⟨by (with_reducible repeat (first | apply Kd.R_alloc | apply Kd.R_drewN | apply Kd.R_drew)); exact HO_7.out⟩, ⟨by (with_reducible repeat (first | apply Kd.R_alloc | apply Kd.R_drewN | apply Kd.R_drew)); exact HO_8.out⟩, ⟨by (with_reducible repeat (first | apply Kd.R_alloc | apply Kd.R_drewN | apply Kd.R_drew)); exact HO_9.out⟩, ⟨by repeat (first | (with_reducible first | exact HB.out | apply below_alloc | apply pw_below_drewN | apply below_drew1) | exact HB.out)⟩⟩
                    case round =>
                      clear H'
                      try clear c1
                      try clear p1
                      try clear q1
                      try clear hx1
                      try clear c2
                      try clear p2
                      try clear c3
                      try clear c5
                      try clear c6
                      try clear p6
                      try clear c7
                      try clear c8
                      try clear c9
                      try clear c10
                      try clear c10b0
                      try clear c11
                      try clear c11b0
                      try clear c13
                      try clear c13b0
                      try clear c13b1
                      try clear c14
                      try clear c14b0
                      try clear c14b1
                      try clear c15
                      try clear c16
                      try clear c17
                      try clear p17
                      try clear q17
                      try clear hx17
                      try clear c26
                      try clear c26b0
                      try clear c26b1
                      try clear c35
                      try clear hcz20_0
                      try clear hcz20_1
                      try clear hcz22_0
                      try clear hcz22_1
                      try clear hfz20_0
                      try clear hfz20_1
                      try clear hfz22_0
                      try clear hfz22_1
                      try clear hx1760_0
                      try clear p1
                      try clear p17
                      try clear p1760
                      try clear p2
                      try clear p6
                      try clear q1
                      try clear q17
                      try clear q1760
                      obtain ⟨x16_4, x17_4, rfl, rfl, HA, HK4, HO_7, HO_8, HO_9, HB⟩ := hrel
                      cases gk with
                      | zero => exact absurd HA.out (by simp [chartroomlaw11_JournalKeeps.l1])
                      | succ k4 =>
                        have H := HA.out
                        clear HA
                        simp only [chartroomlaw11_JournalKeeps.l1] at H
                        by_cases c38 : x17_4 < (l0.length : Int)
                        · rw [if_pos c38] at H
                          have c38b0 : decide (x17_4 < (l0.length : Int)) = true := decide_eq_true c38
                          clear c38
                          have HC39 := Aside0.mk H
                          clear H
                          go_upto_if 95 with (fail)
                          go_cut [18] (fun v18 wc => ∃ (kq : Nat) (x18_38 : Int), v18 = .int .i64 x18_38 ∧ Aside0 (chartroomlaw11_JournalKeeps.j4 kq l0 l2 x7_2 x8_2 x9_2 t1780 x16_4 x17_4 x18_38 = some true) ∧ Aside0 (kq ≤ k4) ∧ Aside0 (Kd.R (Kd.int .u8) 5 wc w.heap.size (fun _ => True) (.slice Ao37 x7_2.length co37) x7_2) ∧ Aside0 (Kd.R (Kd.int .i64) 3 wc w.heap.size (fun _ => True) u8 x8_2) ∧ Aside0 (Kd.R k92 92 wc w.heap.size (fun _ => True) u9 x9_2) ∧ Aside0 (Below w.heap.size w wc))
                          case first =>
                            have H := HC39.out
                            clear HC39
                            by_cases c40 : (wrap64 (x17_4 + 1)) < (l0.length : Int)
                            · rw [if_pos c40] at H
                              have c40b0 : decide ((wrap64 (x17_4 + 1)) < (l0.length : Int)) = true := decide_eq_true c40
                              clear c40
                              (first | rw [c40b0] | (simp only [i64_w, i32_w]; rw [c40b0]) | skip)
                              obtain ⟨ji41, hji41⟩ : ∃ j_ : Int, (wrap64 (x17_4 + 1)) = j_ := ⟨_, rfl⟩
                              replace H : (if 0 ≤ (ji41) then (if (ji41) < (x8_2.length : Int) then (chartroomlaw11_JournalKeeps.j4 k4 l0 l2 x7_2 x8_2 x9_2 t1780 x16_4 x17_4 (rd x8_2 (ji41))) else (none)) else (none)) = some true := by first | (rw [hji41] at H; exact H) | (simp only [hji41] at H ⊢; exact H)
                              (try rw [hji41] at c40b0)
                              have hji41w : (IntKind.i64.wrap (x17_4 + 1)) = ji41 := (i64_w _).trans hji41
                              by_cases c42 : 0 ≤ (ji41)
                              · rw [if_pos c42] at H
                                have c42b0 : decide (0 ≤ (ji41)) = true := decide_eq_true c42
                                clear c42
                                by_cases c43 : (ji41) < (x8_2.length : Int)
                                · rw [if_pos c43] at H
                                  have c43b0 : decide ((ji41) < (x8_2.length : Int)) = true := decide_eq_true c43
                                  clear c43
                                  have H' := Aside0.mk H
                                  clear H
                                  obtain ⟨Ao44, co44, eo44⟩ := Kd.R_slice HO_8.out
                                  subst eo44
                                  have p1781 : 0 ≤ ((ji41) : Int) := of_decide_eq_true (by first | (with_reducible assumption) | assumption)
                                  have q1781 : (ji41) < (x8_2.length : Int) := of_decide_eq_true (by first | (with_reducible assumption) | assumption)
                                  obtain ⟨ad1781, e1781, hx1781_0⟩ := Kd.at_int (Kd.R_reads' HO_8.out).2.2 (ji41) p1781 q1781
                                  cases e1781
                                  replace p1781 := eq_true p1781
                                  replace q1781 := eq_true q1781
                                  go_wp2
                                  go_meet
                                  case rel => exact ⟨_, (rd x8_2 (ji41)), (by first | rfl | (simp; done) | (simp only [← hji41] <;> (first | rfl | simp)) | (simp [*]; done)), H', ⟨by have := HJ3.out; have := HK2.out; have := HJ23.out; have := HK4.out; first | omega | exact Nat.le_refl _⟩, ⟨by (with_reducible repeat (first | apply Kd.R_alloc | apply Kd.R_drewN | apply Kd.R_drew)); exact HO_7.out⟩, ⟨by (with_reducible repeat (first | apply Kd.R_alloc | apply Kd.R_drewN | apply Kd.R_drew)); exact HO_8.out⟩, ⟨by (with_reducible repeat (first | apply Kd.R_alloc | apply Kd.R_drewN | apply Kd.R_drew)); exact HO_9.out⟩, ⟨by repeat (first | (with_reducible first | exact HB.out | apply below_alloc | apply pw_below_drewN | apply below_drew1) | exact HB.out)⟩⟩
                                · rw [if_neg c43] at H
                                  exact absurd H (by simp)
                              · rw [if_neg c42] at H
                                exact absurd H (by simp)
                            · rw [if_neg c40] at H
                              have c40b0 : decide ((wrap64 (x17_4 + 1)) < (l0.length : Int)) = false := decide_eq_false c40
                              clear c40
                              (first | rw [c40b0] | (simp only [i64_w, i32_w]; rw [c40b0]) | skip)
                              have H' := Aside0.mk H
                              clear H
                              go_wp2
                              go_meet
                              case rel => exact ⟨_, ((x7_2.length : Int)), (by first | rfl | (simp; done) | (simp [*]; done)), H', ⟨by have := HJ3.out; have := HK2.out; have := HJ23.out; have := HK4.out; first | omega | exact Nat.le_refl _⟩, ⟨by (with_reducible repeat (first | apply Kd.R_alloc | apply Kd.R_drewN | apply Kd.R_drew)); exact HO_7.out⟩, ⟨by (with_reducible repeat (first | apply Kd.R_alloc | apply Kd.R_drewN | apply Kd.R_drew)); exact HO_8.out⟩, ⟨by (with_reducible repeat (first | apply Kd.R_alloc | apply Kd.R_drewN | apply Kd.R_drew)); exact HO_9.out⟩, ⟨by repeat (first | (with_reducible first | exact HB.out | apply below_alloc | apply pw_below_drewN | apply below_drew1) | exact HB.out)⟩⟩
                          case rest =>
                            clear HC39
                            try clear c1
                            try clear p1
                            try clear q1
                            try clear hx1
                            try clear c2
                            try clear p2
                            try clear c3
                            try clear c4
                            try clear c5
                            try clear c6
                            try clear p6
                            try clear c7
                            try clear c8
                            try clear c9
                            try clear c10
                            try clear c10b0
                            try clear c11
                            try clear c11b0
                            try clear c13
                            try clear c13b0
                            try clear c13b1
                            try clear c14
                            try clear c14b0
                            try clear c14b1
                            try clear c15
                            try clear c16
                            try clear c17
                            try clear p17
                            try clear q17
                            try clear hx17
                            try clear c26
                            try clear c26b0
                            try clear c26b1
                            try clear c35
                            try clear c38
                            try clear c38b0
                            try clear c40
                            try clear c40b0
                            try clear c42
                            try clear c42b0
                            try clear c43
                            try clear c43b0
                            try clear hcz20_0
                            try clear hcz20_1
                            try clear hcz22_0
                            try clear hcz22_1
                            try clear hfz20_0
                            try clear hfz20_1
                            try clear hfz22_0
                            try clear hfz22_1
                            try clear hx1760_0
                            try clear hx1781_0
                            try clear p1
                            try clear p17
                            try clear p1760
                            try clear p1781
                            try clear p2
                            try clear p6
                            try clear q1
                            try clear q17
                            try clear q1760
                            try clear q1781
                            obtain ⟨kq, x18_38, rfl, HA, HJ38, HO_7, HO_8, HO_9, HB⟩ := hcut
                            cases kq with
                            | zero => exact absurd HA.out (by simp [chartroomlaw11_JournalKeeps.j4])
                            | succ kj38 =>
                              have H := HA.out
                              clear HA
                              simp only [chartroomlaw11_JournalKeeps.j4] at H
                              by_cases c45 : 0 ≤ t1780
                              · rw [if_pos c45] at H
                                have c45b0 := eq_true c45
                                have c45b1 : decide (0 ≤ t1780) = true := decide_eq_true c45
                                clear c45
                                by_cases c46 : t1780 ≤ (x7_2.length : Int)
                                · rw [if_pos c46] at H
                                  have c46b0 := eq_true c46
                                  have c46b1 : decide (t1780 ≤ (x7_2.length : Int)) = true := decide_eq_true c46
                                  clear c46
                                  obtain ⟨y1782, hy1782⟩ : ∃ y_ : List Int, y_ = (x7_2.take (t1780 : Int).toNat) := ⟨_, rfl⟩
                                  replace H : (if 0 ≤ x17_4 then (if x17_4 < (x8_2.length : Int) then (if x17_4 < (x9_2.length : Int) then ((journal_Get.f kj38 y1782 (rd x8_2 x17_4) ((rd_T92 x9_2 x17_4).f0) ((rd_T92 x9_2 x17_4).f1)).bind fun bt1788 => (if ((bt1788.2 == 0) != (decide (x18_38 ≤ t1780))) = true then (chartroomlaw11_JournalKeeps.j5 kj38 l0 l2 x7_2 x8_2 x9_2 t1780 x16_4 x17_4 x18_38 true) else (if bt1788.2 = 0 then (if x17_4 < (l0.length : Int) then ((chartroomkit_SameBytes.f kj38 bt1788.1 (rd_L2 l0 x17_4)).bind fun t1793 => (chartroomlaw11_JournalKeeps.j5 kj38 l0 l2 x7_2 x8_2 x9_2 t1780 x16_4 x17_4 x18_38 (!t1793))) else (none)) else (chartroomlaw11_JournalKeeps.j5 kj38 l0 l2 x7_2 x8_2 x9_2 t1780 x16_4 x17_4 x18_38 false)))) else (none)) else (none)) else (none)) = some true := by first | (rw [hy1782]; with_reducible exact H) | (have H2_ := (Option.bind_some _ _).symm.trans H; rw [hy1782]; with_reducible exact H2_) | (have H2_ := (Option.bind_some _ _).symm.trans H; with_reducible exact H2_) | with_reducible exact H | (rw [hy1782]; exact H) | exact H
                                  have Ny1782 := Aside0.mk hy1782
                                  clear hy1782
                                  by_cases c47 : 0 ≤ x17_4
                                  · rw [if_pos c47] at H
                                    have c47b0 : decide (0 ≤ x17_4) = true := decide_eq_true c47
                                    clear c47
                                    by_cases c48 : x17_4 < (x8_2.length : Int)
                                    · rw [if_pos c48] at H
                                      have c48b0 : decide (x17_4 < (x8_2.length : Int)) = true := decide_eq_true c48
                                      clear c48
                                      by_cases c49 : x17_4 < (x9_2.length : Int)
                                      · rw [if_pos c49] at H
                                        have c49b0 : decide (x17_4 < (x9_2.length : Int)) = true := decide_eq_true c49
                                        clear c49
                                        replace H := Option.bind_eq_some_iff.mp H
                                        obtain ⟨⟨t1788, t1791⟩, A500, H⟩ := H
                                        replace H : (if ((t1791 == 0) != (decide (x18_38 ≤ t1780))) = true then (chartroomlaw11_JournalKeeps.j5 kj38 l0 l2 x7_2 x8_2 x9_2 t1780 x16_4 x17_4 x18_38 true) else (if t1791 = 0 then (if x17_4 < (l0.length : Int) then ((chartroomkit_SameBytes.f kj38 t1788 (rd_L2 l0 x17_4)).bind fun t1793 => (chartroomlaw11_JournalKeeps.j5 kj38 l0 l2 x7_2 x8_2 x9_2 t1780 x16_4 x17_4 x18_38 (!t1793))) else (none)) else (chartroomlaw11_JournalKeeps.j5 kj38 l0 l2 x7_2 x8_2 x9_2 t1780 x16_4 x17_4 x18_38 false))) = some true := H
                                        have A50 := Aside0.mk A500
                                        clear A500
                                        have HC51 := Aside0.mk H
                                        clear H
                                        try go_wp2
                                        (try (rw [drewN_self wc]; generalize hq_ : World.drewN wc _ = wc; have n0_ : Aside0 (Kd.R (Kd.int .u8) 5 wc w.heap.size (fun _ => True) (.slice Ao37 x7_2.length co37) x7_2) := ⟨by rw [← hq_]; exact (by (with_reducible repeat (first | apply Kd.R_alloc | apply Kd.R_drewN | apply Kd.R_drew)); exact HO_7.out)⟩; have n1_ : Aside0 (Kd.R (Kd.int .i64) 3 wc w.heap.size (fun _ => True) u8 x8_2) := ⟨by rw [← hq_]; exact (by (with_reducible repeat (first | apply Kd.R_alloc | apply Kd.R_drewN | apply Kd.R_drew)); exact HO_8.out)⟩; have n2_ : Aside0 (Kd.R k92 92 wc w.heap.size (fun _ => True) u9 x9_2) := ⟨by rw [← hq_]; exact (by (with_reducible repeat (first | apply Kd.R_alloc | apply Kd.R_drewN | apply Kd.R_drew)); exact HO_9.out)⟩; have n3_ : Aside0 (Below w.heap.size w wc) := ⟨by rw [← hq_]; exact (by repeat (first | (with_reducible first | exact HB.out | apply below_alloc | apply pw_below_drewN | apply below_drew1) | exact HB.out))⟩; clear HO_7 HO_8 HO_9 HB hq_; have HO_7 := n0_; have HO_8 := n1_; have HO_9 := n2_; have HB := n3_; clear n0_ n1_ n2_ n3_))
                                        have n0_ := Aside0.mk (Kd.R_drew HO_7.out)
                                        have n1_ := Aside0.mk (Kd.R_drew HO_8.out)
                                        have n2_ := Aside0.mk (Kd.R_drew HO_9.out)
                                        have n3_ := Aside0.mk (below_drew1 HB.out)
                                        clear HO_7
                                        clear HO_8
                                        clear HO_9
                                        clear HB
                                        have HO_7 := n0_
                                        have HO_8 := n1_
                                        have HO_9 := n2_
                                        have HB := n3_
                                        clear n0_ n1_ n2_ n3_
                                        have q53 : (t1780 : Int) ≤ ((x7_2.length : Int) : Int) := of_decide_eq_true (by first | (with_reducible assumption) | assumption)
                                        obtain ⟨i053, hi053, _, hsz53, _⟩ := info_parts info5
                                        have hroom53 : x7_2.length ≤ co37 := (Kd.R_reads' HO_7.out).2.1
                                        have hC53 : Kd.C (Kd.int .u8) _ Ao37 x7_2.length x7_2 := (Kd.R_reads' HO_7.out).2.2
                                        have hcut53 := cut_to (P := Try.prog) 24 5 .i64 Try.underlying24 hi053 Ao37 x7_2.length co37 t1780 (of_decide_eq_true (by first | (with_reducible assumption) | assumption)) q53 hroom53
                                        have hr53 := Kd.C_take (m := (t1780 : Int).toNat) hC53 (by omega)
                                        have hy53 : y1782.length = (t1780 : Int).toNat := (by rw [Ny1782.out, List.length_take]; omega)
                                        rw [← Ny1782.out] at hr53
                                        rw [← hy53] at hcut53
                                        have HR1785 := Aside0.mk hr53
                                        have HC1785 := Aside0.mk (show y1782.length ≤ co37 from by omega)
                                        clear hr53 hC53 hroom53 hi053 hsz53
                                        have KY53 := Aside0.mk hy53
                                        clear hy53
                                        have KL53 := Aside0.mk (show (t1780 : Int).toNat ≤ x7_2.length from by omega)
                                        replace q53 := eq_true q53
                                        obtain ⟨Ao54, co54, eo54⟩ := Kd.R_slice HO_8.out
                                        (first | subst eo54 | (injection eo54 with f1_ f2_ f3_; have f4_ := f1_.symm; have f5_ := f3_.symm; clear f1_ f2_ f3_; subst f4_; subst f5_))
                                        have p1786 : 0 ≤ (x17_4 : Int) := of_decide_eq_true (by first | (with_reducible assumption) | assumption)
                                        have q1786 : x17_4 < (x8_2.length : Int) := of_decide_eq_true (by first | (with_reducible assumption) | assumption)
                                        obtain ⟨ad1786, e1786, hx1786_0⟩ := Kd.at_int (Kd.R_reads' HO_8.out).2.2 x17_4 p1786 q1786
                                        cases e1786
                                        replace p1786 := eq_true p1786
                                        replace q1786 := eq_true q1786
                                        obtain ⟨Ao55, co55, eo55⟩ := Kd.R_slice HO_9.out
                                        (first | subst eo55 | (injection eo55 with f1_ f2_ f3_; have f4_ := f1_.symm; have f5_ := f3_.symm; clear f1_ f2_ f3_; subst f4_; subst f5_))
                                        have p1787 : 0 ≤ (x17_4 : Int) := of_decide_eq_true (by first | (with_reducible assumption) | assumption)
                                        have q1787 : x17_4 < (x9_2.length : Int) := of_decide_eq_true (by first | (with_reducible assumption) | assumption)
                                        obtain ⟨ad1787, e1787, hx1787_0, hx1787_1⟩ := at_T92 (Kd.R_reads' HO_9.out).2.2 x17_4 p1787 q1787
                                        cases e1787
                                        replace p1787 := eq_true p1787
                                        replace q1787 := eq_true q1787
                                        refine start_ (n := 17) (S := fun w' => w'.cell? (ad1786.add (x17_4).toNat) = some (.int .i64 (rd x8_2 x17_4)) ∧ w'.cell? (ad1787.add ((x17_4).toNat * 2)) = some (.int .u64 ((rd_T92 x9_2 x17_4).f0)) ∧ w'.cell? ⟨(ad1787.add ((x17_4).toNat * 2)).block, (ad1787.add ((x17_4).toNat * 2)).off + 1, none⟩ = some (.int .u64 ((rd_T92 x9_2 x17_4).f1))) (ds := []) #[false, false, false, false, false, false, false, false, false, false, false, false, false, false, false, false, false] (by kernel_rfl) rfl rfl ⟨hx1786_0, hx1787_0, hx1787_1⟩ (fun hHeld => ?_); refine with_tabW chartroomlaw11_JournalKeeps.tab25 chartroomlaw11_JournalKeeps.bits25 (fun HT_ HW_ => ?_)
                                        generalize wc.drew = w52 at HO_7 HO_8 HO_9 HB HR1785 hx1786_0 hx1787_0 hx1787_1 hHeld ⊢
                                        refine pure_ (i := 0) (N := some 102) (v := ?_) (a' := ?_) #[true, false, false, false, false, false, false, false, false, false, false, false, false, false, false, false, false] rfl rfl (any_of HT_.out (by kernel_rfl)) (fun _ _ _ h => h) (Or.inl ⟨by rfl, ?_⟩) ?_ ?_
                                        rotate_left
                                        · intro w'
                                          go_simp
                                          with_reducible rfl
                                        rotate_left
                                        · simp only [Act.put, List.setIfInBounds_toArray, List.set_cons_zero, List.set_cons_succ, i64_w, i32_w]
                                          rfl
                                        refine pure_ (i := 1) (N := some 103) (v := ?_) (a' := ?_) #[true, true, false, false, false, false, false, false, false, false, false, false, false, false, false, false, false] rfl rfl (any_of HT_.out (by kernel_rfl)) (fun _ _ _ h => h) (Or.inl ⟨by rfl, ?_⟩) ?_ ?_
                                        rotate_left
                                        · intro w'
                                          go_simp
                                          with_reducible rfl
                                        rotate_left
                                        · simp only [Act.put, List.setIfInBounds_toArray, List.set_cons_zero, List.set_cons_succ, i64_w, i32_w]
                                          rfl
                                        refine pure_ (i := 2) (N := some 104) (v := ?_) (a' := ?_) #[true, true, true, false, false, false, false, false, false, false, false, false, false, false, false, false, false] rfl rfl (any_of HT_.out (by kernel_rfl)) (fun _ _ _ h => h) (Or.inl ⟨by rfl, ?_⟩) ?_ ?_
                                        rotate_left
                                        · intro w'
                                          go_simp
                                          with_reducible rfl
                                        rotate_left
                                        · simp only [Act.put, List.setIfInBounds_toArray, List.set_cons_zero, List.set_cons_succ, i64_w, i32_w]
                                          rfl
                                        refine pure_ (i := 3) (N := some 105) (v := ?_) (a' := ?_) #[true, true, true, true, false, false, false, false, false, false, false, false, false, false, false, false, false] rfl rfl (any_of HT_.out (by kernel_rfl)) (fun _ _ _ h => h) (Or.inl ⟨by rfl, ?_⟩) ?_ ?_
                                        rotate_left
                                        · intro w'
                                          go_simp
                                          with_reducible rfl
                                        rotate_left
                                        · simp only [Act.put, List.setIfInBounds_toArray, List.set_cons_zero, List.set_cons_succ, i64_w, i32_w]
                                          rfl
                                        refine pure_ (i := 4) (N := some 106) (v := ?_) (a' := ?_) #[true, true, true, true, true, false, false, false, false, false, false, false, false, false, false, false, false] rfl rfl (any_of HT_.out (by kernel_rfl)) (fun _ _ _ h => h) (Or.inl ⟨by rfl, ?_⟩) ?_ ?_
                                        rotate_left
                                        · intro w'
                                          go_simp
                                          with_reducible rfl
                                        rotate_left
                                        · simp only [Act.put, List.setIfInBounds_toArray, List.set_cons_zero, List.set_cons_succ, i64_w, i32_w]
                                          rfl
                                        refine pure_ (i := 5) (N := some 107) (v := ?_) (a' := ?_) #[true, true, true, true, true, true, false, false, false, false, false, false, false, false, false, false, false] rfl rfl (any_of HT_.out (by kernel_rfl)) (fun _ _ _ h => h) (Or.inl ⟨by rfl, ?_⟩) ?_ ?_
                                        rotate_left
                                        · intro w'
                                          go_simp
                                          with_reducible rfl
                                        rotate_left
                                        · simp only [Act.put, List.setIfInBounds_toArray, List.set_cons_zero, List.set_cons_succ, i64_w, i32_w]
                                          rfl
                                        refine pure_ (i := 7) (N := some 109) (v := ?_) (a' := ?_) #[true, true, true, true, true, true, false, true, false, false, false, false, false, false, false, false, false] rfl rfl (any_of HT_.out (by kernel_rfl)) (fun _ _ _ h => h) (Or.inl ⟨by rfl, ?_⟩) ?_ ?_
                                        rotate_left
                                        · intro w'
                                          go_simp
                                          with_reducible rfl
                                        rotate_left
                                        · simp only [Act.put, List.setIfInBounds_toArray, List.set_cons_zero, List.set_cons_succ, i64_w, i32_w]
                                          rfl
                                        refine pure_ (i := 8) (N := some 110) (v := ?_) (a' := ?_) #[true, true, true, true, true, true, false, true, true, false, false, false, false, false, false, false, false] rfl rfl (any_of HT_.out (by kernel_rfl)) (fun _ _ _ h => h) (Or.inl ⟨by rfl, ?_⟩) ?_ ?_
                                        rotate_left
                                        · intro w'
                                          go_simp
                                          with_reducible rfl
                                        rotate_left
                                        · simp only [Act.put, List.setIfInBounds_toArray, List.set_cons_zero, List.set_cons_succ, i64_w, i32_w]
                                          rfl
                                        refine pure_ (i := 9) (N := some 111) (v := ?_) (a' := ?_) #[true, true, true, true, true, true, false, true, true, true, false, false, false, false, false, false, false] rfl rfl (any_of HT_.out (by kernel_rfl)) (fun _ _ _ h => h) (Or.inl ⟨by rfl, ?_⟩) ?_ ?_
                                        rotate_left
                                        · intro w'
                                          go_simp
                                          with_reducible rfl
                                        rotate_left
                                        · simp only [Act.put, List.setIfInBounds_toArray, List.set_cons_zero, List.set_cons_succ, i64_w, i32_w]
                                          rfl
                                        refine take_ (i := 6) (N := some 108) (v := ?_) (a' := ?_) #[true, true, true, true, true, true, true, true, true, true, false, false, false, false, false, false, false] rfl rfl (take_ofW HT_.out HW_.out (by kernel_rfl)) (fun _ _ _ h => h) (Or.inl ⟨by rfl, ?_⟩) hHeld ?_ ?_
                                        rotate_left
                                        · rintro w' ⟨s0, s1, s2⟩
                                          go_simp
                                          with_reducible rfl
                                        rotate_left
                                        · simp only [Act.put, List.setIfInBounds_toArray, List.set_cons_zero, List.set_cons_succ, i64_w, i32_w]
                                          rfl
                                        refine take_ (i := 10) (N := some 112) (v := ?_) (a' := ?_) #[true, true, true, true, true, true, true, true, true, true, true, false, false, false, false, false, false] rfl rfl (take_ofW HT_.out HW_.out (by kernel_rfl)) (fun _ _ _ h => h) (Or.inl ⟨by rfl, ?_⟩) hHeld ?_ ?_
                                        rotate_left
                                        · rintro w' ⟨s0, s1, s2⟩
                                          go_simp
                                          with_reducible rfl
                                        rotate_left
                                        · simp only [Act.put, List.setIfInBounds_toArray, List.set_cons_zero, List.set_cons_succ, i64_w, i32_w]
                                          rfl
                                        refine one_ (i := 11) (N := some 113) #[true, true, true, true, true, true, true, true, true, true, true, true, false, false, false, false, false] rfl rfl (one_of HT_.out (by kernel_rfl)) (by decide) (fun K hK => ?_)
                                        refine goes_ Try.func99 (by kernel_rfl) rfl #[.slice Ao37 y1782.length co37, .int .i64 (rd x8_2 x17_4), .agg #[.int .u64 ((rd_T92 x9_2 x17_4).f0), .int .u64 ((rd_T92 x9_2 x17_4).f1)]] (by rfl) rfl rfl (by (try simp only [List.map_toArray, List.map_cons, List.map_nil]); first | done | rfl | (simp only [List.length_drop, List.length_take]; rfl)) ?_
                                        with_reducible refine (journal_Get.calls kj38 _ _ y1782 (rd x8_2 x17_4) ((rd_T92 x9_2 x17_4).f0) ((rd_T92 x9_2 x17_4).f1) t1788 t1791 _ ?side1 ?side2 A50.out).mono ?_
                                        (case side1 => repeat (first | exact (by repeat (first | (with_reducible exact HR1785.out) | (with_reducible refine Kd.C_alloc ?_ _) | (with_reducible refine Kd.C_drewN ?_ _) | (with_reducible refine Kd.C_drew ?_) | exact HR1785.out)) | (with_reducible refine Kd.C_alloc ?_ _) | (with_reducible refine Kd.C_drewN ?_ _) | (with_reducible refine Kd.C_drew ?_)))
                                        (case side2 => exact HC1785.out)
                                        rintro e w56 ⟨v1789, rfl, ho0, hb⟩
                                        have HS0_ := (hb.cell (World.block_lt_of_cell? _ _ (hHeld.1))).trans (hHeld.1)
                                        have HS1_ := (hb.cell (World.block_lt_of_cell? _ _ (hHeld.2.1))).trans (hHeld.2.1)
                                        have HS2_ := (hb.cell (World.block_lt_of_cell? _ _ (hHeld.2.2))).trans (hHeld.2.2)
                                        refine ⟨_, rfl, ?_⟩
                                        have n0_ := Aside0.mk (Kd.R_elder' (by (with_reducible repeat (first | apply Kd.R_alloc | apply Kd.R_drewN | apply Kd.R_drew)); exact HO_7.out) (Kd.R_base ho0) hb)
                                        have n1_ := Aside0.mk (Kd.R_below (by (with_reducible repeat (first | apply Kd.R_alloc | apply Kd.R_drewN | apply Kd.R_drew)); exact HO_8.out) hb)
                                        have n2_ := Aside0.mk (Kd.R_below (by (with_reducible repeat (first | apply Kd.R_alloc | apply Kd.R_drewN | apply Kd.R_drew)); exact HO_9.out) hb)
                                        have n3_ := Aside0.mk (Kd.R_lower (Kd.R_new' ho0 (Kd.R_lt (by (with_reducible repeat (first | apply Kd.R_alloc | apply Kd.R_drewN | apply Kd.R_drew)); exact HO_7.out))) (below_size (by repeat (first | (with_reducible first | exact HB.out | apply below_alloc | apply pw_below_drewN | apply below_drew1) | exact HB.out))))
                                        have n4_ := Aside0.mk (Kd.C_below (by repeat (first | (with_reducible exact HR1785.out) | (with_reducible refine Kd.C_alloc ?_ _) | (with_reducible refine Kd.C_drewN ?_ _) | (with_reducible refine Kd.C_drew ?_) | exact HR1785.out)) hb)
                                        have n5_ := Aside0.mk (below_step (by repeat (first | (with_reducible first | exact HB.out | apply below_alloc | apply pw_below_drewN | apply below_drew1) | exact HB.out)) hb)
                                        clear HO_7
                                        clear HO_8
                                        clear HO_9
                                        clear HR1785
                                        clear HB
                                        have HO_7 := n0_
                                        have HO_8 := n1_
                                        have HO_9 := n2_
                                        have HO1790 := n3_
                                        have HR1785 := n4_
                                        have HB := n5_
                                        clear n0_ n1_ n2_ n3_ n4_ n5_
                                        (try clear hb)
                                        (try clear hb2)
                                        (try clear hk)
                                        (try clear hi)
                                        (try clear ho0)
                                        refine hK.out _ _ ⟨HS0_, HS1_, HS2_⟩ (fun hHeld => ?_)
                                        clear hK K
                                        refine norm_ (a' := ?_) ?_ ?_
                                        rotate_left
                                        · show Act.put _ (some 113) _ = _
                                          simp only [Act.put, List.setIfInBounds_toArray, List.set_cons_zero, List.set_cons_succ, i64_w, i32_w]
                                          rfl
                                        refine pure_ (i := 12) (N := some 101) (v := ?_) (a' := ?_) #[true, true, true, true, true, true, true, true, true, true, true, true, true, false, false, false, false] rfl rfl (any_of HT_.out (by kernel_rfl)) (fun _ _ _ h => h) (Or.inl ⟨by rfl, ?_⟩) ?_ ?_
                                        rotate_left
                                        · intro w'
                                          go_simp
                                          with_reducible rfl
                                        rotate_left
                                        · simp only [Act.put, List.setIfInBounds_toArray, List.set_cons_zero, List.set_cons_succ, i64_w, i32_w]
                                          rfl
                                        refine pure_ (i := 13) (N := some 114) (v := ?_) (a' := ?_) #[true, true, true, true, true, true, true, true, true, true, true, true, true, true, false, false, false] rfl rfl (any_of HT_.out (by kernel_rfl)) (fun _ _ _ h => h) (Or.inl ⟨by rfl, ?_⟩) ?_ ?_
                                        rotate_left
                                        · intro w'
                                          go_simp
                                          with_reducible rfl
                                        rotate_left
                                        · simp only [Act.put, List.setIfInBounds_toArray, List.set_cons_zero, List.set_cons_succ, i64_w, i32_w]
                                          rfl
                                        refine pure_ (i := 14) (N := some 115) (v := ?_) (a' := ?_) #[true, true, true, true, true, true, true, true, true, true, true, true, true, true, true, false, false] rfl rfl (any_of HT_.out (by kernel_rfl)) (fun _ _ _ h => h) (Or.inl ⟨by rfl, ?_⟩) ?_ ?_
                                        rotate_left
                                        · intro w'
                                          go_simp
                                          with_reducible rfl
                                        rotate_left
                                        · simp only [Act.put, List.setIfInBounds_toArray, List.set_cons_zero, List.set_cons_succ, i64_w, i32_w]
                                          rfl
                                        refine pure_ (i := 15) (N := some 19) (v := ?_) (a' := ?_) #[true, true, true, true, true, true, true, true, true, true, true, true, true, true, true, true, false] rfl rfl (any_of HT_.out (by kernel_rfl)) (fun _ _ _ h => h) (Or.inl ⟨by rfl, ?_⟩) ?_ ?_
                                        rotate_left
                                        · intro w'
                                          go_simp
                                          with_reducible rfl
                                        rotate_left
                                        · simp only [Act.put, List.setIfInBounds_toArray, List.set_cons_zero, List.set_cons_succ, i64_w, i32_w]
                                          rfl
                                        refine pure_ (i := 16) (N := some 20) (v := ?_) (a' := ?_) #[true, true, true, true, true, true, true, true, true, true, true, true, true, true, true, true, true] rfl rfl (any_of HT_.out (by kernel_rfl)) (fun _ _ _ h => h) (Or.inl ⟨by rfl, ?_⟩) ?_ ?_
                                        rotate_left
                                        · intro w'
                                          go_simp
                                          with_reducible rfl
                                        rotate_left
                                        · simp only [Act.put, List.setIfInBounds_toArray, List.set_cons_zero, List.set_cons_succ, i64_w, i32_w]
                                          rfl
                                        refine done_ (done_of HT_.out (by kernel_rfl)) ?_
                                        go_upto_region 26 with (fail)
                                        go_cut [134] (fun v134 wc => ∃ (kq : Nat) (x134_50 : Bool), v134 = .bool x134_50 ∧ Aside0 (chartroomlaw11_JournalKeeps.j5 kq l0 l2 x7_2 x8_2 x9_2 t1780 x16_4 x17_4 x18_38 x134_50 = some true) ∧ Aside0 (kq ≤ kj38) ∧ Aside0 (Kd.R (Kd.int .u8) 5 wc w.heap.size (fun _ => True) (.slice Ao37 x7_2.length co37) x7_2) ∧ Aside0 (Kd.R (Kd.int .i64) 3 wc w.heap.size (fun _ => True) (.slice (some ad1786) x8_2.length co54) x8_2) ∧ Aside0 (Kd.R k92 92 wc w.heap.size (fun _ => True) (.slice (some ad1787) x9_2.length co55) x9_2) ∧ Aside0 (Kd.C (Kd.int .u8) wc Ao37 y1782.length y1782) ∧ Aside0 (Below w.heap.size w wc))
                                        case first =>
                                          have H := HC51.out
                                          clear HC51
                                          by_cases c57 : ((t1791 == 0) != (decide (x18_38 ≤ t1780))) = true
                                          · rw [if_pos c57] at H
                                            have c57b0 : ((t1791 == 0) != (decide (x18_38 ≤ t1780))) = true := c57
                                            (try (have c57b1 : decide ((t1791 == 0) = (decide (x18_38 ≤ t1780))) = false := by simpa using c57))
                                            (try (have c57b2 : ((t1791 == 0) == (decide (x18_38 ≤ t1780))) = false := by simpa using c57))
                                            (try (have c57b3 : ¬ ((t1791 == 0) = (decide (x18_38 ≤ t1780))) := by simpa using c57))
                                            clear c57
                                            (first | rw [c57b0] | (simp only [i64_w, i32_w]; rw [c57b0]) | skip)
                                            have H' := Aside0.mk H
                                            clear H
                                            go_wp2
                                            go_meet
                                            case rel => exact ⟨_, (true), (by first | rfl | (simp; done) | (simp [*]; done)), H', ⟨by have := HJ3.out; have := HK2.out; have := HJ23.out; have := HK4.out; have := HJ38.out; first | omega | exact Nat.le_refl _⟩, ⟨by (with_reducible repeat (first | apply Kd.R_alloc | apply Kd.R_drewN | apply Kd.R_drew)); exact Kd.R_mono HO_7.out (fun _ hk => trivial)⟩, ⟨by (with_reducible repeat (first | apply Kd.R_alloc | apply Kd.R_drewN | apply Kd.R_drew)); exact HO_8.out⟩, ⟨by (with_reducible repeat (first | apply Kd.R_alloc | apply Kd.R_drewN | apply Kd.R_drew)); exact HO_9.out⟩, ⟨by repeat (first | (with_reducible exact HR1785.out) | (with_reducible refine Kd.C_alloc ?_ _) | (with_reducible refine Kd.C_drewN ?_ _) | (with_reducible refine Kd.C_drew ?_) | exact HR1785.out)⟩, ⟨by repeat (first | (with_reducible first | exact HB.out | apply below_alloc | apply pw_below_drewN | apply below_drew1) | exact HB.out)⟩⟩
                                          · rw [if_neg c57] at H
                                            have c57b0 : ((t1791 == 0) != (decide (x18_38 ≤ t1780))) = false := by simpa using c57
                                            (try (have c57b1 : decide ((t1791 == 0) = (decide (x18_38 ≤ t1780))) = true := by simpa using c57))
                                            (try (have c57b2 : ((t1791 == 0) == (decide (x18_38 ≤ t1780))) = true := by simpa using c57))
                                            clear c57
                                            (first | rw [c57b0] | (simp only [i64_w, i32_w]; rw [c57b0]) | skip)
                                            by_cases c58 : t1791 = 0
                                            · rw [if_pos c58] at H
                                              have c58b0 : (t1791 == 0) = true := beq_iff_eq.mpr c58
                                              have c58b1 : (t1791 != 0) = false := bne_eq_false_iff_eq.mpr c58
                                              have cz0 : decide (x18_38 ≤ t1780) = true := by rw [c58b0] at c57b0; simpa using c57b0
                                              clear c58
                                              by_cases c59 : x17_4 < (l0.length : Int)
                                              · rw [if_pos c59] at H
                                                have c59b0 : decide (x17_4 < (l0.length : Int)) = true := decide_eq_true c59
                                                clear c59
                                                replace H := Option.bind_eq_some_iff.mp H
                                                obtain ⟨t1793, A600, H⟩ := H
                                                replace H : (chartroomlaw11_JournalKeeps.j5 kj38 l0 l2 x7_2 x8_2 x9_2 t1780 x16_4 x17_4 x18_38 (!t1793)) = some true := H
                                                have A60 := Aside0.mk A600
                                                clear A600
                                                have H' := Aside0.mk H
                                                clear H
                                                have p1792 : 0 ≤ (x17_4 : Int) := of_decide_eq_true (by first | (with_reducible assumption) | assumption)
                                                have q1792 : x17_4 < (l0.length : Int) := of_decide_eq_true (by first | (with_reducible assumption) | assumption)
                                                obtain ⟨ad1792, A1792_0, c1792_0, e1792, hx1792_0, hl1792_0, hi1792_0⟩ := at_L2 HR0.out x17_4 p1792 q1792
                                                cases e1792
                                                replace hx1792_0 := (HB.out.cell (World.block_lt_of_cell? w _ hx1792_0)).trans hx1792_0
                                                have HR1792_0 := Aside0.mk hi1792_0
                                                have HC1792_0 := Aside0.mk hl1792_0
                                                clear hi1792_0 hl1792_0
                                                replace p1792 := eq_true p1792
                                                replace q1792 := eq_true q1792
                                                obtain ⟨Ao61, co61, eo61⟩ := Kd.R_slice HO1790.out
                                                subst eo61
                                                go_wp2_with (first | (go_at_call 32; refine calls_of_args (args' := #[.slice Ao61 t1788.length co61, .slice A1792_0 (rd_L2 l0 x17_4).length c1792_0]) (by rfl) ?_; (with_reducible refine (chartroomkit_SameBytes.calls kj38 _ _ t1788 _ _ (rd_L2 l0 x17_4) t1793 _ ?side1 ?side2 ?side3 ?side4 A60.out).mono ?_); (case side1 => repeat (first | exact (Kd.R_reads' HO1790.out).2.2 | (with_reducible refine Kd.C_alloc ?_ _) | (with_reducible refine Kd.C_drewN ?_ _) | (with_reducible refine Kd.C_drew ?_))); (case side2 => exact (Kd.R_reads' HO1790.out).2.1); (case side3 => repeat (first | exact (Kd.C_below HR1792_0.out HB.out) | (with_reducible refine Kd.C_alloc ?_ _) | (with_reducible refine Kd.C_drewN ?_ _) | (with_reducible refine Kd.C_drew ?_))); (case side4 => exact HC1792_0.out); rintro e w' ⟨rfl, ⟨nd, rfl⟩⟩))
                                                go_meet
                                                case rel => exact ⟨_, (!t1793), (by first | rfl | (simp; done) | (simp [*]; done)), H', ⟨by have := HJ3.out; have := HK2.out; have := HJ23.out; have := HK4.out; have := HJ38.out; first | omega | exact Nat.le_refl _⟩, ⟨by (with_reducible repeat (first | apply Kd.R_alloc | apply Kd.R_drewN | apply Kd.R_drew)); exact Kd.R_mono HO_7.out (fun _ hk => trivial)⟩, ⟨by (with_reducible repeat (first | apply Kd.R_alloc | apply Kd.R_drewN | apply Kd.R_drew)); exact HO_8.out⟩, ⟨by (with_reducible repeat (first | apply Kd.R_alloc | apply Kd.R_drewN | apply Kd.R_drew)); exact HO_9.out⟩, ⟨by repeat (first | (with_reducible exact HR1785.out) | (with_reducible refine Kd.C_alloc ?_ _) | (with_reducible refine Kd.C_drewN ?_ _) | (with_reducible refine Kd.C_drew ?_) | exact HR1785.out)⟩, ⟨by repeat (first | (with_reducible first | exact HB.out | apply below_alloc | apply pw_below_drewN | apply below_drew1) | exact HB.out)⟩⟩
                                              · rw [if_neg c59] at H
                                                exact absurd H (by simp)
                                            · rw [if_neg c58] at H
                                              have c58b0 : (t1791 == 0) = false := beq_eq_false_iff_ne.mpr c58
                                              have c58b1 : (t1791 != 0) = true := bne_iff_ne.mpr c58
                                              have cz0 : decide (x18_38 ≤ t1780) = false := by rw [c58b0] at c57b0; simpa using c57b0
                                              have H' := Aside0.mk H
                                              clear H
                                              go_wp2
                                              go_meet
                                              case rel => exact ⟨_, (false), (by first | rfl | (simp; done) | (simp [*]; done)), H', ⟨by have := HJ3.out; have := HK2.out; have := HJ23.out; have := HK4.out; have := HJ38.out; first | omega | exact Nat.le_refl _⟩, ⟨by (with_reducible repeat (first | apply Kd.R_alloc | apply Kd.R_drewN | apply Kd.R_drew)); exact Kd.R_mono HO_7.out (fun _ hk => trivial)⟩, ⟨by (with_reducible repeat (first | apply Kd.R_alloc | apply Kd.R_drewN | apply Kd.R_drew)); exact HO_8.out⟩, ⟨by (with_reducible repeat (first | apply Kd.R_alloc | apply Kd.R_drewN | apply Kd.R_drew)); exact HO_9.out⟩, ⟨by repeat (first | (with_reducible exact HR1785.out) | (with_reducible refine Kd.C_alloc ?_ _) | (with_reducible refine Kd.C_drewN ?_ _) | (with_reducible refine Kd.C_drew ?_) | exact HR1785.out)⟩, ⟨by repeat (first | (with_reducible first | exact HB.out | apply below_alloc | apply pw_below_drewN | apply below_drew1) | exact HB.out)⟩⟩
                                        case rest =>
                                          clear HC51
                                          try clear c1
                                          try clear p1
                                          try clear q1
                                          try clear hx1
                                          try clear c2
                                          try clear p2
                                          try clear c3
                                          try clear c4
                                          try clear c5
                                          try clear q5
                                          try clear c6
                                          try clear p6
                                          try clear c7
                                          try clear c8
                                          try clear c9
                                          try clear c10
                                          try clear c10b0
                                          try clear c11
                                          try clear c11b0
                                          try clear c13
                                          try clear c13b0
                                          try clear c13b1
                                          try clear c14
                                          try clear c14b0
                                          try clear c14b1
                                          try clear c15
                                          try clear c16
                                          try clear c17
                                          try clear p17
                                          try clear q17
                                          try clear hx17
                                          try clear c26
                                          try clear c26b0
                                          try clear c26b1
                                          try clear c35
                                          try clear c38
                                          try clear c38b0
                                          try clear c40
                                          try clear c40b0
                                          try clear c42
                                          try clear c42b0
                                          try clear c43
                                          try clear c43b0
                                          try clear c45
                                          try clear c45b0
                                          try clear c45b1
                                          try clear c46
                                          try clear c46b0
                                          try clear c46b1
                                          try clear c47
                                          try clear c47b0
                                          try clear c48
                                          try clear c48b0
                                          try clear c49
                                          try clear c49b0
                                          try clear q53
                                          try clear c57
                                          try clear c57b0
                                          try clear c57b1
                                          try clear c57b2
                                          try clear c58
                                          try clear c58b0
                                          try clear c58b1
                                          try clear c59
                                          try clear c59b0
                                          try clear hcz20_0
                                          try clear hcz20_1
                                          try clear hcz22_0
                                          try clear hcz22_1
                                          try clear hfz20_0
                                          try clear hfz20_1
                                          try clear hfz22_0
                                          try clear hfz22_1
                                          try clear hx1760_0
                                          try clear hx1781_0
                                          try clear hx1786_0
                                          try clear hx1787_0
                                          try clear hx1787_1
                                          try clear hx1792_0
                                          try clear p1
                                          try clear p17
                                          try clear p1760
                                          try clear p1781
                                          try clear p1786
                                          try clear p1787
                                          try clear p1792
                                          try clear p2
                                          try clear p6
                                          try clear q1
                                          try clear q17
                                          try clear q1760
                                          try clear q1781
                                          try clear q1786
                                          try clear q1787
                                          try clear q1792
                                          try clear q53
                                          obtain ⟨kq, x134_50, rfl, HA, HJ50, HO_7, HO_8, HO_9, HR1785, HB⟩ := hcut
                                          cases kq with
                                          | zero => exact absurd HA.out (by simp [chartroomlaw11_JournalKeeps.j5])
                                          | succ kj50 =>
                                            have H := HA.out
                                            clear HA
                                            simp only [chartroomlaw11_JournalKeeps.j5] at H
                                            by_cases c62 : x134_50 = true
                                            · subst c62
                                              have H1 : (some false) = some true := by rw [if_pos rfl] at H; exact H
                                              clear H
                                              have H := H1
                                              clear H1
                                              exact absurd H (by simp)
                                            · replace c62 := Bool.eq_false_iff.mpr c62
                                              subst c62
                                              have H1 : (if x18_38 ≤ t1780 then (chartroomlaw11_JournalKeeps.l1 kj50 l0 l2 x7_2 x8_2 x9_2 t1780 (wrap64 (x16_4 + 1)) (wrap64 (x17_4 + 1))) else (chartroomlaw11_JournalKeeps.l1 kj50 l0 l2 x7_2 x8_2 x9_2 t1780 x16_4 (wrap64 (x17_4 + 1)))) = some true := by rw [if_neg (show ¬ (false = true) by decide)] at H; exact H
                                              clear H
                                              have H := H1
                                              clear H1
                                              by_cases c63 : x18_38 ≤ t1780
                                              · rw [if_pos c63] at H
                                                have c63b0 : decide (x18_38 ≤ t1780) = true := decide_eq_true c63
                                                clear c63
                                                have H' := Aside0.mk H
                                                clear H
                                                go_wp2
                                                go_roundg kj50
                                                case measure => have := HJ3.out; have := HK2.out; have := HJ23.out; have := HK4.out; have := HJ38.out; have := HJ50.out; omega
                                                case rel => exact ⟨(wrap64 (x16_4 + 1)), (wrap64 (x17_4 + 1)), (by first | rfl | (simp; done) | (simp [*]; done)), (by first | rfl | (simp; done) | (simp [*]; done)), H', ⟨by have := HJ3.out; have := HK2.out; have := HJ23.out; have := HK4.out; have := HJ38.out; have := HJ50.out; omega⟩, ⟨by (with_reducible repeat (first | apply Kd.R_alloc | apply Kd.R_drewN | apply Kd.R_drew)); exact HO_7.out⟩, ⟨by (with_reducible repeat (first | apply Kd.R_alloc | apply Kd.R_drewN | apply Kd.R_drew)); exact HO_8.out⟩, ⟨by (with_reducible repeat (first | apply Kd.R_alloc | apply Kd.R_drewN | apply Kd.R_drew)); exact HO_9.out⟩, ⟨by repeat (first | (with_reducible first | exact HB.out | apply below_alloc | apply pw_below_drewN | apply below_drew1) | exact HB.out)⟩⟩
                                              · rw [if_neg c63] at H
                                                have c63b0 : decide (x18_38 ≤ t1780) = false := decide_eq_false c63
                                                clear c63
                                                have H' := Aside0.mk H
                                                clear H
                                                go_wp2
                                                go_roundg kj50
                                                case measure => have := HJ3.out; have := HK2.out; have := HJ23.out; have := HK4.out; have := HJ38.out; have := HJ50.out; omega
                                                case rel => exact ⟨(x16_4), (wrap64 (x17_4 + 1)), (by first | rfl | (simp; done) | (simp [*]; done)), (by first | rfl | (simp; done) | (simp [*]; done)), H', ⟨by have := HJ3.out; have := HK2.out; have := HJ23.out; have := HK4.out; have := HJ38.out; have := HJ50.out; omega⟩, ⟨by (with_reducible repeat (first | apply Kd.R_alloc | apply Kd.R_drewN | apply Kd.R_drew)); exact HO_7.out⟩, ⟨by (with_reducible repeat (first | apply Kd.R_alloc | apply Kd.R_drewN | apply Kd.R_drew)); exact HO_8.out⟩, ⟨by (with_reducible repeat (first | apply Kd.R_alloc | apply Kd.R_drewN | apply Kd.R_drew)); exact HO_9.out⟩, ⟨by repeat (first | (with_reducible first | exact HB.out | apply below_alloc | apply pw_below_drewN | apply below_drew1) | exact HB.out)⟩⟩
                                      · rw [if_neg c49] at H
                                        exact absurd H (by simp)
                                    · rw [if_neg c48] at H
                                      exact absurd H (by simp)
                                  · rw [if_neg c47] at H
                                    exact absurd H (by simp)
                                · rw [if_neg c46] at H
                                  exact absurd H (by simp)
                              · rw [if_neg c45] at H
                                exact absurd H (by simp)
                        · rw [if_neg c38] at H
                          have c38b0 : decide (x17_4 < (l0.length : Int)) = false := decide_eq_false c38
                          clear c38
                          by_cases c64 : 0 ≤ t1780
                          · rw [if_pos c64] at H
                            have c64b0 := eq_true c64
                            have c64b1 : decide (0 ≤ t1780) = true := decide_eq_true c64
                            clear c64
                            by_cases c65 : t1780 ≤ (x7_2.length : Int)
                            · rw [if_pos c65] at H
                              have c65b0 := eq_true c65
                              have c65b1 : decide (t1780 ≤ (x7_2.length : Int)) = true := decide_eq_true c65
                              clear c65
                              obtain ⟨y1794, hy1794⟩ : ∃ y_ : List Int, y_ = (x7_2.take (t1780 : Int).toNat) := ⟨_, rfl⟩
                              replace H : ((journal_Cut.f y1794).bind fun t1798 => ((chartroomkit_Own.f x7_2).bind fun t1801 => (if t1801.length + l2.length < 140737488355328 then ((journal_All.f (x7_2.take (t1780 : Int).toNat)).bind fun t1811 => (if 0 ≤ x16_4 then (if x16_4 ≤ (l0.length : Int) then ((chartroomlaw11_rows.f k4 t1811 (l0.take (x16_4 : Int).toNat)).bind fun t1818 => (if t1818 = true then ((journal_Whole.f t1798).bind fun t1819 => (if t1819 = (t1798.length : Int) then ((journal_Whole.f (t1801 ++ l2)).bind fun t1820 => (if t1820 ≥ (x7_2.length : Int) then ((chartroomlaw11_works.f k4).bind fun t1821 => (some t1821)) else (some false))) else (some false))) else (some false))) else (none)) else (none))) else (none)))) = some true := by first | (rw [hy1794]; with_reducible exact H) | (have H2_ := (Option.bind_some _ _).symm.trans H; rw [hy1794]; with_reducible exact H2_) | (have H2_ := (Option.bind_some _ _).symm.trans H; with_reducible exact H2_) | with_reducible exact H | (rw [hy1794]; exact H) | exact H
                              have Ny1794 := Aside0.mk hy1794
                              clear hy1794
                              replace H := Option.bind_eq_some_iff.mp H
                              obtain ⟨t1798, A660, H⟩ := H
                              replace H : ((chartroomkit_Own.f x7_2).bind fun t1801 => (if t1801.length + l2.length < 140737488355328 then ((journal_All.f (x7_2.take (t1780 : Int).toNat)).bind fun t1811 => (if 0 ≤ x16_4 then (if x16_4 ≤ (l0.length : Int) then ((chartroomlaw11_rows.f k4 t1811 (l0.take (x16_4 : Int).toNat)).bind fun t1818 => (if t1818 = true then ((journal_Whole.f t1798).bind fun t1819 => (if t1819 = (t1798.length : Int) then ((journal_Whole.f (t1801 ++ l2)).bind fun t1820 => (if t1820 ≥ (x7_2.length : Int) then ((chartroomlaw11_works.f k4).bind fun t1821 => (some t1821)) else (some false))) else (some false))) else (some false))) else (none)) else (none))) else (none))) = some true := H
                              have A66 := Aside0.mk A660
                              clear A660
                              replace H := Option.bind_eq_some_iff.mp H
                              obtain ⟨t1801, A670, H⟩ := H
                              replace H : (if t1801.length + l2.length < 140737488355328 then ((journal_All.f (x7_2.take (t1780 : Int).toNat)).bind fun t1811 => (if 0 ≤ x16_4 then (if x16_4 ≤ (l0.length : Int) then ((chartroomlaw11_rows.f k4 t1811 (l0.take (x16_4 : Int).toNat)).bind fun t1818 => (if t1818 = true then ((journal_Whole.f t1798).bind fun t1819 => (if t1819 = (t1798.length : Int) then ((journal_Whole.f (t1801 ++ l2)).bind fun t1820 => (if t1820 ≥ (x7_2.length : Int) then ((chartroomlaw11_works.f k4).bind fun t1821 => (some t1821)) else (some false))) else (some false))) else (some false))) else (none)) else (none))) else (none)) = some true := H
                              have A67 := Aside0.mk A670
                              clear A670
                              by_cases c68 : t1801.length + l2.length < 140737488355328
                              · rw [if_pos c68] at H
                                have LMc68 := Aside0.mk c68
                                clear c68
                                obtain ⟨y1804, hy1804⟩ : ∃ y_ : List Int, y_ = (t1801 ++ l2) := ⟨_, rfl⟩
                                replace H : ((journal_All.f (x7_2.take (t1780 : Int).toNat)).bind fun t1811 => (if 0 ≤ x16_4 then (if x16_4 ≤ (l0.length : Int) then ((chartroomlaw11_rows.f k4 t1811 (l0.take (x16_4 : Int).toNat)).bind fun t1818 => (if t1818 = true then ((journal_Whole.f t1798).bind fun t1819 => (if t1819 = (t1798.length : Int) then ((journal_Whole.f y1804).bind fun t1820 => (if t1820 ≥ (x7_2.length : Int) then ((chartroomlaw11_works.f k4).bind fun t1821 => (some t1821)) else (some false))) else (some false))) else (some false))) else (none)) else (none))) = some true := by first | (rw [hy1804]; with_reducible exact H) | (have H2_ := (Option.bind_some _ _).symm.trans H; rw [hy1804]; with_reducible exact H2_) | (have H2_ := (Option.bind_some _ _).symm.trans H; with_reducible exact H2_) | with_reducible exact H | (rw [hy1804]; exact H) | exact H
                                have Ny1804 := Aside0.mk hy1804
                                clear hy1804
                                have c69b0 := eq_true (of_decide_eq_true (by first | (with_reducible assumption) | assumption) : 0 ≤ t1780)
                                have c70b0 := eq_true (of_decide_eq_true (by first | (with_reducible assumption) | assumption) : t1780 ≤ (x7_2.length : Int))
                                obtain ⟨y1807, hy1807⟩ : ∃ y_ : List Int, y_ = (x7_2.take (t1780 : Int).toNat) := ⟨_, rfl⟩
                                replace H : ((journal_All.f y1807).bind fun t1811 => (if 0 ≤ x16_4 then (if x16_4 ≤ (l0.length : Int) then ((chartroomlaw11_rows.f k4 t1811 (l0.take (x16_4 : Int).toNat)).bind fun t1818 => (if t1818 = true then ((journal_Whole.f t1798).bind fun t1819 => (if t1819 = (t1798.length : Int) then ((journal_Whole.f y1804).bind fun t1820 => (if t1820 ≥ (x7_2.length : Int) then ((chartroomlaw11_works.f k4).bind fun t1821 => (some t1821)) else (some false))) else (some false))) else (some false))) else (none)) else (none))) = some true := by first | (rw [hy1807]; with_reducible exact H) | (have H2_ := (Option.bind_some _ _).symm.trans H; rw [hy1807]; with_reducible exact H2_) | (have H2_ := (Option.bind_some _ _).symm.trans H; with_reducible exact H2_) | with_reducible exact H | (rw [hy1807]; exact H) | exact H
                                have Ny1807 := Aside0.mk hy1807
                                clear hy1807
                                replace H := Option.bind_eq_some_iff.mp H
                                obtain ⟨t1811, A710, H⟩ := H
                                replace H : (if 0 ≤ x16_4 then (if x16_4 ≤ (l0.length : Int) then ((chartroomlaw11_rows.f k4 t1811 (l0.take (x16_4 : Int).toNat)).bind fun t1818 => (if t1818 = true then ((journal_Whole.f t1798).bind fun t1819 => (if t1819 = (t1798.length : Int) then ((journal_Whole.f y1804).bind fun t1820 => (if t1820 ≥ (x7_2.length : Int) then ((chartroomlaw11_works.f k4).bind fun t1821 => (some t1821)) else (some false))) else (some false))) else (some false))) else (none)) else (none)) = some true := H
                                have A71 := Aside0.mk A710
                                clear A710
                                by_cases c72 : 0 ≤ x16_4
                                · rw [if_pos c72] at H
                                  have c72b0 := eq_true c72
                                  have c72b1 : decide (0 ≤ x16_4) = true := decide_eq_true c72
                                  clear c72
                                  by_cases c73 : x16_4 ≤ (l0.length : Int)
                                  · rw [if_pos c73] at H
                                    have c73b0 := eq_true c73
                                    have c73b1 : decide (x16_4 ≤ (l0.length : Int)) = true := decide_eq_true c73
                                    clear c73
                                    obtain ⟨y1814, hy1814⟩ : ∃ y_ : List (List Int), y_ = (l0.take (x16_4 : Int).toNat) := ⟨_, rfl⟩
                                    replace H : ((chartroomlaw11_rows.f k4 t1811 y1814).bind fun t1818 => (if t1818 = true then ((journal_Whole.f t1798).bind fun t1819 => (if t1819 = (t1798.length : Int) then ((journal_Whole.f y1804).bind fun t1820 => (if t1820 ≥ (x7_2.length : Int) then ((chartroomlaw11_works.f k4).bind fun t1821 => (some t1821)) else (some false))) else (some false))) else (some false))) = some true := by first | (rw [hy1814]; with_reducible exact H) | (have H2_ := (Option.bind_some _ _).symm.trans H; rw [hy1814]; with_reducible exact H2_) | (have H2_ := (Option.bind_some _ _).symm.trans H; with_reducible exact H2_) | with_reducible exact H | (rw [hy1814]; exact H) | exact H
                                    have Ny1814 := Aside0.mk hy1814
                                    clear hy1814
                                    replace H := Option.bind_eq_some_iff.mp H
                                    obtain ⟨t1818, A740, H⟩ := H
                                    replace H : (if t1818 = true then ((journal_Whole.f t1798).bind fun t1819 => (if t1819 = (t1798.length : Int) then ((journal_Whole.f y1804).bind fun t1820 => (if t1820 ≥ (x7_2.length : Int) then ((chartroomlaw11_works.f k4).bind fun t1821 => (some t1821)) else (some false))) else (some false))) else (some false)) = some true := H
                                    have A74 := Aside0.mk A740
                                    clear A740
                                    by_cases c75 : t1818 = true
                                    · subst c75
                                      have H1 : ((journal_Whole.f t1798).bind fun t1819 => (if t1819 = (t1798.length : Int) then ((journal_Whole.f y1804).bind fun t1820 => (if t1820 ≥ (x7_2.length : Int) then ((chartroomlaw11_works.f k4).bind fun t1821 => (some t1821)) else (some false))) else (some false))) = some true := by rw [if_pos rfl] at H; exact H
                                      clear H
                                      have H := H1
                                      clear H1
                                      replace H := Option.bind_eq_some_iff.mp H
                                      obtain ⟨t1819, A760, H⟩ := H
                                      replace H : (if t1819 = (t1798.length : Int) then ((journal_Whole.f y1804).bind fun t1820 => (if t1820 ≥ (x7_2.length : Int) then ((chartroomlaw11_works.f k4).bind fun t1821 => (some t1821)) else (some false))) else (some false)) = some true := H
                                      have A76 := Aside0.mk A760
                                      clear A760
                                      by_cases c77 : t1819 = (t1798.length : Int)
                                      · rw [if_pos c77] at H
                                        have c77b0 : (t1819 == (t1798.length : Int)) = true := beq_iff_eq.mpr c77
                                        have c77b1 : (t1819 != (t1798.length : Int)) = false := bne_eq_false_iff_eq.mpr c77
                                        clear c77
                                        replace H := Option.bind_eq_some_iff.mp H
                                        obtain ⟨t1820, A780, H⟩ := H
                                        replace H : (if t1820 ≥ (x7_2.length : Int) then ((chartroomlaw11_works.f k4).bind fun t1821 => (some t1821)) else (some false)) = some true := H
                                        have A78 := Aside0.mk A780
                                        clear A780
                                        by_cases c79 : t1820 ≥ (x7_2.length : Int)
                                        · rw [if_pos c79] at H
                                          have c79b0 : decide ((x7_2.length : Int) ≤ t1820) = true := decide_eq_true c79
                                          clear c79
                                          replace H := Option.bind_eq_some_iff.mp H
                                          obtain ⟨t1821, A800, H⟩ := H
                                          replace H : (some t1821) = some true := H
                                          have A80 := Aside0.mk A800
                                          clear A800
                                          have hX_ := Aside0.mk (Option.some.inj H)
                                          clear H
                                          have q81 : (t1780 : Int) ≤ ((x7_2.length : Int) : Int) := of_decide_eq_true (by first | (with_reducible assumption) | assumption)
                                          obtain ⟨i081, hi081, _, hsz81, _⟩ := info_parts info5
                                          have hroom81 : x7_2.length ≤ co37 := (Kd.R_reads' HO_7.out).2.1
                                          have hC81 : Kd.C (Kd.int .u8) _ Ao37 x7_2.length x7_2 := (Kd.R_reads' HO_7.out).2.2
                                          have hcut81 := cut_to (P := Try.prog) 24 5 .i64 Try.underlying24 hi081 Ao37 x7_2.length co37 t1780 (of_decide_eq_true (by first | (with_reducible assumption) | assumption)) q81 hroom81
                                          have hr81 := Kd.C_take (m := (t1780 : Int).toNat) hC81 (by omega)
                                          have hy81 : y1794.length = (t1780 : Int).toNat := (by rw [Ny1794.out, List.length_take]; omega)
                                          rw [← Ny1794.out] at hr81
                                          rw [← hy81] at hcut81
                                          have HR1797 := Aside0.mk hr81
                                          have HC1797 := Aside0.mk (show y1794.length ≤ co37 from by omega)
                                          clear hr81 hC81 hroom81 hi081 hsz81
                                          have KY81 := Aside0.mk hy81
                                          clear hy81
                                          have KL81 := Aside0.mk (show (t1780 : Int).toNat ≤ x7_2.length from by omega)
                                          replace q81 := eq_true q81
                                          try go_wp2_with (first | ((with_reducible refine gate_callee (f := 100) rfl ?_); refine goesL_ (some 143) rfl rfl Try.func100 (by kernel_rfl) rfl #[.slice Ao37 y1794.length co37] rfl (by (try simp only [List.map_toArray, List.map_cons, List.map_nil]); first | done | rfl | (simp only [List.length_drop, List.length_take]; rfl)) ?_; (with_reducible refine (journal_Cut.calls _ _ y1794 t1798 _ ?side1 ?side2 A66.out).mono ?_); (case side1 => repeat (first | exact (by repeat (first | (with_reducible exact HR1797.out) | (with_reducible refine Kd.C_alloc ?_ _) | (with_reducible refine Kd.C_drewN ?_ _) | (with_reducible refine Kd.C_drew ?_) | exact HR1797.out)) | (with_reducible refine Kd.C_alloc ?_ _) | (with_reducible refine Kd.C_drewN ?_ _) | (with_reducible refine Kd.C_drew ?_))); (case side2 => exact HC1797.out); rintro e w82 ⟨v1799, rfl, ho0, hb⟩; refine ⟨_, rfl, ?_⟩; have n0_ := Aside0.mk (Kd.R_elder' (by (with_reducible repeat (first | apply Kd.R_alloc | apply Kd.R_drewN | apply Kd.R_drew)); exact HO_7.out) (Kd.R_base ho0) hb); have n1_ := Aside0.mk (Kd.R_below (by (with_reducible repeat (first | apply Kd.R_alloc | apply Kd.R_drewN | apply Kd.R_drew)); exact HO_8.out) hb); have n2_ := Aside0.mk (Kd.R_below (by (with_reducible repeat (first | apply Kd.R_alloc | apply Kd.R_drewN | apply Kd.R_drew)); exact HO_9.out) hb); have n3_ := Aside0.mk (Kd.R_lower (Kd.R_new' ho0 (Kd.R_lt (by (with_reducible repeat (first | apply Kd.R_alloc | apply Kd.R_drewN | apply Kd.R_drew)); exact HO_7.out))) (below_size (by repeat (first | (with_reducible first | exact HB.out | apply below_alloc | apply pw_below_drewN | apply below_drew1) | exact HB.out)))); have n4_ := Aside0.mk (Kd.C_below (by repeat (first | (with_reducible exact HR1797.out) | (with_reducible refine Kd.C_alloc ?_ _) | (with_reducible refine Kd.C_drewN ?_ _) | (with_reducible refine Kd.C_drew ?_) | exact HR1797.out)) hb); have n5_ := Aside0.mk (below_step (by repeat (first | (with_reducible first | exact HB.out | apply below_alloc | apply pw_below_drewN | apply below_drew1) | exact HB.out)) hb); clear HO_7; clear HO_8; clear HO_9; clear HR1797; clear HB; have HO_7 := n0_; have HO_8 := n1_; have HO_9 := n2_; have HO1800 := n3_; have HR1797 := n4_; have HB := n5_; clear n0_ n1_ n2_ n3_ n4_ n5_; (try clear hb); (try clear hb2); (try clear hk); (try clear hi); (try clear ho0)) | ((with_reducible refine gate_callee (f := 39) rfl ?_); refine goesL_ (some 145) rfl rfl Try.func39 (by kernel_rfl) rfl #[.slice Ao37 x7_2.length co37] rfl (by (try simp only [List.map_toArray, List.map_cons, List.map_nil]); first | done | rfl | (simp only [List.length_drop, List.length_take]; rfl)) ?_; (with_reducible refine (chartroomkit_Own.calls _ _ x7_2 t1801 _ ?side1 ?side2 A67.out).mono ?_); (case side1 => repeat (first | exact (Kd.R_reads' HO_7.out).2.2 | (with_reducible refine Kd.C_alloc ?_ _) | (with_reducible refine Kd.C_drewN ?_ _) | (with_reducible refine Kd.C_drew ?_))); (case side2 => exact (Kd.R_reads' HO_7.out).2.1); rintro e w83 ⟨v1802, rfl, ho0, hb⟩; refine ⟨_, rfl, ?_⟩; have n0_ := Aside0.mk (Kd.R_elder' (by (with_reducible repeat (first | apply Kd.R_alloc | apply Kd.R_drewN | apply Kd.R_drew)); exact HO_7.out) (Kd.R_base ho0) hb); have n1_ := Aside0.mk (Kd.R_below (by (with_reducible repeat (first | apply Kd.R_alloc | apply Kd.R_drewN | apply Kd.R_drew)); exact HO_8.out) hb); have n2_ := Aside0.mk (Kd.R_below (by (with_reducible repeat (first | apply Kd.R_alloc | apply Kd.R_drewN | apply Kd.R_drew)); exact HO_9.out) hb); have n3_ := Aside0.mk (Kd.R_elder' (by (with_reducible repeat (first | apply Kd.R_alloc | apply Kd.R_drewN | apply Kd.R_drew)); exact HO1800.out) (Kd.R_base ho0) hb); have n4_ := Aside0.mk (Kd.R_lower (Kd.R_new' (Kd.R_new' ho0 (Kd.R_lt (by (with_reducible repeat (first | apply Kd.R_alloc | apply Kd.R_drewN | apply Kd.R_drew)); exact HO_7.out))) (Kd.R_lt (by (with_reducible repeat (first | apply Kd.R_alloc | apply Kd.R_drewN | apply Kd.R_drew)); exact HO1800.out))) (below_size (by repeat (first | (with_reducible first | exact HB.out | apply below_alloc | apply pw_below_drewN | apply below_drew1) | exact HB.out)))); have n5_ := Aside0.mk (Kd.C_below (by repeat (first | (with_reducible exact HR1797.out) | (with_reducible refine Kd.C_alloc ?_ _) | (with_reducible refine Kd.C_drewN ?_ _) | (with_reducible refine Kd.C_drew ?_) | exact HR1797.out)) hb); have n6_ := Aside0.mk (below_step (by repeat (first | (with_reducible first | exact HB.out | apply below_alloc | apply pw_below_drewN | apply below_drew1) | exact HB.out)) hb); clear HO_7; clear HO_8; clear HO_9; clear HO1800; clear HR1797; clear HB; have HO_7 := n0_; have HO_8 := n1_; have HO_9 := n2_; have HO1800 := n3_; have HO1803 := n4_; have HR1797 := n5_; have HB := n6_; clear n0_ n1_ n2_ n3_ n4_ n5_ n6_; (try clear hb); (try clear hb2); (try clear hk); (try clear hi); (try clear ho0)) | ((with_reducible refine gate_builtin (b := .append) (xs := #[.tmp 146, .tmp 147]) rfl ?_); (try (refine gate_guard (by rfl) ?_; dsimp only)); at_builtin; refine Kd.R_append_rows (Kd.int .u8) (w0 := w) w.heap.size rfl (.tmp 146) (.tmp 147) 24 5 (.int .u8 0) 1 rfl Try.underlying24 info5 rfl (by decide) (by omega) v1802 t1801 l2 _ _ _ (fun k_ => some k_ ≠ (.slice Ao37 x7_2.length co37 : Value).ownBlock ∧ some k_ ≠ (v1799 : Value).ownBlock) (fun _ => False) rfl rfl ?aO ?aR (fun _ _ h => h) (fun _ h => h.elim) ?aF ?aB ?aS ?aL ?_; (case aR => repeat (first | exact (Kd.C_below HR2.out HB.out) | (with_reducible refine Kd.C_alloc ?_ _) | (with_reducible refine Kd.C_drewN ?_ _) | (with_reducible refine Kd.C_drew ?_))); (case aB => exact (by repeat (first | (with_reducible first | exact HB.out | apply below_alloc | apply pw_below_drewN | apply below_drew1) | exact HB.out))); (case aF => exact (fun k_ hk => ⟨Kd.fresh' (Kd.R_lt (by (with_reducible repeat (first | apply Kd.R_alloc | apply Kd.R_drewN | apply Kd.R_drew)); exact HO_7.out)) k_ hk, Kd.fresh' (Kd.R_lt (by (with_reducible repeat (first | apply Kd.R_alloc | apply Kd.R_drewN | apply Kd.R_drew)); exact HO1800.out)) k_ hk⟩)); (case aO => exact (by (with_reducible repeat (first | apply Kd.R_alloc | apply Kd.R_drewN | apply Kd.R_drew)); exact Kd.R_mono HO1803.out (fun _ hk => ⟨hk.1.2, hk.2⟩))); (case aS => exact (below_size (by repeat (first | (with_reducible first | exact HB.out | apply below_alloc | apply pw_below_drewN | apply below_drew1) | exact HB.out)))); (case aL => have := LMc68.out; omega); intro v1805 w84 ho hb hg hat; rw [← Ny1804.out] at ho; have n0_ := Aside0.mk (Kd.R_after (ok := (fun k_ => some k_ ≠ (v1799 : Value).ownBlock)) (by (with_reducible repeat (first | apply Kd.R_alloc | apply Kd.R_drewN | apply Kd.R_drew)); exact Kd.R_mono HO_7.out (fun _ hk => ⟨hk.1.2, hk.2⟩)) hg hat); have n1_ := Aside0.mk (Kd.R_over' (by (with_reducible repeat (first | apply Kd.R_alloc | apply Kd.R_drewN | apply Kd.R_drew)); exact HO_8.out) (Kd.R_typed (by (with_reducible repeat (first | apply Kd.R_alloc | apply Kd.R_drewN | apply Kd.R_drew)); exact HO1803.out)) (by decide) hg); have n2_ := Aside0.mk (Kd.R_over' (by (with_reducible repeat (first | apply Kd.R_alloc | apply Kd.R_drewN | apply Kd.R_drew)); exact HO_9.out) (Kd.R_typed (by (with_reducible repeat (first | apply Kd.R_alloc | apply Kd.R_drewN | apply Kd.R_drew)); exact HO1803.out)) (by decide) hg); have n3_ := Aside0.mk (Kd.R_after (ok := (fun k_ => some k_ ≠ (.slice Ao37 x7_2.length co37 : Value).ownBlock)) (by (with_reducible repeat (first | apply Kd.R_alloc | apply Kd.R_drewN | apply Kd.R_drew)); exact Kd.R_mono HO1800.out (fun _ hk => ⟨hk.1.2, hk.2⟩)) hg hat); have n4_ := Aside0.mk (hb); have n5_ := Aside0.mk ((show Kd.C (Kd.int .u8) w84 Ao37 y1794.length y1794 from by rw [Ny1794.out]; exact Kd.C_take (m := (t1780 : Int).toNat) ((Kd.R_reads' (Kd.R_after (ok := (fun k_ => some k_ ≠ (v1799 : Value).ownBlock)) (by (with_reducible repeat (first | apply Kd.R_alloc | apply Kd.R_drewN | apply Kd.R_drew)); exact Kd.R_mono HO_7.out (fun _ hk => ⟨hk.1.2, hk.2⟩)) hg hat)).2.2) KL81.out)); have n6_ := Aside0.mk (ho); clear HO_7; clear HO_8; clear HO_9; clear HO1800; clear HB; clear HR1797; clear HO1803; have HO_7 := n0_; have HO_8 := n1_; have HO_9 := n2_; have HO1800 := n3_; have HB := n4_; have HR1797 := n5_; have HO1806 := n6_; clear n0_ n1_ n2_ n3_ n4_ n5_ n6_; clear ho hb hg hat))
                                          (try (rw [drewN_self w84]; generalize hq_ : World.drewN w84 _ = w84; have n0_ : Aside0 (Kd.R (Kd.int .u8) 5 w84 w.heap.size (fun k_ => some k_ ≠ (v1805 : Value).ownBlock ∧ some k_ ≠ (.slice Ao37 x7_2.length co37 : Value).ownBlock) v1799 t1798) := ⟨by rw [← hq_]; exact (by (with_reducible repeat (first | apply Kd.R_alloc | apply Kd.R_drewN | apply Kd.R_drew)); exact Kd.R_mono HO1800.out (fun _ hk => ⟨hk.2, hk.1⟩))⟩; have n1_ : Aside0 (Kd.R (Kd.int .u8) 5 w84 w.heap.size (fun k_ => some k_ ≠ (v1799 : Value).ownBlock ∧ some k_ ≠ (.slice Ao37 x7_2.length co37 : Value).ownBlock) v1805 y1804) := ⟨by rw [← hq_]; exact (by (with_reducible repeat (first | apply Kd.R_alloc | apply Kd.R_drewN | apply Kd.R_drew)); exact Kd.R_mono HO1806.out (fun _ hk => ⟨hk.2, hk.1⟩))⟩; have n2_ : Aside0 (Kd.R (Kd.int .u8) 5 w84 w.heap.size (fun k_ => some k_ ≠ (v1799 : Value).ownBlock ∧ some k_ ≠ (v1805 : Value).ownBlock) (.slice Ao37 x7_2.length co37) x7_2) := ⟨by rw [← hq_]; exact (by (with_reducible repeat (first | apply Kd.R_alloc | apply Kd.R_drewN | apply Kd.R_drew)); exact HO_7.out)⟩; have n3_ : Aside0 (Kd.R (Kd.int .i64) 3 w84 w.heap.size (fun _ => True) u8 x8_2) := ⟨by rw [← hq_]; exact (by (with_reducible repeat (first | apply Kd.R_alloc | apply Kd.R_drewN | apply Kd.R_drew)); exact HO_8.out)⟩; have n4_ : Aside0 (Kd.R k92 92 w84 w.heap.size (fun _ => True) u9 x9_2) := ⟨by rw [← hq_]; exact (by (with_reducible repeat (first | apply Kd.R_alloc | apply Kd.R_drewN | apply Kd.R_drew)); exact HO_9.out)⟩; have n5_ : Aside0 (Below w.heap.size w w84) := ⟨by rw [← hq_]; exact (by repeat (first | (with_reducible first | exact HB.out | apply below_alloc | apply pw_below_drewN | apply below_drew1) | exact HB.out))⟩; have n6_ : Aside0 (Kd.C (Kd.int .u8) w84 Ao37 y1794.length y1794) := ⟨by rw [← hq_]; exact (by repeat (first | (with_reducible exact HR1797.out) | (with_reducible refine Kd.C_alloc ?_ _) | (with_reducible refine Kd.C_drewN ?_ _) | (with_reducible refine Kd.C_drew ?_) | exact HR1797.out))⟩; clear HO1800 HO1806 HO_7 HO_8 HO_9 HB HR1797 hq_; have HO1800 := n0_; have HO1806 := n1_; have HO_7 := n2_; have HO_8 := n3_; have HO_9 := n4_; have HB := n5_; have HR1797 := n6_; clear n0_ n1_ n2_ n3_ n4_ n5_ n6_))
                                          have n0_ := Aside0.mk (Kd.R_drew HO_7.out)
                                          have n1_ := Aside0.mk (Kd.R_drew HO_8.out)
                                          have n2_ := Aside0.mk (Kd.R_drew HO_9.out)
                                          have n3_ := Aside0.mk (Kd.R_drew HO1800.out)
                                          have n4_ := Aside0.mk (Kd.R_drew HO1806.out)
                                          have n5_ := Aside0.mk (Kd.C_drew HR1797.out)
                                          have n6_ := Aside0.mk (below_drew1 HB.out)
                                          clear HO_7
                                          clear HO_8
                                          clear HO_9
                                          clear HO1800
                                          clear HO1806
                                          clear HR1797
                                          clear HB
                                          have HO_7 := n0_
                                          have HO_8 := n1_
                                          have HO_9 := n2_
                                          have HO1800 := n3_
                                          have HO1806 := n4_
                                          have HR1797 := n5_
                                          have HB := n6_
                                          clear n0_ n1_ n2_ n3_ n4_ n5_ n6_
                                          have q86 : (t1780 : Int) ≤ ((x7_2.length : Int) : Int) := of_decide_eq_true (by first | (with_reducible assumption) | assumption)
                                          obtain ⟨i086, hi086, _, hsz86, _⟩ := info_parts info5
                                          have hroom86 : x7_2.length ≤ co37 := (Kd.R_reads' HO_7.out).2.1
                                          have hC86 : Kd.C (Kd.int .u8) _ Ao37 x7_2.length x7_2 := (Kd.R_reads' HO_7.out).2.2
                                          (try clear hcut81)
                                          have hcut86 := cut_to (P := Try.prog) 24 5 .i64 Try.underlying24 hi086 Ao37 x7_2.length co37 t1780 (of_decide_eq_true (by first | (with_reducible assumption) | assumption)) q86 hroom86
                                          have hr86 := Kd.C_take (m := (t1780 : Int).toNat) hC86 (by omega)
                                          have hy86 : y1807.length = (t1780 : Int).toNat := (by rw [Ny1807.out, List.length_take]; omega)
                                          rw [← Ny1807.out] at hr86
                                          rw [← hy86] at hcut86
                                          have HR1810 := Aside0.mk hr86
                                          have HC1810 := Aside0.mk (show y1807.length ≤ co37 from by omega)
                                          clear hr86 hC86 hroom86 hi086 hsz86
                                          have KY86 := Aside0.mk hy86
                                          clear hy86
                                          have KL86 := Aside0.mk (show (t1780 : Int).toNat ≤ x7_2.length from by omega)
                                          replace q86 := eq_true q86
                                          have q87 : (x16_4 : Int) ≤ ((l0.length : Int) : Int) := of_decide_eq_true (by first | (with_reducible assumption) | assumption)
                                          obtain ⟨i087, hi087, _, hsz87, _⟩ := info_parts info24
                                          have hroom87 : l0.length ≤ c0 := HC0.out
                                          have hC87 : Kd.C (Kd.slice 5 (Kd.int .u8)) _ A0 l0.length l0 := HR0.out
                                          have hcut87 := cut_to (P := Try.prog) 90 24 .i64 Try.underlying90 hi087 A0 l0.length c0 x16_4 (of_decide_eq_true (by first | (with_reducible assumption) | assumption)) q87 hroom87
                                          have hr87 := Kd.C_take (m := (x16_4 : Int).toNat) hC87 (by omega)
                                          have hy87 : y1814.length = (x16_4 : Int).toNat := (by rw [Ny1814.out, List.length_take]; omega)
                                          rw [← Ny1814.out] at hr87
                                          rw [← hy87] at hcut87
                                          have HR1817 := Aside0.mk hr87
                                          have HC1817 := Aside0.mk (show y1814.length ≤ c0 from by omega)
                                          clear hr87 hC87 hroom87 hi087 hsz87
                                          have KY87 := Aside0.mk hy87
                                          clear hy87
                                          replace q87 := eq_true q87
                                          refine start_ (n := 26) (S := fun w' => True) (ds := []) #[false, false, false, false, false, false, false, false, false, false, false, false, false, false, false, false, false, false, false, false, false, false, false, false, false, false] (by kernel_rfl) rfl rfl trivial (fun hHeld => ?_); refine with_tabW chartroomlaw11_JournalKeeps.tab33 chartroomlaw11_JournalKeeps.bits33 (fun HT_ HW_ => ?_)
                                          generalize w84.drew = w85 at HO_7 HO_8 HO_9 HO1800 HO1806 HR1797 HB HR1810 HR1817 hHeld ⊢
                                          refine pure_ (i := 0) (N := some 149) (v := ?_) (a' := ?_) #[true, false, false, false, false, false, false, false, false, false, false, false, false, false, false, false, false, false, false, false, false, false, false, false, false, false] rfl rfl (any_of HT_.out (by kernel_rfl)) (fun _ _ _ h => h) (Or.inl ⟨by rfl, ?_⟩) ?_ ?_
                                          rotate_left
                                          · intro w'
                                            go_simp
                                            with_reducible rfl
                                          rotate_left
                                          · simp only [Act.put, List.setIfInBounds_toArray, List.set_cons_zero, List.set_cons_succ, i64_w, i32_w]
                                            rfl
                                          refine pure_ (i := 1) (N := some 150) (v := ?_) (a' := ?_) #[true, true, false, false, false, false, false, false, false, false, false, false, false, false, false, false, false, false, false, false, false, false, false, false, false, false] rfl rfl (any_of HT_.out (by kernel_rfl)) (fun _ _ _ h => h) (Or.inl ⟨by rfl, ?_⟩) ?_ ?_
                                          rotate_left
                                          · intro w'
                                            go_simp
                                            with_reducible rfl
                                          rotate_left
                                          · simp only [Act.put, List.setIfInBounds_toArray, List.set_cons_zero, List.set_cons_succ, i64_w, i32_w]
                                            rfl
                                          refine pure_ (i := 2) (N := some 151) (v := ?_) (a' := ?_) #[true, true, true, false, false, false, false, false, false, false, false, false, false, false, false, false, false, false, false, false, false, false, false, false, false, false] rfl rfl (any_of HT_.out (by kernel_rfl)) (fun _ _ _ h => h) (Or.inl ⟨by rfl, ?_⟩) ?_ ?_
                                          rotate_left
                                          · intro w'
                                            go_simp
                                            with_reducible rfl
                                          rotate_left
                                          · simp only [Act.put, List.setIfInBounds_toArray, List.set_cons_zero, List.set_cons_succ, i64_w, i32_w]
                                            rfl
                                          refine pure_ (i := 4) (N := some 153) (v := ?_) (a' := ?_) #[true, true, true, false, true, false, false, false, false, false, false, false, false, false, false, false, false, false, false, false, false, false, false, false, false, false] rfl rfl (any_of HT_.out (by kernel_rfl)) (fun _ _ _ h => h) (Or.inl ⟨by rfl, ?_⟩) ?_ ?_
                                          rotate_left
                                          · intro w'
                                            go_simp
                                            with_reducible rfl
                                          rotate_left
                                          · simp only [Act.put, List.setIfInBounds_toArray, List.set_cons_zero, List.set_cons_succ, i64_w, i32_w]
                                            rfl
                                          refine pure_ (i := 5) (N := some 154) (v := ?_) (a' := ?_) #[true, true, true, false, true, true, false, false, false, false, false, false, false, false, false, false, false, false, false, false, false, false, false, false, false, false] rfl rfl (any_of HT_.out (by kernel_rfl)) (fun _ _ _ h => h) (Or.inl ⟨by rfl, ?_⟩) ?_ ?_
                                          rotate_left
                                          · intro w'
                                            go_simp
                                            with_reducible rfl
                                          rotate_left
                                          · simp only [Act.put, List.setIfInBounds_toArray, List.set_cons_zero, List.set_cons_succ, i64_w, i32_w]
                                            rfl
                                          refine pure_ (i := 6) (N := some 155) (v := ?_) (a' := ?_) #[true, true, true, false, true, true, true, false, false, false, false, false, false, false, false, false, false, false, false, false, false, false, false, false, false, false] rfl rfl (any_of HT_.out (by kernel_rfl)) (fun _ _ _ h => h) (Or.inl ⟨by rfl, ?_⟩) ?_ ?_
                                          rotate_left
                                          · intro w'
                                            go_simp
                                            with_reducible rfl
                                          rotate_left
                                          · simp only [Act.put, List.setIfInBounds_toArray, List.set_cons_zero, List.set_cons_succ, i64_w, i32_w]
                                            rfl
                                          refine one_ (i := 3) (N := some 152) #[true, true, true, true, true, true, true, false, false, false, false, false, false, false, false, false, false, false, false, false, false, false, false, false, false, false] rfl rfl (one_of HT_.out (by kernel_rfl)) (by decide) (fun K hK => ?_)
                                          refine goes_ Try.func98 (by kernel_rfl) rfl #[.slice Ao37 y1807.length co37] (by rfl) rfl rfl (by (try simp only [List.map_toArray, List.map_cons, List.map_nil]); first | done | rfl | (simp only [List.length_drop, List.length_take]; rfl)) ?_
                                          with_reducible refine (journal_All.calls _ _ y1807 t1811 _ ?side1 ?side2 A71.out).mono ?_
                                          (case side1 => repeat (first | exact (by repeat (first | (with_reducible exact HR1810.out) | (with_reducible refine Kd.C_alloc ?_ _) | (with_reducible refine Kd.C_drewN ?_ _) | (with_reducible refine Kd.C_drew ?_) | exact HR1810.out)) | (with_reducible refine Kd.C_alloc ?_ _) | (with_reducible refine Kd.C_drewN ?_ _) | (with_reducible refine Kd.C_drew ?_)))
                                          (case side2 => exact HC1810.out)
                                          rintro e w88 ⟨v1812, rfl, ho0, hb⟩
                                          refine ⟨_, rfl, ?_⟩
                                          have n0_ := Aside0.mk (Kd.R_below (by (with_reducible repeat (first | apply Kd.R_alloc | apply Kd.R_drewN | apply Kd.R_drew)); exact HO_7.out) hb)
                                          have n1_ := Aside0.mk (Kd.R_below (by (with_reducible repeat (first | apply Kd.R_alloc | apply Kd.R_drewN | apply Kd.R_drew)); exact HO_8.out) hb)
                                          have n2_ := Aside0.mk (Kd.R_below (by (with_reducible repeat (first | apply Kd.R_alloc | apply Kd.R_drewN | apply Kd.R_drew)); exact HO_9.out) hb)
                                          have n3_ := Aside0.mk (Kd.R_below (by (with_reducible repeat (first | apply Kd.R_alloc | apply Kd.R_drewN | apply Kd.R_drew)); exact HO1800.out) hb)
                                          have n4_ := Aside0.mk (Kd.R_below (by (with_reducible repeat (first | apply Kd.R_alloc | apply Kd.R_drewN | apply Kd.R_drew)); exact HO1806.out) hb)
                                          have n5_ := Aside0.mk (Kd.S_lower (Kd.S_new' (Kd.S_new' (Kd.S_new' ho0 (Kd.R_lt (by (with_reducible repeat (first | apply Kd.R_alloc | apply Kd.R_drewN | apply Kd.R_drew)); exact HO_7.out))) (Kd.R_lt (by (with_reducible repeat (first | apply Kd.R_alloc | apply Kd.R_drewN | apply Kd.R_drew)); exact HO1800.out))) (Kd.R_lt (by (with_reducible repeat (first | apply Kd.R_alloc | apply Kd.R_drewN | apply Kd.R_drew)); exact HO1806.out))) (below_size (by repeat (first | (with_reducible first | exact HB.out | apply below_alloc | apply pw_below_drewN | apply below_drew1) | exact HB.out))))
                                          have n6_ := Aside0.mk (Kd.C_below (by repeat (first | (with_reducible exact HR1797.out) | (with_reducible refine Kd.C_alloc ?_ _) | (with_reducible refine Kd.C_drewN ?_ _) | (with_reducible refine Kd.C_drew ?_) | exact HR1797.out)) hb)
                                          have n7_ := Aside0.mk (Kd.C_below (by repeat (first | (with_reducible exact HR1810.out) | (with_reducible refine Kd.C_alloc ?_ _) | (with_reducible refine Kd.C_drewN ?_ _) | (with_reducible refine Kd.C_drew ?_) | exact HR1810.out)) hb)
                                          have n8_ := Aside0.mk (below_step (by repeat (first | (with_reducible first | exact HB.out | apply below_alloc | apply pw_below_drewN | apply below_drew1) | exact HB.out)) hb)
                                          clear HO_7
                                          clear HO_8
                                          clear HO_9
                                          clear HO1800
                                          clear HO1806
                                          clear HR1797
                                          clear HR1810
                                          clear HB
                                          have HO_7 := n0_
                                          have HO_8 := n1_
                                          have HO_9 := n2_
                                          have HO1800 := n3_
                                          have HO1806 := n4_
                                          have HO1813 := n5_
                                          have HR1797 := n6_
                                          have HR1810 := n7_
                                          have HB := n8_
                                          clear n0_ n1_ n2_ n3_ n4_ n5_ n6_ n7_ n8_
                                          (try clear hb)
                                          (try clear hb2)
                                          (try clear hk)
                                          (try clear hi)
                                          (try clear ho0)
                                          obtain ⟨Ao89, co89, eo89⟩ := Kd.S_slice HO1813.out
                                          (first | subst eo89 | (injection eo89 with f1_ f2_ f3_; have f4_ := f1_.symm; have f5_ := f3_.symm; clear f1_ f2_ f3_; subst f4_; subst f5_))
                                          refine hK.out _ _ trivial (fun hHeld => ?_)
                                          clear hK K
                                          refine norm_ (a' := ?_) ?_ ?_
                                          rotate_left
                                          · show Act.put _ (some 152) _ = _
                                            simp only [Act.put, List.setIfInBounds_toArray, List.set_cons_zero, List.set_cons_succ, i64_w, i32_w]
                                            rfl
                                          refine one_ (i := 7) (N := some 156) #[true, true, true, true, true, true, true, true, false, false, false, false, false, false, false, false, false, false, false, false, false, false, false, false, false, false] rfl rfl (one_of HT_.out (by kernel_rfl)) (by decide) (fun K hK => ?_)
                                          refine goes_ Try.func97 (by kernel_rfl) rfl #[.slice Ao89 t1811.length co89, .slice A0 y1814.length c0] (by rfl) rfl rfl (by (try simp only [List.map_toArray, List.map_cons, List.map_nil]); first | done | rfl | (simp only [List.length_drop, List.length_take]; rfl)) ?_
                                          with_reducible refine (chartroomlaw11_rows.calls k4 _ _ t1811 _ _ y1814 true _ ?side1 ?side2 ?side3 ?side4 A74.out).mono ?_
                                          (case side1 => repeat (first | exact (Kd.S_reads' HO1813.out).2.2 | (with_reducible refine Kd.C_alloc ?_ _) | (with_reducible refine Kd.C_drewN ?_ _) | (with_reducible refine Kd.C_drew ?_)))
                                          (case side2 => exact (Kd.S_reads' HO1813.out).2.1)
                                          (case side3 => repeat (first | exact (Kd.C_below HR1817.out HB.out) | (with_reducible refine Kd.C_alloc ?_ _) | (with_reducible refine Kd.C_drewN ?_ _) | (with_reducible refine Kd.C_drew ?_)))
                                          (case side4 => exact HC1817.out)
                                          rintro e w' ⟨rfl, ⟨nd, rfl⟩⟩
                                          refine ⟨_, rfl, ?_⟩
                                          obtain ⟨Ao90, co90, eo90⟩ := Kd.R_slice HO1800.out
                                          (first | subst eo90 | (injection eo90 with f1_ f2_ f3_; have f4_ := f1_.symm; have f5_ := f3_.symm; clear f1_ f2_ f3_; subst f4_; subst f5_))
                                          refine hK.out _ _ trivial (fun hHeld => ?_)
                                          clear hK K
                                          refine norm_ (a' := ?_) ?_ ?_
                                          rotate_left
                                          · show Act.put _ (some 156) _ = _
                                            simp only [Act.put, List.setIfInBounds_toArray, List.set_cons_zero, List.set_cons_succ, i64_w, i32_w]
                                            rfl
                                          refine pure_ (i := 8) (N := some 157) (v := ?_) (a' := ?_) #[true, true, true, true, true, true, true, true, true, false, false, false, false, false, false, false, false, false, false, false, false, false, false, false, false, false] rfl rfl (any_of HT_.out (by kernel_rfl)) (fun _ _ _ h => h) (Or.inl ⟨by rfl, ?_⟩) ?_ ?_
                                          rotate_left
                                          · intro w'
                                            go_simp
                                            with_reducible rfl
                                          rotate_left
                                          · simp only [Act.put, List.setIfInBounds_toArray, List.set_cons_zero, List.set_cons_succ, i64_w, i32_w]
                                            rfl
                                          refine pure_ (i := 9) (N := some 158) (v := ?_) (a' := ?_) #[true, true, true, true, true, true, true, true, true, true, false, false, false, false, false, false, false, false, false, false, false, false, false, false, false, false] rfl rfl (any_of HT_.out (by kernel_rfl)) (fun _ _ _ h => h) (Or.inl ⟨by rfl, ?_⟩) ?_ ?_
                                          rotate_left
                                          · intro w'
                                            go_simp
                                            with_reducible rfl
                                          rotate_left
                                          · simp only [Act.put, List.setIfInBounds_toArray, List.set_cons_zero, List.set_cons_succ, i64_w, i32_w]
                                            rfl
                                          refine pure_ (i := 11) (N := some 160) (v := ?_) (a' := ?_) #[true, true, true, true, true, true, true, true, true, true, false, true, false, false, false, false, false, false, false, false, false, false, false, false, false, false] rfl rfl (any_of HT_.out (by kernel_rfl)) (fun _ _ _ h => h) (Or.inl ⟨by rfl, ?_⟩) ?_ ?_
                                          rotate_left
                                          · intro w'
                                            go_simp
                                            with_reducible rfl
                                          rotate_left
                                          · simp only [Act.put, List.setIfInBounds_toArray, List.set_cons_zero, List.set_cons_succ, i64_w, i32_w]
                                            rfl
                                          refine pure_ (i := 12) (N := some 161) (v := ?_) (a' := ?_) #[true, true, true, true, true, true, true, true, true, true, false, true, true, false, false, false, false, false, false, false, false, false, false, false, false, false] rfl rfl (any_of HT_.out (by kernel_rfl)) (fun _ _ _ h => h) (Or.inl ⟨by rfl, ?_⟩) ?_ ?_
                                          rotate_left
                                          · intro w'
                                            go_simp
                                            with_reducible rfl
                                          rotate_left
                                          · simp only [Act.put, List.setIfInBounds_toArray, List.set_cons_zero, List.set_cons_succ, i64_w, i32_w]
                                            rfl
                                          refine one_ (i := 10) (N := some 159) #[true, true, true, true, true, true, true, true, true, true, true, true, true, false, false, false, false, false, false, false, false, false, false, false, false, false] rfl rfl (one_of HT_.out (by kernel_rfl)) (by decide) (fun K hK => ?_)
                                          refine goes_ Try.func96 (by kernel_rfl) rfl #[.slice Ao90 t1798.length co90] (by rfl) rfl rfl (by (try simp only [List.map_toArray, List.map_cons, List.map_nil]); first | done | rfl | (simp only [List.length_drop, List.length_take]; rfl)) ?_
                                          with_reducible refine (journal_Whole.calls _ _ t1798 t1819 _ ?side1 ?side2 A76.out).mono ?_
                                          (case side1 => repeat (first | exact (Kd.R_reads' HO1800.out).2.2 | (with_reducible refine Kd.C_alloc ?_ _) | (with_reducible refine Kd.C_drewN ?_ _) | (with_reducible refine Kd.C_drew ?_)))
                                          (case side2 => exact (Kd.R_reads' HO1800.out).2.1)
                                          rintro e w91 ⟨rfl, hb⟩
                                          refine ⟨_, rfl, ?_⟩
                                          have n0_ := Aside0.mk (Kd.R_below (by (with_reducible repeat (first | apply Kd.R_alloc | apply Kd.R_drewN | apply Kd.R_drew)); exact HO_7.out) hb)
                                          have n1_ := Aside0.mk (Kd.R_below (by (with_reducible repeat (first | apply Kd.R_alloc | apply Kd.R_drewN | apply Kd.R_drew)); exact HO_8.out) hb)
                                          have n2_ := Aside0.mk (Kd.R_below (by (with_reducible repeat (first | apply Kd.R_alloc | apply Kd.R_drewN | apply Kd.R_drew)); exact HO_9.out) hb)
                                          have n3_ := Aside0.mk (Kd.R_below (by (with_reducible repeat (first | apply Kd.R_alloc | apply Kd.R_drewN | apply Kd.R_drew)); exact HO1800.out) hb)
                                          have n4_ := Aside0.mk (Kd.R_below (by (with_reducible repeat (first | apply Kd.R_alloc | apply Kd.R_drewN | apply Kd.R_drew)); exact HO1806.out) hb)
                                          have n5_ := Aside0.mk (Kd.S_below (by (with_reducible repeat (first | apply Kd.S_alloc | apply Kd.S_drewN | apply Kd.S_drew)); exact HO1813.out) hb)
                                          have n6_ := Aside0.mk (Kd.C_below (by repeat (first | (with_reducible exact HR1797.out) | (with_reducible refine Kd.C_alloc ?_ _) | (with_reducible refine Kd.C_drewN ?_ _) | (with_reducible refine Kd.C_drew ?_) | exact HR1797.out)) hb)
                                          have n7_ := Aside0.mk (Kd.C_below (by repeat (first | (with_reducible exact HR1810.out) | (with_reducible refine Kd.C_alloc ?_ _) | (with_reducible refine Kd.C_drewN ?_ _) | (with_reducible refine Kd.C_drew ?_) | exact HR1810.out)) hb)
                                          have n8_ := Aside0.mk (below_step (by repeat (first | (with_reducible first | exact HB.out | apply below_alloc | apply pw_below_drewN | apply below_drew1) | exact HB.out)) hb)
                                          clear HO_7
                                          clear HO_8
                                          clear HO_9
                                          clear HO1800
                                          clear HO1806
                                          clear HO1813
                                          clear HR1797
                                          clear HR1810
                                          clear HB
                                          have HO_7 := n0_
                                          have HO_8 := n1_
                                          have HO_9 := n2_
                                          have HO1800 := n3_
                                          have HO1806 := n4_
                                          have HO1813 := n5_
                                          have HR1797 := n6_
                                          have HR1810 := n7_
                                          have HB := n8_
                                          clear n0_ n1_ n2_ n3_ n4_ n5_ n6_ n7_ n8_
                                          (try clear hb)
                                          (try clear hb2)
                                          (try clear hk)
                                          (try clear hi)
                                          obtain ⟨Ao92, co92, eo92⟩ := Kd.R_slice HO1806.out
                                          (first | subst eo92 | (injection eo92 with f1_ f2_ f3_; have f4_ := f1_.symm; have f5_ := f3_.symm; clear f1_ f2_ f3_; subst f4_; subst f5_))
                                          refine hK.out _ _ trivial (fun hHeld => ?_)
                                          clear hK K
                                          refine norm_ (a' := ?_) ?_ ?_
                                          rotate_left
                                          · show Act.put _ (some 159) _ = _
                                            simp only [Act.put, List.setIfInBounds_toArray, List.set_cons_zero, List.set_cons_succ, i64_w, i32_w]
                                            rfl
                                          refine pure_ (i := 13) (N := some 162) (v := ?_) (a' := ?_) #[true, true, true, true, true, true, true, true, true, true, true, true, true, true, false, false, false, false, false, false, false, false, false, false, false, false] rfl rfl (any_of HT_.out (by kernel_rfl)) (fun _ _ _ h => h) (Or.inl ⟨by rfl, ?_⟩) ?_ ?_
                                          rotate_left
                                          · intro w'
                                            go_simp
                                            with_reducible rfl
                                          rotate_left
                                          · simp only [Act.put, List.setIfInBounds_toArray, List.set_cons_zero, List.set_cons_succ, i64_w, i32_w]
                                            rfl
                                          refine pure_ (i := 14) (N := some 163) (v := ?_) (a' := ?_) #[true, true, true, true, true, true, true, true, true, true, true, true, true, true, true, false, false, false, false, false, false, false, false, false, false, false] rfl rfl (any_of HT_.out (by kernel_rfl)) (fun _ _ _ h => h) (Or.inl ⟨by rfl, ?_⟩) ?_ ?_
                                          rotate_left
                                          · intro w'
                                            go_simp
                                            with_reducible rfl
                                          rotate_left
                                          · simp only [Act.put, List.setIfInBounds_toArray, List.set_cons_zero, List.set_cons_succ, i64_w, i32_w]
                                            rfl
                                          refine pure_ (i := 15) (N := some 164) (v := ?_) (a' := ?_) #[true, true, true, true, true, true, true, true, true, true, true, true, true, true, true, true, false, false, false, false, false, false, false, false, false, false] rfl rfl (any_of HT_.out (by kernel_rfl)) (fun _ _ _ h => h) (Or.inl ⟨by rfl, ?_⟩) ?_ ?_
                                          rotate_left
                                          · intro w'
                                            go_simp
                                            with_reducible rfl
                                          rotate_left
                                          · simp only [Act.put, List.setIfInBounds_toArray, List.set_cons_zero, List.set_cons_succ, i64_w, i32_w]
                                            rfl
                                          refine pure_ (i := 16) (N := some 165) (v := ?_) (a' := ?_) #[true, true, true, true, true, true, true, true, true, true, true, true, true, true, true, true, true, false, false, false, false, false, false, false, false, false] rfl rfl (any_of HT_.out (by kernel_rfl)) (fun _ _ _ h => h) (Or.inl ⟨by rfl, ?_⟩) ?_ ?_
                                          rotate_left
                                          · intro w'
                                            go_simp
                                            with_reducible rfl
                                          rotate_left
                                          · simp only [Act.put, List.setIfInBounds_toArray, List.set_cons_zero, List.set_cons_succ, i64_w, i32_w]
                                            rfl
                                          refine pure_ (i := 18) (N := some 167) (v := ?_) (a' := ?_) #[true, true, true, true, true, true, true, true, true, true, true, true, true, true, true, true, true, false, true, false, false, false, false, false, false, false] rfl rfl (any_of HT_.out (by kernel_rfl)) (fun _ _ _ h => h) (Or.inl ⟨by rfl, ?_⟩) ?_ ?_
                                          rotate_left
                                          · intro w'
                                            go_simp
                                            with_reducible rfl
                                          rotate_left
                                          · simp only [Act.put, List.setIfInBounds_toArray, List.set_cons_zero, List.set_cons_succ, i64_w, i32_w]
                                            rfl
                                          refine pure_ (i := 19) (N := some 168) (v := ?_) (a' := ?_) #[true, true, true, true, true, true, true, true, true, true, true, true, true, true, true, true, true, false, true, true, false, false, false, false, false, false] rfl rfl (any_of HT_.out (by kernel_rfl)) (fun _ _ _ h => h) (Or.inl ⟨by rfl, ?_⟩) ?_ ?_
                                          rotate_left
                                          · intro w'
                                            go_simp
                                            with_reducible rfl
                                          rotate_left
                                          · simp only [Act.put, List.setIfInBounds_toArray, List.set_cons_zero, List.set_cons_succ, i64_w, i32_w]
                                            rfl
                                          refine one_ (i := 17) (N := some 166) #[true, true, true, true, true, true, true, true, true, true, true, true, true, true, true, true, true, true, true, true, false, false, false, false, false, false] rfl rfl (one_of HT_.out (by kernel_rfl)) (by decide) (fun K hK => ?_)
                                          refine goes_ Try.func96 (by kernel_rfl) rfl #[.slice Ao92 y1804.length co92] (by rfl) rfl rfl (by (try simp only [List.map_toArray, List.map_cons, List.map_nil]); first | done | rfl | (simp only [List.length_drop, List.length_take]; rfl)) ?_
                                          with_reducible refine (journal_Whole.calls _ _ y1804 t1820 _ ?side1 ?side2 A78.out).mono ?_
                                          (case side1 => repeat (first | exact (Kd.R_reads' HO1806.out).2.2 | (with_reducible refine Kd.C_alloc ?_ _) | (with_reducible refine Kd.C_drewN ?_ _) | (with_reducible refine Kd.C_drew ?_)))
                                          (case side2 => exact (Kd.R_reads' HO1806.out).2.1)
                                          rintro e w93 ⟨rfl, hb⟩
                                          refine ⟨_, rfl, ?_⟩
                                          have n0_ := Aside0.mk (Kd.R_below (by (with_reducible repeat (first | apply Kd.R_alloc | apply Kd.R_drewN | apply Kd.R_drew)); exact HO_7.out) hb)
                                          have n1_ := Aside0.mk (Kd.R_below (by (with_reducible repeat (first | apply Kd.R_alloc | apply Kd.R_drewN | apply Kd.R_drew)); exact HO_8.out) hb)
                                          have n2_ := Aside0.mk (Kd.R_below (by (with_reducible repeat (first | apply Kd.R_alloc | apply Kd.R_drewN | apply Kd.R_drew)); exact HO_9.out) hb)
                                          have n3_ := Aside0.mk (Kd.R_below (by (with_reducible repeat (first | apply Kd.R_alloc | apply Kd.R_drewN | apply Kd.R_drew)); exact HO1800.out) hb)
                                          have n4_ := Aside0.mk (Kd.R_below (by (with_reducible repeat (first | apply Kd.R_alloc | apply Kd.R_drewN | apply Kd.R_drew)); exact HO1806.out) hb)
                                          have n5_ := Aside0.mk (Kd.S_below (by (with_reducible repeat (first | apply Kd.S_alloc | apply Kd.S_drewN | apply Kd.S_drew)); exact HO1813.out) hb)
                                          have n6_ := Aside0.mk (Kd.C_below (by repeat (first | (with_reducible exact HR1797.out) | (with_reducible refine Kd.C_alloc ?_ _) | (with_reducible refine Kd.C_drewN ?_ _) | (with_reducible refine Kd.C_drew ?_) | exact HR1797.out)) hb)
                                          have n7_ := Aside0.mk (Kd.C_below (by repeat (first | (with_reducible exact HR1810.out) | (with_reducible refine Kd.C_alloc ?_ _) | (with_reducible refine Kd.C_drewN ?_ _) | (with_reducible refine Kd.C_drew ?_) | exact HR1810.out)) hb)
                                          have n8_ := Aside0.mk (below_step (by repeat (first | (with_reducible first | exact HB.out | apply below_alloc | apply pw_below_drewN | apply below_drew1) | exact HB.out)) hb)
                                          clear HO_7
                                          clear HO_8
                                          clear HO_9
                                          clear HO1800
                                          clear HO1806
                                          clear HO1813
                                          clear HR1797
                                          clear HR1810
                                          clear HB
                                          have HO_7 := n0_
                                          have HO_8 := n1_
                                          have HO_9 := n2_
                                          have HO1800 := n3_
                                          have HO1806 := n4_
                                          have HO1813 := n5_
                                          have HR1797 := n6_
                                          have HR1810 := n7_
                                          have HB := n8_
                                          clear n0_ n1_ n2_ n3_ n4_ n5_ n6_ n7_ n8_
                                          (try clear hb)
                                          (try clear hb2)
                                          (try clear hk)
                                          (try clear hi)
                                          refine hK.out _ _ trivial (fun hHeld => ?_)
                                          clear hK K
                                          refine norm_ (a' := ?_) ?_ ?_
                                          rotate_left
                                          · show Act.put _ (some 166) _ = _
                                            simp only [Act.put, List.setIfInBounds_toArray, List.set_cons_zero, List.set_cons_succ, i64_w, i32_w]
                                            rfl
                                          refine pure_ (i := 20) (N := some 169) (v := ?_) (a' := ?_) #[true, true, true, true, true, true, true, true, true, true, true, true, true, true, true, true, true, true, true, true, true, false, false, false, false, false] rfl rfl (any_of HT_.out (by kernel_rfl)) (fun _ _ _ h => h) (Or.inl ⟨by rfl, ?_⟩) ?_ ?_
                                          rotate_left
                                          · intro w'
                                            go_simp
                                            with_reducible rfl
                                          rotate_left
                                          · simp only [Act.put, List.setIfInBounds_toArray, List.set_cons_zero, List.set_cons_succ, i64_w, i32_w]
                                            rfl
                                          refine pure_ (i := 21) (N := some 170) (v := ?_) (a' := ?_) #[true, true, true, true, true, true, true, true, true, true, true, true, true, true, true, true, true, true, true, true, true, true, false, false, false, false] rfl rfl (any_of HT_.out (by kernel_rfl)) (fun _ _ _ h => h) (Or.inl ⟨by rfl, ?_⟩) ?_ ?_
                                          rotate_left
                                          · intro w'
                                            go_simp
                                            with_reducible rfl
                                          rotate_left
                                          · simp only [Act.put, List.setIfInBounds_toArray, List.set_cons_zero, List.set_cons_succ, i64_w, i32_w]
                                            rfl
                                          refine pure_ (i := 22) (N := some 171) (v := ?_) (a' := ?_) #[true, true, true, true, true, true, true, true, true, true, true, true, true, true, true, true, true, true, true, true, true, true, true, false, false, false] rfl rfl (any_of HT_.out (by kernel_rfl)) (fun _ _ _ h => h) (Or.inl ⟨by rfl, ?_⟩) ?_ ?_
                                          rotate_left
                                          · intro w'
                                            go_simp
                                            with_reducible rfl
                                          rotate_left
                                          · simp only [Act.put, List.setIfInBounds_toArray, List.set_cons_zero, List.set_cons_succ, i64_w, i32_w]
                                            rfl
                                          refine one_ (i := 23) (N := some 172) #[true, true, true, true, true, true, true, true, true, true, true, true, true, true, true, true, true, true, true, true, true, true, true, true, false, false] rfl rfl (one_of HT_.out (by kernel_rfl)) (by decide) (fun K hK => ?_)
                                          refine goes_ Try.func89 (by kernel_rfl) rfl #[] (by rfl) rfl rfl (by (try simp only [List.map_toArray, List.map_cons, List.map_nil]); first | done | rfl | (simp only [List.length_drop, List.length_take]; rfl)) ?_
                                          with_reducible refine (chartroomlaw11_works.calls k4  t1821 _ A80.out).mono ?_
                                          rintro e w94 ⟨rfl, hb⟩
                                          refine ⟨_, rfl, ?_⟩
                                          have n0_ := Aside0.mk (Kd.R_below (by (with_reducible repeat (first | apply Kd.R_alloc | apply Kd.R_drewN | apply Kd.R_drew)); exact HO_7.out) hb)
                                          have n1_ := Aside0.mk (Kd.R_below (by (with_reducible repeat (first | apply Kd.R_alloc | apply Kd.R_drewN | apply Kd.R_drew)); exact HO_8.out) hb)
                                          have n2_ := Aside0.mk (Kd.R_below (by (with_reducible repeat (first | apply Kd.R_alloc | apply Kd.R_drewN | apply Kd.R_drew)); exact HO_9.out) hb)
                                          have n3_ := Aside0.mk (Kd.R_below (by (with_reducible repeat (first | apply Kd.R_alloc | apply Kd.R_drewN | apply Kd.R_drew)); exact HO1800.out) hb)
                                          have n4_ := Aside0.mk (Kd.R_below (by (with_reducible repeat (first | apply Kd.R_alloc | apply Kd.R_drewN | apply Kd.R_drew)); exact HO1806.out) hb)
                                          have n5_ := Aside0.mk (Kd.S_below (by (with_reducible repeat (first | apply Kd.S_alloc | apply Kd.S_drewN | apply Kd.S_drew)); exact HO1813.out) hb)
                                          have n6_ := Aside0.mk (Kd.C_below (by repeat (first | (with_reducible exact HR1797.out) | (with_reducible refine Kd.C_alloc ?_ _) | (with_reducible refine Kd.C_drewN ?_ _) | (with_reducible refine Kd.C_drew ?_) | exact HR1797.out)) hb)
                                          have n7_ := Aside0.mk (Kd.C_below (by repeat (first | (with_reducible exact HR1810.out) | (with_reducible refine Kd.C_alloc ?_ _) | (with_reducible refine Kd.C_drewN ?_ _) | (with_reducible refine Kd.C_drew ?_) | exact HR1810.out)) hb)
                                          have n8_ := Aside0.mk (below_step (by repeat (first | (with_reducible first | exact HB.out | apply below_alloc | apply pw_below_drewN | apply below_drew1) | exact HB.out)) hb)
                                          clear HO_7
                                          clear HO_8
                                          clear HO_9
                                          clear HO1800
                                          clear HO1806
                                          clear HO1813
                                          clear HR1797
                                          clear HR1810
                                          clear HB
                                          have HO_7 := n0_
                                          have HO_8 := n1_
                                          have HO_9 := n2_
                                          have HO1800 := n3_
                                          have HO1806 := n4_
                                          have HO1813 := n5_
                                          have HR1797 := n6_
                                          have HR1810 := n7_
                                          have HB := n8_
                                          clear n0_ n1_ n2_ n3_ n4_ n5_ n6_ n7_ n8_
                                          (try clear hb)
                                          (try clear hb2)
                                          (try clear hk)
                                          (try clear hi)
                                          refine hK.out _ _ trivial (fun hHeld => ?_)
                                          clear hK K
                                          refine norm_ (a' := ?_) ?_ ?_
                                          rotate_left
                                          · show Act.put _ (some 172) _ = _
                                            simp only [Act.put, List.setIfInBounds_toArray, List.set_cons_zero, List.set_cons_succ, i64_w, i32_w]
                                            rfl
                                          refine pure_ (i := 24) (N := some 173) (v := ?_) (a' := ?_) #[true, true, true, true, true, true, true, true, true, true, true, true, true, true, true, true, true, true, true, true, true, true, true, true, true, false] rfl rfl (any_of HT_.out (by kernel_rfl)) (fun _ _ _ h => h) (Or.inl ⟨by rfl, ?_⟩) ?_ ?_
                                          rotate_left
                                          · intro w'
                                            go_simp
                                            with_reducible rfl
                                          rotate_left
                                          · simp only [Act.put, List.setIfInBounds_toArray, List.set_cons_zero, List.set_cons_succ, i64_w, i32_w]
                                            rfl
                                          refine pure_ (i := 25) (N := some 6) (v := ?_) (a' := ?_) #[true, true, true, true, true, true, true, true, true, true, true, true, true, true, true, true, true, true, true, true, true, true, true, true, true, true] rfl rfl (any_of HT_.out (by kernel_rfl)) (fun _ _ _ h => h) (Or.inl ⟨by rfl, ?_⟩) ?_ ?_
                                          rotate_left
                                          · intro w'
                                            go_simp
                                            with_reducible rfl
                                          rotate_left
                                          · simp only [Act.put, List.setIfInBounds_toArray, List.set_cons_zero, List.set_cons_succ, i64_w, i32_w]
                                            rfl
                                          refine done_ (done_of HT_.out (by kernel_rfl)) ?_
                                          try go_wp2
                                          go_ret
                                          exact ⟨by first | rfl | (rw [hX_.out] <;> rfl) | (simp [errW_none, errW_some] <;> rfl) | (simp [*, errW_none, errW_some] <;> rfl), by repeat (first | (with_reducible first | exact HB.out | apply below_alloc | apply pw_below_drewN | apply below_drew1) | exact HB.out)⟩
                                        · rw [if_neg c79] at H
                                          have c79b0 : decide ((x7_2.length : Int) ≤ t1820) = false := decide_eq_false c79
                                          clear c79
                                          exact absurd H (by simp)
                                      · rw [if_neg c77] at H
                                        have c77b0 : (t1819 == (t1798.length : Int)) = false := beq_eq_false_iff_ne.mpr c77
                                        have c77b1 : (t1819 != (t1798.length : Int)) = true := bne_iff_ne.mpr c77
                                        exact absurd H (by simp)
                                    · replace c75 := Bool.eq_false_iff.mpr c75
                                      subst c75
                                      have H1 : (some false) = some true := by rw [if_neg (show ¬ (false = true) by decide)] at H; exact H
                                      clear H
                                      have H := H1
                                      clear H1
                                      exact absurd H (by simp)
                                  · rw [if_neg c73] at H
                                    exact absurd H (by simp)
                                · rw [if_neg c72] at H
                                  exact absurd H (by simp)
                              · rw [if_neg c68] at H
                                exact absurd H (by simp)
                            · rw [if_neg c65] at H
                              exact absurd H (by simp)
                          · rw [if_neg c64] at H
                            exact absurd H (by simp)
end Go.Proofs.Ytoeabgeglgiobaa.P
