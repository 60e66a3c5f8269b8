/- What functions of the given program do, each as a plain Lean function that its call meets: printed by a program of this session out of the translation, checked by Lean. Its conditions: those of each theorem. -/
import Derived.Test.Ytoeabgeglgiobaac5bHstr
import Derived.Test.Ytoeabgeglgiobaac5bP0
import Derived.Test.Ytoeabgeglgiobaac5bGvarint0
namespace Go.Proofs.Ytoeabgeglgiobaa.P
open Go.RowKit Go.Proofs.YtoeabgeglgiobaaW.PrintWords Go.Proofs.YtoeabgeglgiobaaW.PrintLast Go.Proofs.YtoeabgeglgiobaaW.PrintMore
attribute [local go_sem] max2_int min2_int max_two min_two max_three min_three max_four min_four   -- for this text's walks alone
set_option linter.unusedVariables false
set_option linter.unusedSimpArgs false
/-! ### delta_Edit_right: function 172 -/
def delta_Edit_right.j0 : Nat → Int → Bool → Int → Int → ByteArray → Option (Bool)
  | 0, _, _, _, _, _ => none
  | k + 1, x4, x5, x863000, x863001, x863002 => if x5 = true then (if x863001 > 0 then (if x863001 ≤ 2147483647 then (some (x863002.toList == ([] : List UInt8))) else (some false)) else (some false)) else (if x4 = 2 then (if x863001 = 0 then (some (x863002.toList != ([] : List UInt8))) else (some false)) else (some false))
def delta_Edit_right.f (k : Nat) (a0_0 : Int) (a0_1 : Int) (a0_2 : ByteArray) : Option (Bool) := if a0_0 = 1 then (delta_Edit_right.j0 k a0_0 (a0_0 == 1) a0_0 a0_1 a0_2) else (delta_Edit_right.j0 k a0_0 (a0_0 == 3) a0_0 a0_1 a0_2)
set_option maxHeartbeats 8000000 in
set_option maxRecDepth 100000 in
theorem delta_Edit_right.calls (k : Nat) (a0_0 : Int) (a0_1 : Int) (a0_2 : ByteArray) (r : Bool) (w : World) (h : delta_Edit_right.f k a0_0 a0_1 a0_2 = some r) :
    Calls Try.prog 172 #[.agg #[.int .u8 a0_0, .int .i64 a0_1, .string a0_2]] w fun e w' => e = .returned (.bool r) ∧ Below w.heap.size w w' := by
  have hu153 := Try.underlying153
  have HB := Aside0.mk (Below.refl w.heap.size w)
  have H : (if a0_0 = 1 then (delta_Edit_right.j0 k a0_0 (a0_0 == 1) a0_0 a0_1 a0_2) else (delta_Edit_right.j0 k a0_0 (a0_0 == 3) a0_0 a0_1 a0_2)) = some r := h
  clear h
  have HC2 := Aside0.mk H
  clear H
  go_enter Try.func172, Try.ntmps172
  go_upto_if 5 with (first | ((with_reducible refine gate_dst (N := 1) rfl ?_); refine box_event ?hg (N := 1) ?hd (cs := #[.int .u8 a0_0, .int .i64 a0_1, .string a0_2]) (t := 153) ?hr ?_; (case hd => rfl); (case hg => rfl); (case hr => first | (go_simp; done) | (go_simp; rfl)); intro gb862 hg w3 hbox hb; have n0_ := Aside0.mk (below_step (by repeat (first | (with_reducible first | exact HB.out | apply below_alloc | apply pw_below_drewN | apply below_drew1) | exact HB.out)) hb); have n1_ := Aside0.mk (hbox); have n2_ := Aside0.mk ((by rw [hg]; exact (below_size (by repeat (first | (with_reducible first | exact HB.out | apply below_alloc | apply pw_below_drewN | apply below_drew1) | exact HB.out))) : w.heap.size ≤ gb862)); have n3_ := Aside0.mk ((by rw [hg]; exact (below_size (by repeat (first | (with_reducible first | exact HB.out | apply below_alloc | apply pw_below_drewN | apply below_drew1) | exact HB.out))) : w.heap.size ≤ gb862)); clear HB; have HB := n0_; have BK862 := n1_; have GW862 := n2_; have GE862 := n3_; clear n0_ n1_ n2_ n3_; clear hb hbox hg; have hcz4_0 : w3.cell? ⟨gb862, 0, none⟩ = some (.int .u8 a0_0) := (blk_cell BK862.out 0).trans rfl; have hcz4_1 : w3.cell? ⟨gb862, 1, none⟩ = some (.int .i64 a0_1) := (blk_cell BK862.out 1).trans rfl; have hcz4_2 : w3.cell? ⟨gb862, 2, none⟩ = some (.string a0_2) := (blk_cell BK862.out 2).trans rfl; have hfz4_0 := blk_frozen BK862.out 0; have hfz4_1 := blk_frozen BK862.out 1; have hfz4_2 := blk_frozen BK862.out 2))
  (try simp only [Act.put, List.setIfInBounds_toArray, List.set_cons_zero, List.set_cons_succ])
  go_cut [5] (fun v5 wc => ∃ (kq : Nat) (x5_1 : Bool), v5 = .bool x5_1 ∧ Aside0 (delta_Edit_right.j0 kq a0_0 x5_1 a0_0 a0_1 a0_2 = some r) ∧ Aside0 (kq ≤ k) ∧ Aside0 (wc.heap[gb862]? = some (.cells #[.int .u8 a0_0, .int .i64 a0_1, .string a0_2] 153 (0, 0))) ∧ Aside0 (Below w.heap.size w wc))
  case first =>
    have H := HC2.out
    clear HC2
    by_cases c5 : a0_0 = 1
    · rw [if_pos c5] at H
      have c5b0 : (a0_0 == 1) = true := beq_iff_eq.mpr c5
      have c5b1 : (a0_0 != 1) = false := bne_eq_false_iff_eq.mpr c5
      clear c5
      (first | rw [c5b0] | (simp only [i64_w, i32_w]; rw [c5b0]) | skip)
      have H' := Aside0.mk H
      clear H
      go_wp2
      go_meet
      case rel => exact ⟨_, ((a0_0 == 1)), (by first | rfl | (simp; done) | (simp [*]; done)), H', ⟨by first | omega | exact Nat.le_refl _⟩, ⟨by (with_reducible repeat (first | refine blk_drewN ?_ _ | refine blk_drew ?_ | refine blk_alloc ?_ _)); exact BK862.out⟩, ⟨by repeat (first | (with_reducible first | exact HB.out | apply below_alloc | apply pw_below_drewN | apply below_drew1 | refine below_set ?_ GE862.out) | exact HB.out)⟩⟩
    · rw [if_neg c5] at H
      have c5b0 : (a0_0 == 1) = false := beq_eq_false_iff_ne.mpr c5
      have c5b1 : (a0_0 != 1) = true := bne_iff_ne.mpr c5
      (first | rw [c5b0] | (simp only [i64_w, i32_w]; rw [c5b0]) | skip)
      have H' := Aside0.mk H
      clear H
      go_wp2
      go_meet
      case rel => exact ⟨_, ((a0_0 == 3)), (by first | rfl | (simp; done) | (simp [*]; done)), H', ⟨by first | omega | exact Nat.le_refl _⟩, ⟨by (with_reducible repeat (first | refine blk_drewN ?_ _ | refine blk_drew ?_ | refine blk_alloc ?_ _)); exact BK862.out⟩, ⟨by repeat (first | (with_reducible first | exact HB.out | apply below_alloc | apply pw_below_drewN | apply below_drew1 | refine below_set ?_ GE862.out) | exact HB.out)⟩⟩
  case rest =>
    clear HC2
    try clear c1
    try clear p2
    try clear c5
    try clear c5b0
    try clear c5b1
    try clear hcz4_0
    try clear hcz4_1
    try clear hcz4_2
    try clear hfz4_0
    try clear hfz4_1
    try clear hfz4_2
    obtain ⟨kq, x5_1, rfl, HA, HJ1, BK862, HB⟩ := hcut
    cases kq with
    | zero => exact absurd HA.out (by simp [delta_Edit_right.j0])
    | succ kj1 =>
      have H := HA.out
      clear HA
      simp only [delta_Edit_right.j0] at H
      by_cases c6 : x5_1 = true
      · subst c6
        have H1 : (if a0_1 > 0 then (if a0_1 ≤ 2147483647 then (some (a0_2.toList == ([] : List UInt8))) else (some false)) else (some false)) = some r := by rw [if_pos rfl] at H; exact H
        clear H
        have H := H1
        clear H1
        by_cases c7 : a0_1 > 0
        · rw [if_pos c7] at H
          have c7b0 : decide (0 < a0_1) = true := decide_eq_true c7
          clear c7
          by_cases c8 : a0_1 ≤ 2147483647
          · rw [if_pos c8] at H
            have c8b0 : decide (a0_1 ≤ 2147483647) = true := decide_eq_true c8
            clear c8
            obtain rfl := Option.some.inj H
            have hcz9_0 : wc.cell? ⟨gb862, 0, none⟩ = some (.int .u8 a0_0) := (blk_cell BK862.out 0).trans rfl
            have hcz9_1 : wc.cell? ⟨gb862, 1, none⟩ = some (.int .i64 a0_1) := (blk_cell BK862.out 1).trans rfl
            have hcz9_2 : wc.cell? ⟨gb862, 2, none⟩ = some (.string a0_2) := (blk_cell BK862.out 2).trans rfl
            have hfz9_0 := blk_frozen BK862.out 0
            have hfz9_1 := blk_frozen BK862.out 1
            have hfz9_2 := blk_frozen BK862.out 2
            go_wp2
            go_ret
            exact ⟨by first | rfl | (rw [← isEmpty_bne]; rfl) | (rw [← isEmpty_beq]; rfl) | (simp [errW_none, errW_some] <;> rfl) | (simp [*, errW_none, errW_some] <;> rfl), by repeat (first | (with_reducible first | exact HB.out | apply below_alloc | apply pw_below_drewN | apply below_drew1 | refine below_set ?_ GE862.out) | exact HB.out)⟩
          · rw [if_neg c8] at H
            have c8b0 : decide (a0_1 ≤ 2147483647) = false := decide_eq_false c8
            clear c8
            obtain rfl := Option.some.inj H
            have hcz10_0 : wc.cell? ⟨gb862, 0, none⟩ = some (.int .u8 a0_0) := (blk_cell BK862.out 0).trans rfl
            have hcz10_1 : wc.cell? ⟨gb862, 1, none⟩ = some (.int .i64 a0_1) := (blk_cell BK862.out 1).trans rfl
            have hcz10_2 : wc.cell? ⟨gb862, 2, none⟩ = some (.string a0_2) := (blk_cell BK862.out 2).trans rfl
            have hfz10_0 := blk_frozen BK862.out 0
            have hfz10_1 := blk_frozen BK862.out 1
            have hfz10_2 := blk_frozen BK862.out 2
            go_wp2
            go_ret
            exact ⟨by first | rfl | (rw [← isEmpty_bne]; rfl) | (rw [← isEmpty_beq]; rfl) | (simp [errW_none, errW_some] <;> rfl) | (simp [*, errW_none, errW_some] <;> rfl), by repeat (first | (with_reducible first | exact HB.out | apply below_alloc | apply pw_below_drewN | apply below_drew1 | refine below_set ?_ GE862.out) | exact HB.out)⟩
        · rw [if_neg c7] at H
          have c7b0 : decide (0 < a0_1) = false := decide_eq_false c7
          clear c7
          obtain rfl := Option.some.inj H
          have hcz11_0 : wc.cell? ⟨gb862, 0, none⟩ = some (.int .u8 a0_0) := (blk_cell BK862.out 0).trans rfl
          have hcz11_1 : wc.cell? ⟨gb862, 1, none⟩ = some (.int .i64 a0_1) := (blk_cell BK862.out 1).trans rfl
          have hcz11_2 : wc.cell? ⟨gb862, 2, none⟩ = some (.string a0_2) := (blk_cell BK862.out 2).trans rfl
          have hfz11_0 := blk_frozen BK862.out 0
          have hfz11_1 := blk_frozen BK862.out 1
          have hfz11_2 := blk_frozen BK862.out 2
          go_wp2
          go_ret
          exact ⟨by first | rfl | (rw [← isEmpty_bne]; rfl) | (rw [← isEmpty_beq]; rfl) | (simp [errW_none, errW_some] <;> rfl) | (simp [*, errW_none, errW_some] <;> rfl), by repeat (first | (with_reducible first | exact HB.out | apply below_alloc | apply pw_below_drewN | apply below_drew1 | refine below_set ?_ GE862.out) | exact HB.out)⟩
      · replace c6 := Bool.eq_false_iff.mpr c6
        subst c6
        have H1 : (if a0_0 = 2 then (if a0_1 = 0 then (some (a0_2.toList != ([] : List UInt8))) else (some false)) else (some false)) = some r := by rw [if_neg (show ¬ (false = true) by decide)] at H; exact H
        clear H
        have H := H1
        clear H1
        by_cases c12 : a0_0 = 2
        · rw [if_pos c12] at H
          have c12b0 : (a0_0 == 2) = true := beq_iff_eq.mpr c12
          have c12b1 : (a0_0 != 2) = false := bne_eq_false_iff_eq.mpr c12
          clear c12
          by_cases c13 : a0_1 = 0
          · rw [if_pos c13] at H
            have c13b0 : (a0_1 == 0) = true := beq_iff_eq.mpr c13
            have c13b1 : (a0_1 != 0) = false := bne_eq_false_iff_eq.mpr c13
            clear c13
            obtain rfl := Option.some.inj H
            have hcz14_0 : wc.cell? ⟨gb862, 0, none⟩ = some (.int .u8 a0_0) := (blk_cell BK862.out 0).trans rfl
            have hcz14_1 : wc.cell? ⟨gb862, 1, none⟩ = some (.int .i64 a0_1) := (blk_cell BK862.out 1).trans rfl
            have hcz14_2 : wc.cell? ⟨gb862, 2, none⟩ = some (.string a0_2) := (blk_cell BK862.out 2).trans rfl
            have hfz14_0 := blk_frozen BK862.out 0
            have hfz14_1 := blk_frozen BK862.out 1
            have hfz14_2 := blk_frozen BK862.out 2
            go_wp2
            go_ret
            exact ⟨by first | rfl | (rw [← isEmpty_bne]; rfl) | (rw [← isEmpty_beq]; rfl) | (simp [errW_none, errW_some] <;> rfl) | (simp [*, errW_none, errW_some] <;> rfl), by repeat (first | (with_reducible first | exact HB.out | apply below_alloc | apply pw_below_drewN | apply below_drew1 | refine below_set ?_ GE862.out) | exact HB.out)⟩
          · rw [if_neg c13] at H
            have c13b0 : (a0_1 == 0) = false := beq_eq_false_iff_ne.mpr c13
            have c13b1 : (a0_1 != 0) = true := bne_iff_ne.mpr c13
            obtain rfl := Option.some.inj H
            have hcz15_0 : wc.cell? ⟨gb862, 0, none⟩ = some (.int .u8 a0_0) := (blk_cell BK862.out 0).trans rfl
            have hcz15_1 : wc.cell? ⟨gb862, 1, none⟩ = some (.int .i64 a0_1) := (blk_cell BK862.out 1).trans rfl
            have hcz15_2 : wc.cell? ⟨gb862, 2, none⟩ = some (.string a0_2) := (blk_cell BK862.out 2).trans rfl
            have hfz15_0 := blk_frozen BK862.out 0
            have hfz15_1 := blk_frozen BK862.out 1
            have hfz15_2 := blk_frozen BK862.out 2
            go_wp2
            go_ret
            exact ⟨by first | rfl | (rw [← isEmpty_bne]; rfl) | (rw [← isEmpty_beq]; rfl) | (simp [errW_none, errW_some] <;> rfl) | (simp [*, errW_none, errW_some] <;> rfl), by repeat (first | (with_reducible first | exact HB.out | apply below_alloc | apply pw_below_drewN | apply below_drew1 | refine below_set ?_ GE862.out) | exact HB.out)⟩
        · rw [if_neg c12] at H
          have c12b0 : (a0_0 == 2) = false := beq_eq_false_iff_ne.mpr c12
          have c12b1 : (a0_0 != 2) = true := bne_iff_ne.mpr c12
          obtain rfl := Option.some.inj H
          go_wp2
          go_ret
          exact ⟨by first | rfl | (rw [← isEmpty_bne]; rfl) | (rw [← isEmpty_beq]; rfl) | (simp [errW_none, errW_some] <;> rfl) | (simp [*, errW_none, errW_some] <;> rfl), by repeat (first | (with_reducible first | exact HB.out | apply below_alloc | apply pw_below_drewN | apply below_drew1 | refine below_set ?_ GE862.out) | exact HB.out)⟩
/-! ### delta_Edit_sizes: function 171 -/
def delta_Edit_sizes.f (k : Nat) (a0_0 : Int) (a0_1 : Int) (a0_2 : ByteArray) : Option (Int × Int) := (delta_Edit_right.f k a0_0 a0_1 a0_2).bind fun t864 => (if t864 = true then (if a0_0 = 2 then (some (0, (a0_2.size : Int))) else (if a0_0 = 3 then (some (a0_1, 0)) else (some (a0_1, a0_1)))) else (some (0, 0)))
set_option maxHeartbeats 8000000 in
set_option maxRecDepth 100000 in
theorem delta_Edit_sizes.calls (k : Nat) (a0_0 : Int) (a0_1 : Int) (a0_2 : ByteArray) (r1 : Int) (r2 : Int) (w : World) (h : delta_Edit_sizes.f k a0_0 a0_1 a0_2 = some (r1, r2)) :
    Calls Try.prog 171 #[.agg #[.int .u8 a0_0, .int .i64 a0_1, .string a0_2]] w fun e w' => e = .returned (.tuple #[.int .i64 r1, .int .i64 r2]) ∧ Below w.heap.size w w' := by
  have hu153 := Try.underlying153
  have HB := Aside0.mk (Below.refl w.heap.size w)
  have H : ((delta_Edit_right.f k a0_0 a0_1 a0_2).bind fun t864 => (if t864 = true then (if a0_0 = 2 then (some (0, (a0_2.size : Int))) else (if a0_0 = 3 then (some (a0_1, 0)) else (some (a0_1, a0_1)))) else (some (0, 0)))) = some (r1, r2) := h
  clear h
  replace H := Option.bind_eq_some_iff.mp H
  obtain ⟨t864, A20, H⟩ := H
  replace H : (if t864 = true then (if a0_0 = 2 then (some (0, (a0_2.size : Int))) else (if a0_0 = 3 then (some (a0_1, 0)) else (some (a0_1, a0_1)))) else (some (0, 0))) = some (r1, r2) := H
  have A2 := Aside0.mk A20
  clear A20
  by_cases c3 : t864 = true
  · subst c3
    have H1 : (if a0_0 = 2 then (some (0, (a0_2.size : Int))) else (if a0_0 = 3 then (some (a0_1, 0)) else (some (a0_1, a0_1)))) = some (r1, r2) := by rw [if_pos rfl] at H; exact H
    clear H
    have H := H1
    clear H1
    by_cases c4 : a0_0 = 2
    · rw [if_pos c4] at H
      have c4b0 : (a0_0 == 2) = true := beq_iff_eq.mpr c4
      have c4b1 : (a0_0 != 2) = false := bne_eq_false_iff_eq.mpr c4
      clear c4
      simp only [Option.some.injEq, Prod.mk.injEq] at H
      obtain ⟨rfl, rfl⟩ := H
      go_enter Try.func171, Try.ntmps171
      go_wp2_with (first | ((with_reducible refine gate_dst (N := 1) rfl ?_); refine box_event ?hg (N := 1) ?hd (cs := #[.int .u8 a0_0, .int .i64 a0_1, .string a0_2]) (t := 153) ?hr ?_; (case hd => rfl); (case hg => rfl); (case hr => first | (go_simp; done) | (go_simp; rfl)); intro gb863 hg w5 hbox hb; have n0_ := Aside0.mk (below_step (by repeat (first | (with_reducible first | exact HB.out | apply below_alloc | apply pw_below_drewN | apply below_drew1) | exact HB.out)) hb); have n1_ := Aside0.mk (hbox); have n2_ := Aside0.mk ((by rw [hg]; exact (below_size (by repeat (first | (with_reducible first | exact HB.out | apply below_alloc | apply pw_below_drewN | apply below_drew1) | exact HB.out))) : w.heap.size ≤ gb863)); have n3_ := Aside0.mk ((by rw [hg]; exact (below_size (by repeat (first | (with_reducible first | exact HB.out | apply below_alloc | apply pw_below_drewN | apply below_drew1) | exact HB.out))) : w.heap.size ≤ gb863)); clear HB; have HB := n0_; have BK863 := n1_; have GW863 := n2_; have GE863 := n3_; clear n0_ n1_ n2_ n3_; clear hb hbox hg; have hcz6_0 : w5.cell? ⟨gb863, 0, none⟩ = some (.int .u8 a0_0) := (blk_cell BK863.out 0).trans rfl; have hcz6_1 : w5.cell? ⟨gb863, 1, none⟩ = some (.int .i64 a0_1) := (blk_cell BK863.out 1).trans rfl; have hcz6_2 : w5.cell? ⟨gb863, 2, none⟩ = some (.string a0_2) := (blk_cell BK863.out 2).trans rfl; have hfz6_0 := blk_frozen BK863.out 0; have hfz6_1 := blk_frozen BK863.out 1; have hfz6_2 := blk_frozen BK863.out 2) | (go_at_call 172; (with_reducible refine (delta_Edit_right.calls k a0_0 a0_1 a0_2 true _ A2.out).mono ?_); rintro e w7 ⟨rfl, hb⟩; have n0_ := Aside0.mk (blk_below (g := gb863) (o := .cells #[.int .u8 a0_0, .int .i64 a0_1, .string a0_2] 153 (0, 0)) (by (with_reducible repeat (first | refine blk_drewN ?_ _ | refine blk_drew ?_ | refine blk_alloc ?_ _)); exact BK863.out) hb); have n1_ := Aside0.mk (below_step (by repeat (first | (with_reducible first | exact HB.out | apply below_alloc | apply pw_below_drewN | apply below_drew1 | refine below_set ?_ GE863.out) | exact HB.out)) hb); clear BK863; clear HB; have BK863 := n0_; have HB := n1_; clear n0_ n1_; (try clear hb); (try clear hb2); (try clear hk); (try clear hi); have hcz8_0 : w7.cell? ⟨gb863, 0, none⟩ = some (.int .u8 a0_0) := (blk_cell BK863.out 0).trans rfl; have hcz8_1 : w7.cell? ⟨gb863, 1, none⟩ = some (.int .i64 a0_1) := (blk_cell BK863.out 1).trans rfl; have hcz8_2 : w7.cell? ⟨gb863, 2, none⟩ = some (.string a0_2) := (blk_cell BK863.out 2).trans rfl; have hfz8_0 := blk_frozen BK863.out 0; have hfz8_1 := blk_frozen BK863.out 1; have hfz8_2 := blk_frozen BK863.out 2))
      repeat (go_quiet (first | ((with_reducible refine gate_dst (N := 1) rfl ?_); refine box_event ?hg (N := 1) ?hd (cs := #[.int .u8 a0_0, .int .i64 a0_1, .string a0_2]) (t := 153) ?hr ?_; (case hd => rfl); (case hg => rfl); (case hr => first | (go_simp; done) | (go_simp; rfl)); intro gb863 hg w5 hbox hb; have n0_ := Aside0.mk (below_step (by repeat (first | (with_reducible first | exact HB.out | apply below_alloc | apply pw_below_drewN | apply below_drew1) | exact HB.out)) hb); have n1_ := Aside0.mk (hbox); have n2_ := Aside0.mk ((by rw [hg]; exact (below_size (by repeat (first | (with_reducible first | exact HB.out | apply below_alloc | apply pw_below_drewN | apply below_drew1) | exact HB.out))) : w.heap.size ≤ gb863)); have n3_ := Aside0.mk ((by rw [hg]; exact (below_size (by repeat (first | (with_reducible first | exact HB.out | apply below_alloc | apply pw_below_drewN | apply below_drew1) | exact HB.out))) : w.heap.size ≤ gb863)); clear HB; have HB := n0_; have BK863 := n1_; have GW863 := n2_; have GE863 := n3_; clear n0_ n1_ n2_ n3_; clear hb hbox hg; have hcz6_0 : w5.cell? ⟨gb863, 0, none⟩ = some (.int .u8 a0_0) := (blk_cell BK863.out 0).trans rfl; have hcz6_1 : w5.cell? ⟨gb863, 1, none⟩ = some (.int .i64 a0_1) := (blk_cell BK863.out 1).trans rfl; have hcz6_2 : w5.cell? ⟨gb863, 2, none⟩ = some (.string a0_2) := (blk_cell BK863.out 2).trans rfl; have hfz6_0 := blk_frozen BK863.out 0; have hfz6_1 := blk_frozen BK863.out 1; have hfz6_2 := blk_frozen BK863.out 2) | (go_at_call 172; (with_reducible refine (delta_Edit_right.calls k a0_0 a0_1 a0_2 true _ A2.out).mono ?_); rintro e w7 ⟨rfl, hb⟩; have n0_ := Aside0.mk (blk_below (g := gb863) (o := .cells #[.int .u8 a0_0, .int .i64 a0_1, .string a0_2] 153 (0, 0)) (by (with_reducible repeat (first | refine blk_drewN ?_ _ | refine blk_drew ?_ | refine blk_alloc ?_ _)); exact BK863.out) hb); have n1_ := Aside0.mk (below_step (by repeat (first | (with_reducible first | exact HB.out | apply below_alloc | apply pw_below_drewN | apply below_drew1 | refine below_set ?_ GE863.out) | exact HB.out)) hb); clear BK863; clear HB; have BK863 := n0_; have HB := n1_; clear n0_ n1_; (try clear hb); (try clear hb2); (try clear hk); (try clear hi); have hcz8_0 : w7.cell? ⟨gb863, 0, none⟩ = some (.int .u8 a0_0) := (blk_cell BK863.out 0).trans rfl; have hcz8_1 : w7.cell? ⟨gb863, 1, none⟩ = some (.int .i64 a0_1) := (blk_cell BK863.out 1).trans rfl; have hcz8_2 : w7.cell? ⟨gb863, 2, none⟩ = some (.string a0_2) := (blk_cell BK863.out 2).trans rfl; have hfz8_0 := blk_frozen BK863.out 0; have hfz8_1 := blk_frozen BK863.out 1; have hfz8_2 := blk_frozen BK863.out 2)); try go_wp2_with (first | ((with_reducible refine gate_dst (N := 1) rfl ?_); refine box_event ?hg (N := 1) ?hd (cs := #[.int .u8 a0_0, .int .i64 a0_1, .string a0_2]) (t := 153) ?hr ?_; (case hd => rfl); (case hg => rfl); (case hr => first | (go_simp; done) | (go_simp; rfl)); intro gb863 hg w5 hbox hb; have n0_ := Aside0.mk (below_step (by repeat (first | (with_reducible first | exact HB.out | apply below_alloc | apply pw_below_drewN | apply below_drew1) | exact HB.out)) hb); have n1_ := Aside0.mk (hbox); have n2_ := Aside0.mk ((by rw [hg]; exact (below_size (by repeat (first | (with_reducible first | exact HB.out | apply below_alloc | apply pw_below_drewN | apply below_drew1) | exact HB.out))) : w.heap.size ≤ gb863)); have n3_ := Aside0.mk ((by rw [hg]; exact (below_size (by repeat (first | (with_reducible first | exact HB.out | apply below_alloc | apply pw_below_drewN | apply below_drew1) | exact HB.out))) : w.heap.size ≤ gb863)); clear HB; have HB := n0_; have BK863 := n1_; have GW863 := n2_; have GE863 := n3_; clear n0_ n1_ n2_ n3_; clear hb hbox hg; have hcz6_0 : w5.cell? ⟨gb863, 0, none⟩ = some (.int .u8 a0_0) := (blk_cell BK863.out 0).trans rfl; have hcz6_1 : w5.cell? ⟨gb863, 1, none⟩ = some (.int .i64 a0_1) := (blk_cell BK863.out 1).trans rfl; have hcz6_2 : w5.cell? ⟨gb863, 2, none⟩ = some (.string a0_2) := (blk_cell BK863.out 2).trans rfl; have hfz6_0 := blk_frozen BK863.out 0; have hfz6_1 := blk_frozen BK863.out 1; have hfz6_2 := blk_frozen BK863.out 2) | (go_at_call 172; (with_reducible refine (delta_Edit_right.calls k a0_0 a0_1 a0_2 true _ A2.out).mono ?_); rintro e w7 ⟨rfl, hb⟩; have n0_ := Aside0.mk (blk_below (g := gb863) (o := .cells #[.int .u8 a0_0, .int .i64 a0_1, .string a0_2] 153 (0, 0)) (by (with_reducible repeat (first | refine blk_drewN ?_ _ | refine blk_drew ?_ | refine blk_alloc ?_ _)); exact BK863.out) hb); have n1_ := Aside0.mk (below_step (by repeat (first | (with_reducible first | exact HB.out | apply below_alloc | apply pw_below_drewN | apply below_drew1 | refine below_set ?_ GE863.out) | exact HB.out)) hb); clear BK863; clear HB; have BK863 := n0_; have HB := n1_; clear n0_ n1_; (try clear hb); (try clear hb2); (try clear hk); (try clear hi); have hcz8_0 : w7.cell? ⟨gb863, 0, none⟩ = some (.int .u8 a0_0) := (blk_cell BK863.out 0).trans rfl; have hcz8_1 : w7.cell? ⟨gb863, 1, none⟩ = some (.int .i64 a0_1) := (blk_cell BK863.out 1).trans rfl; have hcz8_2 : w7.cell? ⟨gb863, 2, none⟩ = some (.string a0_2) := (blk_cell BK863.out 2).trans rfl; have hfz8_0 := blk_frozen BK863.out 0; have hfz8_1 := blk_frozen BK863.out 1; have hfz8_2 := blk_frozen BK863.out 2)))
      go_ret2
      exact ⟨by first | rfl | (rw [← isEmpty_bne]; rfl) | (rw [← isEmpty_beq]; rfl) | (simp [errW_none, errW_some] <;> rfl) | (simp [*, errW_none, errW_some] <;> rfl), by repeat (first | (with_reducible first | exact HB.out | apply below_alloc | apply pw_below_drewN | apply below_drew1 | refine below_set ?_ GE863.out) | exact HB.out)⟩
    · rw [if_neg c4] at H
      have c4b0 : (a0_0 == 2) = false := beq_eq_false_iff_ne.mpr c4
      have c4b1 : (a0_0 != 2) = true := bne_iff_ne.mpr c4
      by_cases c9 : a0_0 = 3
      · rw [if_pos c9] at H
        have c9b0 : (a0_0 == 3) = true := beq_iff_eq.mpr c9
        have c9b1 : (a0_0 != 3) = false := bne_eq_false_iff_eq.mpr c9
        clear c9
        simp only [Option.some.injEq, Prod.mk.injEq] at H
        obtain ⟨rfl, rfl⟩ := H
        go_enter Try.func171, Try.ntmps171
        go_wp2_with (first | ((with_reducible refine gate_dst (N := 1) rfl ?_); refine box_event ?hg (N := 1) ?hd (cs := #[.int .u8 a0_0, .int .i64 a0_1, .string a0_2]) (t := 153) ?hr ?_; (case hd => rfl); (case hg => rfl); (case hr => first | (go_simp; done) | (go_simp; rfl)); intro gb863 hg w10 hbox hb; have n0_ := Aside0.mk (below_step (by repeat (first | (with_reducible first | exact HB.out | apply below_alloc | apply pw_below_drewN | apply below_drew1) | exact HB.out)) hb); have n1_ := Aside0.mk (hbox); have n2_ := Aside0.mk ((by rw [hg]; exact (below_size (by repeat (first | (with_reducible first | exact HB.out | apply below_alloc | apply pw_below_drewN | apply below_drew1) | exact HB.out))) : w.heap.size ≤ gb863)); have n3_ := Aside0.mk ((by rw [hg]; exact (below_size (by repeat (first | (with_reducible first | exact HB.out | apply below_alloc | apply pw_below_drewN | apply below_drew1) | exact HB.out))) : w.heap.size ≤ gb863)); clear HB; have HB := n0_; have BK863 := n1_; have GW863 := n2_; have GE863 := n3_; clear n0_ n1_ n2_ n3_; clear hb hbox hg; have hcz11_0 : w10.cell? ⟨gb863, 0, none⟩ = some (.int .u8 a0_0) := (blk_cell BK863.out 0).trans rfl; have hcz11_1 : w10.cell? ⟨gb863, 1, none⟩ = some (.int .i64 a0_1) := (blk_cell BK863.out 1).trans rfl; have hcz11_2 : w10.cell? ⟨gb863, 2, none⟩ = some (.string a0_2) := (blk_cell BK863.out 2).trans rfl; have hfz11_0 := blk_frozen BK863.out 0; have hfz11_1 := blk_frozen BK863.out 1; have hfz11_2 := blk_frozen BK863.out 2) | (go_at_call 172; (with_reducible refine (delta_Edit_right.calls k a0_0 a0_1 a0_2 true _ A2.out).mono ?_); rintro e w12 ⟨rfl, hb⟩; have n0_ := Aside0.mk (blk_below (g := gb863) (o := .cells #[.int .u8 a0_0, .int .i64 a0_1, .string a0_2] 153 (0, 0)) (by (with_reducible repeat (first | refine blk_drewN ?_ _ | refine blk_drew ?_ | refine blk_alloc ?_ _)); exact BK863.out) hb); have n1_ := Aside0.mk (below_step (by repeat (first | (with_reducible first | exact HB.out | apply below_alloc | apply pw_below_drewN | apply below_drew1 | refine below_set ?_ GE863.out) | exact HB.out)) hb); clear BK863; clear HB; have BK863 := n0_; have HB := n1_; clear n0_ n1_; (try clear hb); (try clear hb2); (try clear hk); (try clear hi); have hcz13_0 : w12.cell? ⟨gb863, 0, none⟩ = some (.int .u8 a0_0) := (blk_cell BK863.out 0).trans rfl; have hcz13_1 : w12.cell? ⟨gb863, 1, none⟩ = some (.int .i64 a0_1) := (blk_cell BK863.out 1).trans rfl; have hcz13_2 : w12.cell? ⟨gb863, 2, none⟩ = some (.string a0_2) := (blk_cell BK863.out 2).trans rfl; have hfz13_0 := blk_frozen BK863.out 0; have hfz13_1 := blk_frozen BK863.out 1; have hfz13_2 := blk_frozen BK863.out 2))
        repeat (go_quiet (first | ((with_reducible refine gate_dst (N := 1) rfl ?_); refine box_event ?hg (N := 1) ?hd (cs := #[.int .u8 a0_0, .int .i64 a0_1, .string a0_2]) (t := 153) ?hr ?_; (case hd => rfl); (case hg => rfl); (case hr => first | (go_simp; done) | (go_simp; rfl)); intro gb863 hg w10 hbox hb; have n0_ := Aside0.mk (below_step (by repeat (first | (with_reducible first | exact HB.out | apply below_alloc | apply pw_below_drewN | apply below_drew1) | exact HB.out)) hb); have n1_ := Aside0.mk (hbox); have n2_ := Aside0.mk ((by rw [hg]; exact (below_size (by repeat (first | (with_reducible first | exact HB.out | apply below_alloc | apply pw_below_drewN | apply below_drew1) | exact HB.out))) : w.heap.size ≤ gb863)); have n3_ := Aside0.mk ((by rw [hg]; exact (below_size (by repeat (first | (with_reducible first | exact HB.out | apply below_alloc | apply pw_below_drewN | apply below_drew1) | exact HB.out))) : w.heap.size ≤ gb863)); clear HB; have HB := n0_; have BK863 := n1_; have GW863 := n2_; have GE863 := n3_; clear n0_ n1_ n2_ n3_; clear hb hbox hg; have hcz11_0 : w10.cell? ⟨gb863, 0, none⟩ = some (.int .u8 a0_0) := (blk_cell BK863.out 0).trans rfl; have hcz11_1 : w10.cell? ⟨gb863, 1, none⟩ = some (.int .i64 a0_1) := (blk_cell BK863.out 1).trans rfl; have hcz11_2 : w10.cell? ⟨gb863, 2, none⟩ = some (.string a0_2) := (blk_cell BK863.out 2).trans rfl; have hfz11_0 := blk_frozen BK863.out 0; have hfz11_1 := blk_frozen BK863.out 1; have hfz11_2 := blk_frozen BK863.out 2) | (go_at_call 172; (with_reducible refine (delta_Edit_right.calls k a0_0 a0_1 a0_2 true _ A2.out).mono ?_); rintro e w12 ⟨rfl, hb⟩; have n0_ := Aside0.mk (blk_below (g := gb863) (o := .cells #[.int .u8 a0_0, .int .i64 a0_1, .string a0_2] 153 (0, 0)) (by (with_reducible repeat (first | refine blk_drewN ?_ _ | refine blk_drew ?_ | refine blk_alloc ?_ _)); exact BK863.out) hb); have n1_ := Aside0.mk (below_step (by repeat (first | (with_reducible first | exact HB.out | apply below_alloc | apply pw_below_drewN | apply below_drew1 | refine below_set ?_ GE863.out) | exact HB.out)) hb); clear BK863; clear HB; have BK863 := n0_; have HB := n1_; clear n0_ n1_; (try clear hb); (try clear hb2); (try clear hk); (try clear hi); have hcz13_0 : w12.cell? ⟨gb863, 0, none⟩ = some (.int .u8 a0_0) := (blk_cell BK863.out 0).trans rfl; have hcz13_1 : w12.cell? ⟨gb863, 1, none⟩ = some (.int .i64 a0_1) := (blk_cell BK863.out 1).trans rfl; have hcz13_2 : w12.cell? ⟨gb863, 2, none⟩ = some (.string a0_2) := (blk_cell BK863.out 2).trans rfl; have hfz13_0 := blk_frozen BK863.out 0; have hfz13_1 := blk_frozen BK863.out 1; have hfz13_2 := blk_frozen BK863.out 2)); try go_wp2_with (first | ((with_reducible refine gate_dst (N := 1) rfl ?_); refine box_event ?hg (N := 1) ?hd (cs := #[.int .u8 a0_0, .int .i64 a0_1, .string a0_2]) (t := 153) ?hr ?_; (case hd => rfl); (case hg => rfl); (case hr => first | (go_simp; done) | (go_simp; rfl)); intro gb863 hg w10 hbox hb; have n0_ := Aside0.mk (below_step (by repeat (first | (with_reducible first | exact HB.out | apply below_alloc | apply pw_below_drewN | apply below_drew1) | exact HB.out)) hb); have n1_ := Aside0.mk (hbox); have n2_ := Aside0.mk ((by rw [hg]; exact (below_size (by repeat (first | (with_reducible first | exact HB.out | apply below_alloc | apply pw_below_drewN | apply below_drew1) | exact HB.out))) : w.heap.size ≤ gb863)); have n3_ := Aside0.mk ((by rw [hg]; exact (below_size (by repeat (first | (with_reducible first | exact HB.out | apply below_alloc | apply pw_below_drewN | apply below_drew1) | exact HB.out))) : w.heap.size ≤ gb863)); clear HB; have HB := n0_; have BK863 := n1_; have GW863 := n2_; have GE863 := n3_; clear n0_ n1_ n2_ n3_; clear hb hbox hg; have hcz11_0 : w10.cell? ⟨gb863, 0, none⟩ = some (.int .u8 a0_0) := (blk_cell BK863.out 0).trans rfl; have hcz11_1 : w10.cell? ⟨gb863, 1, none⟩ = some (.int .i64 a0_1) := (blk_cell BK863.out 1).trans rfl; have hcz11_2 : w10.cell? ⟨gb863, 2, none⟩ = some (.string a0_2) := (blk_cell BK863.out 2).trans rfl; have hfz11_0 := blk_frozen BK863.out 0; have hfz11_1 := blk_frozen BK863.out 1; have hfz11_2 := blk_frozen BK863.out 2) | (go_at_call 172; (with_reducible refine (delta_Edit_right.calls k a0_0 a0_1 a0_2 true _ A2.out).mono ?_); rintro e w12 ⟨rfl, hb⟩; have n0_ := Aside0.mk (blk_below (g := gb863) (o := .cells #[.int .u8 a0_0, .int .i64 a0_1, .string a0_2] 153 (0, 0)) (by (with_reducible repeat (first | refine blk_drewN ?_ _ | refine blk_drew ?_ | refine blk_alloc ?_ _)); exact BK863.out) hb); have n1_ := Aside0.mk (below_step (by repeat (first | (with_reducible first | exact HB.out | apply below_alloc | apply pw_below_drewN | apply below_drew1 | refine below_set ?_ GE863.out) | exact HB.out)) hb); clear BK863; clear HB; have BK863 := n0_; have HB := n1_; clear n0_ n1_; (try clear hb); (try clear hb2); (try clear hk); (try clear hi); have hcz13_0 : w12.cell? ⟨gb863, 0, none⟩ = some (.int .u8 a0_0) := (blk_cell BK863.out 0).trans rfl; have hcz13_1 : w12.cell? ⟨gb863, 1, none⟩ = some (.int .i64 a0_1) := (blk_cell BK863.out 1).trans rfl; have hcz13_2 : w12.cell? ⟨gb863, 2, none⟩ = some (.string a0_2) := (blk_cell BK863.out 2).trans rfl; have hfz13_0 := blk_frozen BK863.out 0; have hfz13_1 := blk_frozen BK863.out 1; have hfz13_2 := blk_frozen BK863.out 2)))
        go_ret2
        exact ⟨by first | rfl | (rw [← isEmpty_bne]; rfl) | (rw [← isEmpty_beq]; rfl) | (simp [errW_none, errW_some] <;> rfl) | (simp [*, errW_none, errW_some] <;> rfl), by repeat (first | (with_reducible first | exact HB.out | apply below_alloc | apply pw_below_drewN | apply below_drew1 | refine below_set ?_ GE863.out) | exact HB.out)⟩
      · rw [if_neg c9] at H
        have c9b0 : (a0_0 == 3) = false := beq_eq_false_iff_ne.mpr c9
        have c9b1 : (a0_0 != 3) = true := bne_iff_ne.mpr c9
        simp only [Option.some.injEq, Prod.mk.injEq] at H
        obtain ⟨rfl, rfl⟩ := H
        go_enter Try.func171, Try.ntmps171
        go_wp2_with (first | ((with_reducible refine gate_dst (N := 1) rfl ?_); refine box_event ?hg (N := 1) ?hd (cs := #[.int .u8 a0_0, .int .i64 a0_1, .string a0_2]) (t := 153) ?hr ?_; (case hd => rfl); (case hg => rfl); (case hr => first | (go_simp; done) | (go_simp; rfl)); intro gb863 hg w14 hbox hb; have n0_ := Aside0.mk (below_step (by repeat (first | (with_reducible first | exact HB.out | apply below_alloc | apply pw_below_drewN | apply below_drew1) | exact HB.out)) hb); have n1_ := Aside0.mk (hbox); have n2_ := Aside0.mk ((by rw [hg]; exact (below_size (by repeat (first | (with_reducible first | exact HB.out | apply below_alloc | apply pw_below_drewN | apply below_drew1) | exact HB.out))) : w.heap.size ≤ gb863)); have n3_ := Aside0.mk ((by rw [hg]; exact (below_size (by repeat (first | (with_reducible first | exact HB.out | apply below_alloc | apply pw_below_drewN | apply below_drew1) | exact HB.out))) : w.heap.size ≤ gb863)); clear HB; have HB := n0_; have BK863 := n1_; have GW863 := n2_; have GE863 := n3_; clear n0_ n1_ n2_ n3_; clear hb hbox hg; have hcz15_0 : w14.cell? ⟨gb863, 0, none⟩ = some (.int .u8 a0_0) := (blk_cell BK863.out 0).trans rfl; have hcz15_1 : w14.cell? ⟨gb863, 1, none⟩ = some (.int .i64 a0_1) := (blk_cell BK863.out 1).trans rfl; have hcz15_2 : w14.cell? ⟨gb863, 2, none⟩ = some (.string a0_2) := (blk_cell BK863.out 2).trans rfl; have hfz15_0 := blk_frozen BK863.out 0; have hfz15_1 := blk_frozen BK863.out 1; have hfz15_2 := blk_frozen BK863.out 2) | (go_at_call 172; (with_reducible refine (delta_Edit_right.calls k a0_0 a0_1 a0_2 true _ A2.out).mono ?_); rintro e w16 ⟨rfl, hb⟩; have n0_ := Aside0.mk (blk_below (g := gb863) (o := .cells #[.int .u8 a0_0, .int .i64 a0_1, .string a0_2] 153 (0, 0)) (by (with_reducible repeat (first | refine blk_drewN ?_ _ | refine blk_drew ?_ | refine blk_alloc ?_ _)); exact BK863.out) hb); have n1_ := Aside0.mk (below_step (by repeat (first | (with_reducible first | exact HB.out | apply below_alloc | apply pw_below_drewN | apply below_drew1 | refine below_set ?_ GE863.out) | exact HB.out)) hb); clear BK863; clear HB; have BK863 := n0_; have HB := n1_; clear n0_ n1_; (try clear hb); (try clear hb2); (try clear hk); (try clear hi); have hcz17_0 : w16.cell? ⟨gb863, 0, none⟩ = some (.int .u8 a0_0) := (blk_cell BK863.out 0).trans rfl; have hcz17_1 : w16.cell? ⟨gb863, 1, none⟩ = some (.int .i64 a0_1) := (blk_cell BK863.out 1).trans rfl; have hcz17_2 : w16.cell? ⟨gb863, 2, none⟩ = some (.string a0_2) := (blk_cell BK863.out 2).trans rfl; have hfz17_0 := blk_frozen BK863.out 0; have hfz17_1 := blk_frozen BK863.out 1; have hfz17_2 := blk_frozen BK863.out 2))
        repeat (go_quiet (first | ((with_reducible refine gate_dst (N := 1) rfl ?_); refine box_event ?hg (N := 1) ?hd (cs := #[.int .u8 a0_0, .int .i64 a0_1, .string a0_2]) (t := 153) ?hr ?_; (case hd => rfl); (case hg => rfl); (case hr => first | (go_simp; done) | (go_simp; rfl)); intro gb863 hg w14 hbox hb; have n0_ := Aside0.mk (below_step (by repeat (first | (with_reducible first | exact HB.out | apply below_alloc | apply pw_below_drewN | apply below_drew1) | exact HB.out)) hb); have n1_ := Aside0.mk (hbox); have n2_ := Aside0.mk ((by rw [hg]; exact (below_size (by repeat (first | (with_reducible first | exact HB.out | apply below_alloc | apply pw_below_drewN | apply below_drew1) | exact HB.out))) : w.heap.size ≤ gb863)); have n3_ := Aside0.mk ((by rw [hg]; exact (below_size (by repeat (first | (with_reducible first | exact HB.out | apply below_alloc | apply pw_below_drewN | apply below_drew1) | exact HB.out))) : w.heap.size ≤ gb863)); clear HB; have HB := n0_; have BK863 := n1_; have GW863 := n2_; have GE863 := n3_; clear n0_ n1_ n2_ n3_; clear hb hbox hg; have hcz15_0 : w14.cell? ⟨gb863, 0, none⟩ = some (.int .u8 a0_0) := (blk_cell BK863.out 0).trans rfl; have hcz15_1 : w14.cell? ⟨gb863, 1, none⟩ = some (.int .i64 a0_1) := (blk_cell BK863.out 1).trans rfl; have hcz15_2 : w14.cell? ⟨gb863, 2, none⟩ = some (.string a0_2) := (blk_cell BK863.out 2).trans rfl; have hfz15_0 := blk_frozen BK863.out 0; have hfz15_1 := blk_frozen BK863.out 1; have hfz15_2 := blk_frozen BK863.out 2) | (go_at_call 172; (with_reducible refine (delta_Edit_right.calls k a0_0 a0_1 a0_2 true _ A2.out).mono ?_); rintro e w16 ⟨rfl, hb⟩; have n0_ := Aside0.mk (blk_below (g := gb863) (o := .cells #[.int .u8 a0_0, .int .i64 a0_1, .string a0_2] 153 (0, 0)) (by (with_reducible repeat (first | refine blk_drewN ?_ _ | refine blk_drew ?_ | refine blk_alloc ?_ _)); exact BK863.out) hb); have n1_ := Aside0.mk (below_step (by repeat (first | (with_reducible first | exact HB.out | apply below_alloc | apply pw_below_drewN | apply below_drew1 | refine below_set ?_ GE863.out) | exact HB.out)) hb); clear BK863; clear HB; have BK863 := n0_; have HB := n1_; clear n0_ n1_; (try clear hb); (try clear hb2); (try clear hk); (try clear hi); have hcz17_0 : w16.cell? ⟨gb863, 0, none⟩ = some (.int .u8 a0_0) := (blk_cell BK863.out 0).trans rfl; have hcz17_1 : w16.cell? ⟨gb863, 1, none⟩ = some (.int .i64 a0_1) := (blk_cell BK863.out 1).trans rfl; have hcz17_2 : w16.cell? ⟨gb863, 2, none⟩ = some (.string a0_2) := (blk_cell BK863.out 2).trans rfl; have hfz17_0 := blk_frozen BK863.out 0; have hfz17_1 := blk_frozen BK863.out 1; have hfz17_2 := blk_frozen BK863.out 2)); try go_wp2_with (first | ((with_reducible refine gate_dst (N := 1) rfl ?_); refine box_event ?hg (N := 1) ?hd (cs := #[.int .u8 a0_0, .int .i64 a0_1, .string a0_2]) (t := 153) ?hr ?_; (case hd => rfl); (case hg => rfl); (case hr => first | (go_simp; done) | (go_simp; rfl)); intro gb863 hg w14 hbox hb; have n0_ := Aside0.mk (below_step (by repeat (first | (with_reducible first | exact HB.out | apply below_alloc | apply pw_below_drewN | apply below_drew1) | exact HB.out)) hb); have n1_ := Aside0.mk (hbox); have n2_ := Aside0.mk ((by rw [hg]; exact (below_size (by repeat (first | (with_reducible first | exact HB.out | apply below_alloc | apply pw_below_drewN | apply below_drew1) | exact HB.out))) : w.heap.size ≤ gb863)); have n3_ := Aside0.mk ((by rw [hg]; exact (below_size (by repeat (first | (with_reducible first | exact HB.out | apply below_alloc | apply pw_below_drewN | apply below_drew1) | exact HB.out))) : w.heap.size ≤ gb863)); clear HB; have HB := n0_; have BK863 := n1_; have GW863 := n2_; have GE863 := n3_; clear n0_ n1_ n2_ n3_; clear hb hbox hg; have hcz15_0 : w14.cell? ⟨gb863, 0, none⟩ = some (.int .u8 a0_0) := (blk_cell BK863.out 0).trans rfl; have hcz15_1 : w14.cell? ⟨gb863, 1, none⟩ = some (.int .i64 a0_1) := (blk_cell BK863.out 1).trans rfl; have hcz15_2 : w14.cell? ⟨gb863, 2, none⟩ = some (.string a0_2) := (blk_cell BK863.out 2).trans rfl; have hfz15_0 := blk_frozen BK863.out 0; have hfz15_1 := blk_frozen BK863.out 1; have hfz15_2 := blk_frozen BK863.out 2) | (go_at_call 172; (with_reducible refine (delta_Edit_right.calls k a0_0 a0_1 a0_2 true _ A2.out).mono ?_); rintro e w16 ⟨rfl, hb⟩; have n0_ := Aside0.mk (blk_below (g := gb863) (o := .cells #[.int .u8 a0_0, .int .i64 a0_1, .string a0_2] 153 (0, 0)) (by (with_reducible repeat (first | refine blk_drewN ?_ _ | refine blk_drew ?_ | refine blk_alloc ?_ _)); exact BK863.out) hb); have n1_ := Aside0.mk (below_step (by repeat (first | (with_reducible first | exact HB.out | apply below_alloc | apply pw_below_drewN | apply below_drew1 | refine below_set ?_ GE863.out) | exact HB.out)) hb); clear BK863; clear HB; have BK863 := n0_; have HB := n1_; clear n0_ n1_; (try clear hb); (try clear hb2); (try clear hk); (try clear hi); have hcz17_0 : w16.cell? ⟨gb863, 0, none⟩ = some (.int .u8 a0_0) := (blk_cell BK863.out 0).trans rfl; have hcz17_1 : w16.cell? ⟨gb863, 1, none⟩ = some (.int .i64 a0_1) := (blk_cell BK863.out 1).trans rfl; have hcz17_2 : w16.cell? ⟨gb863, 2, none⟩ = some (.string a0_2) := (blk_cell BK863.out 2).trans rfl; have hfz17_0 := blk_frozen BK863.out 0; have hfz17_1 := blk_frozen BK863.out 1; have hfz17_2 := blk_frozen BK863.out 2)))
        go_ret2
        exact ⟨by first | rfl | (rw [← isEmpty_bne]; rfl) | (rw [← isEmpty_beq]; rfl) | (simp [errW_none, errW_some] <;> rfl) | (simp [*, errW_none, errW_some] <;> rfl), by repeat (first | (with_reducible first | exact HB.out | apply below_alloc | apply pw_below_drewN | apply below_drew1 | refine below_set ?_ GE863.out) | exact HB.out)⟩
  · replace c3 := Bool.eq_false_iff.mpr c3
    subst c3
    have H1 : (some (0, 0)) = some (r1, r2) := by rw [if_neg (show ¬ (false = true) by decide)] at H; exact H
    clear H
    have H := H1
    clear H1
    simp only [Option.some.injEq, Prod.mk.injEq] at H
    obtain ⟨rfl, rfl⟩ := H
    go_enter Try.func171, Try.ntmps171
    go_wp2_with (first | ((with_reducible refine gate_dst (N := 1) rfl ?_); refine box_event ?hg (N := 1) ?hd (cs := #[.int .u8 a0_0, .int .i64 a0_1, .string a0_2]) (t := 153) ?hr ?_; (case hd => rfl); (case hg => rfl); (case hr => first | (go_simp; done) | (go_simp; rfl)); intro gb863 hg w18 hbox hb; have n0_ := Aside0.mk (below_step (by repeat (first | (with_reducible first | exact HB.out | apply below_alloc | apply pw_below_drewN | apply below_drew1) | exact HB.out)) hb); have n1_ := Aside0.mk (hbox); have n2_ := Aside0.mk ((by rw [hg]; exact (below_size (by repeat (first | (with_reducible first | exact HB.out | apply below_alloc | apply pw_below_drewN | apply below_drew1) | exact HB.out))) : w.heap.size ≤ gb863)); have n3_ := Aside0.mk ((by rw [hg]; exact (below_size (by repeat (first | (with_reducible first | exact HB.out | apply below_alloc | apply pw_below_drewN | apply below_drew1) | exact HB.out))) : w.heap.size ≤ gb863)); clear HB; have HB := n0_; have BK863 := n1_; have GW863 := n2_; have GE863 := n3_; clear n0_ n1_ n2_ n3_; clear hb hbox hg; have hcz19_0 : w18.cell? ⟨gb863, 0, none⟩ = some (.int .u8 a0_0) := (blk_cell BK863.out 0).trans rfl; have hcz19_1 : w18.cell? ⟨gb863, 1, none⟩ = some (.int .i64 a0_1) := (blk_cell BK863.out 1).trans rfl; have hcz19_2 : w18.cell? ⟨gb863, 2, none⟩ = some (.string a0_2) := (blk_cell BK863.out 2).trans rfl; have hfz19_0 := blk_frozen BK863.out 0; have hfz19_1 := blk_frozen BK863.out 1; have hfz19_2 := blk_frozen BK863.out 2) | (go_at_call 172; (with_reducible refine (delta_Edit_right.calls k a0_0 a0_1 a0_2 false _ A2.out).mono ?_); rintro e w20 ⟨rfl, hb⟩; have n0_ := Aside0.mk (blk_below (g := gb863) (o := .cells #[.int .u8 a0_0, .int .i64 a0_1, .string a0_2] 153 (0, 0)) (by (with_reducible repeat (first | refine blk_drewN ?_ _ | refine blk_drew ?_ | refine blk_alloc ?_ _)); exact BK863.out) hb); have n1_ := Aside0.mk (below_step (by repeat (first | (with_reducible first | exact HB.out | apply below_alloc | apply pw_below_drewN | apply below_drew1 | refine below_set ?_ GE863.out) | exact HB.out)) hb); clear BK863; clear HB; have BK863 := n0_; have HB := n1_; clear n0_ n1_; (try clear hb); (try clear hb2); (try clear hk); (try clear hi)))
    repeat (go_quiet (first | ((with_reducible refine gate_dst (N := 1) rfl ?_); refine box_event ?hg (N := 1) ?hd (cs := #[.int .u8 a0_0, .int .i64 a0_1, .string a0_2]) (t := 153) ?hr ?_; (case hd => rfl); (case hg => rfl); (case hr => first | (go_simp; done) | (go_simp; rfl)); intro gb863 hg w18 hbox hb; have n0_ := Aside0.mk (below_step (by repeat (first | (with_reducible first | exact HB.out | apply below_alloc | apply pw_below_drewN | apply below_drew1) | exact HB.out)) hb); have n1_ := Aside0.mk (hbox); have n2_ := Aside0.mk ((by rw [hg]; exact (below_size (by repeat (first | (with_reducible first | exact HB.out | apply below_alloc | apply pw_below_drewN | apply below_drew1) | exact HB.out))) : w.heap.size ≤ gb863)); have n3_ := Aside0.mk ((by rw [hg]; exact (below_size (by repeat (first | (with_reducible first | exact HB.out | apply below_alloc | apply pw_below_drewN | apply below_drew1) | exact HB.out))) : w.heap.size ≤ gb863)); clear HB; have HB := n0_; have BK863 := n1_; have GW863 := n2_; have GE863 := n3_; clear n0_ n1_ n2_ n3_; clear hb hbox hg; have hcz19_0 : w18.cell? ⟨gb863, 0, none⟩ = some (.int .u8 a0_0) := (blk_cell BK863.out 0).trans rfl; have hcz19_1 : w18.cell? ⟨gb863, 1, none⟩ = some (.int .i64 a0_1) := (blk_cell BK863.out 1).trans rfl; have hcz19_2 : w18.cell? ⟨gb863, 2, none⟩ = some (.string a0_2) := (blk_cell BK863.out 2).trans rfl; have hfz19_0 := blk_frozen BK863.out 0; have hfz19_1 := blk_frozen BK863.out 1; have hfz19_2 := blk_frozen BK863.out 2) | (go_at_call 172; (with_reducible refine (delta_Edit_right.calls k a0_0 a0_1 a0_2 false _ A2.out).mono ?_); rintro e w20 ⟨rfl, hb⟩; have n0_ := Aside0.mk (blk_below (g := gb863) (o := .cells #[.int .u8 a0_0, .int .i64 a0_1, .string a0_2] 153 (0, 0)) (by (with_reducible repeat (first | refine blk_drewN ?_ _ | refine blk_drew ?_ | refine blk_alloc ?_ _)); exact BK863.out) hb); have n1_ := Aside0.mk (below_step (by repeat (first | (with_reducible first | exact HB.out | apply below_alloc | apply pw_below_drewN | apply below_drew1 | refine below_set ?_ GE863.out) | exact HB.out)) hb); clear BK863; clear HB; have BK863 := n0_; have HB := n1_; clear n0_ n1_; (try clear hb); (try clear hb2); (try clear hk); (try clear hi))); try go_wp2_with (first | ((with_reducible refine gate_dst (N := 1) rfl ?_); refine box_event ?hg (N := 1) ?hd (cs := #[.int .u8 a0_0, .int .i64 a0_1, .string a0_2]) (t := 153) ?hr ?_; (case hd => rfl); (case hg => rfl); (case hr => first | (go_simp; done) | (go_simp; rfl)); intro gb863 hg w18 hbox hb; have n0_ := Aside0.mk (below_step (by repeat (first | (with_reducible first | exact HB.out | apply below_alloc | apply pw_below_drewN | apply below_drew1) | exact HB.out)) hb); have n1_ := Aside0.mk (hbox); have n2_ := Aside0.mk ((by rw [hg]; exact (below_size (by repeat (first | (with_reducible first | exact HB.out | apply below_alloc | apply pw_below_drewN | apply below_drew1) | exact HB.out))) : w.heap.size ≤ gb863)); have n3_ := Aside0.mk ((by rw [hg]; exact (below_size (by repeat (first | (with_reducible first | exact HB.out | apply below_alloc | apply pw_below_drewN | apply below_drew1) | exact HB.out))) : w.heap.size ≤ gb863)); clear HB; have HB := n0_; have BK863 := n1_; have GW863 := n2_; have GE863 := n3_; clear n0_ n1_ n2_ n3_; clear hb hbox hg; have hcz19_0 : w18.cell? ⟨gb863, 0, none⟩ = some (.int .u8 a0_0) := (blk_cell BK863.out 0).trans rfl; have hcz19_1 : w18.cell? ⟨gb863, 1, none⟩ = some (.int .i64 a0_1) := (blk_cell BK863.out 1).trans rfl; have hcz19_2 : w18.cell? ⟨gb863, 2, none⟩ = some (.string a0_2) := (blk_cell BK863.out 2).trans rfl; have hfz19_0 := blk_frozen BK863.out 0; have hfz19_1 := blk_frozen BK863.out 1; have hfz19_2 := blk_frozen BK863.out 2) | (go_at_call 172; (with_reducible refine (delta_Edit_right.calls k a0_0 a0_1 a0_2 false _ A2.out).mono ?_); rintro e w20 ⟨rfl, hb⟩; have n0_ := Aside0.mk (blk_below (g := gb863) (o := .cells #[.int .u8 a0_0, .int .i64 a0_1, .string a0_2] 153 (0, 0)) (by (with_reducible repeat (first | refine blk_drewN ?_ _ | refine blk_drew ?_ | refine blk_alloc ?_ _)); exact BK863.out) hb); have n1_ := Aside0.mk (below_step (by repeat (first | (with_reducible first | exact HB.out | apply below_alloc | apply pw_below_drewN | apply below_drew1 | refine below_set ?_ GE863.out) | exact HB.out)) hb); clear BK863; clear HB; have BK863 := n0_; have HB := n1_; clear n0_ n1_; (try clear hb); (try clear hb2); (try clear hk); (try clear hi))))
    go_ret2
    exact ⟨by first | rfl | (rw [← isEmpty_bne]; rfl) | (rw [← isEmpty_beq]; rfl) | (simp [errW_none, errW_some] <;> rfl) | (simp [*, errW_none, errW_some] <;> rfl), by repeat (first | (with_reducible first | exact HB.out | apply below_alloc | apply pw_below_drewN | apply below_drew1 | refine below_set ?_ GE863.out) | exact HB.out)⟩
/-! ### delta_take: function 186 -/
mutual
def delta_take.j0 : Nat → List Int → Int → Int → Bool → Int → Int → ByteArray → Option (Int × Int × ByteArray × Int × Int)
  | 0, _, _, _, _, _, _, _ => none
  | k + 1, x0, x1, x5, x26, x866000, x866001, x866002 => if x26 = true then ((varint_Take.f k x0 (wrap64 (x1 + 1))).bind fun bt871 => (if bt871.2.2 = 0 then (delta_take.j1 k bt871.2.1 bt871.2.2 bt871.1 (decide (bt871.1 > 2147483647)) x866000 x866001 x866002) else (delta_take.j1 k bt871.2.1 bt871.2.2 bt871.1 false x866000 x866001 x866002))) else (if 60 = 0 then ((delta_Edit_right.f k x866000 x866001 x866002).bind fun t875 => (if t875 = true then (some (x866000, x866001, x866002, x5, 60)) else (some (x866000, x866001, x866002, x5, 2)))) else (some (x866000, x866001, x866002, x5, 60)))
def delta_take.j1 : Nat → Int → Int → Int → Bool → Int → Int → ByteArray → Option (Int × Int × ByteArray × Int × Int)
  | 0, _, _, _, _, _, _, _ => none
  | k + 1, x5, x6, x7, x42, x866000, x866001, x866002 => if x42 = true then (some (0, 0, (⟨#[]⟩ : ByteArray), 0, 2)) else (if x6 = 0 then ((delta_Edit_right.f k x866000 (wrap64 (x7)) x866002).bind fun t874 => (if t874 = true then (some (x866000, wrap64 (x7), x866002, x5, x6)) else (some (x866000, wrap64 (x7), x866002, x5, 2)))) else (some (x866000, wrap64 (x7), x866002, x5, x6)))
end
def delta_take.f (k : Nat) (l0 : List Int) (a1 : Int) : Option (Int × Int × ByteArray × Int × Int) := if 0 ≤ a1 then (if a1 < (l0.length : Int) then (if (rd l0 a1) = 2 then ((varint_TakeText.f k l0 (wrap64 (a1 + 1))).bind fun bt867 => (if bt867.2.2 = 0 then ((delta_Edit_right.f k (rd l0 a1) 0 bt867.1).bind fun t870 => (if t870 = true then (some (rd l0 a1, 0, bt867.1, bt867.2.1, bt867.2.2)) else (some (rd l0 a1, 0, bt867.1, bt867.2.1, 2)))) else (some (rd l0 a1, 0, bt867.1, bt867.2.1, bt867.2.2)))) else (if (rd l0 a1) = 1 then (delta_take.j0 k l0 a1 0 ((rd l0 a1) == 1) (rd l0 a1) 0 (⟨#[]⟩ : ByteArray)) else (delta_take.j0 k l0 a1 0 ((rd l0 a1) == 3) (rd l0 a1) 0 (⟨#[]⟩ : ByteArray)))) else (none)) else (none)
set_option maxHeartbeats 8000000 in
set_option maxRecDepth 100000 in
theorem delta_take.calls (k : Nat) (A0 : Option Addr) (c0 : Nat) (l0 : List Int) (a1 : Int) (r1 : Int) (r2 : Int) (r3 : ByteArray) (r4 : Int) (r5 : Int) (w : World) (hr0 : Kd.C (Kd.int .u8) w A0 l0.length l0) (hc0 : l0.length ≤ c0) (h : delta_take.f k l0 a1 = some (r1, r2, r3, r4, r5)) :
    Calls Try.prog 186 #[.slice A0 l0.length c0, .int .i64 a1] w fun e w' => e = .returned (.tuple #[.agg #[.int .u8 r1, .int .i64 r2, .string r3], .int .i64 r4, .int .i64 r5]) ∧ Below w.heap.size w w' := by
  have hu153 := Try.underlying153
  have HR0 := Aside0.mk hr0
  have HC0 := Aside0.mk hc0
  clear hr0 hc0
  have HB := Aside0.mk (Below.refl w.heap.size w)
  have H : (if 0 ≤ a1 then (if a1 < (l0.length : Int) then (if (rd l0 a1) = 2 then ((varint_TakeText.f k l0 (wrap64 (a1 + 1))).bind fun bt867 => (if bt867.2.2 = 0 then ((delta_Edit_right.f k (rd l0 a1) 0 bt867.1).bind fun t870 => (if t870 = true then (some (rd l0 a1, 0, bt867.1, bt867.2.1, bt867.2.2)) else (some (rd l0 a1, 0, bt867.1, bt867.2.1, 2)))) else (some (rd l0 a1, 0, bt867.1, bt867.2.1, bt867.2.2)))) else (if (rd l0 a1) = 1 then (delta_take.j0 k l0 a1 0 ((rd l0 a1) == 1) (rd l0 a1) 0 (⟨#[]⟩ : ByteArray)) else (delta_take.j0 k l0 a1 0 ((rd l0 a1) == 3) (rd l0 a1) 0 (⟨#[]⟩ : ByteArray)))) else (none)) else (none)) = some (r1, r2, r3, r4, r5) := h
  clear h
  by_cases c3 : 0 ≤ a1
  · rw [if_pos c3] at H
    have c3b0 : decide (0 ≤ a1) = true := decide_eq_true c3
    clear c3
    by_cases c4 : a1 < (l0.length : Int)
    · rw [if_pos c4] at H
      have c4b0 : decide (a1 < (l0.length : Int)) = true := decide_eq_true c4
      clear c4
      by_cases c5 : (rd l0 a1) = 2
      · rw [if_pos c5] at H
        have c5b0 : ((rd l0 a1) == 2) = true := beq_iff_eq.mpr c5
        have c5b1 : ((rd l0 a1) != 2) = false := bne_eq_false_iff_eq.mpr c5
        clear c5
        replace H := Option.bind_eq_some_iff.mp H
        obtain ⟨⟨t867, t868, t869⟩, A60, H⟩ := H
        replace H : (if t869 = 0 then ((delta_Edit_right.f k (rd l0 a1) 0 t867).bind fun t870 => (if t870 = true then (some (rd l0 a1, 0, t867, t868, t869)) else (some (rd l0 a1, 0, t867, t868, 2)))) else (some (rd l0 a1, 0, t867, t868, t869))) = some (r1, r2, r3, r4, r5) := H
        have A6 := Aside0.mk A60
        clear A60
        by_cases c7 : t869 = 0
        · rw [if_pos c7] at H
          have c7b0 : (t869 == 0) = true := beq_iff_eq.mpr c7
          have c7b1 : (t869 != 0) = false := bne_eq_false_iff_eq.mpr c7
          clear c7
          replace H := Option.bind_eq_some_iff.mp H
          obtain ⟨t870, A80, H⟩ := H
          replace H : (if t870 = true then (some (rd l0 a1, 0, t867, t868, t869)) else (some (rd l0 a1, 0, t867, t868, 2))) = some (r1, r2, r3, r4, r5) := H
          have A8 := Aside0.mk A80
          clear A80
          by_cases c9 : t870 = true
          · subst c9
            have H1 : (some (rd l0 a1, 0, t867, t868, t869)) = some (r1, r2, r3, r4, r5) := by rw [if_pos rfl] at H; exact H
            clear H
            have H := H1
            clear H1
            simp only [Option.some.injEq, Prod.mk.injEq] at H
            obtain ⟨rfl, rfl, rfl, rfl, rfl⟩ := H
            go_enter Try.func186, Try.ntmps186
            go_wp2_with (first | ((with_reducible refine gate_dst (N := 4) rfl ?_); refine box_event ?hg (N := 4) ?hd (cs := #[.int .u8 0, .int .i64 0, .string (⟨#[]⟩ : ByteArray)]) (t := 153) ?hr ?_; (case hd => rfl); (case hg => rfl); (case hr => first | (go_simp; done) | (go_simp; rfl)); intro gb865 hg w10 hbox hb; have n0_ := Aside0.mk (below_step (by repeat (first | (with_reducible first | exact HB.out | apply below_alloc | apply pw_below_drewN | apply below_drew1) | exact HB.out)) hb); have n1_ := Aside0.mk (hbox); have n2_ := Aside0.mk ((by rw [hg]; exact (below_size (by repeat (first | (with_reducible first | exact HB.out | apply below_alloc | apply pw_below_drewN | apply below_drew1) | exact HB.out))) : w.heap.size ≤ gb865)); have n3_ := Aside0.mk ((by rw [hg]; exact (below_size (by repeat (first | (with_reducible first | exact HB.out | apply below_alloc | apply pw_below_drewN | apply below_drew1) | exact HB.out))) : w.heap.size ≤ gb865)); clear HB; have HB := n0_; have BK865 := n1_; have GW865 := n2_; have GE865 := n3_; clear n0_ n1_ n2_ n3_; clear hb hbox hg; have p866 : 0 ≤ (a1 : Int) := of_decide_eq_true (by first | (with_reducible assumption) | assumption); have q866 : a1 < (l0.length : Int) := of_decide_eq_true (by first | (with_reducible assumption) | assumption); obtain ⟨ad866, e866, hx866_0⟩ := Kd.at_int HR0.out a1 p866 q866; cases e866; replace hx866_0 := (HB.out.cell (World.block_lt_of_cell? w _ hx866_0)).trans hx866_0; replace p866 := eq_true p866; replace q866 := eq_true q866; have hcz11_0 : w10.cell? ⟨gb865, 0, none⟩ = some (.int .u8 0) := (blk_cell BK865.out 0).trans rfl; have hcz11_1 : w10.cell? ⟨gb865, 1, none⟩ = some (.int .i64 0) := (blk_cell BK865.out 1).trans rfl; have hcz11_2 : w10.cell? ⟨gb865, 2, none⟩ = some (.string (⟨#[]⟩ : ByteArray)) := (blk_cell BK865.out 2).trans rfl; have hfz11_0 := blk_frozen BK865.out 0; have hfz11_1 := blk_frozen BK865.out 1; have hfz11_2 := blk_frozen BK865.out 2) | ((with_reducible refine gate_callee (f := 42) rfl ?_); refine goesL_ (some 21) rfl rfl Try.func42 (by kernel_rfl) rfl #[.slice (some ad866) l0.length c0, .int .i64 (wrap64 (a1 + 1))] rfl (by (try simp only [List.map_toArray, List.map_cons, List.map_nil]); first | done | rfl | (simp only [List.length_drop, List.length_take]; rfl)) ?_; (with_reducible refine (varint_TakeText.calls k _ _ l0 (wrap64 (a1 + 1)) t867 t868 t869 _ ?side1 ?side2 A6.out).mono ?_); (case side1 => exact Kd.C_below HR0.out (by repeat (first | (with_reducible first | exact HB.out | apply below_alloc | apply pw_below_drewN | apply below_drew1 | refine below_set ?_ GE865.out) | exact HB.out))); (case side2 => exact HC0.out); rintro e w' ⟨rfl, ⟨nd, rfl⟩⟩; refine ⟨_, rfl, ?_⟩) | (go_at_call 172; (with_reducible refine (delta_Edit_right.calls k (rd l0 a1) 0 t867 true _ A8.out).mono ?_); rintro e w12 ⟨rfl, hb⟩; have n0_ := Aside0.mk (blk_below (g := gb865) (o := .cells #[.int .u8 (rd l0 a1), .int .i64 0, .string t867] 153 (0, 0)) (by (with_reducible repeat (first | refine blk_drewN ?_ _ | refine blk_drew ?_ | refine blk_alloc ?_ _)); refine blk_put (cs := #[.int .u8 (rd l0 a1), .int .i64 0, .string (⟨#[]⟩ : ByteArray)]) ?_ 2 _ rfl; (with_reducible repeat (first | refine blk_drewN ?_ _ | refine blk_drew ?_ | refine blk_alloc ?_ _)); refine blk_put (cs := #[.int .u8 0, .int .i64 0, .string (⟨#[]⟩ : ByteArray)]) ?_ 0 _ rfl; (with_reducible repeat (first | refine blk_drewN ?_ _ | refine blk_drew ?_ | refine blk_alloc ?_ _)); exact BK865.out) hb); have n1_ := Aside0.mk (below_step (by repeat (first | (with_reducible first | exact HB.out | apply below_alloc | apply pw_below_drewN | apply below_drew1 | refine below_set ?_ GE865.out) | exact HB.out)) hb); clear BK865; clear HB; have BK865 := n0_; have HB := n1_; clear n0_ n1_; (try clear hb); (try clear hb2); (try clear hk); (try clear hi); have hcz13_0 : w12.cell? ⟨gb865, 0, none⟩ = some (.int .u8 (rd l0 a1)) := (blk_cell BK865.out 0).trans rfl; have hcz13_1 : w12.cell? ⟨gb865, 1, none⟩ = some (.int .i64 0) := (blk_cell BK865.out 1).trans rfl; have hcz13_2 : w12.cell? ⟨gb865, 2, none⟩ = some (.string t867) := (blk_cell BK865.out 2).trans rfl; have hfz13_0 := blk_frozen BK865.out 0; have hfz13_1 := blk_frozen BK865.out 1; have hfz13_2 := blk_frozen BK865.out 2))
            refine bodyPost_ret (results_ctt rfl _ _ gb865 153 #[.int .u8 (rd l0 a1), .int .i64 0, .string t867] (0, 0) _ rfl (by (with_reducible repeat (first | refine blk_drewN ?_ _ | refine blk_drew ?_ | refine blk_alloc ?_ _)); refine blk_put (cs := #[.int .u8 (rd l0 a1), .int .i64 0, .string t867]) ?_ 2 _ rfl; (with_reducible repeat (first | refine blk_drewN ?_ _ | refine blk_drew ?_ | refine blk_alloc ?_ _)); refine blk_put (cs := #[.int .u8 (rd l0 a1), .int .i64 0, .string t867]) ?_ 1 _ rfl; (with_reducible repeat (first | refine blk_drewN ?_ _ | refine blk_drew ?_ | refine blk_alloc ?_ _)); refine blk_put (cs := #[.int .u8 (rd l0 a1), .int .i64 0, .string t867]) ?_ 0 _ rfl; (with_reducible repeat (first | refine blk_drewN ?_ _ | refine blk_drew ?_ | refine blk_alloc ?_ _)); exact BK865.out) Try.underlying153 rfl (by kernel_rfl)) rfl ?_
            exact ⟨by first | rfl | (rw [← isEmpty_bne]; rfl) | (rw [← isEmpty_beq]; rfl) | (simp [errW_none, errW_some] <;> rfl) | (simp [*, errW_none, errW_some] <;> rfl), by repeat (first | (with_reducible first | exact HB.out | apply below_alloc | apply pw_below_drewN | apply below_drew1 | refine below_set ?_ GE865.out) | exact HB.out)⟩
          · replace c9 := Bool.eq_false_iff.mpr c9
            subst c9
            have H1 : (some (rd l0 a1, 0, t867, t868, 2)) = some (r1, r2, r3, r4, r5) := by rw [if_neg (show ¬ (false = true) by decide)] at H; exact H
            clear H
            have H := H1
            clear H1
            simp only [Option.some.injEq, Prod.mk.injEq] at H
            obtain ⟨rfl, rfl, rfl, rfl, rfl⟩ := H
            go_enter Try.func186, Try.ntmps186
            go_wp2_with (first | ((with_reducible refine gate_dst (N := 4) rfl ?_); refine box_event ?hg (N := 4) ?hd (cs := #[.int .u8 0, .int .i64 0, .string (⟨#[]⟩ : ByteArray)]) (t := 153) ?hr ?_; (case hd => rfl); (case hg => rfl); (case hr => first | (go_simp; done) | (go_simp; rfl)); intro gb865 hg w14 hbox hb; have n0_ := Aside0.mk (below_step (by repeat (first | (with_reducible first | exact HB.out | apply below_alloc | apply pw_below_drewN | apply below_drew1) | exact HB.out)) hb); have n1_ := Aside0.mk (hbox); have n2_ := Aside0.mk ((by rw [hg]; exact (below_size (by repeat (first | (with_reducible first | exact HB.out | apply below_alloc | apply pw_below_drewN | apply below_drew1) | exact HB.out))) : w.heap.size ≤ gb865)); have n3_ := Aside0.mk ((by rw [hg]; exact (below_size (by repeat (first | (with_reducible first | exact HB.out | apply below_alloc | apply pw_below_drewN | apply below_drew1) | exact HB.out))) : w.heap.size ≤ gb865)); clear HB; have HB := n0_; have BK865 := n1_; have GW865 := n2_; have GE865 := n3_; clear n0_ n1_ n2_ n3_; clear hb hbox hg; have p866 : 0 ≤ (a1 : Int) := of_decide_eq_true (by first | (with_reducible assumption) | assumption); have q866 : a1 < (l0.length : Int) := of_decide_eq_true (by first | (with_reducible assumption) | assumption); obtain ⟨ad866, e866, hx866_0⟩ := Kd.at_int HR0.out a1 p866 q866; cases e866; replace hx866_0 := (HB.out.cell (World.block_lt_of_cell? w _ hx866_0)).trans hx866_0; replace p866 := eq_true p866; replace q866 := eq_true q866; have hcz15_0 : w14.cell? ⟨gb865, 0, none⟩ = some (.int .u8 0) := (blk_cell BK865.out 0).trans rfl; have hcz15_1 : w14.cell? ⟨gb865, 1, none⟩ = some (.int .i64 0) := (blk_cell BK865.out 1).trans rfl; have hcz15_2 : w14.cell? ⟨gb865, 2, none⟩ = some (.string (⟨#[]⟩ : ByteArray)) := (blk_cell BK865.out 2).trans rfl; have hfz15_0 := blk_frozen BK865.out 0; have hfz15_1 := blk_frozen BK865.out 1; have hfz15_2 := blk_frozen BK865.out 2) | ((with_reducible refine gate_callee (f := 42) rfl ?_); refine goesL_ (some 21) rfl rfl Try.func42 (by kernel_rfl) rfl #[.slice (some ad866) l0.length c0, .int .i64 (wrap64 (a1 + 1))] rfl (by (try simp only [List.map_toArray, List.map_cons, List.map_nil]); first | done | rfl | (simp only [List.length_drop, List.length_take]; rfl)) ?_; (with_reducible refine (varint_TakeText.calls k _ _ l0 (wrap64 (a1 + 1)) t867 t868 t869 _ ?side1 ?side2 A6.out).mono ?_); (case side1 => exact Kd.C_below HR0.out (by repeat (first | (with_reducible first | exact HB.out | apply below_alloc | apply pw_below_drewN | apply below_drew1 | refine below_set ?_ GE865.out) | exact HB.out))); (case side2 => exact HC0.out); rintro e w' ⟨rfl, ⟨nd, rfl⟩⟩; refine ⟨_, rfl, ?_⟩) | (go_at_call 172; (with_reducible refine (delta_Edit_right.calls k (rd l0 a1) 0 t867 false _ A8.out).mono ?_); rintro e w16 ⟨rfl, hb⟩; have n0_ := Aside0.mk (blk_below (g := gb865) (o := .cells #[.int .u8 (rd l0 a1), .int .i64 0, .string t867] 153 (0, 0)) (by (with_reducible repeat (first | refine blk_drewN ?_ _ | refine blk_drew ?_ | refine blk_alloc ?_ _)); refine blk_put (cs := #[.int .u8 (rd l0 a1), .int .i64 0, .string (⟨#[]⟩ : ByteArray)]) ?_ 2 _ rfl; (with_reducible repeat (first | refine blk_drewN ?_ _ | refine blk_drew ?_ | refine blk_alloc ?_ _)); refine blk_put (cs := #[.int .u8 0, .int .i64 0, .string (⟨#[]⟩ : ByteArray)]) ?_ 0 _ rfl; (with_reducible repeat (first | refine blk_drewN ?_ _ | refine blk_drew ?_ | refine blk_alloc ?_ _)); exact BK865.out) hb); have n1_ := Aside0.mk (below_step (by repeat (first | (with_reducible first | exact HB.out | apply below_alloc | apply pw_below_drewN | apply below_drew1 | refine below_set ?_ GE865.out) | exact HB.out)) hb); clear BK865; clear HB; have BK865 := n0_; have HB := n1_; clear n0_ n1_; (try clear hb); (try clear hb2); (try clear hk); (try clear hi); have hcz17_0 : w16.cell? ⟨gb865, 0, none⟩ = some (.int .u8 (rd l0 a1)) := (blk_cell BK865.out 0).trans rfl; have hcz17_1 : w16.cell? ⟨gb865, 1, none⟩ = some (.int .i64 0) := (blk_cell BK865.out 1).trans rfl; have hcz17_2 : w16.cell? ⟨gb865, 2, none⟩ = some (.string t867) := (blk_cell BK865.out 2).trans rfl; have hfz17_0 := blk_frozen BK865.out 0; have hfz17_1 := blk_frozen BK865.out 1; have hfz17_2 := blk_frozen BK865.out 2))
            refine bodyPost_ret (results_ctt rfl _ _ gb865 153 #[.int .u8 (rd l0 a1), .int .i64 0, .string t867] (0, 0) _ rfl (by (with_reducible repeat (first | refine blk_drewN ?_ _ | refine blk_drew ?_ | refine blk_alloc ?_ _)); refine blk_put (cs := #[.int .u8 (rd l0 a1), .int .i64 0, .string t867]) ?_ 2 _ rfl; (with_reducible repeat (first | refine blk_drewN ?_ _ | refine blk_drew ?_ | refine blk_alloc ?_ _)); refine blk_put (cs := #[.int .u8 (rd l0 a1), .int .i64 0, .string t867]) ?_ 1 _ rfl; (with_reducible repeat (first | refine blk_drewN ?_ _ | refine blk_drew ?_ | refine blk_alloc ?_ _)); refine blk_put (cs := #[.int .u8 (rd l0 a1), .int .i64 0, .string t867]) ?_ 0 _ rfl; (with_reducible repeat (first | refine blk_drewN ?_ _ | refine blk_drew ?_ | refine blk_alloc ?_ _)); exact BK865.out) Try.underlying153 rfl (by kernel_rfl)) rfl ?_
            exact ⟨by first | rfl | (rw [← isEmpty_bne]; rfl) | (rw [← isEmpty_beq]; rfl) | (simp [errW_none, errW_some] <;> rfl) | (simp [*, errW_none, errW_some] <;> rfl), by repeat (first | (with_reducible first | exact HB.out | apply below_alloc | apply pw_below_drewN | apply below_drew1 | refine below_set ?_ GE865.out) | exact HB.out)⟩
        · rw [if_neg c7] at H
          have c7b0 : (t869 == 0) = false := beq_eq_false_iff_ne.mpr c7
          have c7b1 : (t869 != 0) = true := bne_iff_ne.mpr c7
          simp only [Option.some.injEq, Prod.mk.injEq] at H
          obtain ⟨rfl, rfl, rfl, rfl, rfl⟩ := H
          go_enter Try.func186, Try.ntmps186
          go_wp2_with (first | ((with_reducible refine gate_dst (N := 4) rfl ?_); refine box_event ?hg (N := 4) ?hd (cs := #[.int .u8 0, .int .i64 0, .string (⟨#[]⟩ : ByteArray)]) (t := 153) ?hr ?_; (case hd => rfl); (case hg => rfl); (case hr => first | (go_simp; done) | (go_simp; rfl)); intro gb865 hg w18 hbox hb; have n0_ := Aside0.mk (below_step (by repeat (first | (with_reducible first | exact HB.out | apply below_alloc | apply pw_below_drewN | apply below_drew1) | exact HB.out)) hb); have n1_ := Aside0.mk (hbox); have n2_ := Aside0.mk ((by rw [hg]; exact (below_size (by repeat (first | (with_reducible first | exact HB.out | apply below_alloc | apply pw_below_drewN | apply below_drew1) | exact HB.out))) : w.heap.size ≤ gb865)); have n3_ := Aside0.mk ((by rw [hg]; exact (below_size (by repeat (first | (with_reducible first | exact HB.out | apply below_alloc | apply pw_below_drewN | apply below_drew1) | exact HB.out))) : w.heap.size ≤ gb865)); clear HB; have HB := n0_; have BK865 := n1_; have GW865 := n2_; have GE865 := n3_; clear n0_ n1_ n2_ n3_; clear hb hbox hg; have p866 : 0 ≤ (a1 : Int) := of_decide_eq_true (by first | (with_reducible assumption) | assumption); have q866 : a1 < (l0.length : Int) := of_decide_eq_true (by first | (with_reducible assumption) | assumption); obtain ⟨ad866, e866, hx866_0⟩ := Kd.at_int HR0.out a1 p866 q866; cases e866; replace hx866_0 := (HB.out.cell (World.block_lt_of_cell? w _ hx866_0)).trans hx866_0; replace p866 := eq_true p866; replace q866 := eq_true q866; have hcz19_0 : w18.cell? ⟨gb865, 0, none⟩ = some (.int .u8 0) := (blk_cell BK865.out 0).trans rfl; have hcz19_1 : w18.cell? ⟨gb865, 1, none⟩ = some (.int .i64 0) := (blk_cell BK865.out 1).trans rfl; have hcz19_2 : w18.cell? ⟨gb865, 2, none⟩ = some (.string (⟨#[]⟩ : ByteArray)) := (blk_cell BK865.out 2).trans rfl; have hfz19_0 := blk_frozen BK865.out 0; have hfz19_1 := blk_frozen BK865.out 1; have hfz19_2 := blk_frozen BK865.out 2) | ((with_reducible refine gate_callee (f := 42) rfl ?_); refine goesL_ (some 21) rfl rfl Try.func42 (by kernel_rfl) rfl #[.slice (some ad866) l0.length c0, .int .i64 (wrap64 (a1 + 1))] rfl (by (try simp only [List.map_toArray, List.map_cons, List.map_nil]); first | done | rfl | (simp only [List.length_drop, List.length_take]; rfl)) ?_; (with_reducible refine (varint_TakeText.calls k _ _ l0 (wrap64 (a1 + 1)) t867 t868 t869 _ ?side1 ?side2 A6.out).mono ?_); (case side1 => exact Kd.C_below HR0.out (by repeat (first | (with_reducible first | exact HB.out | apply below_alloc | apply pw_below_drewN | apply below_drew1 | refine below_set ?_ GE865.out) | exact HB.out))); (case side2 => exact HC0.out); rintro e w' ⟨rfl, ⟨nd, rfl⟩⟩; refine ⟨_, rfl, ?_⟩))
          refine bodyPost_ret (results_ctt rfl _ _ gb865 153 #[.int .u8 (rd l0 a1), .int .i64 0, .string t867] (0, 0) _ rfl (by (with_reducible repeat (first | refine blk_drewN ?_ _ | refine blk_drew ?_ | refine blk_alloc ?_ _)); refine blk_put (cs := #[.int .u8 (rd l0 a1), .int .i64 0, .string t867]) ?_ 2 _ rfl; (with_reducible repeat (first | refine blk_drewN ?_ _ | refine blk_drew ?_ | refine blk_alloc ?_ _)); refine blk_put (cs := #[.int .u8 (rd l0 a1), .int .i64 0, .string t867]) ?_ 1 _ rfl; (with_reducible repeat (first | refine blk_drewN ?_ _ | refine blk_drew ?_ | refine blk_alloc ?_ _)); refine blk_put (cs := #[.int .u8 (rd l0 a1), .int .i64 0, .string t867]) ?_ 0 _ rfl; (with_reducible repeat (first | refine blk_drewN ?_ _ | refine blk_drew ?_ | refine blk_alloc ?_ _)); refine blk_put (cs := #[.int .u8 (rd l0 a1), .int .i64 0, .string (⟨#[]⟩ : ByteArray)]) ?_ 2 _ rfl; (with_reducible repeat (first | refine blk_drewN ?_ _ | refine blk_drew ?_ | refine blk_alloc ?_ _)); refine blk_put (cs := #[.int .u8 0, .int .i64 0, .string (⟨#[]⟩ : ByteArray)]) ?_ 0 _ rfl; (with_reducible repeat (first | refine blk_drewN ?_ _ | refine blk_drew ?_ | refine blk_alloc ?_ _)); exact BK865.out) Try.underlying153 rfl (by kernel_rfl)) rfl ?_
          exact ⟨by first | rfl | (rw [← isEmpty_bne]; rfl) | (rw [← isEmpty_beq]; rfl) | (simp [errW_none, errW_some] <;> rfl) | (simp [*, errW_none, errW_some] <;> rfl), by repeat (first | (with_reducible first | exact HB.out | apply below_alloc | apply pw_below_drewN | apply below_drew1 | refine below_set ?_ GE865.out) | exact HB.out)⟩
      · rw [if_neg c5] at H
        have c5b0 : ((rd l0 a1) == 2) = false := beq_eq_false_iff_ne.mpr c5
        have c5b1 : ((rd l0 a1) != 2) = true := bne_iff_ne.mpr c5
        have HC20 := Aside0.mk H
        clear H
        go_enter Try.func186, Try.ntmps186
        go_upto_if 26 with (first | ((with_reducible refine gate_dst (N := 4) rfl ?_); refine box_event ?hg (N := 4) ?hd (cs := #[.int .u8 0, .int .i64 0, .string (⟨#[]⟩ : ByteArray)]) (t := 153) ?hr ?_; (case hd => rfl); (case hg => rfl); (case hr => first | (go_simp; done) | (go_simp; rfl)); intro gb865 hg w21 hbox hb; have n0_ := Aside0.mk (below_step (by repeat (first | (with_reducible first | exact HB.out | apply below_alloc | apply pw_below_drewN | apply below_drew1) | exact HB.out)) hb); have n1_ := Aside0.mk (hbox); have n2_ := Aside0.mk ((by rw [hg]; exact (below_size (by repeat (first | (with_reducible first | exact HB.out | apply below_alloc | apply pw_below_drewN | apply below_drew1) | exact HB.out))) : w.heap.size ≤ gb865)); have n3_ := Aside0.mk ((by rw [hg]; exact (below_size (by repeat (first | (with_reducible first | exact HB.out | apply below_alloc | apply pw_below_drewN | apply below_drew1) | exact HB.out))) : w.heap.size ≤ gb865)); clear HB; have HB := n0_; have BK865 := n1_; have GW865 := n2_; have GE865 := n3_; clear n0_ n1_ n2_ n3_; clear hb hbox hg; have p866 : 0 ≤ (a1 : Int) := of_decide_eq_true (by first | (with_reducible assumption) | assumption); have q866 : a1 < (l0.length : Int) := of_decide_eq_true (by first | (with_reducible assumption) | assumption); obtain ⟨ad866, e866, hx866_0⟩ := Kd.at_int HR0.out a1 p866 q866; cases e866; replace hx866_0 := (HB.out.cell (World.block_lt_of_cell? w _ hx866_0)).trans hx866_0; replace p866 := eq_true p866; replace q866 := eq_true q866; have hcz22_0 : w21.cell? ⟨gb865, 0, none⟩ = some (.int .u8 0) := (blk_cell BK865.out 0).trans rfl; have hcz22_1 : w21.cell? ⟨gb865, 1, none⟩ = some (.int .i64 0) := (blk_cell BK865.out 1).trans rfl; have hcz22_2 : w21.cell? ⟨gb865, 2, none⟩ = some (.string (⟨#[]⟩ : ByteArray)) := (blk_cell BK865.out 2).trans rfl; have hfz22_0 := blk_frozen BK865.out 0; have hfz22_1 := blk_frozen BK865.out 1; have hfz22_2 := blk_frozen BK865.out 2))
        (try simp only [Act.put, List.setIfInBounds_toArray, List.set_cons_zero, List.set_cons_succ])
        go_cut [26] (fun v26 wc => ∃ (kq : Nat) (x26_19 : Bool), v26 = .bool x26_19 ∧ Aside0 (delta_take.j0 kq l0 a1 0 x26_19 (rd l0 a1) 0 (⟨#[]⟩ : ByteArray) = some (r1, r2, r3, r4, r5)) ∧ Aside0 (kq ≤ k) ∧ Aside0 (wc.heap[gb865]? = some (.cells #[.int .u8 (rd l0 a1), .int .i64 0, .string (⟨#[]⟩ : ByteArray)] 153 (0, 0))) ∧ Aside0 (Below w.heap.size w wc))
        case first =>
          have H := HC20.out
          clear HC20
          by_cases c23 : (rd l0 a1) = 1
          · rw [if_pos c23] at H
            have c23b0 : ((rd l0 a1) == 1) = true := beq_iff_eq.mpr c23
            have c23b1 : ((rd l0 a1) != 1) = false := bne_eq_false_iff_eq.mpr c23
            clear c23
            (first | rw [c23b0] | (simp only [i64_w, i32_w]; rw [c23b0]) | skip)
            have H' := Aside0.mk H
            clear H
            go_wp2
            go_meet
            case rel => exact ⟨_, (((rd l0 a1) == 1)), (by first | rfl | (simp; done) | (simp [*]; done)), H', ⟨by first | omega | exact Nat.le_refl _⟩, ⟨by (with_reducible repeat (first | refine blk_drewN ?_ _ | refine blk_drew ?_ | refine blk_alloc ?_ _)); refine blk_put (cs := #[.int .u8 0, .int .i64 0, .string (⟨#[]⟩ : ByteArray)]) ?_ 0 _ rfl; (with_reducible repeat (first | refine blk_drewN ?_ _ | refine blk_drew ?_ | refine blk_alloc ?_ _)); exact BK865.out⟩, ⟨by repeat (first | (with_reducible first | exact HB.out | apply below_alloc | apply pw_below_drewN | apply below_drew1 | refine below_set ?_ GE865.out) | exact HB.out)⟩⟩
          · rw [if_neg c23] at H
            have c23b0 : ((rd l0 a1) == 1) = false := beq_eq_false_iff_ne.mpr c23
            have c23b1 : ((rd l0 a1) != 1) = true := bne_iff_ne.mpr c23
            (first | rw [c23b0] | (simp only [i64_w, i32_w]; rw [c23b0]) | skip)
            have H' := Aside0.mk H
            clear H
            go_wp2
            go_meet
            case rel => exact ⟨_, (((rd l0 a1) == 3)), (by first | rfl | (simp; done) | (simp [*]; done)), H', ⟨by first | omega | exact Nat.le_refl _⟩, ⟨by (with_reducible repeat (first | refine blk_drewN ?_ _ | refine blk_drew ?_ | refine blk_alloc ?_ _)); refine blk_put (cs := #[.int .u8 0, .int .i64 0, .string (⟨#[]⟩ : ByteArray)]) ?_ 0 _ rfl; (with_reducible repeat (first | refine blk_drewN ?_ _ | refine blk_drew ?_ | refine blk_alloc ?_ _)); exact BK865.out⟩, ⟨by repeat (first | (with_reducible first | exact HB.out | apply below_alloc | apply pw_below_drewN | apply below_drew1 | refine below_set ?_ GE865.out) | exact HB.out)⟩⟩
        case rest =>
          clear HC20
          try clear c1
          try clear c2
          try clear p2
          try clear c3
          try clear c3b0
          try clear c4
          try clear c4b0
          try clear c5
          try clear c5b0
          try clear c5b1
          try clear p6
          try clear c7
          try clear c7b0
          try clear c7b1
          try clear p8
          try clear q8
          try clear hx8
          try clear c9
          try clear c18
          try clear c23
          try clear c23b0
          try clear c23b1
          try clear hcz11_0
          try clear hcz11_1
          try clear hcz11_2
          try clear hcz13_0
          try clear hcz13_1
          try clear hcz13_2
          try clear hcz15_0
          try clear hcz15_1
          try clear hcz15_2
          try clear hcz17_0
          try clear hcz17_1
          try clear hcz17_2
          try clear hcz19_0
          try clear hcz19_1
          try clear hcz19_2
          try clear hcz22_0
          try clear hcz22_1
          try clear hcz22_2
          try clear hfz11_0
          try clear hfz11_1
          try clear hfz11_2
          try clear hfz13_0
          try clear hfz13_1
          try clear hfz13_2
          try clear hfz15_0
          try clear hfz15_1
          try clear hfz15_2
          try clear hfz17_0
          try clear hfz17_1
          try clear hfz17_2
          try clear hfz19_0
          try clear hfz19_1
          try clear hfz19_2
          try clear hfz22_0
          try clear hfz22_1
          try clear hfz22_2
          try clear hx866_0
          try clear p866
          try clear q866
          obtain ⟨kq, x26_19, rfl, HA, HJ19, BK865, HB⟩ := hcut
          cases kq with
          | zero => exact absurd HA.out (by simp [delta_take.j0])
          | succ kj19 =>
            have H := HA.out
            clear HA
            simp only [delta_take.j0] at H
            by_cases c24 : x26_19 = true
            · subst c24
              have H1 : ((varint_Take.f kj19 l0 (wrap64 (a1 + 1))).bind fun bt871 => (if bt871.2.2 = 0 then (delta_take.j1 kj19 bt871.2.1 bt871.2.2 bt871.1 (decide (bt871.1 > 2147483647)) (rd l0 a1) 0 (⟨#[]⟩ : ByteArray)) else (delta_take.j1 kj19 bt871.2.1 bt871.2.2 bt871.1 false (rd l0 a1) 0 (⟨#[]⟩ : ByteArray)))) = some (r1, r2, r3, r4, r5) := by rw [if_pos rfl] at H; exact H
              clear H
              have H := H1
              clear H1
              replace H := Option.bind_eq_some_iff.mp H
              obtain ⟨⟨t871, t872, t873⟩, A250, H⟩ := H
              replace H : (if t873 = 0 then (delta_take.j1 kj19 t872 t873 t871 (decide (t871 > 2147483647)) (rd l0 a1) 0 (⟨#[]⟩ : ByteArray)) else (delta_take.j1 kj19 t872 t873 t871 false (rd l0 a1) 0 (⟨#[]⟩ : ByteArray))) = some (r1, r2, r3, r4, r5) := H
              have A25 := Aside0.mk A250
              clear A250
              have HC26 := Aside0.mk H
              clear H
              go_upto_region 10 with (first | ((with_reducible refine gate_callee (f := 40) rfl ?_); refine goesL_ (some 33) rfl rfl Try.func40 (by kernel_rfl) rfl #[.slice (some ad866) l0.length c0, .int .i64 (wrap64 (a1 + 1))] rfl (by (try simp only [List.map_toArray, List.map_cons, List.map_nil]); first | done | rfl | (simp only [List.length_drop, List.length_take]; rfl)) ?_; (with_reducible refine (varint_Take.calls kj19 _ _ l0 (wrap64 (a1 + 1)) t871 t872 t873 _ ?side1 ?side2 A25.out).mono ?_); (case side1 => repeat (first | exact (Kd.C_below HR0.out HB.out) | (with_reducible refine Kd.C_alloc ?_ _) | (with_reducible refine Kd.C_drewN ?_ _) | (with_reducible refine Kd.C_drew ?_))); (case side2 => exact HC0.out); rintro e w' ⟨rfl, ⟨nd, rfl⟩⟩; refine ⟨_, rfl, ?_⟩))
              (try simp only [Act.put, List.setIfInBounds_toArray, List.set_cons_zero, List.set_cons_succ])
              go_cut [42] (fun v42 wc => ∃ (kq : Nat) (x42_25 : Bool), v42 = .bool x42_25 ∧ Aside0 (delta_take.j1 kq t872 t873 t871 x42_25 (rd l0 a1) 0 (⟨#[]⟩ : ByteArray) = some (r1, r2, r3, r4, r5)) ∧ Aside0 (kq ≤ kj19) ∧ Aside0 (wc.heap[gb865]? = some (.cells #[.int .u8 (rd l0 a1), .int .i64 0, .string (⟨#[]⟩ : ByteArray)] 153 (0, 0))) ∧ Aside0 (Below w.heap.size w wc))
              case first =>
                have H := HC26.out
                clear HC26
                by_cases c27 : t873 = 0
                · rw [if_pos c27] at H
                  have c27b0 : (t873 == 0) = true := beq_iff_eq.mpr c27
                  have c27b1 : (t873 != 0) = false := bne_eq_false_iff_eq.mpr c27
                  clear c27
                  (first | rw [c27b0] | (simp only [i64_w, i32_w]; rw [c27b0]) | skip)
                  have H' := Aside0.mk H
                  clear H
                  go_wp2
                  go_meet
                  case rel => exact ⟨_, (decide (t871 > 2147483647)), (by first | rfl | (simp; done) | (simp [*]; done)), H', ⟨by have := HJ19.out; first | omega | exact Nat.le_refl _⟩, ⟨by (with_reducible repeat (first | refine blk_drewN ?_ _ | refine blk_drew ?_ | refine blk_alloc ?_ _)); exact BK865.out⟩, ⟨by repeat (first | (with_reducible first | exact HB.out | apply below_alloc | apply pw_below_drewN | apply below_drew1 | refine below_set ?_ GE865.out) | exact HB.out)⟩⟩
                · rw [if_neg c27] at H
                  have c27b0 : (t873 == 0) = false := beq_eq_false_iff_ne.mpr c27
                  have c27b1 : (t873 != 0) = true := bne_iff_ne.mpr c27
                  (first | rw [c27b0] | (simp only [i64_w, i32_w]; rw [c27b0]) | skip)
                  have H' := Aside0.mk H
                  clear H
                  go_wp2
                  go_meet
                  case rel => exact ⟨_, (false), (by first | rfl | (simp; done) | (simp [*]; done)), H', ⟨by have := HJ19.out; first | omega | exact Nat.le_refl _⟩, ⟨by (with_reducible repeat (first | refine blk_drewN ?_ _ | refine blk_drew ?_ | refine blk_alloc ?_ _)); exact BK865.out⟩, ⟨by repeat (first | (with_reducible first | exact HB.out | apply below_alloc | apply pw_below_drewN | apply below_drew1 | refine below_set ?_ GE865.out) | exact HB.out)⟩⟩
              case rest =>
                clear HC26
                try clear c1
                try clear c2
                try clear p2
                try clear c3
                try clear c3b0
                try clear c4
                try clear c4b0
                try clear c5
                try clear c5b0
                try clear c5b1
                try clear p6
                try clear c7
                try clear c7b0
                try clear c7b1
                try clear p8
                try clear q8
                try clear hx8
                try clear c9
                try clear c18
                try clear c23
                try clear c23b0
                try clear c23b1
                try clear c24
                try clear c27
                try clear c27b0
                try clear c27b1
                try clear hcz11_0
                try clear hcz11_1
                try clear hcz11_2
                try clear hcz13_0
                try clear hcz13_1
                try clear hcz13_2
                try clear hcz15_0
                try clear hcz15_1
                try clear hcz15_2
                try clear hcz17_0
                try clear hcz17_1
                try clear hcz17_2
                try clear hcz19_0
                try clear hcz19_1
                try clear hcz19_2
                try clear hcz22_0
                try clear hcz22_1
                try clear hcz22_2
                try clear hfz11_0
                try clear hfz11_1
                try clear hfz11_2
                try clear hfz13_0
                try clear hfz13_1
                try clear hfz13_2
                try clear hfz15_0
                try clear hfz15_1
                try clear hfz15_2
                try clear hfz17_0
                try clear hfz17_1
                try clear hfz17_2
                try clear hfz19_0
                try clear hfz19_1
                try clear hfz19_2
                try clear hfz22_0
                try clear hfz22_1
                try clear hfz22_2
                try clear hx866_0
                try clear p2
                try clear p6
                try clear p8
                try clear p866
                try clear q8
                try clear q866
                obtain ⟨kq, x42_25, rfl, HA, HJ25, BK865, HB⟩ := hcut
                cases kq with
                | zero => exact absurd HA.out (by simp [delta_take.j1])
                | succ kj25 =>
                  have H := HA.out
                  clear HA
                  simp only [delta_take.j1] at H
                  by_cases c28 : x42_25 = true
                  · subst c28
                    have H1 : (some (0, 0, (⟨#[]⟩ : ByteArray), 0, 2)) = some (r1, r2, r3, r4, r5) := by rw [if_pos rfl] at H; exact H
                    clear H
                    have H := H1
                    clear H1
                    simp only [Option.some.injEq, Prod.mk.injEq] at H
                    obtain ⟨rfl, rfl, rfl, rfl, rfl⟩ := H
                    have hcz29_0 : wc.cell? ⟨gb865, 0, none⟩ = some (.int .u8 (rd l0 a1)) := (blk_cell BK865.out 0).trans rfl
                    have hcz29_1 : wc.cell? ⟨gb865, 1, none⟩ = some (.int .i64 0) := (blk_cell BK865.out 1).trans rfl
                    have hcz29_2 : wc.cell? ⟨gb865, 2, none⟩ = some (.string (⟨#[]⟩ : ByteArray)) := (blk_cell BK865.out 2).trans rfl
                    have hfz29_0 := blk_frozen BK865.out 0
                    have hfz29_1 := blk_frozen BK865.out 1
                    have hfz29_2 := blk_frozen BK865.out 2
                    go_wp2
                    refine bodyPost_ret (results_ctt rfl _ _ gb865 153 #[.int .u8 0, .int .i64 0, .string (⟨#[]⟩ : ByteArray)] (0, 0) _ rfl (by (with_reducible repeat (first | refine blk_drewN ?_ _ | refine blk_drew ?_ | refine blk_alloc ?_ _)); refine blk_put (cs := #[.int .u8 0, .int .i64 0, .string (⟨#[]⟩ : ByteArray)]) ?_ 2 _ rfl; (with_reducible repeat (first | refine blk_drewN ?_ _ | refine blk_drew ?_ | refine blk_alloc ?_ _)); refine blk_put (cs := #[.int .u8 0, .int .i64 0, .string (⟨#[]⟩ : ByteArray)]) ?_ 1 _ rfl; (with_reducible repeat (first | refine blk_drewN ?_ _ | refine blk_drew ?_ | refine blk_alloc ?_ _)); refine blk_put (cs := #[.int .u8 (rd l0 a1), .int .i64 0, .string (⟨#[]⟩ : ByteArray)]) ?_ 0 _ rfl; (with_reducible repeat (first | refine blk_drewN ?_ _ | refine blk_drew ?_ | refine blk_alloc ?_ _)); exact BK865.out) Try.underlying153 rfl (by kernel_rfl)) rfl ?_
                    exact ⟨by first | rfl | (rw [← isEmpty_bne]; rfl) | (rw [← isEmpty_beq]; rfl) | (simp [errW_none, errW_some] <;> rfl) | (simp [*, errW_none, errW_some] <;> rfl), by repeat (first | (with_reducible first | exact HB.out | apply below_alloc | apply pw_below_drewN | apply below_drew1 | refine below_set ?_ GE865.out) | exact HB.out)⟩
                  · replace c28 := Bool.eq_false_iff.mpr c28
                    subst c28
                    have H1 : (if t873 = 0 then ((delta_Edit_right.f kj25 (rd l0 a1) (wrap64 (t871)) (⟨#[]⟩ : ByteArray)).bind fun t874 => (if t874 = true then (some ((rd l0 a1), wrap64 (t871), (⟨#[]⟩ : ByteArray), t872, t873)) else (some ((rd l0 a1), wrap64 (t871), (⟨#[]⟩ : ByteArray), t872, 2)))) else (some ((rd l0 a1), wrap64 (t871), (⟨#[]⟩ : ByteArray), t872, t873))) = some (r1, r2, r3, r4, r5) := by rw [if_neg (show ¬ (false = true) by decide)] at H; exact H
                    clear H
                    have H := H1
                    clear H1
                    by_cases c30 : t873 = 0
                    · rw [if_pos c30] at H
                      have c30b0 : (t873 == 0) = true := beq_iff_eq.mpr c30
                      have c30b1 : (t873 != 0) = false := bne_eq_false_iff_eq.mpr c30
                      clear c30
                      replace H := Option.bind_eq_some_iff.mp H
                      obtain ⟨t874, A310, H⟩ := H
                      replace H : (if t874 = true then (some ((rd l0 a1), wrap64 (t871), (⟨#[]⟩ : ByteArray), t872, t873)) else (some ((rd l0 a1), wrap64 (t871), (⟨#[]⟩ : ByteArray), t872, 2))) = some (r1, r2, r3, r4, r5) := H
                      have A31 := Aside0.mk A310
                      clear A310
                      by_cases c32 : t874 = true
                      · subst c32
                        have H1 : (some ((rd l0 a1), wrap64 (t871), (⟨#[]⟩ : ByteArray), t872, t873)) = some (r1, r2, r3, r4, r5) := by rw [if_pos rfl] at H; exact H
                        clear H
                        have H := H1
                        clear H1
                        simp only [Option.some.injEq, Prod.mk.injEq] at H
                        obtain ⟨rfl, rfl, rfl, rfl, rfl⟩ := H
                        have hcz33_0 : wc.cell? ⟨gb865, 0, none⟩ = some (.int .u8 (rd l0 a1)) := (blk_cell BK865.out 0).trans rfl
                        have hcz33_1 : wc.cell? ⟨gb865, 1, none⟩ = some (.int .i64 0) := (blk_cell BK865.out 1).trans rfl
                        have hcz33_2 : wc.cell? ⟨gb865, 2, none⟩ = some (.string (⟨#[]⟩ : ByteArray)) := (blk_cell BK865.out 2).trans rfl
                        have hfz33_0 := blk_frozen BK865.out 0
                        have hfz33_1 := blk_frozen BK865.out 1
                        have hfz33_2 := blk_frozen BK865.out 2
                        go_wp2_with (first | (go_at_call 172; (with_reducible refine (delta_Edit_right.calls kj25 (rd l0 a1) (wrap64 (t871)) (⟨#[]⟩ : ByteArray) true _ A31.out).mono ?_); rintro e w34 ⟨rfl, hb⟩; have n0_ := Aside0.mk (blk_below (g := gb865) (o := .cells #[.int .u8 (rd l0 a1), .int .i64 (wrap64 (t871)), .string (⟨#[]⟩ : ByteArray)] 153 (0, 0)) (by (with_reducible repeat (first | refine blk_drewN ?_ _ | refine blk_drew ?_ | refine blk_alloc ?_ _)); refine blk_put (cs := #[.int .u8 (rd l0 a1), .int .i64 0, .string (⟨#[]⟩ : ByteArray)]) ?_ 1 _ rfl; (with_reducible repeat (first | refine blk_drewN ?_ _ | refine blk_drew ?_ | refine blk_alloc ?_ _)); exact BK865.out) hb); have n1_ := Aside0.mk (below_step (by repeat (first | (with_reducible first | exact HB.out | apply below_alloc | apply pw_below_drewN | apply below_drew1 | refine below_set ?_ GE865.out) | exact HB.out)) hb); clear BK865; clear HB; have BK865 := n0_; have HB := n1_; clear n0_ n1_; (try clear hb); (try clear hb2); (try clear hk); (try clear hi); have hcz35_0 : w34.cell? ⟨gb865, 0, none⟩ = some (.int .u8 (rd l0 a1)) := (blk_cell BK865.out 0).trans rfl; have hcz35_1 : w34.cell? ⟨gb865, 1, none⟩ = some (.int .i64 (wrap64 (t871))) := (blk_cell BK865.out 1).trans rfl; have hcz35_2 : w34.cell? ⟨gb865, 2, none⟩ = some (.string (⟨#[]⟩ : ByteArray)) := (blk_cell BK865.out 2).trans rfl; have hfz35_0 := blk_frozen BK865.out 0; have hfz35_1 := blk_frozen BK865.out 1; have hfz35_2 := blk_frozen BK865.out 2))
                        refine bodyPost_ret (results_ctt rfl _ _ gb865 153 #[.int .u8 (rd l0 a1), .int .i64 (wrap64 (t871)), .string (⟨#[]⟩ : ByteArray)] (0, 0) _ rfl (by (with_reducible repeat (first | refine blk_drewN ?_ _ | refine blk_drew ?_ | refine blk_alloc ?_ _)); refine blk_put (cs := #[.int .u8 (rd l0 a1), .int .i64 (wrap64 (t871)), .string (⟨#[]⟩ : ByteArray)]) ?_ 2 _ rfl; (with_reducible repeat (first | refine blk_drewN ?_ _ | refine blk_drew ?_ | refine blk_alloc ?_ _)); refine blk_put (cs := #[.int .u8 (rd l0 a1), .int .i64 (wrap64 (t871)), .string (⟨#[]⟩ : ByteArray)]) ?_ 1 _ rfl; (with_reducible repeat (first | refine blk_drewN ?_ _ | refine blk_drew ?_ | refine blk_alloc ?_ _)); refine blk_put (cs := #[.int .u8 (rd l0 a1), .int .i64 (wrap64 (t871)), .string (⟨#[]⟩ : ByteArray)]) ?_ 0 _ rfl; (with_reducible repeat (first | refine blk_drewN ?_ _ | refine blk_drew ?_ | refine blk_alloc ?_ _)); exact BK865.out) Try.underlying153 rfl (by kernel_rfl)) rfl ?_
                        exact ⟨by first | rfl | (rw [← isEmpty_bne]; rfl) | (rw [← isEmpty_beq]; rfl) | (simp [errW_none, errW_some] <;> rfl) | (simp [*, errW_none, errW_some] <;> rfl), by repeat (first | (with_reducible first | exact HB.out | apply below_alloc | apply pw_below_drewN | apply below_drew1 | refine below_set ?_ GE865.out) | exact HB.out)⟩
                      · replace c32 := Bool.eq_false_iff.mpr c32
                        subst c32
                        have H1 : (some ((rd l0 a1), wrap64 (t871), (⟨#[]⟩ : ByteArray), t872, 2)) = some (r1, r2, r3, r4, r5) := by rw [if_neg (show ¬ (false = true) by decide)] at H; exact H
                        clear H
                        have H := H1
                        clear H1
                        simp only [Option.some.injEq, Prod.mk.injEq] at H
                        obtain ⟨rfl, rfl, rfl, rfl, rfl⟩ := H
                        have hcz36_0 : wc.cell? ⟨gb865, 0, none⟩ = some (.int .u8 (rd l0 a1)) := (blk_cell BK865.out 0).trans rfl
                        have hcz36_1 : wc.cell? ⟨gb865, 1, none⟩ = some (.int .i64 0) := (blk_cell BK865.out 1).trans rfl
                        have hcz36_2 : wc.cell? ⟨gb865, 2, none⟩ = some (.string (⟨#[]⟩ : ByteArray)) := (blk_cell BK865.out 2).trans rfl
                        have hfz36_0 := blk_frozen BK865.out 0
                        have hfz36_1 := blk_frozen BK865.out 1
                        have hfz36_2 := blk_frozen BK865.out 2
                        go_wp2_with (first | (go_at_call 172; (with_reducible refine (delta_Edit_right.calls kj25 (rd l0 a1) (wrap64 (t871)) (⟨#[]⟩ : ByteArray) false _ A31.out).mono ?_); rintro e w37 ⟨rfl, hb⟩; have n0_ := Aside0.mk (blk_below (g := gb865) (o := .cells #[.int .u8 (rd l0 a1), .int .i64 (wrap64 (t871)), .string (⟨#[]⟩ : ByteArray)] 153 (0, 0)) (by (with_reducible repeat (first | refine blk_drewN ?_ _ | refine blk_drew ?_ | refine blk_alloc ?_ _)); refine blk_put (cs := #[.int .u8 (rd l0 a1), .int .i64 0, .string (⟨#[]⟩ : ByteArray)]) ?_ 1 _ rfl; (with_reducible repeat (first | refine blk_drewN ?_ _ | refine blk_drew ?_ | refine blk_alloc ?_ _)); exact BK865.out) hb); have n1_ := Aside0.mk (below_step (by repeat (first | (with_reducible first | exact HB.out | apply below_alloc | apply pw_below_drewN | apply below_drew1 | refine below_set ?_ GE865.out) | exact HB.out)) hb); clear BK865; clear HB; have BK865 := n0_; have HB := n1_; clear n0_ n1_; (try clear hb); (try clear hb2); (try clear hk); (try clear hi); have hcz38_0 : w37.cell? ⟨gb865, 0, none⟩ = some (.int .u8 (rd l0 a1)) := (blk_cell BK865.out 0).trans rfl; have hcz38_1 : w37.cell? ⟨gb865, 1, none⟩ = some (.int .i64 (wrap64 (t871))) := (blk_cell BK865.out 1).trans rfl; have hcz38_2 : w37.cell? ⟨gb865, 2, none⟩ = some (.string (⟨#[]⟩ : ByteArray)) := (blk_cell BK865.out 2).trans rfl; have hfz38_0 := blk_frozen BK865.out 0; have hfz38_1 := blk_frozen BK865.out 1; have hfz38_2 := blk_frozen BK865.out 2))
                        refine bodyPost_ret (results_ctt rfl _ _ gb865 153 #[.int .u8 (rd l0 a1), .int .i64 (wrap64 (t871)), .string (⟨#[]⟩ : ByteArray)] (0, 0) _ rfl (by (with_reducible repeat (first | refine blk_drewN ?_ _ | refine blk_drew ?_ | refine blk_alloc ?_ _)); refine blk_put (cs := #[.int .u8 (rd l0 a1), .int .i64 (wrap64 (t871)), .string (⟨#[]⟩ : ByteArray)]) ?_ 2 _ rfl; (with_reducible repeat (first | refine blk_drewN ?_ _ | refine blk_drew ?_ | refine blk_alloc ?_ _)); refine blk_put (cs := #[.int .u8 (rd l0 a1), .int .i64 (wrap64 (t871)), .string (⟨#[]⟩ : ByteArray)]) ?_ 1 _ rfl; (with_reducible repeat (first | refine blk_drewN ?_ _ | refine blk_drew ?_ | refine blk_alloc ?_ _)); refine blk_put (cs := #[.int .u8 (rd l0 a1), .int .i64 (wrap64 (t871)), .string (⟨#[]⟩ : ByteArray)]) ?_ 0 _ rfl; (with_reducible repeat (first | refine blk_drewN ?_ _ | refine blk_drew ?_ | refine blk_alloc ?_ _)); exact BK865.out) Try.underlying153 rfl (by kernel_rfl)) rfl ?_
                        exact ⟨by first | rfl | (rw [← isEmpty_bne]; rfl) | (rw [← isEmpty_beq]; rfl) | (simp [errW_none, errW_some] <;> rfl) | (simp [*, errW_none, errW_some] <;> rfl), by repeat (first | (with_reducible first | exact HB.out | apply below_alloc | apply pw_below_drewN | apply below_drew1 | refine below_set ?_ GE865.out) | exact HB.out)⟩
                    · rw [if_neg c30] at H
                      have c30b0 : (t873 == 0) = false := beq_eq_false_iff_ne.mpr c30
                      have c30b1 : (t873 != 0) = true := bne_iff_ne.mpr c30
                      simp only [Option.some.injEq, Prod.mk.injEq] at H
                      obtain ⟨rfl, rfl, rfl, rfl, rfl⟩ := H
                      have hcz39_0 : wc.cell? ⟨gb865, 0, none⟩ = some (.int .u8 (rd l0 a1)) := (blk_cell BK865.out 0).trans rfl
                      have hcz39_1 : wc.cell? ⟨gb865, 1, none⟩ = some (.int .i64 0) := (blk_cell BK865.out 1).trans rfl
                      have hcz39_2 : wc.cell? ⟨gb865, 2, none⟩ = some (.string (⟨#[]⟩ : ByteArray)) := (blk_cell BK865.out 2).trans rfl
                      have hfz39_0 := blk_frozen BK865.out 0
                      have hfz39_1 := blk_frozen BK865.out 1
                      have hfz39_2 := blk_frozen BK865.out 2
                      go_wp2
                      refine bodyPost_ret (results_ctt rfl _ _ gb865 153 #[.int .u8 (rd l0 a1), .int .i64 (wrap64 (t871)), .string (⟨#[]⟩ : ByteArray)] (0, 0) _ rfl (by (with_reducible repeat (first | refine blk_drewN ?_ _ | refine blk_drew ?_ | refine blk_alloc ?_ _)); refine blk_put (cs := #[.int .u8 (rd l0 a1), .int .i64 (wrap64 (t871)), .string (⟨#[]⟩ : ByteArray)]) ?_ 2 _ rfl; (with_reducible repeat (first | refine blk_drewN ?_ _ | refine blk_drew ?_ | refine blk_alloc ?_ _)); refine blk_put (cs := #[.int .u8 (rd l0 a1), .int .i64 (wrap64 (t871)), .string (⟨#[]⟩ : ByteArray)]) ?_ 1 _ rfl; (with_reducible repeat (first | refine blk_drewN ?_ _ | refine blk_drew ?_ | refine blk_alloc ?_ _)); refine blk_put (cs := #[.int .u8 (rd l0 a1), .int .i64 (wrap64 (t871)), .string (⟨#[]⟩ : ByteArray)]) ?_ 0 _ rfl; (with_reducible repeat (first | refine blk_drewN ?_ _ | refine blk_drew ?_ | refine blk_alloc ?_ _)); refine blk_put (cs := #[.int .u8 (rd l0 a1), .int .i64 0, .string (⟨#[]⟩ : ByteArray)]) ?_ 1 _ rfl; (with_reducible repeat (first | refine blk_drewN ?_ _ | refine blk_drew ?_ | refine blk_alloc ?_ _)); exact BK865.out) Try.underlying153 rfl (by kernel_rfl)) rfl ?_
                      exact ⟨by first | rfl | (rw [← isEmpty_bne]; rfl) | (rw [← isEmpty_beq]; rfl) | (simp [errW_none, errW_some] <;> rfl) | (simp [*, errW_none, errW_some] <;> rfl), by repeat (first | (with_reducible first | exact HB.out | apply below_alloc | apply pw_below_drewN | apply below_drew1 | refine below_set ?_ GE865.out) | exact HB.out)⟩
            · replace c24 := Bool.eq_false_iff.mpr c24
              subst c24
              have H1 : (if 60 = 0 then ((delta_Edit_right.f kj19 (rd l0 a1) 0 (⟨#[]⟩ : ByteArray)).bind fun t875 => (if t875 = true then (some ((rd l0 a1), 0, (⟨#[]⟩ : ByteArray), 0, 60)) else (some ((rd l0 a1), 0, (⟨#[]⟩ : ByteArray), 0, 2)))) else (some ((rd l0 a1), 0, (⟨#[]⟩ : ByteArray), 0, 60))) = some (r1, r2, r3, r4, r5) := by rw [if_neg (show ¬ (false = true) by decide)] at H; exact H
              clear H
              have H := H1
              clear H1
              by_cases c40 : 60 = 0
              · exact absurd c40 (by decide)
              · rw [if_neg c40] at H
                have c40b0 : (60 == 0) = false := beq_eq_false_iff_ne.mpr c40
                have c40b1 : (60 != 0) = true := bne_iff_ne.mpr c40
                simp only [Option.some.injEq, Prod.mk.injEq] at H
                obtain ⟨rfl, rfl, rfl, rfl, rfl⟩ := H
                have hcz49_0 : wc.cell? ⟨gb865, 0, none⟩ = some (.int .u8 (rd l0 a1)) := (blk_cell BK865.out 0).trans rfl
                have hcz49_1 : wc.cell? ⟨gb865, 1, none⟩ = some (.int .i64 0) := (blk_cell BK865.out 1).trans rfl
                have hcz49_2 : wc.cell? ⟨gb865, 2, none⟩ = some (.string (⟨#[]⟩ : ByteArray)) := (blk_cell BK865.out 2).trans rfl
                have hfz49_0 := blk_frozen BK865.out 0
                have hfz49_1 := blk_frozen BK865.out 1
                have hfz49_2 := blk_frozen BK865.out 2
                go_wp2
                refine bodyPost_ret (results_ctt rfl _ _ gb865 153 #[.int .u8 (rd l0 a1), .int .i64 0, .string (⟨#[]⟩ : ByteArray)] (0, 0) _ rfl (by (with_reducible repeat (first | refine blk_drewN ?_ _ | refine blk_drew ?_ | refine blk_alloc ?_ _)); refine blk_put (cs := #[.int .u8 (rd l0 a1), .int .i64 0, .string (⟨#[]⟩ : ByteArray)]) ?_ 2 _ rfl; (with_reducible repeat (first | refine blk_drewN ?_ _ | refine blk_drew ?_ | refine blk_alloc ?_ _)); refine blk_put (cs := #[.int .u8 (rd l0 a1), .int .i64 0, .string (⟨#[]⟩ : ByteArray)]) ?_ 1 _ rfl; (with_reducible repeat (first | refine blk_drewN ?_ _ | refine blk_drew ?_ | refine blk_alloc ?_ _)); refine blk_put (cs := #[.int .u8 (rd l0 a1), .int .i64 0, .string (⟨#[]⟩ : ByteArray)]) ?_ 0 _ rfl; (with_reducible repeat (first | refine blk_drewN ?_ _ | refine blk_drew ?_ | refine blk_alloc ?_ _)); exact BK865.out) Try.underlying153 rfl (by kernel_rfl)) rfl ?_
                exact ⟨by first | rfl | (rw [← isEmpty_bne]; rfl) | (rw [← isEmpty_beq]; rfl) | (simp [errW_none, errW_some] <;> rfl) | (simp [*, errW_none, errW_some] <;> rfl), by repeat (first | (with_reducible first | exact HB.out | apply below_alloc | apply pw_below_drewN | apply below_drew1 | refine below_set ?_ GE865.out) | exact HB.out)⟩
    · rw [if_neg c4] at H
      exact absurd H (by simp)
  · rw [if_neg c3] at H
    exact absurd H (by simp)
/-! ### delta_Parse: function 121 -/
def delta_Parse.l0 : Nat → List Int → List (S153) → Int → Option ((List (S153)) × Int)
  | 0, _, _, _ => none
  | k + 1, x0, x4, x5 => if x5 < (x0.length : Int) then ((delta_take.f k x0 x5).bind fun bt876 => (if bt876.2.2.2.2 = 0 then (if x4.length < 4398046511104 then (delta_Parse.l0 k x0 (x4 ++ [(⟨bt876.1, bt876.2.1, bt876.2.2.1⟩ : S153)]) bt876.2.2.2.1) else (none)) else (some (([] : List (S153)), bt876.2.2.2.2)))) else (some (x4, 0))
def delta_Parse.f (k : Nat) (l0 : List Int) : Option ((List (S153)) × Int) := delta_Parse.l0 k l0 ([] : List (S153)) 0
set_option maxHeartbeats 8000000 in
set_option maxRecDepth 100000 in
theorem delta_Parse.calls (k : Nat) (A0 : Option Addr) (c0 : Nat) (l0 : List Int) (r1 : List (S153)) (r2 : Int) (w : World) (hr0 : Kd.C (Kd.int .u8) w A0 l0.length l0) (hc0 : l0.length ≤ c0) (h : delta_Parse.f k l0 = some (r1, r2)) :
    Calls Try.prog 121 #[.slice A0 l0.length c0] w fun e w' => ∃ v0_ : Value, e = .returned (.tuple #[v0_, .int .i64 r2]) ∧ Kd.R k153 153 w' w.heap.size (fun _ => True) v0_ r1 ∧ Below w.heap.size w w' := by
  have hu153 := Try.underlying153
  have HR0 := Aside0.mk hr0
  have HC0 := Aside0.mk hc0
  clear hr0 hc0
  have HB := Aside0.mk (Below.refl w.heap.size w)
  have H : (delta_Parse.l0 k l0 ([] : List (S153)) 0) = some (r1, r2) := h
  clear h
  have H' := Aside0.mk H
  clear H
  go_enter Try.func121, Try.ntmps121
  go_wp2
  go_loopg [4, 5] k (fun kq v4 v5 w' => ∃ (x4_1 : List (S153)) (x5_1 : Int), v5 = .int .i64 x5_1 ∧ Aside0 (delta_Parse.l0 kq l0 x4_1 x5_1 = some (r1, r2)) ∧ Aside0 (kq ≤ k) ∧ Aside0 (Kd.R k153 153 w' w.heap.size (fun _ => True) v4 x4_1) ∧ Aside0 (Below w.heap.size w w'))
  case atStart => exact ⟨(([] : List (S153))), (0), (by first | rfl | (simp; done) | (simp [*]; done)), H', ⟨Nat.le_refl _⟩, ⟨by first | exact Kd.R_nil _ _ _ _ _ | exact Kd.N_nil _ _ _ _ _ | exact Kd.V_nil _ _ _ _ _ | exact Kd.Q_nil _ _ _ _ _ | exact Kd.S_nil _ _ _ _ _⟩, ⟨by repeat (first | (with_reducible first | exact HB.out | apply below_alloc | apply pw_below_drewN | apply below_drew1) | exact HB.out)⟩⟩
  case round =>
    clear H'
    try clear c1
    obtain ⟨x4_1, x5_1, rfl, HA, HK1, HO_4, HB⟩ := hrel
    cases gk with
    | zero => exact absurd HA.out (by simp [delta_Parse.l0])
    | succ k1 =>
      have H := HA.out
      clear HA
      simp only [delta_Parse.l0] at H
      by_cases c2 : x5_1 < (l0.length : Int)
      · rw [if_pos c2] at H
        have c2b0 : decide (x5_1 < (l0.length : Int)) = true := decide_eq_true c2
        clear c2
        replace H := Option.bind_eq_some_iff.mp H
        obtain ⟨⟨t876, t877, t878, t879, t880⟩, A30, H⟩ := H
        replace H : (if t880 = 0 then (if x4_1.length < 4398046511104 then (delta_Parse.l0 k1 l0 (x4_1 ++ [(⟨t876, t877, t878⟩ : S153)]) t879) else (none)) else (some (([] : List (S153)), t880))) = some (r1, r2) := H
        have A3 := Aside0.mk A30
        clear A30
        by_cases c4 : t880 = 0
        · rw [if_pos c4] at H
          have c4b0 : (t880 == 0) = true := beq_iff_eq.mpr c4
          have c4b1 : (t880 != 0) = false := bne_eq_false_iff_eq.mpr c4
          clear c4
          by_cases c5 : x4_1.length < 4398046511104
          · rw [if_pos c5] at H
            have LMc5 := Aside0.mk c5
            clear c5
            obtain ⟨y882, hy882⟩ : ∃ y_ : List (S153), y_ = (x4_1 ++ [(⟨t876, t877, t878⟩ : S153)]) := ⟨_, rfl⟩
            replace H : (delta_Parse.l0 k1 l0 y882 t879) = some (r1, r2) := by first | (rw [hy882]; with_reducible exact H) | (have H2_ := (Option.bind_some _ _).symm.trans H; rw [hy882]; with_reducible exact H2_) | (have H2_ := (Option.bind_some _ _).symm.trans H; with_reducible exact H2_) | with_reducible exact H | (rw [hy882]; exact H) | exact H
            have Ny882 := Aside0.mk hy882
            clear hy882
            have H' := Aside0.mk H
            clear H
            go_wp2_with (first | ((with_reducible refine gate_callee (f := 186) rfl ?_); refine goesL_ (some 16) rfl rfl Try.func186 (by kernel_rfl) rfl #[.slice A0 l0.length c0, .int .i64 x5_1] rfl (by (try simp only [List.map_toArray, List.map_cons, List.map_nil]); first | done | rfl | (simp only [List.length_drop, List.length_take]; rfl)) ?_; (with_reducible refine (delta_take.calls k1 _ _ l0 x5_1 t876 t877 t878 t879 t880 _ ?side1 ?side2 A3.out).mono ?_); (case side1 => repeat (first | exact (Kd.C_below HR0.out HB.out) | (with_reducible refine Kd.C_alloc ?_ _) | (with_reducible refine Kd.C_drewN ?_ _) | (with_reducible refine Kd.C_drew ?_))); (case side2 => exact HC0.out); rintro e w6 ⟨rfl, hb⟩; refine ⟨_, rfl, ?_⟩; have n0_ := Aside0.mk (Kd.R_below (by (with_reducible repeat (first | apply Kd.R_alloc | apply Kd.R_drewN | apply Kd.R_drew)); exact HO_4.out) hb); have n1_ := Aside0.mk (below_step (by repeat (first | (with_reducible first | exact HB.out | apply below_alloc | apply pw_below_drewN | apply below_drew1) | exact HB.out)) hb); clear HO_4; clear HB; have HO_4 := n0_; have HB := n1_; clear n0_ n1_; (try clear hb); (try clear hb2); (try clear hk); (try clear hi)) | ((with_reducible refine gate_dst (N := 6) rfl ?_); refine box_event ?hg (N := 6) ?hd (cs := #[.int .u8 0, .int .i64 0, .string (⟨#[]⟩ : ByteArray)]) (t := 153) ?hr ?_; (case hd => rfl); (case hg => rfl); (case hr => first | (go_simp; done) | (go_simp; rfl)); intro gb881 hg w7 hbox hb; have n0_ := Aside0.mk (Kd.R_below (Kd.R_elderB (by (with_reducible repeat (first | apply Kd.R_alloc | apply Kd.R_drewN | apply Kd.R_drew)); exact HO_4.out) gb881 (Nat.le_of_eq hg.symm)) hb); have n1_ := Aside0.mk (below_step (by repeat (first | (with_reducible first | exact HB.out | apply below_alloc | apply pw_below_drewN | apply below_drew1) | exact HB.out)) hb); have n2_ := Aside0.mk (hbox); have n3_ := Aside0.mk ((by rw [hg]; exact (below_size (by repeat (first | (with_reducible first | exact HB.out | apply below_alloc | apply pw_below_drewN | apply below_drew1) | exact HB.out))) : w.heap.size ≤ gb881)); have n4_ := Aside0.mk ((by rw [hg]; exact (below_size (by repeat (first | (with_reducible first | exact HB.out | apply below_alloc | apply pw_below_drewN | apply below_drew1) | exact HB.out))) : w.heap.size ≤ gb881)); clear HO_4; clear HB; have HO_4 := n0_; have HB := n1_; have BK881 := n2_; have GW881 := n3_; have GE881 := n4_; clear n0_ n1_ n2_ n3_ n4_; clear hb hbox hg; have hcz8_0 : w7.cell? ⟨gb881, 0, none⟩ = some (.int .u8 0) := (blk_cell BK881.out 0).trans rfl; have hcz8_1 : w7.cell? ⟨gb881, 1, none⟩ = some (.int .i64 0) := (blk_cell BK881.out 1).trans rfl; have hcz8_2 : w7.cell? ⟨gb881, 2, none⟩ = some (.string (⟨#[]⟩ : ByteArray)) := (blk_cell BK881.out 2).trans rfl; have hfz8_0 := blk_frozen BK881.out 0; have hfz8_1 := blk_frozen BK881.out 1; have hfz8_2 := blk_frozen BK881.out 2) | ((with_reducible refine gate_builtin (b := .append) (xs := #[.tmp 23, .tmp 25]) rfl ?_); at_builtin; refine Kd.R_append k153 (w0 := w) w.heap.size rfl (.tmp 23) (.tmp 25) 133 153 (.agg #[(.int .u8 0), (.int .i64 0), (.string ⟨#[]⟩)]) 32 rfl Try.underlying133 info153 rfl (by decide) (by omega) u4 x4_1 (⟨t876, t877, t878⟩ : S153) [.int .u8 t876, .int .i64 t877, .string t878] (fun k_ => k_ ≠ gb881) (fun _ => False) rfl (by first | (go_simp; done) | (go_simp; rfl)) ?aP (fun _ hk => hk.elim) ?aF ?aO ?aB ?aS ?aL ?_; (case aP => exact k153_mkM _ _ _ (⟨t876, t877, t878⟩ : S153)); (case aB => exact (by repeat (first | (with_reducible first | exact HB.out | apply below_alloc | apply pw_below_drewN | apply below_drew1 | refine below_set ?_ GE881.out) | exact HB.out))); (case aF => exact (fun k_ hk => Kd.freshB (g := gb881) (o := .cells #[.int .u8 t876, .int .i64 t877, .string t878] 153 (0, 0)) (by (with_reducible repeat (first | refine blk_drewN ?_ _ | refine blk_drew ?_ | refine blk_alloc ?_ _)); refine blk_put (cs := #[.int .u8 t876, .int .i64 t877, .string (⟨#[]⟩ : ByteArray)]) ?_ 2 _ rfl; (with_reducible repeat (first | refine blk_drewN ?_ _ | refine blk_drew ?_ | refine blk_alloc ?_ _)); refine blk_put (cs := #[.int .u8 t876, .int .i64 0, .string (⟨#[]⟩ : ByteArray)]) ?_ 1 _ rfl; (with_reducible repeat (first | refine blk_drewN ?_ _ | refine blk_drew ?_ | refine blk_alloc ?_ _)); refine blk_put (cs := #[.int .u8 0, .int .i64 0, .string (⟨#[]⟩ : ByteArray)]) ?_ 0 _ rfl; (with_reducible repeat (first | refine blk_drewN ?_ _ | refine blk_drew ?_ | refine blk_alloc ?_ _)); exact BK881.out) k_ hk)); (case aO => exact (by (with_reducible repeat (first | apply Kd.R_alloc | apply Kd.R_drewN | apply Kd.R_drew)); exact Kd.R_mono (Kd.R_far (p := ⟨gb881, 2, none⟩) (Kd.R_far (p := ⟨gb881, 1, none⟩) (Kd.R_far (p := ⟨gb881, 0, none⟩) (Kd.R_mono HO_4.out (fun k_ hk => (⟨hk, hk.2⟩ : _ ∧ k_ ≠ gb881))) (fun _ hk => hk.2) (.int .u8 t876)) (fun _ hk => hk.2) (.int .i64 t877)) (fun _ hk => hk.2) (.string t878)) (fun _ hk => hk.1.2))); (case aS => exact (below_size (by repeat (first | (with_reducible first | exact HB.out | apply below_alloc | apply pw_below_drewN | apply below_drew1 | refine below_set ?_ GE881.out) | exact HB.out)))); (case aL => have := LMc5.out; omega); intro v883 w9 ho hb hg hat; rw [← Ny882.out] at ho; have n0_ := Aside0.mk (blk_grown (g := gb881) (o := .cells #[.int .u8 t876, .int .i64 t877, .string t878] 153 (0, 0)) (by (with_reducible repeat (first | refine blk_drewN ?_ _ | refine blk_drew ?_ | refine blk_alloc ?_ _)); refine blk_put (cs := #[.int .u8 t876, .int .i64 t877, .string (⟨#[]⟩ : ByteArray)]) ?_ 2 _ rfl; (with_reducible repeat (first | refine blk_drewN ?_ _ | refine blk_drew ?_ | refine blk_alloc ?_ _)); refine blk_put (cs := #[.int .u8 t876, .int .i64 0, .string (⟨#[]⟩ : ByteArray)]) ?_ 1 _ rfl; (with_reducible repeat (first | refine blk_drewN ?_ _ | refine blk_drew ?_ | refine blk_alloc ?_ _)); refine blk_put (cs := #[.int .u8 0, .int .i64 0, .string (⟨#[]⟩ : ByteArray)]) ?_ 0 _ rfl; (with_reducible repeat (first | refine blk_drewN ?_ _ | refine blk_drew ?_ | refine blk_alloc ?_ _)); exact BK881.out) hg (Kd.R_away HO_4.out (fun _ hk => hk.2))); have n1_ := Aside0.mk (hb); have n2_ := Aside0.mk (ho); clear BK881; clear HB; clear HO_4; have BK881 := n0_; have HB := n1_; have HO884 := n2_; clear n0_ n1_ n2_; clear ho hb hg hat))
            go_roundg k1
            case measure => have := HK1.out; omega
            case rel => exact ⟨(y882), (t879), (by first | rfl | (simp; done) | (simp [*]; done)), H', ⟨by have := HK1.out; omega⟩, ⟨by (with_reducible repeat (first | apply Kd.R_alloc | apply Kd.R_drewN | apply Kd.R_drew)); exact Kd.R_mono HO884.out (fun _ hk => trivial)⟩, ⟨by repeat (first | (with_reducible first | exact HB.out | apply below_alloc | apply pw_below_drewN | apply below_drew1 | refine below_set ?_ GE881.out) | exact HB.out)⟩⟩
          · rw [if_neg c5] at H
            exact absurd H (by simp)
        · rw [if_neg c4] at H
          have c4b0 : (t880 == 0) = false := beq_eq_false_iff_ne.mpr c4
          have c4b1 : (t880 != 0) = true := bne_iff_ne.mpr c4
          simp only [Option.some.injEq, Prod.mk.injEq] at H
          obtain ⟨rfl, rfl⟩ := H
          go_wp2_with (first | ((with_reducible refine gate_callee (f := 186) rfl ?_); refine goesL_ (some 16) rfl rfl Try.func186 (by kernel_rfl) rfl #[.slice A0 l0.length c0, .int .i64 x5_1] rfl (by (try simp only [List.map_toArray, List.map_cons, List.map_nil]); first | done | rfl | (simp only [List.length_drop, List.length_take]; rfl)) ?_; (with_reducible refine (delta_take.calls k1 _ _ l0 x5_1 t876 t877 t878 t879 t880 _ ?side1 ?side2 A3.out).mono ?_); (case side1 => repeat (first | exact (Kd.C_below HR0.out HB.out) | (with_reducible refine Kd.C_alloc ?_ _) | (with_reducible refine Kd.C_drewN ?_ _) | (with_reducible refine Kd.C_drew ?_))); (case side2 => exact HC0.out); rintro e w10 ⟨rfl, hb⟩; refine ⟨_, rfl, ?_⟩; have n0_ := Aside0.mk (Kd.R_below (by (with_reducible repeat (first | apply Kd.R_alloc | apply Kd.R_drewN | apply Kd.R_drew)); exact HO_4.out) hb); have n1_ := Aside0.mk (below_step (by repeat (first | (with_reducible first | exact HB.out | apply below_alloc | apply pw_below_drewN | apply below_drew1) | exact HB.out)) hb); clear HO_4; clear HB; have HO_4 := n0_; have HB := n1_; clear n0_ n1_; (try clear hb); (try clear hb2); (try clear hk); (try clear hi)) | ((with_reducible refine gate_dst (N := 6) rfl ?_); refine box_event ?hg (N := 6) ?hd (cs := #[.int .u8 0, .int .i64 0, .string (⟨#[]⟩ : ByteArray)]) (t := 153) ?hr ?_; (case hd => rfl); (case hg => rfl); (case hr => first | (go_simp; done) | (go_simp; rfl)); intro gb881 hg w11 hbox hb; have n0_ := Aside0.mk (Kd.R_below (Kd.R_elderB (by (with_reducible repeat (first | apply Kd.R_alloc | apply Kd.R_drewN | apply Kd.R_drew)); exact HO_4.out) gb881 (Nat.le_of_eq hg.symm)) hb); have n1_ := Aside0.mk (below_step (by repeat (first | (with_reducible first | exact HB.out | apply below_alloc | apply pw_below_drewN | apply below_drew1) | exact HB.out)) hb); have n2_ := Aside0.mk (hbox); have n3_ := Aside0.mk ((by rw [hg]; exact (below_size (by repeat (first | (with_reducible first | exact HB.out | apply below_alloc | apply pw_below_drewN | apply below_drew1) | exact HB.out))) : w.heap.size ≤ gb881)); have n4_ := Aside0.mk ((by rw [hg]; exact (below_size (by repeat (first | (with_reducible first | exact HB.out | apply below_alloc | apply pw_below_drewN | apply below_drew1) | exact HB.out))) : w.heap.size ≤ gb881)); clear HO_4; clear HB; have HO_4 := n0_; have HB := n1_; have BK881 := n2_; have GW881 := n3_; have GE881 := n4_; clear n0_ n1_ n2_ n3_ n4_; clear hb hbox hg; have hcz12_0 : w11.cell? ⟨gb881, 0, none⟩ = some (.int .u8 0) := (blk_cell BK881.out 0).trans rfl; have hcz12_1 : w11.cell? ⟨gb881, 1, none⟩ = some (.int .i64 0) := (blk_cell BK881.out 1).trans rfl; have hcz12_2 : w11.cell? ⟨gb881, 2, none⟩ = some (.string (⟨#[]⟩ : ByteArray)) := (blk_cell BK881.out 2).trans rfl; have hfz12_0 := blk_frozen BK881.out 0; have hfz12_1 := blk_frozen BK881.out 1; have hfz12_2 := blk_frozen BK881.out 2))
          go_ret2
          exact ⟨_, by first | rfl | (simp [errW_none, errW_some] <;> rfl) | (simp [*, errW_none, errW_some] <;> rfl), by first | exact Kd.R_nil _ _ _ _ _ | exact Kd.N_nil _ _ _ _ _ | exact Kd.V_nil _ _ _ _ _ | exact Kd.Q_nil _ _ _ _ _ | exact Kd.S_nil _ _ _ _ _, by repeat (first | (with_reducible first | exact HB.out | apply below_alloc | apply pw_below_drewN | apply below_drew1 | refine below_set ?_ GE881.out) | exact HB.out)⟩
      · rw [if_neg c2] at H
        have c2b0 : decide (x5_1 < (l0.length : Int)) = false := decide_eq_false c2
        clear c2
        simp only [Option.some.injEq, Prod.mk.injEq] at H
        obtain ⟨rfl, rfl⟩ := H
        go_wp2
        go_ret2
        exact ⟨_, by first | rfl | (simp [errW_none, errW_some] <;> rfl) | (simp [*, errW_none, errW_some] <;> rfl), by (with_reducible repeat (first | apply Kd.R_alloc | apply Kd.R_drewN | apply Kd.R_drew)); exact HO_4.out, by repeat (first | (with_reducible first | exact HB.out | apply below_alloc | apply pw_below_drewN | apply below_drew1) | exact HB.out)⟩
/-! ### delta_run_edits: function 176 -/
def delta_run_edits.f (a0_0 : ByteArray) (a0_1 : Int) : Option ((List (S153))) := if a0_0.toList = ([] : List UInt8) then (if a0_1 > 0 then (if ([] : List (S153)).length < 4398046511104 then (some (([] : List (S153)) ++ [(⟨3, a0_1, (⟨#[]⟩ : ByteArray)⟩ : S153)])) else (none)) else (some ([] : List (S153)))) else (if ([] : List (S153)).length < 4398046511104 then ((some (([] : List (S153)) ++ [(⟨2, 0, a0_0⟩ : S153)] : List (S153))).bind fun y1833 => (if a0_1 > 0 then (if y1833.length < 4398046511104 then (some (y1833 ++ [(⟨3, a0_1, (⟨#[]⟩ : ByteArray)⟩ : S153)])) else (none)) else (some y1833))) else (none))
set_option maxHeartbeats 8000000 in
set_option maxRecDepth 100000 in
theorem delta_run_edits.calls (a0_0 : ByteArray) (a0_1 : Int) (r : List (S153)) (w : World) (h : delta_run_edits.f a0_0 a0_1 = some r) :
    Calls Try.prog 176 #[.agg #[.string a0_0, .int .i64 a0_1]] w fun e w' => ∃ v0_ : Value, e = .returned (v0_) ∧ Kd.R k153 153 w' w.heap.size (fun _ => True) v0_ r ∧ Below w.heap.size w w' := by
  have hu238 := Try.underlying238
  have hu153 := Try.underlying153
  have HB := Aside0.mk (Below.refl w.heap.size w)
  have H : (if a0_0.toList = ([] : List UInt8) then (if a0_1 > 0 then (if ([] : List (S153)).length < 4398046511104 then (some (([] : List (S153)) ++ [(⟨3, a0_1, (⟨#[]⟩ : ByteArray)⟩ : S153)])) else (none)) else (some ([] : List (S153)))) else (if ([] : List (S153)).length < 4398046511104 then ((some (([] : List (S153)) ++ [(⟨2, 0, a0_0⟩ : S153)] : List (S153))).bind fun y1833 => (if a0_1 > 0 then (if y1833.length < 4398046511104 then (some (y1833 ++ [(⟨3, a0_1, (⟨#[]⟩ : ByteArray)⟩ : S153)])) else (none)) else (some y1833))) else (none))) = some r := h
  clear h
  by_cases c2 : a0_0.toList = ([] : List UInt8)
  · rw [if_pos c2] at H
    have c2b0 : (a0_0.toList == ([] : List UInt8)) = true := beq_iff_eq.mpr c2
    have c2b1 : (a0_0.toList != ([] : List UInt8)) = false := bne_eq_false_iff_eq.mpr c2
    clear c2
    by_cases c3 : a0_1 > 0
    · rw [if_pos c3] at H
      have c3b0 : decide (0 < a0_1) = true := decide_eq_true c3
      clear c3
      by_cases c4 : ([] : List (S153)).length < 4398046511104
      · rw [if_pos c4] at H
        have LMc4 := Aside0.mk c4
        clear c4
        obtain ⟨y1830, hy1830⟩ : ∃ y_ : List (S153), y_ = (([] : List (S153)) ++ [(⟨3, a0_1, (⟨#[]⟩ : ByteArray)⟩ : S153)]) := ⟨_, rfl⟩
        replace H : (some y1830) = some r := by first | (rw [hy1830]; with_reducible exact H) | (have H2_ := (Option.bind_some _ _).symm.trans H; rw [hy1830]; with_reducible exact H2_) | (have H2_ := (Option.bind_some _ _).symm.trans H; with_reducible exact H2_) | with_reducible exact H | (rw [hy1830]; exact H) | exact H
        have Ny1830 := Aside0.mk hy1830
        clear hy1830
        obtain rfl := Option.some.inj H
        go_enter Try.func176, Try.ntmps176
        go_wp2_with (first | ((with_reducible refine gate_dst (N := 1) rfl ?_); refine box_event ?hg (N := 1) ?hd (cs := #[.string a0_0, .int .i64 a0_1]) (t := 238) ?hr ?_; (case hd => rfl); (case hg => rfl); (case hr => first | (go_simp; done) | (go_simp; rfl)); intro gb1829 hg w5 hbox hb; have n0_ := Aside0.mk (below_step (by repeat (first | (with_reducible first | exact HB.out | apply below_alloc | apply pw_below_drewN | apply below_drew1) | exact HB.out)) hb); have n1_ := Aside0.mk (hbox); have n2_ := Aside0.mk ((by rw [hg]; exact (below_size (by repeat (first | (with_reducible first | exact HB.out | apply below_alloc | apply pw_below_drewN | apply below_drew1) | exact HB.out))) : w.heap.size ≤ gb1829)); have n3_ := Aside0.mk ((by rw [hg]; exact (below_size (by repeat (first | (with_reducible first | exact HB.out | apply below_alloc | apply pw_below_drewN | apply below_drew1) | exact HB.out))) : w.heap.size ≤ gb1829)); clear HB; have HB := n0_; have BK1829 := n1_; have GW1829 := n2_; have GE1829 := n3_; clear n0_ n1_ n2_ n3_; clear hb hbox hg; have hcz6_0 : w5.cell? ⟨gb1829, 0, none⟩ = some (.string a0_0) := (blk_cell BK1829.out 0).trans rfl; have hcz6_1 : w5.cell? ⟨gb1829, 1, none⟩ = some (.int .i64 a0_1) := (blk_cell BK1829.out 1).trans rfl; have hfz6_0 := blk_frozen BK1829.out 0; have hfz6_1 := blk_frozen BK1829.out 1) | ((with_reducible refine gate_builtin (b := .append) (xs := #[.tmp 15, .tmp 19]) rfl ?_); at_builtin; refine Kd.R_append k153 (w0 := w) w.heap.size rfl (.tmp 15) (.tmp 19) 133 153 (.agg #[(.int .u8 0), (.int .i64 0), (.string ⟨#[]⟩)]) 32 rfl Try.underlying133 info153 rfl (by decide) (by omega) (.slice none 0 0) ([] : List (S153)) (⟨3, a0_1, (⟨#[]⟩ : ByteArray)⟩ : S153) [.int .u8 3, .int .i64 a0_1, .string (⟨#[]⟩ : ByteArray)] (fun _ => True) (fun _ => False) rfl rfl ?aP (fun _ hk => hk.elim) ?aF ?aO ?aB ?aS ?aL ?_; (case aP => exact k153_mkM _ _ _ (⟨3, a0_1, (⟨#[]⟩ : ByteArray)⟩ : S153)); (case aB => exact (by repeat (first | (with_reducible first | exact HB.out | apply below_alloc | apply pw_below_drewN | apply below_drew1 | refine below_set ?_ GE1829.out) | exact HB.out))); (case aF => exact (fun _ _ => trivial)); (case aO => exact ((Kd.R_nil _ _ _ _ (fun _ => True)))); (case aS => exact (below_size (by repeat (first | (with_reducible first | exact HB.out | apply below_alloc | apply pw_below_drewN | apply below_drew1 | refine below_set ?_ GE1829.out) | exact HB.out)))); (case aL => have := LMc4.out; omega); intro v1831 w7 ho hb hg hat; rw [← Ny1830.out] at ho; have n0_ := Aside0.mk (blk_grown (g := gb1829) (o := .cells #[.string a0_0, .int .i64 a0_1] 238 (0, 0)) (by (with_reducible repeat (first | refine blk_drewN ?_ _ | refine blk_drew ?_ | refine blk_alloc ?_ _)); exact BK1829.out) hg (by simp [Value.ownBlock])); have n1_ := Aside0.mk (hb); have n2_ := Aside0.mk (ho); clear BK1829; clear HB; have BK1829 := n0_; have HB := n1_; have HO1832 := n2_; clear n0_ n1_ n2_; clear ho hb hg hat))
        go_ret
        exact ⟨_, by first | rfl | (simp [errW_none, errW_some] <;> rfl) | (simp [*, errW_none, errW_some] <;> rfl), by (with_reducible repeat (first | apply Kd.R_alloc | apply Kd.R_drewN | apply Kd.R_drew)); exact HO1832.out, by repeat (first | (with_reducible first | exact HB.out | apply below_alloc | apply pw_below_drewN | apply below_drew1 | refine below_set ?_ GE1829.out) | exact HB.out)⟩
      · rw [if_neg c4] at H
        exact absurd H (by simp)
    · rw [if_neg c3] at H
      have c3b0 : decide (0 < a0_1) = false := decide_eq_false c3
      clear c3
      obtain rfl := Option.some.inj H
      go_enter Try.func176, Try.ntmps176
      go_wp2_with (first | ((with_reducible refine gate_dst (N := 1) rfl ?_); refine box_event ?hg (N := 1) ?hd (cs := #[.string a0_0, .int .i64 a0_1]) (t := 238) ?hr ?_; (case hd => rfl); (case hg => rfl); (case hr => first | (go_simp; done) | (go_simp; rfl)); intro gb1829 hg w8 hbox hb; have n0_ := Aside0.mk (below_step (by repeat (first | (with_reducible first | exact HB.out | apply below_alloc | apply pw_below_drewN | apply below_drew1) | exact HB.out)) hb); have n1_ := Aside0.mk (hbox); have n2_ := Aside0.mk ((by rw [hg]; exact (below_size (by repeat (first | (with_reducible first | exact HB.out | apply below_alloc | apply pw_below_drewN | apply below_drew1) | exact HB.out))) : w.heap.size ≤ gb1829)); have n3_ := Aside0.mk ((by rw [hg]; exact (below_size (by repeat (first | (with_reducible first | exact HB.out | apply below_alloc | apply pw_below_drewN | apply below_drew1) | exact HB.out))) : w.heap.size ≤ gb1829)); clear HB; have HB := n0_; have BK1829 := n1_; have GW1829 := n2_; have GE1829 := n3_; clear n0_ n1_ n2_ n3_; clear hb hbox hg; have hcz9_0 : w8.cell? ⟨gb1829, 0, none⟩ = some (.string a0_0) := (blk_cell BK1829.out 0).trans rfl; have hcz9_1 : w8.cell? ⟨gb1829, 1, none⟩ = some (.int .i64 a0_1) := (blk_cell BK1829.out 1).trans rfl; have hfz9_0 := blk_frozen BK1829.out 0; have hfz9_1 := blk_frozen BK1829.out 1))
      go_ret
      exact ⟨_, by first | rfl | (simp [errW_none, errW_some] <;> rfl) | (simp [*, errW_none, errW_some] <;> rfl), by first | exact Kd.R_nil _ _ _ _ _ | exact Kd.N_nil _ _ _ _ _ | exact Kd.V_nil _ _ _ _ _ | exact Kd.Q_nil _ _ _ _ _ | exact Kd.S_nil _ _ _ _ _, by repeat (first | (with_reducible first | exact HB.out | apply below_alloc | apply pw_below_drewN | apply below_drew1 | refine below_set ?_ GE1829.out) | exact HB.out)⟩
  · rw [if_neg c2] at H
    have c2b0 : (a0_0.toList == ([] : List UInt8)) = false := beq_eq_false_iff_ne.mpr c2
    have c2b1 : (a0_0.toList != ([] : List UInt8)) = true := bne_iff_ne.mpr c2
    by_cases c10 : ([] : List (S153)).length < 4398046511104
    · rw [if_pos c10] at H
      have LMc10 := Aside0.mk c10
      clear c10
      obtain ⟨y1833, hy1833⟩ : ∃ y_ : List (S153), y_ = (([] : List (S153)) ++ [(⟨2, 0, a0_0⟩ : S153)]) := ⟨_, rfl⟩
      replace H : (if a0_1 > 0 then (if y1833.length < 4398046511104 then (some (y1833 ++ [(⟨3, a0_1, (⟨#[]⟩ : ByteArray)⟩ : S153)])) else (none)) else (some y1833)) = some r := by first | (rw [hy1833]; with_reducible exact H) | (have H2_ := (Option.bind_some _ _).symm.trans H; rw [hy1833]; with_reducible exact H2_) | (have H2_ := (Option.bind_some _ _).symm.trans H; with_reducible exact H2_) | with_reducible exact H | (rw [hy1833]; exact H) | exact H
      have Ny1833 := Aside0.mk hy1833
      clear hy1833
      by_cases c11 : a0_1 > 0
      · rw [if_pos c11] at H
        have c11b0 : decide (0 < a0_1) = true := decide_eq_true c11
        clear c11
        by_cases c12 : y1833.length < 4398046511104
        · rw [if_pos c12] at H
          have LMc12 := Aside0.mk c12
          clear c12
          obtain ⟨y1836, hy1836⟩ : ∃ y_ : List (S153), y_ = (y1833 ++ [(⟨3, a0_1, (⟨#[]⟩ : ByteArray)⟩ : S153)]) := ⟨_, rfl⟩
          replace H : (some y1836) = some r := by first | (rw [hy1836]; with_reducible exact H) | (have H2_ := (Option.bind_some _ _).symm.trans H; rw [hy1836]; with_reducible exact H2_) | (have H2_ := (Option.bind_some _ _).symm.trans H; with_reducible exact H2_) | with_reducible exact H | (rw [hy1836]; exact H) | exact H
          have Ny1836 := Aside0.mk hy1836
          clear hy1836
          obtain rfl := Option.some.inj H
          go_enter Try.func176, Try.ntmps176
          go_wp2_with (first | ((with_reducible refine gate_dst (N := 1) rfl ?_); refine box_event ?hg (N := 1) ?hd (cs := #[.string a0_0, .int .i64 a0_1]) (t := 238) ?hr ?_; (case hd => rfl); (case hg => rfl); (case hr => first | (go_simp; done) | (go_simp; rfl)); intro gb1829 hg w13 hbox hb; have n0_ := Aside0.mk (below_step (by repeat (first | (with_reducible first | exact HB.out | apply below_alloc | apply pw_below_drewN | apply below_drew1) | exact HB.out)) hb); have n1_ := Aside0.mk (hbox); have n2_ := Aside0.mk ((by rw [hg]; exact (below_size (by repeat (first | (with_reducible first | exact HB.out | apply below_alloc | apply pw_below_drewN | apply below_drew1) | exact HB.out))) : w.heap.size ≤ gb1829)); have n3_ := Aside0.mk ((by rw [hg]; exact (below_size (by repeat (first | (with_reducible first | exact HB.out | apply below_alloc | apply pw_below_drewN | apply below_drew1) | exact HB.out))) : w.heap.size ≤ gb1829)); clear HB; have HB := n0_; have BK1829 := n1_; have GW1829 := n2_; have GE1829 := n3_; clear n0_ n1_ n2_ n3_; clear hb hbox hg; have hcz14_0 : w13.cell? ⟨gb1829, 0, none⟩ = some (.string a0_0) := (blk_cell BK1829.out 0).trans rfl; have hcz14_1 : w13.cell? ⟨gb1829, 1, none⟩ = some (.int .i64 a0_1) := (blk_cell BK1829.out 1).trans rfl; have hfz14_0 := blk_frozen BK1829.out 0; have hfz14_1 := blk_frozen BK1829.out 1) | ((with_reducible refine gate_builtin (b := .append) (xs := #[.tmp 6, .tmp 10]) rfl ?_); at_builtin; refine Kd.R_append k153 (w0 := w) w.heap.size rfl (.tmp 6) (.tmp 10) 133 153 (.agg #[(.int .u8 0), (.int .i64 0), (.string ⟨#[]⟩)]) 32 rfl Try.underlying133 info153 rfl (by decide) (by omega) (.slice none 0 0) ([] : List (S153)) (⟨2, 0, a0_0⟩ : S153) [.int .u8 2, .int .i64 0, .string a0_0] (fun _ => True) (fun _ => False) rfl rfl ?aP (fun _ hk => hk.elim) ?aF ?aO ?aB ?aS ?aL ?_; (case aP => exact k153_mkM _ _ _ (⟨2, 0, a0_0⟩ : S153)); (case aB => exact (by repeat (first | (with_reducible first | exact HB.out | apply below_alloc | apply pw_below_drewN | apply below_drew1 | refine below_set ?_ GE1829.out) | exact HB.out))); (case aF => exact (fun _ _ => trivial)); (case aO => exact ((Kd.R_nil _ _ _ _ (fun _ => True)))); (case aS => exact (below_size (by repeat (first | (with_reducible first | exact HB.out | apply below_alloc | apply pw_below_drewN | apply below_drew1 | refine below_set ?_ GE1829.out) | exact HB.out)))); (case aL => have := LMc10.out; omega); intro v1834 w15 ho hb hg hat; rw [← Ny1833.out] at ho; have n0_ := Aside0.mk (blk_grown (g := gb1829) (o := .cells #[.string a0_0, .int .i64 a0_1] 238 (0, 0)) (by (with_reducible repeat (first | refine blk_drewN ?_ _ | refine blk_drew ?_ | refine blk_alloc ?_ _)); exact BK1829.out) hg (by simp [Value.ownBlock])); have n1_ := Aside0.mk (hb); have n2_ := Aside0.mk (ho); clear BK1829; clear HB; have BK1829 := n0_; have HB := n1_; have HO1835 := n2_; clear n0_ n1_ n2_; clear ho hb hg hat; have hcz16_0 : w15.cell? ⟨gb1829, 0, none⟩ = some (.string a0_0) := (blk_cell BK1829.out 0).trans rfl; have hcz16_1 : w15.cell? ⟨gb1829, 1, none⟩ = some (.int .i64 a0_1) := (blk_cell BK1829.out 1).trans rfl; have hfz16_0 := blk_frozen BK1829.out 0; have hfz16_1 := blk_frozen BK1829.out 1) | ((with_reducible refine gate_builtin (b := .append) (xs := #[.tmp 15, .tmp 19]) rfl ?_); at_builtin; refine Kd.R_append k153 (w0 := w) w.heap.size rfl (.tmp 15) (.tmp 19) 133 153 (.agg #[(.int .u8 0), (.int .i64 0), (.string ⟨#[]⟩)]) 32 rfl Try.underlying133 info153 rfl (by decide) (by omega) v1834 y1833 (⟨3, a0_1, (⟨#[]⟩ : ByteArray)⟩ : S153) [.int .u8 3, .int .i64 a0_1, .string (⟨#[]⟩ : ByteArray)] (fun _ => True) (fun _ => False) rfl rfl ?aP (fun _ hk => hk.elim) ?aF ?aO ?aB ?aS ?aL ?_; (case aP => exact k153_mkM _ _ _ (⟨3, a0_1, (⟨#[]⟩ : ByteArray)⟩ : S153)); (case aB => exact (by repeat (first | (with_reducible first | exact HB.out | apply below_alloc | apply pw_below_drewN | apply below_drew1 | refine below_set ?_ GE1829.out) | exact HB.out))); (case aF => exact (fun _ _ => trivial)); (case aO => exact (by (with_reducible repeat (first | apply Kd.R_alloc | apply Kd.R_drewN | apply Kd.R_drew)); exact HO1835.out)); (case aS => exact (below_size (by repeat (first | (with_reducible first | exact HB.out | apply below_alloc | apply pw_below_drewN | apply below_drew1 | refine below_set ?_ GE1829.out) | exact HB.out)))); (case aL => have := LMc12.out; omega); intro v1837 w17 ho hb hg hat; rw [← Ny1836.out] at ho; have n0_ := Aside0.mk (blk_grown (g := gb1829) (o := .cells #[.string a0_0, .int .i64 a0_1] 238 (0, 0)) (by (with_reducible repeat (first | refine blk_drewN ?_ _ | refine blk_drew ?_ | refine blk_alloc ?_ _)); exact BK1829.out) hg (Kd.R_ne HO1835.out BK1829.out (by decide))); have n1_ := Aside0.mk (hb); have n2_ := Aside0.mk (ho); clear BK1829; clear HB; clear HO1835; have BK1829 := n0_; have HB := n1_; have HO1838 := n2_; clear n0_ n1_ n2_; clear ho hb hg hat))
          go_ret
          exact ⟨_, by first | rfl | (simp [errW_none, errW_some] <;> rfl) | (simp [*, errW_none, errW_some] <;> rfl), by (with_reducible repeat (first | apply Kd.R_alloc | apply Kd.R_drewN | apply Kd.R_drew)); exact HO1838.out, by repeat (first | (with_reducible first | exact HB.out | apply below_alloc | apply pw_below_drewN | apply below_drew1 | refine below_set ?_ GE1829.out) | exact HB.out)⟩
        · rw [if_neg c12] at H
          exact absurd H (by simp)
      · rw [if_neg c11] at H
        have c11b0 : decide (0 < a0_1) = false := decide_eq_false c11
        clear c11
        obtain rfl := Option.some.inj H
        go_enter Try.func176, Try.ntmps176
        go_wp2_with (first | ((with_reducible refine gate_dst (N := 1) rfl ?_); refine box_event ?hg (N := 1) ?hd (cs := #[.string a0_0, .int .i64 a0_1]) (t := 238) ?hr ?_; (case hd => rfl); (case hg => rfl); (case hr => first | (go_simp; done) | (go_simp; rfl)); intro gb1829 hg w18 hbox hb; have n0_ := Aside0.mk (below_step (by repeat (first | (with_reducible first | exact HB.out | apply below_alloc | apply pw_below_drewN | apply below_drew1) | exact HB.out)) hb); have n1_ := Aside0.mk (hbox); have n2_ := Aside0.mk ((by rw [hg]; exact (below_size (by repeat (first | (with_reducible first | exact HB.out | apply below_alloc | apply pw_below_drewN | apply below_drew1) | exact HB.out))) : w.heap.size ≤ gb1829)); have n3_ := Aside0.mk ((by rw [hg]; exact (below_size (by repeat (first | (with_reducible first | exact HB.out | apply below_alloc | apply pw_below_drewN | apply below_drew1) | exact HB.out))) : w.heap.size ≤ gb1829)); clear HB; have HB := n0_; have BK1829 := n1_; have GW1829 := n2_; have GE1829 := n3_; clear n0_ n1_ n2_ n3_; clear hb hbox hg; have hcz19_0 : w18.cell? ⟨gb1829, 0, none⟩ = some (.string a0_0) := (blk_cell BK1829.out 0).trans rfl; have hcz19_1 : w18.cell? ⟨gb1829, 1, none⟩ = some (.int .i64 a0_1) := (blk_cell BK1829.out 1).trans rfl; have hfz19_0 := blk_frozen BK1829.out 0; have hfz19_1 := blk_frozen BK1829.out 1) | ((with_reducible refine gate_builtin (b := .append) (xs := #[.tmp 6, .tmp 10]) rfl ?_); at_builtin; refine Kd.R_append k153 (w0 := w) w.heap.size rfl (.tmp 6) (.tmp 10) 133 153 (.agg #[(.int .u8 0), (.int .i64 0), (.string ⟨#[]⟩)]) 32 rfl Try.underlying133 info153 rfl (by decide) (by omega) (.slice none 0 0) ([] : List (S153)) (⟨2, 0, a0_0⟩ : S153) [.int .u8 2, .int .i64 0, .string a0_0] (fun _ => True) (fun _ => False) rfl rfl ?aP (fun _ hk => hk.elim) ?aF ?aO ?aB ?aS ?aL ?_; (case aP => exact k153_mkM _ _ _ (⟨2, 0, a0_0⟩ : S153)); (case aB => exact (by repeat (first | (with_reducible first | exact HB.out | apply below_alloc | apply pw_below_drewN | apply below_drew1 | refine below_set ?_ GE1829.out) | exact HB.out))); (case aF => exact (fun _ _ => trivial)); (case aO => exact ((Kd.R_nil _ _ _ _ (fun _ => True)))); (case aS => exact (below_size (by repeat (first | (with_reducible first | exact HB.out | apply below_alloc | apply pw_below_drewN | apply below_drew1 | refine below_set ?_ GE1829.out) | exact HB.out)))); (case aL => have := LMc10.out; omega); intro v1834 w20 ho hb hg hat; rw [← Ny1833.out] at ho; have n0_ := Aside0.mk (blk_grown (g := gb1829) (o := .cells #[.string a0_0, .int .i64 a0_1] 238 (0, 0)) (by (with_reducible repeat (first | refine blk_drewN ?_ _ | refine blk_drew ?_ | refine blk_alloc ?_ _)); exact BK1829.out) hg (by simp [Value.ownBlock])); have n1_ := Aside0.mk (hb); have n2_ := Aside0.mk (ho); clear BK1829; clear HB; have BK1829 := n0_; have HB := n1_; have HO1835 := n2_; clear n0_ n1_ n2_; clear ho hb hg hat; have hcz21_0 : w20.cell? ⟨gb1829, 0, none⟩ = some (.string a0_0) := (blk_cell BK1829.out 0).trans rfl; have hcz21_1 : w20.cell? ⟨gb1829, 1, none⟩ = some (.int .i64 a0_1) := (blk_cell BK1829.out 1).trans rfl; have hfz21_0 := blk_frozen BK1829.out 0; have hfz21_1 := blk_frozen BK1829.out 1))
        go_ret
        exact ⟨_, by first | rfl | (simp [errW_none, errW_some] <;> rfl) | (simp [*, errW_none, errW_some] <;> rfl), by (with_reducible repeat (first | apply Kd.R_alloc | apply Kd.R_drewN | apply Kd.R_drew)); exact HO1835.out, by repeat (first | (with_reducible first | exact HB.out | apply below_alloc | apply pw_below_drewN | apply below_drew1 | refine below_set ?_ GE1829.out) | exact HB.out)⟩
    · rw [if_neg c10] at H
      exact absurd H (by simp)
/-! ### delta_Sizes: function 106 -/
def delta_Sizes.l0 : Nat → Int → Int → List (S153) → Int → Int → Option (Int × Int)
  | 0, _, _, _, _, _ => none
  | k + 1, x2, x3, x8, x9, x10 => if x10 < x9 then (if 0 ≤ x10 then (if x10 < (x8.length : Int) then ((delta_Edit_sizes.f k ((rd_T153 x8 x10).f0) ((rd_T153 x8 x10).f1) ((rd_T153 x8 x10).f2)).bind fun bt2023 => (delta_Sizes.l0 k (wrap64 (x2 + bt2023.1)) (wrap64 (x3 + bt2023.2)) x8 x9 (wrap64 (x10 + 1)))) else (none)) else (none)) else (some (x2, x3))
def delta_Sizes.f (k : Nat) (l0 : List (S153)) : Option (Int × Int) := delta_Sizes.l0 k 0 0 l0 (l0.length : Int) 0
set_option maxHeartbeats 8000000 in
set_option maxRecDepth 100000 in
theorem delta_Sizes.calls (k : Nat) (A0 : Option Addr) (c0 : Nat) (l0 : List (S153)) (r1 : Int) (r2 : Int) (w : World) (hr0 : Kd.C k153 w A0 l0.length l0) (hc0 : l0.length ≤ c0) (h : delta_Sizes.f k l0 = some (r1, r2)) :
    Calls Try.prog 106 #[.slice A0 l0.length c0] w fun e w' => e = .returned (.tuple #[.int .i64 r1, .int .i64 r2]) ∧ Below w.heap.size w w' := by
  have hu153 := Try.underlying153
  have HR0 := Aside0.mk hr0
  have HC0 := Aside0.mk hc0
  clear hr0 hc0
  have HB := Aside0.mk (Below.refl w.heap.size w)
  have H : (delta_Sizes.l0 k 0 0 l0 (l0.length : Int) 0) = some (r1, r2) := h
  clear h
  have H' := Aside0.mk H
  clear H
  go_enter Try.func106, Try.ntmps106
  go_wp2
  go_loopg [2, 3, 10] k (fun kq v2 v3 v10 w' => ∃ (x2_1 : Int) (x3_1 : Int) (x10_1 : Int), v2 = .int .i64 x2_1 ∧ v3 = .int .i64 x3_1 ∧ v10 = .int .i64 x10_1 ∧ Aside0 (delta_Sizes.l0 kq x2_1 x3_1 l0 (l0.length : Int) x10_1 = some (r1, r2)) ∧ Aside0 (kq ≤ k) ∧ Aside0 (Below w.heap.size w w'))
  case atStart => exact ⟨(0), (0), (0), (by first | rfl | (simp; done) | (simp [*]; done)), (by first | rfl | (simp; done) | (simp [*]; done)), (by first | rfl | (simp; done) | (simp [*]; done)), H', ⟨Nat.le_refl _⟩, ⟨by repeat (first | (with_reducible first | exact HB.out | apply below_alloc | apply pw_below_drewN | apply below_drew1) | exact HB.out)⟩⟩
  case round =>
    clear H'
    try clear c1
    obtain ⟨x2_1, x3_1, x10_1, rfl, rfl, rfl, HA, HK1, HB⟩ := hrel
    cases gk with
    | zero => exact absurd HA.out (by simp [delta_Sizes.l0])
    | succ k1 =>
      have H := HA.out
      clear HA
      simp only [delta_Sizes.l0] at H
      by_cases c2 : x10_1 < (l0.length : Int)
      · rw [if_pos c2] at H
        have c2b0 : decide (x10_1 < (l0.length : Int)) = true := decide_eq_true c2
        clear c2
        by_cases c3 : 0 ≤ x10_1
        · rw [if_pos c3] at H
          have c3b0 : decide (0 ≤ x10_1) = true := decide_eq_true c3
          clear c3
          by_cases c4 : x10_1 < (l0.length : Int)
          · rw [if_pos c4] at H
            have c4b0 : decide (x10_1 < (l0.length : Int)) = true := decide_eq_true c4
            clear c4
            replace H := Option.bind_eq_some_iff.mp H
            obtain ⟨⟨t2023, t2024⟩, A50, H⟩ := H
            replace H : (delta_Sizes.l0 k1 (wrap64 (x2_1 + t2023)) (wrap64 (x3_1 + t2024)) l0 (l0.length : Int) (wrap64 (x10_1 + 1))) = some (r1, r2) := H
            have A5 := Aside0.mk A50
            clear A50
            have H' := Aside0.mk H
            clear H
            have p2021 : 0 ≤ (x10_1 : Int) := of_decide_eq_true (by first | (with_reducible assumption) | assumption)
            have q2021 : x10_1 < (l0.length : Int) := of_decide_eq_true (by first | (with_reducible assumption) | assumption)
            obtain ⟨ad2021, e2021, hx2021_0, hx2021_1, hx2021_2⟩ := at_T153 HR0.out x10_1 p2021 q2021
            cases e2021
            replace hx2021_0 := (HB.out.cell (World.block_lt_of_cell? w _ hx2021_0)).trans hx2021_0
            replace hx2021_1 := (HB.out.cell (World.block_lt_of_cell? w _ hx2021_1)).trans hx2021_1
            replace hx2021_2 := (HB.out.cell (World.block_lt_of_cell? w _ hx2021_2)).trans hx2021_2
            replace p2021 := eq_true p2021
            replace q2021 := eq_true q2021
            go_wp2_with (first | ((with_reducible refine gate_dst (N := 5) rfl ?_); refine box_event ?hg (N := 5) ?hd (cs := #[.int .u8 0, .int .i64 0, .string (⟨#[]⟩ : ByteArray)]) (t := 153) ?hr ?_; (case hd => rfl); (case hg => rfl); (case hr => first | (go_simp; done) | (go_simp; rfl)); intro gb2022 hg w6 hbox hb; have n0_ := Aside0.mk (below_step (by repeat (first | (with_reducible first | exact HB.out | apply below_alloc | apply pw_below_drewN | apply below_drew1) | exact HB.out)) hb); have n1_ := Aside0.mk (hbox); have n2_ := Aside0.mk ((by rw [hg]; exact (below_size (by repeat (first | (with_reducible first | exact HB.out | apply below_alloc | apply pw_below_drewN | apply below_drew1) | exact HB.out))) : w.heap.size ≤ gb2022)); have n3_ := Aside0.mk ((by rw [hg]; exact (below_size (by repeat (first | (with_reducible first | exact HB.out | apply below_alloc | apply pw_below_drewN | apply below_drew1) | exact HB.out))) : w.heap.size ≤ gb2022)); clear HB; have HB := n0_; have BK2022 := n1_; have GW2022 := n2_; have GE2022 := n3_; clear n0_ n1_ n2_ n3_; clear hb hbox hg; have hcz7_0 : w6.cell? ⟨gb2022, 0, none⟩ = some (.int .u8 0) := (blk_cell BK2022.out 0).trans rfl; have hcz7_1 : w6.cell? ⟨gb2022, 1, none⟩ = some (.int .i64 0) := (blk_cell BK2022.out 1).trans rfl; have hcz7_2 : w6.cell? ⟨gb2022, 2, none⟩ = some (.string (⟨#[]⟩ : ByteArray)) := (blk_cell BK2022.out 2).trans rfl; have hfz7_0 := blk_frozen BK2022.out 0; have hfz7_1 := blk_frozen BK2022.out 1; have hfz7_2 := blk_frozen BK2022.out 2) | ((with_reducible refine gate_callee (f := 171) rfl ?_); refine goesL_ (some 16) rfl rfl Try.func171 (by kernel_rfl) rfl #[.agg #[.int .u8 ((rd_T153 l0 x10_1).f0), .int .i64 ((rd_T153 l0 x10_1).f1), .string ((rd_T153 l0 x10_1).f2)]] rfl (by (try simp only [List.map_toArray, List.map_cons, List.map_nil]); first | done | rfl | (simp only [List.length_drop, List.length_take]; rfl)) ?_; (with_reducible refine (delta_Edit_sizes.calls k1 ((rd_T153 l0 x10_1).f0) ((rd_T153 l0 x10_1).f1) ((rd_T153 l0 x10_1).f2) t2023 t2024 _ A5.out).mono ?_); rintro e w8 ⟨rfl, hb⟩; refine ⟨_, rfl, ?_⟩; have n0_ := Aside0.mk (blk_below (g := gb2022) (o := .cells #[.int .u8 ((rd_T153 l0 x10_1).f0), .int .i64 ((rd_T153 l0 x10_1).f1), .string ((rd_T153 l0 x10_1).f2)] 153 (0, 0)) (by (with_reducible repeat (first | refine blk_drewN ?_ _ | refine blk_drew ?_ | refine blk_alloc ?_ _)); refine blk_put (cs := #[.int .u8 ((rd_T153 l0 x10_1).f0), .int .i64 ((rd_T153 l0 x10_1).f1), .string (⟨#[]⟩ : ByteArray)]) ?_ 2 _ rfl; (with_reducible repeat (first | refine blk_drewN ?_ _ | refine blk_drew ?_ | refine blk_alloc ?_ _)); refine blk_put (cs := #[.int .u8 ((rd_T153 l0 x10_1).f0), .int .i64 0, .string (⟨#[]⟩ : ByteArray)]) ?_ 1 _ rfl; (with_reducible repeat (first | refine blk_drewN ?_ _ | refine blk_drew ?_ | refine blk_alloc ?_ _)); refine blk_put (cs := #[.int .u8 0, .int .i64 0, .string (⟨#[]⟩ : ByteArray)]) ?_ 0 _ rfl; (with_reducible repeat (first | refine blk_drewN ?_ _ | refine blk_drew ?_ | refine blk_alloc ?_ _)); exact BK2022.out) hb); have n1_ := Aside0.mk (below_step (by repeat (first | (with_reducible first | exact HB.out | apply below_alloc | apply pw_below_drewN | apply below_drew1 | refine below_set ?_ GE2022.out) | exact HB.out)) hb); clear BK2022; clear HB; have BK2022 := n0_; have HB := n1_; clear n0_ n1_; (try clear hb); (try clear hb2); (try clear hk); (try clear hi)))
            go_roundg k1
            case measure => have := HK1.out; omega
            case rel => exact ⟨(wrap64 (x2_1 + t2023)), (wrap64 (x3_1 + t2024)), (wrap64 (x10_1 + 1)), (by first | rfl | (simp; done) | (simp [*]; done)), (by first | rfl | (simp; done) | (simp [*]; done)), (by first | rfl | (simp; done) | (simp [*]; done)), H', ⟨by have := HK1.out; omega⟩, ⟨by repeat (first | (with_reducible first | exact HB.out | apply below_alloc | apply pw_below_drewN | apply below_drew1 | refine below_set ?_ GE2022.out) | exact HB.out)⟩⟩
          · rw [if_neg c4] at H
            exact absurd H (by simp)
        · rw [if_neg c3] at H
          exact absurd H (by simp)
      · rw [if_neg c2] at H
        have c2b0 : decide (x10_1 < (l0.length : Int)) = false := decide_eq_false c2
        clear c2
        simp only [Option.some.injEq, Prod.mk.injEq] at H
        obtain ⟨rfl, rfl⟩ := H
        go_wp2
        go_ret2
        exact ⟨by first | rfl | (rw [← isEmpty_bne]; rfl) | (rw [← isEmpty_beq]; rfl) | (simp [errW_none, errW_some] <;> rfl) | (simp [*, errW_none, errW_some] <;> rfl), by repeat (first | (with_reducible first | exact HB.out | apply below_alloc | apply pw_below_drewN | apply below_drew1) | exact HB.out)⟩
end Go.Proofs.Ytoeabgeglgiobaa.P
