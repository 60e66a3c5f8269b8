/- What functions of the given program do, each as a plain Lean function that its call meets: printed by a program of this session out of the translation, checked by Lean. Its conditions: those of each theorem. -/
import Derived.Test.Ytoeabgeglgiobaac5aP0
import Derived.Test.Ytoeabgeglgiobaac5aGref010
namespace Go.Proofs.Ytoeabgeglgiobaa.P
open Go.RowKit Go.Proofs.YtoeabgeglgiobaaW.PrintWords Go.Proofs.YtoeabgeglgiobaaW.PrintLast Go.Proofs.YtoeabgeglgiobaaW.PrintMore
attribute [local go_sem] max2_int min2_int max_two min_two max_three min_three max_four min_four   -- for this text's walks alone
set_option linter.unusedVariables false
set_option linter.unusedSimpArgs false
/-! ### chartroomref05_right: function 175 -/
def chartroomref05_right.f (a0_0 : Int) (a0_1 : Int) (a0_2 : ByteArray) : Option (Bool) := if a0_0 = 2 then (if a0_1 = 0 then (some (decide ((a0_2.size : Int) > 0))) else (some false)) else (if a0_0 = 1 then (if a0_1 ≥ 1 then (if a0_1 ≤ 2147483647 then (some ((a0_2.size : Int) == 0)) else (some false)) else (some false)) else (if a0_0 = 3 then (if a0_1 ≥ 1 then (if a0_1 ≤ 2147483647 then (some ((a0_2.size : Int) == 0)) else (some false)) else (some false)) else (some false)))
set_option maxHeartbeats 8000000 in
set_option maxRecDepth 100000 in
theorem chartroomref05_right.calls (a0_0 : Int) (a0_1 : Int) (a0_2 : ByteArray) (r : Bool) (w : World) (h : chartroomref05_right.f a0_0 a0_1 a0_2 = some r) :
    Calls Try.prog 175 #[.agg #[.int .u8 a0_0, .int .i64 a0_1, .string a0_2]] w fun e w' => e = .returned (.bool r) ∧ Below w.heap.size w w' := by
  have hu226 := Try.underlying226
  have HB := Aside0.mk (Below.refl w.heap.size w)
  have H : (if a0_0 = 2 then (if a0_1 = 0 then (some (decide ((a0_2.size : Int) > 0))) else (some false)) else (if a0_0 = 1 then (if a0_1 ≥ 1 then (if a0_1 ≤ 2147483647 then (some ((a0_2.size : Int) == 0)) else (some false)) else (some false)) else (if a0_0 = 3 then (if a0_1 ≥ 1 then (if a0_1 ≤ 2147483647 then (some ((a0_2.size : Int) == 0)) else (some false)) else (some false)) else (some false)))) = some r := h
  clear h
  by_cases c2 : a0_0 = 2
  · rw [if_pos c2] at H
    have c2b0 : (a0_0 == 2) = true := beq_iff_eq.mpr c2
    have c2b1 : (a0_0 != 2) = false := bne_eq_false_iff_eq.mpr c2
    clear c2
    by_cases c3 : a0_1 = 0
    · rw [if_pos c3] at H
      have c3b0 : (a0_1 == 0) = true := beq_iff_eq.mpr c3
      have c3b1 : (a0_1 != 0) = false := bne_eq_false_iff_eq.mpr c3
      clear c3
      obtain rfl := Option.some.inj H
      go_enter Try.func175, Try.ntmps175
      go_wp2_with (first | ((with_reducible refine gate_dst (N := 1) rfl ?_); (try (refine gate_guard (by rfl) ?_; dsimp only)); refine box_event ?hg (N := 1) ?hd (cs := #[.int .u8 a0_0, .int .i64 a0_1, .string a0_2]) (t := 226) ?hr ?_; (case hd => rfl); (case hg => rfl); (case hr => first | (go_simp; done) | (go_simp; rfl)); intro gb1413 hg w4 hbox hb; have n0_ := Aside0.mk (below_step (by repeat (first | (with_reducible first | exact HB.out | apply below_alloc | apply pw_below_drewN | apply below_drew1) | exact HB.out)) hb); have n1_ := Aside0.mk (hbox); have n2_ := Aside0.mk ((by rw [hg]; exact (below_size (by repeat (first | (with_reducible first | exact HB.out | apply below_alloc | apply pw_below_drewN | apply below_drew1) | exact HB.out))) : w.heap.size ≤ gb1413)); have n3_ := Aside0.mk ((by rw [hg]; exact (below_size (by repeat (first | (with_reducible first | exact HB.out | apply below_alloc | apply pw_below_drewN | apply below_drew1) | exact HB.out))) : w.heap.size ≤ gb1413)); clear HB; have HB := n0_; have BK1413 := n1_; have GW1413 := n2_; have GE1413 := n3_; clear n0_ n1_ n2_ n3_; clear hb hbox hg; have hcz5_0 : w4.cell? ⟨gb1413, 0, none⟩ = some (.int .u8 a0_0) := (blk_cell BK1413.out 0).trans rfl; have hcz5_1 : w4.cell? ⟨gb1413, 1, none⟩ = some (.int .i64 a0_1) := (blk_cell BK1413.out 1).trans rfl; have hcz5_2 : w4.cell? ⟨gb1413, 2, none⟩ = some (.string a0_2) := (blk_cell BK1413.out 2).trans rfl; have hfz5_0 := blk_frozen BK1413.out 0; have hfz5_1 := blk_frozen BK1413.out 1; have hfz5_2 := blk_frozen BK1413.out 2))
      go_ret
      exact ⟨by first | rfl | (simp [errW_none, errW_some] <;> rfl) | (simp [*, errW_none, errW_some] <;> rfl), by repeat (first | (with_reducible first | exact HB.out | apply below_alloc | apply pw_below_drewN | apply below_drew1 | refine below_set ?_ GE1413.out) | exact HB.out)⟩
    · rw [if_neg c3] at H
      have c3b0 : (a0_1 == 0) = false := beq_eq_false_iff_ne.mpr c3
      have c3b1 : (a0_1 != 0) = true := bne_iff_ne.mpr c3
      obtain rfl := Option.some.inj H
      go_enter Try.func175, Try.ntmps175
      go_wp2_with (first | ((with_reducible refine gate_dst (N := 1) rfl ?_); (try (refine gate_guard (by rfl) ?_; dsimp only)); refine box_event ?hg (N := 1) ?hd (cs := #[.int .u8 a0_0, .int .i64 a0_1, .string a0_2]) (t := 226) ?hr ?_; (case hd => rfl); (case hg => rfl); (case hr => first | (go_simp; done) | (go_simp; rfl)); intro gb1413 hg w6 hbox hb; have n0_ := Aside0.mk (below_step (by repeat (first | (with_reducible first | exact HB.out | apply below_alloc | apply pw_below_drewN | apply below_drew1) | exact HB.out)) hb); have n1_ := Aside0.mk (hbox); have n2_ := Aside0.mk ((by rw [hg]; exact (below_size (by repeat (first | (with_reducible first | exact HB.out | apply below_alloc | apply pw_below_drewN | apply below_drew1) | exact HB.out))) : w.heap.size ≤ gb1413)); have n3_ := Aside0.mk ((by rw [hg]; exact (below_size (by repeat (first | (with_reducible first | exact HB.out | apply below_alloc | apply pw_below_drewN | apply below_drew1) | exact HB.out))) : w.heap.size ≤ gb1413)); clear HB; have HB := n0_; have BK1413 := n1_; have GW1413 := n2_; have GE1413 := n3_; clear n0_ n1_ n2_ n3_; clear hb hbox hg; have hcz7_0 : w6.cell? ⟨gb1413, 0, none⟩ = some (.int .u8 a0_0) := (blk_cell BK1413.out 0).trans rfl; have hcz7_1 : w6.cell? ⟨gb1413, 1, none⟩ = some (.int .i64 a0_1) := (blk_cell BK1413.out 1).trans rfl; have hcz7_2 : w6.cell? ⟨gb1413, 2, none⟩ = some (.string a0_2) := (blk_cell BK1413.out 2).trans rfl; have hfz7_0 := blk_frozen BK1413.out 0; have hfz7_1 := blk_frozen BK1413.out 1; have hfz7_2 := blk_frozen BK1413.out 2))
      go_ret
      exact ⟨by first | rfl | (simp [errW_none, errW_some] <;> rfl) | (simp [*, errW_none, errW_some] <;> rfl), by repeat (first | (with_reducible first | exact HB.out | apply below_alloc | apply pw_below_drewN | apply below_drew1 | refine below_set ?_ GE1413.out) | exact HB.out)⟩
  · rw [if_neg c2] at H
    have c2b0 : (a0_0 == 2) = false := beq_eq_false_iff_ne.mpr c2
    have c2b1 : (a0_0 != 2) = true := bne_iff_ne.mpr c2
    by_cases c8 : a0_0 = 1
    · rw [if_pos c8] at H
      have c8b0 : (a0_0 == 1) = true := beq_iff_eq.mpr c8
      have c8b1 : (a0_0 != 1) = false := bne_eq_false_iff_eq.mpr c8
      clear c8
      by_cases c9 : a0_1 ≥ 1
      · rw [if_pos c9] at H
        have c9b0 : decide (1 ≤ a0_1) = true := decide_eq_true c9
        clear c9
        by_cases c10 : a0_1 ≤ 2147483647
        · rw [if_pos c10] at H
          have c10b0 : decide (a0_1 ≤ 2147483647) = true := decide_eq_true c10
          clear c10
          obtain rfl := Option.some.inj H
          go_enter Try.func175, Try.ntmps175
          go_wp2_with (first | ((with_reducible refine gate_dst (N := 1) rfl ?_); (try (refine gate_guard (by rfl) ?_; dsimp only)); refine box_event ?hg (N := 1) ?hd (cs := #[.int .u8 a0_0, .int .i64 a0_1, .string a0_2]) (t := 226) ?hr ?_; (case hd => rfl); (case hg => rfl); (case hr => first | (go_simp; done) | (go_simp; rfl)); intro gb1413 hg w11 hbox hb; have n0_ := Aside0.mk (below_step (by repeat (first | (with_reducible first | exact HB.out | apply below_alloc | apply pw_below_drewN | apply below_drew1) | exact HB.out)) hb); have n1_ := Aside0.mk (hbox); have n2_ := Aside0.mk ((by rw [hg]; exact (below_size (by repeat (first | (with_reducible first | exact HB.out | apply below_alloc | apply pw_below_drewN | apply below_drew1) | exact HB.out))) : w.heap.size ≤ gb1413)); have n3_ := Aside0.mk ((by rw [hg]; exact (below_size (by repeat (first | (with_reducible first | exact HB.out | apply below_alloc | apply pw_below_drewN | apply below_drew1) | exact HB.out))) : w.heap.size ≤ gb1413)); clear HB; have HB := n0_; have BK1413 := n1_; have GW1413 := n2_; have GE1413 := n3_; clear n0_ n1_ n2_ n3_; clear hb hbox hg; have hcz12_0 : w11.cell? ⟨gb1413, 0, none⟩ = some (.int .u8 a0_0) := (blk_cell BK1413.out 0).trans rfl; have hcz12_1 : w11.cell? ⟨gb1413, 1, none⟩ = some (.int .i64 a0_1) := (blk_cell BK1413.out 1).trans rfl; have hcz12_2 : w11.cell? ⟨gb1413, 2, none⟩ = some (.string a0_2) := (blk_cell BK1413.out 2).trans rfl; have hfz12_0 := blk_frozen BK1413.out 0; have hfz12_1 := blk_frozen BK1413.out 1; have hfz12_2 := blk_frozen BK1413.out 2))
          go_ret
          exact ⟨by first | rfl | (simp [errW_none, errW_some] <;> rfl) | (simp [*, errW_none, errW_some] <;> rfl), by repeat (first | (with_reducible first | exact HB.out | apply below_alloc | apply pw_below_drewN | apply below_drew1 | refine below_set ?_ GE1413.out) | exact HB.out)⟩
        · rw [if_neg c10] at H
          have c10b0 : decide (a0_1 ≤ 2147483647) = false := decide_eq_false c10
          clear c10
          obtain rfl := Option.some.inj H
          go_enter Try.func175, Try.ntmps175
          go_wp2_with (first | ((with_reducible refine gate_dst (N := 1) rfl ?_); (try (refine gate_guard (by rfl) ?_; dsimp only)); refine box_event ?hg (N := 1) ?hd (cs := #[.int .u8 a0_0, .int .i64 a0_1, .string a0_2]) (t := 226) ?hr ?_; (case hd => rfl); (case hg => rfl); (case hr => first | (go_simp; done) | (go_simp; rfl)); intro gb1413 hg w13 hbox hb; have n0_ := Aside0.mk (below_step (by repeat (first | (with_reducible first | exact HB.out | apply below_alloc | apply pw_below_drewN | apply below_drew1) | exact HB.out)) hb); have n1_ := Aside0.mk (hbox); have n2_ := Aside0.mk ((by rw [hg]; exact (below_size (by repeat (first | (with_reducible first | exact HB.out | apply below_alloc | apply pw_below_drewN | apply below_drew1) | exact HB.out))) : w.heap.size ≤ gb1413)); have n3_ := Aside0.mk ((by rw [hg]; exact (below_size (by repeat (first | (with_reducible first | exact HB.out | apply below_alloc | apply pw_below_drewN | apply below_drew1) | exact HB.out))) : w.heap.size ≤ gb1413)); clear HB; have HB := n0_; have BK1413 := n1_; have GW1413 := n2_; have GE1413 := n3_; clear n0_ n1_ n2_ n3_; clear hb hbox hg; have hcz14_0 : w13.cell? ⟨gb1413, 0, none⟩ = some (.int .u8 a0_0) := (blk_cell BK1413.out 0).trans rfl; have hcz14_1 : w13.cell? ⟨gb1413, 1, none⟩ = some (.int .i64 a0_1) := (blk_cell BK1413.out 1).trans rfl; have hcz14_2 : w13.cell? ⟨gb1413, 2, none⟩ = some (.string a0_2) := (blk_cell BK1413.out 2).trans rfl; have hfz14_0 := blk_frozen BK1413.out 0; have hfz14_1 := blk_frozen BK1413.out 1; have hfz14_2 := blk_frozen BK1413.out 2))
          go_ret
          exact ⟨by first | rfl | (simp [errW_none, errW_some] <;> rfl) | (simp [*, errW_none, errW_some] <;> rfl), by repeat (first | (with_reducible first | exact HB.out | apply below_alloc | apply pw_below_drewN | apply below_drew1 | refine below_set ?_ GE1413.out) | exact HB.out)⟩
      · rw [if_neg c9] at H
        have c9b0 : decide (1 ≤ a0_1) = false := decide_eq_false c9
        clear c9
        obtain rfl := Option.some.inj H
        go_enter Try.func175, Try.ntmps175
        go_wp2_with (first | ((with_reducible refine gate_dst (N := 1) rfl ?_); (try (refine gate_guard (by rfl) ?_; dsimp only)); refine box_event ?hg (N := 1) ?hd (cs := #[.int .u8 a0_0, .int .i64 a0_1, .string a0_2]) (t := 226) ?hr ?_; (case hd => rfl); (case hg => rfl); (case hr => first | (go_simp; done) | (go_simp; rfl)); intro gb1413 hg w15 hbox hb; have n0_ := Aside0.mk (below_step (by repeat (first | (with_reducible first | exact HB.out | apply below_alloc | apply pw_below_drewN | apply below_drew1) | exact HB.out)) hb); have n1_ := Aside0.mk (hbox); have n2_ := Aside0.mk ((by rw [hg]; exact (below_size (by repeat (first | (with_reducible first | exact HB.out | apply below_alloc | apply pw_below_drewN | apply below_drew1) | exact HB.out))) : w.heap.size ≤ gb1413)); have n3_ := Aside0.mk ((by rw [hg]; exact (below_size (by repeat (first | (with_reducible first | exact HB.out | apply below_alloc | apply pw_below_drewN | apply below_drew1) | exact HB.out))) : w.heap.size ≤ gb1413)); clear HB; have HB := n0_; have BK1413 := n1_; have GW1413 := n2_; have GE1413 := n3_; clear n0_ n1_ n2_ n3_; clear hb hbox hg; have hcz16_0 : w15.cell? ⟨gb1413, 0, none⟩ = some (.int .u8 a0_0) := (blk_cell BK1413.out 0).trans rfl; have hcz16_1 : w15.cell? ⟨gb1413, 1, none⟩ = some (.int .i64 a0_1) := (blk_cell BK1413.out 1).trans rfl; have hcz16_2 : w15.cell? ⟨gb1413, 2, none⟩ = some (.string a0_2) := (blk_cell BK1413.out 2).trans rfl; have hfz16_0 := blk_frozen BK1413.out 0; have hfz16_1 := blk_frozen BK1413.out 1; have hfz16_2 := blk_frozen BK1413.out 2))
        go_ret
        exact ⟨by first | rfl | (simp [errW_none, errW_some] <;> rfl) | (simp [*, errW_none, errW_some] <;> rfl), by repeat (first | (with_reducible first | exact HB.out | apply below_alloc | apply pw_below_drewN | apply below_drew1 | refine below_set ?_ GE1413.out) | exact HB.out)⟩
    · rw [if_neg c8] at H
      have c8b0 : (a0_0 == 1) = false := beq_eq_false_iff_ne.mpr c8
      have c8b1 : (a0_0 != 1) = true := bne_iff_ne.mpr c8
      by_cases c17 : a0_0 = 3
      · rw [if_pos c17] at H
        have c17b0 : (a0_0 == 3) = true := beq_iff_eq.mpr c17
        have c17b1 : (a0_0 != 3) = false := bne_eq_false_iff_eq.mpr c17
        clear c17
        by_cases c18 : a0_1 ≥ 1
        · rw [if_pos c18] at H
          have c18b0 : decide (1 ≤ a0_1) = true := decide_eq_true c18
          clear c18
          by_cases c19 : a0_1 ≤ 2147483647
          · rw [if_pos c19] at H
            have c19b0 : decide (a0_1 ≤ 2147483647) = true := decide_eq_true c19
            clear c19
            obtain rfl := Option.some.inj H
            go_enter Try.func175, Try.ntmps175
            go_wp2_with (first | ((with_reducible refine gate_dst (N := 1) rfl ?_); (try (refine gate_guard (by rfl) ?_; dsimp only)); refine box_event ?hg (N := 1) ?hd (cs := #[.int .u8 a0_0, .int .i64 a0_1, .string a0_2]) (t := 226) ?hr ?_; (case hd => rfl); (case hg => rfl); (case hr => first | (go_simp; done) | (go_simp; rfl)); intro gb1413 hg w20 hbox hb; have n0_ := Aside0.mk (below_step (by repeat (first | (with_reducible first | exact HB.out | apply below_alloc | apply pw_below_drewN | apply below_drew1) | exact HB.out)) hb); have n1_ := Aside0.mk (hbox); have n2_ := Aside0.mk ((by rw [hg]; exact (below_size (by repeat (first | (with_reducible first | exact HB.out | apply below_alloc | apply pw_below_drewN | apply below_drew1) | exact HB.out))) : w.heap.size ≤ gb1413)); have n3_ := Aside0.mk ((by rw [hg]; exact (below_size (by repeat (first | (with_reducible first | exact HB.out | apply below_alloc | apply pw_below_drewN | apply below_drew1) | exact HB.out))) : w.heap.size ≤ gb1413)); clear HB; have HB := n0_; have BK1413 := n1_; have GW1413 := n2_; have GE1413 := n3_; clear n0_ n1_ n2_ n3_; clear hb hbox hg; have hcz21_0 : w20.cell? ⟨gb1413, 0, none⟩ = some (.int .u8 a0_0) := (blk_cell BK1413.out 0).trans rfl; have hcz21_1 : w20.cell? ⟨gb1413, 1, none⟩ = some (.int .i64 a0_1) := (blk_cell BK1413.out 1).trans rfl; have hcz21_2 : w20.cell? ⟨gb1413, 2, none⟩ = some (.string a0_2) := (blk_cell BK1413.out 2).trans rfl; have hfz21_0 := blk_frozen BK1413.out 0; have hfz21_1 := blk_frozen BK1413.out 1; have hfz21_2 := blk_frozen BK1413.out 2))
            go_ret
            exact ⟨by first | rfl | (simp [errW_none, errW_some] <;> rfl) | (simp [*, errW_none, errW_some] <;> rfl), by repeat (first | (with_reducible first | exact HB.out | apply below_alloc | apply pw_below_drewN | apply below_drew1 | refine below_set ?_ GE1413.out) | exact HB.out)⟩
          · rw [if_neg c19] at H
            have c19b0 : decide (a0_1 ≤ 2147483647) = false := decide_eq_false c19
            clear c19
            obtain rfl := Option.some.inj H
            go_enter Try.func175, Try.ntmps175
            go_wp2_with (first | ((with_reducible refine gate_dst (N := 1) rfl ?_); (try (refine gate_guard (by rfl) ?_; dsimp only)); refine box_event ?hg (N := 1) ?hd (cs := #[.int .u8 a0_0, .int .i64 a0_1, .string a0_2]) (t := 226) ?hr ?_; (case hd => rfl); (case hg => rfl); (case hr => first | (go_simp; done) | (go_simp; rfl)); intro gb1413 hg w22 hbox hb; have n0_ := Aside0.mk (below_step (by repeat (first | (with_reducible first | exact HB.out | apply below_alloc | apply pw_below_drewN | apply below_drew1) | exact HB.out)) hb); have n1_ := Aside0.mk (hbox); have n2_ := Aside0.mk ((by rw [hg]; exact (below_size (by repeat (first | (with_reducible first | exact HB.out | apply below_alloc | apply pw_below_drewN | apply below_drew1) | exact HB.out))) : w.heap.size ≤ gb1413)); have n3_ := Aside0.mk ((by rw [hg]; exact (below_size (by repeat (first | (with_reducible first | exact HB.out | apply below_alloc | apply pw_below_drewN | apply below_drew1) | exact HB.out))) : w.heap.size ≤ gb1413)); clear HB; have HB := n0_; have BK1413 := n1_; have GW1413 := n2_; have GE1413 := n3_; clear n0_ n1_ n2_ n3_; clear hb hbox hg; have hcz23_0 : w22.cell? ⟨gb1413, 0, none⟩ = some (.int .u8 a0_0) := (blk_cell BK1413.out 0).trans rfl; have hcz23_1 : w22.cell? ⟨gb1413, 1, none⟩ = some (.int .i64 a0_1) := (blk_cell BK1413.out 1).trans rfl; have hcz23_2 : w22.cell? ⟨gb1413, 2, none⟩ = some (.string a0_2) := (blk_cell BK1413.out 2).trans rfl; have hfz23_0 := blk_frozen BK1413.out 0; have hfz23_1 := blk_frozen BK1413.out 1; have hfz23_2 := blk_frozen BK1413.out 2))
            go_ret
            exact ⟨by first | rfl | (simp [errW_none, errW_some] <;> rfl) | (simp [*, errW_none, errW_some] <;> rfl), by repeat (first | (with_reducible first | exact HB.out | apply below_alloc | apply pw_below_drewN | apply below_drew1 | refine below_set ?_ GE1413.out) | exact HB.out)⟩
        · rw [if_neg c18] at H
          have c18b0 : decide (1 ≤ a0_1) = false := decide_eq_false c18
          clear c18
          obtain rfl := Option.some.inj H
          go_enter Try.func175, Try.ntmps175
          go_wp2_with (first | ((with_reducible refine gate_dst (N := 1) rfl ?_); (try (refine gate_guard (by rfl) ?_; dsimp only)); refine box_event ?hg (N := 1) ?hd (cs := #[.int .u8 a0_0, .int .i64 a0_1, .string a0_2]) (t := 226) ?hr ?_; (case hd => rfl); (case hg => rfl); (case hr => first | (go_simp; done) | (go_simp; rfl)); intro gb1413 hg w24 hbox hb; have n0_ := Aside0.mk (below_step (by repeat (first | (with_reducible first | exact HB.out | apply below_alloc | apply pw_below_drewN | apply below_drew1) | exact HB.out)) hb); have n1_ := Aside0.mk (hbox); have n2_ := Aside0.mk ((by rw [hg]; exact (below_size (by repeat (first | (with_reducible first | exact HB.out | apply below_alloc | apply pw_below_drewN | apply below_drew1) | exact HB.out))) : w.heap.size ≤ gb1413)); have n3_ := Aside0.mk ((by rw [hg]; exact (below_size (by repeat (first | (with_reducible first | exact HB.out | apply below_alloc | apply pw_below_drewN | apply below_drew1) | exact HB.out))) : w.heap.size ≤ gb1413)); clear HB; have HB := n0_; have BK1413 := n1_; have GW1413 := n2_; have GE1413 := n3_; clear n0_ n1_ n2_ n3_; clear hb hbox hg; have hcz25_0 : w24.cell? ⟨gb1413, 0, none⟩ = some (.int .u8 a0_0) := (blk_cell BK1413.out 0).trans rfl; have hcz25_1 : w24.cell? ⟨gb1413, 1, none⟩ = some (.int .i64 a0_1) := (blk_cell BK1413.out 1).trans rfl; have hcz25_2 : w24.cell? ⟨gb1413, 2, none⟩ = some (.string a0_2) := (blk_cell BK1413.out 2).trans rfl; have hfz25_0 := blk_frozen BK1413.out 0; have hfz25_1 := blk_frozen BK1413.out 1; have hfz25_2 := blk_frozen BK1413.out 2))
          go_ret
          exact ⟨by first | rfl | (simp [errW_none, errW_some] <;> rfl) | (simp [*, errW_none, errW_some] <;> rfl), by repeat (first | (with_reducible first | exact HB.out | apply below_alloc | apply pw_below_drewN | apply below_drew1 | refine below_set ?_ GE1413.out) | exact HB.out)⟩
      · rw [if_neg c17] at H
        have c17b0 : (a0_0 == 3) = false := beq_eq_false_iff_ne.mpr c17
        have c17b1 : (a0_0 != 3) = true := bne_iff_ne.mpr c17
        obtain rfl := Option.some.inj H
        go_enter Try.func175, Try.ntmps175
        go_wp2_with (first | ((with_reducible refine gate_dst (N := 1) rfl ?_); (try (refine gate_guard (by rfl) ?_; dsimp only)); refine box_event ?hg (N := 1) ?hd (cs := #[.int .u8 a0_0, .int .i64 a0_1, .string a0_2]) (t := 226) ?hr ?_; (case hd => rfl); (case hg => rfl); (case hr => first | (go_simp; done) | (go_simp; rfl)); intro gb1413 hg w26 hbox hb; have n0_ := Aside0.mk (below_step (by repeat (first | (with_reducible first | exact HB.out | apply below_alloc | apply pw_below_drewN | apply below_drew1) | exact HB.out)) hb); have n1_ := Aside0.mk (hbox); have n2_ := Aside0.mk ((by rw [hg]; exact (below_size (by repeat (first | (with_reducible first | exact HB.out | apply below_alloc | apply pw_below_drewN | apply below_drew1) | exact HB.out))) : w.heap.size ≤ gb1413)); have n3_ := Aside0.mk ((by rw [hg]; exact (below_size (by repeat (first | (with_reducible first | exact HB.out | apply below_alloc | apply pw_below_drewN | apply below_drew1) | exact HB.out))) : w.heap.size ≤ gb1413)); clear HB; have HB := n0_; have BK1413 := n1_; have GW1413 := n2_; have GE1413 := n3_; clear n0_ n1_ n2_ n3_; clear hb hbox hg; have hcz27_0 : w26.cell? ⟨gb1413, 0, none⟩ = some (.int .u8 a0_0) := (blk_cell BK1413.out 0).trans rfl; have hcz27_1 : w26.cell? ⟨gb1413, 1, none⟩ = some (.int .i64 a0_1) := (blk_cell BK1413.out 1).trans rfl; have hcz27_2 : w26.cell? ⟨gb1413, 2, none⟩ = some (.string a0_2) := (blk_cell BK1413.out 2).trans rfl; have hfz27_0 := blk_frozen BK1413.out 0; have hfz27_1 := blk_frozen BK1413.out 1; have hfz27_2 := blk_frozen BK1413.out 2))
        go_ret
        exact ⟨by first | rfl | (simp [errW_none, errW_some] <;> rfl) | (simp [*, errW_none, errW_some] <;> rfl), by repeat (first | (with_reducible first | exact HB.out | apply below_alloc | apply pw_below_drewN | apply below_drew1 | refine below_set ?_ GE1413.out) | exact HB.out)⟩
/-! ### chartroomref05_Sizes: function 107 -/
def chartroomref05_Sizes.l0 : Nat → List (S226) → Int → Int → Int → Option (Int × Int)
  | 0, _, _, _, _ => none
  | k + 1, x0, x4, x5, x6 => if x6 < (x0.length : Int) then (if 0 ≤ x6 then ((chartroomref05_right.f ((rd_T226 x0 x6).f0) ((rd_T226 x0 x6).f1) ((rd_T226 x0 x6).f2)).bind fun t1415 => (if t1415 = true then (if ((rd_T226 x0 x6).f0) = 2 then (if ((rd_T226 x0 x6).f0) = 3 then (chartroomref05_Sizes.l0 k x0 x4 x5 (wrap64 (x6 + 1))) else (chartroomref05_Sizes.l0 k x0 x4 (wrap64 ((wrap64 (x5 + ((rd_T226 x0 x6).f1))) + (((rd_T226 x0 x6).f2).size : Int))) (wrap64 (x6 + 1)))) else (if ((rd_T226 x0 x6).f0) = 3 then (chartroomref05_Sizes.l0 k x0 (wrap64 (x4 + ((rd_T226 x0 x6).f1))) x5 (wrap64 (x6 + 1))) else (chartroomref05_Sizes.l0 k x0 (wrap64 (x4 + ((rd_T226 x0 x6).f1))) (wrap64 ((wrap64 (x5 + ((rd_T226 x0 x6).f1))) + (((rd_T226 x0 x6).f2).size : Int))) (wrap64 (x6 + 1))))) else (chartroomref05_Sizes.l0 k x0 x4 x5 (wrap64 (x6 + 1))))) else (none)) else (some (x4, x5))
def chartroomref05_Sizes.f (k : Nat) (l0 : List (S226)) : Option (Int × Int) := chartroomref05_Sizes.l0 k l0 0 0 0
set_option maxHeartbeats 8000000 in
set_option maxRecDepth 100000 in
theorem chartroomref05_Sizes.calls (k : Nat) (A0 : Option Addr) (c0 : Nat) (l0 : List (S226)) (r1 : Int) (r2 : Int) (w : World) (hr0 : Kd.C k226 w A0 l0.length l0) (hc0 : l0.length ≤ c0) (h : chartroomref05_Sizes.f k l0 = some (r1, r2)) :
    Calls Try.prog 107 #[.slice A0 l0.length c0] w fun e w' => e = .returned (.tuple #[.int .i64 r1, .int .i64 r2]) ∧ Below w.heap.size w w' := by
  have hu226 := Try.underlying226
  have HR0 := Aside0.mk hr0
  have HC0 := Aside0.mk hc0
  clear hr0 hc0
  have HB := Aside0.mk (Below.refl w.heap.size w)
  have H : (chartroomref05_Sizes.l0 k l0 0 0 0) = some (r1, r2) := h
  clear h
  have H' := Aside0.mk H
  clear H
  go_enter Try.func107, Try.ntmps107
  go_wp2
  repeat (go_quiet (fail); try go_wp2)
  go_loopg [4, 5, 6] k (fun kq v4 v5 v6 w' => ∃ (x4_1 : Int) (x5_1 : Int) (x6_1 : Int), v4 = .int .i64 x4_1 ∧ v5 = .int .i64 x5_1 ∧ v6 = .int .i64 x6_1 ∧ Aside0 (chartroomref05_Sizes.l0 kq l0 x4_1 x5_1 x6_1 = some (r1, r2)) ∧ Aside0 (kq ≤ k) ∧ Aside0 (Below w.heap.size w w'))
  case atStart => exact ⟨(0), (0), (0), (by first | rfl | (simp; done) | (simp [*]; done)), (by first | rfl | (simp; done) | (simp [*]; done)), (by first | rfl | (simp; done) | (simp [*]; done)), H', ⟨Nat.le_refl _⟩, ⟨by repeat (first | (with_reducible first | exact HB.out | apply below_alloc | apply pw_below_drewN | apply below_drew1) | exact HB.out)⟩⟩
  case round =>
    clear H'
    try clear c1
    obtain ⟨x4_1, x5_1, x6_1, rfl, rfl, rfl, HA, HK1, HB⟩ := hrel
    cases gk with
    | zero => exact absurd HA.out (by simp [chartroomref05_Sizes.l0])
    | succ k1 =>
      have H := HA.out
      clear HA
      simp only [chartroomref05_Sizes.l0] at H
      by_cases c2 : x6_1 < (l0.length : Int)
      · rw [if_pos c2] at H
        have c2b0 : decide (x6_1 < (l0.length : Int)) = true := decide_eq_true c2
        clear c2
        by_cases c3 : 0 ≤ x6_1
        · rw [if_pos c3] at H
          have c3b0 : decide (0 ≤ x6_1) = true := decide_eq_true c3
          clear c3
          replace H := Option.bind_eq_some_iff.mp H
          obtain ⟨t1415, A40, H⟩ := H
          replace H : (if t1415 = true then (if ((rd_T226 l0 x6_1).f0) = 2 then (if ((rd_T226 l0 x6_1).f0) = 3 then (chartroomref05_Sizes.l0 k1 l0 x4_1 x5_1 (wrap64 (x6_1 + 1))) else (chartroomref05_Sizes.l0 k1 l0 x4_1 (wrap64 ((wrap64 (x5_1 + ((rd_T226 l0 x6_1).f1))) + (((rd_T226 l0 x6_1).f2).size : Int))) (wrap64 (x6_1 + 1)))) else (if ((rd_T226 l0 x6_1).f0) = 3 then (chartroomref05_Sizes.l0 k1 l0 (wrap64 (x4_1 + ((rd_T226 l0 x6_1).f1))) x5_1 (wrap64 (x6_1 + 1))) else (chartroomref05_Sizes.l0 k1 l0 (wrap64 (x4_1 + ((rd_T226 l0 x6_1).f1))) (wrap64 ((wrap64 (x5_1 + ((rd_T226 l0 x6_1).f1))) + (((rd_T226 l0 x6_1).f2).size : Int))) (wrap64 (x6_1 + 1))))) else (chartroomref05_Sizes.l0 k1 l0 x4_1 x5_1 (wrap64 (x6_1 + 1)))) = some (r1, r2) := H
          have A4 := Aside0.mk A40
          clear A40
          by_cases c5 : t1415 = true
          · subst c5
            have H1 : (if ((rd_T226 l0 x6_1).f0) = 2 then (if ((rd_T226 l0 x6_1).f0) = 3 then (chartroomref05_Sizes.l0 k1 l0 x4_1 x5_1 (wrap64 (x6_1 + 1))) else (chartroomref05_Sizes.l0 k1 l0 x4_1 (wrap64 ((wrap64 (x5_1 + ((rd_T226 l0 x6_1).f1))) + (((rd_T226 l0 x6_1).f2).size : Int))) (wrap64 (x6_1 + 1)))) else (if ((rd_T226 l0 x6_1).f0) = 3 then (chartroomref05_Sizes.l0 k1 l0 (wrap64 (x4_1 + ((rd_T226 l0 x6_1).f1))) x5_1 (wrap64 (x6_1 + 1))) else (chartroomref05_Sizes.l0 k1 l0 (wrap64 (x4_1 + ((rd_T226 l0 x6_1).f1))) (wrap64 ((wrap64 (x5_1 + ((rd_T226 l0 x6_1).f1))) + (((rd_T226 l0 x6_1).f2).size : Int))) (wrap64 (x6_1 + 1))))) = some (r1, r2) := by rw [if_pos rfl] at H; exact H
            clear H
            have H := H1
            clear H1
            by_cases c6 : ((rd_T226 l0 x6_1).f0) = 2
            · rw [if_pos c6] at H
              have c6b0 : (((rd_T226 l0 x6_1).f0) == 2) = true := beq_iff_eq.mpr c6
              have c6b1 : (((rd_T226 l0 x6_1).f0) != 2) = false := bne_eq_false_iff_eq.mpr c6
              clear c6
              by_cases c7 : ((rd_T226 l0 x6_1).f0) = 3
              · rw [if_pos c7] at H
                have c7b0 : (((rd_T226 l0 x6_1).f0) == 3) = true := beq_iff_eq.mpr c7
                have c7b1 : (((rd_T226 l0 x6_1).f0) != 3) = false := bne_eq_false_iff_eq.mpr c7
                clear c7
                have H' := Aside0.mk H
                clear H
                have p1414 : 0 ≤ (x6_1 : Int) := of_decide_eq_true (by first | (with_reducible assumption) | assumption)
                have q1414 : x6_1 < (l0.length : Int) := of_decide_eq_true (by first | (with_reducible assumption) | assumption)
                obtain ⟨ad1414, e1414, hx1414_0, hx1414_1, hx1414_2⟩ := at_T226 HR0.out x6_1 p1414 q1414
                cases e1414
                replace hx1414_0 := (HB.out.cell (World.block_lt_of_cell? w _ hx1414_0)).trans hx1414_0
                replace hx1414_1 := (HB.out.cell (World.block_lt_of_cell? w _ hx1414_1)).trans hx1414_1
                replace hx1414_2 := (HB.out.cell (World.block_lt_of_cell? w _ hx1414_2)).trans hx1414_2
                replace p1414 := eq_true p1414
                replace q1414 := eq_true q1414
                go_wp2_with (first | (go_at_call 175; (with_reducible refine (chartroomref05_right.calls ((rd_T226 l0 x6_1).f0) ((rd_T226 l0 x6_1).f1) ((rd_T226 l0 x6_1).f2) true _ A4.out).mono ?_); rintro e w8 ⟨rfl, hb⟩; have n0_ := Aside0.mk (below_step (by repeat (first | (with_reducible first | exact HB.out | apply below_alloc | apply pw_below_drewN | apply below_drew1) | exact HB.out)) hb); clear HB; have HB := n0_; clear n0_; (try clear hb); (try clear hb2); (try clear hk); (try clear hi); have p1416 : 0 ≤ (x6_1 : Int) := of_decide_eq_true (by first | (with_reducible assumption) | assumption); have q1416 : x6_1 < (l0.length : Int) := of_decide_eq_true (by first | (with_reducible assumption) | assumption); obtain ⟨ad1416, e1416, hx1416_0, hx1416_1, hx1416_2⟩ := at_T226 HR0.out x6_1 p1416 q1416; obtain rfl : ad1414 = ad1416 := (by injection e1416); replace hx1416_0 := (HB.out.cell (World.block_lt_of_cell? w _ hx1416_0)).trans hx1416_0; replace hx1416_1 := (HB.out.cell (World.block_lt_of_cell? w _ hx1416_1)).trans hx1416_1; replace hx1416_2 := (HB.out.cell (World.block_lt_of_cell? w _ hx1416_2)).trans hx1416_2; replace p1416 := eq_true p1416; replace q1416 := eq_true q1416; have p1417 : 0 ≤ (x6_1 : Int) := of_decide_eq_true (by first | (with_reducible assumption) | assumption); have q1417 : x6_1 < (l0.length : Int) := of_decide_eq_true (by first | (with_reducible assumption) | assumption); obtain ⟨ad1417, e1417, hx1417_0, hx1417_1, hx1417_2⟩ := at_T226 HR0.out x6_1 p1417 q1417; obtain rfl : ad1414 = ad1417 := (by injection e1417); replace hx1417_0 := (HB.out.cell (World.block_lt_of_cell? w _ hx1417_0)).trans hx1417_0; replace hx1417_1 := (HB.out.cell (World.block_lt_of_cell? w _ hx1417_1)).trans hx1417_1; replace hx1417_2 := (HB.out.cell (World.block_lt_of_cell? w _ hx1417_2)).trans hx1417_2; replace p1417 := eq_true p1417; replace q1417 := eq_true q1417))
                repeat (go_quiet (first | (go_at_call 175; (with_reducible refine (chartroomref05_right.calls ((rd_T226 l0 x6_1).f0) ((rd_T226 l0 x6_1).f1) ((rd_T226 l0 x6_1).f2) true _ A4.out).mono ?_); rintro e w8 ⟨rfl, hb⟩; have n0_ := Aside0.mk (below_step (by repeat (first | (with_reducible first | exact HB.out | apply below_alloc | apply pw_below_drewN | apply below_drew1) | exact HB.out)) hb); clear HB; have HB := n0_; clear n0_; (try clear hb); (try clear hb2); (try clear hk); (try clear hi); have p1416 : 0 ≤ (x6_1 : Int) := of_decide_eq_true (by first | (with_reducible assumption) | assumption); have q1416 : x6_1 < (l0.length : Int) := of_decide_eq_true (by first | (with_reducible assumption) | assumption); obtain ⟨ad1416, e1416, hx1416_0, hx1416_1, hx1416_2⟩ := at_T226 HR0.out x6_1 p1416 q1416; obtain rfl : ad1414 = ad1416 := (by injection e1416); replace hx1416_0 := (HB.out.cell (World.block_lt_of_cell? w _ hx1416_0)).trans hx1416_0; replace hx1416_1 := (HB.out.cell (World.block_lt_of_cell? w _ hx1416_1)).trans hx1416_1; replace hx1416_2 := (HB.out.cell (World.block_lt_of_cell? w _ hx1416_2)).trans hx1416_2; replace p1416 := eq_true p1416; replace q1416 := eq_true q1416; have p1417 : 0 ≤ (x6_1 : Int) := of_decide_eq_true (by first | (with_reducible assumption) | assumption); have q1417 : x6_1 < (l0.length : Int) := of_decide_eq_true (by first | (with_reducible assumption) | assumption); obtain ⟨ad1417, e1417, hx1417_0, hx1417_1, hx1417_2⟩ := at_T226 HR0.out x6_1 p1417 q1417; obtain rfl : ad1414 = ad1417 := (by injection e1417); replace hx1417_0 := (HB.out.cell (World.block_lt_of_cell? w _ hx1417_0)).trans hx1417_0; replace hx1417_1 := (HB.out.cell (World.block_lt_of_cell? w _ hx1417_1)).trans hx1417_1; replace hx1417_2 := (HB.out.cell (World.block_lt_of_cell? w _ hx1417_2)).trans hx1417_2; replace p1417 := eq_true p1417; replace q1417 := eq_true q1417)); try go_wp2_with (first | (go_at_call 175; (with_reducible refine (chartroomref05_right.calls ((rd_T226 l0 x6_1).f0) ((rd_T226 l0 x6_1).f1) ((rd_T226 l0 x6_1).f2) true _ A4.out).mono ?_); rintro e w8 ⟨rfl, hb⟩; have n0_ := Aside0.mk (below_step (by repeat (first | (with_reducible first | exact HB.out | apply below_alloc | apply pw_below_drewN | apply below_drew1) | exact HB.out)) hb); clear HB; have HB := n0_; clear n0_; (try clear hb); (try clear hb2); (try clear hk); (try clear hi); have p1416 : 0 ≤ (x6_1 : Int) := of_decide_eq_true (by first | (with_reducible assumption) | assumption); have q1416 : x6_1 < (l0.length : Int) := of_decide_eq_true (by first | (with_reducible assumption) | assumption); obtain ⟨ad1416, e1416, hx1416_0, hx1416_1, hx1416_2⟩ := at_T226 HR0.out x6_1 p1416 q1416; obtain rfl : ad1414 = ad1416 := (by injection e1416); replace hx1416_0 := (HB.out.cell (World.block_lt_of_cell? w _ hx1416_0)).trans hx1416_0; replace hx1416_1 := (HB.out.cell (World.block_lt_of_cell? w _ hx1416_1)).trans hx1416_1; replace hx1416_2 := (HB.out.cell (World.block_lt_of_cell? w _ hx1416_2)).trans hx1416_2; replace p1416 := eq_true p1416; replace q1416 := eq_true q1416; have p1417 : 0 ≤ (x6_1 : Int) := of_decide_eq_true (by first | (with_reducible assumption) | assumption); have q1417 : x6_1 < (l0.length : Int) := of_decide_eq_true (by first | (with_reducible assumption) | assumption); obtain ⟨ad1417, e1417, hx1417_0, hx1417_1, hx1417_2⟩ := at_T226 HR0.out x6_1 p1417 q1417; obtain rfl : ad1414 = ad1417 := (by injection e1417); replace hx1417_0 := (HB.out.cell (World.block_lt_of_cell? w _ hx1417_0)).trans hx1417_0; replace hx1417_1 := (HB.out.cell (World.block_lt_of_cell? w _ hx1417_1)).trans hx1417_1; replace hx1417_2 := (HB.out.cell (World.block_lt_of_cell? w _ hx1417_2)).trans hx1417_2; replace p1417 := eq_true p1417; replace q1417 := eq_true q1417)))
                go_roundg k1
                case measure => have := HK1.out; omega
                case rel => exact ⟨(x4_1), (x5_1), (wrap64 (x6_1 + 1)), (by first | rfl | (simp; done) | (simp [*]; done)), (by first | rfl | (simp; done) | (simp [*]; done)), (by first | rfl | (simp; done) | (simp [*]; done)), H', ⟨by have := HK1.out; omega⟩, ⟨by repeat (first | (with_reducible first | exact HB.out | apply below_alloc | apply pw_below_drewN | apply below_drew1) | exact HB.out)⟩⟩
              · rw [if_neg c7] at H
                have c7b0 : (((rd_T226 l0 x6_1).f0) == 3) = false := beq_eq_false_iff_ne.mpr c7
                have c7b1 : (((rd_T226 l0 x6_1).f0) != 3) = true := bne_iff_ne.mpr c7
                have H' := Aside0.mk H
                clear H
                have p1414 : 0 ≤ (x6_1 : Int) := of_decide_eq_true (by first | (with_reducible assumption) | assumption)
                have q1414 : x6_1 < (l0.length : Int) := of_decide_eq_true (by first | (with_reducible assumption) | assumption)
                obtain ⟨ad1414, e1414, hx1414_0, hx1414_1, hx1414_2⟩ := at_T226 HR0.out x6_1 p1414 q1414
                cases e1414
                replace hx1414_0 := (HB.out.cell (World.block_lt_of_cell? w _ hx1414_0)).trans hx1414_0
                replace hx1414_1 := (HB.out.cell (World.block_lt_of_cell? w _ hx1414_1)).trans hx1414_1
                replace hx1414_2 := (HB.out.cell (World.block_lt_of_cell? w _ hx1414_2)).trans hx1414_2
                replace p1414 := eq_true p1414
                replace q1414 := eq_true q1414
                go_wp2_with (first | (go_at_call 175; (with_reducible refine (chartroomref05_right.calls ((rd_T226 l0 x6_1).f0) ((rd_T226 l0 x6_1).f1) ((rd_T226 l0 x6_1).f2) true _ A4.out).mono ?_); rintro e w9 ⟨rfl, hb⟩; have n0_ := Aside0.mk (below_step (by repeat (first | (with_reducible first | exact HB.out | apply below_alloc | apply pw_below_drewN | apply below_drew1) | exact HB.out)) hb); clear HB; have HB := n0_; clear n0_; (try clear hb); (try clear hb2); (try clear hk); (try clear hi); have p1416 : 0 ≤ (x6_1 : Int) := of_decide_eq_true (by first | (with_reducible assumption) | assumption); have q1416 : x6_1 < (l0.length : Int) := of_decide_eq_true (by first | (with_reducible assumption) | assumption); obtain ⟨ad1416, e1416, hx1416_0, hx1416_1, hx1416_2⟩ := at_T226 HR0.out x6_1 p1416 q1416; obtain rfl : ad1414 = ad1416 := (by injection e1416); replace hx1416_0 := (HB.out.cell (World.block_lt_of_cell? w _ hx1416_0)).trans hx1416_0; replace hx1416_1 := (HB.out.cell (World.block_lt_of_cell? w _ hx1416_1)).trans hx1416_1; replace hx1416_2 := (HB.out.cell (World.block_lt_of_cell? w _ hx1416_2)).trans hx1416_2; replace p1416 := eq_true p1416; replace q1416 := eq_true q1416; have p1417 : 0 ≤ (x6_1 : Int) := of_decide_eq_true (by first | (with_reducible assumption) | assumption); have q1417 : x6_1 < (l0.length : Int) := of_decide_eq_true (by first | (with_reducible assumption) | assumption); obtain ⟨ad1417, e1417, hx1417_0, hx1417_1, hx1417_2⟩ := at_T226 HR0.out x6_1 p1417 q1417; obtain rfl : ad1414 = ad1417 := (by injection e1417); replace hx1417_0 := (HB.out.cell (World.block_lt_of_cell? w _ hx1417_0)).trans hx1417_0; replace hx1417_1 := (HB.out.cell (World.block_lt_of_cell? w _ hx1417_1)).trans hx1417_1; replace hx1417_2 := (HB.out.cell (World.block_lt_of_cell? w _ hx1417_2)).trans hx1417_2; replace p1417 := eq_true p1417; replace q1417 := eq_true q1417; have p1418 : 0 ≤ (x6_1 : Int) := of_decide_eq_true (by first | (with_reducible assumption) | assumption); have q1418 : x6_1 < (l0.length : Int) := of_decide_eq_true (by first | (with_reducible assumption) | assumption); obtain ⟨ad1418, e1418, hx1418_0, hx1418_1, hx1418_2⟩ := at_T226 HR0.out x6_1 p1418 q1418; obtain rfl : ad1414 = ad1418 := (by injection e1418); replace hx1418_0 := (HB.out.cell (World.block_lt_of_cell? w _ hx1418_0)).trans hx1418_0; replace hx1418_1 := (HB.out.cell (World.block_lt_of_cell? w _ hx1418_1)).trans hx1418_1; replace hx1418_2 := (HB.out.cell (World.block_lt_of_cell? w _ hx1418_2)).trans hx1418_2; replace p1418 := eq_true p1418; replace q1418 := eq_true q1418; have p1419 : 0 ≤ (x6_1 : Int) := of_decide_eq_true (by first | (with_reducible assumption) | assumption); have q1419 : x6_1 < (l0.length : Int) := of_decide_eq_true (by first | (with_reducible assumption) | assumption); obtain ⟨ad1419, e1419, hx1419_0, hx1419_1, hx1419_2⟩ := at_T226 HR0.out x6_1 p1419 q1419; obtain rfl : ad1414 = ad1419 := (by injection e1419); replace hx1419_0 := (HB.out.cell (World.block_lt_of_cell? w _ hx1419_0)).trans hx1419_0; replace hx1419_1 := (HB.out.cell (World.block_lt_of_cell? w _ hx1419_1)).trans hx1419_1; replace hx1419_2 := (HB.out.cell (World.block_lt_of_cell? w _ hx1419_2)).trans hx1419_2; replace p1419 := eq_true p1419; replace q1419 := eq_true q1419))
                repeat (go_quiet (first | (go_at_call 175; (with_reducible refine (chartroomref05_right.calls ((rd_T226 l0 x6_1).f0) ((rd_T226 l0 x6_1).f1) ((rd_T226 l0 x6_1).f2) true _ A4.out).mono ?_); rintro e w9 ⟨rfl, hb⟩; have n0_ := Aside0.mk (below_step (by repeat (first | (with_reducible first | exact HB.out | apply below_alloc | apply pw_below_drewN | apply below_drew1) | exact HB.out)) hb); clear HB; have HB := n0_; clear n0_; (try clear hb); (try clear hb2); (try clear hk); (try clear hi); have p1416 : 0 ≤ (x6_1 : Int) := of_decide_eq_true (by first | (with_reducible assumption) | assumption); have q1416 : x6_1 < (l0.length : Int) := of_decide_eq_true (by first | (with_reducible assumption) | assumption); obtain ⟨ad1416, e1416, hx1416_0, hx1416_1, hx1416_2⟩ := at_T226 HR0.out x6_1 p1416 q1416; obtain rfl : ad1414 = ad1416 := (by injection e1416); replace hx1416_0 := (HB.out.cell (World.block_lt_of_cell? w _ hx1416_0)).trans hx1416_0; replace hx1416_1 := (HB.out.cell (World.block_lt_of_cell? w _ hx1416_1)).trans hx1416_1; replace hx1416_2 := (HB.out.cell (World.block_lt_of_cell? w _ hx1416_2)).trans hx1416_2; replace p1416 := eq_true p1416; replace q1416 := eq_true q1416; have p1417 : 0 ≤ (x6_1 : Int) := of_decide_eq_true (by first | (with_reducible assumption) | assumption); have q1417 : x6_1 < (l0.length : Int) := of_decide_eq_true (by first | (with_reducible assumption) | assumption); obtain ⟨ad1417, e1417, hx1417_0, hx1417_1, hx1417_2⟩ := at_T226 HR0.out x6_1 p1417 q1417; obtain rfl : ad1414 = ad1417 := (by injection e1417); replace hx1417_0 := (HB.out.cell (World.block_lt_of_cell? w _ hx1417_0)).trans hx1417_0; replace hx1417_1 := (HB.out.cell (World.block_lt_of_cell? w _ hx1417_1)).trans hx1417_1; replace hx1417_2 := (HB.out.cell (World.block_lt_of_cell? w _ hx1417_2)).trans hx1417_2; replace p1417 := eq_true p1417; replace q1417 := eq_true q1417; have p1418 : 0 ≤ (x6_1 : Int) := of_decide_eq_true (by first | (with_reducible assumption) | assumption); have q1418 : x6_1 < (l0.length : Int) := of_decide_eq_true (by first | (with_reducible assumption) | assumption); obtain ⟨ad1418, e1418, hx1418_0, hx1418_1, hx1418_2⟩ := at_T226 HR0.out x6_1 p1418 q1418; obtain rfl : ad1414 = ad1418 := (by injection e1418); replace hx1418_0 := (HB.out.cell (World.block_lt_of_cell? w _ hx1418_0)).trans hx1418_0; replace hx1418_1 := (HB.out.cell (World.block_lt_of_cell? w _ hx1418_1)).trans hx1418_1; replace hx1418_2 := (HB.out.cell (World.block_lt_of_cell? w _ hx1418_2)).trans hx1418_2; replace p1418 := eq_true p1418; replace q1418 := eq_true q1418; have p1419 : 0 ≤ (x6_1 : Int) := of_decide_eq_true (by first | (with_reducible assumption) | assumption); have q1419 : x6_1 < (l0.length : Int) := of_decide_eq_true (by first | (with_reducible assumption) | assumption); obtain ⟨ad1419, e1419, hx1419_0, hx1419_1, hx1419_2⟩ := at_T226 HR0.out x6_1 p1419 q1419; obtain rfl : ad1414 = ad1419 := (by injection e1419); replace hx1419_0 := (HB.out.cell (World.block_lt_of_cell? w _ hx1419_0)).trans hx1419_0; replace hx1419_1 := (HB.out.cell (World.block_lt_of_cell? w _ hx1419_1)).trans hx1419_1; replace hx1419_2 := (HB.out.cell (World.block_lt_of_cell? w _ hx1419_2)).trans hx1419_2; replace p1419 := eq_true p1419; replace q1419 := eq_true q1419)); try go_wp2_with (first | (go_at_call 175; (with_reducible refine (chartroomref05_right.calls ((rd_T226 l0 x6_1).f0) ((rd_T226 l0 x6_1).f1) ((rd_T226 l0 x6_1).f2) true _ A4.out).mono ?_); rintro e w9 ⟨rfl, hb⟩; have n0_ := Aside0.mk (below_step (by repeat (first | (with_reducible first | exact HB.out | apply below_alloc | apply pw_below_drewN | apply below_drew1) | exact HB.out)) hb); clear HB; have HB := n0_; clear n0_; (try clear hb); (try clear hb2); (try clear hk); (try clear hi); have p1416 : 0 ≤ (x6_1 : Int) := of_decide_eq_true (by first | (with_reducible assumption) | assumption); have q1416 : x6_1 < (l0.length : Int) := of_decide_eq_true (by first | (with_reducible assumption) | assumption); obtain ⟨ad1416, e1416, hx1416_0, hx1416_1, hx1416_2⟩ := at_T226 HR0.out x6_1 p1416 q1416; obtain rfl : ad1414 = ad1416 := (by injection e1416); replace hx1416_0 := (HB.out.cell (World.block_lt_of_cell? w _ hx1416_0)).trans hx1416_0; replace hx1416_1 := (HB.out.cell (World.block_lt_of_cell? w _ hx1416_1)).trans hx1416_1; replace hx1416_2 := (HB.out.cell (World.block_lt_of_cell? w _ hx1416_2)).trans hx1416_2; replace p1416 := eq_true p1416; replace q1416 := eq_true q1416; have p1417 : 0 ≤ (x6_1 : Int) := of_decide_eq_true (by first | (with_reducible assumption) | assumption); have q1417 : x6_1 < (l0.length : Int) := of_decide_eq_true (by first | (with_reducible assumption) | assumption); obtain ⟨ad1417, e1417, hx1417_0, hx1417_1, hx1417_2⟩ := at_T226 HR0.out x6_1 p1417 q1417; obtain rfl : ad1414 = ad1417 := (by injection e1417); replace hx1417_0 := (HB.out.cell (World.block_lt_of_cell? w _ hx1417_0)).trans hx1417_0; replace hx1417_1 := (HB.out.cell (World.block_lt_of_cell? w _ hx1417_1)).trans hx1417_1; replace hx1417_2 := (HB.out.cell (World.block_lt_of_cell? w _ hx1417_2)).trans hx1417_2; replace p1417 := eq_true p1417; replace q1417 := eq_true q1417; have p1418 : 0 ≤ (x6_1 : Int) := of_decide_eq_true (by first | (with_reducible assumption) | assumption); have q1418 : x6_1 < (l0.length : Int) := of_decide_eq_true (by first | (with_reducible assumption) | assumption); obtain ⟨ad1418, e1418, hx1418_0, hx1418_1, hx1418_2⟩ := at_T226 HR0.out x6_1 p1418 q1418; obtain rfl : ad1414 = ad1418 := (by injection e1418); replace hx1418_0 := (HB.out.cell (World.block_lt_of_cell? w _ hx1418_0)).trans hx1418_0; replace hx1418_1 := (HB.out.cell (World.block_lt_of_cell? w _ hx1418_1)).trans hx1418_1; replace hx1418_2 := (HB.out.cell (World.block_lt_of_cell? w _ hx1418_2)).trans hx1418_2; replace p1418 := eq_true p1418; replace q1418 := eq_true q1418; have p1419 : 0 ≤ (x6_1 : Int) := of_decide_eq_true (by first | (with_reducible assumption) | assumption); have q1419 : x6_1 < (l0.length : Int) := of_decide_eq_true (by first | (with_reducible assumption) | assumption); obtain ⟨ad1419, e1419, hx1419_0, hx1419_1, hx1419_2⟩ := at_T226 HR0.out x6_1 p1419 q1419; obtain rfl : ad1414 = ad1419 := (by injection e1419); replace hx1419_0 := (HB.out.cell (World.block_lt_of_cell? w _ hx1419_0)).trans hx1419_0; replace hx1419_1 := (HB.out.cell (World.block_lt_of_cell? w _ hx1419_1)).trans hx1419_1; replace hx1419_2 := (HB.out.cell (World.block_lt_of_cell? w _ hx1419_2)).trans hx1419_2; replace p1419 := eq_true p1419; replace q1419 := eq_true q1419)))
                go_roundg k1
                case measure => have := HK1.out; omega
                case rel => exact ⟨(x4_1), (wrap64 ((wrap64 (x5_1 + ((rd_T226 l0 x6_1).f1))) + (((rd_T226 l0 x6_1).f2).size : Int))), (wrap64 (x6_1 + 1)), (by first | rfl | (simp; done) | (simp [*]; done)), (by first | rfl | (simp; done) | (simp [*]; done)), (by first | rfl | (simp; done) | (simp [*]; done)), H', ⟨by have := HK1.out; omega⟩, ⟨by repeat (first | (with_reducible first | exact HB.out | apply below_alloc | apply pw_below_drewN | apply below_drew1) | exact HB.out)⟩⟩
            · rw [if_neg c6] at H
              have c6b0 : (((rd_T226 l0 x6_1).f0) == 2) = false := beq_eq_false_iff_ne.mpr c6
              have c6b1 : (((rd_T226 l0 x6_1).f0) != 2) = true := bne_iff_ne.mpr c6
              by_cases c10 : ((rd_T226 l0 x6_1).f0) = 3
              · rw [if_pos c10] at H
                have c10b0 : (((rd_T226 l0 x6_1).f0) == 3) = true := beq_iff_eq.mpr c10
                have c10b1 : (((rd_T226 l0 x6_1).f0) != 3) = false := bne_eq_false_iff_eq.mpr c10
                clear c10
                have H' := Aside0.mk H
                clear H
                have p1414 : 0 ≤ (x6_1 : Int) := of_decide_eq_true (by first | (with_reducible assumption) | assumption)
                have q1414 : x6_1 < (l0.length : Int) := of_decide_eq_true (by first | (with_reducible assumption) | assumption)
                obtain ⟨ad1414, e1414, hx1414_0, hx1414_1, hx1414_2⟩ := at_T226 HR0.out x6_1 p1414 q1414
                cases e1414
                replace hx1414_0 := (HB.out.cell (World.block_lt_of_cell? w _ hx1414_0)).trans hx1414_0
                replace hx1414_1 := (HB.out.cell (World.block_lt_of_cell? w _ hx1414_1)).trans hx1414_1
                replace hx1414_2 := (HB.out.cell (World.block_lt_of_cell? w _ hx1414_2)).trans hx1414_2
                replace p1414 := eq_true p1414
                replace q1414 := eq_true q1414
                go_wp2_with (first | (go_at_call 175; (with_reducible refine (chartroomref05_right.calls ((rd_T226 l0 x6_1).f0) ((rd_T226 l0 x6_1).f1) ((rd_T226 l0 x6_1).f2) true _ A4.out).mono ?_); rintro e w11 ⟨rfl, hb⟩; have n0_ := Aside0.mk (below_step (by repeat (first | (with_reducible first | exact HB.out | apply below_alloc | apply pw_below_drewN | apply below_drew1) | exact HB.out)) hb); clear HB; have HB := n0_; clear n0_; (try clear hb); (try clear hb2); (try clear hk); (try clear hi); have p1416 : 0 ≤ (x6_1 : Int) := of_decide_eq_true (by first | (with_reducible assumption) | assumption); have q1416 : x6_1 < (l0.length : Int) := of_decide_eq_true (by first | (with_reducible assumption) | assumption); obtain ⟨ad1416, e1416, hx1416_0, hx1416_1, hx1416_2⟩ := at_T226 HR0.out x6_1 p1416 q1416; obtain rfl : ad1414 = ad1416 := (by injection e1416); replace hx1416_0 := (HB.out.cell (World.block_lt_of_cell? w _ hx1416_0)).trans hx1416_0; replace hx1416_1 := (HB.out.cell (World.block_lt_of_cell? w _ hx1416_1)).trans hx1416_1; replace hx1416_2 := (HB.out.cell (World.block_lt_of_cell? w _ hx1416_2)).trans hx1416_2; replace p1416 := eq_true p1416; replace q1416 := eq_true q1416; have p1420 : 0 ≤ (x6_1 : Int) := of_decide_eq_true (by first | (with_reducible assumption) | assumption); have q1420 : x6_1 < (l0.length : Int) := of_decide_eq_true (by first | (with_reducible assumption) | assumption); obtain ⟨ad1420, e1420, hx1420_0, hx1420_1, hx1420_2⟩ := at_T226 HR0.out x6_1 p1420 q1420; obtain rfl : ad1414 = ad1420 := (by injection e1420); replace hx1420_0 := (HB.out.cell (World.block_lt_of_cell? w _ hx1420_0)).trans hx1420_0; replace hx1420_1 := (HB.out.cell (World.block_lt_of_cell? w _ hx1420_1)).trans hx1420_1; replace hx1420_2 := (HB.out.cell (World.block_lt_of_cell? w _ hx1420_2)).trans hx1420_2; replace p1420 := eq_true p1420; replace q1420 := eq_true q1420; have p1421 : 0 ≤ (x6_1 : Int) := of_decide_eq_true (by first | (with_reducible assumption) | assumption); have q1421 : x6_1 < (l0.length : Int) := of_decide_eq_true (by first | (with_reducible assumption) | assumption); obtain ⟨ad1421, e1421, hx1421_0, hx1421_1, hx1421_2⟩ := at_T226 HR0.out x6_1 p1421 q1421; obtain rfl : ad1414 = ad1421 := (by injection e1421); replace hx1421_0 := (HB.out.cell (World.block_lt_of_cell? w _ hx1421_0)).trans hx1421_0; replace hx1421_1 := (HB.out.cell (World.block_lt_of_cell? w _ hx1421_1)).trans hx1421_1; replace hx1421_2 := (HB.out.cell (World.block_lt_of_cell? w _ hx1421_2)).trans hx1421_2; replace p1421 := eq_true p1421; replace q1421 := eq_true q1421))
                repeat (go_quiet (first | (go_at_call 175; (with_reducible refine (chartroomref05_right.calls ((rd_T226 l0 x6_1).f0) ((rd_T226 l0 x6_1).f1) ((rd_T226 l0 x6_1).f2) true _ A4.out).mono ?_); rintro e w11 ⟨rfl, hb⟩; have n0_ := Aside0.mk (below_step (by repeat (first | (with_reducible first | exact HB.out | apply below_alloc | apply pw_below_drewN | apply below_drew1) | exact HB.out)) hb); clear HB; have HB := n0_; clear n0_; (try clear hb); (try clear hb2); (try clear hk); (try clear hi); have p1416 : 0 ≤ (x6_1 : Int) := of_decide_eq_true (by first | (with_reducible assumption) | assumption); have q1416 : x6_1 < (l0.length : Int) := of_decide_eq_true (by first | (with_reducible assumption) | assumption); obtain ⟨ad1416, e1416, hx1416_0, hx1416_1, hx1416_2⟩ := at_T226 HR0.out x6_1 p1416 q1416; obtain rfl : ad1414 = ad1416 := (by injection e1416); replace hx1416_0 := (HB.out.cell (World.block_lt_of_cell? w _ hx1416_0)).trans hx1416_0; replace hx1416_1 := (HB.out.cell (World.block_lt_of_cell? w _ hx1416_1)).trans hx1416_1; replace hx1416_2 := (HB.out.cell (World.block_lt_of_cell? w _ hx1416_2)).trans hx1416_2; replace p1416 := eq_true p1416; replace q1416 := eq_true q1416; have p1420 : 0 ≤ (x6_1 : Int) := of_decide_eq_true (by first | (with_reducible assumption) | assumption); have q1420 : x6_1 < (l0.length : Int) := of_decide_eq_true (by first | (with_reducible assumption) | assumption); obtain ⟨ad1420, e1420, hx1420_0, hx1420_1, hx1420_2⟩ := at_T226 HR0.out x6_1 p1420 q1420; obtain rfl : ad1414 = ad1420 := (by injection e1420); replace hx1420_0 := (HB.out.cell (World.block_lt_of_cell? w _ hx1420_0)).trans hx1420_0; replace hx1420_1 := (HB.out.cell (World.block_lt_of_cell? w _ hx1420_1)).trans hx1420_1; replace hx1420_2 := (HB.out.cell (World.block_lt_of_cell? w _ hx1420_2)).trans hx1420_2; replace p1420 := eq_true p1420; replace q1420 := eq_true q1420; have p1421 : 0 ≤ (x6_1 : Int) := of_decide_eq_true (by first | (with_reducible assumption) | assumption); have q1421 : x6_1 < (l0.length : Int) := of_decide_eq_true (by first | (with_reducible assumption) | assumption); obtain ⟨ad1421, e1421, hx1421_0, hx1421_1, hx1421_2⟩ := at_T226 HR0.out x6_1 p1421 q1421; obtain rfl : ad1414 = ad1421 := (by injection e1421); replace hx1421_0 := (HB.out.cell (World.block_lt_of_cell? w _ hx1421_0)).trans hx1421_0; replace hx1421_1 := (HB.out.cell (World.block_lt_of_cell? w _ hx1421_1)).trans hx1421_1; replace hx1421_2 := (HB.out.cell (World.block_lt_of_cell? w _ hx1421_2)).trans hx1421_2; replace p1421 := eq_true p1421; replace q1421 := eq_true q1421)); try go_wp2_with (first | (go_at_call 175; (with_reducible refine (chartroomref05_right.calls ((rd_T226 l0 x6_1).f0) ((rd_T226 l0 x6_1).f1) ((rd_T226 l0 x6_1).f2) true _ A4.out).mono ?_); rintro e w11 ⟨rfl, hb⟩; have n0_ := Aside0.mk (below_step (by repeat (first | (with_reducible first | exact HB.out | apply below_alloc | apply pw_below_drewN | apply below_drew1) | exact HB.out)) hb); clear HB; have HB := n0_; clear n0_; (try clear hb); (try clear hb2); (try clear hk); (try clear hi); have p1416 : 0 ≤ (x6_1 : Int) := of_decide_eq_true (by first | (with_reducible assumption) | assumption); have q1416 : x6_1 < (l0.length : Int) := of_decide_eq_true (by first | (with_reducible assumption) | assumption); obtain ⟨ad1416, e1416, hx1416_0, hx1416_1, hx1416_2⟩ := at_T226 HR0.out x6_1 p1416 q1416; obtain rfl : ad1414 = ad1416 := (by injection e1416); replace hx1416_0 := (HB.out.cell (World.block_lt_of_cell? w _ hx1416_0)).trans hx1416_0; replace hx1416_1 := (HB.out.cell (World.block_lt_of_cell? w _ hx1416_1)).trans hx1416_1; replace hx1416_2 := (HB.out.cell (World.block_lt_of_cell? w _ hx1416_2)).trans hx1416_2; replace p1416 := eq_true p1416; replace q1416 := eq_true q1416; have p1420 : 0 ≤ (x6_1 : Int) := of_decide_eq_true (by first | (with_reducible assumption) | assumption); have q1420 : x6_1 < (l0.length : Int) := of_decide_eq_true (by first | (with_reducible assumption) | assumption); obtain ⟨ad1420, e1420, hx1420_0, hx1420_1, hx1420_2⟩ := at_T226 HR0.out x6_1 p1420 q1420; obtain rfl : ad1414 = ad1420 := (by injection e1420); replace hx1420_0 := (HB.out.cell (World.block_lt_of_cell? w _ hx1420_0)).trans hx1420_0; replace hx1420_1 := (HB.out.cell (World.block_lt_of_cell? w _ hx1420_1)).trans hx1420_1; replace hx1420_2 := (HB.out.cell (World.block_lt_of_cell? w _ hx1420_2)).trans hx1420_2; replace p1420 := eq_true p1420; replace q1420 := eq_true q1420; have p1421 : 0 ≤ (x6_1 : Int) := of_decide_eq_true (by first | (with_reducible assumption) | assumption); have q1421 : x6_1 < (l0.length : Int) := of_decide_eq_true (by first | (with_reducible assumption) | assumption); obtain ⟨ad1421, e1421, hx1421_0, hx1421_1, hx1421_2⟩ := at_T226 HR0.out x6_1 p1421 q1421; obtain rfl : ad1414 = ad1421 := (by injection e1421); replace hx1421_0 := (HB.out.cell (World.block_lt_of_cell? w _ hx1421_0)).trans hx1421_0; replace hx1421_1 := (HB.out.cell (World.block_lt_of_cell? w _ hx1421_1)).trans hx1421_1; replace hx1421_2 := (HB.out.cell (World.block_lt_of_cell? w _ hx1421_2)).trans hx1421_2; replace p1421 := eq_true p1421; replace q1421 := eq_true q1421)))
                go_roundg k1
                case measure => have := HK1.out; omega
                case rel => exact ⟨(wrap64 (x4_1 + ((rd_T226 l0 x6_1).f1))), (x5_1), (wrap64 (x6_1 + 1)), (by first | rfl | (simp; done) | (simp [*]; done)), (by first | rfl | (simp; done) | (simp [*]; done)), (by first | rfl | (simp; done) | (simp [*]; done)), H', ⟨by have := HK1.out; omega⟩, ⟨by repeat (first | (with_reducible first | exact HB.out | apply below_alloc | apply pw_below_drewN | apply below_drew1) | exact HB.out)⟩⟩
              · rw [if_neg c10] at H
                have c10b0 : (((rd_T226 l0 x6_1).f0) == 3) = false := beq_eq_false_iff_ne.mpr c10
                have c10b1 : (((rd_T226 l0 x6_1).f0) != 3) = true := bne_iff_ne.mpr c10
                have H' := Aside0.mk H
                clear H
                have p1414 : 0 ≤ (x6_1 : Int) := of_decide_eq_true (by first | (with_reducible assumption) | assumption)
                have q1414 : x6_1 < (l0.length : Int) := of_decide_eq_true (by first | (with_reducible assumption) | assumption)
                obtain ⟨ad1414, e1414, hx1414_0, hx1414_1, hx1414_2⟩ := at_T226 HR0.out x6_1 p1414 q1414
                cases e1414
                replace hx1414_0 := (HB.out.cell (World.block_lt_of_cell? w _ hx1414_0)).trans hx1414_0
                replace hx1414_1 := (HB.out.cell (World.block_lt_of_cell? w _ hx1414_1)).trans hx1414_1
                replace hx1414_2 := (HB.out.cell (World.block_lt_of_cell? w _ hx1414_2)).trans hx1414_2
                replace p1414 := eq_true p1414
                replace q1414 := eq_true q1414
                go_wp2_with (first | (go_at_call 175; (with_reducible refine (chartroomref05_right.calls ((rd_T226 l0 x6_1).f0) ((rd_T226 l0 x6_1).f1) ((rd_T226 l0 x6_1).f2) true _ A4.out).mono ?_); rintro e w12 ⟨rfl, hb⟩; have n0_ := Aside0.mk (below_step (by repeat (first | (with_reducible first | exact HB.out | apply below_alloc | apply pw_below_drewN | apply below_drew1) | exact HB.out)) hb); clear HB; have HB := n0_; clear n0_; (try clear hb); (try clear hb2); (try clear hk); (try clear hi); have p1416 : 0 ≤ (x6_1 : Int) := of_decide_eq_true (by first | (with_reducible assumption) | assumption); have q1416 : x6_1 < (l0.length : Int) := of_decide_eq_true (by first | (with_reducible assumption) | assumption); obtain ⟨ad1416, e1416, hx1416_0, hx1416_1, hx1416_2⟩ := at_T226 HR0.out x6_1 p1416 q1416; obtain rfl : ad1414 = ad1416 := (by injection e1416); replace hx1416_0 := (HB.out.cell (World.block_lt_of_cell? w _ hx1416_0)).trans hx1416_0; replace hx1416_1 := (HB.out.cell (World.block_lt_of_cell? w _ hx1416_1)).trans hx1416_1; replace hx1416_2 := (HB.out.cell (World.block_lt_of_cell? w _ hx1416_2)).trans hx1416_2; replace p1416 := eq_true p1416; replace q1416 := eq_true q1416; have p1420 : 0 ≤ (x6_1 : Int) := of_decide_eq_true (by first | (with_reducible assumption) | assumption); have q1420 : x6_1 < (l0.length : Int) := of_decide_eq_true (by first | (with_reducible assumption) | assumption); obtain ⟨ad1420, e1420, hx1420_0, hx1420_1, hx1420_2⟩ := at_T226 HR0.out x6_1 p1420 q1420; obtain rfl : ad1414 = ad1420 := (by injection e1420); replace hx1420_0 := (HB.out.cell (World.block_lt_of_cell? w _ hx1420_0)).trans hx1420_0; replace hx1420_1 := (HB.out.cell (World.block_lt_of_cell? w _ hx1420_1)).trans hx1420_1; replace hx1420_2 := (HB.out.cell (World.block_lt_of_cell? w _ hx1420_2)).trans hx1420_2; replace p1420 := eq_true p1420; replace q1420 := eq_true q1420; have p1421 : 0 ≤ (x6_1 : Int) := of_decide_eq_true (by first | (with_reducible assumption) | assumption); have q1421 : x6_1 < (l0.length : Int) := of_decide_eq_true (by first | (with_reducible assumption) | assumption); obtain ⟨ad1421, e1421, hx1421_0, hx1421_1, hx1421_2⟩ := at_T226 HR0.out x6_1 p1421 q1421; obtain rfl : ad1414 = ad1421 := (by injection e1421); replace hx1421_0 := (HB.out.cell (World.block_lt_of_cell? w _ hx1421_0)).trans hx1421_0; replace hx1421_1 := (HB.out.cell (World.block_lt_of_cell? w _ hx1421_1)).trans hx1421_1; replace hx1421_2 := (HB.out.cell (World.block_lt_of_cell? w _ hx1421_2)).trans hx1421_2; replace p1421 := eq_true p1421; replace q1421 := eq_true q1421; have p1422 : 0 ≤ (x6_1 : Int) := of_decide_eq_true (by first | (with_reducible assumption) | assumption); have q1422 : x6_1 < (l0.length : Int) := of_decide_eq_true (by first | (with_reducible assumption) | assumption); obtain ⟨ad1422, e1422, hx1422_0, hx1422_1, hx1422_2⟩ := at_T226 HR0.out x6_1 p1422 q1422; obtain rfl : ad1414 = ad1422 := (by injection e1422); replace hx1422_0 := (HB.out.cell (World.block_lt_of_cell? w _ hx1422_0)).trans hx1422_0; replace hx1422_1 := (HB.out.cell (World.block_lt_of_cell? w _ hx1422_1)).trans hx1422_1; replace hx1422_2 := (HB.out.cell (World.block_lt_of_cell? w _ hx1422_2)).trans hx1422_2; replace p1422 := eq_true p1422; replace q1422 := eq_true q1422; have p1423 : 0 ≤ (x6_1 : Int) := of_decide_eq_true (by first | (with_reducible assumption) | assumption); have q1423 : x6_1 < (l0.length : Int) := of_decide_eq_true (by first | (with_reducible assumption) | assumption); obtain ⟨ad1423, e1423, hx1423_0, hx1423_1, hx1423_2⟩ := at_T226 HR0.out x6_1 p1423 q1423; obtain rfl : ad1414 = ad1423 := (by injection e1423); replace hx1423_0 := (HB.out.cell (World.block_lt_of_cell? w _ hx1423_0)).trans hx1423_0; replace hx1423_1 := (HB.out.cell (World.block_lt_of_cell? w _ hx1423_1)).trans hx1423_1; replace hx1423_2 := (HB.out.cell (World.block_lt_of_cell? w _ hx1423_2)).trans hx1423_2; replace p1423 := eq_true p1423; replace q1423 := eq_true q1423))
                repeat (go_quiet (first | (go_at_call 175; (with_reducible refine (chartroomref05_right.calls ((rd_T226 l0 x6_1).f0) ((rd_T226 l0 x6_1).f1) ((rd_T226 l0 x6_1).f2) true _ A4.out).mono ?_); rintro e w12 ⟨rfl, hb⟩; have n0_ := Aside0.mk (below_step (by repeat (first | (with_reducible first | exact HB.out | apply below_alloc | apply pw_below_drewN | apply below_drew1) | exact HB.out)) hb); clear HB; have HB := n0_; clear n0_; (try clear hb); (try clear hb2); (try clear hk); (try clear hi); have p1416 : 0 ≤ (x6_1 : Int) := of_decide_eq_true (by first | (with_reducible assumption) | assumption); have q1416 : x6_1 < (l0.length : Int) := of_decide_eq_true (by first | (with_reducible assumption) | assumption); obtain ⟨ad1416, e1416, hx1416_0, hx1416_1, hx1416_2⟩ := at_T226 HR0.out x6_1 p1416 q1416; obtain rfl : ad1414 = ad1416 := (by injection e1416); replace hx1416_0 := (HB.out.cell (World.block_lt_of_cell? w _ hx1416_0)).trans hx1416_0; replace hx1416_1 := (HB.out.cell (World.block_lt_of_cell? w _ hx1416_1)).trans hx1416_1; replace hx1416_2 := (HB.out.cell (World.block_lt_of_cell? w _ hx1416_2)).trans hx1416_2; replace p1416 := eq_true p1416; replace q1416 := eq_true q1416; have p1420 : 0 ≤ (x6_1 : Int) := of_decide_eq_true (by first | (with_reducible assumption) | assumption); have q1420 : x6_1 < (l0.length : Int) := of_decide_eq_true (by first | (with_reducible assumption) | assumption); obtain ⟨ad1420, e1420, hx1420_0, hx1420_1, hx1420_2⟩ := at_T226 HR0.out x6_1 p1420 q1420; obtain rfl : ad1414 = ad1420 := (by injection e1420); replace hx1420_0 := (HB.out.cell (World.block_lt_of_cell? w _ hx1420_0)).trans hx1420_0; replace hx1420_1 := (HB.out.cell (World.block_lt_of_cell? w _ hx1420_1)).trans hx1420_1; replace hx1420_2 := (HB.out.cell (World.block_lt_of_cell? w _ hx1420_2)).trans hx1420_2; replace p1420 := eq_true p1420; replace q1420 := eq_true q1420; have p1421 : 0 ≤ (x6_1 : Int) := of_decide_eq_true (by first | (with_reducible assumption) | assumption); have q1421 : x6_1 < (l0.length : Int) := of_decide_eq_true (by first | (with_reducible assumption) | assumption); obtain ⟨ad1421, e1421, hx1421_0, hx1421_1, hx1421_2⟩ := at_T226 HR0.out x6_1 p1421 q1421; obtain rfl : ad1414 = ad1421 := (by injection e1421); replace hx1421_0 := (HB.out.cell (World.block_lt_of_cell? w _ hx1421_0)).trans hx1421_0; replace hx1421_1 := (HB.out.cell (World.block_lt_of_cell? w _ hx1421_1)).trans hx1421_1; replace hx1421_2 := (HB.out.cell (World.block_lt_of_cell? w _ hx1421_2)).trans hx1421_2; replace p1421 := eq_true p1421; replace q1421 := eq_true q1421; have p1422 : 0 ≤ (x6_1 : Int) := of_decide_eq_true (by first | (with_reducible assumption) | assumption); have q1422 : x6_1 < (l0.length : Int) := of_decide_eq_true (by first | (with_reducible assumption) | assumption); obtain ⟨ad1422, e1422, hx1422_0, hx1422_1, hx1422_2⟩ := at_T226 HR0.out x6_1 p1422 q1422; obtain rfl : ad1414 = ad1422 := (by injection e1422); replace hx1422_0 := (HB.out.cell (World.block_lt_of_cell? w _ hx1422_0)).trans hx1422_0; replace hx1422_1 := (HB.out.cell (World.block_lt_of_cell? w _ hx1422_1)).trans hx1422_1; replace hx1422_2 := (HB.out.cell (World.block_lt_of_cell? w _ hx1422_2)).trans hx1422_2; replace p1422 := eq_true p1422; replace q1422 := eq_true q1422; have p1423 : 0 ≤ (x6_1 : Int) := of_decide_eq_true (by first | (with_reducible assumption) | assumption); have q1423 : x6_1 < (l0.length : Int) := of_decide_eq_true (by first | (with_reducible assumption) | assumption); obtain ⟨ad1423, e1423, hx1423_0, hx1423_1, hx1423_2⟩ := at_T226 HR0.out x6_1 p1423 q1423; obtain rfl : ad1414 = ad1423 := (by injection e1423); replace hx1423_0 := (HB.out.cell (World.block_lt_of_cell? w _ hx1423_0)).trans hx1423_0; replace hx1423_1 := (HB.out.cell (World.block_lt_of_cell? w _ hx1423_1)).trans hx1423_1; replace hx1423_2 := (HB.out.cell (World.block_lt_of_cell? w _ hx1423_2)).trans hx1423_2; replace p1423 := eq_true p1423; replace q1423 := eq_true q1423)); try go_wp2_with (first | (go_at_call 175; (with_reducible refine (chartroomref05_right.calls ((rd_T226 l0 x6_1).f0) ((rd_T226 l0 x6_1).f1) ((rd_T226 l0 x6_1).f2) true _ A4.out).mono ?_); rintro e w12 ⟨rfl, hb⟩; have n0_ := Aside0.mk (below_step (by repeat (first | (with_reducible first | exact HB.out | apply below_alloc | apply pw_below_drewN | apply below_drew1) | exact HB.out)) hb); clear HB; have HB := n0_; clear n0_; (try clear hb); (try clear hb2); (try clear hk); (try clear hi); have p1416 : 0 ≤ (x6_1 : Int) := of_decide_eq_true (by first | (with_reducible assumption) | assumption); have q1416 : x6_1 < (l0.length : Int) := of_decide_eq_true (by first | (with_reducible assumption) | assumption); obtain ⟨ad1416, e1416, hx1416_0, hx1416_1, hx1416_2⟩ := at_T226 HR0.out x6_1 p1416 q1416; obtain rfl : ad1414 = ad1416 := (by injection e1416); replace hx1416_0 := (HB.out.cell (World.block_lt_of_cell? w _ hx1416_0)).trans hx1416_0; replace hx1416_1 := (HB.out.cell (World.block_lt_of_cell? w _ hx1416_1)).trans hx1416_1; replace hx1416_2 := (HB.out.cell (World.block_lt_of_cell? w _ hx1416_2)).trans hx1416_2; replace p1416 := eq_true p1416; replace q1416 := eq_true q1416; have p1420 : 0 ≤ (x6_1 : Int) := of_decide_eq_true (by first | (with_reducible assumption) | assumption); have q1420 : x6_1 < (l0.length : Int) := of_decide_eq_true (by first | (with_reducible assumption) | assumption); obtain ⟨ad1420, e1420, hx1420_0, hx1420_1, hx1420_2⟩ := at_T226 HR0.out x6_1 p1420 q1420; obtain rfl : ad1414 = ad1420 := (by injection e1420); replace hx1420_0 := (HB.out.cell (World.block_lt_of_cell? w _ hx1420_0)).trans hx1420_0; replace hx1420_1 := (HB.out.cell (World.block_lt_of_cell? w _ hx1420_1)).trans hx1420_1; replace hx1420_2 := (HB.out.cell (World.block_lt_of_cell? w _ hx1420_2)).trans hx1420_2; replace p1420 := eq_true p1420; replace q1420 := eq_true q1420; have p1421 : 0 ≤ (x6_1 : Int) := of_decide_eq_true (by first | (with_reducible assumption) | assumption); have q1421 : x6_1 < (l0.length : Int) := of_decide_eq_true (by first | (with_reducible assumption) | assumption); obtain ⟨ad1421, e1421, hx1421_0, hx1421_1, hx1421_2⟩ := at_T226 HR0.out x6_1 p1421 q1421; obtain rfl : ad1414 = ad1421 := (by injection e1421); replace hx1421_0 := (HB.out.cell (World.block_lt_of_cell? w _ hx1421_0)).trans hx1421_0; replace hx1421_1 := (HB.out.cell (World.block_lt_of_cell? w _ hx1421_1)).trans hx1421_1; replace hx1421_2 := (HB.out.cell (World.block_lt_of_cell? w _ hx1421_2)).trans hx1421_2; replace p1421 := eq_true p1421; replace q1421 := eq_true q1421; have p1422 : 0 ≤ (x6_1 : Int) := of_decide_eq_true (by first | (with_reducible assumption) | assumption); have q1422 : x6_1 < (l0.length : Int) := of_decide_eq_true (by first | (with_reducible assumption) | assumption); obtain ⟨ad1422, e1422, hx1422_0, hx1422_1, hx1422_2⟩ := at_T226 HR0.out x6_1 p1422 q1422; obtain rfl : ad1414 = ad1422 := (by injection e1422); replace hx1422_0 := (HB.out.cell (World.block_lt_of_cell? w _ hx1422_0)).trans hx1422_0; replace hx1422_1 := (HB.out.cell (World.block_lt_of_cell? w _ hx1422_1)).trans hx1422_1; replace hx1422_2 := (HB.out.cell (World.block_lt_of_cell? w _ hx1422_2)).trans hx1422_2; replace p1422 := eq_true p1422; replace q1422 := eq_true q1422; have p1423 : 0 ≤ (x6_1 : Int) := of_decide_eq_true (by first | (with_reducible assumption) | assumption); have q1423 : x6_1 < (l0.length : Int) := of_decide_eq_true (by first | (with_reducible assumption) | assumption); obtain ⟨ad1423, e1423, hx1423_0, hx1423_1, hx1423_2⟩ := at_T226 HR0.out x6_1 p1423 q1423; obtain rfl : ad1414 = ad1423 := (by injection e1423); replace hx1423_0 := (HB.out.cell (World.block_lt_of_cell? w _ hx1423_0)).trans hx1423_0; replace hx1423_1 := (HB.out.cell (World.block_lt_of_cell? w _ hx1423_1)).trans hx1423_1; replace hx1423_2 := (HB.out.cell (World.block_lt_of_cell? w _ hx1423_2)).trans hx1423_2; replace p1423 := eq_true p1423; replace q1423 := eq_true q1423)))
                go_roundg k1
                case measure => have := HK1.out; omega
                case rel => exact ⟨(wrap64 (x4_1 + ((rd_T226 l0 x6_1).f1))), (wrap64 ((wrap64 (x5_1 + ((rd_T226 l0 x6_1).f1))) + (((rd_T226 l0 x6_1).f2).size : Int))), (wrap64 (x6_1 + 1)), (by first | rfl | (simp; done) | (simp [*]; done)), (by first | rfl | (simp; done) | (simp [*]; done)), (by first | rfl | (simp; done) | (simp [*]; done)), H', ⟨by have := HK1.out; omega⟩, ⟨by repeat (first | (with_reducible first | exact HB.out | apply below_alloc | apply pw_below_drewN | apply below_drew1) | exact HB.out)⟩⟩
          · replace c5 := Bool.eq_false_iff.mpr c5
            subst c5
            have H1 : (chartroomref05_Sizes.l0 k1 l0 x4_1 x5_1 (wrap64 (x6_1 + 1))) = some (r1, r2) := by rw [if_neg (show ¬ (false = true) by decide)] at H; exact H
            clear H
            have H := H1
            clear H1
            have H' := Aside0.mk H
            clear H
            have p1414 : 0 ≤ (x6_1 : Int) := of_decide_eq_true (by first | (with_reducible assumption) | assumption)
            have q1414 : x6_1 < (l0.length : Int) := of_decide_eq_true (by first | (with_reducible assumption) | assumption)
            obtain ⟨ad1414, e1414, hx1414_0, hx1414_1, hx1414_2⟩ := at_T226 HR0.out x6_1 p1414 q1414
            cases e1414
            replace hx1414_0 := (HB.out.cell (World.block_lt_of_cell? w _ hx1414_0)).trans hx1414_0
            replace hx1414_1 := (HB.out.cell (World.block_lt_of_cell? w _ hx1414_1)).trans hx1414_1
            replace hx1414_2 := (HB.out.cell (World.block_lt_of_cell? w _ hx1414_2)).trans hx1414_2
            replace p1414 := eq_true p1414
            replace q1414 := eq_true q1414
            go_wp2_with (first | (go_at_call 175; (with_reducible refine (chartroomref05_right.calls ((rd_T226 l0 x6_1).f0) ((rd_T226 l0 x6_1).f1) ((rd_T226 l0 x6_1).f2) false _ A4.out).mono ?_); rintro e w13 ⟨rfl, hb⟩; have n0_ := Aside0.mk (below_step (by repeat (first | (with_reducible first | exact HB.out | apply below_alloc | apply pw_below_drewN | apply below_drew1) | exact HB.out)) hb); clear HB; have HB := n0_; clear n0_; (try clear hb); (try clear hb2); (try clear hk); (try clear hi)))
            repeat (go_quiet (first | (go_at_call 175; (with_reducible refine (chartroomref05_right.calls ((rd_T226 l0 x6_1).f0) ((rd_T226 l0 x6_1).f1) ((rd_T226 l0 x6_1).f2) false _ A4.out).mono ?_); rintro e w13 ⟨rfl, hb⟩; have n0_ := Aside0.mk (below_step (by repeat (first | (with_reducible first | exact HB.out | apply below_alloc | apply pw_below_drewN | apply below_drew1) | exact HB.out)) hb); clear HB; have HB := n0_; clear n0_; (try clear hb); (try clear hb2); (try clear hk); (try clear hi))); try go_wp2_with (first | (go_at_call 175; (with_reducible refine (chartroomref05_right.calls ((rd_T226 l0 x6_1).f0) ((rd_T226 l0 x6_1).f1) ((rd_T226 l0 x6_1).f2) false _ A4.out).mono ?_); rintro e w13 ⟨rfl, hb⟩; have n0_ := Aside0.mk (below_step (by repeat (first | (with_reducible first | exact HB.out | apply below_alloc | apply pw_below_drewN | apply below_drew1) | exact HB.out)) hb); clear HB; have HB := n0_; clear n0_; (try clear hb); (try clear hb2); (try clear hk); (try clear hi))))
            go_roundg k1
            case measure => have := HK1.out; omega
            case rel => exact ⟨(x4_1), (x5_1), (wrap64 (x6_1 + 1)), (by first | rfl | (simp; done) | (simp [*]; done)), (by first | rfl | (simp; done) | (simp [*]; done)), (by first | rfl | (simp; done) | (simp [*]; done)), H', ⟨by have := HK1.out; omega⟩, ⟨by repeat (first | (with_reducible first | exact HB.out | apply below_alloc | apply pw_below_drewN | apply below_drew1) | exact HB.out)⟩⟩
        · rw [if_neg c3] at H
          exact absurd H (by simp)
      · rw [if_neg c2] at H
        have c2b0 : decide (x6_1 < (l0.length : Int)) = false := decide_eq_false c2
        clear c2
        simp only [Option.some.injEq, Prod.mk.injEq] at H
        obtain ⟨rfl, rfl⟩ := H
        go_wp2
        repeat (go_quiet (fail); try go_wp2)
        go_ret2
        exact ⟨by first | rfl | (simp [errW_none, errW_some] <;> rfl) | (simp [*, errW_none, errW_some] <;> rfl), by repeat (first | (with_reducible first | exact HB.out | apply below_alloc | apply pw_below_drewN | apply below_drew1) | exact HB.out)⟩
/-! ### chartroomref05_Right: function 114 -/
def chartroomref05_Right.l0 : Nat → List (S226) → Int → Option (Bool)
  | 0, _, _ => none
  | k + 1, x0, x3 => if x3 < (x0.length : Int) then (if 0 ≤ x3 then ((chartroomref05_right.f ((rd_T226 x0 x3).f0) ((rd_T226 x0 x3).f1) ((rd_T226 x0 x3).f2)).bind fun t1425 => (if t1425 = true then (chartroomref05_Right.l0 k x0 (wrap64 (x3 + 1))) else (some false))) else (none)) else (some true)
def chartroomref05_Right.f (k : Nat) (l0 : List (S226)) : Option (Bool) := chartroomref05_Right.l0 k l0 0
set_option maxHeartbeats 8000000 in
set_option maxRecDepth 100000 in
theorem chartroomref05_Right.calls (k : Nat) (A0 : Option Addr) (c0 : Nat) (l0 : List (S226)) (r : Bool) (w : World) (hr0 : Kd.C k226 w A0 l0.length l0) (hc0 : l0.length ≤ c0) (h : chartroomref05_Right.f k l0 = some r) :
    Calls Try.prog 114 #[.slice A0 l0.length c0] w fun e w' => e = .returned (.bool r) ∧ Below w.heap.size w w' := by
  have hu226 := Try.underlying226
  have HR0 := Aside0.mk hr0
  have HC0 := Aside0.mk hc0
  clear hr0 hc0
  have HB := Aside0.mk (Below.refl w.heap.size w)
  have H : (chartroomref05_Right.l0 k l0 0) = some r := h
  clear h
  have H' := Aside0.mk H
  clear H
  go_enter Try.func114, Try.ntmps114
  go_wp2
  go_loopg [3] k (fun kq v3 w' => ∃ (x3_1 : Int), v3 = .int .i64 x3_1 ∧ Aside0 (chartroomref05_Right.l0 kq l0 x3_1 = some r) ∧ Aside0 (kq ≤ k) ∧ Aside0 (Below w.heap.size w w'))
  case atStart => exact ⟨(0), (by first | rfl | (simp; done) | (simp [*]; done)), H', ⟨Nat.le_refl _⟩, ⟨by repeat (first | (with_reducible first | exact HB.out | apply below_alloc | apply pw_below_drewN | apply below_drew1) | exact HB.out)⟩⟩
  case round =>
    clear H'
    try clear c1
    obtain ⟨x3_1, rfl, HA, HK1, HB⟩ := hrel
    cases gk with
    | zero => exact absurd HA.out (by simp [chartroomref05_Right.l0])
    | succ k1 =>
      have H := HA.out
      clear HA
      simp only [chartroomref05_Right.l0] at H
      by_cases c2 : x3_1 < (l0.length : Int)
      · rw [if_pos c2] at H
        have c2b0 : decide (x3_1 < (l0.length : Int)) = true := decide_eq_true c2
        clear c2
        by_cases c3 : 0 ≤ x3_1
        · rw [if_pos c3] at H
          have c3b0 : decide (0 ≤ x3_1) = true := decide_eq_true c3
          clear c3
          replace H := Option.bind_eq_some_iff.mp H
          obtain ⟨t1425, A40, H⟩ := H
          replace H : (if t1425 = true then (chartroomref05_Right.l0 k1 l0 (wrap64 (x3_1 + 1))) else (some false)) = some r := H
          have A4 := Aside0.mk A40
          clear A40
          by_cases c5 : t1425 = true
          · subst c5
            have H1 : (chartroomref05_Right.l0 k1 l0 (wrap64 (x3_1 + 1))) = some r := by rw [if_pos rfl] at H; exact H
            clear H
            have H := H1
            clear H1
            have H' := Aside0.mk H
            clear H
            have p1424 : 0 ≤ (x3_1 : Int) := of_decide_eq_true (by first | (with_reducible assumption) | assumption)
            have q1424 : x3_1 < (l0.length : Int) := of_decide_eq_true (by first | (with_reducible assumption) | assumption)
            obtain ⟨ad1424, e1424, hx1424_0, hx1424_1, hx1424_2⟩ := at_T226 HR0.out x3_1 p1424 q1424
            cases e1424
            replace hx1424_0 := (HB.out.cell (World.block_lt_of_cell? w _ hx1424_0)).trans hx1424_0
            replace hx1424_1 := (HB.out.cell (World.block_lt_of_cell? w _ hx1424_1)).trans hx1424_1
            replace hx1424_2 := (HB.out.cell (World.block_lt_of_cell? w _ hx1424_2)).trans hx1424_2
            replace p1424 := eq_true p1424
            replace q1424 := eq_true q1424
            go_wp2_with (first | ((with_reducible refine gate_callee (f := 175) rfl ?_); refine goesL_ (some 14) rfl rfl Try.func175 (by kernel_rfl) rfl #[.agg #[.int .u8 ((rd_T226 l0 x3_1).f0), .int .i64 ((rd_T226 l0 x3_1).f1), .string ((rd_T226 l0 x3_1).f2)]] rfl (by (try simp only [List.map_toArray, List.map_cons, List.map_nil]); first | done | rfl | (simp only [List.length_drop, List.length_take]; rfl)) ?_; (with_reducible refine (chartroomref05_right.calls ((rd_T226 l0 x3_1).f0) ((rd_T226 l0 x3_1).f1) ((rd_T226 l0 x3_1).f2) true _ A4.out).mono ?_); rintro e w6 ⟨rfl, hb⟩; refine ⟨_, rfl, ?_⟩; have n0_ := Aside0.mk (below_step (by repeat (first | (with_reducible first | exact HB.out | apply below_alloc | apply pw_below_drewN | apply below_drew1) | exact HB.out)) hb); clear HB; have HB := n0_; clear n0_; (try clear hb); (try clear hb2); (try clear hk); (try clear hi)))
            go_roundg k1
            case measure => have := HK1.out; omega
            case rel => exact ⟨(wrap64 (x3_1 + 1)), (by first | rfl | (simp; done) | (simp [*]; done)), H', ⟨by have := HK1.out; omega⟩, ⟨by repeat (first | (with_reducible first | exact HB.out | apply below_alloc | apply pw_below_drewN | apply below_drew1) | exact HB.out)⟩⟩
          · replace c5 := Bool.eq_false_iff.mpr c5
            subst c5
            have H1 : (some false) = some r := by rw [if_neg (show ¬ (false = true) by decide)] at H; exact H
            clear H
            have H := H1
            clear H1
            obtain rfl := Option.some.inj H
            have p1424 : 0 ≤ (x3_1 : Int) := of_decide_eq_true (by first | (with_reducible assumption) | assumption)
            have q1424 : x3_1 < (l0.length : Int) := of_decide_eq_true (by first | (with_reducible assumption) | assumption)
            obtain ⟨ad1424, e1424, hx1424_0, hx1424_1, hx1424_2⟩ := at_T226 HR0.out x3_1 p1424 q1424
            cases e1424
            replace hx1424_0 := (HB.out.cell (World.block_lt_of_cell? w _ hx1424_0)).trans hx1424_0
            replace hx1424_1 := (HB.out.cell (World.block_lt_of_cell? w _ hx1424_1)).trans hx1424_1
            replace hx1424_2 := (HB.out.cell (World.block_lt_of_cell? w _ hx1424_2)).trans hx1424_2
            replace p1424 := eq_true p1424
            replace q1424 := eq_true q1424
            go_wp2_with (first | ((with_reducible refine gate_callee (f := 175) rfl ?_); refine goesL_ (some 14) rfl rfl Try.func175 (by kernel_rfl) rfl #[.agg #[.int .u8 ((rd_T226 l0 x3_1).f0), .int .i64 ((rd_T226 l0 x3_1).f1), .string ((rd_T226 l0 x3_1).f2)]] rfl (by (try simp only [List.map_toArray, List.map_cons, List.map_nil]); first | done | rfl | (simp only [List.length_drop, List.length_take]; rfl)) ?_; (with_reducible refine (chartroomref05_right.calls ((rd_T226 l0 x3_1).f0) ((rd_T226 l0 x3_1).f1) ((rd_T226 l0 x3_1).f2) false _ A4.out).mono ?_); rintro e w7 ⟨rfl, hb⟩; refine ⟨_, rfl, ?_⟩; have n0_ := Aside0.mk (below_step (by repeat (first | (with_reducible first | exact HB.out | apply below_alloc | apply pw_below_drewN | apply below_drew1) | exact HB.out)) hb); clear HB; have HB := n0_; clear n0_; (try clear hb); (try clear hb2); (try clear hk); (try clear hi)))
            go_ret
            exact ⟨by first | rfl | (simp [errW_none, errW_some] <;> rfl) | (simp [*, errW_none, errW_some] <;> rfl), by repeat (first | (with_reducible first | exact HB.out | apply below_alloc | apply pw_below_drewN | apply below_drew1) | exact HB.out)⟩
        · rw [if_neg c3] at H
          exact absurd H (by simp)
      · rw [if_neg c2] at H
        have c2b0 : decide (x3_1 < (l0.length : Int)) = false := decide_eq_false c2
        clear c2
        obtain rfl := Option.some.inj H
        go_wp2
        go_ret
        exact ⟨by first | rfl | (simp [errW_none, errW_some] <;> rfl) | (simp [*, errW_none, errW_some] <;> rfl), by repeat (first | (with_reducible first | exact HB.out | apply below_alloc | apply pw_below_drewN | apply below_drew1) | exact HB.out)⟩
/-! ### chartroomref05_Apply: function 105 -/
mutual
def chartroomref05_Apply.j0 : Nat → ByteArray → List (S226) → Bool → Option (ByteArray × Int)
  | 0, _, _, _ => none
  | k + 1, x0, x1, x26 => if x26 = true then (some ((⟨#[]⟩ : ByteArray), 50)) else (chartroomref05_Apply.l0 k x0 x1 ([] : List Int) 0 0)
def chartroomref05_Apply.l0 : Nat → ByteArray → List (S226) → List Int → Int → Int → Option (ByteArray × Int)
  | 0, _, _, _, _, _ => none
  | k + 1, x0, x1, x8, x9, x10 => if x10 < (x1.length : Int) then (chartroomref05_Apply.l1 k x0 x1 x8 x9 x10 0) else (some (strOfNums x8, 0))
def chartroomref05_Apply.l1 : Nat → ByteArray → List (S226) → List Int → Int → Int → Int → Option (ByteArray × Int)
  | 0, _, _, _, _, _, _ => none
  | k + 1, x0, x1, x8, x9, x10, x11 => if 0 ≤ x10 then (if x10 < (x1.length : Int) then (if x11 < ((rd_T226 x1 x10).f1) then (if ((rd_T226 x1 x10).f0) = 1 then (if 0 ≤ x9 then (if x9 < (x0.size : Int) then (if x8.length < 140737488355328 then (chartroomref05_Apply.l1 k x0 x1 (x8 ++ [bt x0 x9]) (wrap64 (x9 + 1)) x10 (wrap64 (x11 + 1))) else (none)) else (none)) else (none)) else (chartroomref05_Apply.l1 k x0 x1 x8 (wrap64 (x9 + 1)) x10 (wrap64 (x11 + 1)))) else (chartroomref05_Apply.l2 k x0 x1 x8 x9 x10 0)) else (none)) else (none)
def chartroomref05_Apply.l2 : Nat → ByteArray → List (S226) → List Int → Int → Int → Int → Option (ByteArray × Int)
  | 0, _, _, _, _, _, _ => none
  | k + 1, x0, x1, x8, x9, x10, x12 => if 0 ≤ x10 then (if x10 < (x1.length : Int) then (if x12 < (((rd_T226 x1 x10).f2).size : Int) then (if 0 ≤ x12 then (if x8.length < 140737488355328 then (chartroomref05_Apply.l2 k x0 x1 (x8 ++ [bt ((rd_T226 x1 x10).f2) x12]) x9 x10 (wrap64 (x12 + 1))) else (none)) else (none)) else (chartroomref05_Apply.l0 k x0 x1 x8 x9 (wrap64 (x10 + 1)))) else (none)) else (none)
end
def chartroomref05_Apply.f (k : Nat) (a0 : ByteArray) (l1 : List (S226)) : Option (ByteArray × Int) := (chartroomref05_Sizes.f k l1).bind fun bt1426 => ((chartroomref05_Right.f k l1).bind fun t1428 => (if t1428 = true then (chartroomref05_Apply.j0 k a0 l1 (bt1426.1 != (a0.size : Int))) else (chartroomref05_Apply.j0 k a0 l1 true)))
set_option maxHeartbeats 8000000 in
set_option maxRecDepth 100000 in
theorem chartroomref05_Apply.calls (k : Nat) (a0 : ByteArray) (A1 : Option Addr) (c1 : Nat) (l1 : List (S226)) (r1 : ByteArray) (r2 : Int) (w : World) (hr1 : Kd.C k226 w A1 l1.length l1) (hc1 : l1.length ≤ c1) (h : chartroomref05_Apply.f k a0 l1 = some (r1, r2)) :
    Calls Try.prog 105 #[.string a0, .slice A1 l1.length c1] w fun e w' => e = .returned (.tuple #[.string r1, .int .i64 r2]) ∧ Below w.heap.size w w' := by
  have HR1 := Aside0.mk hr1
  have HC1 := Aside0.mk hc1
  clear hr1 hc1
  have HB := Aside0.mk (Below.refl w.heap.size w)
  have H : ((chartroomref05_Sizes.f k l1).bind fun bt1426 => ((chartroomref05_Right.f k l1).bind fun t1428 => (if t1428 = true then (chartroomref05_Apply.j0 k a0 l1 (bt1426.1 != (a0.size : Int))) else (chartroomref05_Apply.j0 k a0 l1 true)))) = some (r1, r2) := h
  clear h
  replace H := Option.bind_eq_some_iff.mp H
  obtain ⟨⟨t1426, t1427⟩, A30, H⟩ := H
  replace H : ((chartroomref05_Right.f k l1).bind fun t1428 => (if t1428 = true then (chartroomref05_Apply.j0 k a0 l1 (t1426 != (a0.size : Int))) else (chartroomref05_Apply.j0 k a0 l1 true))) = some (r1, r2) := H
  have A3 := Aside0.mk A30
  clear A30
  have HC4 := Aside0.mk H
  clear H
  go_enter Try.func105, Try.ntmps105
  go_upto_region 2 with (first | ((with_reducible refine gate_callee (f := 107) rfl ?_); refine goesL_ (some 15) rfl rfl Try.func107 (by kernel_rfl) rfl #[.slice A1 l1.length c1] rfl (by (try simp only [List.map_toArray, List.map_cons, List.map_nil]); first | done | rfl | (simp only [List.length_drop, List.length_take]; rfl)) ?_; (with_reducible refine (chartroomref05_Sizes.calls k _ _ l1 t1426 t1427 _ ?side1 ?side2 A3.out).mono ?_); (case side1 => repeat (first | exact HR1.out | (with_reducible refine Kd.C_alloc ?_ _) | (with_reducible refine Kd.C_drewN ?_ _) | (with_reducible refine Kd.C_drew ?_))); (case side2 => exact HC1.out); rintro e w5 ⟨rfl, hb⟩; refine ⟨_, rfl, ?_⟩; have n0_ := Aside0.mk (below_step (by repeat (first | (with_reducible first | exact HB.out | apply below_alloc | apply pw_below_drewN | apply below_drew1) | exact HB.out)) hb); clear HB; have HB := n0_; clear n0_; (try clear hb); (try clear hb2); (try clear hk); (try clear hi)))
  (try simp only [Act.put, List.setIfInBounds_toArray, List.set_cons_zero, List.set_cons_succ])
  go_cut [26] (fun v26 wc => ∃ (kq : Nat) (x26_3 : Bool), v26 = .bool x26_3 ∧ Aside0 (chartroomref05_Apply.j0 kq a0 l1 x26_3 = some (r1, r2)) ∧ Aside0 (kq ≤ k) ∧ Aside0 (Below w.heap.size w wc))
  case first =>
    have H := HC4.out
    clear HC4
    replace H := Option.bind_eq_some_iff.mp H
    obtain ⟨t1428, A60, H⟩ := H
    replace H : (if t1428 = true then (chartroomref05_Apply.j0 k a0 l1 (t1426 != (a0.size : Int))) else (chartroomref05_Apply.j0 k a0 l1 true)) = some (r1, r2) := H
    have A6 := Aside0.mk A60
    clear A60
    by_cases c7 : t1428 = true
    · subst c7
      have H1 : (chartroomref05_Apply.j0 k a0 l1 (t1426 != (a0.size : Int))) = some (r1, r2) := by rw [if_pos rfl] at H; exact H
      clear H
      have H := H1
      clear H1
      have H' := Aside0.mk H
      clear H
      go_wp2_with (first | ((with_reducible refine gate_callee (f := 114) rfl ?_); refine goesL_ (some 19) rfl rfl Try.func114 (by kernel_rfl) rfl #[.slice A1 l1.length c1] rfl (by (try simp only [List.map_toArray, List.map_cons, List.map_nil]); first | done | rfl | (simp only [List.length_drop, List.length_take]; rfl)) ?_; (with_reducible refine (chartroomref05_Right.calls k _ _ l1 true _ ?side1 ?side2 A6.out).mono ?_); (case side1 => repeat (first | exact (Kd.C_below HR1.out HB.out) | (with_reducible refine Kd.C_alloc ?_ _) | (with_reducible refine Kd.C_drewN ?_ _) | (with_reducible refine Kd.C_drew ?_))); (case side2 => exact HC1.out); rintro e w8 ⟨rfl, hb⟩; refine ⟨_, rfl, ?_⟩; have n0_ := Aside0.mk (below_step (by repeat (first | (with_reducible first | exact HB.out | apply below_alloc | apply pw_below_drewN | apply below_drew1) | exact HB.out)) hb); clear HB; have HB := n0_; clear n0_; (try clear hb); (try clear hb2); (try clear hk); (try clear hi)))
      go_meet
      case rel => exact ⟨_, ((t1426 != (a0.size : Int))), (by first | rfl | (simp; done) | (simp [*]; done)), H', ⟨by first | omega | exact Nat.le_refl _⟩, ⟨by repeat (first | (with_reducible first | exact HB.out | apply below_alloc | apply pw_below_drewN | apply below_drew1) | exact HB.out)⟩⟩
    · replace c7 := Bool.eq_false_iff.mpr c7
      subst c7
      have H1 : (chartroomref05_Apply.j0 k a0 l1 true) = some (r1, r2) := by rw [if_neg (show ¬ (false = true) by decide)] at H; exact H
      clear H
      have H := H1
      clear H1
      have H' := Aside0.mk H
      clear H
      go_wp2_with (first | ((with_reducible refine gate_callee (f := 114) rfl ?_); refine goesL_ (some 19) rfl rfl Try.func114 (by kernel_rfl) rfl #[.slice A1 l1.length c1] rfl (by (try simp only [List.map_toArray, List.map_cons, List.map_nil]); first | done | rfl | (simp only [List.length_drop, List.length_take]; rfl)) ?_; (with_reducible refine (chartroomref05_Right.calls k _ _ l1 false _ ?side1 ?side2 A6.out).mono ?_); (case side1 => repeat (first | exact (Kd.C_below HR1.out HB.out) | (with_reducible refine Kd.C_alloc ?_ _) | (with_reducible refine Kd.C_drewN ?_ _) | (with_reducible refine Kd.C_drew ?_))); (case side2 => exact HC1.out); rintro e w9 ⟨rfl, hb⟩; refine ⟨_, rfl, ?_⟩; have n0_ := Aside0.mk (below_step (by repeat (first | (with_reducible first | exact HB.out | apply below_alloc | apply pw_below_drewN | apply below_drew1) | exact HB.out)) hb); clear HB; have HB := n0_; clear n0_; (try clear hb); (try clear hb2); (try clear hk); (try clear hi)))
      go_meet
      case rel => exact ⟨_, (true), (by first | rfl | (simp; done) | (simp [*]; done)), H', ⟨by first | omega | exact Nat.le_refl _⟩, ⟨by repeat (first | (with_reducible first | exact HB.out | apply below_alloc | apply pw_below_drewN | apply below_drew1) | exact HB.out)⟩⟩
  case rest =>
    clear HC4
    try clear c1
    try clear p2
    try clear c7
    obtain ⟨kq, x26_3, rfl, HA, HJ3, HB⟩ := hcut
    cases kq with
    | zero => exact absurd HA.out (by simp [chartroomref05_Apply.j0])
    | succ kj3 =>
      have H := HA.out
      clear HA
      simp only [chartroomref05_Apply.j0] at H
      by_cases c10 : x26_3 = true
      · subst c10
        have H1 : (some ((⟨#[]⟩ : ByteArray), 50)) = some (r1, r2) := by rw [if_pos rfl] at H; exact H
        clear H
        have H := H1
        clear H1
        simp only [Option.some.injEq, Prod.mk.injEq] at H
        obtain ⟨rfl, rfl⟩ := H
        go_wp2
        go_ret2
        exact ⟨by first | rfl | (simp [errW_none, errW_some] <;> rfl) | (simp [*, errW_none, errW_some] <;> rfl), by repeat (first | (with_reducible first | exact HB.out | apply below_alloc | apply pw_below_drewN | apply below_drew1) | exact HB.out)⟩
      · replace c10 := Bool.eq_false_iff.mpr c10
        subst c10
        have H1 : (chartroomref05_Apply.l0 kj3 a0 l1 ([] : List Int) 0 0) = some (r1, r2) := by rw [if_neg (show ¬ (false = true) by decide)] at H; exact H
        clear H
        have H := H1
        clear H1
        have H' := Aside0.mk H
        clear H
        go_wp2
        go_loopg [8, 9, 10] kj3 (fun kq v8 v9 v10 w' => ∃ (x8_2 : List Int) (x9_2 : Int) (x10_2 : Int), v9 = .int .i64 x9_2 ∧ v10 = .int .i64 x10_2 ∧ Aside0 (chartroomref05_Apply.l0 kq a0 l1 x8_2 x9_2 x10_2 = some (r1, r2)) ∧ Aside0 (kq ≤ kj3) ∧ Aside0 (Kd.R (Kd.int .u8) 5 w' w.heap.size (fun _ => True) v8 x8_2) ∧ Aside0 (Below w.heap.size w w'))
        case atStart => exact ⟨(([] : List Int)), (0), (0), (by first | rfl | (simp; done) | (simp [*]; done)), (by first | rfl | (simp; done) | (simp [*]; done)), H', ⟨Nat.le_refl _⟩, ⟨by first | exact Kd.R_nil _ _ _ _ _ | exact Kd.N_nil _ _ _ _ _ | exact Kd.V_nil _ _ _ _ _ | exact Kd.Q_nil _ _ _ _ _ | exact Kd.S_nil _ _ _ _ _⟩, ⟨by repeat (first | (with_reducible first | exact HB.out | apply below_alloc | apply pw_below_drewN | apply below_drew1) | exact HB.out)⟩⟩
        case round =>
          clear H'
          try clear c1
          try clear p2
          try clear c7
          try clear c10
          try clear p2
          obtain ⟨x8_2, x9_2, x10_2, rfl, rfl, HA, HK2, HO_8, HB⟩ := hrel
          cases gk with
          | zero => exact absurd HA.out (by simp [chartroomref05_Apply.l0])
          | succ k2 =>
            have H := HA.out
            clear HA
            simp only [chartroomref05_Apply.l0] at H
            by_cases c11 : x10_2 < (l1.length : Int)
            · rw [if_pos c11] at H
              have c11b0 : decide (x10_2 < (l1.length : Int)) = true := decide_eq_true c11
              clear c11
              have H' := Aside0.mk H
              clear H
              go_wp2
              go_loopg [8, 9, 11] k2 (fun kq v8 v9 v11 w' => ∃ (x8_3 : List Int) (x9_3 : Int) (x11_3 : Int), v9 = .int .i64 x9_3 ∧ v11 = .int .i64 x11_3 ∧ Aside0 (chartroomref05_Apply.l1 kq a0 l1 x8_3 x9_3 x10_2 x11_3 = some (r1, r2)) ∧ Aside0 (kq ≤ k2) ∧ Aside0 (Kd.R (Kd.int .u8) 5 w' w.heap.size (fun _ => True) v8 x8_3) ∧ Aside0 (Below w.heap.size w w'))
              case atStart => exact ⟨(x8_2), (x9_2), (0), (by first | rfl | (simp; done) | (simp [*]; done)), (by first | rfl | (simp; done) | (simp [*]; done)), H', ⟨Nat.le_refl _⟩, ⟨by (with_reducible repeat (first | apply Kd.R_alloc | apply Kd.R_drewN | apply Kd.R_drew)); exact HO_8.out⟩, ⟨by repeat (first | (with_reducible first | exact HB.out | apply below_alloc | apply pw_below_drewN | apply below_drew1) | exact HB.out)⟩⟩
              case round =>
                clear H'
                try clear c1
                try clear p2
                try clear c7
                try clear c10
                try clear c11
                try clear c11b0
                try clear p2
                obtain ⟨x8_3, x9_3, x11_3, rfl, rfl, HA, HK3, HO_8, HB⟩ := hrel
                cases gk with
                | zero => exact absurd HA.out (by simp [chartroomref05_Apply.l1])
                | succ k3 =>
                  have H := HA.out
                  clear HA
                  simp only [chartroomref05_Apply.l1] at H
                  by_cases c12 : 0 ≤ x10_2
                  · rw [if_pos c12] at H
                    have c12b0 : decide (0 ≤ x10_2) = true := decide_eq_true c12
                    clear c12
                    by_cases c13 : x10_2 < (l1.length : Int)
                    · rw [if_pos c13] at H
                      have c13b0 : decide (x10_2 < (l1.length : Int)) = true := decide_eq_true c13
                      clear c13
                      by_cases c14 : x11_3 < ((rd_T226 l1 x10_2).f1)
                      · rw [if_pos c14] at H
                        have c14b0 : decide (x11_3 < ((rd_T226 l1 x10_2).f1)) = true := decide_eq_true c14
                        clear c14
                        by_cases c15 : ((rd_T226 l1 x10_2).f0) = 1
                        · rw [if_pos c15] at H
                          have c15b0 : (((rd_T226 l1 x10_2).f0) == 1) = true := beq_iff_eq.mpr c15
                          have c15b1 : (((rd_T226 l1 x10_2).f0) != 1) = false := bne_eq_false_iff_eq.mpr c15
                          clear c15
                          by_cases c16 : 0 ≤ x9_3
                          · rw [if_pos c16] at H
                            have c16b0 : decide (0 ≤ x9_3) = true := decide_eq_true c16
                            clear c16
                            by_cases c17 : x9_3 < (a0.size : Int)
                            · rw [if_pos c17] at H
                              have c17b0 : decide (x9_3 < (a0.size : Int)) = true := decide_eq_true c17
                              clear c17
                              by_cases c19 : x8_3.length < 140737488355328
                              · rw [if_pos c19] at H
                                have LMc19 := Aside0.mk c19
                                clear c19
                                obtain ⟨y1431, hy1431⟩ : ∃ y_ : List Int, y_ = (x8_3 ++ [bt a0 x9_3]) := ⟨_, rfl⟩
                                replace H : (chartroomref05_Apply.l1 k3 a0 l1 y1431 (wrap64 (x9_3 + 1)) x10_2 (wrap64 (x11_3 + 1))) = some (r1, r2) := by first | (rw [hy1431]; with_reducible exact H) | (have H2_ := (Option.bind_some _ _).symm.trans H; rw [hy1431]; with_reducible exact H2_) | (have H2_ := (Option.bind_some _ _).symm.trans H; with_reducible exact H2_) | with_reducible exact H | (rw [hy1431]; exact H) | exact H
                                have Ny1431 := Aside0.mk hy1431
                                clear hy1431
                                have H' := Aside0.mk H
                                clear H
                                have p1429 : 0 ≤ (x10_2 : Int) := of_decide_eq_true (by first | (with_reducible assumption) | assumption)
                                have q1429 : x10_2 < (l1.length : Int) := of_decide_eq_true (by first | (with_reducible assumption) | assumption)
                                obtain ⟨ad1429, e1429, hx1429_0, hx1429_1, hx1429_2⟩ := at_T226 HR1.out x10_2 p1429 q1429
                                cases e1429
                                replace hx1429_0 := (HB.out.cell (World.block_lt_of_cell? w _ hx1429_0)).trans hx1429_0
                                replace hx1429_1 := (HB.out.cell (World.block_lt_of_cell? w _ hx1429_1)).trans hx1429_1
                                replace hx1429_2 := (HB.out.cell (World.block_lt_of_cell? w _ hx1429_2)).trans hx1429_2
                                replace p1429 := eq_true p1429
                                replace q1429 := eq_true q1429
                                have p1430 : 0 ≤ (x10_2 : Int) := of_decide_eq_true (by first | (with_reducible assumption) | assumption)
                                have q1430 : x10_2 < (l1.length : Int) := of_decide_eq_true (by first | (with_reducible assumption) | assumption)
                                obtain ⟨ad1430, e1430, hx1430_0, hx1430_1, hx1430_2⟩ := at_T226 HR1.out x10_2 p1430 q1430
                                obtain rfl : ad1429 = ad1430 := (by injection e1430)
                                replace hx1430_0 := (HB.out.cell (World.block_lt_of_cell? w _ hx1430_0)).trans hx1430_0
                                replace hx1430_1 := (HB.out.cell (World.block_lt_of_cell? w _ hx1430_1)).trans hx1430_1
                                replace hx1430_2 := (HB.out.cell (World.block_lt_of_cell? w _ hx1430_2)).trans hx1430_2
                                replace p1430 := eq_true p1430
                                replace q1430 := eq_true q1430
                                have p18 : 0 ≤ (x9_3 : Int) := of_decide_eq_true (by first | (with_reducible assumption) | assumption)
                                have q18 : x9_3 < (a0.size : Int) := of_decide_eq_true (by first | (with_reducible assumption) | assumption)
                                have hx18 := bt_at a0 x9_3
                                replace p18 := eq_true p18
                                replace q18 := eq_true q18
                                go_wp2_with (first | ((with_reducible refine gate_builtin (b := .append) (xs := #[.tmp 48, .tmp 52]) rfl ?_); (try (refine gate_guard (by rfl) ?_; dsimp only)); at_builtin; refine Kd.R_append (Kd.int .u8) (w0 := w) w.heap.size rfl (.tmp 48) (.tmp 52) 24 5 (.int .u8 0) 1 rfl Try.underlying24 info5 rfl (by decide) (by omega) u8 x8_3 (bt a0 x9_3) [.int .u8 (bt a0 x9_3)] (fun _ => True) (fun _ => False) rfl rfl ?aP (fun _ hk => hk.elim) ?aF ?aO ?aB ?aS ?aL ?_; (case aP => exact rfl); (case aB => exact (by repeat (first | (with_reducible first | exact HB.out | apply below_alloc | apply pw_below_drewN | apply below_drew1) | exact HB.out))); (case aF => exact (fun _ _ => trivial)); (case aO => exact (by (with_reducible repeat (first | apply Kd.R_alloc | apply Kd.R_drewN | apply Kd.R_drew)); exact HO_8.out)); (case aS => exact (below_size (by repeat (first | (with_reducible first | exact HB.out | apply below_alloc | apply pw_below_drewN | apply below_drew1) | exact HB.out)))); (case aL => have := LMc19.out; omega); intro v1432 w20 ho hb hg hat; rw [← Ny1431.out] at ho; have n0_ := Aside0.mk (hb); have n1_ := Aside0.mk (ho); clear HB; clear HO_8; have HB := n0_; have HO1433 := n1_; clear n0_ n1_; clear ho hb hg hat))
                                go_roundg k3
                                case measure => have := HJ3.out; have := HK2.out; have := HK3.out; omega
                                case rel => exact ⟨(y1431), (wrap64 (x9_3 + 1)), (wrap64 (x11_3 + 1)), (by first | rfl | (simp; done) | (simp [*]; done)), (by first | rfl | (simp; done) | (simp [*]; done)), H', ⟨by have := HJ3.out; have := HK2.out; have := HK3.out; omega⟩, ⟨by (with_reducible repeat (first | apply Kd.R_alloc | apply Kd.R_drewN | apply Kd.R_drew)); exact HO1433.out⟩, ⟨by repeat (first | (with_reducible first | exact HB.out | apply below_alloc | apply pw_below_drewN | apply below_drew1) | exact HB.out)⟩⟩
                              · rw [if_neg c19] at H
                                exact absurd H (by simp)
                            · rw [if_neg c17] at H
                              exact absurd H (by simp)
                          · rw [if_neg c16] at H
                            exact absurd H (by simp)
                        · rw [if_neg c15] at H
                          have c15b0 : (((rd_T226 l1 x10_2).f0) == 1) = false := beq_eq_false_iff_ne.mpr c15
                          have c15b1 : (((rd_T226 l1 x10_2).f0) != 1) = true := bne_iff_ne.mpr c15
                          have H' := Aside0.mk H
                          clear H
                          have p1429 : 0 ≤ (x10_2 : Int) := of_decide_eq_true (by first | (with_reducible assumption) | assumption)
                          have q1429 : x10_2 < (l1.length : Int) := of_decide_eq_true (by first | (with_reducible assumption) | assumption)
                          obtain ⟨ad1429, e1429, hx1429_0, hx1429_1, hx1429_2⟩ := at_T226 HR1.out x10_2 p1429 q1429
                          cases e1429
                          replace hx1429_0 := (HB.out.cell (World.block_lt_of_cell? w _ hx1429_0)).trans hx1429_0
                          replace hx1429_1 := (HB.out.cell (World.block_lt_of_cell? w _ hx1429_1)).trans hx1429_1
                          replace hx1429_2 := (HB.out.cell (World.block_lt_of_cell? w _ hx1429_2)).trans hx1429_2
                          replace p1429 := eq_true p1429
                          replace q1429 := eq_true q1429
                          have p1430 : 0 ≤ (x10_2 : Int) := of_decide_eq_true (by first | (with_reducible assumption) | assumption)
                          have q1430 : x10_2 < (l1.length : Int) := of_decide_eq_true (by first | (with_reducible assumption) | assumption)
                          obtain ⟨ad1430, e1430, hx1430_0, hx1430_1, hx1430_2⟩ := at_T226 HR1.out x10_2 p1430 q1430
                          obtain rfl : ad1429 = ad1430 := (by injection e1430)
                          replace hx1430_0 := (HB.out.cell (World.block_lt_of_cell? w _ hx1430_0)).trans hx1430_0
                          replace hx1430_1 := (HB.out.cell (World.block_lt_of_cell? w _ hx1430_1)).trans hx1430_1
                          replace hx1430_2 := (HB.out.cell (World.block_lt_of_cell? w _ hx1430_2)).trans hx1430_2
                          replace p1430 := eq_true p1430
                          replace q1430 := eq_true q1430
                          go_wp2
                          go_roundg k3
                          case measure => have := HJ3.out; have := HK2.out; have := HK3.out; omega
                          case rel => exact ⟨(x8_3), (wrap64 (x9_3 + 1)), (wrap64 (x11_3 + 1)), (by first | rfl | (simp; done) | (simp [*]; done)), (by first | rfl | (simp; done) | (simp [*]; done)), H', ⟨by have := HJ3.out; have := HK2.out; have := HK3.out; omega⟩, ⟨by (with_reducible repeat (first | apply Kd.R_alloc | apply Kd.R_drewN | apply Kd.R_drew)); exact HO_8.out⟩, ⟨by repeat (first | (with_reducible first | exact HB.out | apply below_alloc | apply pw_below_drewN | apply below_drew1) | exact HB.out)⟩⟩
                      · rw [if_neg c14] at H
                        have c14b0 : decide (x11_3 < ((rd_T226 l1 x10_2).f1)) = false := decide_eq_false c14
                        clear c14
                        have H' := Aside0.mk H
                        clear H
                        have p1429 : 0 ≤ (x10_2 : Int) := of_decide_eq_true (by first | (with_reducible assumption) | assumption)
                        have q1429 : x10_2 < (l1.length : Int) := of_decide_eq_true (by first | (with_reducible assumption) | assumption)
                        obtain ⟨ad1429, e1429, hx1429_0, hx1429_1, hx1429_2⟩ := at_T226 HR1.out x10_2 p1429 q1429
                        cases e1429
                        replace hx1429_0 := (HB.out.cell (World.block_lt_of_cell? w _ hx1429_0)).trans hx1429_0
                        replace hx1429_1 := (HB.out.cell (World.block_lt_of_cell? w _ hx1429_1)).trans hx1429_1
                        replace hx1429_2 := (HB.out.cell (World.block_lt_of_cell? w _ hx1429_2)).trans hx1429_2
                        replace p1429 := eq_true p1429
                        replace q1429 := eq_true q1429
                        go_wp2
                        go_loopg [8, 12] k3 (fun kq v8 v12 w' => ∃ (x8_4 : List Int) (x12_4 : Int), v12 = .int .i64 x12_4 ∧ Aside0 (chartroomref05_Apply.l2 kq a0 l1 x8_4 x9_3 x10_2 x12_4 = some (r1, r2)) ∧ Aside0 (kq ≤ k3) ∧ Aside0 (Kd.R (Kd.int .u8) 5 w' w.heap.size (fun _ => True) v8 x8_4) ∧ Aside0 (Below w.heap.size w w'))
                        case atStart => exact ⟨(x8_3), (0), (by first | rfl | (simp; done) | (simp [*]; done)), H', ⟨Nat.le_refl _⟩, ⟨by (with_reducible repeat (first | apply Kd.R_alloc | apply Kd.R_drewN | apply Kd.R_drew)); exact HO_8.out⟩, ⟨by repeat (first | (with_reducible first | exact HB.out | apply below_alloc | apply pw_below_drewN | apply below_drew1) | exact HB.out)⟩⟩
                        case round =>
                          clear H'
                          try clear c1
                          try clear p1
                          try clear q1
                          try clear hx1
                          try clear p2
                          try clear p6
                          try clear c7
                          try clear c10
                          try clear c11
                          try clear c11b0
                          try clear c12
                          try clear c12b0
                          try clear c13
                          try clear c13b0
                          try clear c14
                          try clear c14b0
                          try clear p14
                          try clear q14
                          try clear hx14
                          try clear c15
                          try clear c15b0
                          try clear c15b1
                          try clear c16
                          try clear c16b0
                          try clear c17
                          try clear c17b0
                          try clear p18
                          try clear q18
                          try clear hx18
                          try clear c19
                          try clear hx1429_0
                          try clear hx1429_1
                          try clear hx1429_2
                          try clear hx1430_0
                          try clear hx1430_1
                          try clear hx1430_2
                          try clear p1429
                          try clear p1430
                          try clear p18
                          try clear p2
                          try clear q1429
                          try clear q1430
                          try clear q18
                          obtain ⟨x8_4, x12_4, rfl, HA, HK4, HO_8, HB⟩ := hrel
                          cases gk with
                          | zero => exact absurd HA.out (by simp [chartroomref05_Apply.l2])
                          | succ k4 =>
                            have H := HA.out
                            clear HA
                            simp only [chartroomref05_Apply.l2] at H
                            by_cases c21 : 0 ≤ x10_2
                            · rw [if_pos c21] at H
                              have c21b0 : decide (0 ≤ x10_2) = true := decide_eq_true c21
                              clear c21
                              by_cases c22 : x10_2 < (l1.length : Int)
                              · rw [if_pos c22] at H
                                have c22b0 : decide (x10_2 < (l1.length : Int)) = true := decide_eq_true c22
                                clear c22
                                by_cases c23 : x12_4 < (((rd_T226 l1 x10_2).f2).size : Int)
                                · rw [if_pos c23] at H
                                  have c23b0 : decide (x12_4 < (((rd_T226 l1 x10_2).f2).size : Int)) = true := decide_eq_true c23
                                  clear c23
                                  by_cases c24 : 0 ≤ x12_4
                                  · rw [if_pos c24] at H
                                    have c24b0 : decide (0 ≤ x12_4) = true := decide_eq_true c24
                                    clear c24
                                    by_cases c26 : x8_4.length < 140737488355328
                                    · rw [if_pos c26] at H
                                      have LMc26 := Aside0.mk c26
                                      clear c26
                                      obtain ⟨y1436, hy1436⟩ : ∃ y_ : List Int, y_ = (x8_4 ++ [bt ((rd_T226 l1 x10_2).f2) x12_4]) := ⟨_, rfl⟩
                                      replace H : (chartroomref05_Apply.l2 k4 a0 l1 y1436 x9_3 x10_2 (wrap64 (x12_4 + 1))) = some (r1, r2) := by first | (rw [hy1436]; with_reducible exact H) | (have H2_ := (Option.bind_some _ _).symm.trans H; rw [hy1436]; with_reducible exact H2_) | (have H2_ := (Option.bind_some _ _).symm.trans H; with_reducible exact H2_) | with_reducible exact H | (rw [hy1436]; exact H) | exact H
                                      have Ny1436 := Aside0.mk hy1436
                                      clear hy1436
                                      have H' := Aside0.mk H
                                      clear H
                                      have p1434 : 0 ≤ (x10_2 : Int) := of_decide_eq_true (by first | (with_reducible assumption) | assumption)
                                      have q1434 : x10_2 < (l1.length : Int) := of_decide_eq_true (by first | (with_reducible assumption) | assumption)
                                      obtain ⟨ad1434, e1434, hx1434_0, hx1434_1, hx1434_2⟩ := at_T226 HR1.out x10_2 p1434 q1434
                                      obtain rfl : ad1429 = ad1434 := (by injection e1434)
                                      replace hx1434_0 := (HB.out.cell (World.block_lt_of_cell? w _ hx1434_0)).trans hx1434_0
                                      replace hx1434_1 := (HB.out.cell (World.block_lt_of_cell? w _ hx1434_1)).trans hx1434_1
                                      replace hx1434_2 := (HB.out.cell (World.block_lt_of_cell? w _ hx1434_2)).trans hx1434_2
                                      replace p1434 := eq_true p1434
                                      replace q1434 := eq_true q1434
                                      have p1435 : 0 ≤ (x10_2 : Int) := of_decide_eq_true (by first | (with_reducible assumption) | assumption)
                                      have q1435 : x10_2 < (l1.length : Int) := of_decide_eq_true (by first | (with_reducible assumption) | assumption)
                                      obtain ⟨ad1435, e1435, hx1435_0, hx1435_1, hx1435_2⟩ := at_T226 HR1.out x10_2 p1435 q1435
                                      obtain rfl : ad1429 = ad1435 := (by injection e1435)
                                      replace hx1435_0 := (HB.out.cell (World.block_lt_of_cell? w _ hx1435_0)).trans hx1435_0
                                      replace hx1435_1 := (HB.out.cell (World.block_lt_of_cell? w _ hx1435_1)).trans hx1435_1
                                      replace hx1435_2 := (HB.out.cell (World.block_lt_of_cell? w _ hx1435_2)).trans hx1435_2
                                      replace p1435 := eq_true p1435
                                      replace q1435 := eq_true q1435
                                      have p25 : 0 ≤ (x12_4 : Int) := of_decide_eq_true (by first | (with_reducible assumption) | assumption)
                                      have q25 : x12_4 < (((rd_T226 l1 x10_2).f2).size : Int) := of_decide_eq_true (by first | (with_reducible assumption) | assumption)
                                      have hx25 := bt_at ((rd_T226 l1 x10_2).f2) x12_4
                                      replace p25 := eq_true p25
                                      replace q25 := eq_true q25
                                      go_wp2_with (first | ((with_reducible refine gate_builtin (b := .append) (xs := #[.tmp 66, .tmp 74]) rfl ?_); (try (refine gate_guard (by rfl) ?_; dsimp only)); at_builtin; refine Kd.R_append (Kd.int .u8) (w0 := w) w.heap.size rfl (.tmp 66) (.tmp 74) 24 5 (.int .u8 0) 1 rfl Try.underlying24 info5 rfl (by decide) (by omega) u8 x8_4 (bt ((rd_T226 l1 x10_2).f2) x12_4) [.int .u8 (bt ((rd_T226 l1 x10_2).f2) x12_4)] (fun _ => True) (fun _ => False) rfl rfl ?aP (fun _ hk => hk.elim) ?aF ?aO ?aB ?aS ?aL ?_; (case aP => exact rfl); (case aB => exact (by repeat (first | (with_reducible first | exact HB.out | apply below_alloc | apply pw_below_drewN | apply below_drew1) | exact HB.out))); (case aF => exact (fun _ _ => trivial)); (case aO => exact (by (with_reducible repeat (first | apply Kd.R_alloc | apply Kd.R_drewN | apply Kd.R_drew)); exact HO_8.out)); (case aS => exact (below_size (by repeat (first | (with_reducible first | exact HB.out | apply below_alloc | apply pw_below_drewN | apply below_drew1) | exact HB.out)))); (case aL => have := LMc26.out; omega); intro v1437 w27 ho hb hg hat; rw [← Ny1436.out] at ho; have n0_ := Aside0.mk (hb); have n1_ := Aside0.mk (ho); clear HB; clear HO_8; have HB := n0_; have HO1438 := n1_; clear n0_ n1_; clear ho hb hg hat))
                                      go_roundg k4
                                      case measure => have := HJ3.out; have := HK2.out; have := HK3.out; have := HK4.out; omega
                                      case rel => exact ⟨(y1436), (wrap64 (x12_4 + 1)), (by first | rfl | (simp; done) | (simp [*]; done)), H', ⟨by have := HJ3.out; have := HK2.out; have := HK3.out; have := HK4.out; omega⟩, ⟨by (with_reducible repeat (first | apply Kd.R_alloc | apply Kd.R_drewN | apply Kd.R_drew)); exact HO1438.out⟩, ⟨by repeat (first | (with_reducible first | exact HB.out | apply below_alloc | apply pw_below_drewN | apply below_drew1) | exact HB.out)⟩⟩
                                    · rw [if_neg c26] at H
                                      exact absurd H (by simp)
                                  · rw [if_neg c24] at H
                                    exact absurd H (by simp)
                                · rw [if_neg c23] at H
                                  have c23b0 : decide (x12_4 < (((rd_T226 l1 x10_2).f2).size : Int)) = false := decide_eq_false c23
                                  clear c23
                                  have H' := Aside0.mk H
                                  clear H
                                  have p1434 : 0 ≤ (x10_2 : Int) := of_decide_eq_true (by first | (with_reducible assumption) | assumption)
                                  have q1434 : x10_2 < (l1.length : Int) := of_decide_eq_true (by first | (with_reducible assumption) | assumption)
                                  obtain ⟨ad1434, e1434, hx1434_0, hx1434_1, hx1434_2⟩ := at_T226 HR1.out x10_2 p1434 q1434
                                  obtain rfl : ad1429 = ad1434 := (by injection e1434)
                                  replace hx1434_0 := (HB.out.cell (World.block_lt_of_cell? w _ hx1434_0)).trans hx1434_0
                                  replace hx1434_1 := (HB.out.cell (World.block_lt_of_cell? w _ hx1434_1)).trans hx1434_1
                                  replace hx1434_2 := (HB.out.cell (World.block_lt_of_cell? w _ hx1434_2)).trans hx1434_2
                                  replace p1434 := eq_true p1434
                                  replace q1434 := eq_true q1434
                                  go_wp2
                                  go_roundg k4
                                  case measure => have := HJ3.out; have := HK2.out; have := HK3.out; have := HK4.out; omega
                                  case rel => exact ⟨(x8_4), (x9_3), (wrap64 (x10_2 + 1)), (by first | rfl | (simp; done) | (simp [*]; done)), (by first | rfl | (simp; done) | (simp [*]; done)), H', ⟨by have := HJ3.out; have := HK2.out; have := HK3.out; have := HK4.out; omega⟩, ⟨by (with_reducible repeat (first | apply Kd.R_alloc | apply Kd.R_drewN | apply Kd.R_drew)); exact HO_8.out⟩, ⟨by repeat (first | (with_reducible first | exact HB.out | apply below_alloc | apply pw_below_drewN | apply below_drew1) | exact HB.out)⟩⟩
                              · rw [if_neg c22] at H
                                exact absurd H (by simp)
                            · rw [if_neg c21] at H
                              exact absurd H (by simp)
                    · rw [if_neg c13] at H
                      exact absurd H (by simp)
                  · rw [if_neg c12] at H
                    exact absurd H (by simp)
            · rw [if_neg c11] at H
              have c11b0 : decide (x10_2 < (l1.length : Int)) = false := decide_eq_false c11
              clear c11
              simp only [Option.some.injEq, Prod.mk.injEq] at H
              obtain ⟨rfl, rfl⟩ := H
              have hcv28 := own_string (P := Try.prog) Try.underlying24 Try.underlying5 Try.underlying9 (Kd.own_of_R HO_8.out)
              go_wp2
              go_ret2
              exact ⟨by first | rfl | (simp [errW_none, errW_some] <;> rfl) | (simp [*, errW_none, errW_some] <;> rfl), by repeat (first | (with_reducible first | exact HB.out | apply below_alloc | apply pw_below_drewN | apply below_drew1) | exact HB.out)⟩
/-! ### chartroomref05_Put: function 111 -/
def chartroomref05_Put.l0 : Nat → List (S226) → List Int → Int → Option (List Int × Int)
  | 0, _, _, _ => none
  | k + 1, x0, x4, x5 => if x5 < (x0.length : Int) then (if 0 ≤ x5 then (if x4.length < 140737488355328 then ((some (x4 ++ [(rd_T226 x0 x5).f0] : List Int)).bind fun y2062 => (if ((rd_T226 x0 x5).f0) = 2 then ((chartroomref01_Text.f k ((rd_T226 x0 x5).f2)).bind fun t2067 => (if y2062.length + t2067.length < 140737488355328 then (chartroomref05_Put.l0 k x0 (y2062 ++ t2067) (wrap64 (x5 + 1))) else (none))) else ((chartroomref01_Put.f k (IntKind.u64.wrap ((rd_T226 x0 x5).f1))).bind fun t2074 => (if y2062.length + t2074.length < 140737488355328 then (chartroomref05_Put.l0 k x0 (y2062 ++ t2074) (wrap64 (x5 + 1))) else (none))))) else (none)) else (none)) else (some (x4, 0))
def chartroomref05_Put.f (k : Nat) (l0 : List (S226)) : Option (List Int × Int) := (chartroomref05_Right.f k l0).bind fun t2060 => (if t2060 = true then (chartroomref05_Put.l0 k l0 ([] : List Int) 0) else (some (([] : List Int), 2)))
set_option maxHeartbeats 8000000 in
set_option maxRecDepth 100000 in
theorem chartroomref05_Put.calls (k : Nat) (A0 : Option Addr) (c0 : Nat) (l0 : List (S226)) (r1 : List Int) (r2 : Int) (w : World) (hr0 : Kd.C k226 w A0 l0.length l0) (hc0 : l0.length ≤ c0) (h : chartroomref05_Put.f k l0 = some (r1, r2)) :
    Calls Try.prog 111 #[.slice A0 l0.length c0] w fun e w' => ∃ v0_ : Value, e = .returned (.tuple #[v0_, .int .i64 r2]) ∧ Kd.R (Kd.int .u8) 5 w' w.heap.size (fun _ => True) v0_ r1 ∧ Below w.heap.size w w' := by
  have HR0 := Aside0.mk hr0
  have HC0 := Aside0.mk hc0
  clear hr0 hc0
  have HB := Aside0.mk (Below.refl w.heap.size w)
  have H : ((chartroomref05_Right.f k l0).bind fun t2060 => (if t2060 = true then (chartroomref05_Put.l0 k l0 ([] : List Int) 0) else (some (([] : List Int), 2)))) = some (r1, r2) := h
  clear h
  replace H := Option.bind_eq_some_iff.mp H
  obtain ⟨t2060, A20, H⟩ := H
  replace H : (if t2060 = true then (chartroomref05_Put.l0 k l0 ([] : List Int) 0) else (some (([] : List Int), 2))) = some (r1, r2) := H
  have A2 := Aside0.mk A20
  clear A20
  by_cases c3 : t2060 = true
  · subst c3
    have H1 : (chartroomref05_Put.l0 k l0 ([] : List Int) 0) = some (r1, r2) := by rw [if_pos rfl] at H; exact H
    clear H
    have H := H1
    clear H1
    have H' := Aside0.mk H
    clear H
    go_enter Try.func111, Try.ntmps111
    go_wp2_with (first | ((with_reducible refine gate_callee (f := 114) rfl ?_); refine goesL_ (some 7) rfl rfl Try.func114 (by kernel_rfl) rfl #[.slice A0 l0.length c0] rfl (by (try simp only [List.map_toArray, List.map_cons, List.map_nil]); first | done | rfl | (simp only [List.length_drop, List.length_take]; rfl)) ?_; (with_reducible refine (chartroomref05_Right.calls k _ _ l0 true _ ?side1 ?side2 A2.out).mono ?_); (case side1 => repeat (first | exact HR0.out | (with_reducible refine Kd.C_alloc ?_ _) | (with_reducible refine Kd.C_drewN ?_ _) | (with_reducible refine Kd.C_drew ?_))); (case side2 => exact HC0.out); rintro e w4 ⟨rfl, hb⟩; refine ⟨_, rfl, ?_⟩; have n0_ := Aside0.mk (below_step (by repeat (first | (with_reducible first | exact HB.out | apply below_alloc | apply pw_below_drewN | apply below_drew1) | exact HB.out)) hb); clear HB; have HB := n0_; clear n0_; (try clear hb); (try clear hb2); (try clear hk); (try clear hi)))
    go_loopg [4, 5] k (fun kq v4 v5 w' => ∃ (x4_1 : List Int) (x5_1 : Int), v5 = .int .i64 x5_1 ∧ Aside0 (chartroomref05_Put.l0 kq l0 x4_1 x5_1 = some (r1, r2)) ∧ Aside0 (kq ≤ k) ∧ Aside0 (Kd.R (Kd.int .u8) 5 w' w.heap.size (fun _ => True) v4 x4_1) ∧ Aside0 (Below w.heap.size w w'))
    case atStart => exact ⟨(([] : List Int)), (0), (by first | rfl | (simp; done) | (simp [*]; done)), H', ⟨Nat.le_refl _⟩, ⟨by first | exact Kd.R_nil _ _ _ _ _ | exact Kd.N_nil _ _ _ _ _ | exact Kd.V_nil _ _ _ _ _ | exact Kd.Q_nil _ _ _ _ _ | exact Kd.S_nil _ _ _ _ _⟩, ⟨by repeat (first | (with_reducible first | exact HB.out | apply below_alloc | apply pw_below_drewN | apply below_drew1) | exact HB.out)⟩⟩
    case round =>
      clear H'
      try clear c1
      try clear p2
      try clear c3
      obtain ⟨x4_1, x5_1, rfl, HA, HK1, HO_4, HB⟩ := hrel
      cases gk with
      | zero => exact absurd HA.out (by simp [chartroomref05_Put.l0])
      | succ k1 =>
        have H := HA.out
        clear HA
        simp only [chartroomref05_Put.l0] at H
        by_cases c5 : x5_1 < (l0.length : Int)
        · rw [if_pos c5] at H
          have c5b0 : decide (x5_1 < (l0.length : Int)) = true := decide_eq_true c5
          clear c5
          by_cases c6 : 0 ≤ x5_1
          · rw [if_pos c6] at H
            have c6b0 : decide (0 ≤ x5_1) = true := decide_eq_true c6
            clear c6
            by_cases c7 : x4_1.length < 140737488355328
            · rw [if_pos c7] at H
              have LMc7 := Aside0.mk c7
              clear c7
              obtain ⟨y2062, hy2062⟩ : ∃ y_ : List Int, y_ = (x4_1 ++ [(rd_T226 l0 x5_1).f0]) := ⟨_, rfl⟩
              replace H : (if ((rd_T226 l0 x5_1).f0) = 2 then ((chartroomref01_Text.f k1 ((rd_T226 l0 x5_1).f2)).bind fun t2067 => (if y2062.length + t2067.length < 140737488355328 then (chartroomref05_Put.l0 k1 l0 (y2062 ++ t2067) (wrap64 (x5_1 + 1))) else (none))) else ((chartroomref01_Put.f k1 (IntKind.u64.wrap ((rd_T226 l0 x5_1).f1))).bind fun t2074 => (if y2062.length + t2074.length < 140737488355328 then (chartroomref05_Put.l0 k1 l0 (y2062 ++ t2074) (wrap64 (x5_1 + 1))) else (none)))) = some (r1, r2) := by first | (rw [hy2062]; with_reducible exact H) | (have H2_ := (Option.bind_some _ _).symm.trans H; rw [hy2062]; with_reducible exact H2_) | (have H2_ := (Option.bind_some _ _).symm.trans H; with_reducible exact H2_) | with_reducible exact H | (rw [hy2062]; exact H) | exact H
              have Ny2062 := Aside0.mk hy2062
              clear hy2062
              by_cases c8 : ((rd_T226 l0 x5_1).f0) = 2
              · rw [if_pos c8] at H
                have c8b0 : (((rd_T226 l0 x5_1).f0) == 2) = true := beq_iff_eq.mpr c8
                have c8b1 : (((rd_T226 l0 x5_1).f0) != 2) = false := bne_eq_false_iff_eq.mpr c8
                clear c8
                replace H := Option.bind_eq_some_iff.mp H
                obtain ⟨t2067, A90, H⟩ := H
                replace H : (if y2062.length + t2067.length < 140737488355328 then (chartroomref05_Put.l0 k1 l0 (y2062 ++ t2067) (wrap64 (x5_1 + 1))) else (none)) = some (r1, r2) := H
                have A9 := Aside0.mk A90
                clear A90
                by_cases c10 : y2062.length + t2067.length < 140737488355328
                · rw [if_pos c10] at H
                  have LMc10 := Aside0.mk c10
                  clear c10
                  obtain ⟨y2070, hy2070⟩ : ∃ y_ : List Int, y_ = (y2062 ++ t2067) := ⟨_, rfl⟩
                  replace H : (chartroomref05_Put.l0 k1 l0 y2070 (wrap64 (x5_1 + 1))) = some (r1, r2) := by first | (rw [hy2070]; with_reducible exact H) | (have H2_ := (Option.bind_some _ _).symm.trans H; rw [hy2070]; with_reducible exact H2_) | (have H2_ := (Option.bind_some _ _).symm.trans H; with_reducible exact H2_) | with_reducible exact H | (rw [hy2070]; exact H) | exact H
                  have Ny2070 := Aside0.mk hy2070
                  clear hy2070
                  have H' := Aside0.mk H
                  clear H
                  have p2061 : 0 ≤ (x5_1 : Int) := of_decide_eq_true (by first | (with_reducible assumption) | assumption)
                  have q2061 : x5_1 < (l0.length : Int) := of_decide_eq_true (by first | (with_reducible assumption) | assumption)
                  obtain ⟨ad2061, e2061, hx2061_0, hx2061_1, hx2061_2⟩ := at_T226 HR0.out x5_1 p2061 q2061
                  cases e2061
                  replace hx2061_0 := (HB.out.cell (World.block_lt_of_cell? w _ hx2061_0)).trans hx2061_0
                  replace hx2061_1 := (HB.out.cell (World.block_lt_of_cell? w _ hx2061_1)).trans hx2061_1
                  replace hx2061_2 := (HB.out.cell (World.block_lt_of_cell? w _ hx2061_2)).trans hx2061_2
                  replace p2061 := eq_true p2061
                  replace q2061 := eq_true q2061
                  go_wp2_with (first | ((with_reducible refine gate_builtin (b := .append) (xs := #[.tmp 15, .tmp 21]) rfl ?_); at_builtin; refine Kd.R_append (Kd.int .u8) (w0 := w) w.heap.size rfl (.tmp 15) (.tmp 21) 24 5 (.int .u8 0) 1 rfl Try.underlying24 info5 rfl (by decide) (by omega) u4 x4_1 ((rd_T226 l0 x5_1).f0) [.int .u8 ((rd_T226 l0 x5_1).f0)] (fun _ => True) (fun _ => False) rfl rfl ?aP (fun _ hk => hk.elim) ?aF ?aO ?aB ?aS ?aL ?_; (case aP => exact rfl); (case aB => exact (by repeat (first | (with_reducible first | exact HB.out | apply below_alloc | apply pw_below_drewN | apply below_drew1) | exact HB.out))); (case aF => exact (fun _ _ => trivial)); (case aO => exact (by (with_reducible repeat (first | apply Kd.R_alloc | apply Kd.R_drewN | apply Kd.R_drew)); exact HO_4.out)); (case aS => exact (below_size (by repeat (first | (with_reducible first | exact HB.out | apply below_alloc | apply pw_below_drewN | apply below_drew1) | exact HB.out)))); (case aL => have := LMc7.out; omega); intro v2063 w11 ho hb hg hat; rw [← Ny2062.out] at ho; have n0_ := Aside0.mk (hb); have n1_ := Aside0.mk (ho); clear HB; clear HO_4; have HB := n0_; have HO2064 := n1_; clear n0_ n1_; clear ho hb hg hat; have p2065 : 0 ≤ (x5_1 : Int) := of_decide_eq_true (by first | (with_reducible assumption) | assumption); have q2065 : x5_1 < (l0.length : Int) := of_decide_eq_true (by first | (with_reducible assumption) | assumption); obtain ⟨ad2065, e2065, hx2065_0, hx2065_1, hx2065_2⟩ := at_T226 HR0.out x5_1 p2065 q2065; obtain rfl : ad2061 = ad2065 := (by injection e2065); replace hx2065_0 := (HB.out.cell (World.block_lt_of_cell? w _ hx2065_0)).trans hx2065_0; replace hx2065_1 := (HB.out.cell (World.block_lt_of_cell? w _ hx2065_1)).trans hx2065_1; replace hx2065_2 := (HB.out.cell (World.block_lt_of_cell? w _ hx2065_2)).trans hx2065_2; replace p2065 := eq_true p2065; replace q2065 := eq_true q2065; have p2066 : 0 ≤ (x5_1 : Int) := of_decide_eq_true (by first | (with_reducible assumption) | assumption); have q2066 : x5_1 < (l0.length : Int) := of_decide_eq_true (by first | (with_reducible assumption) | assumption); obtain ⟨ad2066, e2066, hx2066_0, hx2066_1, hx2066_2⟩ := at_T226 HR0.out x5_1 p2066 q2066; obtain rfl : ad2061 = ad2066 := (by injection e2066); replace hx2066_0 := (HB.out.cell (World.block_lt_of_cell? w _ hx2066_0)).trans hx2066_0; replace hx2066_1 := (HB.out.cell (World.block_lt_of_cell? w _ hx2066_1)).trans hx2066_1; replace hx2066_2 := (HB.out.cell (World.block_lt_of_cell? w _ hx2066_2)).trans hx2066_2; replace p2066 := eq_true p2066; replace q2066 := eq_true q2066) | ((with_reducible refine gate_callee (f := 34) rfl ?_); refine goesL_ (some 35) rfl rfl Try.func34 (by kernel_rfl) rfl #[.string ((rd_T226 l0 x5_1).f2)] rfl (by (try simp only [List.map_toArray, List.map_cons, List.map_nil]); first | done | rfl | (simp only [List.length_drop, List.length_take]; rfl)) ?_; (with_reducible refine (chartroomref01_Text.calls k1 ((rd_T226 l0 x5_1).f2) t2067 _ A9.out).mono ?_); rintro e w12 ⟨v2068, rfl, ho0, hb⟩; refine ⟨_, rfl, ?_⟩; have n0_ := Aside0.mk (Kd.R_elder' (by (with_reducible repeat (first | apply Kd.R_alloc | apply Kd.R_drewN | apply Kd.R_drew)); exact HO2064.out) (Kd.R_base ho0) hb); have n1_ := Aside0.mk (Kd.R_lower (Kd.R_new' ho0 (Kd.R_lt (by (with_reducible repeat (first | apply Kd.R_alloc | apply Kd.R_drewN | apply Kd.R_drew)); exact HO2064.out))) (below_size (by repeat (first | (with_reducible first | exact HB.out | apply below_alloc | apply pw_below_drewN | apply below_drew1) | exact HB.out)))); have n2_ := Aside0.mk (below_step (by repeat (first | (with_reducible first | exact HB.out | apply below_alloc | apply pw_below_drewN | apply below_drew1) | exact HB.out)) hb); clear HO2064; clear HB; have HO2064 := n0_; have HO2069 := n1_; have HB := n2_; clear n0_ n1_ n2_; (try clear hb); (try clear hb2); (try clear hk); (try clear hi); (try clear ho0); obtain ⟨Ao14, co14, eo14⟩ := Kd.R_slice HO2069.out; subst eo14) | ((with_reducible refine gate_builtin (b := .append) (xs := #[.tmp 29, .tmp 35]) rfl ?_); at_builtin; refine Kd.R_append_rows (Kd.int .u8) (w0 := w) w.heap.size rfl (.tmp 29) (.tmp 35) 24 5 (.int .u8 0) 1 rfl Try.underlying24 info5 rfl (by decide) (by omega) v2063 y2062 t2067 _ _ _ (fun k_ => some k_ ≠ (.slice Ao14 t2067.length co14 : Value).ownBlock) (fun _ => False) rfl rfl ?aO ?aR (fun _ _ h => h) (fun _ h => h.elim) ?aF ?aB ?aS ?aL ?_; (case aR => repeat (first | exact (Kd.R_reads' HO2069.out).2.2 | (with_reducible refine Kd.C_alloc ?_ _) | (with_reducible refine Kd.C_drewN ?_ _) | (with_reducible refine Kd.C_drew ?_))); (case aB => exact (by repeat (first | (with_reducible first | exact HB.out | apply below_alloc | apply pw_below_drewN | apply below_drew1) | exact HB.out))); (case aF => exact (fun k_ hk => Kd.fresh' (Kd.R_lt (by (with_reducible repeat (first | apply Kd.R_alloc | apply Kd.R_drewN | apply Kd.R_drew)); exact HO2069.out)) k_ hk)); (case aO => exact (by (with_reducible repeat (first | apply Kd.R_alloc | apply Kd.R_drewN | apply Kd.R_drew)); exact Kd.R_mono HO2064.out (fun _ hk => hk.2))); (case aS => exact (below_size (by repeat (first | (with_reducible first | exact HB.out | apply below_alloc | apply pw_below_drewN | apply below_drew1) | exact HB.out)))); (case aL => have := LMc10.out; omega); intro v2071 w13 ho hb hg hat; rw [← Ny2070.out] at ho; have n0_ := Aside0.mk (Kd.R_after (ok := (fun _ => True)) (by (with_reducible repeat (first | apply Kd.R_alloc | apply Kd.R_drewN | apply Kd.R_drew)); exact HO2069.out) hg hat); have n1_ := Aside0.mk (hb); have n2_ := Aside0.mk (ho); clear HO2069; clear HB; clear HO2064; have HO2069 := n0_; have HB := n1_; have HO2072 := n2_; clear n0_ n1_ n2_; clear ho hb hg hat))
                  go_roundg k1
                  case measure => have := HK1.out; omega
                  case rel => exact ⟨(y2070), (wrap64 (x5_1 + 1)), (by first | rfl | (simp; done) | (simp [*]; done)), H', ⟨by have := HK1.out; omega⟩, ⟨by (with_reducible repeat (first | apply Kd.R_alloc | apply Kd.R_drewN | apply Kd.R_drew)); exact Kd.R_mono HO2072.out (fun _ hk => trivial)⟩, ⟨by repeat (first | (with_reducible first | exact HB.out | apply below_alloc | apply pw_below_drewN | apply below_drew1) | exact HB.out)⟩⟩
                · rw [if_neg c10] at H
                  exact absurd H (by simp)
              · rw [if_neg c8] at H
                have c8b0 : (((rd_T226 l0 x5_1).f0) == 2) = false := beq_eq_false_iff_ne.mpr c8
                have c8b1 : (((rd_T226 l0 x5_1).f0) != 2) = true := bne_iff_ne.mpr c8
                replace H := Option.bind_eq_some_iff.mp H
                obtain ⟨t2074, A150, H⟩ := H
                replace H : (if y2062.length + t2074.length < 140737488355328 then (chartroomref05_Put.l0 k1 l0 (y2062 ++ t2074) (wrap64 (x5_1 + 1))) else (none)) = some (r1, r2) := H
                have A15 := Aside0.mk A150
                clear A150
                by_cases c16 : y2062.length + t2074.length < 140737488355328
                · rw [if_pos c16] at H
                  have LMc16 := Aside0.mk c16
                  clear c16
                  obtain ⟨y2077, hy2077⟩ : ∃ y_ : List Int, y_ = (y2062 ++ t2074) := ⟨_, rfl⟩
                  replace H : (chartroomref05_Put.l0 k1 l0 y2077 (wrap64 (x5_1 + 1))) = some (r1, r2) := by first | (rw [hy2077]; with_reducible exact H) | (have H2_ := (Option.bind_some _ _).symm.trans H; rw [hy2077]; with_reducible exact H2_) | (have H2_ := (Option.bind_some _ _).symm.trans H; with_reducible exact H2_) | with_reducible exact H | (rw [hy2077]; exact H) | exact H
                  have Ny2077 := Aside0.mk hy2077
                  clear hy2077
                  have H' := Aside0.mk H
                  clear H
                  have p2061 : 0 ≤ (x5_1 : Int) := of_decide_eq_true (by first | (with_reducible assumption) | assumption)
                  have q2061 : x5_1 < (l0.length : Int) := of_decide_eq_true (by first | (with_reducible assumption) | assumption)
                  obtain ⟨ad2061, e2061, hx2061_0, hx2061_1, hx2061_2⟩ := at_T226 HR0.out x5_1 p2061 q2061
                  cases e2061
                  replace hx2061_0 := (HB.out.cell (World.block_lt_of_cell? w _ hx2061_0)).trans hx2061_0
                  replace hx2061_1 := (HB.out.cell (World.block_lt_of_cell? w _ hx2061_1)).trans hx2061_1
                  replace hx2061_2 := (HB.out.cell (World.block_lt_of_cell? w _ hx2061_2)).trans hx2061_2
                  replace p2061 := eq_true p2061
                  replace q2061 := eq_true q2061
                  go_wp2_with (first | ((with_reducible refine gate_builtin (b := .append) (xs := #[.tmp 15, .tmp 21]) rfl ?_); at_builtin; refine Kd.R_append (Kd.int .u8) (w0 := w) w.heap.size rfl (.tmp 15) (.tmp 21) 24 5 (.int .u8 0) 1 rfl Try.underlying24 info5 rfl (by decide) (by omega) u4 x4_1 ((rd_T226 l0 x5_1).f0) [.int .u8 ((rd_T226 l0 x5_1).f0)] (fun _ => True) (fun _ => False) rfl rfl ?aP (fun _ hk => hk.elim) ?aF ?aO ?aB ?aS ?aL ?_; (case aP => exact rfl); (case aB => exact (by repeat (first | (with_reducible first | exact HB.out | apply below_alloc | apply pw_below_drewN | apply below_drew1) | exact HB.out))); (case aF => exact (fun _ _ => trivial)); (case aO => exact (by (with_reducible repeat (first | apply Kd.R_alloc | apply Kd.R_drewN | apply Kd.R_drew)); exact HO_4.out)); (case aS => exact (below_size (by repeat (first | (with_reducible first | exact HB.out | apply below_alloc | apply pw_below_drewN | apply below_drew1) | exact HB.out)))); (case aL => have := LMc7.out; omega); intro v2063 w17 ho hb hg hat; rw [← Ny2062.out] at ho; have n0_ := Aside0.mk (hb); have n1_ := Aside0.mk (ho); clear HB; clear HO_4; have HB := n0_; have HO2064 := n1_; clear n0_ n1_; clear ho hb hg hat; have p2065 : 0 ≤ (x5_1 : Int) := of_decide_eq_true (by first | (with_reducible assumption) | assumption); have q2065 : x5_1 < (l0.length : Int) := of_decide_eq_true (by first | (with_reducible assumption) | assumption); obtain ⟨ad2065, e2065, hx2065_0, hx2065_1, hx2065_2⟩ := at_T226 HR0.out x5_1 p2065 q2065; obtain rfl : ad2061 = ad2065 := (by injection e2065); replace hx2065_0 := (HB.out.cell (World.block_lt_of_cell? w _ hx2065_0)).trans hx2065_0; replace hx2065_1 := (HB.out.cell (World.block_lt_of_cell? w _ hx2065_1)).trans hx2065_1; replace hx2065_2 := (HB.out.cell (World.block_lt_of_cell? w _ hx2065_2)).trans hx2065_2; replace p2065 := eq_true p2065; replace q2065 := eq_true q2065; have p2073 : 0 ≤ (x5_1 : Int) := of_decide_eq_true (by first | (with_reducible assumption) | assumption); have q2073 : x5_1 < (l0.length : Int) := of_decide_eq_true (by first | (with_reducible assumption) | assumption); obtain ⟨ad2073, e2073, hx2073_0, hx2073_1, hx2073_2⟩ := at_T226 HR0.out x5_1 p2073 q2073; obtain rfl : ad2061 = ad2073 := (by injection e2073); replace hx2073_0 := (HB.out.cell (World.block_lt_of_cell? w _ hx2073_0)).trans hx2073_0; replace hx2073_1 := (HB.out.cell (World.block_lt_of_cell? w _ hx2073_1)).trans hx2073_1; replace hx2073_2 := (HB.out.cell (World.block_lt_of_cell? w _ hx2073_2)).trans hx2073_2; replace p2073 := eq_true p2073; replace q2073 := eq_true q2073) | ((with_reducible refine gate_callee (f := 37) rfl ?_); refine goesL_ (some 44) rfl rfl Try.func37 (by kernel_rfl) rfl #[.int .u64 (IntKind.u64.wrap ((rd_T226 l0 x5_1).f1))] rfl (by (try simp only [List.map_toArray, List.map_cons, List.map_nil]); first | done | rfl | (simp only [List.length_drop, List.length_take]; rfl)) ?_; (with_reducible refine (chartroomref01_Put.calls k1 (IntKind.u64.wrap ((rd_T226 l0 x5_1).f1)) t2074 _ A15.out).mono ?_); rintro e w18 ⟨v2075, rfl, ho0, hb⟩; refine ⟨_, rfl, ?_⟩; have n0_ := Aside0.mk (Kd.R_elder' (by (with_reducible repeat (first | apply Kd.R_alloc | apply Kd.R_drewN | apply Kd.R_drew)); exact HO2064.out) (Kd.R_base ho0) hb); have n1_ := Aside0.mk (Kd.R_lower (Kd.R_new' ho0 (Kd.R_lt (by (with_reducible repeat (first | apply Kd.R_alloc | apply Kd.R_drewN | apply Kd.R_drew)); exact HO2064.out))) (below_size (by repeat (first | (with_reducible first | exact HB.out | apply below_alloc | apply pw_below_drewN | apply below_drew1) | exact HB.out)))); have n2_ := Aside0.mk (below_step (by repeat (first | (with_reducible first | exact HB.out | apply below_alloc | apply pw_below_drewN | apply below_drew1) | exact HB.out)) hb); clear HO2064; clear HB; have HO2064 := n0_; have HO2076 := n1_; have HB := n2_; clear n0_ n1_ n2_; (try clear hb); (try clear hb2); (try clear hk); (try clear hi); (try clear ho0); obtain ⟨Ao20, co20, eo20⟩ := Kd.R_slice HO2076.out; subst eo20) | ((with_reducible refine gate_builtin (b := .append) (xs := #[.tmp 37, .tmp 44]) rfl ?_); at_builtin; refine Kd.R_append_rows (Kd.int .u8) (w0 := w) w.heap.size rfl (.tmp 37) (.tmp 44) 24 5 (.int .u8 0) 1 rfl Try.underlying24 info5 rfl (by decide) (by omega) v2063 y2062 t2074 _ _ _ (fun k_ => some k_ ≠ (.slice Ao20 t2074.length co20 : Value).ownBlock) (fun _ => False) rfl rfl ?aO ?aR (fun _ _ h => h) (fun _ h => h.elim) ?aF ?aB ?aS ?aL ?_; (case aR => repeat (first | exact (Kd.R_reads' HO2076.out).2.2 | (with_reducible refine Kd.C_alloc ?_ _) | (with_reducible refine Kd.C_drewN ?_ _) | (with_reducible refine Kd.C_drew ?_))); (case aB => exact (by repeat (first | (with_reducible first | exact HB.out | apply below_alloc | apply pw_below_drewN | apply below_drew1) | exact HB.out))); (case aF => exact (fun k_ hk => Kd.fresh' (Kd.R_lt (by (with_reducible repeat (first | apply Kd.R_alloc | apply Kd.R_drewN | apply Kd.R_drew)); exact HO2076.out)) k_ hk)); (case aO => exact (by (with_reducible repeat (first | apply Kd.R_alloc | apply Kd.R_drewN | apply Kd.R_drew)); exact Kd.R_mono HO2064.out (fun _ hk => hk.2))); (case aS => exact (below_size (by repeat (first | (with_reducible first | exact HB.out | apply below_alloc | apply pw_below_drewN | apply below_drew1) | exact HB.out)))); (case aL => have := LMc16.out; omega); intro v2078 w19 ho hb hg hat; rw [← Ny2077.out] at ho; have n0_ := Aside0.mk (Kd.R_after (ok := (fun _ => True)) (by (with_reducible repeat (first | apply Kd.R_alloc | apply Kd.R_drewN | apply Kd.R_drew)); exact HO2076.out) hg hat); have n1_ := Aside0.mk (hb); have n2_ := Aside0.mk (ho); clear HO2076; clear HB; clear HO2064; have HO2076 := n0_; have HB := n1_; have HO2079 := n2_; clear n0_ n1_ n2_; clear ho hb hg hat))
                  go_roundg k1
                  case measure => have := HK1.out; omega
                  case rel => exact ⟨(y2077), (wrap64 (x5_1 + 1)), (by first | rfl | (simp; done) | (simp [*]; done)), H', ⟨by have := HK1.out; omega⟩, ⟨by (with_reducible repeat (first | apply Kd.R_alloc | apply Kd.R_drewN | apply Kd.R_drew)); exact Kd.R_mono HO2079.out (fun _ hk => trivial)⟩, ⟨by repeat (first | (with_reducible first | exact HB.out | apply below_alloc | apply pw_below_drewN | apply below_drew1) | exact HB.out)⟩⟩
                · rw [if_neg c16] at H
                  exact absurd H (by simp)
            · rw [if_neg c7] at H
              exact absurd H (by simp)
          · rw [if_neg c6] at H
            exact absurd H (by simp)
        · rw [if_neg c5] at H
          have c5b0 : decide (x5_1 < (l0.length : Int)) = false := decide_eq_false c5
          clear c5
          simp only [Option.some.injEq, Prod.mk.injEq] at H
          obtain ⟨rfl, rfl⟩ := H
          go_wp2
          go_ret2
          exact ⟨_, by first | rfl | (simp [errW_none, errW_some] <;> rfl) | (simp [*, errW_none, errW_some] <;> rfl), by (with_reducible repeat (first | apply Kd.R_alloc | apply Kd.R_drewN | apply Kd.R_drew)); exact HO_4.out, by repeat (first | (with_reducible first | exact HB.out | apply below_alloc | apply pw_below_drewN | apply below_drew1) | exact HB.out)⟩
  · replace c3 := Bool.eq_false_iff.mpr c3
    subst c3
    have H1 : (some (([] : List Int), 2)) = some (r1, r2) := by rw [if_neg (show ¬ (false = true) by decide)] at H; exact H
    clear H
    have H := H1
    clear H1
    simp only [Option.some.injEq, Prod.mk.injEq] at H
    obtain ⟨rfl, rfl⟩ := H
    go_enter Try.func111, Try.ntmps111
    go_wp2_with (first | ((with_reducible refine gate_callee (f := 114) rfl ?_); refine goesL_ (some 7) rfl rfl Try.func114 (by kernel_rfl) rfl #[.slice A0 l0.length c0] rfl (by (try simp only [List.map_toArray, List.map_cons, List.map_nil]); first | done | rfl | (simp only [List.length_drop, List.length_take]; rfl)) ?_; (with_reducible refine (chartroomref05_Right.calls k _ _ l0 false _ ?side1 ?side2 A2.out).mono ?_); (case side1 => repeat (first | exact HR0.out | (with_reducible refine Kd.C_alloc ?_ _) | (with_reducible refine Kd.C_drewN ?_ _) | (with_reducible refine Kd.C_drew ?_))); (case side2 => exact HC0.out); rintro e w21 ⟨rfl, hb⟩; refine ⟨_, rfl, ?_⟩; have n0_ := Aside0.mk (below_step (by repeat (first | (with_reducible first | exact HB.out | apply below_alloc | apply pw_below_drewN | apply below_drew1) | exact HB.out)) hb); clear HB; have HB := n0_; clear n0_; (try clear hb); (try clear hb2); (try clear hk); (try clear hi)))
    go_ret2
    exact ⟨_, by first | rfl | (simp [errW_none, errW_some] <;> rfl) | (simp [*, errW_none, errW_some] <;> rfl), by first | exact Kd.R_nil _ _ _ _ _ | exact Kd.N_nil _ _ _ _ _ | exact Kd.V_nil _ _ _ _ _ | exact Kd.Q_nil _ _ _ _ _ | exact Kd.S_nil _ _ _ _ _, by repeat (first | (with_reducible first | exact HB.out | apply below_alloc | apply pw_below_drewN | apply below_drew1) | exact HB.out)⟩
end Go.Proofs.Ytoeabgeglgiobaa.P
