/- What functions of the given program do, each as a plain Lean function that its call meets: printed by a program of this session out of the translation, checked by Lean. Its conditions: those of each theorem. -/
import Derived.Test.Ytoeabgeglgiobaac5pP0
import Derived.Test.Ytoeabgeglgiobaac5pGref010
namespace Go.Proofs.Ytoeabgeglgiobaa.P
open Go.RowKit Go.Proofs.YtoeabgeglgiobaaW.PrintWords Go.Proofs.YtoeabgeglgiobaaW.PrintLast Go.Proofs.YtoeabgeglgiobaaW.PrintMore
attribute [local go_sem] max2_int min2_int max_two min_two max_three min_three max_four min_four   -- for this text's walks alone
set_option linter.unusedVariables false
set_option linter.unusedSimpArgs false
/-! ### chartroomref05_right: function 175 -/
def chartroomref05_right.f (a0_0 : Int) (a0_1 : Int) (a0_2 : ByteArray) : Option (Bool) := if a0_0 = 2 then (if a0_1 = 0 then (some (decide ((a0_2.size : Int) > 0))) else (some false)) else (if a0_0 = 1 then (if a0_1 ≥ 1 then (if a0_1 ≤ 2147483647 then (some ((a0_2.size : Int) == 0)) else (some false)) else (some false)) else (if a0_0 = 3 then (if a0_1 ≥ 1 then (if a0_1 ≤ 2147483647 then (some ((a0_2.size : Int) == 0)) else (some false)) else (some false)) else (some false)))
set_option maxHeartbeats 8000000 in
set_option maxRecDepth 100000 in
theorem chartroomref05_right.calls (a0_0 : Int) (a0_1 : Int) (a0_2 : ByteArray) (r : Bool) (w : World) (h : chartroomref05_right.f a0_0 a0_1 a0_2 = some r) :
    Calls Try.prog 175 #[.agg #[.int .u8 a0_0, .int .i64 a0_1, .string a0_2]] w fun e w' => e = .returned (.bool r) ∧ Below w.heap.size w w' := by
  have hu226 := Try.underlying226
  have HB := Aside0.mk (Below.refl w.heap.size w)
  have H : (if a0_0 = 2 then (if a0_1 = 0 then (some (decide ((a0_2.size : Int) > 0))) else (some false)) else (if a0_0 = 1 then (if a0_1 ≥ 1 then (if a0_1 ≤ 2147483647 then (some ((a0_2.size : Int) == 0)) else (some false)) else (some false)) else (if a0_0 = 3 then (if a0_1 ≥ 1 then (if a0_1 ≤ 2147483647 then (some ((a0_2.size : Int) == 0)) else (some false)) else (some false)) else (some false)))) = some r := h
  clear h
  by_cases c2 : a0_0 = 2
  · rw [if_pos c2] at H
    have c2b0 : (a0_0 == 2) = true := beq_iff_eq.mpr c2
    have c2b1 : (a0_0 != 2) = false := bne_eq_false_iff_eq.mpr c2
    clear c2
    by_cases c3 : a0_1 = 0
    · rw [if_pos c3] at H
      have c3b0 : (a0_1 == 0) = true := beq_iff_eq.mpr c3
      have c3b1 : (a0_1 != 0) = false := bne_eq_false_iff_eq.mpr c3
      clear c3
      obtain rfl := Option.some.inj H
      go_enter Try.func175, Try.ntmps175
      go_wp2_with (first | ((with_reducible refine gate_dst (N := 1) rfl ?_); (try (refine gate_guard (by rfl) ?_; dsimp only)); refine box_event ?hg (N := 1) ?hd (cs := #[.int .u8 a0_0, .int .i64 a0_1, .string a0_2]) (t := 226) ?hr ?_; (case hd => rfl); (case hg => rfl); (case hr => first | (go_simp; done) | (go_simp; rfl)); intro gb1413 hg w4 hbox hb; have n0_ := Aside0.mk (below_step (by repeat (first | (with_reducible first | exact HB.out | apply below_alloc | apply pw_below_drewN | apply below_drew1) | exact HB.out)) hb); have n1_ := Aside0.mk (hbox); have n2_ := Aside0.mk ((by rw [hg]; exact (below_size (by repeat (first | (with_reducible first | exact HB.out | apply below_alloc | apply pw_below_drewN | apply below_drew1) | exact HB.out))) : w.heap.size ≤ gb1413)); have n3_ := Aside0.mk ((by rw [hg]; exact (below_size (by repeat (first | (with_reducible first | exact HB.out | apply below_alloc | apply pw_below_drewN | apply below_drew1) | exact HB.out))) : w.heap.size ≤ gb1413)); clear HB; have HB := n0_; have BK1413 := n1_; have GW1413 := n2_; have GE1413 := n3_; clear n0_ n1_ n2_ n3_; clear hb hbox hg; have hcz5_0 : w4.cell? ⟨gb1413, 0, none⟩ = some (.int .u8 a0_0) := (blk_cell BK1413.out 0).trans rfl; have hcz5_1 : w4.cell? ⟨gb1413, 1, none⟩ = some (.int .i64 a0_1) := (blk_cell BK1413.out 1).trans rfl; have hcz5_2 : w4.cell? ⟨gb1413, 2, none⟩ = some (.string a0_2) := (blk_cell BK1413.out 2).trans rfl; have hfz5_0 := blk_frozen BK1413.out 0; have hfz5_1 := blk_frozen BK1413.out 1; have hfz5_2 := blk_frozen BK1413.out 2))
      go_ret
      exact ⟨by first | rfl | (simp [errW_none, errW_some] <;> rfl) | (simp [*, errW_none, errW_some] <;> rfl), by repeat (first | (with_reducible first | exact HB.out | apply below_alloc | apply pw_below_drewN | apply below_drew1 | refine below_set ?_ GE1413.out) | exact HB.out)⟩
    · rw [if_neg c3] at H
      have c3b0 : (a0_1 == 0) = false := beq_eq_false_iff_ne.mpr c3
      have c3b1 : (a0_1 != 0) = true := bne_iff_ne.mpr c3
      obtain rfl := Option.some.inj H
      go_enter Try.func175, Try.ntmps175
      go_wp2_with (first | ((with_reducible refine gate_dst (N := 1) rfl ?_); (try (refine gate_guard (by rfl) ?_; dsimp only)); refine box_event ?hg (N := 1) ?hd (cs := #[.int .u8 a0_0, .int .i64 a0_1, .string a0_2]) (t := 226) ?hr ?_; (case hd => rfl); (case hg => rfl); (case hr => first | (go_simp; done) | (go_simp; rfl)); intro gb1413 hg w6 hbox hb; have n0_ := Aside0.mk (below_step (by repeat (first | (with_reducible first | exact HB.out | apply below_alloc | apply pw_below_drewN | apply below_drew1) | exact HB.out)) hb); have n1_ := Aside0.mk (hbox); have n2_ := Aside0.mk ((by rw [hg]; exact (below_size (by repeat (first | (with_reducible first | exact HB.out | apply below_alloc | apply pw_below_drewN | apply below_drew1) | exact HB.out))) : w.heap.size ≤ gb1413)); have n3_ := Aside0.mk ((by rw [hg]; exact (below_size (by repeat (first | (with_reducible first | exact HB.out | apply below_alloc | apply pw_below_drewN | apply below_drew1) | exact HB.out))) : w.heap.size ≤ gb1413)); clear HB; have HB := n0_; have BK1413 := n1_; have GW1413 := n2_; have GE1413 := n3_; clear n0_ n1_ n2_ n3_; clear hb hbox hg; have hcz7_0 : w6.cell? ⟨gb1413, 0, none⟩ = some (.int .u8 a0_0) := (blk_cell BK1413.out 0).trans rfl; have hcz7_1 : w6.cell? ⟨gb1413, 1, none⟩ = some (.int .i64 a0_1) := (blk_cell BK1413.out 1).trans rfl; have hcz7_2 : w6.cell? ⟨gb1413, 2, none⟩ = some (.string a0_2) := (blk_cell BK1413.out 2).trans rfl; have hfz7_0 := blk_frozen BK1413.out 0; have hfz7_1 := blk_frozen BK1413.out 1; have hfz7_2 := blk_frozen BK1413.out 2))
      go_ret
      exact ⟨by first | rfl | (simp [errW_none, errW_some] <;> rfl) | (simp [*, errW_none, errW_some] <;> rfl), by repeat (first | (with_reducible first | exact HB.out | apply below_alloc | apply pw_below_drewN | apply below_drew1 | refine below_set ?_ GE1413.out) | exact HB.out)⟩
  · rw [if_neg c2] at H
    have c2b0 : (a0_0 == 2) = false := beq_eq_false_iff_ne.mpr c2
    have c2b1 : (a0_0 != 2) = true := bne_iff_ne.mpr c2
    by_cases c8 : a0_0 = 1
    · rw [if_pos c8] at H
      have c8b0 : (a0_0 == 1) = true := beq_iff_eq.mpr c8
      have c8b1 : (a0_0 != 1) = false := bne_eq_false_iff_eq.mpr c8
      clear c8
      by_cases c9 : a0_1 ≥ 1
      · rw [if_pos c9] at H
        have c9b0 : decide (1 ≤ a0_1) = true := decide_eq_true c9
        clear c9
        by_cases c10 : a0_1 ≤ 2147483647
        · rw [if_pos c10] at H
          have c10b0 : decide (a0_1 ≤ 2147483647) = true := decide_eq_true c10
          clear c10
          obtain rfl := Option.some.inj H
          go_enter Try.func175, Try.ntmps175
          go_wp2_with (first | ((with_reducible refine gate_dst (N := 1) rfl ?_); (try (refine gate_guard (by rfl) ?_; dsimp only)); refine box_event ?hg (N := 1) ?hd (cs := #[.int .u8 a0_0, .int .i64 a0_1, .string a0_2]) (t := 226) ?hr ?_; (case hd => rfl); (case hg => rfl); (case hr => first | (go_simp; done) | (go_simp; rfl)); intro gb1413 hg w11 hbox hb; have n0_ := Aside0.mk (below_step (by repeat (first | (with_reducible first | exact HB.out | apply below_alloc | apply pw_below_drewN | apply below_drew1) | exact HB.out)) hb); have n1_ := Aside0.mk (hbox); have n2_ := Aside0.mk ((by rw [hg]; exact (below_size (by repeat (first | (with_reducible first | exact HB.out | apply below_alloc | apply pw_below_drewN | apply below_drew1) | exact HB.out))) : w.heap.size ≤ gb1413)); have n3_ := Aside0.mk ((by rw [hg]; exact (below_size (by repeat (first | (with_reducible first | exact HB.out | apply below_alloc | apply pw_below_drewN | apply below_drew1) | exact HB.out))) : w.heap.size ≤ gb1413)); clear HB; have HB := n0_; have BK1413 := n1_; have GW1413 := n2_; have GE1413 := n3_; clear n0_ n1_ n2_ n3_; clear hb hbox hg; have hcz12_0 : w11.cell? ⟨gb1413, 0, none⟩ = some (.int .u8 a0_0) := (blk_cell BK1413.out 0).trans rfl; have hcz12_1 : w11.cell? ⟨gb1413, 1, none⟩ = some (.int .i64 a0_1) := (blk_cell BK1413.out 1).trans rfl; have hcz12_2 : w11.cell? ⟨gb1413, 2, none⟩ = some (.string a0_2) := (blk_cell BK1413.out 2).trans rfl; have hfz12_0 := blk_frozen BK1413.out 0; have hfz12_1 := blk_frozen BK1413.out 1; have hfz12_2 := blk_frozen BK1413.out 2))
          go_ret
          exact ⟨by first | rfl | (simp [errW_none, errW_some] <;> rfl) | (simp [*, errW_none, errW_some] <;> rfl), by repeat (first | (with_reducible first | exact HB.out | apply below_alloc | apply pw_below_drewN | apply below_drew1 | refine below_set ?_ GE1413.out) | exact HB.out)⟩
        · rw [if_neg c10] at H
          have c10b0 : decide (a0_1 ≤ 2147483647) = false := decide_eq_false c10
          clear c10
          obtain rfl := Option.some.inj H
          go_enter Try.func175, Try.ntmps175
          go_wp2_with (first | ((with_reducible refine gate_dst (N := 1) rfl ?_); (try (refine gate_guard (by rfl) ?_; dsimp only)); refine box_event ?hg (N := 1) ?hd (cs := #[.int .u8 a0_0, .int .i64 a0_1, .string a0_2]) (t := 226) ?hr ?_; (case hd => rfl); (case hg => rfl); (case hr => first | (go_simp; done) | (go_simp; rfl)); intro gb1413 hg w13 hbox hb; have n0_ := Aside0.mk (below_step (by repeat (first | (with_reducible first | exact HB.out | apply below_alloc | apply pw_below_drewN | apply below_drew1) | exact HB.out)) hb); have n1_ := Aside0.mk (hbox); have n2_ := Aside0.mk ((by rw [hg]; exact (below_size (by repeat (first | (with_reducible first | exact HB.out | apply below_alloc | apply pw_below_drewN | apply below_drew1) | exact HB.out))) : w.heap.size ≤ gb1413)); have n3_ := Aside0.mk ((by rw [hg]; exact (below_size (by repeat (first | (with_reducible first | exact HB.out | apply below_alloc | apply pw_below_drewN | apply below_drew1) | exact HB.out))) : w.heap.size ≤ gb1413)); clear HB; have HB := n0_; have BK1413 := n1_; have GW1413 := n2_; have GE1413 := n3_; clear n0_ n1_ n2_ n3_; clear hb hbox hg; have hcz14_0 : w13.cell? ⟨gb1413, 0, none⟩ = some (.int .u8 a0_0) := (blk_cell BK1413.out 0).trans rfl; have hcz14_1 : w13.cell? ⟨gb1413, 1, none⟩ = some (.int .i64 a0_1) := (blk_cell BK1413.out 1).trans rfl; have hcz14_2 : w13.cell? ⟨gb1413, 2, none⟩ = some (.string a0_2) := (blk_cell BK1413.out 2).trans rfl; have hfz14_0 := blk_frozen BK1413.out 0; have hfz14_1 := blk_frozen BK1413.out 1; have hfz14_2 := blk_frozen BK1413.out 2))
          go_ret
          exact ⟨by first | rfl | (simp [errW_none, errW_some] <;> rfl) | (simp [*, errW_none, errW_some] <;> rfl), by repeat (first | (with_reducible first | exact HB.out | apply below_alloc | apply pw_below_drewN | apply below_drew1 | refine below_set ?_ GE1413.out) | exact HB.out)⟩
      · rw [if_neg c9] at H
        have c9b0 : decide (1 ≤ a0_1) = false := decide_eq_false c9
        clear c9
        obtain rfl := Option.some.inj H
        go_enter Try.func175, Try.ntmps175
        go_wp2_with (first | ((with_reducible refine gate_dst (N := 1) rfl ?_); (try (refine gate_guard (by rfl) ?_; dsimp only)); refine box_event ?hg (N := 1) ?hd (cs := #[.int .u8 a0_0, .int .i64 a0_1, .string a0_2]) (t := 226) ?hr ?_; (case hd => rfl); (case hg => rfl); (case hr => first | (go_simp; done) | (go_simp; rfl)); intro gb1413 hg w15 hbox hb; have n0_ := Aside0.mk (below_step (by repeat (first | (with_reducible first | exact HB.out | apply below_alloc | apply pw_below_drewN | apply below_drew1) | exact HB.out)) hb); have n1_ := Aside0.mk (hbox); have n2_ := Aside0.mk ((by rw [hg]; exact (below_size (by repeat (first | (with_reducible first | exact HB.out | apply below_alloc | apply pw_below_drewN | apply below_drew1) | exact HB.out))) : w.heap.size ≤ gb1413)); have n3_ := Aside0.mk ((by rw [hg]; exact (below_size (by repeat (first | (with_reducible first | exact HB.out | apply below_alloc | apply pw_below_drewN | apply below_drew1) | exact HB.out))) : w.heap.size ≤ gb1413)); clear HB; have HB := n0_; have BK1413 := n1_; have GW1413 := n2_; have GE1413 := n3_; clear n0_ n1_ n2_ n3_; clear hb hbox hg; have hcz16_0 : w15.cell? ⟨gb1413, 0, none⟩ = some (.int .u8 a0_0) := (blk_cell BK1413.out 0).trans rfl; have hcz16_1 : w15.cell? ⟨gb1413, 1, none⟩ = some (.int .i64 a0_1) := (blk_cell BK1413.out 1).trans rfl; have hcz16_2 : w15.cell? ⟨gb1413, 2, none⟩ = some (.string a0_2) := (blk_cell BK1413.out 2).trans rfl; have hfz16_0 := blk_frozen BK1413.out 0; have hfz16_1 := blk_frozen BK1413.out 1; have hfz16_2 := blk_frozen BK1413.out 2))
        go_ret
        exact ⟨by first | rfl | (simp [errW_none, errW_some] <;> rfl) | (simp [*, errW_none, errW_some] <;> rfl), by repeat (first | (with_reducible first | exact HB.out | apply below_alloc | apply pw_below_drewN | apply below_drew1 | refine below_set ?_ GE1413.out) | exact HB.out)⟩
    · rw [if_neg c8] at H
      have c8b0 : (a0_0 == 1) = false := beq_eq_false_iff_ne.mpr c8
      have c8b1 : (a0_0 != 1) = true := bne_iff_ne.mpr c8
      by_cases c17 : a0_0 = 3
      · rw [if_pos c17] at H
        have c17b0 : (a0_0 == 3) = true := beq_iff_eq.mpr c17
        have c17b1 : (a0_0 != 3) = false := bne_eq_false_iff_eq.mpr c17
        clear c17
        by_cases c18 : a0_1 ≥ 1
        · rw [if_pos c18] at H
          have c18b0 : decide (1 ≤ a0_1) = true := decide_eq_true c18
          clear c18
          by_cases c19 : a0_1 ≤ 2147483647
          · rw [if_pos c19] at H
            have c19b0 : decide (a0_1 ≤ 2147483647) = true := decide_eq_true c19
            clear c19
            obtain rfl := Option.some.inj H
            go_enter Try.func175, Try.ntmps175
            go_wp2_with (first | ((with_reducible refine gate_dst (N := 1) rfl ?_); (try (refine gate_guard (by rfl) ?_; dsimp only)); refine box_event ?hg (N := 1) ?hd (cs := #[.int .u8 a0_0, .int .i64 a0_1, .string a0_2]) (t := 226) ?hr ?_; (case hd => rfl); (case hg => rfl); (case hr => first | (go_simp; done) | (go_simp; rfl)); intro gb1413 hg w20 hbox hb; have n0_ := Aside0.mk (below_step (by repeat (first | (with_reducible first | exact HB.out | apply below_alloc | apply pw_below_drewN | apply below_drew1) | exact HB.out)) hb); have n1_ := Aside0.mk (hbox); have n2_ := Aside0.mk ((by rw [hg]; exact (below_size (by repeat (first | (with_reducible first | exact HB.out | apply below_alloc | apply pw_below_drewN | apply below_drew1) | exact HB.out))) : w.heap.size ≤ gb1413)); have n3_ := Aside0.mk ((by rw [hg]; exact (below_size (by repeat (first | (with_reducible first | exact HB.out | apply below_alloc | apply pw_below_drewN | apply below_drew1) | exact HB.out))) : w.heap.size ≤ gb1413)); clear HB; have HB := n0_; have BK1413 := n1_; have GW1413 := n2_; have GE1413 := n3_; clear n0_ n1_ n2_ n3_; clear hb hbox hg; have hcz21_0 : w20.cell? ⟨gb1413, 0, none⟩ = some (.int .u8 a0_0) := (blk_cell BK1413.out 0).trans rfl; have hcz21_1 : w20.cell? ⟨gb1413, 1, none⟩ = some (.int .i64 a0_1) := (blk_cell BK1413.out 1).trans rfl; have hcz21_2 : w20.cell? ⟨gb1413, 2, none⟩ = some (.string a0_2) := (blk_cell BK1413.out 2).trans rfl; have hfz21_0 := blk_frozen BK1413.out 0; have hfz21_1 := blk_frozen BK1413.out 1; have hfz21_2 := blk_frozen BK1413.out 2))
            go_ret
            exact ⟨by first | rfl | (simp [errW_none, errW_some] <;> rfl) | (simp [*, errW_none, errW_some] <;> rfl), by repeat (first | (with_reducible first | exact HB.out | apply below_alloc | apply pw_below_drewN | apply below_drew1 | refine below_set ?_ GE1413.out) | exact HB.out)⟩
          · rw [if_neg c19] at H
            have c19b0 : decide (a0_1 ≤ 2147483647) = false := decide_eq_false c19
            clear c19
            obtain rfl := Option.some.inj H
            go_enter Try.func175, Try.ntmps175
            go_wp2_with (first | ((with_reducible refine gate_dst (N := 1) rfl ?_); (try (refine gate_guard (by rfl) ?_; dsimp only)); refine box_event ?hg (N := 1) ?hd (cs := #[.int .u8 a0_0, .int .i64 a0_1, .string a0_2]) (t := 226) ?hr ?_; (case hd => rfl); (case hg => rfl); (case hr => first | (go_simp; done) | (go_simp; rfl)); intro gb1413 hg w22 hbox hb; have n0_ := Aside0.mk (below_step (by repeat (first | (with_reducible first | exact HB.out | apply below_alloc | apply pw_below_drewN | apply below_drew1) | exact HB.out)) hb); have n1_ := Aside0.mk (hbox); have n2_ := Aside0.mk ((by rw [hg]; exact (below_size (by repeat (first | (with_reducible first | exact HB.out | apply below_alloc | apply pw_below_drewN | apply below_drew1) | exact HB.out))) : w.heap.size ≤ gb1413)); have n3_ := Aside0.mk ((by rw [hg]; exact (below_size (by repeat (first | (with_reducible first | exact HB.out | apply below_alloc | apply pw_below_drewN | apply below_drew1) | exact HB.out))) : w.heap.size ≤ gb1413)); clear HB; have HB := n0_; have BK1413 := n1_; have GW1413 := n2_; have GE1413 := n3_; clear n0_ n1_ n2_ n3_; clear hb hbox hg; have hcz23_0 : w22.cell? ⟨gb1413, 0, none⟩ = some (.int .u8 a0_0) := (blk_cell BK1413.out 0).trans rfl; have hcz23_1 : w22.cell? ⟨gb1413, 1, none⟩ = some (.int .i64 a0_1) := (blk_cell BK1413.out 1).trans rfl; have hcz23_2 : w22.cell? ⟨gb1413, 2, none⟩ = some (.string a0_2) := (blk_cell BK1413.out 2).trans rfl; have hfz23_0 := blk_frozen BK1413.out 0; have hfz23_1 := blk_frozen BK1413.out 1; have hfz23_2 := blk_frozen BK1413.out 2))
            go_ret
            exact ⟨by first | rfl | (simp [errW_none, errW_some] <;> rfl) | (simp [*, errW_none, errW_some] <;> rfl), by repeat (first | (with_reducible first | exact HB.out | apply below_alloc | apply pw_below_drewN | apply below_drew1 | refine below_set ?_ GE1413.out) | exact HB.out)⟩
        · rw [if_neg c18] at H
          have c18b0 : decide (1 ≤ a0_1) = false := decide_eq_false c18
          clear c18
          obtain rfl := Option.some.inj H
          go_enter Try.func175, Try.ntmps175
          go_wp2_with (first | ((with_reducible refine gate_dst (N := 1) rfl ?_); (try (refine gate_guard (by rfl) ?_; dsimp only)); refine box_event ?hg (N := 1) ?hd (cs := #[.int .u8 a0_0, .int .i64 a0_1, .string a0_2]) (t := 226) ?hr ?_; (case hd => rfl); (case hg => rfl); (case hr => first | (go_simp; done) | (go_simp; rfl)); intro gb1413 hg w24 hbox hb; have n0_ := Aside0.mk (below_step (by repeat (first | (with_reducible first | exact HB.out | apply below_alloc | apply pw_below_drewN | apply below_drew1) | exact HB.out)) hb); have n1_ := Aside0.mk (hbox); have n2_ := Aside0.mk ((by rw [hg]; exact (below_size (by repeat (first | (with_reducible first | exact HB.out | apply below_alloc | apply pw_below_drewN | apply below_drew1) | exact HB.out))) : w.heap.size ≤ gb1413)); have n3_ := Aside0.mk ((by rw [hg]; exact (below_size (by repeat (first | (with_reducible first | exact HB.out | apply below_alloc | apply pw_below_drewN | apply below_drew1) | exact HB.out))) : w.heap.size ≤ gb1413)); clear HB; have HB := n0_; have BK1413 := n1_; have GW1413 := n2_; have GE1413 := n3_; clear n0_ n1_ n2_ n3_; clear hb hbox hg; have hcz25_0 : w24.cell? ⟨gb1413, 0, none⟩ = some (.int .u8 a0_0) := (blk_cell BK1413.out 0).trans rfl; have hcz25_1 : w24.cell? ⟨gb1413, 1, none⟩ = some (.int .i64 a0_1) := (blk_cell BK1413.out 1).trans rfl; have hcz25_2 : w24.cell? ⟨gb1413, 2, none⟩ = some (.string a0_2) := (blk_cell BK1413.out 2).trans rfl; have hfz25_0 := blk_frozen BK1413.out 0; have hfz25_1 := blk_frozen BK1413.out 1; have hfz25_2 := blk_frozen BK1413.out 2))
          go_ret
          exact ⟨by first | rfl | (simp [errW_none, errW_some] <;> rfl) | (simp [*, errW_none, errW_some] <;> rfl), by repeat (first | (with_reducible first | exact HB.out | apply below_alloc | apply pw_below_drewN | apply below_drew1 | refine below_set ?_ GE1413.out) | exact HB.out)⟩
      · rw [if_neg c17] at H
        have c17b0 : (a0_0 == 3) = false := beq_eq_false_iff_ne.mpr c17
        have c17b1 : (a0_0 != 3) = true := bne_iff_ne.mpr c17
        obtain rfl := Option.some.inj H
        go_enter Try.func175, Try.ntmps175
        go_wp2_with (first | ((with_reducible refine gate_dst (N := 1) rfl ?_); (try (refine gate_guard (by rfl) ?_; dsimp only)); refine box_event ?hg (N := 1) ?hd (cs := #[.int .u8 a0_0, .int .i64 a0_1, .string a0_2]) (t := 226) ?hr ?_; (case hd => rfl); (case hg => rfl); (case hr => first | (go_simp; done) | (go_simp; rfl)); intro gb1413 hg w26 hbox hb; have n0_ := Aside0.mk (below_step (by repeat (first | (with_reducible first | exact HB.out | apply below_alloc | apply pw_below_drewN | apply below_drew1) | exact HB.out)) hb); have n1_ := Aside0.mk (hbox); have n2_ := Aside0.mk ((by rw [hg]; exact (below_size (by repeat (first | (with_reducible first | exact HB.out | apply below_alloc | apply pw_below_drewN | apply below_drew1) | exact HB.out))) : w.heap.size ≤ gb1413)); have n3_ := Aside0.mk ((by rw [hg]; exact (below_size (by repeat (first | (with_reducible first | exact HB.out | apply below_alloc | apply pw_below_drewN | apply below_drew1) | exact HB.out))) : w.heap.size ≤ gb1413)); clear HB; have HB := n0_; have BK1413 := n1_; have GW1413 := n2_; have GE1413 := n3_; clear n0_ n1_ n2_ n3_; clear hb hbox hg; have hcz27_0 : w26.cell? ⟨gb1413, 0, none⟩ = some (.int .u8 a0_0) := (blk_cell BK1413.out 0).trans rfl; have hcz27_1 : w26.cell? ⟨gb1413, 1, none⟩ = some (.int .i64 a0_1) := (blk_cell BK1413.out 1).trans rfl; have hcz27_2 : w26.cell? ⟨gb1413, 2, none⟩ = some (.string a0_2) := (blk_cell BK1413.out 2).trans rfl; have hfz27_0 := blk_frozen BK1413.out 0; have hfz27_1 := blk_frozen BK1413.out 1; have hfz27_2 := blk_frozen BK1413.out 2))
        go_ret
        exact ⟨by first | rfl | (simp [errW_none, errW_some] <;> rfl) | (simp [*, errW_none, errW_some] <;> rfl), by repeat (first | (with_reducible first | exact HB.out | apply below_alloc | apply pw_below_drewN | apply below_drew1 | refine below_set ?_ GE1413.out) | exact HB.out)⟩
/-! ### chartroomref05_Parse: function 122 -/
mutual
def chartroomref05_Parse.l0 : Nat → List Int → List (S226) → Int → Option ((List (S226)) × Int)
  | 0, _, _, _ => none
  | k + 1, x0, x4, x5 => if x5 < (x0.length : Int) then (if 0 ≤ x5 then (if (rd x0 x5) < 1 then (chartroomref05_Parse.j1 k x0 x4 x5 true (rd x0 x5) 0 (⟨#[]⟩ : ByteArray)) else (chartroomref05_Parse.j1 k x0 x4 x5 (decide ((rd x0 x5) > 3)) (rd x0 x5) 0 (⟨#[]⟩ : ByteArray))) else (none)) else (some (x4, 0))
def chartroomref05_Parse.j1 : Nat → List Int → List (S226) → Int → Bool → Int → Int → ByteArray → Option ((List (S226)) × Int)
  | 0, _, _, _, _, _, _, _ => none
  | k + 1, x0, x4, x5, x26, x1441000, x1441001, x1441002 => if x26 = true then (some (([] : List (S226)), 60)) else ((chartroomref01_Take.f k x0 (wrap64 (x5 + 1))).bind fun bt1441 => (if x1441000 = 2 then ((chartroomref01_TakeText.f k x0 (wrap64 (x5 + 1))).bind fun bt1444 => (chartroomref05_Parse.j2 k x0 x4 bt1444.2.1 bt1444.2.2 x1441000 x1441001 bt1444.1)) else (chartroomref05_Parse.j2 k x0 x4 bt1441.2.1 bt1441.2.2 x1441000 (wrap64 (mn bt1441.1 2147483648)) x1441002)))
def chartroomref05_Parse.j2 : Nat → List Int → List (S226) → Int → Int → Int → Int → ByteArray → Option ((List (S226)) × Int)
  | 0, _, _, _, _, _, _, _ => none
  | k + 1, x0, x4, x8, x9, x1441000, x1441001, x1441002 => if x9 = 0 then ((chartroomref05_right.f x1441000 x1441001 x1441002).bind fun t1447 => (if t1447 = true then (if x4.length < 4398046511104 then (chartroomref05_Parse.l0 k x0 (x4 ++ [(⟨x1441000, x1441001, x1441002⟩ : S226)]) x8) else (none)) else (some (([] : List (S226)), 2)))) else (some (([] : List (S226)), x9))
end
def chartroomref05_Parse.f (k : Nat) (l0 : List Int) : Option ((List (S226)) × Int) := chartroomref05_Parse.l0 k l0 ([] : List (S226)) 0
set_option maxHeartbeats 8000000 in
set_option maxRecDepth 100000 in
theorem chartroomref05_Parse.calls (k : Nat) (A0 : Option Addr) (c0 : Nat) (l0 : List Int) (r1 : List (S226)) (r2 : Int) (w : World) (hr0 : Kd.C (Kd.int .u8) w A0 l0.length l0) (hc0 : l0.length ≤ c0) (h : chartroomref05_Parse.f k l0 = some (r1, r2)) :
    Calls Try.prog 122 #[.slice A0 l0.length c0] w fun e w' => ∃ v0_ : Value, e = .returned (.tuple #[v0_, .int .i64 r2]) ∧ Kd.R k226 226 w' w.heap.size (fun _ => True) v0_ r1 ∧ Below w.heap.size w w' := by
  have hu226 := Try.underlying226
  have HR0 := Aside0.mk hr0
  have HC0 := Aside0.mk hc0
  clear hr0 hc0
  have HB := Aside0.mk (Below.refl w.heap.size w)
  have H : (chartroomref05_Parse.l0 k l0 ([] : List (S226)) 0) = some (r1, r2) := h
  clear h
  have H' := Aside0.mk H
  clear H
  go_enter Try.func122, Try.ntmps122
  go_wp2
  go_loopg [4, 5] k (fun kq v4 v5 w' => ∃ (x4_1 : List (S226)) (x5_1 : Int), v5 = .int .i64 x5_1 ∧ Aside0 (chartroomref05_Parse.l0 kq l0 x4_1 x5_1 = some (r1, r2)) ∧ Aside0 (kq ≤ k) ∧ Aside0 (Kd.R k226 226 w' w.heap.size (fun _ => True) v4 x4_1) ∧ Aside0 (Below w.heap.size w w'))
  case atStart => exact ⟨(([] : List (S226))), (0), (by first | rfl | (simp; done) | (simp [*]; done)), H', ⟨Nat.le_refl _⟩, ⟨by first | exact Kd.R_nil _ _ _ _ _ | exact Kd.N_nil _ _ _ _ _ | exact Kd.V_nil _ _ _ _ _ | exact Kd.Q_nil _ _ _ _ _ | exact Kd.S_nil _ _ _ _ _⟩, ⟨by repeat (first | (with_reducible first | exact HB.out | apply below_alloc | apply pw_below_drewN | apply below_drew1) | exact HB.out)⟩⟩
  case round =>
    clear H'
    try clear c1
    obtain ⟨x4_1, x5_1, rfl, HA, HK1, HO_4, HB⟩ := hrel
    cases gk with
    | zero => exact absurd HA.out (by simp [chartroomref05_Parse.l0])
    | succ k1 =>
      have H := HA.out
      clear HA
      simp only [chartroomref05_Parse.l0] at H
      by_cases c2 : x5_1 < (l0.length : Int)
      · rw [if_pos c2] at H
        have c2b0 : decide (x5_1 < (l0.length : Int)) = true := decide_eq_true c2
        clear c2
        by_cases c3 : 0 ≤ x5_1
        · rw [if_pos c3] at H
          have c3b0 : decide (0 ≤ x5_1) = true := decide_eq_true c3
          clear c3
          have HC4 := Aside0.mk H
          clear H
          have p1439 : 0 ≤ (x5_1 : Int) := of_decide_eq_true (by first | (with_reducible assumption) | assumption)
          have q1439 : x5_1 < (l0.length : Int) := of_decide_eq_true (by first | (with_reducible assumption) | assumption)
          obtain ⟨ad1439, e1439, hx1439_0⟩ := Kd.at_int HR0.out x5_1 p1439 q1439
          cases e1439
          replace hx1439_0 := (HB.out.cell (World.block_lt_of_cell? w _ hx1439_0)).trans hx1439_0
          replace p1439 := eq_true p1439
          replace q1439 := eq_true q1439
          go_upto_region 5 with (first | ((with_reducible refine gate_dst (N := 6) rfl ?_); refine box_event ?hg (N := 6) ?hd (cs := #[.int .u8 0, .int .i64 0, .string (⟨#[]⟩ : ByteArray)]) (t := 226) ?hr ?_; (case hd => rfl); (case hg => rfl); (case hr => first | (go_simp; done) | (go_simp; rfl)); intro gb1440 hg w5 hbox hb; have n0_ := Aside0.mk (Kd.R_below (Kd.R_elderB (by (with_reducible repeat (first | apply Kd.R_alloc | apply Kd.R_drewN | apply Kd.R_drew)); exact HO_4.out) gb1440 (Nat.le_of_eq hg.symm)) hb); have n1_ := Aside0.mk (below_step (by repeat (first | (with_reducible first | exact HB.out | apply below_alloc | apply pw_below_drewN | apply below_drew1) | exact HB.out)) hb); have n2_ := Aside0.mk (hbox); have n3_ := Aside0.mk ((by rw [hg]; exact (below_size (by repeat (first | (with_reducible first | exact HB.out | apply below_alloc | apply pw_below_drewN | apply below_drew1) | exact HB.out))) : w.heap.size ≤ gb1440)); have n4_ := Aside0.mk ((by rw [hg]; exact (below_size (by repeat (first | (with_reducible first | exact HB.out | apply below_alloc | apply pw_below_drewN | apply below_drew1) | exact HB.out))) : w.heap.size ≤ gb1440)); clear HO_4; clear HB; have HO_4 := n0_; have HB := n1_; have BK1440 := n2_; have GW1440 := n3_; have GE1440 := n4_; clear n0_ n1_ n2_ n3_ n4_; clear hb hbox hg; have hcz6_0 : w5.cell? ⟨gb1440, 0, none⟩ = some (.int .u8 0) := (blk_cell BK1440.out 0).trans rfl; have hcz6_1 : w5.cell? ⟨gb1440, 1, none⟩ = some (.int .i64 0) := (blk_cell BK1440.out 1).trans rfl; have hcz6_2 : w5.cell? ⟨gb1440, 2, none⟩ = some (.string (⟨#[]⟩ : ByteArray)) := (blk_cell BK1440.out 2).trans rfl; have hfz6_0 := blk_frozen BK1440.out 0; have hfz6_1 := blk_frozen BK1440.out 1; have hfz6_2 := blk_frozen BK1440.out 2))
          (try simp only [Act.put, List.setIfInBounds_toArray, List.set_cons_zero, List.set_cons_succ])
          go_cut [26] (fun v26 wc => ∃ (kq : Nat) (x26_3 : Bool), v26 = .bool x26_3 ∧ Aside0 (chartroomref05_Parse.j1 kq l0 x4_1 x5_1 x26_3 (rd l0 x5_1) 0 (⟨#[]⟩ : ByteArray) = some (r1, r2)) ∧ Aside0 (kq ≤ k1) ∧ Aside0 (Kd.R k226 226 wc w.heap.size (fun k_ => k_ ≠ gb1440) u4 x4_1) ∧ Aside0 (wc.heap[gb1440]? = some (.cells #[.int .u8 (rd l0 x5_1), .int .i64 0, .string (⟨#[]⟩ : ByteArray)] 226 (0, 0))) ∧ Aside0 (Below w.heap.size w wc))
          case first =>
            have H := HC4.out
            clear HC4
            by_cases c7 : (rd l0 x5_1) < 1
            · rw [if_pos c7] at H
              have c7b0 : decide ((rd l0 x5_1) < 1) = true := decide_eq_true c7
              clear c7
              (first | rw [c7b0] | (simp only [i64_w, i32_w]; rw [c7b0]) | skip)
              have H' := Aside0.mk H
              clear H
              have hcz8_0 : w5.cell? ⟨gb1440, 0, none⟩ = some (.int .u8 0) := (blk_cell BK1440.out 0).trans rfl
              have hcz8_1 : w5.cell? ⟨gb1440, 1, none⟩ = some (.int .i64 0) := (blk_cell BK1440.out 1).trans rfl
              have hcz8_2 : w5.cell? ⟨gb1440, 2, none⟩ = some (.string (⟨#[]⟩ : ByteArray)) := (blk_cell BK1440.out 2).trans rfl
              have hfz8_0 := blk_frozen BK1440.out 0
              have hfz8_1 := blk_frozen BK1440.out 1
              have hfz8_2 := blk_frozen BK1440.out 2
              go_wp2
              go_meet
              case rel => exact ⟨_, (true), (by first | rfl | (simp; done) | (simp [*]; done)), H', ⟨by have := HK1.out; first | omega | exact Nat.le_refl _⟩, ⟨by (with_reducible repeat (first | apply Kd.R_alloc | apply Kd.R_drewN | apply Kd.R_drew)); exact Kd.R_mono (Kd.R_far (p := ⟨gb1440, 2, none⟩) (Kd.R_far (p := ⟨gb1440, 1, none⟩) (Kd.R_far (p := ⟨gb1440, 0, none⟩) (Kd.R_mono HO_4.out (fun k_ hk => (⟨hk, hk.2⟩ : _ ∧ k_ ≠ gb1440))) (fun _ hk => hk.2) (.int .u8 (rd l0 x5_1))) (fun _ hk => hk.2) (.int .i64 0)) (fun _ hk => hk.2) (.string (⟨#[]⟩ : ByteArray))) (fun _ hk => hk.1.2)⟩, ⟨by (with_reducible repeat (first | refine blk_drewN ?_ _ | refine blk_drew ?_ | refine blk_alloc ?_ _)); refine blk_put (cs := #[.int .u8 (rd l0 x5_1), .int .i64 0, .string (⟨#[]⟩ : ByteArray)]) ?_ 2 _ rfl; (with_reducible repeat (first | refine blk_drewN ?_ _ | refine blk_drew ?_ | refine blk_alloc ?_ _)); refine blk_put (cs := #[.int .u8 (rd l0 x5_1), .int .i64 0, .string (⟨#[]⟩ : ByteArray)]) ?_ 1 _ rfl; (with_reducible repeat (first | refine blk_drewN ?_ _ | refine blk_drew ?_ | refine blk_alloc ?_ _)); refine blk_put (cs := #[.int .u8 0, .int .i64 0, .string (⟨#[]⟩ : ByteArray)]) ?_ 0 _ rfl; (with_reducible repeat (first | refine blk_drewN ?_ _ | refine blk_drew ?_ | refine blk_alloc ?_ _)); exact BK1440.out⟩, ⟨by repeat (first | (with_reducible first | exact HB.out | apply below_alloc | apply pw_below_drewN | apply below_drew1 | refine below_set ?_ GE1440.out) | exact HB.out)⟩⟩
            · rw [if_neg c7] at H
              have c7b0 : decide ((rd l0 x5_1) < 1) = false := decide_eq_false c7
              clear c7
              (first | rw [c7b0] | (simp only [i64_w, i32_w]; rw [c7b0]) | skip)
              have H' := Aside0.mk H
              clear H
              have hcz9_0 : w5.cell? ⟨gb1440, 0, none⟩ = some (.int .u8 0) := (blk_cell BK1440.out 0).trans rfl
              have hcz9_1 : w5.cell? ⟨gb1440, 1, none⟩ = some (.int .i64 0) := (blk_cell BK1440.out 1).trans rfl
              have hcz9_2 : w5.cell? ⟨gb1440, 2, none⟩ = some (.string (⟨#[]⟩ : ByteArray)) := (blk_cell BK1440.out 2).trans rfl
              have hfz9_0 := blk_frozen BK1440.out 0
              have hfz9_1 := blk_frozen BK1440.out 1
              have hfz9_2 := blk_frozen BK1440.out 2
              go_wp2
              go_meet
              case rel => exact ⟨_, (decide ((rd l0 x5_1) > 3)), (by first | rfl | (simp; done) | (simp [*]; done)), H', ⟨by have := HK1.out; first | omega | exact Nat.le_refl _⟩, ⟨by (with_reducible repeat (first | apply Kd.R_alloc | apply Kd.R_drewN | apply Kd.R_drew)); exact Kd.R_mono (Kd.R_far (p := ⟨gb1440, 2, none⟩) (Kd.R_far (p := ⟨gb1440, 1, none⟩) (Kd.R_far (p := ⟨gb1440, 0, none⟩) (Kd.R_mono HO_4.out (fun k_ hk => (⟨hk, hk.2⟩ : _ ∧ k_ ≠ gb1440))) (fun _ hk => hk.2) (.int .u8 (rd l0 x5_1))) (fun _ hk => hk.2) (.int .i64 0)) (fun _ hk => hk.2) (.string (⟨#[]⟩ : ByteArray))) (fun _ hk => hk.1.2)⟩, ⟨by (with_reducible repeat (first | refine blk_drewN ?_ _ | refine blk_drew ?_ | refine blk_alloc ?_ _)); refine blk_put (cs := #[.int .u8 (rd l0 x5_1), .int .i64 0, .string (⟨#[]⟩ : ByteArray)]) ?_ 2 _ rfl; (with_reducible repeat (first | refine blk_drewN ?_ _ | refine blk_drew ?_ | refine blk_alloc ?_ _)); refine blk_put (cs := #[.int .u8 (rd l0 x5_1), .int .i64 0, .string (⟨#[]⟩ : ByteArray)]) ?_ 1 _ rfl; (with_reducible repeat (first | refine blk_drewN ?_ _ | refine blk_drew ?_ | refine blk_alloc ?_ _)); refine blk_put (cs := #[.int .u8 0, .int .i64 0, .string (⟨#[]⟩ : ByteArray)]) ?_ 0 _ rfl; (with_reducible repeat (first | refine blk_drewN ?_ _ | refine blk_drew ?_ | refine blk_alloc ?_ _)); exact BK1440.out⟩, ⟨by repeat (first | (with_reducible first | exact HB.out | apply below_alloc | apply pw_below_drewN | apply below_drew1 | refine below_set ?_ GE1440.out) | exact HB.out)⟩⟩
          case rest =>
            clear HC4
            try clear c1
            try clear p1
            try clear q1
            try clear hx1
            try clear c2
            try clear c2b0
            try clear p2
            try clear c3
            try clear c3b0
            try clear c7
            try clear c7b0
            try clear hcz6_0
            try clear hcz6_1
            try clear hcz6_2
            try clear hcz8_0
            try clear hcz8_1
            try clear hcz8_2
            try clear hcz9_0
            try clear hcz9_1
            try clear hcz9_2
            try clear hfz6_0
            try clear hfz6_1
            try clear hfz6_2
            try clear hfz8_0
            try clear hfz8_1
            try clear hfz8_2
            try clear hfz9_0
            try clear hfz9_1
            try clear hfz9_2
            try clear hx1439_0
            try clear p1439
            try clear q1439
            obtain ⟨kq, x26_3, rfl, HA, HJ3, HO_4, BK1440, HB⟩ := hcut
            cases kq with
            | zero => exact absurd HA.out (by simp [chartroomref05_Parse.j1])
            | succ kj3 =>
              have H := HA.out
              clear HA
              simp only [chartroomref05_Parse.j1] at H
              by_cases c10 : x26_3 = true
              · subst c10
                have H1 : (some (([] : List (S226)), 60)) = some (r1, r2) := by rw [if_pos rfl] at H; exact H
                clear H
                have H := H1
                clear H1
                simp only [Option.some.injEq, Prod.mk.injEq] at H
                obtain ⟨rfl, rfl⟩ := H
                go_wp2
                go_ret2
                exact ⟨_, by first | rfl | (simp [errW_none, errW_some] <;> rfl) | (simp [*, errW_none, errW_some] <;> rfl), by first | exact Kd.R_nil _ _ _ _ _ | exact Kd.N_nil _ _ _ _ _ | exact Kd.V_nil _ _ _ _ _ | exact Kd.Q_nil _ _ _ _ _ | exact Kd.S_nil _ _ _ _ _, by repeat (first | (with_reducible first | exact HB.out | apply below_alloc | apply pw_below_drewN | apply below_drew1 | refine below_set ?_ GE1440.out) | exact HB.out)⟩
              · replace c10 := Bool.eq_false_iff.mpr c10
                subst c10
                have H1 : ((chartroomref01_Take.f kj3 l0 (wrap64 (x5_1 + 1))).bind fun bt1441 => (if (rd l0 x5_1) = 2 then ((chartroomref01_TakeText.f kj3 l0 (wrap64 (x5_1 + 1))).bind fun bt1444 => (chartroomref05_Parse.j2 kj3 l0 x4_1 bt1444.2.1 bt1444.2.2 (rd l0 x5_1) 0 bt1444.1)) else (chartroomref05_Parse.j2 kj3 l0 x4_1 bt1441.2.1 bt1441.2.2 (rd l0 x5_1) (wrap64 (mn bt1441.1 2147483648)) (⟨#[]⟩ : ByteArray)))) = some (r1, r2) := by rw [if_neg (show ¬ (false = true) by decide)] at H; exact H
                clear H
                have H := H1
                clear H1
                replace H := Option.bind_eq_some_iff.mp H
                obtain ⟨⟨t1441, t1442, t1443⟩, A110, H⟩ := H
                replace H : (if (rd l0 x5_1) = 2 then ((chartroomref01_TakeText.f kj3 l0 (wrap64 (x5_1 + 1))).bind fun bt1444 => (chartroomref05_Parse.j2 kj3 l0 x4_1 bt1444.2.1 bt1444.2.2 (rd l0 x5_1) 0 bt1444.1)) else (chartroomref05_Parse.j2 kj3 l0 x4_1 t1442 t1443 (rd l0 x5_1) (wrap64 (mn t1441 2147483648)) (⟨#[]⟩ : ByteArray))) = some (r1, r2) := H
                have A11 := Aside0.mk A110
                clear A110
                have HC12 := Aside0.mk H
                clear H
                go_upto_if 37 with (first | ((with_reducible refine gate_callee (f := 41) rfl ?_); refine goesL_ (some 31) rfl rfl Try.func41 (by kernel_rfl) rfl #[.slice (some ad1439) l0.length c0, .int .i64 (wrap64 (x5_1 + 1))] rfl (by (try simp only [List.map_toArray, List.map_cons, List.map_nil]); first | done | rfl | (simp only [List.length_drop, List.length_take]; rfl)) ?_; (with_reducible refine (chartroomref01_Take.calls kj3 _ _ l0 (wrap64 (x5_1 + 1)) t1441 t1442 t1443 _ ?side1 ?side2 A11.out).mono ?_); (case side1 => repeat (first | exact (Kd.C_below HR0.out HB.out) | (with_reducible refine Kd.C_alloc ?_ _) | (with_reducible refine Kd.C_drewN ?_ _) | (with_reducible refine Kd.C_drew ?_))); (case side2 => exact HC0.out); rintro e w13 ⟨rfl, hb⟩; refine ⟨_, rfl, ?_⟩; have n0_ := Aside0.mk (Kd.R_below (by (with_reducible repeat (first | apply Kd.R_alloc | apply Kd.R_drewN | apply Kd.R_drew)); exact HO_4.out) hb); have n1_ := Aside0.mk (blk_below (g := gb1440) (o := .cells #[.int .u8 (rd l0 x5_1), .int .i64 0, .string (⟨#[]⟩ : ByteArray)] 226 (0, 0)) (by (with_reducible repeat (first | refine blk_drewN ?_ _ | refine blk_drew ?_ | refine blk_alloc ?_ _)); exact BK1440.out) hb); have n2_ := Aside0.mk (below_step (by repeat (first | (with_reducible first | exact HB.out | apply below_alloc | apply pw_below_drewN | apply below_drew1 | refine below_set ?_ GE1440.out) | exact HB.out)) hb); clear HO_4; clear BK1440; clear HB; have HO_4 := n0_; have BK1440 := n1_; have HB := n2_; clear n0_ n1_ n2_; (try clear hb); (try clear hb2); (try clear hk); (try clear hi); have hcz14_0 : w13.cell? ⟨gb1440, 0, none⟩ = some (.int .u8 (rd l0 x5_1)) := (blk_cell BK1440.out 0).trans rfl; have hcz14_1 : w13.cell? ⟨gb1440, 1, none⟩ = some (.int .i64 0) := (blk_cell BK1440.out 1).trans rfl; have hcz14_2 : w13.cell? ⟨gb1440, 2, none⟩ = some (.string (⟨#[]⟩ : ByteArray)) := (blk_cell BK1440.out 2).trans rfl; have hfz14_0 := blk_frozen BK1440.out 0; have hfz14_1 := blk_frozen BK1440.out 1; have hfz14_2 := blk_frozen BK1440.out 2))
                (try simp only [Act.put, List.setIfInBounds_toArray, List.set_cons_zero, List.set_cons_succ])
                go_cut [8, 9] (fun v8 v9 wc => ∃ (kq : Nat) (x8_11 : Int) (x9_11 : Int) (x1441001_11 : Int) (x1441002_11 : ByteArray), v8 = .int .i64 x8_11 ∧ v9 = .int .i64 x9_11 ∧ Aside0 (chartroomref05_Parse.j2 kq l0 x4_1 x8_11 x9_11 (rd l0 x5_1) x1441001_11 x1441002_11 = some (r1, r2)) ∧ Aside0 (kq ≤ kj3) ∧ Aside0 (Kd.R k226 226 wc w.heap.size (fun k_ => k_ ≠ gb1440) u4 x4_1) ∧ Aside0 (wc.heap[gb1440]? = some (.cells #[.int .u8 (rd l0 x5_1), .int .i64 x1441001_11, .string x1441002_11] 226 (0, 0))) ∧ Aside0 (Below w.heap.size w wc))
                case first =>
                  have H := HC12.out
                  clear HC12
                  by_cases c15 : (rd l0 x5_1) = 2
                  · rw [if_pos c15] at H
                    have c15b0 : ((rd l0 x5_1) == 2) = true := beq_iff_eq.mpr c15
                    have c15b1 : ((rd l0 x5_1) != 2) = false := bne_eq_false_iff_eq.mpr c15
                    clear c15
                    (first | rw [c15b0] | (simp only [i64_w, i32_w]; rw [c15b0]) | skip)
                    replace H := Option.bind_eq_some_iff.mp H
                    obtain ⟨⟨t1444, t1445, t1446⟩, A160, H⟩ := H
                    replace H : (chartroomref05_Parse.j2 kj3 l0 x4_1 t1445 t1446 (rd l0 x5_1) 0 t1444) = some (r1, r2) := H
                    have A16 := Aside0.mk A160
                    clear A160
                    have H' := Aside0.mk H
                    clear H
                    go_wp2_with (first | ((with_reducible refine gate_callee (f := 43) rfl ?_); refine goesL_ (some 42) rfl rfl Try.func43 (by kernel_rfl) rfl #[.slice (some ad1439) l0.length c0, .int .i64 (wrap64 (x5_1 + 1))] rfl (by (try simp only [List.map_toArray, List.map_cons, List.map_nil]); first | done | rfl | (simp only [List.length_drop, List.length_take]; rfl)) ?_; (with_reducible refine (chartroomref01_TakeText.calls kj3 _ _ l0 (wrap64 (x5_1 + 1)) t1444 t1445 t1446 _ ?side1 ?side2 A16.out).mono ?_); (case side1 => repeat (first | exact (Kd.C_below HR0.out HB.out) | (with_reducible refine Kd.C_alloc ?_ _) | (with_reducible refine Kd.C_drewN ?_ _) | (with_reducible refine Kd.C_drew ?_))); (case side2 => exact HC0.out); rintro e w17 ⟨rfl, hb⟩; refine ⟨_, rfl, ?_⟩; have n0_ := Aside0.mk (Kd.R_below (by (with_reducible repeat (first | apply Kd.R_alloc | apply Kd.R_drewN | apply Kd.R_drew)); exact HO_4.out) hb); have n1_ := Aside0.mk (blk_below (g := gb1440) (o := .cells #[.int .u8 (rd l0 x5_1), .int .i64 0, .string (⟨#[]⟩ : ByteArray)] 226 (0, 0)) (by (with_reducible repeat (first | refine blk_drewN ?_ _ | refine blk_drew ?_ | refine blk_alloc ?_ _)); exact BK1440.out) hb); have n2_ := Aside0.mk (below_step (by repeat (first | (with_reducible first | exact HB.out | apply below_alloc | apply pw_below_drewN | apply below_drew1 | refine below_set ?_ GE1440.out) | exact HB.out)) hb); clear HO_4; clear BK1440; clear HB; have HO_4 := n0_; have BK1440 := n1_; have HB := n2_; clear n0_ n1_ n2_; (try clear hb); (try clear hb2); (try clear hk); (try clear hi); have hcz18_0 : w17.cell? ⟨gb1440, 0, none⟩ = some (.int .u8 (rd l0 x5_1)) := (blk_cell BK1440.out 0).trans rfl; have hcz18_1 : w17.cell? ⟨gb1440, 1, none⟩ = some (.int .i64 0) := (blk_cell BK1440.out 1).trans rfl; have hcz18_2 : w17.cell? ⟨gb1440, 2, none⟩ = some (.string (⟨#[]⟩ : ByteArray)) := (blk_cell BK1440.out 2).trans rfl; have hfz18_0 := blk_frozen BK1440.out 0; have hfz18_1 := blk_frozen BK1440.out 1; have hfz18_2 := blk_frozen BK1440.out 2))
                    go_meet
                    case rel => exact ⟨_, (t1445), (t1446), (0), (t1444), (by first | rfl | (simp; done) | (simp [*]; done)), (by first | rfl | (simp; done) | (simp [*]; done)), H', ⟨by have := HK1.out; have := HJ3.out; first | omega | exact Nat.le_refl _⟩, ⟨by (with_reducible repeat (first | apply Kd.R_alloc | apply Kd.R_drewN | apply Kd.R_drew)); exact Kd.R_mono (Kd.R_far (p := ⟨gb1440, 2, none⟩) (Kd.R_mono HO_4.out (fun k_ hk => (⟨hk, hk⟩ : _ ∧ k_ ≠ gb1440))) (fun _ hk => hk.2) (.string t1444)) (fun _ hk => hk.1)⟩, ⟨by (with_reducible repeat (first | refine blk_drewN ?_ _ | refine blk_drew ?_ | refine blk_alloc ?_ _)); refine blk_put (cs := #[.int .u8 (rd l0 x5_1), .int .i64 0, .string (⟨#[]⟩ : ByteArray)]) ?_ 2 _ rfl; (with_reducible repeat (first | refine blk_drewN ?_ _ | refine blk_drew ?_ | refine blk_alloc ?_ _)); exact BK1440.out⟩, ⟨by repeat (first | (with_reducible first | exact HB.out | apply below_alloc | apply pw_below_drewN | apply below_drew1 | refine below_set ?_ GE1440.out) | exact HB.out)⟩⟩
                  · rw [if_neg c15] at H
                    have c15b0 : ((rd l0 x5_1) == 2) = false := beq_eq_false_iff_ne.mpr c15
                    have c15b1 : ((rd l0 x5_1) != 2) = true := bne_iff_ne.mpr c15
                    (first | rw [c15b0] | (simp only [i64_w, i32_w]; rw [c15b0]) | skip)
                    obtain ⟨ji19, hji19⟩ : ∃ j_ : Int, (mn t1441 2147483648) = j_ := ⟨_, rfl⟩
                    replace H : (chartroomref05_Parse.j2 kj3 l0 x4_1 t1442 t1443 (rd l0 x5_1) (wrap64 (ji19)) (⟨#[]⟩ : ByteArray)) = some (r1, r2) := by first | (rw [hji19] at H; exact H) | (simp only [hji19] at H ⊢; exact H)
                    (try (have hji19h : ji19 ≤ 2147483648 := by (rw [← hji19]; unfold mn; (repeat' split) <;> omega)))
                    (try (have hji19g : ji19 ≤ 64 := by omega))
                    have hji19_ : (if 2147483648 < t1441 then 2147483648 else t1441) = ji19 := hji19
                    have H' := Aside0.mk H
                    clear H
                    have hcz20_0 : w13.cell? ⟨gb1440, 0, none⟩ = some (.int .u8 (rd l0 x5_1)) := (blk_cell BK1440.out 0).trans rfl
                    have hcz20_1 : w13.cell? ⟨gb1440, 1, none⟩ = some (.int .i64 0) := (blk_cell BK1440.out 1).trans rfl
                    have hcz20_2 : w13.cell? ⟨gb1440, 2, none⟩ = some (.string (⟨#[]⟩ : ByteArray)) := (blk_cell BK1440.out 2).trans rfl
                    have hfz20_0 := blk_frozen BK1440.out 0
                    have hfz20_1 := blk_frozen BK1440.out 1
                    have hfz20_2 := blk_frozen BK1440.out 2
                    go_wp2
                    go_meet
                    case rel => exact ⟨_, (t1442), (t1443), (wrap64 (ji19)), ((⟨#[]⟩ : ByteArray)), (by first | rfl | (simp; done) | (simp [*]; done)), (by first | rfl | (simp; done) | (simp [*]; done)), H', ⟨by have := HK1.out; have := HJ3.out; first | omega | exact Nat.le_refl _⟩, ⟨by (with_reducible repeat (first | apply Kd.R_alloc | apply Kd.R_drewN | apply Kd.R_drew)); exact Kd.R_mono (Kd.R_far (p := ⟨gb1440, 1, none⟩) (Kd.R_mono HO_4.out (fun k_ hk => (⟨hk, hk⟩ : _ ∧ k_ ≠ gb1440))) (fun _ hk => hk.2) (.int .i64 (wrap64 (ji19)))) (fun _ hk => hk.1)⟩, ⟨by (with_reducible repeat (first | refine blk_drewN ?_ _ | refine blk_drew ?_ | refine blk_alloc ?_ _)); refine blk_put (cs := #[.int .u8 (rd l0 x5_1), .int .i64 0, .string (⟨#[]⟩ : ByteArray)]) ?_ 1 _ rfl; (with_reducible repeat (first | refine blk_drewN ?_ _ | refine blk_drew ?_ | refine blk_alloc ?_ _)); exact BK1440.out⟩, ⟨by repeat (first | (with_reducible first | exact HB.out | apply below_alloc | apply pw_below_drewN | apply below_drew1 | refine below_set ?_ GE1440.out) | exact HB.out)⟩⟩
                case rest =>
                  clear HC12
                  try clear c1
                  try clear p1
                  try clear q1
                  try clear hx1
                  try clear c2
                  try clear c2b0
                  try clear p2
                  try clear c3
                  try clear c3b0
                  try clear c4
                  try clear p6
                  try clear c7
                  try clear c7b0
                  try clear c10
                  try clear c12
                  try clear p14
                  try clear q14
                  try clear hx14
                  try clear c15
                  try clear c15b0
                  try clear c15b1
                  try clear hcz14_0
                  try clear hcz14_1
                  try clear hcz14_2
                  try clear hcz18_0
                  try clear hcz18_1
                  try clear hcz18_2
                  try clear hcz20_0
                  try clear hcz20_1
                  try clear hcz20_2
                  try clear hcz6_0
                  try clear hcz6_1
                  try clear hcz6_2
                  try clear hcz8_0
                  try clear hcz8_1
                  try clear hcz8_2
                  try clear hcz9_0
                  try clear hcz9_1
                  try clear hcz9_2
                  try clear hfz14_0
                  try clear hfz14_1
                  try clear hfz14_2
                  try clear hfz18_0
                  try clear hfz18_1
                  try clear hfz18_2
                  try clear hfz20_0
                  try clear hfz20_1
                  try clear hfz20_2
                  try clear hfz6_0
                  try clear hfz6_1
                  try clear hfz6_2
                  try clear hfz8_0
                  try clear hfz8_1
                  try clear hfz8_2
                  try clear hfz9_0
                  try clear hfz9_1
                  try clear hfz9_2
                  try clear hx1439_0
                  try clear p1
                  try clear p1439
                  try clear p2
                  try clear q1
                  try clear q1439
                  obtain ⟨kq, x8_11, x9_11, x1441001_11, x1441002_11, rfl, rfl, HA, HJ11, HO_4, BK1440, HB⟩ := hcut
                  cases kq with
                  | zero => exact absurd HA.out (by simp [chartroomref05_Parse.j2])
                  | succ kj11 =>
                    have H := HA.out
                    clear HA
                    simp only [chartroomref05_Parse.j2] at H
                    by_cases c21 : x9_11 = 0
                    · rw [if_pos c21] at H
                      have c21b0 : (x9_11 == 0) = true := beq_iff_eq.mpr c21
                      have c21b1 : (x9_11 != 0) = false := bne_eq_false_iff_eq.mpr c21
                      clear c21
                      replace H := Option.bind_eq_some_iff.mp H
                      obtain ⟨t1447, A220, H⟩ := H
                      replace H : (if t1447 = true then (if x4_1.length < 4398046511104 then (chartroomref05_Parse.l0 kj11 l0 (x4_1 ++ [(⟨(rd l0 x5_1), x1441001_11, x1441002_11⟩ : S226)]) x8_11) else (none)) else (some (([] : List (S226)), 2))) = some (r1, r2) := H
                      have A22 := Aside0.mk A220
                      clear A220
                      by_cases c23 : t1447 = true
                      · subst c23
                        have H1 : (if x4_1.length < 4398046511104 then (chartroomref05_Parse.l0 kj11 l0 (x4_1 ++ [(⟨(rd l0 x5_1), x1441001_11, x1441002_11⟩ : S226)]) x8_11) else (none)) = some (r1, r2) := by rw [if_pos rfl] at H; exact H
                        clear H
                        have H := H1
                        clear H1
                        by_cases c24 : x4_1.length < 4398046511104
                        · rw [if_pos c24] at H
                          have LMc24 := Aside0.mk c24
                          clear c24
                          obtain ⟨y1448, hy1448⟩ : ∃ y_ : List (S226), y_ = (x4_1 ++ [(⟨(rd l0 x5_1), x1441001_11, x1441002_11⟩ : S226)]) := ⟨_, rfl⟩
                          replace H : (chartroomref05_Parse.l0 kj11 l0 y1448 x8_11) = some (r1, r2) := by first | (rw [hy1448]; with_reducible exact H) | (have H2_ := (Option.bind_some _ _).symm.trans H; rw [hy1448]; with_reducible exact H2_) | (have H2_ := (Option.bind_some _ _).symm.trans H; with_reducible exact H2_) | with_reducible exact H | (rw [hy1448]; exact H) | exact H
                          have Ny1448 := Aside0.mk hy1448
                          clear hy1448
                          have H' := Aside0.mk H
                          clear H
                          have hcz25_0 : wc.cell? ⟨gb1440, 0, none⟩ = some (.int .u8 (rd l0 x5_1)) := (blk_cell BK1440.out 0).trans rfl
                          have hcz25_1 : wc.cell? ⟨gb1440, 1, none⟩ = some (.int .i64 x1441001_11) := (blk_cell BK1440.out 1).trans rfl
                          have hcz25_2 : wc.cell? ⟨gb1440, 2, none⟩ = some (.string x1441002_11) := (blk_cell BK1440.out 2).trans rfl
                          have hfz25_0 := blk_frozen BK1440.out 0
                          have hfz25_1 := blk_frozen BK1440.out 1
                          have hfz25_2 := blk_frozen BK1440.out 2
                          go_wp2_with (first | ((with_reducible refine gate_callee (f := 175) rfl ?_); refine goesL_ (some 55) rfl rfl Try.func175 (by kernel_rfl) rfl #[.agg #[.int .u8 (rd l0 x5_1), .int .i64 x1441001_11, .string x1441002_11]] rfl (by (try simp only [List.map_toArray, List.map_cons, List.map_nil]); first | done | rfl | (simp only [List.length_drop, List.length_take]; rfl)) ?_; (with_reducible refine (chartroomref05_right.calls (rd l0 x5_1) x1441001_11 x1441002_11 true _ A22.out).mono ?_); rintro e w26 ⟨rfl, hb⟩; refine ⟨_, rfl, ?_⟩; have n0_ := Aside0.mk (Kd.R_below (by (with_reducible repeat (first | apply Kd.R_alloc | apply Kd.R_drewN | apply Kd.R_drew)); exact HO_4.out) hb); have n1_ := Aside0.mk (blk_below (g := gb1440) (o := .cells #[.int .u8 (rd l0 x5_1), .int .i64 x1441001_11, .string x1441002_11] 226 (0, 0)) (by (with_reducible repeat (first | refine blk_drewN ?_ _ | refine blk_drew ?_ | refine blk_alloc ?_ _)); exact BK1440.out) hb); have n2_ := Aside0.mk (below_step (by repeat (first | (with_reducible first | exact HB.out | apply below_alloc | apply pw_below_drewN | apply below_drew1 | refine below_set ?_ GE1440.out) | exact HB.out)) hb); clear HO_4; clear BK1440; clear HB; have HO_4 := n0_; have BK1440 := n1_; have HB := n2_; clear n0_ n1_ n2_; (try clear hb); (try clear hb2); (try clear hk); (try clear hi); have hcz27_0 : w26.cell? ⟨gb1440, 0, none⟩ = some (.int .u8 (rd l0 x5_1)) := (blk_cell BK1440.out 0).trans rfl; have hcz27_1 : w26.cell? ⟨gb1440, 1, none⟩ = some (.int .i64 x1441001_11) := (blk_cell BK1440.out 1).trans rfl; have hcz27_2 : w26.cell? ⟨gb1440, 2, none⟩ = some (.string x1441002_11) := (blk_cell BK1440.out 2).trans rfl; have hfz27_0 := blk_frozen BK1440.out 0; have hfz27_1 := blk_frozen BK1440.out 1; have hfz27_2 := blk_frozen BK1440.out 2) | ((with_reducible refine gate_builtin (b := .append) (xs := #[.tmp 57, .tmp 59]) rfl ?_); at_builtin; refine Kd.R_append k226 (w0 := w) w.heap.size rfl (.tmp 57) (.tmp 59) 135 226 (.agg #[(.int .u8 0), (.int .i64 0), (.string ⟨#[]⟩)]) 32 rfl Try.underlying135 info226 rfl (by decide) (by omega) u4 x4_1 (⟨(rd l0 x5_1), x1441001_11, x1441002_11⟩ : S226) [.int .u8 (rd l0 x5_1), .int .i64 x1441001_11, .string x1441002_11] (fun k_ => k_ ≠ gb1440) (fun _ => False) rfl rfl ?aP (fun _ hk => hk.elim) ?aF ?aO ?aB ?aS ?aL ?_; (case aP => exact k226_mkM _ _ _ (⟨(rd l0 x5_1), x1441001_11, x1441002_11⟩ : S226)); (case aB => exact (by repeat (first | (with_reducible first | exact HB.out | apply below_alloc | apply pw_below_drewN | apply below_drew1 | refine below_set ?_ GE1440.out) | exact HB.out))); (case aF => exact (fun k_ hk => Kd.freshB (g := gb1440) (o := .cells #[.int .u8 (rd l0 x5_1), .int .i64 x1441001_11, .string x1441002_11] 226 (0, 0)) (by (with_reducible repeat (first | refine blk_drewN ?_ _ | refine blk_drew ?_ | refine blk_alloc ?_ _)); exact BK1440.out) k_ hk)); (case aO => exact (by (with_reducible repeat (first | apply Kd.R_alloc | apply Kd.R_drewN | apply Kd.R_drew)); exact HO_4.out)); (case aS => exact (below_size (by repeat (first | (with_reducible first | exact HB.out | apply below_alloc | apply pw_below_drewN | apply below_drew1 | refine below_set ?_ GE1440.out) | exact HB.out)))); (case aL => have := LMc24.out; omega); intro v1449 w28 ho hb hg hat; rw [← Ny1448.out] at ho; have n0_ := Aside0.mk (blk_grown (g := gb1440) (o := .cells #[.int .u8 (rd l0 x5_1), .int .i64 x1441001_11, .string x1441002_11] 226 (0, 0)) (by (with_reducible repeat (first | refine blk_drewN ?_ _ | refine blk_drew ?_ | refine blk_alloc ?_ _)); exact BK1440.out) hg (Kd.R_away HO_4.out (fun _ hk => hk))); have n1_ := Aside0.mk (hb); have n2_ := Aside0.mk (ho); clear BK1440; clear HB; clear HO_4; have BK1440 := n0_; have HB := n1_; have HO1450 := n2_; clear n0_ n1_ n2_; clear ho hb hg hat))
                          go_roundg kj11
                          case measure => have := HK1.out; have := HJ3.out; have := HJ11.out; omega
                          case rel => exact ⟨(y1448), (x8_11), (by first | rfl | (simp; done) | (simp [*]; done)), H', ⟨by have := HK1.out; have := HJ3.out; have := HJ11.out; omega⟩, ⟨by (with_reducible repeat (first | apply Kd.R_alloc | apply Kd.R_drewN | apply Kd.R_drew)); exact Kd.R_mono HO1450.out (fun _ hk => trivial)⟩, ⟨by repeat (first | (with_reducible first | exact HB.out | apply below_alloc | apply pw_below_drewN | apply below_drew1 | refine below_set ?_ GE1440.out) | exact HB.out)⟩⟩
                        · rw [if_neg c24] at H
                          exact absurd H (by simp)
                      · replace c23 := Bool.eq_false_iff.mpr c23
                        subst c23
                        have H1 : (some (([] : List (S226)), 2)) = some (r1, r2) := by rw [if_neg (show ¬ (false = true) by decide)] at H; exact H
                        clear H
                        have H := H1
                        clear H1
                        simp only [Option.some.injEq, Prod.mk.injEq] at H
                        obtain ⟨rfl, rfl⟩ := H
                        have hcz29_0 : wc.cell? ⟨gb1440, 0, none⟩ = some (.int .u8 (rd l0 x5_1)) := (blk_cell BK1440.out 0).trans rfl
                        have hcz29_1 : wc.cell? ⟨gb1440, 1, none⟩ = some (.int .i64 x1441001_11) := (blk_cell BK1440.out 1).trans rfl
                        have hcz29_2 : wc.cell? ⟨gb1440, 2, none⟩ = some (.string x1441002_11) := (blk_cell BK1440.out 2).trans rfl
                        have hfz29_0 := blk_frozen BK1440.out 0
                        have hfz29_1 := blk_frozen BK1440.out 1
                        have hfz29_2 := blk_frozen BK1440.out 2
                        go_wp2_with (first | ((with_reducible refine gate_callee (f := 175) rfl ?_); refine goesL_ (some 55) rfl rfl Try.func175 (by kernel_rfl) rfl #[.agg #[.int .u8 (rd l0 x5_1), .int .i64 x1441001_11, .string x1441002_11]] rfl (by (try simp only [List.map_toArray, List.map_cons, List.map_nil]); first | done | rfl | (simp only [List.length_drop, List.length_take]; rfl)) ?_; (with_reducible refine (chartroomref05_right.calls (rd l0 x5_1) x1441001_11 x1441002_11 false _ A22.out).mono ?_); rintro e w30 ⟨rfl, hb⟩; refine ⟨_, rfl, ?_⟩; have n0_ := Aside0.mk (Kd.R_below (by (with_reducible repeat (first | apply Kd.R_alloc | apply Kd.R_drewN | apply Kd.R_drew)); exact HO_4.out) hb); have n1_ := Aside0.mk (blk_below (g := gb1440) (o := .cells #[.int .u8 (rd l0 x5_1), .int .i64 x1441001_11, .string x1441002_11] 226 (0, 0)) (by (with_reducible repeat (first | refine blk_drewN ?_ _ | refine blk_drew ?_ | refine blk_alloc ?_ _)); exact BK1440.out) hb); have n2_ := Aside0.mk (below_step (by repeat (first | (with_reducible first | exact HB.out | apply below_alloc | apply pw_below_drewN | apply below_drew1 | refine below_set ?_ GE1440.out) | exact HB.out)) hb); clear HO_4; clear BK1440; clear HB; have HO_4 := n0_; have BK1440 := n1_; have HB := n2_; clear n0_ n1_ n2_; (try clear hb); (try clear hb2); (try clear hk); (try clear hi)))
                        go_ret2
                        exact ⟨_, by first | rfl | (simp [errW_none, errW_some] <;> rfl) | (simp [*, errW_none, errW_some] <;> rfl), by first | exact Kd.R_nil _ _ _ _ _ | exact Kd.N_nil _ _ _ _ _ | exact Kd.V_nil _ _ _ _ _ | exact Kd.Q_nil _ _ _ _ _ | exact Kd.S_nil _ _ _ _ _, by repeat (first | (with_reducible first | exact HB.out | apply below_alloc | apply pw_below_drewN | apply below_drew1 | refine below_set ?_ GE1440.out) | exact HB.out)⟩
                    · rw [if_neg c21] at H
                      have c21b0 : (x9_11 == 0) = false := beq_eq_false_iff_ne.mpr c21
                      have c21b1 : (x9_11 != 0) = true := bne_iff_ne.mpr c21
                      simp only [Option.some.injEq, Prod.mk.injEq] at H
                      obtain ⟨rfl, rfl⟩ := H
                      go_wp2
                      go_ret2
                      exact ⟨_, by first | rfl | (simp [errW_none, errW_some] <;> rfl) | (simp [*, errW_none, errW_some] <;> rfl), by first | exact Kd.R_nil _ _ _ _ _ | exact Kd.N_nil _ _ _ _ _ | exact Kd.V_nil _ _ _ _ _ | exact Kd.Q_nil _ _ _ _ _ | exact Kd.S_nil _ _ _ _ _, by repeat (first | (with_reducible first | exact HB.out | apply below_alloc | apply pw_below_drewN | apply below_drew1 | refine below_set ?_ GE1440.out) | exact HB.out)⟩
        · rw [if_neg c3] at H
          exact absurd H (by simp)
      · rw [if_neg c2] at H
        have c2b0 : decide (x5_1 < (l0.length : Int)) = false := decide_eq_false c2
        clear c2
        simp only [Option.some.injEq, Prod.mk.injEq] at H
        obtain ⟨rfl, rfl⟩ := H
        go_wp2
        go_ret2
        exact ⟨_, by first | rfl | (simp [errW_none, errW_some] <;> rfl) | (simp [*, errW_none, errW_some] <;> rfl), by (with_reducible repeat (first | apply Kd.R_alloc | apply Kd.R_drewN | apply Kd.R_drew)); exact HO_4.out, by repeat (first | (with_reducible first | exact HB.out | apply below_alloc | apply pw_below_drewN | apply below_drew1) | exact HB.out)⟩
end Go.Proofs.Ytoeabgeglgiobaa.P
