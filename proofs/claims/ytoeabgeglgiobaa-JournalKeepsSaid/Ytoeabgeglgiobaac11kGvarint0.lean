/- What functions of the given program do, each as a plain Lean function that its call meets: printed by a program of this session out of the translation, checked by Lean. Its conditions: those of each theorem. -/
import Derived.Test.Ytoeabgeglgiobaac11kP0
namespace Go.Proofs.Ytoeabgeglgiobaa.P
open Go.RowKit Go.Proofs.YtoeabgeglgiobaaW.PrintWords Go.Proofs.YtoeabgeglgiobaaW.PrintLast Go.Proofs.YtoeabgeglgiobaaW.PrintMore
attribute [local go_sem] max2_int min2_int max_two min_two max_three min_three max_four min_four   -- for this text's walks alone
set_option linter.unusedVariables false
set_option linter.unusedSimpArgs false
/-! ### varint_Put: function 36 -/
def varint_Put.l0 : Nat → Int → List Int → Option (List Int)
  | 0, _, _ => none
  | k + 1, x0, x3 => if x0 ≥ 128 then (if x3.length < 140737488355328 then (varint_Put.l0 k (x0 / 128) (x3 ++ [Go.bits .or .u8 ((x0) % 256) 128])) else (none)) else (if x3.length < 140737488355328 then (some (x3 ++ [(x0) % 256])) else (none))
def varint_Put.f (k : Nat) (a0 : Int) : Option (List Int) := varint_Put.l0 k a0 ([] : List Int)
theorem varint_Put.mono_l : ∀ k, (∀ y0 y1, LeO (varint_Put.l0 k y0 y1) (varint_Put.l0 (k + 1) y0 y1))
  | 0 => fun _ _ r h => by simp [varint_Put.l0] at h
  | k + 1 => by
    have ih0 := varint_Put.mono_l k
    · intro y0 y1
      unfold varint_Put.l0
      repeat' first
      | (with_reducible exact ih0 _ _)
      | (with_reducible exact LeO.refl _)
      | (with_reducible exact LeO.none _)
      | (with_reducible refine LeO.ite ?_ ?_)
      | (with_reducible refine LeO.bind ?_ (fun _ => ?_))
      | exact ih0 _ _
      | exact LeO.none _
      | refine LeO.ite ?_ ?_
      | refine LeO.bind ?_ (fun _ => ?_)
theorem varint_Put.mono : ∀ a0 k, LeO (varint_Put.f k a0) (varint_Put.f (k + 1) a0) := by
  intro a0 k
  have ih0 := varint_Put.mono_l k
  unfold varint_Put.f
  repeat' first
      | (with_reducible exact ih0 _ _)
      | (with_reducible exact LeO.refl _)
      | (with_reducible exact LeO.none _)
      | (with_reducible refine LeO.ite ?_ ?_)
      | (with_reducible refine LeO.bind ?_ (fun _ => ?_))
      | exact ih0 _ _
      | exact LeO.none _
      | refine LeO.ite ?_ ?_
      | refine LeO.bind ?_ (fun _ => ?_)
set_option maxHeartbeats 8000000 in
set_option maxRecDepth 100000 in
theorem varint_Put.calls (k : Nat) (a0 : Int) (r : List Int) (w : World) (h : varint_Put.f k a0 = some r) :
    Calls Try.prog 36 #[.int .u64 a0] w fun e w' => ∃ v0_ : Value, e = .returned (v0_) ∧ Kd.R (Kd.int .u8) 5 w' w.heap.size (fun _ => True) v0_ r ∧ Below w.heap.size w w' := by
  have HB := Aside0.mk (Below.refl w.heap.size w)
  have H : (varint_Put.l0 k a0 ([] : List Int)) = some r := h
  clear h
  have H' := Aside0.mk H
  clear H
  go_enter Try.func36, Try.ntmps36
  go_wp2
  go_loopg [0, 3] k (fun kq v0 v3 w' => ∃ (x0_1 : Int) (x3_1 : List Int), v0 = .int .u64 x0_1 ∧ Aside0 (varint_Put.l0 kq x0_1 x3_1 = some r) ∧ Aside0 (kq ≤ k) ∧ Aside0 (Kd.R (Kd.int .u8) 5 w' w.heap.size (fun _ => True) v3 x3_1) ∧ Aside0 (Below w.heap.size w w'))
  case atStart => exact ⟨(a0), (([] : List Int)), (by first | rfl | (simp; done) | (simp [*]; done)), H', ⟨Nat.le_refl _⟩, ⟨by first | exact Kd.R_nil _ _ _ _ _ | exact Kd.N_nil _ _ _ _ _ | exact Kd.V_nil _ _ _ _ _ | exact Kd.Q_nil _ _ _ _ _ | exact Kd.S_nil _ _ _ _ _⟩, ⟨by repeat (first | (with_reducible first | exact HB.out | apply below_alloc | apply pw_below_drewN | apply below_drew1) | exact HB.out)⟩⟩
  case round =>
    clear H'
    obtain ⟨x0_1, x3_1, rfl, HA, HK1, HO_3, HB⟩ := hrel
    cases gk with
    | zero => exact absurd HA.out (by simp [varint_Put.l0])
    | succ k1 =>
      have H := HA.out
      clear HA
      simp only [varint_Put.l0] at H
      by_cases c2 : x0_1 ≥ 128
      · rw [if_pos c2] at H
        have c2b0 : decide (128 ≤ x0_1) = true := decide_eq_true c2
        clear c2
        by_cases c3 : x3_1.length < 140737488355328
        · rw [if_pos c3] at H
          have LMc3 := Aside0.mk c3
          clear c3
          obtain ⟨y101, hy101⟩ : ∃ y_ : List Int, y_ = (x3_1 ++ [Go.bits .or .u8 ((x0_1) % 256) 128]) := ⟨_, rfl⟩
          replace H : (varint_Put.l0 k1 (x0_1 / 128) y101) = some r := by first | (rw [hy101]; with_reducible exact H) | (have H2_ := (Option.bind_some _ _).symm.trans H; rw [hy101]; with_reducible exact H2_) | (have H2_ := (Option.bind_some _ _).symm.trans H; with_reducible exact H2_) | with_reducible exact H | (rw [hy101]; exact H) | exact H
          have Ny101 := Aside0.mk hy101
          clear hy101
          have H' := Aside0.mk H
          clear H
          go_wp2_with (first | ((with_reducible refine gate_builtin (b := .append) (xs := #[.tmp 8, .tmp 12]) rfl ?_); at_builtin; refine Kd.R_append (Kd.int .u8) (w0 := w) w.heap.size rfl (.tmp 8) (.tmp 12) 24 5 (.int .u8 0) 1 rfl Try.underlying24 info5 rfl (by decide) (by omega) u3 x3_1 (Go.bits .or .u8 ((x0_1) % 256) 128) [.int .u8 (Go.bits .or .u8 ((x0_1) % 256) 128)] (fun _ => True) (fun _ => False) rfl rfl ?aP (fun _ hk => hk.elim) ?aF ?aO ?aB ?aS ?aL ?_; (case aP => exact rfl); (case aB => exact (by repeat (first | (with_reducible first | exact HB.out | apply below_alloc | apply pw_below_drewN | apply below_drew1) | exact HB.out))); (case aF => exact (fun _ _ => trivial)); (case aO => exact (by (with_reducible repeat (first | apply Kd.R_alloc | apply Kd.R_drewN | apply Kd.R_drew)); exact HO_3.out)); (case aS => exact (below_size (by repeat (first | (with_reducible first | exact HB.out | apply below_alloc | apply pw_below_drewN | apply below_drew1) | exact HB.out)))); (case aL => have := LMc3.out; omega); intro v102 w4 ho hb hg hat; rw [← Ny101.out] at ho; have n0_ := Aside0.mk (hb); have n1_ := Aside0.mk (ho); clear HB; clear HO_3; have HB := n0_; have HO103 := n1_; clear n0_ n1_; clear ho hb hg hat))
          go_roundg k1
          case measure => have := HK1.out; omega
          case rel => exact ⟨(x0_1 / 128), (y101), (by first | rfl | (simp; done) | (simp [*]; done)), H', ⟨by have := HK1.out; omega⟩, ⟨by (with_reducible repeat (first | apply Kd.R_alloc | apply Kd.R_drewN | apply Kd.R_drew)); exact HO103.out⟩, ⟨by repeat (first | (with_reducible first | exact HB.out | apply below_alloc | apply pw_below_drewN | apply below_drew1) | exact HB.out)⟩⟩
        · rw [if_neg c3] at H
          exact absurd H (by simp)
      · rw [if_neg c2] at H
        have c2b0 : decide (128 ≤ x0_1) = false := decide_eq_false c2
        clear c2
        by_cases c5 : x3_1.length < 140737488355328
        · rw [if_pos c5] at H
          have LMc5 := Aside0.mk c5
          clear c5
          obtain ⟨y104, hy104⟩ : ∃ y_ : List Int, y_ = (x3_1 ++ [(x0_1) % 256]) := ⟨_, rfl⟩
          replace H : (some y104) = some r := by first | (rw [hy104]; with_reducible exact H) | (have H2_ := (Option.bind_some _ _).symm.trans H; rw [hy104]; with_reducible exact H2_) | (have H2_ := (Option.bind_some _ _).symm.trans H; with_reducible exact H2_) | with_reducible exact H | (rw [hy104]; exact H) | exact H
          have Ny104 := Aside0.mk hy104
          clear hy104
          obtain rfl := Option.some.inj H
          go_wp2_with (first | ((with_reducible refine gate_builtin (b := .append) (xs := #[.tmp 14, .tmp 17]) rfl ?_); at_builtin; refine Kd.R_append (Kd.int .u8) (w0 := w) w.heap.size rfl (.tmp 14) (.tmp 17) 24 5 (.int .u8 0) 1 rfl Try.underlying24 info5 rfl (by decide) (by omega) u3 x3_1 ((x0_1) % 256) [.int .u8 ((x0_1) % 256)] (fun _ => True) (fun _ => False) rfl rfl ?aP (fun _ hk => hk.elim) ?aF ?aO ?aB ?aS ?aL ?_; (case aP => exact rfl); (case aB => exact (by repeat (first | (with_reducible first | exact HB.out | apply below_alloc | apply pw_below_drewN | apply below_drew1) | exact HB.out))); (case aF => exact (fun _ _ => trivial)); (case aO => exact (by (with_reducible repeat (first | apply Kd.R_alloc | apply Kd.R_drewN | apply Kd.R_drew)); exact HO_3.out)); (case aS => exact (below_size (by repeat (first | (with_reducible first | exact HB.out | apply below_alloc | apply pw_below_drewN | apply below_drew1) | exact HB.out)))); (case aL => have := LMc5.out; omega); intro v105 w6 ho hb hg hat; rw [← Ny104.out] at ho; have n0_ := Aside0.mk (hb); have n1_ := Aside0.mk (ho); clear HB; clear HO_3; have HB := n0_; have HO106 := n1_; clear n0_ n1_; clear ho hb hg hat))
          go_ret
          exact ⟨_, by first | rfl | (simp [errW_none, errW_some] <;> rfl) | (simp [*, errW_none, errW_some] <;> rfl), by (with_reducible repeat (first | apply Kd.R_alloc | apply Kd.R_drewN | apply Kd.R_drew)); exact HO106.out, by repeat (first | (with_reducible first | exact HB.out | apply below_alloc | apply pw_below_drewN | apply below_drew1) | exact HB.out)⟩
        · rw [if_neg c5] at H
          exact absurd H (by simp)
/-! ### varint_Take: function 40 -/
def varint_Take.l0 : Nat → Int → Int → Int → List Int → Int → Int → Option (Int × Int × Int)
  | 0, _, _, _, _, _, _ => none
  | k + 1, x1, x4, x6, x21, x22, x23 => if x23 < x22 then (if 0 ≤ x23 then (if x23 < (x21.length : Int) then (if x23 = 9 then (if (rd x21 x23) > 1 then (some (0, x1, 11)) else (if (rd x21 x23) < 128 then (if (rd x21 x23) = 0 then (if x23 > 0 then (some (0, x1, 11)) else (if 0 ≤ (wrap64 (7 * x23)) then (some (Go.bits .or .u64 x4 (shl .u64 (IntKind.u64.wrap (Go.bits .andNot .u8 (rd x21 x23) 128)) (wrap64 (7 * x23))), wrap64 ((wrap64 (x1 + x23)) + 1), 0)) else (none))) else (if 0 ≤ (wrap64 (7 * x23)) then (some (Go.bits .or .u64 x4 (shl .u64 (IntKind.u64.wrap (Go.bits .andNot .u8 (rd x21 x23) 128)) (wrap64 (7 * x23))), wrap64 ((wrap64 (x1 + x23)) + 1), 0)) else (none))) else (if 0 ≤ (wrap64 (7 * x23)) then (varint_Take.l0 k x1 (Go.bits .or .u64 x4 (shl .u64 (IntKind.u64.wrap (Go.bits .andNot .u8 (rd x21 x23) 128)) (wrap64 (7 * x23)))) x6 x21 x22 (wrap64 (x23 + 1))) else (none)))) else (if (rd x21 x23) < 128 then (if (rd x21 x23) = 0 then (if x23 > 0 then (some (0, x1, 11)) else (if 0 ≤ (wrap64 (7 * x23)) then (some (Go.bits .or .u64 x4 (shl .u64 (IntKind.u64.wrap (Go.bits .andNot .u8 (rd x21 x23) 128)) (wrap64 (7 * x23))), wrap64 ((wrap64 (x1 + x23)) + 1), 0)) else (none))) else (if 0 ≤ (wrap64 (7 * x23)) then (some (Go.bits .or .u64 x4 (shl .u64 (IntKind.u64.wrap (Go.bits .andNot .u8 (rd x21 x23) 128)) (wrap64 (7 * x23))), wrap64 ((wrap64 (x1 + x23)) + 1), 0)) else (none))) else (if 0 ≤ (wrap64 (7 * x23)) then (varint_Take.l0 k x1 (Go.bits .or .u64 x4 (shl .u64 (IntKind.u64.wrap (Go.bits .andNot .u8 (rd x21 x23) 128)) (wrap64 (7 * x23)))) x6 x21 x22 (wrap64 (x23 + 1))) else (none)))) else (none)) else (none)) else (some (0, x1, x6))
def varint_Take.f (k : Nat) (l0 : List Int) (a1 : Int) : Option (Int × Int × Int) := if a1 < 0 then (some (0, a1, 10)) else (if a1 ≥ (l0.length : Int) then (some (0, a1, 10)) else (if 0 ≤ a1 then (if a1 ≤ (l0.length : Int) then (varint_Take.l0 k a1 0 10 (l0.drop (a1 : Int).toNat) ((l0.drop (a1 : Int).toNat).length : Int) 0) else (none)) else (none)))
theorem varint_Take.mono_l : ∀ k, (∀ y0 y1 y2 y3 y4 y5, LeO (varint_Take.l0 k y0 y1 y2 y3 y4 y5) (varint_Take.l0 (k + 1) y0 y1 y2 y3 y4 y5))
  | 0 => fun _ _ _ _ _ _ r h => by simp [varint_Take.l0] at h
  | k + 1 => by
    have ih0 := varint_Take.mono_l k
    · intro y0 y1 y2 y3 y4 y5
      unfold varint_Take.l0
      repeat' first
      | (with_reducible exact ih0 _ _ _ _ _ _)
      | (with_reducible exact LeO.refl _)
      | (with_reducible exact LeO.none _)
      | (with_reducible refine LeO.ite ?_ ?_)
      | (with_reducible refine LeO.bind ?_ (fun _ => ?_))
      | exact ih0 _ _ _ _ _ _
      | exact LeO.none _
      | refine LeO.ite ?_ ?_
      | refine LeO.bind ?_ (fun _ => ?_)
theorem varint_Take.mono : ∀ a0 a1 k, LeO (varint_Take.f k a0 a1) (varint_Take.f (k + 1) a0 a1) := by
  intro a0 a1 k
  have ih0 := varint_Take.mono_l k
  unfold varint_Take.f
  repeat' first
      | (with_reducible exact ih0 _ _ _ _ _ _)
      | (with_reducible exact LeO.refl _)
      | (with_reducible exact LeO.none _)
      | (with_reducible refine LeO.ite ?_ ?_)
      | (with_reducible refine LeO.bind ?_ (fun _ => ?_))
      | exact ih0 _ _ _ _ _ _
      | exact LeO.none _
      | refine LeO.ite ?_ ?_
      | refine LeO.bind ?_ (fun _ => ?_)
set_option maxHeartbeats 8000000 in
set_option maxRecDepth 100000 in
theorem varint_Take.calls (k : Nat) (A0 : Option Addr) (c0 : Nat) (l0 : List Int) (a1 : Int) (r1 : Int) (r2 : Int) (r3 : Int) (w : World) (hr0 : Kd.C (Kd.int .u8) w A0 l0.length l0) (hc0 : l0.length ≤ c0) (h : varint_Take.f k l0 a1 = some (r1, r2, r3)) :
    Calls Try.prog 40 #[.slice A0 l0.length c0, .int .i64 a1] w fun e w' => e = .returned (.tuple #[.int .u64 r1, .int .i64 r2, .int .i64 r3]) ∧ Drawn0 w w' := by
  have HR0 := Aside0.mk hr0
  have HC0 := Aside0.mk hc0
  clear hr0 hc0
  have H : (if a1 < 0 then (some (0, a1, 10)) else (if a1 ≥ (l0.length : Int) then (some (0, a1, 10)) else (if 0 ≤ a1 then (if a1 ≤ (l0.length : Int) then (varint_Take.l0 k a1 0 10 (l0.drop (a1 : Int).toNat) ((l0.drop (a1 : Int).toNat).length : Int) 0) else (none)) else (none)))) = some (r1, r2, r3) := h
  clear h
  by_cases c3 : a1 < 0
  · rw [if_pos c3] at H
    have c3b0 : decide (a1 < 0) = true := decide_eq_true c3
    clear c3
    simp only [Option.some.injEq, Prod.mk.injEq] at H
    obtain ⟨rfl, rfl, rfl⟩ := H
    go_enter Try.func40, Try.ntmps40
    go_wp2
    go_step3
    go_wp2
    repeat (go_step3; go_wp2)
    try rw [Exit.noGoto_ret]
    go_ret3
    exact ⟨by first | rfl | (simp; done) | (simp [*]; done), by repeat (first | exact Drawn0.refl _ | apply Drawn0.step)⟩
  · rw [if_neg c3] at H
    have c3b0 : decide (a1 < 0) = false := decide_eq_false c3
    clear c3
    by_cases c4 : a1 ≥ (l0.length : Int)
    · rw [if_pos c4] at H
      have c4b0 : decide ((l0.length : Int) ≤ a1) = true := decide_eq_true c4
      clear c4
      simp only [Option.some.injEq, Prod.mk.injEq] at H
      obtain ⟨rfl, rfl, rfl⟩ := H
      go_enter Try.func40, Try.ntmps40
      go_wp2
      go_step3
      go_wp2
      repeat (go_step3; go_wp2)
      try rw [Exit.noGoto_ret]
      go_ret3
      exact ⟨by first | rfl | (simp; done) | (simp [*]; done), by repeat (first | exact Drawn0.refl _ | apply Drawn0.step)⟩
    · rw [if_neg c4] at H
      have c4b0 : decide ((l0.length : Int) ≤ a1) = false := decide_eq_false c4
      clear c4
      by_cases c5 : 0 ≤ a1
      · rw [if_pos c5] at H
        have c5b0 := eq_true c5
        have c5b1 : decide (0 ≤ a1) = true := decide_eq_true c5
        clear c5
        by_cases c6 : a1 ≤ (l0.length : Int)
        · rw [if_pos c6] at H
          have c6b0 := eq_true c6
          have c6b1 : decide (a1 ≤ (l0.length : Int)) = true := decide_eq_true c6
          clear c6
          have H' := Aside0.mk H
          clear H
          obtain ⟨i07, hi07, _, hsz7, _⟩ := info_parts info5
          obtain ⟨A7, hcut7, hA7, hC7⟩ := print_drop_of (P := Try.prog) (Value.int .u8) 0 24 5 .i64 Try.underlying24 hi07 hsz7 A0 c0 l0 a1 (of_decide_eq_true (by first | (with_reducible assumption) | assumption)) (of_decide_eq_true (by first | (with_reducible assumption) | assumption)) HC0.out
          have HR115 := Aside0.mk (Kd.C_of_reads (h1 := fun _ => rfl) (hA7 _ (Kd.reads_of_C HR0.out)))
          have HC115 := Aside0.mk hC7
          clear hA7 hC7 hi07 hsz7
          go_enter Try.func40, Try.ntmps40
          go_wp2
          go_step3
          go_wp2
          repeat (go_step3; go_wp2)
          go_loopg [4, 6, 23] k (fun kq v4 v6 v23 w' => ∃ (x4_1 : Int) (x6_1 : Int) (x23_1 : Int), v4 = .int .u64 x4_1 ∧ v6 = .int .i64 x6_1 ∧ v23 = .int .i64 x23_1 ∧ Aside0 (varint_Take.l0 kq a1 x4_1 x6_1 (l0.drop (a1 : Int).toNat) ((l0.drop (a1 : Int).toNat).length : Int) x23_1 = some (r1, r2, r3)) ∧ Aside0 (kq ≤ k) ∧ Drawn0 w w')
          case atStart => exact ⟨(0), (10), (0), (by first | rfl | (simp; done) | (simp [*]; done)), (by first | rfl | (simp; done) | (simp [*]; done)), (by first | rfl | (simp; done) | (simp [*]; done)), H', ⟨Nat.le_refl _⟩, by repeat (first | exact Drawn0.refl _ | apply Drawn0.step)⟩
          case round =>
            clear H'
            try clear p2
            try clear c3
            try clear c3b0
            try clear c4
            try clear c4b0
            try clear c5
            try clear c5b0
            try clear c5b1
            try clear c6
            try clear c6b0
            try clear c6b1
            obtain ⟨x4_1, x6_1, x23_1, rfl, rfl, rfl, HA, HK1, ⟨m1, rfl⟩⟩ := hrel
            cases gk with
            | zero => exact absurd HA.out (by simp [varint_Take.l0])
            | succ k1 =>
              have H := HA.out
              clear HA
              simp only [varint_Take.l0] at H
              by_cases c8 : x23_1 < ((l0.drop (a1 : Int).toNat).length : Int)
              · rw [if_pos c8] at H
                have c8b0 : decide (x23_1 < ((l0.drop (a1 : Int).toNat).length : Int)) = true := decide_eq_true c8
                (try (have c8b1 : decide (x23_1 < ((l0.length - (a1 : Int).toNat : Nat) : Int)) = true := by simpa only [List.length_drop] using (decide_eq_true c8 : decide (x23_1 < ((l0.drop (a1 : Int).toNat).length : Int)) = true)))
                clear c8
                by_cases c9 : 0 ≤ x23_1
                · rw [if_pos c9] at H
                  have c9b0 : decide (0 ≤ x23_1) = true := decide_eq_true c9
                  clear c9
                  by_cases c10 : x23_1 < ((l0.drop (a1 : Int).toNat).length : Int)
                  · rw [if_pos c10] at H
                    have c10b0 : decide (x23_1 < ((l0.drop (a1 : Int).toNat).length : Int)) = true := decide_eq_true c10
                    (try (have c10b1 : decide (x23_1 < ((l0.length - (a1 : Int).toNat : Nat) : Int)) = true := by simpa only [List.length_drop] using (decide_eq_true c10 : decide (x23_1 < ((l0.drop (a1 : Int).toNat).length : Int)) = true)))
                    clear c10
                    by_cases c11 : x23_1 = 9
                    · rw [if_pos c11] at H
                      have c11b0 : (x23_1 == 9) = true := beq_iff_eq.mpr c11
                      have c11b1 : (x23_1 != 9) = false := bne_eq_false_iff_eq.mpr c11
                      clear c11
                      by_cases c12 : (rd (l0.drop (a1 : Int).toNat) x23_1) > 1
                      · rw [if_pos c12] at H
                        have c12b0 : decide (1 < (rd (l0.drop (a1 : Int).toNat) x23_1)) = true := decide_eq_true c12
                        clear c12
                        simp only [Option.some.injEq, Prod.mk.injEq] at H
                        obtain ⟨rfl, rfl, rfl⟩ := H
                        have p116 : 0 ≤ (x23_1 : Int) := of_decide_eq_true (by first | (with_reducible assumption) | assumption)
                        have q116 : x23_1 < ((l0.drop (a1 : Int).toNat).length : Int) := of_decide_eq_true (by first | (with_reducible assumption) | assumption)
                        obtain ⟨ad116, e116, hx116_0⟩ := Kd.at_int HR115.out x23_1 p116 q116
                        cases e116
                        replace p116 := eq_true p116
                        replace q116 := eq_true q116; (try (have qa116 := of_eq_true q116; simp only [List.length_drop] at qa116; replace qa116 := eq_true qa116))
                        go_wp2
                        repeat (go_step3; go_wp2)
                        try rw [Exit.noGoto_ret]
                        go_ret3
                        exact ⟨by first | rfl | (simp; done) | (simp [*]; done), by repeat (first | exact Drawn0.refl _ | apply Drawn0.step)⟩
                      · rw [if_neg c12] at H
                        have c12b0 : decide (1 < (rd (l0.drop (a1 : Int).toNat) x23_1)) = false := decide_eq_false c12
                        clear c12
                        by_cases c13 : (rd (l0.drop (a1 : Int).toNat) x23_1) < 128
                        · rw [if_pos c13] at H
                          have c13b0 : decide ((rd (l0.drop (a1 : Int).toNat) x23_1) < 128) = true := decide_eq_true c13
                          clear c13
                          by_cases c14 : (rd (l0.drop (a1 : Int).toNat) x23_1) = 0
                          · rw [if_pos c14] at H
                            have c14b0 : ((rd (l0.drop (a1 : Int).toNat) x23_1) == 0) = true := beq_iff_eq.mpr c14
                            have c14b1 : ((rd (l0.drop (a1 : Int).toNat) x23_1) != 0) = false := bne_eq_false_iff_eq.mpr c14
                            clear c14
                            by_cases c15 : x23_1 > 0
                            · rw [if_pos c15] at H
                              have c15b0 : decide (0 < x23_1) = true := decide_eq_true c15
                              clear c15
                              simp only [Option.some.injEq, Prod.mk.injEq] at H
                              obtain ⟨rfl, rfl, rfl⟩ := H
                              have p116 : 0 ≤ (x23_1 : Int) := of_decide_eq_true (by first | (with_reducible assumption) | assumption)
                              have q116 : x23_1 < ((l0.drop (a1 : Int).toNat).length : Int) := of_decide_eq_true (by first | (with_reducible assumption) | assumption)
                              obtain ⟨ad116, e116, hx116_0⟩ := Kd.at_int HR115.out x23_1 p116 q116
                              cases e116
                              replace p116 := eq_true p116
                              replace q116 := eq_true q116; (try (have qa116 := of_eq_true q116; simp only [List.length_drop] at qa116; replace qa116 := eq_true qa116))
                              go_wp2
                              repeat (go_step3; go_wp2)
                              try rw [Exit.noGoto_ret]
                              go_ret3
                              exact ⟨by first | rfl | (simp; done) | (simp [*]; done), by repeat (first | exact Drawn0.refl _ | apply Drawn0.step)⟩
                            · rw [if_neg c15] at H
                              have c15b0 : decide (0 < x23_1) = false := decide_eq_false c15
                              clear c15
                              obtain ⟨ji16, hji16⟩ : ∃ j_ : Int, (wrap64 (7 * x23_1)) = j_ := ⟨_, rfl⟩
                              replace H : (if 0 ≤ (ji16) then (some (Go.bits .or .u64 x4_1 (shl .u64 (IntKind.u64.wrap (Go.bits .andNot .u8 (rd (l0.drop (a1 : Int).toNat) x23_1) 128)) (ji16)), wrap64 ((wrap64 (a1 + x23_1)) + 1), 0)) else (none)) = some (r1, r2, r3) := by first | (rw [hji16] at H; exact H) | (simp only [hji16] at H ⊢; exact H)
                              have hji16w : (IntKind.i64.wrap (7 * x23_1)) = ji16 := (i64_w _).trans hji16
                              by_cases c17 : 0 ≤ (ji16)
                              · rw [if_pos c17] at H
                                have c17b0 := eq_true c17
                                have c17b1 : decide (0 ≤ (ji16)) = true := decide_eq_true c17
                                clear c17
                                obtain ⟨ji18, hji18⟩ : ∃ j_ : Int, (shl .u64 (IntKind.u64.wrap (Go.bits .andNot .u8 (rd (l0.drop (a1 : Int).toNat) x23_1) 128)) (ji16)) = j_ := ⟨_, rfl⟩
                                replace H : (some (Go.bits .or .u64 x4_1 (ji18), wrap64 ((wrap64 (a1 + x23_1)) + 1), 0)) = some (r1, r2, r3) := by first | (rw [hji18] at H; exact H) | (simp only [hji18] at H ⊢; exact H)
                                have hji18_ : (IntKind.u64.wrap ((IntKind.u64.wrap (Go.bits .andNot .u8 (rd (l0.drop (a1 : Int).toNat) x23_1) 128)) * 2 ^ min (ji16).toNat 64)) = ji18 := hji18
                                have hji18z : (ji16) ≤ 64 → (IntKind.u64.wrap ((IntKind.u64.wrap (Go.bits .andNot .u8 (rd (l0.drop (a1 : Int).toNat) x23_1) 128)) * 2 ^ (ji16).toNat)) = ji18 := shl_small hji18
                                simp only [Option.some.injEq, Prod.mk.injEq] at H
                                obtain ⟨rfl, rfl, rfl⟩ := H
                                have p116 : 0 ≤ (x23_1 : Int) := of_decide_eq_true (by first | (with_reducible assumption) | assumption)
                                have q116 : x23_1 < ((l0.drop (a1 : Int).toNat).length : Int) := of_decide_eq_true (by first | (with_reducible assumption) | assumption)
                                obtain ⟨ad116, e116, hx116_0⟩ := Kd.at_int HR115.out x23_1 p116 q116
                                cases e116
                                replace p116 := eq_true p116
                                replace q116 := eq_true q116; (try (have qa116 := of_eq_true q116; simp only [List.length_drop] at qa116; replace qa116 := eq_true qa116))
                                go_wp2
                                repeat (go_step3; go_wp2)
                                try rw [Exit.noGoto_ret]
                                go_ret3
                                exact ⟨by first | rfl | (simp; done) | (simp only [← hji16, ← hji18] <;> (first | rfl | simp)) | (simp [*]; done), by repeat (first | exact Drawn0.refl _ | apply Drawn0.step)⟩
                              · rw [if_neg c17] at H
                                exact absurd H (by simp)
                          · rw [if_neg c14] at H
                            have c14b0 : ((rd (l0.drop (a1 : Int).toNat) x23_1) == 0) = false := beq_eq_false_iff_ne.mpr c14
                            have c14b1 : ((rd (l0.drop (a1 : Int).toNat) x23_1) != 0) = true := bne_iff_ne.mpr c14
                            obtain ⟨ji19, hji19⟩ : ∃ j_ : Int, (wrap64 (7 * x23_1)) = j_ := ⟨_, rfl⟩
                            replace H : (if 0 ≤ (ji19) then (some (Go.bits .or .u64 x4_1 (shl .u64 (IntKind.u64.wrap (Go.bits .andNot .u8 (rd (l0.drop (a1 : Int).toNat) x23_1) 128)) (ji19)), wrap64 ((wrap64 (a1 + x23_1)) + 1), 0)) else (none)) = some (r1, r2, r3) := by first | (rw [hji19] at H; exact H) | (simp only [hji19] at H ⊢; exact H)
                            have hji19w : (IntKind.i64.wrap (7 * x23_1)) = ji19 := (i64_w _).trans hji19
                            by_cases c20 : 0 ≤ (ji19)
                            · rw [if_pos c20] at H
                              have c20b0 := eq_true c20
                              have c20b1 : decide (0 ≤ (ji19)) = true := decide_eq_true c20
                              clear c20
                              obtain ⟨ji21, hji21⟩ : ∃ j_ : Int, (shl .u64 (IntKind.u64.wrap (Go.bits .andNot .u8 (rd (l0.drop (a1 : Int).toNat) x23_1) 128)) (ji19)) = j_ := ⟨_, rfl⟩
                              replace H : (some (Go.bits .or .u64 x4_1 (ji21), wrap64 ((wrap64 (a1 + x23_1)) + 1), 0)) = some (r1, r2, r3) := by first | (rw [hji21] at H; exact H) | (simp only [hji21] at H ⊢; exact H)
                              have hji21_ : (IntKind.u64.wrap ((IntKind.u64.wrap (Go.bits .andNot .u8 (rd (l0.drop (a1 : Int).toNat) x23_1) 128)) * 2 ^ min (ji19).toNat 64)) = ji21 := hji21
                              have hji21z : (ji19) ≤ 64 → (IntKind.u64.wrap ((IntKind.u64.wrap (Go.bits .andNot .u8 (rd (l0.drop (a1 : Int).toNat) x23_1) 128)) * 2 ^ (ji19).toNat)) = ji21 := shl_small hji21
                              simp only [Option.some.injEq, Prod.mk.injEq] at H
                              obtain ⟨rfl, rfl, rfl⟩ := H
                              have p116 : 0 ≤ (x23_1 : Int) := of_decide_eq_true (by first | (with_reducible assumption) | assumption)
                              have q116 : x23_1 < ((l0.drop (a1 : Int).toNat).length : Int) := of_decide_eq_true (by first | (with_reducible assumption) | assumption)
                              obtain ⟨ad116, e116, hx116_0⟩ := Kd.at_int HR115.out x23_1 p116 q116
                              cases e116
                              replace p116 := eq_true p116
                              replace q116 := eq_true q116; (try (have qa116 := of_eq_true q116; simp only [List.length_drop] at qa116; replace qa116 := eq_true qa116))
                              go_wp2
                              repeat (go_step3; go_wp2)
                              try rw [Exit.noGoto_ret]
                              go_ret3
                              exact ⟨by first | rfl | (simp; done) | (simp only [← hji19, ← hji21] <;> (first | rfl | simp)) | (simp [*]; done), by repeat (first | exact Drawn0.refl _ | apply Drawn0.step)⟩
                            · rw [if_neg c20] at H
                              exact absurd H (by simp)
                        · rw [if_neg c13] at H
                          have c13b0 : decide ((rd (l0.drop (a1 : Int).toNat) x23_1) < 128) = false := decide_eq_false c13
                          clear c13
                          obtain ⟨ji22, hji22⟩ : ∃ j_ : Int, (wrap64 (7 * x23_1)) = j_ := ⟨_, rfl⟩
                          replace H : (if 0 ≤ (ji22) then (varint_Take.l0 k1 a1 (Go.bits .or .u64 x4_1 (shl .u64 (IntKind.u64.wrap (Go.bits .andNot .u8 (rd (l0.drop (a1 : Int).toNat) x23_1) 128)) (ji22))) x6_1 (l0.drop (a1 : Int).toNat) ((l0.drop (a1 : Int).toNat).length : Int) (wrap64 (x23_1 + 1))) else (none)) = some (r1, r2, r3) := by first | (rw [hji22] at H; exact H) | (simp only [hji22] at H ⊢; exact H)
                          have hji22w : (IntKind.i64.wrap (7 * x23_1)) = ji22 := (i64_w _).trans hji22
                          by_cases c23 : 0 ≤ (ji22)
                          · rw [if_pos c23] at H
                            have c23b0 := eq_true c23
                            have c23b1 : decide (0 ≤ (ji22)) = true := decide_eq_true c23
                            clear c23
                            obtain ⟨ji24, hji24⟩ : ∃ j_ : Int, (shl .u64 (IntKind.u64.wrap (Go.bits .andNot .u8 (rd (l0.drop (a1 : Int).toNat) x23_1) 128)) (ji22)) = j_ := ⟨_, rfl⟩
                            replace H : (varint_Take.l0 k1 a1 (Go.bits .or .u64 x4_1 (ji24)) x6_1 (l0.drop (a1 : Int).toNat) ((l0.drop (a1 : Int).toNat).length : Int) (wrap64 (x23_1 + 1))) = some (r1, r2, r3) := by first | (rw [hji24] at H; exact H) | (simp only [hji24] at H ⊢; exact H)
                            have hji24_ : (IntKind.u64.wrap ((IntKind.u64.wrap (Go.bits .andNot .u8 (rd (l0.drop (a1 : Int).toNat) x23_1) 128)) * 2 ^ min (ji22).toNat 64)) = ji24 := hji24
                            have hji24z : (ji22) ≤ 64 → (IntKind.u64.wrap ((IntKind.u64.wrap (Go.bits .andNot .u8 (rd (l0.drop (a1 : Int).toNat) x23_1) 128)) * 2 ^ (ji22).toNat)) = ji24 := shl_small hji24
                            have H' := Aside0.mk H
                            clear H
                            have p116 : 0 ≤ (x23_1 : Int) := of_decide_eq_true (by first | (with_reducible assumption) | assumption)
                            have q116 : x23_1 < ((l0.drop (a1 : Int).toNat).length : Int) := of_decide_eq_true (by first | (with_reducible assumption) | assumption)
                            obtain ⟨ad116, e116, hx116_0⟩ := Kd.at_int HR115.out x23_1 p116 q116
                            cases e116
                            replace p116 := eq_true p116
                            replace q116 := eq_true q116; (try (have qa116 := of_eq_true q116; simp only [List.length_drop] at qa116; replace qa116 := eq_true qa116))
                            go_wp2
                            repeat (go_step3; go_wp2)
                            go_roundg k1
                            case measure => have := HK1.out; omega
                            case rel => exact ⟨(Go.bits .or .u64 x4_1 (ji24)), (x6_1), (wrap64 (x23_1 + 1)), (by first | rfl | (simp; done) | (simp only [← hji24] <;> (first | rfl | simp)) | (simp [*]; done)), (by first | rfl | (simp; done) | (simp [*]; done)), (by first | rfl | (simp; done) | (simp [*]; done)), H', ⟨by have := HK1.out; omega⟩, by repeat (first | exact Drawn0.refl _ | apply Drawn0.step)⟩
                          · rw [if_neg c23] at H
                            exact absurd H (by simp)
                    · rw [if_neg c11] at H
                      have c11b0 : (x23_1 == 9) = false := beq_eq_false_iff_ne.mpr c11
                      have c11b1 : (x23_1 != 9) = true := bne_iff_ne.mpr c11
                      by_cases c25 : (rd (l0.drop (a1 : Int).toNat) x23_1) < 128
                      · rw [if_pos c25] at H
                        have c25b0 : decide ((rd (l0.drop (a1 : Int).toNat) x23_1) < 128) = true := decide_eq_true c25
                        clear c25
                        by_cases c26 : (rd (l0.drop (a1 : Int).toNat) x23_1) = 0
                        · rw [if_pos c26] at H
                          have c26b0 : ((rd (l0.drop (a1 : Int).toNat) x23_1) == 0) = true := beq_iff_eq.mpr c26
                          have c26b1 : ((rd (l0.drop (a1 : Int).toNat) x23_1) != 0) = false := bne_eq_false_iff_eq.mpr c26
                          clear c26
                          by_cases c27 : x23_1 > 0
                          · rw [if_pos c27] at H
                            have c27b0 : decide (0 < x23_1) = true := decide_eq_true c27
                            clear c27
                            simp only [Option.some.injEq, Prod.mk.injEq] at H
                            obtain ⟨rfl, rfl, rfl⟩ := H
                            have p116 : 0 ≤ (x23_1 : Int) := of_decide_eq_true (by first | (with_reducible assumption) | assumption)
                            have q116 : x23_1 < ((l0.drop (a1 : Int).toNat).length : Int) := of_decide_eq_true (by first | (with_reducible assumption) | assumption)
                            obtain ⟨ad116, e116, hx116_0⟩ := Kd.at_int HR115.out x23_1 p116 q116
                            cases e116
                            replace p116 := eq_true p116
                            replace q116 := eq_true q116; (try (have qa116 := of_eq_true q116; simp only [List.length_drop] at qa116; replace qa116 := eq_true qa116))
                            go_wp2
                            repeat (go_step3; go_wp2)
                            try rw [Exit.noGoto_ret]
                            go_ret3
                            exact ⟨by first | rfl | (simp; done) | (simp [*]; done), by repeat (first | exact Drawn0.refl _ | apply Drawn0.step)⟩
                          · rw [if_neg c27] at H
                            have c27b0 : decide (0 < x23_1) = false := decide_eq_false c27
                            clear c27
                            obtain ⟨ji28, hji28⟩ : ∃ j_ : Int, (wrap64 (7 * x23_1)) = j_ := ⟨_, rfl⟩
                            replace H : (if 0 ≤ (ji28) then (some (Go.bits .or .u64 x4_1 (shl .u64 (IntKind.u64.wrap (Go.bits .andNot .u8 (rd (l0.drop (a1 : Int).toNat) x23_1) 128)) (ji28)), wrap64 ((wrap64 (a1 + x23_1)) + 1), 0)) else (none)) = some (r1, r2, r3) := by first | (rw [hji28] at H; exact H) | (simp only [hji28] at H ⊢; exact H)
                            have hji28w : (IntKind.i64.wrap (7 * x23_1)) = ji28 := (i64_w _).trans hji28
                            by_cases c29 : 0 ≤ (ji28)
                            · rw [if_pos c29] at H
                              have c29b0 := eq_true c29
                              have c29b1 : decide (0 ≤ (ji28)) = true := decide_eq_true c29
                              clear c29
                              obtain ⟨ji30, hji30⟩ : ∃ j_ : Int, (shl .u64 (IntKind.u64.wrap (Go.bits .andNot .u8 (rd (l0.drop (a1 : Int).toNat) x23_1) 128)) (ji28)) = j_ := ⟨_, rfl⟩
                              replace H : (some (Go.bits .or .u64 x4_1 (ji30), wrap64 ((wrap64 (a1 + x23_1)) + 1), 0)) = some (r1, r2, r3) := by first | (rw [hji30] at H; exact H) | (simp only [hji30] at H ⊢; exact H)
                              have hji30_ : (IntKind.u64.wrap ((IntKind.u64.wrap (Go.bits .andNot .u8 (rd (l0.drop (a1 : Int).toNat) x23_1) 128)) * 2 ^ min (ji28).toNat 64)) = ji30 := hji30
                              have hji30z : (ji28) ≤ 64 → (IntKind.u64.wrap ((IntKind.u64.wrap (Go.bits .andNot .u8 (rd (l0.drop (a1 : Int).toNat) x23_1) 128)) * 2 ^ (ji28).toNat)) = ji30 := shl_small hji30
                              simp only [Option.some.injEq, Prod.mk.injEq] at H
                              obtain ⟨rfl, rfl, rfl⟩ := H
                              have p116 : 0 ≤ (x23_1 : Int) := of_decide_eq_true (by first | (with_reducible assumption) | assumption)
                              have q116 : x23_1 < ((l0.drop (a1 : Int).toNat).length : Int) := of_decide_eq_true (by first | (with_reducible assumption) | assumption)
                              obtain ⟨ad116, e116, hx116_0⟩ := Kd.at_int HR115.out x23_1 p116 q116
                              cases e116
                              replace p116 := eq_true p116
                              replace q116 := eq_true q116; (try (have qa116 := of_eq_true q116; simp only [List.length_drop] at qa116; replace qa116 := eq_true qa116))
                              go_wp2
                              repeat (go_step3; go_wp2)
                              try rw [Exit.noGoto_ret]
                              go_ret3
                              exact ⟨by first | rfl | (simp; done) | (simp only [← hji28, ← hji30] <;> (first | rfl | simp)) | (simp [*]; done), by repeat (first | exact Drawn0.refl _ | apply Drawn0.step)⟩
                            · rw [if_neg c29] at H
                              exact absurd H (by simp)
                        · rw [if_neg c26] at H
                          have c26b0 : ((rd (l0.drop (a1 : Int).toNat) x23_1) == 0) = false := beq_eq_false_iff_ne.mpr c26
                          have c26b1 : ((rd (l0.drop (a1 : Int).toNat) x23_1) != 0) = true := bne_iff_ne.mpr c26
                          obtain ⟨ji31, hji31⟩ : ∃ j_ : Int, (wrap64 (7 * x23_1)) = j_ := ⟨_, rfl⟩
                          replace H : (if 0 ≤ (ji31) then (some (Go.bits .or .u64 x4_1 (shl .u64 (IntKind.u64.wrap (Go.bits .andNot .u8 (rd (l0.drop (a1 : Int).toNat) x23_1) 128)) (ji31)), wrap64 ((wrap64 (a1 + x23_1)) + 1), 0)) else (none)) = some (r1, r2, r3) := by first | (rw [hji31] at H; exact H) | (simp only [hji31] at H ⊢; exact H)
                          have hji31w : (IntKind.i64.wrap (7 * x23_1)) = ji31 := (i64_w _).trans hji31
                          by_cases c32 : 0 ≤ (ji31)
                          · rw [if_pos c32] at H
                            have c32b0 := eq_true c32
                            have c32b1 : decide (0 ≤ (ji31)) = true := decide_eq_true c32
                            clear c32
                            obtain ⟨ji33, hji33⟩ : ∃ j_ : Int, (shl .u64 (IntKind.u64.wrap (Go.bits .andNot .u8 (rd (l0.drop (a1 : Int).toNat) x23_1) 128)) (ji31)) = j_ := ⟨_, rfl⟩
                            replace H : (some (Go.bits .or .u64 x4_1 (ji33), wrap64 ((wrap64 (a1 + x23_1)) + 1), 0)) = some (r1, r2, r3) := by first | (rw [hji33] at H; exact H) | (simp only [hji33] at H ⊢; exact H)
                            have hji33_ : (IntKind.u64.wrap ((IntKind.u64.wrap (Go.bits .andNot .u8 (rd (l0.drop (a1 : Int).toNat) x23_1) 128)) * 2 ^ min (ji31).toNat 64)) = ji33 := hji33
                            have hji33z : (ji31) ≤ 64 → (IntKind.u64.wrap ((IntKind.u64.wrap (Go.bits .andNot .u8 (rd (l0.drop (a1 : Int).toNat) x23_1) 128)) * 2 ^ (ji31).toNat)) = ji33 := shl_small hji33
                            simp only [Option.some.injEq, Prod.mk.injEq] at H
                            obtain ⟨rfl, rfl, rfl⟩ := H
                            have p116 : 0 ≤ (x23_1 : Int) := of_decide_eq_true (by first | (with_reducible assumption) | assumption)
                            have q116 : x23_1 < ((l0.drop (a1 : Int).toNat).length : Int) := of_decide_eq_true (by first | (with_reducible assumption) | assumption)
                            obtain ⟨ad116, e116, hx116_0⟩ := Kd.at_int HR115.out x23_1 p116 q116
                            cases e116
                            replace p116 := eq_true p116
                            replace q116 := eq_true q116; (try (have qa116 := of_eq_true q116; simp only [List.length_drop] at qa116; replace qa116 := eq_true qa116))
                            go_wp2
                            repeat (go_step3; go_wp2)
                            try rw [Exit.noGoto_ret]
                            go_ret3
                            exact ⟨by first | rfl | (simp; done) | (simp only [← hji31, ← hji33] <;> (first | rfl | simp)) | (simp [*]; done), by repeat (first | exact Drawn0.refl _ | apply Drawn0.step)⟩
                          · rw [if_neg c32] at H
                            exact absurd H (by simp)
                      · rw [if_neg c25] at H
                        have c25b0 : decide ((rd (l0.drop (a1 : Int).toNat) x23_1) < 128) = false := decide_eq_false c25
                        clear c25
                        obtain ⟨ji34, hji34⟩ : ∃ j_ : Int, (wrap64 (7 * x23_1)) = j_ := ⟨_, rfl⟩
                        replace H : (if 0 ≤ (ji34) then (varint_Take.l0 k1 a1 (Go.bits .or .u64 x4_1 (shl .u64 (IntKind.u64.wrap (Go.bits .andNot .u8 (rd (l0.drop (a1 : Int).toNat) x23_1) 128)) (ji34))) x6_1 (l0.drop (a1 : Int).toNat) ((l0.drop (a1 : Int).toNat).length : Int) (wrap64 (x23_1 + 1))) else (none)) = some (r1, r2, r3) := by first | (rw [hji34] at H; exact H) | (simp only [hji34] at H ⊢; exact H)
                        have hji34w : (IntKind.i64.wrap (7 * x23_1)) = ji34 := (i64_w _).trans hji34
                        by_cases c35 : 0 ≤ (ji34)
                        · rw [if_pos c35] at H
                          have c35b0 := eq_true c35
                          have c35b1 : decide (0 ≤ (ji34)) = true := decide_eq_true c35
                          clear c35
                          obtain ⟨ji36, hji36⟩ : ∃ j_ : Int, (shl .u64 (IntKind.u64.wrap (Go.bits .andNot .u8 (rd (l0.drop (a1 : Int).toNat) x23_1) 128)) (ji34)) = j_ := ⟨_, rfl⟩
                          replace H : (varint_Take.l0 k1 a1 (Go.bits .or .u64 x4_1 (ji36)) x6_1 (l0.drop (a1 : Int).toNat) ((l0.drop (a1 : Int).toNat).length : Int) (wrap64 (x23_1 + 1))) = some (r1, r2, r3) := by first | (rw [hji36] at H; exact H) | (simp only [hji36] at H ⊢; exact H)
                          have hji36_ : (IntKind.u64.wrap ((IntKind.u64.wrap (Go.bits .andNot .u8 (rd (l0.drop (a1 : Int).toNat) x23_1) 128)) * 2 ^ min (ji34).toNat 64)) = ji36 := hji36
                          have hji36z : (ji34) ≤ 64 → (IntKind.u64.wrap ((IntKind.u64.wrap (Go.bits .andNot .u8 (rd (l0.drop (a1 : Int).toNat) x23_1) 128)) * 2 ^ (ji34).toNat)) = ji36 := shl_small hji36
                          have H' := Aside0.mk H
                          clear H
                          have p116 : 0 ≤ (x23_1 : Int) := of_decide_eq_true (by first | (with_reducible assumption) | assumption)
                          have q116 : x23_1 < ((l0.drop (a1 : Int).toNat).length : Int) := of_decide_eq_true (by first | (with_reducible assumption) | assumption)
                          obtain ⟨ad116, e116, hx116_0⟩ := Kd.at_int HR115.out x23_1 p116 q116
                          cases e116
                          replace p116 := eq_true p116
                          replace q116 := eq_true q116; (try (have qa116 := of_eq_true q116; simp only [List.length_drop] at qa116; replace qa116 := eq_true qa116))
                          go_wp2
                          repeat (go_step3; go_wp2)
                          go_roundg k1
                          case measure => have := HK1.out; omega
                          case rel => exact ⟨(Go.bits .or .u64 x4_1 (ji36)), (x6_1), (wrap64 (x23_1 + 1)), (by first | rfl | (simp; done) | (simp only [← hji36] <;> (first | rfl | simp)) | (simp [*]; done)), (by first | rfl | (simp; done) | (simp [*]; done)), (by first | rfl | (simp; done) | (simp [*]; done)), H', ⟨by have := HK1.out; omega⟩, by repeat (first | exact Drawn0.refl _ | apply Drawn0.step)⟩
                        · rw [if_neg c35] at H
                          exact absurd H (by simp)
                  · rw [if_neg c10] at H
                    exact absurd H (by simp)
                · rw [if_neg c9] at H
                  exact absurd H (by simp)
              · rw [if_neg c8] at H
                have c8b0 : decide (x23_1 < ((l0.drop (a1 : Int).toNat).length : Int)) = false := decide_eq_false c8
                (try (have c8b1 : decide (x23_1 < ((l0.length - (a1 : Int).toNat : Nat) : Int)) = false := by simpa only [List.length_drop] using (decide_eq_false c8 : decide (x23_1 < ((l0.drop (a1 : Int).toNat).length : Int)) = false)))
                clear c8
                simp only [Option.some.injEq, Prod.mk.injEq] at H
                obtain ⟨rfl, rfl, rfl⟩ := H
                go_wp2
                repeat (go_step3; go_wp2)
                try rw [Exit.noGoto_ret]
                go_ret3
                exact ⟨by first | rfl | (simp; done) | (simp [*]; done), by repeat (first | exact Drawn0.refl _ | apply Drawn0.step)⟩
        · rw [if_neg c6] at H
          exact absurd H (by simp)
      · rw [if_neg c5] at H
        exact absurd H (by simp)
end Go.Proofs.Ytoeabgeglgiobaa.P
