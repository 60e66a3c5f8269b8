/- What functions of the given program do, each as a plain Lean function that its call meets: printed by a program of this session out of the translation, checked by Lean. Its conditions: those of each theorem. -/
import Derived.Test.Ytoeabgeglgiobaac5aP0
namespace Go.Proofs.Ytoeabgeglgiobaa.P
open Go.RowKit Go.Proofs.YtoeabgeglgiobaaW.PrintWords Go.Proofs.YtoeabgeglgiobaaW.PrintLast Go.Proofs.YtoeabgeglgiobaaW.PrintMore
attribute [local go_sem] max2_int min2_int max_two min_two max_three min_three max_four min_four   -- for this text's walks alone
set_option linter.unusedVariables false
set_option linter.unusedSimpArgs false
/-! ### chartroomref05_merge: function 177 -/
def chartroomref05_merge.l0 : Nat → List (S226) → Int → Option ((List (S226)) × Bool)
  | 0, _, _ => none
  | k + 1, x0, x4 => if (wrap64 (x4 + 1)) < (x0.length : Int) then (if 0 ≤ x4 then (if x4 < (x0.length : Int) then (if 0 ≤ (wrap64 (x4 + 1)) then (if x4 ≤ (x0.length : Int) then ((some (x0.take (x4 : Int).toNat : List (S226))).bind fun y369 => (if ([] : List (S226)).length + y369.length < 4398046511104 then ((some (([] : List (S226)) ++ y369 : List (S226))).bind fun y374 => (if ((rd_T226 x0 x4).f0) = ((rd_T226 x0 (wrap64 (x4 + 1))).f0) then (if ((rd_T226 x0 x4).f2).size + ((rd_T226 x0 (wrap64 (x4 + 1))).f2).size ≤ 9223372036854775807 then (if y374.length < 4398046511104 then ((some (y374 ++ [(⟨(rd_T226 x0 x4).f0, wrap64 (((rd_T226 x0 x4).f1) + ((rd_T226 x0 (wrap64 (x4 + 1))).f1)), ((rd_T226 x0 x4).f2) ++ ((rd_T226 x0 (wrap64 (x4 + 1))).f2)⟩ : S226)] : List (S226))).bind fun y377 => (if 0 ≤ (wrap64 (x4 + 2)) then (if (wrap64 (x4 + 2)) ≤ (x0.length : Int) then ((some (x0.drop ((wrap64 (x4 + 2)) : Int).toNat : List (S226))).bind fun y380 => (if y377.length + y380.length < 4398046511104 then (some ((y377 ++ y380), true)) else (none))) else (none)) else (none))) else (none)) else (none)) else (if ((rd_T226 x0 x4).f0) = 3 then (if ((rd_T226 x0 (wrap64 (x4 + 1))).f0) = 2 then ((some (([(⟨(rd_T226 x0 (wrap64 (x4 + 1))).f0, (rd_T226 x0 (wrap64 (x4 + 1))).f1, (rd_T226 x0 (wrap64 (x4 + 1))).f2⟩ : S226), (⟨(rd_T226 x0 x4).f0, (rd_T226 x0 x4).f1, (rd_T226 x0 x4).f2⟩ : S226)] : List (S226)) : List (S226))).bind fun y388 => (if y374.length + y388.length < 4398046511104 then ((some (y374 ++ y388 : List (S226))).bind fun y391 => (if 0 ≤ (wrap64 (x4 + 2)) then (if (wrap64 (x4 + 2)) ≤ (x0.length : Int) then ((some (x0.drop ((wrap64 (x4 + 2)) : Int).toNat : List (S226))).bind fun y394 => (if y391.length + y394.length < 4398046511104 then (some ((y391 ++ y394), true)) else (none))) else (none)) else (none))) else (none))) else (chartroomref05_merge.l0 k x0 (wrap64 (x4 + 1)))) else (chartroomref05_merge.l0 k x0 (wrap64 (x4 + 1)))))) else (none))) else (none)) else (none)) else (none)) else (none)) else (some (x0, false))
def chartroomref05_merge.f (k : Nat) (l0 : List (S226)) : Option ((List (S226)) × Bool) := chartroomref05_merge.l0 k l0 0
def chartroomref05_merge.T4 : Bool × List (List Nat × List Nat) := (true, [([], []), ([], []), ([0, 1], [0, 1]), ([2], [2]), ([], []), ([], []), ([5], [5]), ([4, 6], [4, 6]), ([7], [7]), ([], []), ([], []), ([9, 3, 0, 1, 2, 3, 9, 10], [3, 9]), ([10, 8, 11, 0, 1, 2, 3, 4, 5, 6, 7, 8, 9, 10, 11], [8, 10])])
def chartroomref05_merge.B4 : List Nat := [0, 0, 3, 7, 0, 0, 32, 112, 240, 0, 0, 1551, 4095]
theorem chartroomref05_merge.tab4 : rtab .any (opsOf Try.f177 4) = chartroomref05_merge.T4 := by kernel_rfl
theorem chartroomref05_merge.bits4 : waitsOk chartroomref05_merge.T4.2 chartroomref05_merge.B4 = true := by kernel_rfl
theorem merge_held {W : World} {base : Nat} {ok : Nat → Prop} {ad : Addr} {n c : Nat} {xs : List S226} (h : Kd.V k226 226 W base ok (.slice (some ad) n c) xs) (i j : Int) (p : 0 ≤ i) (q : i < (xs.length : Int)) (p' : 0 ≤ j) (q' : j < (xs.length : Int)) :
    W.cell? (ad.add (i.toNat * 3)) = some (.int .u8 ((rd_T226 xs i).f0)) ∧ W.cell? ⟨(ad.add (i.toNat * 3)).block, (ad.add (i.toNat * 3)).off + 1, none⟩ = some (.int .i64 ((rd_T226 xs i).f1)) ∧ W.cell? ⟨(ad.add (i.toNat * 3)).block, (ad.add (i.toNat * 3)).off + 2, none⟩ = some (.string ((rd_T226 xs i).f2)) ∧
    W.cell? (ad.add (j.toNat * 3)) = some (.int .u8 ((rd_T226 xs j).f0)) ∧ W.cell? ⟨(ad.add (j.toNat * 3)).block, (ad.add (j.toNat * 3)).off + 1, none⟩ = some (.int .i64 ((rd_T226 xs j).f1)) ∧ W.cell? ⟨(ad.add (j.toNat * 3)).block, (ad.add (j.toNat * 3)).off + 2, none⟩ = some (.string ((rd_T226 xs j).f2)) := by
  obtain ⟨a1, e1, x0, x1, x2⟩ := at_T226 (Kd.V_reads' h).2.2 i p q
  obtain ⟨a2, e2, y0, y1, y2⟩ := at_T226 (Kd.V_reads' h).2.2 j p' q'
  obtain rfl : ad = a1 := by injection e1
  obtain rfl : ad = a2 := by injection e2
  exact ⟨x0, x1, x2, y0, y1, y2⟩
set_option maxHeartbeats 8000000 in
set_option maxRecDepth 100000 in
theorem chartroomref05_merge.calls (k : Nat) (P0_ : Nat → Prop) (A0 : Option Addr) (c0 : Nat) (l0 : List (S226)) (r1 : List (S226)) (r2 : Bool) (w : World) (hs0 : Kd.V k226 226 w w.heap.size (fun k_ => P0_ k_) (.slice A0 l0.length c0) l0) (h : chartroomref05_merge.f k l0 = some (r1, r2)) :
    Calls Try.prog 177 #[.slice A0 l0.length c0] w fun e w' => ∃ v0_ : Value, e = .returned (.tuple #[v0_, .bool r2]) ∧ Kd.V k226 226 w' w.heap.size (fun k_ => (P0_ k_ ∨ w.heap.size ≤ k_)) v0_ r1 ∧ Below w.heap.size w w' := by
  have hu226 := Try.underlying226
  have HO0 := Aside0.mk (show Kd.V k226 226 w w.heap.size (fun k_ => (P0_ k_ ∨ w.heap.size ≤ k_)) (.slice A0 l0.length c0) l0 from Kd.V_mono hs0 (fun k_ hk => .inl hk))
  have HB := Aside0.mk (Below.refl w.heap.size w)
  have H : (chartroomref05_merge.l0 k l0 0) = some (r1, r2) := h
  clear h
  have H' := Aside0.mk H
  clear H
  go_enter Try.func177, Try.ntmps177
  go_wp2
  go_loopg [4] k (fun kq v4 w' => ∃ (x4_1 : Int), v4 = .int .i64 x4_1 ∧ Aside0 (chartroomref05_merge.l0 kq l0 x4_1 = some (r1, r2)) ∧ Aside0 (kq ≤ k) ∧ Aside0 (Kd.V k226 226 w' w.heap.size (fun k_ => (P0_ k_ ∨ w.heap.size ≤ k_)) (.slice A0 l0.length c0) l0) ∧ Aside0 (Below w.heap.size w w'))
  case atStart => exact ⟨(0), (by first | rfl | (simp; done) | (simp [*]; done)), H', ⟨Nat.le_refl _⟩, ⟨by (with_reducible repeat (first | apply Kd.V_alloc | apply Kd.V_drewN | apply Kd.V_drew)); exact HO0.out⟩, ⟨by repeat (first | (with_reducible first | exact HB.out | apply below_alloc | apply pw_below_drewN | apply below_drew1) | exact HB.out)⟩⟩
  case round =>
    clear H'
    try clear c1
    obtain ⟨x4_1, rfl, HA, HK1, HO_0, HB⟩ := hrel
    cases gk with
    | zero => exact absurd HA.out (by simp [chartroomref05_merge.l0])
    | succ k1 =>
      have H := HA.out
      clear HA
      simp only [chartroomref05_merge.l0] at H
      by_cases c2 : (wrap64 (x4_1 + 1)) < (l0.length : Int)
      · rw [if_pos c2] at H
        have c2b0 : decide ((wrap64 (x4_1 + 1)) < (l0.length : Int)) = true := decide_eq_true c2
        clear c2
        by_cases c3 : 0 ≤ x4_1
        · rw [if_pos c3] at H
          have c3b0 : decide (0 ≤ x4_1) = true := decide_eq_true c3
          clear c3
          by_cases c4 : x4_1 < (l0.length : Int)
          · rw [if_pos c4] at H
            have c4b0 : decide (x4_1 < (l0.length : Int)) = true := decide_eq_true c4
            clear c4
            obtain ⟨ji5, hji5⟩ : ∃ j_ : Int, (wrap64 (x4_1 + 1)) = j_ := ⟨_, rfl⟩
            replace H : (if 0 ≤ (ji5) then (if x4_1 ≤ (l0.length : Int) then ((some (l0.take (x4_1 : Int).toNat : List (S226))).bind fun y369 => (if ([] : List (S226)).length + y369.length < 4398046511104 then ((some (([] : List (S226)) ++ y369 : List (S226))).bind fun y374 => (if ((rd_T226 l0 x4_1).f0) = ((rd_T226 l0 (ji5)).f0) then (if ((rd_T226 l0 x4_1).f2).size + ((rd_T226 l0 (ji5)).f2).size ≤ 9223372036854775807 then (if y374.length < 4398046511104 then ((some (y374 ++ [(⟨(rd_T226 l0 x4_1).f0, wrap64 (((rd_T226 l0 x4_1).f1) + ((rd_T226 l0 (ji5)).f1)), ((rd_T226 l0 x4_1).f2) ++ ((rd_T226 l0 (ji5)).f2)⟩ : S226)] : List (S226))).bind fun y377 => (if 0 ≤ (wrap64 (x4_1 + 2)) then (if (wrap64 (x4_1 + 2)) ≤ (l0.length : Int) then ((some (l0.drop ((wrap64 (x4_1 + 2)) : Int).toNat : List (S226))).bind fun y380 => (if y377.length + y380.length < 4398046511104 then (some ((y377 ++ y380), true)) else (none))) else (none)) else (none))) else (none)) else (none)) else (if ((rd_T226 l0 x4_1).f0) = 3 then (if ((rd_T226 l0 (ji5)).f0) = 2 then ((some (([(⟨(rd_T226 l0 (ji5)).f0, (rd_T226 l0 (ji5)).f1, (rd_T226 l0 (ji5)).f2⟩ : S226), (⟨(rd_T226 l0 x4_1).f0, (rd_T226 l0 x4_1).f1, (rd_T226 l0 x4_1).f2⟩ : S226)] : List (S226)) : List (S226))).bind fun y388 => (if y374.length + y388.length < 4398046511104 then ((some (y374 ++ y388 : List (S226))).bind fun y391 => (if 0 ≤ (wrap64 (x4_1 + 2)) then (if (wrap64 (x4_1 + 2)) ≤ (l0.length : Int) then ((some (l0.drop ((wrap64 (x4_1 + 2)) : Int).toNat : List (S226))).bind fun y394 => (if y391.length + y394.length < 4398046511104 then (some ((y391 ++ y394), true)) else (none))) else (none)) else (none))) else (none))) else (chartroomref05_merge.l0 k1 l0 ji5)) else (chartroomref05_merge.l0 k1 l0 ji5)))) else (none))) else (none)) else (none)) = some (r1, r2) := by first | (rw [hji5] at H; exact H) | (simp only [hji5] at H ⊢; exact H)
            (try rw [hji5] at c2b0)
            have hji5w : (IntKind.i64.wrap (x4_1 + 1)) = ji5 := (i64_w _).trans hji5
            by_cases c6 : 0 ≤ (ji5)
            · rw [if_pos c6] at H
              have c6b0 : decide (0 ≤ (ji5)) = true := decide_eq_true c6
              clear c6
              have c7b0 := eq_true (of_decide_eq_true (by first | (with_reducible assumption) | assumption) : 0 ≤ x4_1)
              by_cases c8 : x4_1 ≤ (l0.length : Int)
              · rw [if_pos c8] at H
                have c8b0 := eq_true c8
                have c8b1 : decide (x4_1 ≤ (l0.length : Int)) = true := decide_eq_true c8
                clear c8
                obtain ⟨y369, hy369⟩ : ∃ y_ : List (S226), y_ = (l0.take (x4_1 : Int).toNat) := ⟨_, rfl⟩
                replace H : (if ([] : List (S226)).length + y369.length < 4398046511104 then ((some (([] : List (S226)) ++ y369 : List (S226))).bind fun y374 => (if ((rd_T226 l0 x4_1).f0) = ((rd_T226 l0 (ji5)).f0) then (if ((rd_T226 l0 x4_1).f2).size + ((rd_T226 l0 (ji5)).f2).size ≤ 9223372036854775807 then (if y374.length < 4398046511104 then ((some (y374 ++ [(⟨(rd_T226 l0 x4_1).f0, wrap64 (((rd_T226 l0 x4_1).f1) + ((rd_T226 l0 (ji5)).f1)), ((rd_T226 l0 x4_1).f2) ++ ((rd_T226 l0 (ji5)).f2)⟩ : S226)] : List (S226))).bind fun y377 => (if 0 ≤ (wrap64 (x4_1 + 2)) then (if (wrap64 (x4_1 + 2)) ≤ (l0.length : Int) then ((some (l0.drop ((wrap64 (x4_1 + 2)) : Int).toNat : List (S226))).bind fun y380 => (if y377.length + y380.length < 4398046511104 then (some ((y377 ++ y380), true)) else (none))) else (none)) else (none))) else (none)) else (none)) else (if ((rd_T226 l0 x4_1).f0) = 3 then (if ((rd_T226 l0 (ji5)).f0) = 2 then ((some (([(⟨(rd_T226 l0 (ji5)).f0, (rd_T226 l0 (ji5)).f1, (rd_T226 l0 (ji5)).f2⟩ : S226), (⟨(rd_T226 l0 x4_1).f0, (rd_T226 l0 x4_1).f1, (rd_T226 l0 x4_1).f2⟩ : S226)] : List (S226)) : List (S226))).bind fun y388 => (if y374.length + y388.length < 4398046511104 then ((some (y374 ++ y388 : List (S226))).bind fun y391 => (if 0 ≤ (wrap64 (x4_1 + 2)) then (if (wrap64 (x4_1 + 2)) ≤ (l0.length : Int) then ((some (l0.drop ((wrap64 (x4_1 + 2)) : Int).toNat : List (S226))).bind fun y394 => (if y391.length + y394.length < 4398046511104 then (some ((y391 ++ y394), true)) else (none))) else (none)) else (none))) else (none))) else (chartroomref05_merge.l0 k1 l0 ji5)) else (chartroomref05_merge.l0 k1 l0 ji5)))) else (none)) = some (r1, r2) := by first | (rw [hy369]; with_reducible exact H) | (have H2_ := (Option.bind_some _ _).symm.trans H; rw [hy369]; with_reducible exact H2_) | (have H2_ := (Option.bind_some _ _).symm.trans H; with_reducible exact H2_) | with_reducible exact H | (rw [hy369]; exact H) | exact H
                have Ny369 := Aside0.mk hy369
                clear hy369
                by_cases c9 : ([] : List (S226)).length + y369.length < 4398046511104
                · rw [if_pos c9] at H
                  have LMc9 := Aside0.mk c9
                  clear c9
                  obtain ⟨y374, hy374⟩ : ∃ y_ : List (S226), y_ = (([] : List (S226)) ++ y369) := ⟨_, rfl⟩
                  replace H : (if ((rd_T226 l0 x4_1).f0) = ((rd_T226 l0 (ji5)).f0) then (if ((rd_T226 l0 x4_1).f2).size + ((rd_T226 l0 (ji5)).f2).size ≤ 9223372036854775807 then (if y374.length < 4398046511104 then ((some (y374 ++ [(⟨(rd_T226 l0 x4_1).f0, wrap64 (((rd_T226 l0 x4_1).f1) + ((rd_T226 l0 (ji5)).f1)), ((rd_T226 l0 x4_1).f2) ++ ((rd_T226 l0 (ji5)).f2)⟩ : S226)] : List (S226))).bind fun y377 => (if 0 ≤ (wrap64 (x4_1 + 2)) then (if (wrap64 (x4_1 + 2)) ≤ (l0.length : Int) then ((some (l0.drop ((wrap64 (x4_1 + 2)) : Int).toNat : List (S226))).bind fun y380 => (if y377.length + y380.length < 4398046511104 then (some ((y377 ++ y380), true)) else (none))) else (none)) else (none))) else (none)) else (none)) else (if ((rd_T226 l0 x4_1).f0) = 3 then (if ((rd_T226 l0 (ji5)).f0) = 2 then ((some (([(⟨(rd_T226 l0 (ji5)).f0, (rd_T226 l0 (ji5)).f1, (rd_T226 l0 (ji5)).f2⟩ : S226), (⟨(rd_T226 l0 x4_1).f0, (rd_T226 l0 x4_1).f1, (rd_T226 l0 x4_1).f2⟩ : S226)] : List (S226)) : List (S226))).bind fun y388 => (if y374.length + y388.length < 4398046511104 then ((some (y374 ++ y388 : List (S226))).bind fun y391 => (if 0 ≤ (wrap64 (x4_1 + 2)) then (if (wrap64 (x4_1 + 2)) ≤ (l0.length : Int) then ((some (l0.drop ((wrap64 (x4_1 + 2)) : Int).toNat : List (S226))).bind fun y394 => (if y391.length + y394.length < 4398046511104 then (some ((y391 ++ y394), true)) else (none))) else (none)) else (none))) else (none))) else (chartroomref05_merge.l0 k1 l0 ji5)) else (chartroomref05_merge.l0 k1 l0 ji5))) = some (r1, r2) := by first | (rw [hy374]; with_reducible exact H) | (have H2_ := (Option.bind_some _ _).symm.trans H; rw [hy374]; with_reducible exact H2_) | (have H2_ := (Option.bind_some _ _).symm.trans H; with_reducible exact H2_) | with_reducible exact H | (rw [hy374]; exact H) | exact H
                  have Ny374 := Aside0.mk hy374
                  clear hy374
                  try go_wp2
                  (try (rw [drewN_self wr]; generalize hq_ : World.drewN wr _ = wr; have n0_ : Aside0 (Kd.V k226 226 wr w.heap.size (fun k_ => (P0_ k_ ∨ w.heap.size ≤ k_)) (.slice A0 l0.length c0) l0) := ⟨by rw [← hq_]; exact (by (with_reducible repeat (first | apply Kd.V_alloc | apply Kd.V_drewN | apply Kd.V_drew)); exact HO_0.out)⟩; have n1_ : Aside0 (Below w.heap.size w wr) := ⟨by rw [← hq_]; exact (by repeat (first | (with_reducible first | exact HB.out | apply below_alloc | apply pw_below_drewN | apply below_drew1) | exact HB.out))⟩; clear HO_0 HB hq_; have HO_0 := n0_; have HB := n1_; clear n0_ n1_))
                  have n0_ := Aside0.mk (Kd.V_drew HO_0.out)
                  have n1_ := Aside0.mk (below_drew1 HB.out)
                  clear HO_0
                  clear HB
                  have HO_0 := n0_
                  have HB := n1_
                  clear n0_ n1_
                  have p365 : 0 ≤ (x4_1 : Int) := of_decide_eq_true (by first | (with_reducible assumption) | assumption)
                  have q365 : x4_1 < (l0.length : Int) := of_decide_eq_true (by first | (with_reducible assumption) | assumption)
                  obtain ⟨ad365, e365, hx365_0, hx365_1, hx365_2⟩ := at_T226 (Kd.V_reads' HO_0.out).2.2 x4_1 p365 q365
                  cases e365
                  replace p365 := eq_true p365
                  replace q365 := eq_true q365
                  have p366 : 0 ≤ ((ji5) : Int) := of_decide_eq_true (by first | (with_reducible assumption) | assumption)
                  have q366 : (ji5) < (l0.length : Int) := of_decide_eq_true (by first | (with_reducible assumption) | assumption)
                  obtain ⟨ad366, e366, hx366_0, hx366_1, hx366_2⟩ := at_T226 (Kd.V_reads' HO_0.out).2.2 (ji5) p366 q366
                  obtain rfl : ad365 = ad366 := (by injection e366)
                  replace p366 := eq_true p366
                  replace q366 := eq_true q366
                  refine start_ (n := 13) (S := fun w' => w'.cell? (ad365.add ((x4_1).toNat * 3)) = some (.int .u8 ((rd_T226 l0 x4_1).f0)) ∧ w'.cell? ⟨(ad365.add ((x4_1).toNat * 3)).block, (ad365.add ((x4_1).toNat * 3)).off + 1, none⟩ = some (.int .i64 ((rd_T226 l0 x4_1).f1)) ∧ w'.cell? ⟨(ad365.add ((x4_1).toNat * 3)).block, (ad365.add ((x4_1).toNat * 3)).off + 2, none⟩ = some (.string ((rd_T226 l0 x4_1).f2)) ∧ w'.cell? (ad365.add (((ji5)).toNat * 3)) = some (.int .u8 ((rd_T226 l0 (ji5)).f0)) ∧ w'.cell? ⟨(ad365.add (((ji5)).toNat * 3)).block, (ad365.add (((ji5)).toNat * 3)).off + 1, none⟩ = some (.int .i64 ((rd_T226 l0 (ji5)).f1)) ∧ w'.cell? ⟨(ad365.add (((ji5)).toNat * 3)).block, (ad365.add (((ji5)).toNat * 3)).off + 2, none⟩ = some (.string ((rd_T226 l0 (ji5)).f2))) (ds := []) #[false, false, false, false, false, false, false, false, false, false, false, false, false] (by kernel_rfl) rfl rfl ⟨hx365_0, hx365_1, hx365_2, hx366_0, hx366_1, hx366_2⟩ (fun hHeld => ?_); refine with_tabW chartroomref05_merge.tab4 chartroomref05_merge.bits4 (fun HT_ HW_ => ?_)
                  generalize wr.drew = w17 at HO_0 HB hx365_0 hx365_1 hx365_2 hx366_0 hx366_1 hx366_2 hHeld ⊢
                  refine pure_ (i := 0) (N := some 15) (v := ?_) (a' := ?_) #[true, false, false, false, false, false, false, false, false, false, false, false, false] rfl rfl (any_of HT_.out (by kernel_rfl)) (fun _ _ _ h => h) (Or.inl ⟨by rfl, ?_⟩) ?_ ?_
                  rotate_left
                  · intro w'
                    go_simp
                    with_reducible rfl
                  rotate_left
                  · simp only [Act.put, List.setIfInBounds_toArray, List.set_cons_zero, List.set_cons_succ, i64_w, i32_w]
                    rfl
                  refine pure_ (i := 1) (N := some 16) (v := ?_) (a' := ?_) #[true, true, false, false, false, false, false, false, false, false, false, false, false] rfl rfl (any_of HT_.out (by kernel_rfl)) (fun _ _ _ h => h) (Or.inl ⟨by rfl, ?_⟩) ?_ ?_
                  rotate_left
                  · intro w'
                    go_simp
                    with_reducible rfl
                  rotate_left
                  · simp only [Act.put, List.setIfInBounds_toArray, List.set_cons_zero, List.set_cons_succ, i64_w, i32_w]
                    rfl
                  refine pure_ (i := 2) (N := some 17) (v := ?_) (a' := ?_) #[true, true, true, false, false, false, false, false, false, false, false, false, false] rfl rfl (any_of HT_.out (by kernel_rfl)) (fun _ _ _ h => h) (Or.inl ⟨by rfl, ?_⟩) ?_ ?_
                  rotate_left
                  · intro w'
                    go_simp
                    with_reducible rfl
                  rotate_left
                  · simp only [Act.put, List.setIfInBounds_toArray, List.set_cons_zero, List.set_cons_succ, i64_w, i32_w]
                    rfl
                  refine pure_ (i := 4) (N := some 19) (v := ?_) (a' := ?_) #[true, true, true, false, true, false, false, false, false, false, false, false, false] rfl rfl (any_of HT_.out (by kernel_rfl)) (fun _ _ _ h => h) (Or.inl ⟨by rfl, ?_⟩) ?_ ?_
                  rotate_left
                  · intro w'
                    go_simp
                    with_reducible rfl
                  rotate_left
                  · simp only [Act.put, List.setIfInBounds_toArray, List.set_cons_zero, List.set_cons_succ, i64_w, i32_w]
                    rfl
                  refine pure_ (i := 5) (N := some 20) (v := ?_) (a' := ?_) #[true, true, true, false, true, true, false, false, false, false, false, false, false] rfl rfl (any_of HT_.out (by kernel_rfl)) (fun _ _ _ h => h) (Or.inl ⟨by rfl, ?_⟩) ?_ ?_
                  rotate_left
                  · intro w'
                    go_simp
                    with_reducible rfl
                  rotate_left
                  · simp only [Act.put, List.setIfInBounds_toArray, List.set_cons_zero, List.set_cons_succ, i64_w, i32_w]
                    rfl
                  refine pure_ (i := 6) (N := some 21) (v := ?_) (a' := ?_) #[true, true, true, false, true, true, true, false, false, false, false, false, false] rfl rfl (any_of HT_.out (by kernel_rfl)) (fun _ _ _ h => h) (Or.inl ⟨by rfl, ?_⟩) ?_ ?_
                  rotate_left
                  · intro w'
                    go_simp
                    with_reducible rfl
                  rotate_left
                  · simp only [Act.put, List.setIfInBounds_toArray, List.set_cons_zero, List.set_cons_succ, i64_w, i32_w]
                    rfl
                  refine pure_ (i := 7) (N := some 22) (v := ?_) (a' := ?_) #[true, true, true, false, true, true, true, true, false, false, false, false, false] rfl rfl (any_of HT_.out (by kernel_rfl)) (fun _ _ _ h => h) (Or.inl ⟨by rfl, ?_⟩) ?_ ?_
                  rotate_left
                  · intro w'
                    go_simp
                    with_reducible rfl
                  rotate_left
                  · simp only [Act.put, List.setIfInBounds_toArray, List.set_cons_zero, List.set_cons_succ, i64_w, i32_w]
                    rfl
                  refine take_ (i := 3) (N := some 18) (v := ?_) (a' := ?_) #[true, true, true, true, true, true, true, true, false, false, false, false, false] rfl rfl (take_ofW HT_.out HW_.out (by kernel_rfl)) (fun _ _ _ h => h) (Or.inl ⟨by rfl, ?_⟩) hHeld ?_ ?_
                  rotate_left
                  · rintro w' ⟨s0, s1, s2, s3, s4, s5⟩
                    go_simp
                    with_reducible rfl
                  rotate_left
                  · simp only [Act.put, List.setIfInBounds_toArray, List.set_cons_zero, List.set_cons_succ, i64_w, i32_w]
                    rfl
                  refine take_ (i := 8) (N := some 23) (v := ?_) (a' := ?_) #[true, true, true, true, true, true, true, true, true, false, false, false, false] rfl rfl (take_ofW HT_.out HW_.out (by kernel_rfl)) (fun _ _ _ h => h) (Or.inl ⟨by rfl, ?_⟩) hHeld ?_ ?_
                  rotate_left
                  · rintro w' ⟨s0, s1, s2, s3, s4, s5⟩
                    go_simp
                    with_reducible rfl
                  rotate_left
                  · simp only [Act.put, List.setIfInBounds_toArray, List.set_cons_zero, List.set_cons_succ, i64_w, i32_w]
                    rfl
                  refine join_ (σ := Nat × Nat) 2 #[true, true, true, true, true, true, true, true, true, true, true, false, false] (fun s_ => [(5, .pointer (some ⟨s_.1, 0, none⟩)), (6, .pointer (some ⟨s_.2, 0, none⟩))]) (fun s_ w' => (w'.cell? (ad365.add ((x4_1).toNat * 3)) = some (.int .u8 ((rd_T226 l0 x4_1).f0)) ∧ w'.cell? ⟨(ad365.add ((x4_1).toNat * 3)).block, (ad365.add ((x4_1).toNat * 3)).off + 1, none⟩ = some (.int .i64 ((rd_T226 l0 x4_1).f1)) ∧ w'.cell? ⟨(ad365.add ((x4_1).toNat * 3)).block, (ad365.add ((x4_1).toNat * 3)).off + 2, none⟩ = some (.string ((rd_T226 l0 x4_1).f2)) ∧ w'.cell? (ad365.add (((ji5)).toNat * 3)) = some (.int .u8 ((rd_T226 l0 (ji5)).f0)) ∧ w'.cell? ⟨(ad365.add (((ji5)).toNat * 3)).block, (ad365.add (((ji5)).toNat * 3)).off + 1, none⟩ = some (.int .i64 ((rd_T226 l0 (ji5)).f1)) ∧ w'.cell? ⟨(ad365.add (((ji5)).toNat * 3)).block, (ad365.add (((ji5)).toNat * 3)).off + 2, none⟩ = some (.string ((rd_T226 l0 (ji5)).f2))) ∧ (Kd.V k226 226 w' w.heap.size (fun k_ => (P0_ k_ ∨ w.heap.size ≤ k_) ∧ k_ ≠ s_.1 ∧ k_ ≠ s_.2) (.slice (some ad365) l0.length c0) l0) ∧ (w'.heap[s_.1]? = some (.cells #[.int .u8 0, .int .i64 0, .string (⟨#[]⟩ : ByteArray)] 226 (0, 0))) ∧ (w'.heap[s_.2]? = some (.cells #[.int .u8 0, .int .i64 0, .string (⟨#[]⟩ : ByteArray)] 226 (0, 0))) ∧ (w.heap.size ≤ s_.1) ∧ (w.heap.size ≤ s_.1) ∧ (s_.2 ≠ s_.1) ∧ (s_.1 ≠ s_.2) ∧ (w.heap.size ≤ s_.2) ∧ (w.heap.size ≤ s_.2) ∧ (Below w.heap.size w w')) ?_ ?_
                  rotate_left
                  · intro hCont
                    refine two_ (i := 9) (j := 10) (Ni := some 5) (Nj := some 6) #[true, true, true, true, true, true, true, true, true, true, false, false, false] #[true, true, true, true, true, true, true, true, true, false, true, false, false] rfl rfl rfl rfl (two_of HT_.out (by kernel_rfl)) (by decide) (by decide) (fun K hK => ?_) (fun K hK => ?_)
                    · skip
                      refine box_step ?hg (N := 5) ?hd (cs := #[.int .u8 0, .int .i64 0, .string (⟨#[]⟩ : ByteArray)]) (t := 226) ?hr ?_; (case hd => rfl); (case hg => rfl); (case hr => first | (go_simp; done) | (go_simp; rfl))
                      intro gb367 hg w18 hbox hb
                      have HS0_ := (hb.cell (World.block_lt_of_cell? _ _ (hHeld.1))).trans (hHeld.1)
                      have HS1_ := (hb.cell (World.block_lt_of_cell? _ _ (hHeld.2.1))).trans (hHeld.2.1)
                      have HS2_ := (hb.cell (World.block_lt_of_cell? _ _ (hHeld.2.2.1))).trans (hHeld.2.2.1)
                      have HS3_ := (hb.cell (World.block_lt_of_cell? _ _ (hHeld.2.2.2.1))).trans (hHeld.2.2.2.1)
                      have HS4_ := (hb.cell (World.block_lt_of_cell? _ _ (hHeld.2.2.2.2.1))).trans (hHeld.2.2.2.2.1)
                      have HS5_ := (hb.cell (World.block_lt_of_cell? _ _ (hHeld.2.2.2.2.2))).trans (hHeld.2.2.2.2.2)
                      have n0_ := Aside0.mk (Kd.V_below (Kd.V_elderB (by (with_reducible repeat (first | apply Kd.V_alloc | apply Kd.V_drewN | apply Kd.V_drew)); exact HO_0.out) gb367 (Nat.le_of_eq hg.symm)) hb)
                      have n1_ := Aside0.mk (below_step (by repeat (first | (with_reducible first | exact HB.out | apply below_alloc | apply pw_below_drewN | apply below_drew1) | exact HB.out)) hb)
                      have n2_ := Aside0.mk (hbox)
                      have n3_ := Aside0.mk ((by rw [hg]; exact (below_size (by repeat (first | (with_reducible first | exact HB.out | apply below_alloc | apply pw_below_drewN | apply below_drew1) | exact HB.out))) : w.heap.size ≤ gb367))
                      have n4_ := Aside0.mk ((by rw [hg]; exact (below_size (by repeat (first | (with_reducible first | exact HB.out | apply below_alloc | apply pw_below_drewN | apply below_drew1) | exact HB.out))) : w.heap.size ≤ gb367))
                      clear HO_0
                      clear HB
                      have HO_0 := n0_
                      have HB := n1_
                      have BK367 := n2_
                      have GW367 := n3_
                      have GE367 := n4_
                      clear n0_ n1_ n2_ n3_ n4_
                      clear hb hbox hg
                      refine hK.out _ _ ⟨HS0_, HS1_, HS2_, HS3_, HS4_, HS5_⟩ (fun hHeld => ?_)
                      clear hK K
                      refine norm_ (a' := ?_) ?_ ?_
                      rotate_left
                      · show Act.put _ (some 5) _ = _
                        simp only [Act.put, List.setIfInBounds_toArray, List.set_cons_zero, List.set_cons_succ, i64_w, i32_w]
                        rfl
                      refine one_ (i := 10) (N := some 6) #[true, true, true, true, true, true, true, true, true, true, true, false, false] rfl rfl (one_of HT_.out (by kernel_rfl)) (by decide) (fun K hK => ?_)
                      refine box_step ?hg (N := 6) ?hd (cs := #[.int .u8 0, .int .i64 0, .string (⟨#[]⟩ : ByteArray)]) (t := 226) ?hr ?_; (case hd => rfl); (case hg => rfl); (case hr => first | (go_simp; done) | (go_simp; rfl))
                      intro gb368 hg w19 hbox hb
                      have HS0_ := (hb.cell (World.block_lt_of_cell? _ _ (hHeld.1))).trans (hHeld.1)
                      have HS1_ := (hb.cell (World.block_lt_of_cell? _ _ (hHeld.2.1))).trans (hHeld.2.1)
                      have HS2_ := (hb.cell (World.block_lt_of_cell? _ _ (hHeld.2.2.1))).trans (hHeld.2.2.1)
                      have HS3_ := (hb.cell (World.block_lt_of_cell? _ _ (hHeld.2.2.2.1))).trans (hHeld.2.2.2.1)
                      have HS4_ := (hb.cell (World.block_lt_of_cell? _ _ (hHeld.2.2.2.2.1))).trans (hHeld.2.2.2.2.1)
                      have HS5_ := (hb.cell (World.block_lt_of_cell? _ _ (hHeld.2.2.2.2.2))).trans (hHeld.2.2.2.2.2)
                      have n0_ := Aside0.mk (Kd.V_below (Kd.V_elderB (by (with_reducible repeat (first | apply Kd.V_alloc | apply Kd.V_drewN | apply Kd.V_drew)); exact HO_0.out) gb368 (Nat.le_of_eq hg.symm)) hb)
                      have n1_ := Aside0.mk (blk_below (g := gb367) (o := .cells #[.int .u8 0, .int .i64 0, .string (⟨#[]⟩ : ByteArray)] 226 (0, 0)) (by (with_reducible repeat (first | refine blk_drewN ?_ _ | refine blk_drew ?_ | refine blk_alloc ?_ _)); exact BK367.out) hb)
                      have n2_ := Aside0.mk (below_step (by repeat (first | (with_reducible first | exact HB.out | apply below_alloc | apply pw_below_drewN | apply below_drew1 | refine below_set ?_ GE367.out) | exact HB.out)) hb)
                      have n3_ := Aside0.mk (hbox)
                      have n4_ := Aside0.mk ((by rw [hg]; exact (below_size (by repeat (first | (with_reducible first | exact HB.out | apply below_alloc | apply pw_below_drewN | apply below_drew1 | refine below_set ?_ GE367.out) | exact HB.out))) : w.heap.size ≤ gb368))
                      have n5_ := Aside0.mk ((by rw [hg]; exact (below_size (by repeat (first | (with_reducible first | exact HB.out | apply below_alloc | apply pw_below_drewN | apply below_drew1 | refine below_set ?_ GE367.out) | exact HB.out))) : w.heap.size ≤ gb368))
                      have n6_ := Aside0.mk ((by rw [hg]; exact Nat.ne_of_lt (blk_lt (g := gb367) (o := .cells #[.int .u8 0, .int .i64 0, .string (⟨#[]⟩ : ByteArray)] 226 (0, 0)) (by (with_reducible repeat (first | refine blk_drewN ?_ _ | refine blk_drew ?_ | refine blk_alloc ?_ _)); exact BK367.out)) : gb367 ≠ gb368))
                      have n7_ := Aside0.mk ((by rw [hg]; exact Nat.ne_of_gt (blk_lt (g := gb367) (o := .cells #[.int .u8 0, .int .i64 0, .string (⟨#[]⟩ : ByteArray)] 226 (0, 0)) (by (with_reducible repeat (first | refine blk_drewN ?_ _ | refine blk_drew ?_ | refine blk_alloc ?_ _)); exact BK367.out)) : gb368 ≠ gb367))
                      clear HO_0
                      clear BK367
                      clear HB
                      have HO_0 := n0_
                      have BK367 := n1_
                      have HB := n2_
                      have BK368 := n3_
                      have GW368 := n4_
                      have GE368 := n5_
                      have NB367_368 := n6_
                      have NB368_367 := n7_
                      clear n0_ n1_ n2_ n3_ n4_ n5_ n6_ n7_
                      clear hb hbox hg
                      refine hK.out _ _ ⟨HS0_, HS1_, HS2_, HS3_, HS4_, HS5_⟩ (fun hHeld => ?_)
                      clear hK K
                      refine norm_ (a' := ?_) ?_ ?_
                      rotate_left
                      · show Act.put _ (some 6) _ = _
                        simp only [Act.put, List.setIfInBounds_toArray, List.set_cons_zero, List.set_cons_succ, i64_w, i32_w]
                        rfl
                      exact norm_ (by simp only [putAll, Act.put, List.setIfInBounds_toArray, List.set_cons_zero, List.set_cons_succ]) (hCont (gb367, gb368) _ ⟨hHeld, (by (with_reducible repeat (first | apply Kd.V_alloc | apply Kd.V_drewN | apply Kd.V_drew)); exact Kd.V_mono HO_0.out (fun _ hk => ⟨hk.1.1, ⟨hk.1.2, hk.2⟩⟩)), (by (with_reducible repeat (first | refine blk_drewN ?_ _ | refine blk_drew ?_ | refine blk_alloc ?_ _)); exact BK367.out), (by (with_reducible repeat (first | refine blk_drewN ?_ _ | refine blk_drew ?_ | refine blk_alloc ?_ _)); exact BK368.out), GW367.out, GE367.out, NB368_367.out, NB367_368.out, GW368.out, GE368.out, (by repeat (first | (with_reducible first | exact HB.out | apply below_alloc | apply pw_below_drewN | apply below_drew1 | refine below_set ?_ GE367.out | refine below_set ?_ GE368.out) | exact HB.out))⟩)
                    · skip
                      refine box_step ?hg (N := 6) ?hd (cs := #[.int .u8 0, .int .i64 0, .string (⟨#[]⟩ : ByteArray)]) (t := 226) ?hr ?_; (case hd => rfl); (case hg => rfl); (case hr => first | (go_simp; done) | (go_simp; rfl))
                      intro gb368 hg w18 hbox hb
                      have HS0_ := (hb.cell (World.block_lt_of_cell? _ _ (hHeld.1))).trans (hHeld.1)
                      have HS1_ := (hb.cell (World.block_lt_of_cell? _ _ (hHeld.2.1))).trans (hHeld.2.1)
                      have HS2_ := (hb.cell (World.block_lt_of_cell? _ _ (hHeld.2.2.1))).trans (hHeld.2.2.1)
                      have HS3_ := (hb.cell (World.block_lt_of_cell? _ _ (hHeld.2.2.2.1))).trans (hHeld.2.2.2.1)
                      have HS4_ := (hb.cell (World.block_lt_of_cell? _ _ (hHeld.2.2.2.2.1))).trans (hHeld.2.2.2.2.1)
                      have HS5_ := (hb.cell (World.block_lt_of_cell? _ _ (hHeld.2.2.2.2.2))).trans (hHeld.2.2.2.2.2)
                      have n0_ := Aside0.mk (Kd.V_below (Kd.V_elderB (by (with_reducible repeat (first | apply Kd.V_alloc | apply Kd.V_drewN | apply Kd.V_drew)); exact HO_0.out) gb368 (Nat.le_of_eq hg.symm)) hb)
                      have n1_ := Aside0.mk (below_step (by repeat (first | (with_reducible first | exact HB.out | apply below_alloc | apply pw_below_drewN | apply below_drew1) | exact HB.out)) hb)
                      have n2_ := Aside0.mk (hbox)
                      have n3_ := Aside0.mk ((by rw [hg]; exact (below_size (by repeat (first | (with_reducible first | exact HB.out | apply below_alloc | apply pw_below_drewN | apply below_drew1) | exact HB.out))) : w.heap.size ≤ gb368))
                      have n4_ := Aside0.mk ((by rw [hg]; exact (below_size (by repeat (first | (with_reducible first | exact HB.out | apply below_alloc | apply pw_below_drewN | apply below_drew1) | exact HB.out))) : w.heap.size ≤ gb368))
                      clear HO_0
                      clear HB
                      have HO_0 := n0_
                      have HB := n1_
                      have BK368 := n2_
                      have GW368 := n3_
                      have GE368 := n4_
                      clear n0_ n1_ n2_ n3_ n4_
                      clear hb hbox hg
                      refine hK.out _ _ ⟨HS0_, HS1_, HS2_, HS3_, HS4_, HS5_⟩ (fun hHeld => ?_)
                      clear hK K
                      refine norm_ (a' := ?_) ?_ ?_
                      rotate_left
                      · show Act.put _ (some 6) _ = _
                        simp only [Act.put, List.setIfInBounds_toArray, List.set_cons_zero, List.set_cons_succ, i64_w, i32_w]
                        rfl
                      refine one_ (i := 9) (N := some 5) #[true, true, true, true, true, true, true, true, true, true, true, false, false] rfl rfl (one_of HT_.out (by kernel_rfl)) (by decide) (fun K hK => ?_)
                      refine box_step ?hg (N := 5) ?hd (cs := #[.int .u8 0, .int .i64 0, .string (⟨#[]⟩ : ByteArray)]) (t := 226) ?hr ?_; (case hd => rfl); (case hg => rfl); (case hr => first | (go_simp; done) | (go_simp; rfl))
                      intro gb367 hg w19 hbox hb
                      have HS0_ := (hb.cell (World.block_lt_of_cell? _ _ (hHeld.1))).trans (hHeld.1)
                      have HS1_ := (hb.cell (World.block_lt_of_cell? _ _ (hHeld.2.1))).trans (hHeld.2.1)
                      have HS2_ := (hb.cell (World.block_lt_of_cell? _ _ (hHeld.2.2.1))).trans (hHeld.2.2.1)
                      have HS3_ := (hb.cell (World.block_lt_of_cell? _ _ (hHeld.2.2.2.1))).trans (hHeld.2.2.2.1)
                      have HS4_ := (hb.cell (World.block_lt_of_cell? _ _ (hHeld.2.2.2.2.1))).trans (hHeld.2.2.2.2.1)
                      have HS5_ := (hb.cell (World.block_lt_of_cell? _ _ (hHeld.2.2.2.2.2))).trans (hHeld.2.2.2.2.2)
                      have n0_ := Aside0.mk (Kd.V_below (Kd.V_elderB (by (with_reducible repeat (first | apply Kd.V_alloc | apply Kd.V_drewN | apply Kd.V_drew)); exact HO_0.out) gb367 (Nat.le_of_eq hg.symm)) hb)
                      have n1_ := Aside0.mk (blk_below (g := gb368) (o := .cells #[.int .u8 0, .int .i64 0, .string (⟨#[]⟩ : ByteArray)] 226 (0, 0)) (by (with_reducible repeat (first | refine blk_drewN ?_ _ | refine blk_drew ?_ | refine blk_alloc ?_ _)); exact BK368.out) hb)
                      have n2_ := Aside0.mk (below_step (by repeat (first | (with_reducible first | exact HB.out | apply below_alloc | apply pw_below_drewN | apply below_drew1 | refine below_set ?_ GE368.out) | exact HB.out)) hb)
                      have n3_ := Aside0.mk (hbox)
                      have n4_ := Aside0.mk ((by rw [hg]; exact (below_size (by repeat (first | (with_reducible first | exact HB.out | apply below_alloc | apply pw_below_drewN | apply below_drew1 | refine below_set ?_ GE368.out) | exact HB.out))) : w.heap.size ≤ gb367))
                      have n5_ := Aside0.mk ((by rw [hg]; exact (below_size (by repeat (first | (with_reducible first | exact HB.out | apply below_alloc | apply pw_below_drewN | apply below_drew1 | refine below_set ?_ GE368.out) | exact HB.out))) : w.heap.size ≤ gb367))
                      have n6_ := Aside0.mk ((by rw [hg]; exact Nat.ne_of_lt (blk_lt (g := gb368) (o := .cells #[.int .u8 0, .int .i64 0, .string (⟨#[]⟩ : ByteArray)] 226 (0, 0)) (by (with_reducible repeat (first | refine blk_drewN ?_ _ | refine blk_drew ?_ | refine blk_alloc ?_ _)); exact BK368.out)) : gb368 ≠ gb367))
                      have n7_ := Aside0.mk ((by rw [hg]; exact Nat.ne_of_gt (blk_lt (g := gb368) (o := .cells #[.int .u8 0, .int .i64 0, .string (⟨#[]⟩ : ByteArray)] 226 (0, 0)) (by (with_reducible repeat (first | refine blk_drewN ?_ _ | refine blk_drew ?_ | refine blk_alloc ?_ _)); exact BK368.out)) : gb367 ≠ gb368))
                      clear HO_0
                      clear BK368
                      clear HB
                      have HO_0 := n0_
                      have BK368 := n1_
                      have HB := n2_
                      have BK367 := n3_
                      have GW367 := n4_
                      have GE367 := n5_
                      have NB368_367 := n6_
                      have NB367_368 := n7_
                      clear n0_ n1_ n2_ n3_ n4_ n5_ n6_ n7_
                      clear hb hbox hg
                      refine hK.out _ _ ⟨HS0_, HS1_, HS2_, HS3_, HS4_, HS5_⟩ (fun hHeld => ?_)
                      clear hK K
                      refine norm_ (a' := ?_) ?_ ?_
                      rotate_left
                      · show Act.put _ (some 5) _ = _
                        simp only [Act.put, List.setIfInBounds_toArray, List.set_cons_zero, List.set_cons_succ, i64_w, i32_w]
                        rfl
                      exact norm_ (by simp only [putAll, Act.put, List.setIfInBounds_toArray, List.set_cons_zero, List.set_cons_succ]) (hCont (gb367, gb368) _ ⟨hHeld, (by (with_reducible repeat (first | apply Kd.V_alloc | apply Kd.V_drewN | apply Kd.V_drew)); exact Kd.V_mono HO_0.out (fun _ hk => ⟨hk.1.1, ⟨hk.2, hk.1.2⟩⟩)), (by (with_reducible repeat (first | refine blk_drewN ?_ _ | refine blk_drew ?_ | refine blk_alloc ?_ _)); exact BK367.out), (by (with_reducible repeat (first | refine blk_drewN ?_ _ | refine blk_drew ?_ | refine blk_alloc ?_ _)); exact BK368.out), GW367.out, GE367.out, NB368_367.out, NB367_368.out, GW368.out, GE368.out, (by repeat (first | (with_reducible first | exact HB.out | apply below_alloc | apply pw_below_drewN | apply below_drew1 | refine below_set ?_ GE368.out | refine below_set ?_ GE367.out) | exact HB.out))⟩)
                  rintro ⟨gb367, gb368⟩ w20 ⟨hS_, h0_, h1_, h2_, h3_, h4_, h5_, h6_, h7_, h8_, h9_⟩
                  have n0_ : Aside0 (Kd.V k226 226 w20 w.heap.size (fun k_ => (P0_ k_ ∨ w.heap.size ≤ k_) ∧ k_ ≠ gb367 ∧ k_ ≠ gb368) (.slice (some ad365) l0.length c0) l0) := ⟨h0_⟩
                  have n1_ : Aside0 (w20.heap[gb367]? = some (.cells #[.int .u8 0, .int .i64 0, .string (⟨#[]⟩ : ByteArray)] 226 (0, 0))) := ⟨h1_⟩
                  have n2_ : Aside0 (w20.heap[gb368]? = some (.cells #[.int .u8 0, .int .i64 0, .string (⟨#[]⟩ : ByteArray)] 226 (0, 0))) := ⟨h2_⟩
                  have n3_ : Aside0 (w.heap.size ≤ gb367) := ⟨h3_⟩
                  have n4_ : Aside0 (w.heap.size ≤ gb367) := ⟨h4_⟩
                  have n5_ : Aside0 (gb368 ≠ gb367) := ⟨h5_⟩
                  have n6_ : Aside0 (gb367 ≠ gb368) := ⟨h6_⟩
                  have n7_ : Aside0 (w.heap.size ≤ gb368) := ⟨h7_⟩
                  have n8_ : Aside0 (w.heap.size ≤ gb368) := ⟨h8_⟩
                  have n9_ : Aside0 (Below w.heap.size w w20) := ⟨h9_⟩
                  clear HO_0
                  clear HB
                  clear h0_ h1_ h2_ h3_ h4_ h5_ h6_ h7_ h8_ h9_
                  have HO_0 := n0_
                  have BK367 := n1_
                  have BK368 := n2_
                  have GW367 := n3_
                  have GE367 := n4_
                  have NB368_367 := n5_
                  have NB367_368 := n6_
                  have GW368 := n7_
                  have GE368 := n8_
                  have HB := n9_
                  clear n0_ n1_ n2_ n3_ n4_ n5_ n6_ n7_ n8_ n9_
                  have hHeld : w20.cell? (ad365.add ((x4_1).toNat * 3)) = some (.int .u8 ((rd_T226 l0 x4_1).f0)) ∧ w20.cell? ⟨(ad365.add ((x4_1).toNat * 3)).block, (ad365.add ((x4_1).toNat * 3)).off + 1, none⟩ = some (.int .i64 ((rd_T226 l0 x4_1).f1)) ∧ w20.cell? ⟨(ad365.add ((x4_1).toNat * 3)).block, (ad365.add ((x4_1).toNat * 3)).off + 2, none⟩ = some (.string ((rd_T226 l0 x4_1).f2)) ∧ w20.cell? (ad365.add (((ji5)).toNat * 3)) = some (.int .u8 ((rd_T226 l0 (ji5)).f0)) ∧ w20.cell? ⟨(ad365.add (((ji5)).toNat * 3)).block, (ad365.add (((ji5)).toNat * 3)).off + 1, none⟩ = some (.int .i64 ((rd_T226 l0 (ji5)).f1)) ∧ w20.cell? ⟨(ad365.add (((ji5)).toNat * 3)).block, (ad365.add (((ji5)).toNat * 3)).off + 2, none⟩ = some (.string ((rd_T226 l0 (ji5)).f2)) := hS_
                  refine norm_ (a' := ?_) ?_ ?_
                  rotate_left
                  · simp only [putAll, Act.put, List.setIfInBounds_toArray, List.set_cons_zero, List.set_cons_succ]
                    rfl
                  refine one_ (i := 11) (N := none) #[true, true, true, true, true, true, true, true, true, true, true, true, false] rfl rfl (one_of HT_.out (by kernel_rfl)) (by decide) (fun K hK => ?_)
                  have hs21 : w20.cell? ⟨gb367, 0, none⟩ = some (.int .u8 0) := (blk_cell BK367.out 0).trans rfl
                  have hfs21 := blk_frozen BK367.out 0
                  have hns21_1 := NB368_367.out
                  have hms21_1 := NB367_368.out
                  have hs22 : w20.cell? ⟨gb367, 1, none⟩ = some (.int .i64 0) := (blk_cell BK367.out 1).trans rfl
                  have hfs22 := blk_frozen BK367.out 1
                  have hns22_1 := NB368_367.out
                  have hms22_1 := NB367_368.out
                  have hs23 : w20.cell? ⟨gb367, 2, none⟩ = some (.string (⟨#[]⟩ : ByteArray)) := (blk_cell BK367.out 2).trans rfl
                  have hfs23 := blk_frozen BK367.out 2
                  have hns23_1 := NB368_367.out
                  have hms23_1 := NB367_368.out
                  refine skip_ (w1 := ?_) (by rfl) rfl ?_ ?_
                  rotate_left
                  · go_simp
                    rfl
                  refine hK.out _ _ (merge_held (Kd.V_far (Kd.V_far (Kd.V_far HO_0.out (fun _ hk => hk.2.1) _) (fun _ hk => hk.2.1) _) (fun _ hk => hk.2.1) _) x4_1 ji5 (of_eq_true p365) (of_eq_true q365) (of_eq_true p366) (of_eq_true q366)) (fun hHeld => ?_)
                  clear hK K
                  refine one_ (i := 12) (N := none) #[true, true, true, true, true, true, true, true, true, true, true, true, true] rfl rfl (one_of HT_.out (by kernel_rfl)) (by decide) (fun K hK => ?_)
                  have hs24 : w20.cell? ⟨gb368, 0, none⟩ = some (.int .u8 0) := (blk_cell BK368.out 0).trans rfl
                  have hfs24 := blk_frozen BK368.out 0
                  have hns24_0 := NB367_368.out
                  have hms24_0 := NB368_367.out
                  have hs25 : w20.cell? ⟨gb368, 1, none⟩ = some (.int .i64 0) := (blk_cell BK368.out 1).trans rfl
                  have hfs25 := blk_frozen BK368.out 1
                  have hns25_0 := NB367_368.out
                  have hms25_0 := NB368_367.out
                  have hs26 : w20.cell? ⟨gb368, 2, none⟩ = some (.string (⟨#[]⟩ : ByteArray)) := (blk_cell BK368.out 2).trans rfl
                  have hfs26 := blk_frozen BK368.out 2
                  have hns26_0 := NB367_368.out
                  have hms26_0 := NB368_367.out
                  refine skip_ (w1 := ?_) (by rfl) rfl ?_ ?_
                  rotate_left
                  · go_simp
                    rfl
                  refine hK.out _ _ (merge_held (Kd.V_far (Kd.V_far (Kd.V_far (Kd.V_far (Kd.V_far (Kd.V_far HO_0.out (fun _ hk => hk.2.1) _) (fun _ hk => hk.2.1) _) (fun _ hk => hk.2.1) _) (fun _ hk => hk.2.2) _) (fun _ hk => hk.2.2) _) (fun _ hk => hk.2.2) _) x4_1 ji5 (of_eq_true p365) (of_eq_true q365) (of_eq_true p366) (of_eq_true q366)) (fun hHeld => ?_)
                  clear hK K
                  refine done_ (done_of HT_.out (by kernel_rfl)) ?_
                  have n0_ : Aside0 (Kd.V k226 226 ((((((w20.setCell ⟨gb367, 0, none⟩ (.int .u8 ((rd_T226 l0 x4_1).f0))).setCell ⟨gb367, 1, none⟩ (.int .i64 ((rd_T226 l0 x4_1).f1))).setCell ⟨gb367, 2, none⟩ (.string ((rd_T226 l0 x4_1).f2))).setCell ⟨gb368, 0, none⟩ (.int .u8 ((rd_T226 l0 (ji5)).f0))).setCell ⟨gb368, 1, none⟩ (.int .i64 ((rd_T226 l0 (ji5)).f1))).setCell ⟨gb368, 2, none⟩ (.string ((rd_T226 l0 (ji5)).f2))) w.heap.size (fun k_ => (P0_ k_ ∨ w.heap.size ≤ k_) ∧ k_ ≠ gb367 ∧ k_ ≠ gb368) (.slice (some ad365) l0.length c0) l0) := ⟨by (with_reducible repeat (first | apply Kd.V_alloc | apply Kd.V_drewN | apply Kd.V_drew)); exact Kd.V_mono (Kd.V_far (p := ⟨gb368, 2, none⟩) (Kd.V_far (p := ⟨gb368, 1, none⟩) (Kd.V_far (p := ⟨gb368, 0, none⟩) (Kd.V_far (p := ⟨gb367, 2, none⟩) (Kd.V_far (p := ⟨gb367, 1, none⟩) (Kd.V_far (p := ⟨gb367, 0, none⟩) (Kd.V_mono (Kd.V_mono HO_0.out (fun k_ hk => (⟨hk, hk.2.1⟩ : _ ∧ k_ ≠ gb367))) (fun k_ hk => (⟨hk, hk.1.2.2⟩ : _ ∧ k_ ≠ gb368))) (fun _ hk => hk.1.2) (.int .u8 ((rd_T226 l0 x4_1).f0))) (fun _ hk => hk.1.2) (.int .i64 ((rd_T226 l0 x4_1).f1))) (fun _ hk => hk.1.2) (.string ((rd_T226 l0 x4_1).f2))) (fun _ hk => hk.2) (.int .u8 ((rd_T226 l0 (ji5)).f0))) (fun _ hk => hk.2) (.int .i64 ((rd_T226 l0 (ji5)).f1))) (fun _ hk => hk.2) (.string ((rd_T226 l0 (ji5)).f2))) (fun _ hk => ⟨hk.1.1.1, ⟨hk.1.1.2.1, hk.1.1.2.2⟩⟩)⟩
                  have n1_ : Aside0 (((((((w20.setCell ⟨gb367, 0, none⟩ (.int .u8 ((rd_T226 l0 x4_1).f0))).setCell ⟨gb367, 1, none⟩ (.int .i64 ((rd_T226 l0 x4_1).f1))).setCell ⟨gb367, 2, none⟩ (.string ((rd_T226 l0 x4_1).f2))).setCell ⟨gb368, 0, none⟩ (.int .u8 ((rd_T226 l0 (ji5)).f0))).setCell ⟨gb368, 1, none⟩ (.int .i64 ((rd_T226 l0 (ji5)).f1))).setCell ⟨gb368, 2, none⟩ (.string ((rd_T226 l0 (ji5)).f2))).heap[gb367]? = some (.cells #[.int .u8 ((rd_T226 l0 x4_1).f0), .int .i64 ((rd_T226 l0 x4_1).f1), .string ((rd_T226 l0 x4_1).f2)] 226 (0, 0))) := ⟨by (with_reducible repeat (first | refine blk_drewN ?_ _ | refine blk_drew ?_ | refine blk_alloc ?_ _)); refine blk_far ?_ NB367_368.out _; (with_reducible repeat (first | refine blk_drewN ?_ _ | refine blk_drew ?_ | refine blk_alloc ?_ _)); refine blk_far ?_ NB367_368.out _; (with_reducible repeat (first | refine blk_drewN ?_ _ | refine blk_drew ?_ | refine blk_alloc ?_ _)); refine blk_far ?_ NB367_368.out _; (with_reducible repeat (first | refine blk_drewN ?_ _ | refine blk_drew ?_ | refine blk_alloc ?_ _)); refine blk_put (cs := #[.int .u8 ((rd_T226 l0 x4_1).f0), .int .i64 ((rd_T226 l0 x4_1).f1), .string (⟨#[]⟩ : ByteArray)]) ?_ 2 _ rfl; (with_reducible repeat (first | refine blk_drewN ?_ _ | refine blk_drew ?_ | refine blk_alloc ?_ _)); refine blk_put (cs := #[.int .u8 ((rd_T226 l0 x4_1).f0), .int .i64 0, .string (⟨#[]⟩ : ByteArray)]) ?_ 1 _ rfl; (with_reducible repeat (first | refine blk_drewN ?_ _ | refine blk_drew ?_ | refine blk_alloc ?_ _)); refine blk_put (cs := #[.int .u8 0, .int .i64 0, .string (⟨#[]⟩ : ByteArray)]) ?_ 0 _ rfl; (with_reducible repeat (first | refine blk_drewN ?_ _ | refine blk_drew ?_ | refine blk_alloc ?_ _)); exact BK367.out⟩
                  have n2_ : Aside0 (((((((w20.setCell ⟨gb367, 0, none⟩ (.int .u8 ((rd_T226 l0 x4_1).f0))).setCell ⟨gb367, 1, none⟩ (.int .i64 ((rd_T226 l0 x4_1).f1))).setCell ⟨gb367, 2, none⟩ (.string ((rd_T226 l0 x4_1).f2))).setCell ⟨gb368, 0, none⟩ (.int .u8 ((rd_T226 l0 (ji5)).f0))).setCell ⟨gb368, 1, none⟩ (.int .i64 ((rd_T226 l0 (ji5)).f1))).setCell ⟨gb368, 2, none⟩ (.string ((rd_T226 l0 (ji5)).f2))).heap[gb368]? = some (.cells #[.int .u8 ((rd_T226 l0 (ji5)).f0), .int .i64 ((rd_T226 l0 (ji5)).f1), .string ((rd_T226 l0 (ji5)).f2)] 226 (0, 0))) := ⟨by (with_reducible repeat (first | refine blk_drewN ?_ _ | refine blk_drew ?_ | refine blk_alloc ?_ _)); refine blk_put (cs := #[.int .u8 ((rd_T226 l0 (ji5)).f0), .int .i64 ((rd_T226 l0 (ji5)).f1), .string (⟨#[]⟩ : ByteArray)]) ?_ 2 _ rfl; (with_reducible repeat (first | refine blk_drewN ?_ _ | refine blk_drew ?_ | refine blk_alloc ?_ _)); refine blk_put (cs := #[.int .u8 ((rd_T226 l0 (ji5)).f0), .int .i64 0, .string (⟨#[]⟩ : ByteArray)]) ?_ 1 _ rfl; (with_reducible repeat (first | refine blk_drewN ?_ _ | refine blk_drew ?_ | refine blk_alloc ?_ _)); refine blk_put (cs := #[.int .u8 0, .int .i64 0, .string (⟨#[]⟩ : ByteArray)]) ?_ 0 _ rfl; (with_reducible repeat (first | refine blk_drewN ?_ _ | refine blk_drew ?_ | refine blk_alloc ?_ _)); refine blk_far ?_ NB368_367.out _; (with_reducible repeat (first | refine blk_drewN ?_ _ | refine blk_drew ?_ | refine blk_alloc ?_ _)); refine blk_far ?_ NB368_367.out _; (with_reducible repeat (first | refine blk_drewN ?_ _ | refine blk_drew ?_ | refine blk_alloc ?_ _)); refine blk_far ?_ NB368_367.out _; (with_reducible repeat (first | refine blk_drewN ?_ _ | refine blk_drew ?_ | refine blk_alloc ?_ _)); exact BK368.out⟩
                  have n3_ : Aside0 (Below w.heap.size w ((((((w20.setCell ⟨gb367, 0, none⟩ (.int .u8 ((rd_T226 l0 x4_1).f0))).setCell ⟨gb367, 1, none⟩ (.int .i64 ((rd_T226 l0 x4_1).f1))).setCell ⟨gb367, 2, none⟩ (.string ((rd_T226 l0 x4_1).f2))).setCell ⟨gb368, 0, none⟩ (.int .u8 ((rd_T226 l0 (ji5)).f0))).setCell ⟨gb368, 1, none⟩ (.int .i64 ((rd_T226 l0 (ji5)).f1))).setCell ⟨gb368, 2, none⟩ (.string ((rd_T226 l0 (ji5)).f2)))) := ⟨by repeat (first | (with_reducible first | exact HB.out | apply below_alloc | apply pw_below_drewN | apply below_drew1 | refine below_set ?_ GE367.out | refine below_set ?_ GE368.out) | exact HB.out)⟩
                  (try clear HO_0)
                  (try clear BK367)
                  (try clear BK368)
                  (try clear HB)
                  generalize ((((((w20.setCell ⟨gb367, 0, none⟩ (.int .u8 ((rd_T226 l0 x4_1).f0))).setCell ⟨gb367, 1, none⟩ (.int .i64 ((rd_T226 l0 x4_1).f1))).setCell ⟨gb367, 2, none⟩ (.string ((rd_T226 l0 x4_1).f2))).setCell ⟨gb368, 0, none⟩ (.int .u8 ((rd_T226 l0 (ji5)).f0))).setCell ⟨gb368, 1, none⟩ (.int .i64 ((rd_T226 l0 (ji5)).f1))).setCell ⟨gb368, 2, none⟩ (.string ((rd_T226 l0 (ji5)).f2))) = w27 at n0_ n1_ n2_ n3_ ⊢
                  have HO_0 := n0_
                  have BK367 := n1_
                  have BK368 := n2_
                  have HB := n3_
                  clear n0_ n1_ n2_ n3_
                  by_cases c10 : ((rd_T226 l0 x4_1).f0) = ((rd_T226 l0 (ji5)).f0)
                  · rw [if_pos c10] at H
                    have c10b0 : (((rd_T226 l0 x4_1).f0) == ((rd_T226 l0 (ji5)).f0)) = true := beq_iff_eq.mpr c10
                    have c10b1 : (((rd_T226 l0 x4_1).f0) != ((rd_T226 l0 (ji5)).f0)) = false := bne_eq_false_iff_eq.mpr c10
                    clear c10
                    by_cases c11 : ((rd_T226 l0 x4_1).f2).size + ((rd_T226 l0 (ji5)).f2).size ≤ 9223372036854775807
                    · rw [if_pos c11] at H
                      have c11b0 := eq_true c11
                      have c11b1 : decide (((rd_T226 l0 x4_1).f2).size + ((rd_T226 l0 (ji5)).f2).size ≤ 9223372036854775807) = true := decide_eq_true c11
                      try have c11b2 : (9223372036854775807 < ((rd_T226 l0 x4_1).f2).size + ((rd_T226 l0 (ji5)).f2).size) = False := eq_false (Nat.not_lt.2 c11)
                      by_cases c12 : y374.length < 4398046511104
                      · rw [if_pos c12] at H
                        have LMc12 := Aside0.mk c12
                        clear c12
                        obtain ⟨y377, hy377⟩ : ∃ y_ : List (S226), y_ = (y374 ++ [(⟨(rd_T226 l0 x4_1).f0, wrap64 (((rd_T226 l0 x4_1).f1) + ((rd_T226 l0 (ji5)).f1)), ((rd_T226 l0 x4_1).f2) ++ ((rd_T226 l0 (ji5)).f2)⟩ : S226)]) := ⟨_, rfl⟩
                        replace H : (if 0 ≤ (wrap64 (x4_1 + 2)) then (if (wrap64 (x4_1 + 2)) ≤ (l0.length : Int) then ((some (l0.drop ((wrap64 (x4_1 + 2)) : Int).toNat : List (S226))).bind fun y380 => (if y377.length + y380.length < 4398046511104 then (some ((y377 ++ y380), true)) else (none))) else (none)) else (none)) = some (r1, r2) := by first | (rw [hy377]; with_reducible exact H) | (have H2_ := (Option.bind_some _ _).symm.trans H; rw [hy377]; with_reducible exact H2_) | (have H2_ := (Option.bind_some _ _).symm.trans H; with_reducible exact H2_) | with_reducible exact H | (rw [hy377]; exact H) | exact H
                        have Ny377 := Aside0.mk hy377
                        clear hy377
                        obtain ⟨ji13, hji13⟩ : ∃ j_ : Int, (wrap64 (x4_1 + 2)) = j_ := ⟨_, rfl⟩
                        replace H : (if 0 ≤ (ji13) then (if (ji13) ≤ (l0.length : Int) then ((some (l0.drop ((ji13) : Int).toNat : List (S226))).bind fun y380 => (if y377.length + y380.length < 4398046511104 then (some ((y377 ++ y380), true)) else (none))) else (none)) else (none)) = some (r1, r2) := by first | (rw [hji13] at H; exact H) | (simp only [hji13] at H ⊢; exact H)
                        have hji13w : (IntKind.i64.wrap (x4_1 + 2)) = ji13 := (i64_w _).trans hji13
                        by_cases c14 : 0 ≤ (ji13)
                        · rw [if_pos c14] at H
                          have c14b0 := eq_true c14
                          have c14b1 : decide (0 ≤ (ji13)) = true := decide_eq_true c14
                          clear c14
                          by_cases c15 : (ji13) ≤ (l0.length : Int)
                          · rw [if_pos c15] at H
                            have c15b0 := eq_true c15
                            have c15b1 : decide ((ji13) ≤ (l0.length : Int)) = true := decide_eq_true c15
                            clear c15
                            obtain ⟨y380, hy380⟩ : ∃ y_ : List (S226), y_ = (l0.drop ((ji13) : Int).toNat) := ⟨_, rfl⟩
                            replace H : (if y377.length + y380.length < 4398046511104 then (some ((y377 ++ y380), true)) else (none)) = some (r1, r2) := by first | (rw [hy380]; with_reducible exact H) | (have H2_ := (Option.bind_some _ _).symm.trans H; rw [hy380]; with_reducible exact H2_) | (have H2_ := (Option.bind_some _ _).symm.trans H; with_reducible exact H2_) | with_reducible exact H | (rw [hy380]; exact H) | exact H
                            have Ny380 := Aside0.mk hy380
                            clear hy380
                            by_cases c16 : y377.length + y380.length < 4398046511104
                            · rw [if_pos c16] at H
                              have LMc16 := Aside0.mk c16
                              clear c16
                              obtain ⟨y385, hy385⟩ : ∃ y_ : List (S226), y_ = (y377 ++ y380) := ⟨_, rfl⟩
                              replace H : (some (y385, true)) = some (r1, r2) := by first | (rw [hy385]; with_reducible exact H) | (have H2_ := (Option.bind_some _ _).symm.trans H; rw [hy385]; with_reducible exact H2_) | (have H2_ := (Option.bind_some _ _).symm.trans H; with_reducible exact H2_) | with_reducible exact H | (rw [hy385]; exact H) | exact H
                              have Ny385 := Aside0.mk hy385
                              clear hy385
                              simp only [Option.some.injEq, Prod.mk.injEq] at H
                              obtain ⟨rfl, rfl⟩ := H
                              have q28 : (x4_1 : Int) ≤ ((l0.length : Int) : Int) := of_decide_eq_true (by first | (with_reducible assumption) | assumption)
                              obtain ⟨i028, hi028, _, hsz28, _⟩ := info_parts info226
                              have hroom28 : l0.length ≤ c0 := (Kd.V_reads' HO_0.out).2.1
                              have hC28 : Kd.F k226 _ _ (some ad365) l0.length l0 := (Kd.V_at (base := w.heap.size) HO_0.out).2.2
                              have hcut28 := cut_to (P := Try.prog) 135 226 .i64 Try.underlying135 hi028 (some ad365) l0.length c0 x4_1 (of_decide_eq_true (by first | (with_reducible assumption) | assumption)) q28 hroom28
                              have hr28 := Kd.F_take (m := (x4_1 : Int).toNat) hC28 (by omega)
                              have hy28 : y369.length = (x4_1 : Int).toNat := (by rw [Ny369.out, List.length_take]; omega)
                              rw [← Ny369.out] at hr28
                              rw [← hy28] at hcut28
                              have HO373 := Aside0.mk (show Kd.V k226 226 _ w.heap.size _ (.slice (some ad365) y369.length c0) y369 from Kd.V_mk (by omega) hr28)
                              have HC373 := Aside0.mk (show y369.length ≤ c0 from by omega)
                              clear hr28 hC28 hroom28 hi028 hsz28
                              have KY28 := Aside0.mk hy28
                              clear hy28
                              replace q28 := eq_true q28
                              try go_wp2_with (first | ((with_reducible refine gate_builtin (b := .append) (xs := #[.tmp 24, .tmp 27]) rfl ?_); at_builtin; refine Kd.R_append_rows k226 (w0 := w) w.heap.size rfl (.tmp 24) (.tmp 27) 135 226 (.agg #[(.int .u8 0), (.int .i64 0), (.string ⟨#[]⟩)]) 32 rfl Try.underlying135 info226 rfl (by decide) (by omega) (.slice none 0 0) ([] : List (S226)) y369 _ _ _ (fun k_ => (w.heap.size ≤ k_) ∧ k_ ≠ gb367 ∧ k_ ≠ gb368) (fun _ => False) rfl rfl ?aO ?aR (fun _ _ h => h) (fun _ h => h.elim) ?aF ?aB ?aS ?aL ?_; (case aR => repeat (first | exact (Kd.V_reads' HO373.out).2.2 | (with_reducible refine Kd.C_alloc ?_ _) | (with_reducible refine Kd.C_drewN ?_ _) | (with_reducible refine Kd.C_drew ?_))); (case aB => exact (by repeat (first | (with_reducible first | exact HB.out | apply below_alloc | apply pw_below_drewN | apply below_drew1 | refine below_set ?_ GE367.out | refine below_set ?_ GE368.out) | exact HB.out))); (case aF => exact (fun k_ hk => ⟨(Nat.le_trans (below_size (by repeat (first | (with_reducible first | exact HB.out | apply below_alloc | apply pw_below_drewN | apply below_drew1 | refine below_set ?_ GE367.out | refine below_set ?_ GE368.out) | exact HB.out))) hk), Kd.freshB (g := gb367) (o := .cells #[.int .u8 ((rd_T226 l0 x4_1).f0), .int .i64 ((rd_T226 l0 x4_1).f1), .string ((rd_T226 l0 x4_1).f2)] 226 (0, 0)) (by (with_reducible repeat (first | refine blk_drewN ?_ _ | refine blk_drew ?_ | refine blk_alloc ?_ _)); exact BK367.out) k_ hk, Kd.freshB (g := gb368) (o := .cells #[.int .u8 ((rd_T226 l0 (ji5)).f0), .int .i64 ((rd_T226 l0 (ji5)).f1), .string ((rd_T226 l0 (ji5)).f2)] 226 (0, 0)) (by (with_reducible repeat (first | refine blk_drewN ?_ _ | refine blk_drew ?_ | refine blk_alloc ?_ _)); exact BK368.out) k_ hk⟩)); (case aO => exact ((Kd.R_nil _ _ _ _ (fun k_ => (w.heap.size ≤ k_) ∧ k_ ≠ gb367 ∧ k_ ≠ gb368)))); (case aS => exact (below_size (by repeat (first | (with_reducible first | exact HB.out | apply below_alloc | apply pw_below_drewN | apply below_drew1 | refine below_set ?_ GE367.out | refine below_set ?_ GE368.out) | exact HB.out)))); (case aL => have := LMc9.out; omega); intro v375 w29 ho hb hg hat; rw [← Ny374.out] at ho; have n0_ := Aside0.mk (Kd.V_afterv (Kd.V_apart_nil (by (with_reducible repeat (first | apply Kd.V_alloc | apply Kd.V_drewN | apply Kd.V_drew)); exact HO_0.out)) hg hat); have n1_ := Aside0.mk (blk_grown (g := gb367) (o := .cells #[.int .u8 ((rd_T226 l0 x4_1).f0), .int .i64 ((rd_T226 l0 x4_1).f1), .string ((rd_T226 l0 x4_1).f2)] 226 (0, 0)) (by (with_reducible repeat (first | refine blk_drewN ?_ _ | refine blk_drew ?_ | refine blk_alloc ?_ _)); exact BK367.out) hg (by simp [Value.ownBlock])); have n2_ := Aside0.mk (blk_grown (g := gb368) (o := .cells #[.int .u8 ((rd_T226 l0 (ji5)).f0), .int .i64 ((rd_T226 l0 (ji5)).f1), .string ((rd_T226 l0 (ji5)).f2)] 226 (0, 0)) (by (with_reducible repeat (first | refine blk_drewN ?_ _ | refine blk_drew ?_ | refine blk_alloc ?_ _)); exact BK368.out) hg (by simp [Value.ownBlock])); have n3_ := Aside0.mk (Kd.V_afterv (Kd.V_apart_nil (by (with_reducible repeat (first | apply Kd.V_alloc | apply Kd.V_drewN | apply Kd.V_drew)); exact HO373.out)) hg hat); have n4_ := Aside0.mk (hb); have n5_ := Aside0.mk (ho); clear HO_0; clear BK367; clear BK368; clear HO373; clear HB; have HO_0 := n0_; have BK367 := n1_; have BK368 := n2_; have HO373 := n3_; have HB := n4_; have HO376 := n5_; clear n0_ n1_ n2_ n3_ n4_ n5_; clear ho hb hg hat; have hnb30 := NB367_368.out; have hnc30 := NB368_367.out; have hcz31_0 : w29.cell? ⟨gb367, 0, none⟩ = some (.int .u8 ((rd_T226 l0 x4_1).f0)) := (blk_cell BK367.out 0).trans rfl; have hcz31_1 : w29.cell? ⟨gb367, 1, none⟩ = some (.int .i64 ((rd_T226 l0 x4_1).f1)) := (blk_cell BK367.out 1).trans rfl; have hcz31_2 : w29.cell? ⟨gb367, 2, none⟩ = some (.string ((rd_T226 l0 x4_1).f2)) := (blk_cell BK367.out 2).trans rfl; have hfz31_0 := blk_frozen BK367.out 0; have hfz31_1 := blk_frozen BK367.out 1; have hfz31_2 := blk_frozen BK367.out 2; have hcz32_0 : w29.cell? ⟨gb368, 0, none⟩ = some (.int .u8 ((rd_T226 l0 (ji5)).f0)) := (blk_cell BK368.out 0).trans rfl; have hcz32_1 : w29.cell? ⟨gb368, 1, none⟩ = some (.int .i64 ((rd_T226 l0 (ji5)).f1)) := (blk_cell BK368.out 1).trans rfl; have hcz32_2 : w29.cell? ⟨gb368, 2, none⟩ = some (.string ((rd_T226 l0 (ji5)).f2)) := (blk_cell BK368.out 2).trans rfl; have hfz32_0 := blk_frozen BK368.out 0; have hfz32_1 := blk_frozen BK368.out 1; have hfz32_2 := blk_frozen BK368.out 2) | ((with_reducible refine gate_builtin (b := .append) (xs := #[.tmp 34, .tmp 48]) rfl ?_); at_builtin; refine Kd.R_append k226 (w0 := w) w.heap.size rfl (.tmp 34) (.tmp 48) 135 226 (.agg #[(.int .u8 0), (.int .i64 0), (.string ⟨#[]⟩)]) 32 rfl Try.underlying135 info226 rfl (by decide) (by omega) v375 y374 (⟨(rd_T226 l0 x4_1).f0, wrap64 (((rd_T226 l0 x4_1).f1) + ((rd_T226 l0 (ji5)).f1)), ((rd_T226 l0 x4_1).f2) ++ ((rd_T226 l0 (ji5)).f2)⟩ : S226) [.int .u8 ((rd_T226 l0 x4_1).f0), .int .i64 (wrap64 (((rd_T226 l0 x4_1).f1) + ((rd_T226 l0 (ji5)).f1))), .string (((rd_T226 l0 x4_1).f2) ++ ((rd_T226 l0 (ji5)).f2))] (fun k_ => (w.heap.size ≤ k_) ∧ k_ ≠ gb367 ∧ k_ ≠ gb368) (fun _ => False) rfl rfl ?aP (fun _ hk => hk.elim) ?aF ?aO ?aB ?aS ?aL ?_; (case aP => exact k226_mkM _ _ _ (⟨(rd_T226 l0 x4_1).f0, wrap64 (((rd_T226 l0 x4_1).f1) + ((rd_T226 l0 (ji5)).f1)), ((rd_T226 l0 x4_1).f2) ++ ((rd_T226 l0 (ji5)).f2)⟩ : S226)); (case aB => exact (by repeat (first | (with_reducible first | exact HB.out | apply below_alloc | apply pw_below_drewN | apply below_drew1 | refine below_set ?_ GE367.out | refine below_set ?_ GE368.out) | exact HB.out))); (case aF => exact (fun k_ hk => ⟨(Nat.le_trans (below_size (by repeat (first | (with_reducible first | exact HB.out | apply below_alloc | apply pw_below_drewN | apply below_drew1 | refine below_set ?_ GE367.out | refine below_set ?_ GE368.out) | exact HB.out))) hk), Kd.freshB (g := gb367) (o := .cells #[.int .u8 ((rd_T226 l0 x4_1).f0), .int .i64 ((rd_T226 l0 x4_1).f1), .string ((rd_T226 l0 x4_1).f2)] 226 (0, 0)) (by (with_reducible repeat (first | refine blk_drewN ?_ _ | refine blk_drew ?_ | refine blk_alloc ?_ _)); exact BK367.out) k_ hk, Kd.freshB (g := gb368) (o := .cells #[.int .u8 ((rd_T226 l0 (ji5)).f0), .int .i64 ((rd_T226 l0 (ji5)).f1), .string ((rd_T226 l0 (ji5)).f2)] 226 (0, 0)) (by (with_reducible repeat (first | refine blk_drewN ?_ _ | refine blk_drew ?_ | refine blk_alloc ?_ _)); exact BK368.out) k_ hk⟩)); (case aO => exact (by (with_reducible repeat (first | apply Kd.R_alloc | apply Kd.R_drewN | apply Kd.R_drew)); exact HO376.out)); (case aS => exact (below_size (by repeat (first | (with_reducible first | exact HB.out | apply below_alloc | apply pw_below_drewN | apply below_drew1 | refine below_set ?_ GE367.out | refine below_set ?_ GE368.out) | exact HB.out)))); (case aL => have := LMc12.out; omega); intro v378 w33 ho hb hg hat; rw [← Ny377.out] at ho; have n0_ := Aside0.mk (Kd.V_afterv (ok := (fun k_ => (P0_ k_ ∨ w.heap.size ≤ k_) ∧ k_ ≠ gb367 ∧ k_ ≠ gb368)) (by (with_reducible repeat (first | apply Kd.V_alloc | apply Kd.V_drewN | apply Kd.V_drew)); exact HO_0.out) hg hat); have n1_ := Aside0.mk (blk_grown (g := gb367) (o := .cells #[.int .u8 ((rd_T226 l0 x4_1).f0), .int .i64 ((rd_T226 l0 x4_1).f1), .string ((rd_T226 l0 x4_1).f2)] 226 (0, 0)) (by (with_reducible repeat (first | refine blk_drewN ?_ _ | refine blk_drew ?_ | refine blk_alloc ?_ _)); exact BK367.out) hg (Kd.R_away HO376.out (fun _ hk => hk.2.1))); have n2_ := Aside0.mk (blk_grown (g := gb368) (o := .cells #[.int .u8 ((rd_T226 l0 (ji5)).f0), .int .i64 ((rd_T226 l0 (ji5)).f1), .string ((rd_T226 l0 (ji5)).f2)] 226 (0, 0)) (by (with_reducible repeat (first | refine blk_drewN ?_ _ | refine blk_drew ?_ | refine blk_alloc ?_ _)); exact BK368.out) hg (Kd.R_away HO376.out (fun _ hk => hk.2.2))); have n3_ := Aside0.mk (Kd.V_afterv (ok := (fun k_ => (P0_ k_ ∨ w.heap.size ≤ k_) ∧ k_ ≠ gb367 ∧ k_ ≠ gb368)) (by (with_reducible repeat (first | apply Kd.V_alloc | apply Kd.V_drewN | apply Kd.V_drew)); exact HO373.out) hg hat); have n4_ := Aside0.mk (hb); have n5_ := Aside0.mk (ho); clear HO_0; clear BK367; clear BK368; clear HO373; clear HB; clear HO376; have HO_0 := n0_; have BK367 := n1_; have BK368 := n2_; have HO373 := n3_; have HB := n4_; have HO379 := n5_; clear n0_ n1_ n2_ n3_ n4_ n5_; clear ho hb hg hat; have q34 : ((ji13) : Int) ≤ ((l0.length : Int) : Int) := of_decide_eq_true (by first | (with_reducible assumption) | assumption); obtain ⟨i034, hi034, _, hsz34, _⟩ := info_parts info226; have hroom34 : l0.length ≤ c0 := (Kd.V_reads' HO_0.out).2.1; have hC34 : Kd.F k226 _ _ (some ad365) l0.length l0 := (Kd.V_at (base := w.heap.size) HO_0.out).2.2; have q034 : (0 : Int) ≤ ((ji13) : Int) := of_decide_eq_true (by first | (with_reducible assumption) | assumption); have hcut34 := cut_from (P := Try.prog) 135 226 .i64 Try.underlying135 hi034 3 hsz34 (some ad365) l0.length c0 (ji13) q034 q34; have hr34 := Kd.F_cut (m := ((ji13) : Int).toNat) (c := c0) hC34 (by omega) hroom34; obtain ⟨A34, hA34⟩ : ∃ A1, A1 = (if c0 = ((ji13) : Int).toNat then (some ad365) else ((some ad365) : Option Addr).map (·.add (((ji13) : Int).toNat * 3))) := ⟨_, rfl⟩; obtain ⟨c34, hc34⟩ : ∃ c1, c1 = c0 - ((ji13) : Int).toNat := ⟨_, rfl⟩; have hy34 : y380.length = l0.length - ((ji13) : Int).toNat := (by rw [Ny380.out, List.length_drop] <;> omega); rw [show (l0).drop ((ji13) : Int).toNat = y380 from Ny380.out.symm] at hr34; replace hr34 : Kd.F k226 _ _ A34 y380.length y380 := (by rw [hA34]; exact hr34); rw [← hy34, ← hA34, ← hc34] at hcut34; have HO384 := Aside0.mk (show Kd.V k226 226 _ w.heap.size _ (.slice A34 y380.length c34) y380 from Kd.V_mk (by rw [hy34, hc34]; exact Nat.sub_le_sub_right hroom34 _) hr34); have HC384 := Aside0.mk (show y380.length ≤ c34 from by rw [hy34, hc34]; exact Nat.sub_le_sub_right hroom34 _); clear hr34 hC34 hroom34 hi034 hsz34 hc34; have KY34 := Aside0.mk hy34; have KA34 := Aside0.mk hA34; clear hy34 hA34; replace q34 := eq_true q34) | ((with_reducible refine gate_builtin (b := .append) (xs := #[.tmp 50, .tmp 54]) rfl ?_); at_builtin; refine Kd.R_append_rows k226 (w0 := w) w.heap.size rfl (.tmp 50) (.tmp 54) 135 226 (.agg #[(.int .u8 0), (.int .i64 0), (.string ⟨#[]⟩)]) 32 rfl Try.underlying135 info226 rfl (by decide) (by omega) v378 y377 y380 _ _ _ (fun k_ => (w.heap.size ≤ k_) ∧ k_ ≠ gb367 ∧ k_ ≠ gb368) (fun _ => False) rfl rfl ?aO ?aR (fun _ _ h => h) (fun _ h => h.elim) ?aF ?aB ?aS ?aL ?_; (case aR => repeat (first | exact (Kd.V_reads' HO384.out).2.2 | (with_reducible refine Kd.C_alloc ?_ _) | (with_reducible refine Kd.C_drewN ?_ _) | (with_reducible refine Kd.C_drew ?_))); (case aB => exact (by repeat (first | (with_reducible first | exact HB.out | apply below_alloc | apply pw_below_drewN | apply below_drew1 | refine below_set ?_ GE367.out | refine below_set ?_ GE368.out) | exact HB.out))); (case aF => exact (fun k_ hk => ⟨(Nat.le_trans (below_size (by repeat (first | (with_reducible first | exact HB.out | apply below_alloc | apply pw_below_drewN | apply below_drew1 | refine below_set ?_ GE367.out | refine below_set ?_ GE368.out) | exact HB.out))) hk), Kd.freshB (g := gb367) (o := .cells #[.int .u8 ((rd_T226 l0 x4_1).f0), .int .i64 ((rd_T226 l0 x4_1).f1), .string ((rd_T226 l0 x4_1).f2)] 226 (0, 0)) (by (with_reducible repeat (first | refine blk_drewN ?_ _ | refine blk_drew ?_ | refine blk_alloc ?_ _)); exact BK367.out) k_ hk, Kd.freshB (g := gb368) (o := .cells #[.int .u8 ((rd_T226 l0 (ji5)).f0), .int .i64 ((rd_T226 l0 (ji5)).f1), .string ((rd_T226 l0 (ji5)).f2)] 226 (0, 0)) (by (with_reducible repeat (first | refine blk_drewN ?_ _ | refine blk_drew ?_ | refine blk_alloc ?_ _)); exact BK368.out) k_ hk⟩)); (case aO => exact (by (with_reducible repeat (first | apply Kd.R_alloc | apply Kd.R_drewN | apply Kd.R_drew)); exact HO379.out)); (case aS => exact (below_size (by repeat (first | (with_reducible first | exact HB.out | apply below_alloc | apply pw_below_drewN | apply below_drew1 | refine below_set ?_ GE367.out | refine below_set ?_ GE368.out) | exact HB.out)))); (case aL => have := LMc16.out; omega); intro v386 w35 ho hb hg hat; rw [← Ny385.out] at ho; have n0_ := Aside0.mk (Kd.V_afterv (ok := (fun k_ => (P0_ k_ ∨ w.heap.size ≤ k_) ∧ k_ ≠ gb367 ∧ k_ ≠ gb368)) (by (with_reducible repeat (first | apply Kd.V_alloc | apply Kd.V_drewN | apply Kd.V_drew)); exact HO_0.out) hg hat); have n1_ := Aside0.mk (blk_grown (g := gb367) (o := .cells #[.int .u8 ((rd_T226 l0 x4_1).f0), .int .i64 ((rd_T226 l0 x4_1).f1), .string ((rd_T226 l0 x4_1).f2)] 226 (0, 0)) (by (with_reducible repeat (first | refine blk_drewN ?_ _ | refine blk_drew ?_ | refine blk_alloc ?_ _)); exact BK367.out) hg (Kd.R_away HO379.out (fun _ hk => hk.2.1))); have n2_ := Aside0.mk (blk_grown (g := gb368) (o := .cells #[.int .u8 ((rd_T226 l0 (ji5)).f0), .int .i64 ((rd_T226 l0 (ji5)).f1), .string ((rd_T226 l0 (ji5)).f2)] 226 (0, 0)) (by (with_reducible repeat (first | refine blk_drewN ?_ _ | refine blk_drew ?_ | refine blk_alloc ?_ _)); exact BK368.out) hg (Kd.R_away HO379.out (fun _ hk => hk.2.2))); have n3_ := Aside0.mk (Kd.V_afterv (ok := (fun k_ => (P0_ k_ ∨ w.heap.size ≤ k_) ∧ k_ ≠ gb367 ∧ k_ ≠ gb368)) (by (with_reducible repeat (first | apply Kd.V_alloc | apply Kd.V_drewN | apply Kd.V_drew)); exact HO373.out) hg hat); have n4_ := Aside0.mk (Kd.V_afterv (ok := (fun k_ => (P0_ k_ ∨ w.heap.size ≤ k_) ∧ k_ ≠ gb367 ∧ k_ ≠ gb368)) (by (with_reducible repeat (first | apply Kd.V_alloc | apply Kd.V_drewN | apply Kd.V_drew)); exact HO384.out) hg hat); have n5_ := Aside0.mk (hb); have n6_ := Aside0.mk (ho); clear HO_0; clear BK367; clear BK368; clear HO373; clear HO384; clear HB; clear HO379; have HO_0 := n0_; have BK367 := n1_; have BK368 := n2_; have HO373 := n3_; have HO384 := n4_; have HB := n5_; have HO387 := n6_; clear n0_ n1_ n2_ n3_ n4_ n5_ n6_; clear ho hb hg hat))
                              go_ret2
                              exact ⟨_, by first | rfl | (simp [errW_none, errW_some] <;> rfl) | (simp only [← hji5, ← hji13]; first | rfl | (simp [errW_none, errW_some] <;> rfl)) | (simp [*, errW_none, errW_some] <;> rfl), Kd.V_mono (Kd.R_V (by (with_reducible repeat (first | apply Kd.R_alloc | apply Kd.R_drewN | apply Kd.R_drew)); exact Kd.R_mono HO387.out (fun _ hk => hk.1))) (fun k_ hk => by first | exact ⟨(.inr (hk.1)), hk.2⟩ | exact (.inr (hk))), by repeat (first | (with_reducible first | exact HB.out | apply below_alloc | apply pw_below_drewN | apply below_drew1 | refine below_set ?_ GE367.out | refine below_set ?_ GE368.out) | exact HB.out)⟩
                            · rw [if_neg c16] at H
                              exact absurd H (by simp)
                          · rw [if_neg c15] at H
                            exact absurd H (by simp)
                        · rw [if_neg c14] at H
                          exact absurd H (by simp)
                      · rw [if_neg c12] at H
                        exact absurd H (by simp)
                    · rw [if_neg c11] at H
                      exact absurd H (by simp)
                  · rw [if_neg c10] at H
                    have c10b0 : (((rd_T226 l0 x4_1).f0) == ((rd_T226 l0 (ji5)).f0)) = false := beq_eq_false_iff_ne.mpr c10
                    have c10b1 : (((rd_T226 l0 x4_1).f0) != ((rd_T226 l0 (ji5)).f0)) = true := bne_iff_ne.mpr c10
                    by_cases c36 : ((rd_T226 l0 x4_1).f0) = 3
                    · rw [if_pos c36] at H
                      have c36b0 : (((rd_T226 l0 x4_1).f0) == 3) = true := beq_iff_eq.mpr c36
                      have c36b1 : (((rd_T226 l0 x4_1).f0) != 3) = false := bne_eq_false_iff_eq.mpr c36
                      clear c36
                      by_cases c37 : ((rd_T226 l0 (ji5)).f0) = 2
                      · rw [if_pos c37] at H
                        have c37b0 : (((rd_T226 l0 (ji5)).f0) == 2) = true := beq_iff_eq.mpr c37
                        have c37b1 : (((rd_T226 l0 (ji5)).f0) != 2) = false := bne_eq_false_iff_eq.mpr c37
                        clear c37
                        obtain ⟨y388, hy388⟩ : ∃ y_ : List (S226), y_ = (([(⟨(rd_T226 l0 (ji5)).f0, (rd_T226 l0 (ji5)).f1, (rd_T226 l0 (ji5)).f2⟩ : S226), (⟨(rd_T226 l0 x4_1).f0, (rd_T226 l0 x4_1).f1, (rd_T226 l0 x4_1).f2⟩ : S226)] : List (S226))) := ⟨_, rfl⟩
                        replace H : (if y374.length + y388.length < 4398046511104 then ((some (y374 ++ y388 : List (S226))).bind fun y391 => (if 0 ≤ (wrap64 (x4_1 + 2)) then (if (wrap64 (x4_1 + 2)) ≤ (l0.length : Int) then ((some (l0.drop ((wrap64 (x4_1 + 2)) : Int).toNat : List (S226))).bind fun y394 => (if y391.length + y394.length < 4398046511104 then (some ((y391 ++ y394), true)) else (none))) else (none)) else (none))) else (none)) = some (r1, r2) := by first | (rw [hy388]; with_reducible exact H) | (have H2_ := (Option.bind_some _ _).symm.trans H; rw [hy388]; with_reducible exact H2_) | (have H2_ := (Option.bind_some _ _).symm.trans H; with_reducible exact H2_) | with_reducible exact H | (rw [hy388]; exact H) | exact H
                        have Ny388 := Aside0.mk hy388
                        clear hy388
                        by_cases c38 : y374.length + y388.length < 4398046511104
                        · rw [if_pos c38] at H
                          have LMc38 := Aside0.mk c38
                          clear c38
                          obtain ⟨y391, hy391⟩ : ∃ y_ : List (S226), y_ = (y374 ++ y388) := ⟨_, rfl⟩
                          replace H : (if 0 ≤ (wrap64 (x4_1 + 2)) then (if (wrap64 (x4_1 + 2)) ≤ (l0.length : Int) then ((some (l0.drop ((wrap64 (x4_1 + 2)) : Int).toNat : List (S226))).bind fun y394 => (if y391.length + y394.length < 4398046511104 then (some ((y391 ++ y394), true)) else (none))) else (none)) else (none)) = some (r1, r2) := by first | (rw [hy391]; with_reducible exact H) | (have H2_ := (Option.bind_some _ _).symm.trans H; rw [hy391]; with_reducible exact H2_) | (have H2_ := (Option.bind_some _ _).symm.trans H; with_reducible exact H2_) | with_reducible exact H | (rw [hy391]; exact H) | exact H
                          have Ny391 := Aside0.mk hy391
                          clear hy391
                          obtain ⟨ji39, hji39⟩ : ∃ j_ : Int, (wrap64 (x4_1 + 2)) = j_ := ⟨_, rfl⟩
                          replace H : (if 0 ≤ (ji39) then (if (ji39) ≤ (l0.length : Int) then ((some (l0.drop ((ji39) : Int).toNat : List (S226))).bind fun y394 => (if y391.length + y394.length < 4398046511104 then (some ((y391 ++ y394), true)) else (none))) else (none)) else (none)) = some (r1, r2) := by first | (rw [hji39] at H; exact H) | (simp only [hji39] at H ⊢; exact H)
                          have hji39w : (IntKind.i64.wrap (x4_1 + 2)) = ji39 := (i64_w _).trans hji39
                          by_cases c40 : 0 ≤ (ji39)
                          · rw [if_pos c40] at H
                            have c40b0 := eq_true c40
                            have c40b1 : decide (0 ≤ (ji39)) = true := decide_eq_true c40
                            clear c40
                            by_cases c41 : (ji39) ≤ (l0.length : Int)
                            · rw [if_pos c41] at H
                              have c41b0 := eq_true c41
                              have c41b1 : decide ((ji39) ≤ (l0.length : Int)) = true := decide_eq_true c41
                              clear c41
                              obtain ⟨y394, hy394⟩ : ∃ y_ : List (S226), y_ = (l0.drop ((ji39) : Int).toNat) := ⟨_, rfl⟩
                              replace H : (if y391.length + y394.length < 4398046511104 then (some ((y391 ++ y394), true)) else (none)) = some (r1, r2) := by first | (rw [hy394]; with_reducible exact H) | (have H2_ := (Option.bind_some _ _).symm.trans H; rw [hy394]; with_reducible exact H2_) | (have H2_ := (Option.bind_some _ _).symm.trans H; with_reducible exact H2_) | with_reducible exact H | (rw [hy394]; exact H) | exact H
                              have Ny394 := Aside0.mk hy394
                              clear hy394
                              by_cases c42 : y391.length + y394.length < 4398046511104
                              · rw [if_pos c42] at H
                                have LMc42 := Aside0.mk c42
                                clear c42
                                obtain ⟨y399, hy399⟩ : ∃ y_ : List (S226), y_ = (y391 ++ y394) := ⟨_, rfl⟩
                                replace H : (some (y399, true)) = some (r1, r2) := by first | (rw [hy399]; with_reducible exact H) | (have H2_ := (Option.bind_some _ _).symm.trans H; rw [hy399]; with_reducible exact H2_) | (have H2_ := (Option.bind_some _ _).symm.trans H; with_reducible exact H2_) | with_reducible exact H | (rw [hy399]; exact H) | exact H
                                have Ny399 := Aside0.mk hy399
                                clear hy399
                                simp only [Option.some.injEq, Prod.mk.injEq] at H
                                obtain ⟨rfl, rfl⟩ := H
                                have q54 : (x4_1 : Int) ≤ ((l0.length : Int) : Int) := of_decide_eq_true (by first | (with_reducible assumption) | assumption)
                                obtain ⟨i054, hi054, _, hsz54, _⟩ := info_parts info226
                                have hroom54 : l0.length ≤ c0 := (Kd.V_reads' HO_0.out).2.1
                                have hC54 : Kd.F k226 _ _ (some ad365) l0.length l0 := (Kd.V_at (base := w.heap.size) HO_0.out).2.2
                                have hcut54 := cut_to (P := Try.prog) 135 226 .i64 Try.underlying135 hi054 (some ad365) l0.length c0 x4_1 (of_decide_eq_true (by first | (with_reducible assumption) | assumption)) q54 hroom54
                                have hr54 := Kd.F_take (m := (x4_1 : Int).toNat) hC54 (by omega)
                                have hy54 : y369.length = (x4_1 : Int).toNat := (by rw [Ny369.out, List.length_take]; omega)
                                rw [← Ny369.out] at hr54
                                rw [← hy54] at hcut54
                                have HO373 := Aside0.mk (show Kd.V k226 226 _ w.heap.size _ (.slice (some ad365) y369.length c0) y369 from Kd.V_mk (by omega) hr54)
                                have HC373 := Aside0.mk (show y369.length ≤ c0 from by omega)
                                clear hr54 hC54 hroom54 hi054 hsz54
                                have KY54 := Aside0.mk hy54
                                clear hy54
                                replace q54 := eq_true q54
                                try go_wp2_with (first | ((with_reducible refine gate_builtin (b := .append) (xs := #[.tmp 24, .tmp 27]) rfl ?_); at_builtin; refine Kd.R_append_rows k226 (w0 := w) w.heap.size rfl (.tmp 24) (.tmp 27) 135 226 (.agg #[(.int .u8 0), (.int .i64 0), (.string ⟨#[]⟩)]) 32 rfl Try.underlying135 info226 rfl (by decide) (by omega) (.slice none 0 0) ([] : List (S226)) y369 _ _ _ (fun k_ => (w.heap.size ≤ k_) ∧ k_ ≠ gb367 ∧ k_ ≠ gb368) (fun _ => False) rfl rfl ?aO ?aR (fun _ _ h => h) (fun _ h => h.elim) ?aF ?aB ?aS ?aL ?_; (case aR => repeat (first | exact (Kd.V_reads' HO373.out).2.2 | (with_reducible refine Kd.C_alloc ?_ _) | (with_reducible refine Kd.C_drewN ?_ _) | (with_reducible refine Kd.C_drew ?_))); (case aB => exact (by repeat (first | (with_reducible first | exact HB.out | apply below_alloc | apply pw_below_drewN | apply below_drew1 | refine below_set ?_ GE367.out | refine below_set ?_ GE368.out) | exact HB.out))); (case aF => exact (fun k_ hk => ⟨(Nat.le_trans (below_size (by repeat (first | (with_reducible first | exact HB.out | apply below_alloc | apply pw_below_drewN | apply below_drew1 | refine below_set ?_ GE367.out | refine below_set ?_ GE368.out) | exact HB.out))) hk), Kd.freshB (g := gb367) (o := .cells #[.int .u8 ((rd_T226 l0 x4_1).f0), .int .i64 ((rd_T226 l0 x4_1).f1), .string ((rd_T226 l0 x4_1).f2)] 226 (0, 0)) (by (with_reducible repeat (first | refine blk_drewN ?_ _ | refine blk_drew ?_ | refine blk_alloc ?_ _)); exact BK367.out) k_ hk, Kd.freshB (g := gb368) (o := .cells #[.int .u8 ((rd_T226 l0 (ji5)).f0), .int .i64 ((rd_T226 l0 (ji5)).f1), .string ((rd_T226 l0 (ji5)).f2)] 226 (0, 0)) (by (with_reducible repeat (first | refine blk_drewN ?_ _ | refine blk_drew ?_ | refine blk_alloc ?_ _)); exact BK368.out) k_ hk⟩)); (case aO => exact ((Kd.R_nil _ _ _ _ (fun k_ => (w.heap.size ≤ k_) ∧ k_ ≠ gb367 ∧ k_ ≠ gb368)))); (case aS => exact (below_size (by repeat (first | (with_reducible first | exact HB.out | apply below_alloc | apply pw_below_drewN | apply below_drew1 | refine below_set ?_ GE367.out | refine below_set ?_ GE368.out) | exact HB.out)))); (case aL => have := LMc9.out; omega); intro v375 w55 ho hb hg hat; rw [← Ny374.out] at ho; have n0_ := Aside0.mk (Kd.V_afterv (Kd.V_apart_nil (by (with_reducible repeat (first | apply Kd.V_alloc | apply Kd.V_drewN | apply Kd.V_drew)); exact HO_0.out)) hg hat); have n1_ := Aside0.mk (blk_grown (g := gb367) (o := .cells #[.int .u8 ((rd_T226 l0 x4_1).f0), .int .i64 ((rd_T226 l0 x4_1).f1), .string ((rd_T226 l0 x4_1).f2)] 226 (0, 0)) (by (with_reducible repeat (first | refine blk_drewN ?_ _ | refine blk_drew ?_ | refine blk_alloc ?_ _)); exact BK367.out) hg (by simp [Value.ownBlock])); have n2_ := Aside0.mk (blk_grown (g := gb368) (o := .cells #[.int .u8 ((rd_T226 l0 (ji5)).f0), .int .i64 ((rd_T226 l0 (ji5)).f1), .string ((rd_T226 l0 (ji5)).f2)] 226 (0, 0)) (by (with_reducible repeat (first | refine blk_drewN ?_ _ | refine blk_drew ?_ | refine blk_alloc ?_ _)); exact BK368.out) hg (by simp [Value.ownBlock])); have n3_ := Aside0.mk (Kd.V_afterv (Kd.V_apart_nil (by (with_reducible repeat (first | apply Kd.V_alloc | apply Kd.V_drewN | apply Kd.V_drew)); exact HO373.out)) hg hat); have n4_ := Aside0.mk (hb); have n5_ := Aside0.mk (ho); clear HO_0; clear BK367; clear BK368; clear HO373; clear HB; have HO_0 := n0_; have BK367 := n1_; have BK368 := n2_; have HO373 := n3_; have HB := n4_; have HO376 := n5_; clear n0_ n1_ n2_ n3_ n4_ n5_; clear ho hb hg hat; have hnb56 := NB367_368.out; have hnc56 := NB368_367.out; have hcz57_0 : w55.cell? ⟨gb367, 0, none⟩ = some (.int .u8 ((rd_T226 l0 x4_1).f0)) := (blk_cell BK367.out 0).trans rfl; have hcz57_1 : w55.cell? ⟨gb367, 1, none⟩ = some (.int .i64 ((rd_T226 l0 x4_1).f1)) := (blk_cell BK367.out 1).trans rfl; have hcz57_2 : w55.cell? ⟨gb367, 2, none⟩ = some (.string ((rd_T226 l0 x4_1).f2)) := (blk_cell BK367.out 2).trans rfl; have hfz57_0 := blk_frozen BK367.out 0; have hfz57_1 := blk_frozen BK367.out 1; have hfz57_2 := blk_frozen BK367.out 2; have hcz58_0 : w55.cell? ⟨gb368, 0, none⟩ = some (.int .u8 ((rd_T226 l0 (ji5)).f0)) := (blk_cell BK368.out 0).trans rfl; have hcz58_1 : w55.cell? ⟨gb368, 1, none⟩ = some (.int .i64 ((rd_T226 l0 (ji5)).f1)) := (blk_cell BK368.out 1).trans rfl; have hcz58_2 : w55.cell? ⟨gb368, 2, none⟩ = some (.string ((rd_T226 l0 (ji5)).f2)) := (blk_cell BK368.out 2).trans rfl; have hfz58_0 := blk_frozen BK368.out 0; have hfz58_1 := blk_frozen BK368.out 1; have hfz58_2 := blk_frozen BK368.out 2) | ((with_reducible refine gate_dst (N := 67) rfl ?_); refine Kd.R_lit k226 _ 226 ?hg (N := 67) ?hd (xs := ([(⟨(rd_T226 l0 (ji5)).f0, (rd_T226 l0 (ji5)).f1, (rd_T226 l0 (ji5)).f2⟩ : S226), (⟨(rd_T226 l0 x4_1).f0, (rd_T226 l0 x4_1).f1, (rd_T226 l0 x4_1).f2⟩ : S226)] : List (S226))) (inner := [.int .u8 ((rd_T226 l0 (ji5)).f0), .int .i64 ((rd_T226 l0 (ji5)).f1), .string ((rd_T226 l0 (ji5)).f2), .int .u8 ((rd_T226 l0 x4_1).f0), .int .i64 ((rd_T226 l0 x4_1).f1), .string ((rd_T226 l0 x4_1).f2)]) (ok := fun _ => True) (okp := fun _ => True) ?hr ?hp (fun _ hk => hk) trivial (Below.refl _ _) (Nat.le_refl _) (by simp) ?_; (case hd => rfl); (case hg => rfl); (case hr => first | (go_simp; done) | (go_simp; rfl)); (case hp => exact (Reps.c3 (show Kd.M k226 _ _ _ (⟨(rd_T226 l0 (ji5)).f0, (rd_T226 l0 (ji5)).f1, (rd_T226 l0 (ji5)).f2⟩ : S226) [.int .u8 ((rd_T226 l0 (ji5)).f0), .int .i64 ((rd_T226 l0 (ji5)).f1), .string ((rd_T226 l0 (ji5)).f2)] from (k226_mkM _ _ _ (⟨(rd_T226 l0 (ji5)).f0, (rd_T226 l0 (ji5)).f1, (rd_T226 l0 (ji5)).f2⟩ : S226) )) (Reps.c3 (show Kd.M k226 _ _ _ (⟨(rd_T226 l0 x4_1).f0, (rd_T226 l0 x4_1).f1, (rd_T226 l0 x4_1).f2⟩ : S226) [.int .u8 ((rd_T226 l0 x4_1).f0), .int .i64 ((rd_T226 l0 x4_1).f1), .string ((rd_T226 l0 x4_1).f2)] from (k226_mkM _ _ _ (⟨(rd_T226 l0 x4_1).f0, (rd_T226 l0 x4_1).f1, (rd_T226 l0 x4_1).f2⟩ : S226) )) (Reps.none _ _)))); intro v389 w59 ho60 hb hg_ hnew_; clear hg_ hnew_; (first | rw [← Ny388.out] at ho60 | (simp only [Int.reduceToNat] at ho60; rw [← Ny388.out] at ho60)); have n0_ := Aside0.mk (Kd.V_elder' (by (with_reducible repeat (first | apply Kd.V_alloc | apply Kd.V_drewN | apply Kd.V_drew)); exact HO_0.out) (Kd.R_base ho60) hb); have n1_ := Aside0.mk (Kd.V_elder' (by (with_reducible repeat (first | apply Kd.V_alloc | apply Kd.V_drewN | apply Kd.V_drew)); exact HO373.out) (Kd.R_base ho60) hb); have n2_ := Aside0.mk (Kd.R_elder' (by (with_reducible repeat (first | apply Kd.R_alloc | apply Kd.R_drewN | apply Kd.R_drew)); exact HO376.out) (Kd.R_base ho60) hb); have n3_ := Aside0.mk (Kd.R_lower (Kd.R_newB (Kd.R_newB (Kd.R_new' (Kd.R_newM (M := fun k_ => (w.heap.size ≤ k_)) ho60 (below_size (by repeat (first | (with_reducible first | exact HB.out | apply below_alloc | apply pw_below_drewN | apply below_drew1 | refine below_set ?_ GE367.out | refine below_set ?_ GE368.out) | exact HB.out))) (fun k_ h_ => h_)) (Kd.R_lt (by (with_reducible repeat (first | apply Kd.R_alloc | apply Kd.R_drewN | apply Kd.R_drew)); exact HO376.out))) (g := gb367) (o := .cells #[.int .u8 ((rd_T226 l0 x4_1).f0), .int .i64 ((rd_T226 l0 x4_1).f1), .string ((rd_T226 l0 x4_1).f2)] 226 (0, 0)) (by (with_reducible repeat (first | refine blk_drewN ?_ _ | refine blk_drew ?_ | refine blk_alloc ?_ _)); exact BK367.out)) (g := gb368) (o := .cells #[.int .u8 ((rd_T226 l0 (ji5)).f0), .int .i64 ((rd_T226 l0 (ji5)).f1), .string ((rd_T226 l0 (ji5)).f2)] 226 (0, 0)) (by (with_reducible repeat (first | refine blk_drewN ?_ _ | refine blk_drew ?_ | refine blk_alloc ?_ _)); exact BK368.out)) (below_size (by repeat (first | (with_reducible first | exact HB.out | apply below_alloc | apply pw_below_drewN | apply below_drew1 | refine below_set ?_ GE367.out | refine below_set ?_ GE368.out) | exact HB.out)))); have n4_ := Aside0.mk (blk_below (g := gb367) (o := .cells #[.int .u8 ((rd_T226 l0 x4_1).f0), .int .i64 ((rd_T226 l0 x4_1).f1), .string ((rd_T226 l0 x4_1).f2)] 226 (0, 0)) (by (with_reducible repeat (first | refine blk_drewN ?_ _ | refine blk_drew ?_ | refine blk_alloc ?_ _)); exact BK367.out) hb); have n5_ := Aside0.mk (blk_below (g := gb368) (o := .cells #[.int .u8 ((rd_T226 l0 (ji5)).f0), .int .i64 ((rd_T226 l0 (ji5)).f1), .string ((rd_T226 l0 (ji5)).f2)] 226 (0, 0)) (by (with_reducible repeat (first | refine blk_drewN ?_ _ | refine blk_drew ?_ | refine blk_alloc ?_ _)); exact BK368.out) hb); have n6_ := Aside0.mk (below_step (by repeat (first | (with_reducible first | exact HB.out | apply below_alloc | apply pw_below_drewN | apply below_drew1 | refine below_set ?_ GE367.out | refine below_set ?_ GE368.out) | exact HB.out)) hb); clear HO_0; clear HO373; clear HO376; clear BK367; clear BK368; clear HB; have HO_0 := n0_; have HO373 := n1_; have HO376 := n2_; have HO390 := n3_; have BK367 := n4_; have BK368 := n5_; have HB := n6_; clear n0_ n1_ n2_ n3_ n4_ n5_ n6_; clear hb ho60; obtain ⟨Ao62, co62, eo62⟩ := Kd.R_slice HO390.out; subst eo62) | ((with_reducible refine gate_builtin (b := .append) (xs := #[.tmp 64, .tmp 67]) rfl ?_); at_builtin; refine Kd.R_append_rows k226 (w0 := w) w.heap.size rfl (.tmp 64) (.tmp 67) 135 226 (.agg #[(.int .u8 0), (.int .i64 0), (.string ⟨#[]⟩)]) 32 rfl Try.underlying135 info226 rfl (by decide) (by omega) v375 y374 y388 _ _ _ (fun k_ => (w.heap.size ≤ k_) ∧ some k_ ≠ (.slice Ao62 y388.length co62 : Value).ownBlock ∧ k_ ≠ gb367 ∧ k_ ≠ gb368) (fun _ => False) rfl rfl ?aO ?aR (fun _ _ h => h) (fun _ h => h.elim) ?aF ?aB ?aS ?aL ?_; (case aR => repeat (first | exact (Kd.R_reads' HO390.out).2.2 | (with_reducible refine Kd.C_alloc ?_ _) | (with_reducible refine Kd.C_drewN ?_ _) | (with_reducible refine Kd.C_drew ?_))); (case aB => exact (by repeat (first | (with_reducible first | exact HB.out | apply below_alloc | apply pw_below_drewN | apply below_drew1 | refine below_set ?_ GE367.out | refine below_set ?_ GE368.out) | exact HB.out))); (case aF => exact (fun k_ hk => ⟨(Nat.le_trans (below_size (by repeat (first | (with_reducible first | exact HB.out | apply below_alloc | apply pw_below_drewN | apply below_drew1 | refine below_set ?_ GE367.out | refine below_set ?_ GE368.out) | exact HB.out))) hk), Kd.fresh' (Kd.R_lt (by (with_reducible repeat (first | apply Kd.R_alloc | apply Kd.R_drewN | apply Kd.R_drew)); exact HO390.out)) k_ hk, Kd.freshB (g := gb367) (o := .cells #[.int .u8 ((rd_T226 l0 x4_1).f0), .int .i64 ((rd_T226 l0 x4_1).f1), .string ((rd_T226 l0 x4_1).f2)] 226 (0, 0)) (by (with_reducible repeat (first | refine blk_drewN ?_ _ | refine blk_drew ?_ | refine blk_alloc ?_ _)); exact BK367.out) k_ hk, Kd.freshB (g := gb368) (o := .cells #[.int .u8 ((rd_T226 l0 (ji5)).f0), .int .i64 ((rd_T226 l0 (ji5)).f1), .string ((rd_T226 l0 (ji5)).f2)] 226 (0, 0)) (by (with_reducible repeat (first | refine blk_drewN ?_ _ | refine blk_drew ?_ | refine blk_alloc ?_ _)); exact BK368.out) k_ hk⟩)); (case aO => exact (by (with_reducible repeat (first | apply Kd.R_alloc | apply Kd.R_drewN | apply Kd.R_drew)); exact Kd.R_mono HO376.out (fun _ hk => ⟨hk.1.1, ⟨hk.2, ⟨hk.1.2.1, hk.1.2.2⟩⟩⟩))); (case aS => exact (below_size (by repeat (first | (with_reducible first | exact HB.out | apply below_alloc | apply pw_below_drewN | apply below_drew1 | refine below_set ?_ GE367.out | refine below_set ?_ GE368.out) | exact HB.out)))); (case aL => have := LMc38.out; omega); intro v392 w61 ho hb hg hat; rw [← Ny391.out] at ho; have n0_ := Aside0.mk (Kd.V_afterv (ok := (fun k_ => (P0_ k_ ∨ w.heap.size ≤ k_) ∧ some k_ ≠ (.slice Ao62 y388.length co62 : Value).ownBlock ∧ k_ ≠ gb367 ∧ k_ ≠ gb368)) (by (with_reducible repeat (first | apply Kd.V_alloc | apply Kd.V_drewN | apply Kd.V_drew)); exact Kd.V_mono HO_0.out (fun _ hk => ⟨⟨hk.1.1.1, ⟨hk.2, ⟨hk.1.1.2.1, hk.1.1.2.2⟩⟩⟩, hk.1.2⟩)) hg hat); have n1_ := Aside0.mk (blk_grown (g := gb367) (o := .cells #[.int .u8 ((rd_T226 l0 x4_1).f0), .int .i64 ((rd_T226 l0 x4_1).f1), .string ((rd_T226 l0 x4_1).f2)] 226 (0, 0)) (by (with_reducible repeat (first | refine blk_drewN ?_ _ | refine blk_drew ?_ | refine blk_alloc ?_ _)); exact BK367.out) hg (Kd.R_away HO376.out (fun _ hk => hk.1.2.1))); have n2_ := Aside0.mk (blk_grown (g := gb368) (o := .cells #[.int .u8 ((rd_T226 l0 (ji5)).f0), .int .i64 ((rd_T226 l0 (ji5)).f1), .string ((rd_T226 l0 (ji5)).f2)] 226 (0, 0)) (by (with_reducible repeat (first | refine blk_drewN ?_ _ | refine blk_drew ?_ | refine blk_alloc ?_ _)); exact BK368.out) hg (Kd.R_away HO376.out (fun _ hk => hk.1.2.2))); have n3_ := Aside0.mk (Kd.V_afterv (ok := (fun k_ => (P0_ k_ ∨ w.heap.size ≤ k_) ∧ some k_ ≠ (.slice Ao62 y388.length co62 : Value).ownBlock ∧ k_ ≠ gb367 ∧ k_ ≠ gb368)) (by (with_reducible repeat (first | apply Kd.V_alloc | apply Kd.V_drewN | apply Kd.V_drew)); exact Kd.V_mono HO373.out (fun _ hk => ⟨⟨hk.1.1.1, ⟨hk.2, ⟨hk.1.1.2.1, hk.1.1.2.2⟩⟩⟩, hk.1.2⟩)) hg hat); have n4_ := Aside0.mk (Kd.R_after (ok := (fun k_ => (w.heap.size ≤ k_) ∧ k_ ≠ gb367 ∧ k_ ≠ gb368)) (by (with_reducible repeat (first | apply Kd.R_alloc | apply Kd.R_drewN | apply Kd.R_drew)); exact Kd.R_mono HO390.out (fun _ hk => ⟨⟨hk.1.1.1.1, ⟨hk.1.2, hk.2⟩⟩, hk.1.1.2⟩)) hg hat); have n5_ := Aside0.mk (hb); have n6_ := Aside0.mk (ho); clear HO_0; clear BK367; clear BK368; clear HO373; clear HO390; clear HB; clear HO376; have HO_0 := n0_; have BK367 := n1_; have BK368 := n2_; have HO373 := n3_; have HO390 := n4_; have HB := n5_; have HO393 := n6_; clear n0_ n1_ n2_ n3_ n4_ n5_ n6_; clear ho hb hg hat; have q63 : ((ji39) : Int) ≤ ((l0.length : Int) : Int) := of_decide_eq_true (by first | (with_reducible assumption) | assumption); obtain ⟨i063, hi063, _, hsz63, _⟩ := info_parts info226; have hroom63 : l0.length ≤ c0 := (Kd.V_reads' HO_0.out).2.1; have hC63 : Kd.F k226 _ _ (some ad365) l0.length l0 := (Kd.V_at (base := w.heap.size) HO_0.out).2.2; have q063 : (0 : Int) ≤ ((ji39) : Int) := of_decide_eq_true (by first | (with_reducible assumption) | assumption); have hcut63 := cut_from (P := Try.prog) 135 226 .i64 Try.underlying135 hi063 3 hsz63 (some ad365) l0.length c0 (ji39) q063 q63; have hr63 := Kd.F_cut (m := ((ji39) : Int).toNat) (c := c0) hC63 (by omega) hroom63; obtain ⟨A63, hA63⟩ : ∃ A1, A1 = (if c0 = ((ji39) : Int).toNat then (some ad365) else ((some ad365) : Option Addr).map (·.add (((ji39) : Int).toNat * 3))) := ⟨_, rfl⟩; obtain ⟨c63, hc63⟩ : ∃ c1, c1 = c0 - ((ji39) : Int).toNat := ⟨_, rfl⟩; have hy63 : y394.length = l0.length - ((ji39) : Int).toNat := (by rw [Ny394.out, List.length_drop] <;> omega); rw [show (l0).drop ((ji39) : Int).toNat = y394 from Ny394.out.symm] at hr63; replace hr63 : Kd.F k226 _ _ A63 y394.length y394 := (by rw [hA63]; exact hr63); rw [← hy63, ← hA63, ← hc63] at hcut63; have HO398 := Aside0.mk (show Kd.V k226 226 _ w.heap.size _ (.slice A63 y394.length c63) y394 from Kd.V_mk (by rw [hy63, hc63]; exact Nat.sub_le_sub_right hroom63 _) hr63); have HC398 := Aside0.mk (show y394.length ≤ c63 from by rw [hy63, hc63]; exact Nat.sub_le_sub_right hroom63 _); clear hr63 hC63 hroom63 hi063 hsz63 hc63; have KY63 := Aside0.mk hy63; have KA63 := Aside0.mk hA63; clear hy63 hA63; replace q63 := eq_true q63) | ((with_reducible refine gate_builtin (b := .append) (xs := #[.tmp 69, .tmp 73]) rfl ?_); at_builtin; refine Kd.R_append_rows k226 (w0 := w) w.heap.size rfl (.tmp 69) (.tmp 73) 135 226 (.agg #[(.int .u8 0), (.int .i64 0), (.string ⟨#[]⟩)]) 32 rfl Try.underlying135 info226 rfl (by decide) (by omega) v392 y391 y394 _ _ _ (fun k_ => (w.heap.size ≤ k_) ∧ some k_ ≠ (.slice Ao62 y388.length co62 : Value).ownBlock ∧ k_ ≠ gb367 ∧ k_ ≠ gb368) (fun _ => False) rfl rfl ?aO ?aR (fun _ _ h => h) (fun _ h => h.elim) ?aF ?aB ?aS ?aL ?_; (case aR => repeat (first | exact (Kd.V_reads' HO398.out).2.2 | (with_reducible refine Kd.C_alloc ?_ _) | (with_reducible refine Kd.C_drewN ?_ _) | (with_reducible refine Kd.C_drew ?_))); (case aB => exact (by repeat (first | (with_reducible first | exact HB.out | apply below_alloc | apply pw_below_drewN | apply below_drew1 | refine below_set ?_ GE367.out | refine below_set ?_ GE368.out) | exact HB.out))); (case aF => exact (fun k_ hk => ⟨(Nat.le_trans (below_size (by repeat (first | (with_reducible first | exact HB.out | apply below_alloc | apply pw_below_drewN | apply below_drew1 | refine below_set ?_ GE367.out | refine below_set ?_ GE368.out) | exact HB.out))) hk), Kd.fresh' (Kd.R_lt (by (with_reducible repeat (first | apply Kd.R_alloc | apply Kd.R_drewN | apply Kd.R_drew)); exact HO390.out)) k_ hk, Kd.freshB (g := gb367) (o := .cells #[.int .u8 ((rd_T226 l0 x4_1).f0), .int .i64 ((rd_T226 l0 x4_1).f1), .string ((rd_T226 l0 x4_1).f2)] 226 (0, 0)) (by (with_reducible repeat (first | refine blk_drewN ?_ _ | refine blk_drew ?_ | refine blk_alloc ?_ _)); exact BK367.out) k_ hk, Kd.freshB (g := gb368) (o := .cells #[.int .u8 ((rd_T226 l0 (ji5)).f0), .int .i64 ((rd_T226 l0 (ji5)).f1), .string ((rd_T226 l0 (ji5)).f2)] 226 (0, 0)) (by (with_reducible repeat (first | refine blk_drewN ?_ _ | refine blk_drew ?_ | refine blk_alloc ?_ _)); exact BK368.out) k_ hk⟩)); (case aO => exact (by (with_reducible repeat (first | apply Kd.R_alloc | apply Kd.R_drewN | apply Kd.R_drew)); exact HO393.out)); (case aS => exact (below_size (by repeat (first | (with_reducible first | exact HB.out | apply below_alloc | apply pw_below_drewN | apply below_drew1 | refine below_set ?_ GE367.out | refine below_set ?_ GE368.out) | exact HB.out)))); (case aL => have := LMc42.out; omega); intro v400 w64 ho hb hg hat; rw [← Ny399.out] at ho; have n0_ := Aside0.mk (Kd.V_afterv (ok := (fun k_ => (P0_ k_ ∨ w.heap.size ≤ k_) ∧ some k_ ≠ (.slice Ao62 y388.length co62 : Value).ownBlock ∧ k_ ≠ gb367 ∧ k_ ≠ gb368)) (by (with_reducible repeat (first | apply Kd.V_alloc | apply Kd.V_drewN | apply Kd.V_drew)); exact HO_0.out) hg hat); have n1_ := Aside0.mk (blk_grown (g := gb367) (o := .cells #[.int .u8 ((rd_T226 l0 x4_1).f0), .int .i64 ((rd_T226 l0 x4_1).f1), .string ((rd_T226 l0 x4_1).f2)] 226 (0, 0)) (by (with_reducible repeat (first | refine blk_drewN ?_ _ | refine blk_drew ?_ | refine blk_alloc ?_ _)); exact BK367.out) hg (Kd.R_away HO393.out (fun _ hk => hk.2.2.1))); have n2_ := Aside0.mk (blk_grown (g := gb368) (o := .cells #[.int .u8 ((rd_T226 l0 (ji5)).f0), .int .i64 ((rd_T226 l0 (ji5)).f1), .string ((rd_T226 l0 (ji5)).f2)] 226 (0, 0)) (by (with_reducible repeat (first | refine blk_drewN ?_ _ | refine blk_drew ?_ | refine blk_alloc ?_ _)); exact BK368.out) hg (Kd.R_away HO393.out (fun _ hk => hk.2.2.2))); have n3_ := Aside0.mk (Kd.V_afterv (ok := (fun k_ => (P0_ k_ ∨ w.heap.size ≤ k_) ∧ some k_ ≠ (.slice Ao62 y388.length co62 : Value).ownBlock ∧ k_ ≠ gb367 ∧ k_ ≠ gb368)) (by (with_reducible repeat (first | apply Kd.V_alloc | apply Kd.V_drewN | apply Kd.V_drew)); exact HO373.out) hg hat); have n4_ := Aside0.mk (Kd.R_after (ok := (fun k_ => (w.heap.size ≤ k_) ∧ k_ ≠ gb367 ∧ k_ ≠ gb368)) (by (with_reducible repeat (first | apply Kd.R_alloc | apply Kd.R_drewN | apply Kd.R_drew)); exact HO390.out) hg hat); have n5_ := Aside0.mk (Kd.V_afterv (ok := (fun k_ => (P0_ k_ ∨ w.heap.size ≤ k_) ∧ some k_ ≠ (.slice Ao62 y388.length co62 : Value).ownBlock ∧ k_ ≠ gb367 ∧ k_ ≠ gb368)) (by (with_reducible repeat (first | apply Kd.V_alloc | apply Kd.V_drewN | apply Kd.V_drew)); exact HO398.out) hg hat); have n6_ := Aside0.mk (hb); have n7_ := Aside0.mk (ho); clear HO_0; clear BK367; clear BK368; clear HO373; clear HO390; clear HO398; clear HB; clear HO393; have HO_0 := n0_; have BK367 := n1_; have BK368 := n2_; have HO373 := n3_; have HO390 := n4_; have HO398 := n5_; have HB := n6_; have HO401 := n7_; clear n0_ n1_ n2_ n3_ n4_ n5_ n6_ n7_; clear ho hb hg hat))
                                go_ret2
                                exact ⟨_, by first | rfl | (simp [errW_none, errW_some] <;> rfl) | (simp only [← hji5, ← hji39]; first | rfl | (simp [errW_none, errW_some] <;> rfl)) | (simp [*, errW_none, errW_some] <;> rfl), Kd.V_mono (Kd.R_V (by (with_reducible repeat (first | apply Kd.R_alloc | apply Kd.R_drewN | apply Kd.R_drew)); exact Kd.R_mono HO401.out (fun _ hk => hk.1))) (fun k_ hk => by first | exact ⟨(.inr (hk.1)), hk.2⟩ | exact (.inr (hk))), by repeat (first | (with_reducible first | exact HB.out | apply below_alloc | apply pw_below_drewN | apply below_drew1 | refine below_set ?_ GE367.out | refine below_set ?_ GE368.out) | exact HB.out)⟩
                              · rw [if_neg c42] at H
                                exact absurd H (by simp)
                            · rw [if_neg c41] at H
                              exact absurd H (by simp)
                          · rw [if_neg c40] at H
                            exact absurd H (by simp)
                        · rw [if_neg c38] at H
                          exact absurd H (by simp)
                      · rw [if_neg c37] at H
                        have c37b0 : (((rd_T226 l0 (ji5)).f0) == 2) = false := beq_eq_false_iff_ne.mpr c37
                        have c37b1 : (((rd_T226 l0 (ji5)).f0) != 2) = true := bne_iff_ne.mpr c37
                        have H' := Aside0.mk H
                        clear H
                        have q76 : (x4_1 : Int) ≤ ((l0.length : Int) : Int) := of_decide_eq_true (by first | (with_reducible assumption) | assumption)
                        obtain ⟨i076, hi076, _, hsz76, _⟩ := info_parts info226
                        have hroom76 : l0.length ≤ c0 := (Kd.V_reads' HO_0.out).2.1
                        have hC76 : Kd.F k226 _ _ (some ad365) l0.length l0 := (Kd.V_at (base := w.heap.size) HO_0.out).2.2
                        have hcut76 := cut_to (P := Try.prog) 135 226 .i64 Try.underlying135 hi076 (some ad365) l0.length c0 x4_1 (of_decide_eq_true (by first | (with_reducible assumption) | assumption)) q76 hroom76
                        have hr76 := Kd.F_take (m := (x4_1 : Int).toNat) hC76 (by omega)
                        have hy76 : y369.length = (x4_1 : Int).toNat := (by rw [Ny369.out, List.length_take]; omega)
                        rw [← Ny369.out] at hr76
                        rw [← hy76] at hcut76
                        have HO373 := Aside0.mk (show Kd.V k226 226 _ w.heap.size _ (.slice (some ad365) y369.length c0) y369 from Kd.V_mk (by omega) hr76)
                        have HC373 := Aside0.mk (show y369.length ≤ c0 from by omega)
                        clear hr76 hC76 hroom76 hi076 hsz76
                        have KY76 := Aside0.mk hy76
                        clear hy76
                        replace q76 := eq_true q76
                        try go_wp2_with (first | ((with_reducible refine gate_builtin (b := .append) (xs := #[.tmp 24, .tmp 27]) rfl ?_); at_builtin; refine Kd.R_append_rows k226 (w0 := w) w.heap.size rfl (.tmp 24) (.tmp 27) 135 226 (.agg #[(.int .u8 0), (.int .i64 0), (.string ⟨#[]⟩)]) 32 rfl Try.underlying135 info226 rfl (by decide) (by omega) (.slice none 0 0) ([] : List (S226)) y369 _ _ _ (fun k_ => (w.heap.size ≤ k_) ∧ k_ ≠ gb367 ∧ k_ ≠ gb368) (fun _ => False) rfl rfl ?aO ?aR (fun _ _ h => h) (fun _ h => h.elim) ?aF ?aB ?aS ?aL ?_; (case aR => repeat (first | exact (Kd.V_reads' HO373.out).2.2 | (with_reducible refine Kd.C_alloc ?_ _) | (with_reducible refine Kd.C_drewN ?_ _) | (with_reducible refine Kd.C_drew ?_))); (case aB => exact (by repeat (first | (with_reducible first | exact HB.out | apply below_alloc | apply pw_below_drewN | apply below_drew1 | refine below_set ?_ GE367.out | refine below_set ?_ GE368.out) | exact HB.out))); (case aF => exact (fun k_ hk => ⟨(Nat.le_trans (below_size (by repeat (first | (with_reducible first | exact HB.out | apply below_alloc | apply pw_below_drewN | apply below_drew1 | refine below_set ?_ GE367.out | refine below_set ?_ GE368.out) | exact HB.out))) hk), Kd.freshB (g := gb367) (o := .cells #[.int .u8 ((rd_T226 l0 x4_1).f0), .int .i64 ((rd_T226 l0 x4_1).f1), .string ((rd_T226 l0 x4_1).f2)] 226 (0, 0)) (by (with_reducible repeat (first | refine blk_drewN ?_ _ | refine blk_drew ?_ | refine blk_alloc ?_ _)); exact BK367.out) k_ hk, Kd.freshB (g := gb368) (o := .cells #[.int .u8 ((rd_T226 l0 (ji5)).f0), .int .i64 ((rd_T226 l0 (ji5)).f1), .string ((rd_T226 l0 (ji5)).f2)] 226 (0, 0)) (by (with_reducible repeat (first | refine blk_drewN ?_ _ | refine blk_drew ?_ | refine blk_alloc ?_ _)); exact BK368.out) k_ hk⟩)); (case aO => exact ((Kd.R_nil _ _ _ _ (fun k_ => (w.heap.size ≤ k_) ∧ k_ ≠ gb367 ∧ k_ ≠ gb368)))); (case aS => exact (below_size (by repeat (first | (with_reducible first | exact HB.out | apply below_alloc | apply pw_below_drewN | apply below_drew1 | refine below_set ?_ GE367.out | refine below_set ?_ GE368.out) | exact HB.out)))); (case aL => have := LMc9.out; omega); intro v375 w77 ho hb hg hat; rw [← Ny374.out] at ho; have n0_ := Aside0.mk (Kd.V_afterv (Kd.V_apart_nil (by (with_reducible repeat (first | apply Kd.V_alloc | apply Kd.V_drewN | apply Kd.V_drew)); exact HO_0.out)) hg hat); have n1_ := Aside0.mk (blk_grown (g := gb367) (o := .cells #[.int .u8 ((rd_T226 l0 x4_1).f0), .int .i64 ((rd_T226 l0 x4_1).f1), .string ((rd_T226 l0 x4_1).f2)] 226 (0, 0)) (by (with_reducible repeat (first | refine blk_drewN ?_ _ | refine blk_drew ?_ | refine blk_alloc ?_ _)); exact BK367.out) hg (by simp [Value.ownBlock])); have n2_ := Aside0.mk (blk_grown (g := gb368) (o := .cells #[.int .u8 ((rd_T226 l0 (ji5)).f0), .int .i64 ((rd_T226 l0 (ji5)).f1), .string ((rd_T226 l0 (ji5)).f2)] 226 (0, 0)) (by (with_reducible repeat (first | refine blk_drewN ?_ _ | refine blk_drew ?_ | refine blk_alloc ?_ _)); exact BK368.out) hg (by simp [Value.ownBlock])); have n3_ := Aside0.mk (Kd.V_afterv (Kd.V_apart_nil (by (with_reducible repeat (first | apply Kd.V_alloc | apply Kd.V_drewN | apply Kd.V_drew)); exact HO373.out)) hg hat); have n4_ := Aside0.mk (hb); have n5_ := Aside0.mk (ho); clear HO_0; clear BK367; clear BK368; clear HO373; clear HB; have HO_0 := n0_; have BK367 := n1_; have BK368 := n2_; have HO373 := n3_; have HB := n4_; have HO376 := n5_; clear n0_ n1_ n2_ n3_ n4_ n5_; clear ho hb hg hat; have hnb78 := NB367_368.out; have hnc78 := NB368_367.out; have hcz79_0 : w77.cell? ⟨gb367, 0, none⟩ = some (.int .u8 ((rd_T226 l0 x4_1).f0)) := (blk_cell BK367.out 0).trans rfl; have hcz79_1 : w77.cell? ⟨gb367, 1, none⟩ = some (.int .i64 ((rd_T226 l0 x4_1).f1)) := (blk_cell BK367.out 1).trans rfl; have hcz79_2 : w77.cell? ⟨gb367, 2, none⟩ = some (.string ((rd_T226 l0 x4_1).f2)) := (blk_cell BK367.out 2).trans rfl; have hfz79_0 := blk_frozen BK367.out 0; have hfz79_1 := blk_frozen BK367.out 1; have hfz79_2 := blk_frozen BK367.out 2; have hcz80_0 : w77.cell? ⟨gb368, 0, none⟩ = some (.int .u8 ((rd_T226 l0 (ji5)).f0)) := (blk_cell BK368.out 0).trans rfl; have hcz80_1 : w77.cell? ⟨gb368, 1, none⟩ = some (.int .i64 ((rd_T226 l0 (ji5)).f1)) := (blk_cell BK368.out 1).trans rfl; have hcz80_2 : w77.cell? ⟨gb368, 2, none⟩ = some (.string ((rd_T226 l0 (ji5)).f2)) := (blk_cell BK368.out 2).trans rfl; have hfz80_0 := blk_frozen BK368.out 0; have hfz80_1 := blk_frozen BK368.out 1; have hfz80_2 := blk_frozen BK368.out 2))
                        go_roundg k1
                        case measure => have := HK1.out; omega
                        case rel => exact ⟨(ji5), (by first | rfl | (simp; done) | (simp only [← hji5] <;> (first | rfl | simp)) | (simp [*]; done)), H', ⟨by have := HK1.out; omega⟩, ⟨by (with_reducible repeat (first | apply Kd.V_alloc | apply Kd.V_drewN | apply Kd.V_drew)); exact Kd.V_mono HO_0.out (fun _ hk => hk.1.1)⟩, ⟨by repeat (first | (with_reducible first | exact HB.out | apply below_alloc | apply pw_below_drewN | apply below_drew1 | refine below_set ?_ GE367.out | refine below_set ?_ GE368.out) | exact HB.out)⟩⟩
                    · rw [if_neg c36] at H
                      have c36b0 : (((rd_T226 l0 x4_1).f0) == 3) = false := beq_eq_false_iff_ne.mpr c36
                      have c36b1 : (((rd_T226 l0 x4_1).f0) != 3) = true := bne_iff_ne.mpr c36
                      have H' := Aside0.mk H
                      clear H
                      have q92 : (x4_1 : Int) ≤ ((l0.length : Int) : Int) := of_decide_eq_true (by first | (with_reducible assumption) | assumption)
                      obtain ⟨i092, hi092, _, hsz92, _⟩ := info_parts info226
                      have hroom92 : l0.length ≤ c0 := (Kd.V_reads' HO_0.out).2.1
                      have hC92 : Kd.F k226 _ _ (some ad365) l0.length l0 := (Kd.V_at (base := w.heap.size) HO_0.out).2.2
                      have hcut92 := cut_to (P := Try.prog) 135 226 .i64 Try.underlying135 hi092 (some ad365) l0.length c0 x4_1 (of_decide_eq_true (by first | (with_reducible assumption) | assumption)) q92 hroom92
                      have hr92 := Kd.F_take (m := (x4_1 : Int).toNat) hC92 (by omega)
                      have hy92 : y369.length = (x4_1 : Int).toNat := (by rw [Ny369.out, List.length_take]; omega)
                      rw [← Ny369.out] at hr92
                      rw [← hy92] at hcut92
                      have HO373 := Aside0.mk (show Kd.V k226 226 _ w.heap.size _ (.slice (some ad365) y369.length c0) y369 from Kd.V_mk (by omega) hr92)
                      have HC373 := Aside0.mk (show y369.length ≤ c0 from by omega)
                      clear hr92 hC92 hroom92 hi092 hsz92
                      have KY92 := Aside0.mk hy92
                      clear hy92
                      replace q92 := eq_true q92
                      try go_wp2_with (first | ((with_reducible refine gate_builtin (b := .append) (xs := #[.tmp 24, .tmp 27]) rfl ?_); at_builtin; refine Kd.R_append_rows k226 (w0 := w) w.heap.size rfl (.tmp 24) (.tmp 27) 135 226 (.agg #[(.int .u8 0), (.int .i64 0), (.string ⟨#[]⟩)]) 32 rfl Try.underlying135 info226 rfl (by decide) (by omega) (.slice none 0 0) ([] : List (S226)) y369 _ _ _ (fun k_ => (w.heap.size ≤ k_) ∧ k_ ≠ gb367 ∧ k_ ≠ gb368) (fun _ => False) rfl rfl ?aO ?aR (fun _ _ h => h) (fun _ h => h.elim) ?aF ?aB ?aS ?aL ?_; (case aR => repeat (first | exact (Kd.V_reads' HO373.out).2.2 | (with_reducible refine Kd.C_alloc ?_ _) | (with_reducible refine Kd.C_drewN ?_ _) | (with_reducible refine Kd.C_drew ?_))); (case aB => exact (by repeat (first | (with_reducible first | exact HB.out | apply below_alloc | apply pw_below_drewN | apply below_drew1 | refine below_set ?_ GE367.out | refine below_set ?_ GE368.out) | exact HB.out))); (case aF => exact (fun k_ hk => ⟨(Nat.le_trans (below_size (by repeat (first | (with_reducible first | exact HB.out | apply below_alloc | apply pw_below_drewN | apply below_drew1 | refine below_set ?_ GE367.out | refine below_set ?_ GE368.out) | exact HB.out))) hk), Kd.freshB (g := gb367) (o := .cells #[.int .u8 ((rd_T226 l0 x4_1).f0), .int .i64 ((rd_T226 l0 x4_1).f1), .string ((rd_T226 l0 x4_1).f2)] 226 (0, 0)) (by (with_reducible repeat (first | refine blk_drewN ?_ _ | refine blk_drew ?_ | refine blk_alloc ?_ _)); exact BK367.out) k_ hk, Kd.freshB (g := gb368) (o := .cells #[.int .u8 ((rd_T226 l0 (ji5)).f0), .int .i64 ((rd_T226 l0 (ji5)).f1), .string ((rd_T226 l0 (ji5)).f2)] 226 (0, 0)) (by (with_reducible repeat (first | refine blk_drewN ?_ _ | refine blk_drew ?_ | refine blk_alloc ?_ _)); exact BK368.out) k_ hk⟩)); (case aO => exact ((Kd.R_nil _ _ _ _ (fun k_ => (w.heap.size ≤ k_) ∧ k_ ≠ gb367 ∧ k_ ≠ gb368)))); (case aS => exact (below_size (by repeat (first | (with_reducible first | exact HB.out | apply below_alloc | apply pw_below_drewN | apply below_drew1 | refine below_set ?_ GE367.out | refine below_set ?_ GE368.out) | exact HB.out)))); (case aL => have := LMc9.out; omega); intro v375 w93 ho hb hg hat; rw [← Ny374.out] at ho; have n0_ := Aside0.mk (Kd.V_afterv (Kd.V_apart_nil (by (with_reducible repeat (first | apply Kd.V_alloc | apply Kd.V_drewN | apply Kd.V_drew)); exact HO_0.out)) hg hat); have n1_ := Aside0.mk (blk_grown (g := gb367) (o := .cells #[.int .u8 ((rd_T226 l0 x4_1).f0), .int .i64 ((rd_T226 l0 x4_1).f1), .string ((rd_T226 l0 x4_1).f2)] 226 (0, 0)) (by (with_reducible repeat (first | refine blk_drewN ?_ _ | refine blk_drew ?_ | refine blk_alloc ?_ _)); exact BK367.out) hg (by simp [Value.ownBlock])); have n2_ := Aside0.mk (blk_grown (g := gb368) (o := .cells #[.int .u8 ((rd_T226 l0 (ji5)).f0), .int .i64 ((rd_T226 l0 (ji5)).f1), .string ((rd_T226 l0 (ji5)).f2)] 226 (0, 0)) (by (with_reducible repeat (first | refine blk_drewN ?_ _ | refine blk_drew ?_ | refine blk_alloc ?_ _)); exact BK368.out) hg (by simp [Value.ownBlock])); have n3_ := Aside0.mk (Kd.V_afterv (Kd.V_apart_nil (by (with_reducible repeat (first | apply Kd.V_alloc | apply Kd.V_drewN | apply Kd.V_drew)); exact HO373.out)) hg hat); have n4_ := Aside0.mk (hb); have n5_ := Aside0.mk (ho); clear HO_0; clear BK367; clear BK368; clear HO373; clear HB; have HO_0 := n0_; have BK367 := n1_; have BK368 := n2_; have HO373 := n3_; have HB := n4_; have HO376 := n5_; clear n0_ n1_ n2_ n3_ n4_ n5_; clear ho hb hg hat; have hnb94 := NB367_368.out; have hnc94 := NB368_367.out; have hcz95_0 : w93.cell? ⟨gb367, 0, none⟩ = some (.int .u8 ((rd_T226 l0 x4_1).f0)) := (blk_cell BK367.out 0).trans rfl; have hcz95_1 : w93.cell? ⟨gb367, 1, none⟩ = some (.int .i64 ((rd_T226 l0 x4_1).f1)) := (blk_cell BK367.out 1).trans rfl; have hcz95_2 : w93.cell? ⟨gb367, 2, none⟩ = some (.string ((rd_T226 l0 x4_1).f2)) := (blk_cell BK367.out 2).trans rfl; have hfz95_0 := blk_frozen BK367.out 0; have hfz95_1 := blk_frozen BK367.out 1; have hfz95_2 := blk_frozen BK367.out 2; have hcz96_0 : w93.cell? ⟨gb368, 0, none⟩ = some (.int .u8 ((rd_T226 l0 (ji5)).f0)) := (blk_cell BK368.out 0).trans rfl; have hcz96_1 : w93.cell? ⟨gb368, 1, none⟩ = some (.int .i64 ((rd_T226 l0 (ji5)).f1)) := (blk_cell BK368.out 1).trans rfl; have hcz96_2 : w93.cell? ⟨gb368, 2, none⟩ = some (.string ((rd_T226 l0 (ji5)).f2)) := (blk_cell BK368.out 2).trans rfl; have hfz96_0 := blk_frozen BK368.out 0; have hfz96_1 := blk_frozen BK368.out 1; have hfz96_2 := blk_frozen BK368.out 2))
                      go_roundg k1
                      case measure => have := HK1.out; omega
                      case rel => exact ⟨(ji5), (by first | rfl | (simp; done) | (simp only [← hji5] <;> (first | rfl | simp)) | (simp [*]; done)), H', ⟨by have := HK1.out; omega⟩, ⟨by (with_reducible repeat (first | apply Kd.V_alloc | apply Kd.V_drewN | apply Kd.V_drew)); exact Kd.V_mono HO_0.out (fun _ hk => hk.1.1)⟩, ⟨by repeat (first | (with_reducible first | exact HB.out | apply below_alloc | apply pw_below_drewN | apply below_drew1 | refine below_set ?_ GE367.out | refine below_set ?_ GE368.out) | exact HB.out)⟩⟩
                · rw [if_neg c9] at H
                  exact absurd H (by simp)
              · rw [if_neg c8] at H
                exact absurd H (by simp)
            · rw [if_neg c6] at H
              exact absurd H (by simp)
          · rw [if_neg c4] at H
            exact absurd H (by simp)
        · rw [if_neg c3] at H
          exact absurd H (by simp)
      · rw [if_neg c2] at H
        have c2b0 : decide ((wrap64 (x4_1 + 1)) < (l0.length : Int)) = false := decide_eq_false c2
        clear c2
        simp only [Option.some.injEq, Prod.mk.injEq] at H
        obtain ⟨rfl, rfl⟩ := H
        go_wp2
        go_ret2
        exact ⟨_, by first | rfl | (simp [errW_none, errW_some] <;> rfl) | (simp [*, errW_none, errW_some] <;> rfl), by (with_reducible repeat (first | apply Kd.V_alloc | apply Kd.V_drewN | apply Kd.V_drew)); exact HO_0.out, by repeat (first | (with_reducible first | exact HB.out | apply below_alloc | apply pw_below_drewN | apply below_drew1) | exact HB.out)⟩
end Go.Proofs.Ytoeabgeglgiobaa.P
