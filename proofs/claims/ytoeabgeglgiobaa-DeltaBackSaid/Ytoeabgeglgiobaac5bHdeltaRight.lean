/- Whether edits may be: what the program's delta.Right answers; where the first edit is that a function picks. No condition but those of each theorem. -/
import Derived.Test.Ytoeabgeglgiobaac5bQDed
namespace Go.Proofs.Ytoeabgeglgiobaa.P
open Go.RowKit Go.Proofs.YtoeabgeglgiobaaW.PrintWords Go.Proofs.YtoeabgeglgiobaaW.PrintLast Go.Proofs.YtoeabgeglgiobaaW.PrintMore
open Go.Proofs.Ytoeabgeglgiobaa.Q (rightB)
set_option linter.unusedVariables false
set_option maxHeartbeats 1000000 in
set_option maxRecDepth 100000 in
theorem delta_Right1.calls (a0 a1 : Int) (a2 : ByteArray) (w : World) :
    Calls Try.prog 179 #[.agg #[.int .u8 a0, .int .i64 a1, .string a2]] w fun e w' => e = .returned (.bool (!rightB a0 a1 a2)) ∧ Below w.heap.size w w' := by
  obtain ⟨k, hk⟩ := Ev.rounds (Q.vright a0 a1 a2)
  have K := Aside0.mk hk
  clear hk
  have hu153 := Try.underlying153
  go_enter Try.func179, Try.ntmps179
  go_wp2_with (go_at_call 172; refine (delta_Edit_right.calls k a0 a1 a2 _ _ K.out).mono ?_; rintro e w1 ⟨rfl, hb⟩)
  go_ret
  exact ⟨rfl, below_step (below_alloc (Below.refl _ _) _) hb⟩
/-- A call of a function comes to that function. -/
def Ent (g : Nat) : Prop := ∀ (args : Array Value) (W : World), (callFunc g args).run Try.prog W = .ok (.enter g args) W
/-- What a predicate on edits answers, whatever the world. -/
def Pred153 (g : Nat) (p : S153 → Bool) : Prop := ∀ (x : S153) (w : World), Calls Try.prog g #[.agg #[.int .u8 x.f0, .int .i64 x.f1, .string x.f2]] w fun e w' => e = .returned (.bool (p x)) ∧ Below w.heap.size w w'
/-- The first place, from i on, at which p holds. -/
def idxP (p : S153 → Bool) : List S153 → Nat → Int
  | [], _ => -1
  | x :: l, i => if p x = true then (i : Int) else idxP p l (i + 1)
theorem idxP_drop (p : S153 → Bool) (l : List S153) (k : Nat) (h : k < l.length) : idxP p (l.drop k) k = if p (rd_T153 l (k : Int)) = true then (k : Int) else idxP p (l.drop (k + 1)) (k + 1) := by
  rw [List.drop_eq_getElem_cons h, idxP]
  have : rd_T153 l (k : Int) = l[k] := by simp [rd_T153, List.getD, h]
  rw [this]
set_option maxHeartbeats 2000000 in
set_option maxRecDepth 100000 in
theorem slices_IndexFunc153.calls (g : Nat) (p : S153 → Bool) (hP : Pred153 g p) (hg : Ent g) (A : Option Addr) (c : Nat) (l : List S153) (w : World) (hr : Kd.C k153 w A l.length l) (hc : l.length ≤ c) :
    Calls Try.prog 203 #[.slice A l.length c, .func (.func g) #[] #[]] w fun e w' => e = .returned (.int .i64 (idxP p l 0)) ∧ Below w.heap.size w w' := by
  have hen : ∀ (args : Array Value) (W : World), (callFunc g args).run Try.prog W = .ok (.enter g args) W := hg
  have HP := Aside0.mk hP
  have HR := Aside0.mk hr
  have HC := Aside0.mk hc
  have hmax : l.length ≤ 9223372036854775807 := hr.2.1
  have hu133 := Try.underlying133
  have hu153 := Try.underlying153
  clear hr hc hP hg
  go_enter Try.func203, Try.ntmps203
  go_wp2
  go_loopw [8] (fun i wr => ∃ k : Nat, k ≤ l.length ∧ i = .int .i64 k ∧ Aside0 (idxP p l 0 = idxP p (l.drop k) k) ∧ Aside0 (Below w.heap.size w wr)) (fun i _ => l.length - (intOf i).toNat)
  case atStart => exact ⟨0, Nat.zero_le _, rfl, ⟨by rw [List.drop_zero]⟩, ⟨Below.refl _ _⟩⟩
  case round =>
    obtain ⟨k, hk, rfl, HI, HB⟩ := hrel
    by_cases hlt : k < l.length
    · obtain ⟨ad, rfl, x0, x1, x2⟩ := at_T153 HR.out (k : Int) (by omega) (by omega)
      have y0 := (HB.out.cell (World.block_lt_of_cell? w _ x0)).trans x0
      have y1 := (HB.out.cell (World.block_lt_of_cell? w _ x1)).trans x1
      have y2 := (HB.out.cell (World.block_lt_of_cell? w _ x2)).trans x2
      have HE := Aside0.mk (idxP_drop p l k hlt)
      rw [Int.toNat_natCast] at y0 y1 y2
      clear x0 x1 x2
      have HK := Aside0.mk (show ∀ W, Calls Try.prog g #[.agg #[.int .u8 (rd_T153 l (k : Int)).f0, .int .i64 (rd_T153 l (k : Int)).f1, .string (rd_T153 l (k : Int)).f2]] W (fun e w' => e = .returned (.bool (p (rd_T153 l (k : Int)))) ∧ Below W.heap.size W w') from fun W => HP.out _ W)
      cases hp : p (rd_T153 l (k : Int)) with
      | true =>
        rw [hp] at HE HK
        clear hp
        go_wp2_with ((with_reducible refine (HK.out _).mono ?_); rintro e w1 ⟨rfl, hb⟩)
        go_ret
        have hx : idxP p l 0 = (k : Int) := by rw [HI.out, HE.out]; simp
        exact ⟨by rw [hx]; rfl, below_step HB.out hb⟩
      | false =>
        rw [hp] at HE HK
        clear hp
        go_wp2_with ((with_reducible refine (HK.out _).mono ?_); rintro e w1 ⟨rfl, hb⟩)
        go_roundw
        case rel => exact ⟨k + 1, by omega, by go_num, ⟨by rw [HI.out, HE.out]; simp⟩, ⟨below_step HB.out hb⟩⟩
        case measure => simp [intOf]; omega
    · go_wp2
      go_ret
      exact ⟨by rw [HI.out, List.drop_eq_nil_of_le (by omega)]; rfl, HB.out⟩
theorem idxP_any (p : S153 → Bool) : ∀ (l : List S153) (i : Nat), decide (idxP p l i ≥ 0) = l.any p
  | [], _ => rfl
  | x :: l, i => by
    rw [idxP, List.any_cons]
    by_cases h : p x = true
    · rw [if_pos h, h]; simp
    · rw [if_neg h, idxP_any p l (i + 1)]; simp [h]
set_option maxHeartbeats 1000000 in
set_option maxRecDepth 100000 in
theorem slices_ContainsFunc153.calls (g : Nat) (p : S153 → Bool) (hP : Pred153 g p) (hg : Ent g) (A : Option Addr) (c : Nat) (l : List S153) (w : World) (hr : Kd.C k153 w A l.length l) (hc : l.length ≤ c) :
    Calls Try.prog 178 #[.slice A l.length c, .func (.func g) #[] #[]] w fun e w' => e = .returned (.bool (l.any p)) ∧ Below w.heap.size w w' := by
  have HX := Aside0.mk (idxP_any p l 0)
  go_enter Try.func178, Try.ntmps178
  go_wp2_with (go_at_call 203; (refine (slices_IndexFunc153.calls g p hP hg A c l _ hr hc).mono ?_); rintro e w1 ⟨rfl, hb⟩)
  go_ret
  exact ⟨by rw [← HX.out]; rfl, hb⟩
/-- Whether edits may be. -/
def delta_Right.f (l0 : List S153) : Option Bool := some (l0.all fun x => rightB x.f0 x.f1 x.f2)
set_option maxHeartbeats 1000000 in
set_option maxRecDepth 100000 in
theorem delta_Right.calls (A0 : Option Addr) (c0 : Nat) (l0 : List S153) (r : Bool) (w : World) (hr0 : Kd.C k153 w A0 l0.length l0) (hc0 : l0.length ≤ c0) (h : delta_Right.f l0 = some r) :
    Calls Try.prog 113 #[.slice A0 l0.length c0] w fun e w' => e = .returned (.bool r) ∧ Below w.heap.size w w' := by
  have HX : Aside0 ((!l0.any fun x => !rightB x.f0 x.f1 x.f2) = r) := ⟨by
    have := Option.some.inj h
    rw [← this]
    clear this h hr0 hc0
    induction l0 with
    | nil => rfl
    | cons x l ih => simp only [List.any_cons, List.all_cons, Bool.not_or, Bool.not_not, ih]⟩
  clear h
  go_enter Try.func113, Try.ntmps113
  go_wp2_with (go_at_call 178; (refine (slices_ContainsFunc153.calls 179 (fun x => !rightB x.f0 x.f1 x.f2) (fun x W => delta_Right1.calls x.f0 x.f1 x.f2 W) (fun args W => enters_ Try.func179 (by kernel_rfl) rfl args W) A0 c0 l0 _ hr0 hc0).mono ?_); rintro e w1 ⟨rfl, hb⟩)
  go_ret
  exact ⟨by first | rfl | (rw [HX.out]; rfl), hb⟩
end Go.Proofs.Ytoeabgeglgiobaa.P
