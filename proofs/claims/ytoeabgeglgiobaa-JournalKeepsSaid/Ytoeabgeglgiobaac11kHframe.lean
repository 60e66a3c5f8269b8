/- The sum of bytes as four bytes; a payload's reference; a row of bytes, cloned: contracts of three functions of the program, proved by hand. Their conditions: that the row is read as the theorem says. -/
import Derived.Test.Ytoeabgeglgiobaac11kHcrc
import Derived.WalkSpells
import Derived.Outline
namespace Go.Proofs.Ytoeabgeglgiobaa.P
open Go.RowKit Go.Proofs.YtoeabgeglgiobaaW.PrintWords Go.Proofs.YtoeabgeglgiobaaW.PrintLast Go.Proofs.YtoeabgeglgiobaaW.PrintMore
set_option linter.unusedVariables false
set_option linter.unusedSimpArgs false
/-- A sum as four bytes. -/
def sum4 (s : Int) : List Int := [s % 256, s / 256 % 256, s / 65536 % 256, s / 16777216 % 256]
def frame_summed.f (l0 : List Int) : Option (List Int) := some (sum4 (crcSum l0))
set_option maxHeartbeats 1000000 in
set_option maxRecDepth 100000 in
theorem frame_summed.calls (A0 : Option Addr) (c0 : Nat) (l0 : List Int) (r : List Int) (w : World) (hr0 : Kd.C (Kd.int .u8) w A0 l0.length l0) (hc0 : l0.length ≤ c0) (h : frame_summed.f l0 = some r) :
    Calls Try.prog 146 #[.slice A0 l0.length c0] w fun e w' => ∃ v0_ : Value, e = .returned (v0_) ∧ Kd.R (Kd.int .u8) 5 w' w.heap.size (fun _ => True) v0_ r ∧ Below w.heap.size w w' := by
  have HR0 := Aside0.mk hr0
  have HC0 := Aside0.mk hc0
  have hr := Option.some.inj h
  subst hr
  clear hr0 hc0 h
  obtain ⟨s, hs⟩ : ∃ s, s = crcSum l0 := ⟨_, rfl⟩
  have HS := Aside0.mk hs
  rw [← hs]
  clear hs
  go_enter Try.func146, Try.ntmps146
  go_wp2_with (first | (go_at_call 155; refine (crc_Sum.calls w.heap.size 1 A0 c0 l0 _ ?hc ?hk HC0.out).mono ?_; (case hc => exact (cell_of_row _ _ 0 _ _ _ (heap_alloc_new w _)).trans rfl); (case hk => exact Kd.C_alloc HR0.out _); rintro e w1 ⟨rfl, hb1⟩; rw [← HS.out]; have HB := Aside0.mk (below_step (below_alloc (Below.refl w.heap.size w) (.cells #[Value.slice A0 l0.length c0] 24)) hb1); clear hb1) | ((with_reducible refine gate_dst (N := 18) rfl ?_); (try (refine gate_guard (by rfl) ?_; dsimp only)); refine Kd.R_lit (Kd.int .u8) _ 5 ?hg (N := 18) ?hd (xs := ([s % 256, s / 256 % 256, s / 65536 % 256, s / 16777216 % 256] : List Int)) (inner := [.int .u8 (s % 256), .int .u8 (s / 256 % 256), .int .u8 (s / 65536 % 256), .int .u8 (s / 16777216 % 256)]) (ok := fun _ => True) (okp := fun _ => True) ?hr ?hp (fun _ hk => hk) trivial (Below.refl _ _) (Nat.le_refl _) (by simp) ?_; (case hd => rfl); (case hg => rfl); (case hr => first | (go_simp; done) | (go_simp; rfl)); (case hp => exact (Reps.one (show Kd.M (Kd.int .u8) _ _ _ (s % 256) [.int .u8 (s % 256)] from rfl) (Reps.one (show Kd.M (Kd.int .u8) _ _ _ (s / 256 % 256) [.int .u8 (s / 256 % 256)] from rfl) (Reps.one (show Kd.M (Kd.int .u8) _ _ _ (s / 65536 % 256) [.int .u8 (s / 65536 % 256)] from rfl) (Reps.one (show Kd.M (Kd.int .u8) _ _ _ (s / 16777216 % 256) [.int .u8 (s / 16777216 % 256)] from rfl) (Reps.none _ _)))))); intro v122 w25 ho26 hb hg_ hnew_; clear hg_ hnew_; have n0_ := Aside0.mk (Kd.R_lower ho26 (below_size HB.out)); have n1_ := Aside0.mk (below_step HB.out hb); clear HB; have HO123 := n0_; have HB := n1_; clear n0_ n1_; clear hb ho26))
  go_ret
  exact ⟨_, rfl, HO123.out, HB.out⟩
/-- A payload's reference. -/
def journal_Of.f (l0 : List Int) : Option (Int × Int) := some ((l0.length : Int), crcSum l0)
theorem crcSum_bd (l : List Int) : 0 ≤ crcSum l ∧ crcSum l < 4294967296 := by
  unfold crcSum crcUpd
  generalize crcFold (Go.bits .xor .u32 0 4294967295) l = x
  generalize (4294967295 : Int) = y
  exact bits_u32_bd .xor x y
set_option maxHeartbeats 1000000 in
set_option maxRecDepth 100000 in
theorem journal_Of.calls (A0 : Option Addr) (c0 : Nat) (l0 : List Int) (r1 : Int) (r2 : Int) (w : World) (hr0 : Kd.C (Kd.int .u8) w A0 l0.length l0) (hc0 : l0.length ≤ c0) (h : journal_Of.f l0 = some (r1, r2)) :
    Calls Try.prog 75 #[.slice A0 l0.length c0] w fun e w' => e = .returned (.agg #[.int .u64 r1, .int .u64 r2]) ∧ Below w.heap.size w w' := by
  have HR0 := Aside0.mk hr0
  have HC0 := Aside0.mk hc0
  have hmax : l0.length ≤ 9223372036854775807 := hr0.2.1
  simp only [journal_Of.f, Option.some.injEq, Prod.mk.injEq] at h
  obtain ⟨rfl, rfl⟩ := h
  clear hr0 hc0
  have hbd := crcSum_bd l0
  obtain ⟨s, hs⟩ : ∃ s, s = crcSum l0 := ⟨_, rfl⟩
  have HS := Aside0.mk hs
  rw [← hs] at hbd ⊢
  clear hs
  obtain ⟨hb0, hb1⟩ := hbd
  go_enter Try.func75, Try.ntmps75
  go_wp2_with (first | (go_at_call 155; refine (crc_Sum.calls (w.heap.size + 1) 1 A0 c0 l0 _ ?hc ?hk HC0.out).mono ?_; (case hc => exact (cell_of_row _ _ 0 _ _ _ (heap_alloc2_new w _ _)).trans rfl); (case hk => exact Kd.C_alloc (Kd.C_alloc HR0.out _) _); rintro e w1 ⟨rfl, hb2⟩; rw [← HS.out]; have HK := Aside0.mk ((hb2.block w.heap.size (by simp; omega)).trans (heap_alloc2_old w (.cells #[Value.int IntKind.u64 0, Value.int IntKind.u64 0] 92) (.cells #[Value.slice A0 l0.length c0] 24))); have hcA : w1.cell? ⟨w.heap.size, 0, none⟩ = some (.int .u64 0) := (cell_of_row _ _ 0 _ _ _ HK.out).trans rfl; have hcB : w1.cell? ⟨w.heap.size, 1, none⟩ = some (.int .u64 0) := (cell_of_row _ _ 1 _ _ _ HK.out).trans rfl; have hfA := frozen_of_row w1 w.heap.size 0 _ _ HK.out; have hfB := frozen_of_row w1 w.heap.size 1 _ _ HK.out; have HB := Aside0.mk (below_step (below_alloc (below_alloc (Below.refl w.heap.size w) (.cells #[Value.int IntKind.u64 0, Value.int IntKind.u64 0] 92)) (.cells #[Value.slice A0 l0.length c0] 24)) hb2); clear hb2))
  have h1 := heap_setCell_same w1 w.heap.size 0 _ _ (.int .u64 (l0.length : Int)) HK.out
  have h2 := heap_setCell_same _ w.heap.size 1 _ _ (.int .u64 s) h1
  refine bodyPost_ret (results_cell_row rfl _ _ w.heap.size 92 #[.int .u64 (l0.length : Int), .int .u64 s] (0, 0) _ rfl h2 Try.underlying92 rfl (by kernel_rfl)) rfl ?_
  exact ⟨rfl, below_set (below_set HB.out (Nat.le_refl _)) (Nat.le_refl _)⟩
/-- A row, cloned. -/
def slices_Clone_byte_byte.f (l0 : List Int) : Option (List Int) := if l0.length < 140737488355328 then some l0 else none
set_option maxHeartbeats 1000000 in
set_option maxRecDepth 100000 in
theorem slices_Clone_byte_byte.calls (A0 : Option Addr) (c0 : Nat) (l0 : List Int) (r : List Int) (w : World) (hr0 : Kd.C (Kd.int .u8) w A0 l0.length l0) (hc0 : l0.length ≤ c0) (h : slices_Clone_byte_byte.f l0 = some r) :
    Calls Try.prog 147 #[.slice A0 l0.length c0] w fun e w' => ∃ v0_ : Value, e = .returned (v0_) ∧ Kd.R (Kd.int .u8) 5 w' w.heap.size (fun _ => True) v0_ r ∧ Below w.heap.size w w' := by
  have HR0 := Aside0.mk hr0
  have HC0 := Aside0.mk hc0
  clear hr0 hc0
  unfold slices_Clone_byte_byte.f at h
  by_cases hl : l0.length < 140737488355328
  · rw [if_pos hl] at h
    obtain rfl := Option.some.inj h
    have LM := Aside0.mk hl
    clear h hl
    have HB := Aside0.mk (Below.refl w.heap.size w)
    cases A0 with
    | none =>
      have hz : l0 = [] := by
        have h1 := HR0.out.2.2
        by_cases q : 0 < l0.length
        · obtain ⟨ad, e, _⟩ := h1 q; cases e
        · exact List.eq_nil_of_length_eq_zero (by omega)
      subst hz
      have hn : ∀ W, (Go.binOp .eql 24 (.slice none 0 c0) (.slice none 0 0)).run Try.prog W = .ok (.bool true) W := fun W => Lib.run_eql_slice_nil W 24 5 none 0 c0 0 0 Try.underlying24
      go_enter Try.func147, Try.ntmps147
      go_wp2
      go_ret
      exact ⟨_, rfl, Kd.R_nil _ _ _ _ _, HB.out⟩
    | some ad =>
      have hn : ∀ W, (Go.binOp .eql 24 (.slice (some ad) l0.length c0) (.slice none 0 0)).run Try.prog W = .ok (.bool false) W := fun W => Lib.run_eql_slice_nil W 24 5 (some ad) l0.length c0 0 0 Try.underlying24
      go_enter Try.func147, Try.ntmps147
      go_wp2_with (first | ((with_reducible refine gate_dst (N := 5) rfl ?_); (try (refine gate_guard (by rfl) ?_; dsimp only)); refine Kd.R_lit (Kd.int .u8) _ 5 ?hg (N := 5) ?hd (xs := ([] : List Int)) (inner := []) (ok := fun _ => True) (okp := fun _ => True) ?hr ?hp (fun _ hk => hk) trivial (Below.refl _ _) (Nat.le_refl _) (by simp) ?_; (case hd => rfl); (case hg => rfl); (case hr => first | (go_simp; done) | (go_simp; rfl)); (case hp => exact Reps.none _ _); intro v122 w25 ho26 hb hg_ hnew_; clear hg_ hnew_; have n0_ := Aside0.mk (Kd.R_lower ho26 (below_size HB.out)); have HR1 := Aside0.mk (Kd.C_below HR0.out hb); have n1_ := Aside0.mk (below_step HB.out hb); clear HB; have HO123 := n0_; have HB := n1_; clear n0_ n1_; clear hb ho26; obtain ⟨Ao27, co27, eo27⟩ := Kd.R_slice HO123.out; subst eo27) | ((with_reducible refine gate_builtin (b := .append) (xs := #[.tmp 5, .tmp 6]) rfl ?_); at_builtin; refine Kd.R_append_rows (Kd.int .u8) (w0 := w) w.heap.size rfl (.tmp 5) (.tmp 6) 24 5 (.int .u8 0) 1 rfl Try.underlying24 info5 rfl (by decide) (by omega) _ ([] : List Int) l0 _ _ _ (fun _ => True) (fun _ => False) rfl rfl ?aO ?aR (fun _ _ h => h) (fun _ h => h.elim) ?aF ?aB ?aS ?aL ?_; (case aR => exact HR1.out); (case aB => exact HB.out); (case aF => exact (fun _ _ => trivial)); (case aO => exact HO123.out); (case aS => exact (below_size HB.out)); (case aL => have := LM.out; simp; omega); intro v241 w3 ho hb hg hat; have n0_ := Aside0.mk (hb); have n1_ := Aside0.mk (ho); clear HB; have HB := n0_; have HO242 := n1_; clear n0_ n1_; clear ho hb hg hat))
      go_ret
      exact ⟨_, rfl, HO242.out, HB.out⟩
  · rw [if_neg hl] at h
    cases h
end Go.Proofs.Ytoeabgeglgiobaa.P
