/- What functions of the given program do, each as a plain Lean function that its call meets: printed by a program of this session out of the translation, checked by Lean. Its conditions: those of each theorem. -/
import Derived.Test.YtoeabgeglgiobaaRows
import Derived.Test.Ytoeabgeglgiobaac11kXhead
import Derived.Test.Ytoeabgeglgiobaac11kGL11JournalKeeps1
import Derived.Test.Ytoeabgeglgiobaac11kQOpen
import Derived.Test.Ytoeabgeglgiobaac11kPureJournalKeeps
import Derived.WalkKit
import Derived.ProofKit
import Derived.OpenShut
import Derived.ShutString
import Derived.ChangeOld
import Derived.Below
import Derived.SizedLaws
import Derived.ChangeSlices
namespace Go.Proofs.Ytoeabgeglgiobaa.journalKeeps
open Go.ChangeShapes Go.WideShapes Go.ChangeAt Go.RowKit
open Go.Proofs.Ytoeabgeglgiobaa.P
open Go.Proofs.YtoeabgeglgiobaaW.PrintWords (Kd)
open Go.ChangeMaps (open_string shut_string)
set_option linter.unusedVariables false
theorem own : ownKnob Try.prog.godebug = none := by kernel_rfl
theorem laidOut : laidOutB Try.prog = true := by kernel_rfl
set_option maxRecDepth 100000 in
theorem lifted (os : Os) (started : os.Started) (H : Type) (enc : TypeId × Value → H) :
    ReturnsInHanded {} Try.checked os 16 .any (Rows.journalKeepsSpec.pre6 enc Try.prog Try.f16 Rows.journalKeepsRow.domain false) (Rows.journalKeepsSpec.post enc Try.prog Try.f16 false true false false) := by
  refine returnsInHanded_of_change_sized (C := Try.checked) own started (by kernel_rfl) Try.func16
    (ChangeSpec.witness6 (enc := enc) (C := Try.checked) false ⟨#[], #[.slice none 0 0, .int .i64 0, .slice none 0 0], []⟩ 16 (by kernel_rfl) (by kernel_rfl) (by kernel_rfl) (by kernel_rfl)) ?_
  intro W base args ds gs before hval0 hW hcnd hsz0 _
  have hsz : (DataW.weightsEach Try.prog (Try.f16.params.toList ++ Rows.journalKeepsSpec.plain.varTypes Try.prog) (ds ++ gs)).all (· ≤ reachBytes) = true := hsz0
  have hval : ∀ (j : Nat) t v, Try.f16.params[j]? = some t → args[j]? = some v → Value.okWide Try.prog W .any base t v := hval0
  have hW' := hW
  obtain ⟨p, q, hA0, hV, rfl, hfz, hnd⟩ := hW
  have hA : DataW.TrodAll enc Try.prog W 0 (fun _ => true) true Try.f16.params.toList args.toList ds p := hA0
  rw [Try.params16] at hA hval hsz
  obtain ⟨v0, vs0, d0, ds0, p0, q0, hargs, rfl, rfl, h0, r0⟩ := trodAll_cons hA
  obtain ⟨v1, vs1, d1, ds1, p1, q1, rfl, rfl, rfl, h1, r1⟩ := trodAll_cons r0
  obtain ⟨v2, vs2, d2, ds2, p2, q2, rfl, rfl, rfl, h2, r2⟩ := trodAll_cons r1
  obtain ⟨rfl, rfl, rfl⟩ := trodAll_nil r2
  obtain rfl : args = #[v0, v1, v2] := by cases args; simp_all
  obtain ⟨rfl, rfl⟩ := trodVars_none hV
  obtain ⟨A0, len0, cap0, rfl⟩ := okWide_slice Try.underlying90 (hval 0 90 v0 rfl rfl)
  have k0 := h0
  have lt0 : ∀ x ∈ p0, x.block < W.heap.size := by obtain ⟨m, hm⟩ := k0; exact DataW.trod_lt m _ _ _ hm
  obtain ⟨l0, e0, c0, g0, z0, y0⟩ : ∃ xs : List (List Int), len0 = xs.length ∧ xs.length ≤ cap0 ∧ Kd.C (Kd.slice 5 (Kd.int .u8)) W A0 xs.length xs ∧ xs.length * Try.prog.bytesOf 24 ≤ reachBytes ∧ ∀ y ∈ xs, Q.Ok24 y := by
    obtain ⟨fuel, hf⟩ := h0
    obtain ⟨A, c, xs, e, l1, l2, l3, hC, hok⟩ := Q.opens_row Try.underlying90 Q.cells24 (([] : List Int)) (Q.opens24) hf (Q.light_each hsz (j := 0) rfl rfl)
    simp [Value.cells] at e
    obtain ⟨rfl, rfl, rfl⟩ := e
    exact ⟨xs, rfl, l1, hC, l3, hok⟩
  subst e0
  obtain ⟨a1, rfl, rfl, rfl, w1⟩ := open_int Try.underlying3 (hval 1 3 v1 rfl rfl) h1
  obtain ⟨A2, len2, cap2, rfl⟩ := okWide_slice Try.underlying24 (hval 2 24 v2 rfl rfl)
  have k2 := h2
  have lt2 : ∀ x ∈ p2, x.block < W.heap.size := by obtain ⟨m, hm⟩ := k2; exact DataW.trod_lt m _ _ _ hm
  obtain ⟨l2, e2, c2, g2, z2, y2⟩ : ∃ xs : List (Int), len2 = xs.length ∧ xs.length ≤ cap2 ∧ Kd.C (Kd.int .u8) W A2 xs.length xs ∧ xs.length * Try.prog.bytesOf 5 ≤ reachBytes ∧ ∀ y ∈ xs, (fun n => (Lit.int .u8 n).wf = true) y := by
    obtain ⟨fuel, hf⟩ := h2
    obtain ⟨A, c, xs, e, l1, l2, l3, hC, hok⟩ := Q.opens_row Try.underlying24 Q.cells5 ((0 : Int)) (Q.opens_int Try.underlying5) hf (Q.light_each hsz (j := 2) rfl rfl)
    simp [Value.cells] at e
    obtain ⟨rfl, rfl, rfl⟩ := e
    exact ⟨xs, rfl, l1, hC, l3, hok⟩
  subst e2
  clear hA0 hval0 hsz0 hsz
  obtain ⟨kk, hkk⟩ := Pure.JournalKeeps l0 z0 y0 a1 w1 l2 z2 y2
  refine (P.chartroomlaw11_JournalKeeps.calls kk A0 cap0 l0 a1 A2 cap2 l2 true W g0 c0 g2 c2 hkk rfl).mono fun e W' ⟨he, bel⟩ => ?_
  subst he
  exact ⟨_, rfl, _, _, _, [], _, [], hW', trodAll_mk1 (shut_bool Try.underlying4 _), (trodAll_cons_mk (Below.trod laidOut (by kernel_rfl) (of_decide_eq_true (by kernel_rfl)) k0 bel lt0) (trodAll_cons_mk (shut_int Try.underlying3 w1) (trodAll_cons_mk (Below.trod laidOut (by kernel_rfl) (of_decide_eq_true (by kernel_rfl)) k2 bel lt2) trodAll_mk0))), rfl, bel.frame _, fun h => by cases h⟩
theorem closed : joinedFacts Try.prog 16 Try.f16 Rows.journalKeepsSpec Rows.journalKeepsRow = true := by
  unfold joinedFacts
  simp only [X.mayEnter, X.lifts, X.make, X.laid, X.rowed, X.heard]
  kernel_rfl
theorem over : Rows.journalKeepsRow.holds Try.pinned (OpenSpec.ofChange Rows.journalKeepsSpec) :=
  OpenClaim.holds_of_wide 16 Try.f16 rfl rfl rfl rfl rfl rfl rfl ⟨rfl, rfl, rfl, rfl, rfl⟩ rfl rfl rfl rfl rfl (by kernel_rfl) Try.func16 closed
    (of_decide_eq_true (by kernel_rfl)) (by unfold Func.isWrapper; first | (rw [if_pos (by decide +kernel)]; kernel_rfl) | (rw [if_neg (by decide +kernel)]; exact ⟨rfl, rfl⟩))
    (fun os started H enc _ => lifted os started H enc)
theorem proved : Rows.JournalKeepsSaid := over
#print axioms proved
end Go.Proofs.Ytoeabgeglgiobaa.journalKeeps
namespace Go.Proofs.Ytoeabgeglgiobaa
/-- The row, under a short name, for the claim. -/
theorem journalKeeps_holds : Rows.JournalKeepsSaid := journalKeeps.proved
end Go.Proofs.Ytoeabgeglgiobaa
