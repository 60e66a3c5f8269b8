/- What functions of the given program do, each as a plain Lean function that its call meets: printed by a program of this session out of the translation, checked by Lean. Its conditions: those of each theorem. -/
import Derived.Test.YtoeabgeglgiobaaRows
import Derived.Test.Ytoeabgeglgiobaac3pXhead
import Derived.Test.Ytoeabgeglgiobaac3pGL03FramePuts1
import Derived.Test.Ytoeabgeglgiobaac3pQOpen
import Derived.Test.Ytoeabgeglgiobaac3pPureFramePuts
import Derived.WalkKit
import Derived.ProofKit
import Derived.OpenShut
import Derived.ShutString
import Derived.ChangeOld
import Derived.Below
import Derived.SizedLaws
import Derived.ChangeSlices
namespace Go.Proofs.Ytoeabgeglgiobaa.framePuts
open Go.ChangeShapes Go.WideShapes Go.ChangeAt Go.RowKit
open Go.Proofs.Ytoeabgeglgiobaa.P
open Go.Proofs.YtoeabgeglgiobaaW.PrintWords (Kd)
open Go.ChangeMaps (open_string shut_string)
set_option linter.unusedVariables false
theorem own : ownKnob Try.prog.godebug = none := by kernel_rfl
theorem laidOut : laidOutB Try.prog = true := by kernel_rfl
set_option maxRecDepth 100000 in
theorem lifted (os : Os) (started : os.Started) (H : Type) (enc : TypeId × Value → H) :
    ReturnsInHanded {} Try.checked os 9 .any (Rows.framePutsSpec.pre6 enc Try.prog Try.f9 Rows.framePutsRow.domain false) (Rows.framePutsSpec.post enc Try.prog Try.f9 false true false false) := by
  refine returnsInHanded_of_change_sized (C := Try.checked) own started (by kernel_rfl) Try.func9
    (ChangeSpec.witness6 (enc := enc) (C := Try.checked) false ⟨#[], #[.slice none 0 0], []⟩ 9 (by kernel_rfl) (by kernel_rfl) (by kernel_rfl) (by kernel_rfl)) ?_
  intro W base args ds gs before hval0 hW hcnd hsz0 _
  have hsz : (DataW.weightsEach Try.prog (Try.f9.params.toList ++ Rows.framePutsSpec.plain.varTypes Try.prog) (ds ++ gs)).all (· ≤ reachBytes) = true := hsz0
  have hval : ∀ (j : Nat) t v, Try.f9.params[j]? = some t → args[j]? = some v → Value.okWide Try.prog W .any base t v := hval0
  have hW' := hW
  obtain ⟨p, q, hA0, hV, rfl, hfz, hnd⟩ := hW
  have hA : DataW.TrodAll enc Try.prog W 0 (fun _ => true) true Try.f9.params.toList args.toList ds p := hA0
  rw [Try.params9] at hA hval hsz
  obtain ⟨v0, vs0, d0, ds0, p0, q0, hargs, rfl, rfl, h0, r0⟩ := trodAll_cons hA
  obtain ⟨rfl, rfl, rfl⟩ := trodAll_nil r0
  obtain rfl : args = #[v0] := by cases args; simp_all
  obtain ⟨rfl, rfl⟩ := trodVars_none hV
  obtain ⟨A0, len0, cap0, rfl⟩ := okWide_slice Try.underlying52 (hval 0 52 v0 rfl rfl)
  have k0 := h0
  have lt0 : ∀ x ∈ p0, x.block < W.heap.size := by obtain ⟨m, hm⟩ := k0; exact DataW.trod_lt m _ _ _ hm
  obtain ⟨l0, e0, c0, g0, z0, y0⟩ : ∃ xs : List (S46), len0 = xs.length ∧ xs.length ≤ cap0 ∧ Kd.C (k46) W A0 xs.length xs ∧ xs.length * Try.prog.bytesOf 46 ≤ reachBytes ∧ ∀ y ∈ xs, Q.Ok46 y := by
    obtain ⟨fuel, hf⟩ := h0
    obtain ⟨A, c, xs, e, l1, l2, l3, hC, hok⟩ := Q.opens_row Try.underlying52 Q.cells46 (z46) (Q.opens46) hf (Q.light_each hsz (j := 0) rfl rfl)
    simp [Value.cells] at e
    obtain ⟨rfl, rfl, rfl⟩ := e
    exact ⟨xs, rfl, l1, hC, l3, hok⟩
  subst e0
  clear hA0 hval0 hsz0 hsz
  obtain ⟨kk, hkk⟩ := Pure.FramePuts l0 z0 y0
  refine (P.chartroomlaw03_FramePuts.calls kk A0 cap0 l0 true W g0 c0 hkk rfl).mono fun e W' ⟨he, bel⟩ => ?_
  subst he
  exact ⟨_, rfl, _, _, _, [], _, [], hW', trodAll_mk1 (shut_bool Try.underlying4 _), (trodAll_cons_mk (Below.trod laidOut (by kernel_rfl) (of_decide_eq_true (by kernel_rfl)) k0 bel lt0) trodAll_mk0), rfl, bel.frame _, fun h => by cases h⟩
theorem closed : joinedFacts Try.prog 9 Try.f9 Rows.framePutsSpec Rows.framePutsRow = true := by
  unfold joinedFacts
  simp only [X.mayEnter, X.lifts, X.make, X.laid, X.rowed, X.heard]
  kernel_rfl
theorem over : Rows.framePutsRow.holds Try.pinned (OpenSpec.ofChange Rows.framePutsSpec) :=
  OpenClaim.holds_of_wide 9 Try.f9 rfl rfl rfl rfl rfl rfl rfl ⟨rfl, rfl, rfl, rfl, rfl⟩ rfl rfl rfl rfl rfl (by kernel_rfl) Try.func9 closed
    (of_decide_eq_true (by kernel_rfl)) (by unfold Func.isWrapper; first | (rw [if_pos (by decide +kernel)]; kernel_rfl) | (rw [if_neg (by decide +kernel)]; exact ⟨rfl, rfl⟩))
    (fun os started H enc _ => lifted os started H enc)
theorem proved : Rows.FramePutsSaid := over
#print axioms proved
end Go.Proofs.Ytoeabgeglgiobaa.framePuts
namespace Go.Proofs.Ytoeabgeglgiobaa
/-- The row, under a short name, for the claim. -/
theorem framePuts_holds : Rows.FramePutsSaid := framePuts.proved
end Go.Proofs.Ytoeabgeglgiobaa
