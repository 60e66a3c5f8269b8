/- What functions of the given program do, each as a plain Lean function that its call meets: printed by a program of this session out of the translation, checked by Lean. Its conditions: those of each theorem. -/
import Derived.Test.YtoeabgeglgiobaaRows
import Derived.Test.Ytoeabgeglgiobaac5aXhead
import Derived.Test.Ytoeabgeglgiobaac5aGL05DeltaApplies1
import Derived.Test.Ytoeabgeglgiobaac5aQOpen
import Derived.Test.Ytoeabgeglgiobaac5aPureDeltaApplies
import Derived.WalkKit
import Derived.ProofKit
import Derived.OpenShut
import Derived.ShutString
import Derived.ChangeOld
import Derived.Below
import Derived.SizedLaws
import Derived.ChangeSlices
namespace Go.Proofs.Ytoeabgeglgiobaa.deltaApplies
open Go.ChangeShapes Go.WideShapes Go.ChangeAt Go.RowKit
open Go.Proofs.Ytoeabgeglgiobaa.P
open Go.Proofs.YtoeabgeglgiobaaW.PrintWords (Kd)
open Go.ChangeMaps (open_string shut_string)
set_option linter.unusedVariables false
theorem own : ownKnob Try.prog.godebug = none := by kernel_rfl
theorem laidOut : laidOutB Try.prog = true := by kernel_rfl
set_option maxRecDepth 100000 in
theorem lifted (os : Os) (started : os.Started) (H : Type) (enc : TypeId × Value → H) :
    ReturnsInHanded {} Try.checked os 17 .any (Rows.deltaAppliesSpec.pre6 enc Try.prog Try.f17 Rows.deltaAppliesRow.domain false) (Rows.deltaAppliesSpec.post enc Try.prog Try.f17 false true false false) := by
  refine returnsInHanded_of_change_sized (C := Try.checked) own started (by kernel_rfl) Try.func17
    (ChangeSpec.witness6 (enc := enc) (C := Try.checked) false ⟨#[], #[.string ⟨#[]⟩, .slice none 0 0], []⟩ 17 (by kernel_rfl) (by kernel_rfl) (by kernel_rfl) (by kernel_rfl)) ?_
  intro W base args ds gs before hval0 hW hcnd hsz0 _
  have hsz : (DataW.weightsEach Try.prog (Try.f17.params.toList ++ Rows.deltaAppliesSpec.plain.varTypes Try.prog) (ds ++ gs)).all (· ≤ reachBytes) = true := hsz0
  have hval : ∀ (j : Nat) t v, Try.f17.params[j]? = some t → args[j]? = some v → Value.okWide Try.prog W .any base t v := hval0
  have hW' := hW
  obtain ⟨p, q, hA0, hV, rfl, hfz, hnd⟩ := hW
  have hA : DataW.TrodAll enc Try.prog W 0 (fun _ => true) true Try.f17.params.toList args.toList ds p := hA0
  rw [Try.params17] at hA hval hsz
  obtain ⟨v0, vs0, d0, ds0, p0, q0, hargs, rfl, rfl, h0, r0⟩ := trodAll_cons hA
  obtain ⟨v1, vs1, d1, ds1, p1, q1, rfl, rfl, rfl, h1, r1⟩ := trodAll_cons r0
  obtain ⟨rfl, rfl, rfl⟩ := trodAll_nil r1
  obtain rfl : args = #[v0, v1] := by cases args; simp_all
  obtain ⟨rfl, rfl⟩ := trodVars_none hV
  obtain ⟨a0, rfl, rfl, rfl, w0⟩ := open_string Try.underlying9 (hval 0 9 v0 rfl rfl) h0
  have y0 : a0.size ≤ 140737488351232 := by have z := sized_string hsz (j := 0) (t := 9) rfl rfl; simpa [reachBytes] using z
  obtain ⟨A1, len1, cap1, rfl⟩ := okWide_slice Try.underlying133 (hval 1 133 v1 rfl rfl)
  have k1 := h1
  have lt1 : ∀ x ∈ p1, x.block < W.heap.size := by obtain ⟨m, hm⟩ := k1; exact DataW.trod_lt m _ _ _ hm
  obtain ⟨l1, e1, c1, g1, z1, y1⟩ : ∃ xs : List (S153), len1 = xs.length ∧ xs.length ≤ cap1 ∧ Kd.C (k153) W A1 xs.length xs ∧ xs.length * Try.prog.bytesOf 153 ≤ reachBytes ∧ ∀ y ∈ xs, Q.Ok153 y := by
    obtain ⟨fuel, hf⟩ := h1
    obtain ⟨A, c, xs, e, l1, l2, l3, hC, hok⟩ := Q.opens_row Try.underlying133 Q.cells153 (z153) (Q.opens153) hf (Q.light_each hsz (j := 1) rfl rfl)
    simp [Value.cells] at e
    obtain ⟨rfl, rfl, rfl⟩ := e
    exact ⟨xs, rfl, l1, hC, l3, hok⟩
  subst e1
  clear hA0 hval0 hsz0 hsz
  obtain ⟨kk, hkk⟩ := Pure.DeltaApplies a0 y0 l1 z1 y1
  refine (P.chartroomlaw05_DeltaApplies.calls kk a0 A1 cap1 l1 true W g1 c1 hkk rfl).mono fun e W' ⟨he, bel⟩ => ?_
  subst he
  exact ⟨_, rfl, _, _, _, [], _, [], hW', trodAll_mk1 (shut_bool Try.underlying4 _), (trodAll_cons_mk (shut_string Try.underlying9 w0) (trodAll_cons_mk (Below.trod laidOut (by kernel_rfl) (of_decide_eq_true (by kernel_rfl)) k1 bel lt1) trodAll_mk0)), rfl, bel.frame _, fun h => by cases h⟩
theorem closed : joinedFacts Try.prog 17 Try.f17 Rows.deltaAppliesSpec Rows.deltaAppliesRow = true := by
  unfold joinedFacts
  simp only [X.mayEnter, X.lifts, X.make, X.laid, X.rowed, X.heard]
  kernel_rfl
theorem over : Rows.deltaAppliesRow.holds Try.pinned (OpenSpec.ofChange Rows.deltaAppliesSpec) :=
  OpenClaim.holds_of_wide 17 Try.f17 rfl rfl rfl rfl rfl rfl rfl ⟨rfl, rfl, rfl, rfl, rfl⟩ rfl rfl rfl rfl rfl (by kernel_rfl) Try.func17 closed
    (of_decide_eq_true (by kernel_rfl)) (by unfold Func.isWrapper; first | (rw [if_pos (by decide +kernel)]; kernel_rfl) | (rw [if_neg (by decide +kernel)]; exact ⟨rfl, rfl⟩))
    (fun os started H enc _ => lifted os started H enc)
theorem proved : Rows.DeltaAppliesSaid := over
#print axioms proved
end Go.Proofs.Ytoeabgeglgiobaa.deltaApplies
namespace Go.Proofs.Ytoeabgeglgiobaa
/-- The row, under a short name, for the claim. -/
theorem deltaApplies_holds : Rows.DeltaAppliesSaid := deltaApplies.proved
end Go.Proofs.Ytoeabgeglgiobaa
