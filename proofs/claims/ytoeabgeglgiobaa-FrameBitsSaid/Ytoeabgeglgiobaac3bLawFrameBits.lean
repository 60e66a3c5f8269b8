/- What functions of the given program do, each as a plain Lean function that its call meets: printed by a program of this session out of the translation, checked by Lean. Its conditions: those of each theorem. -/
import Derived.Test.YtoeabgeglgiobaaRows
import Derived.Test.Ytoeabgeglgiobaac3bXhead
import Derived.Test.Ytoeabgeglgiobaac3bGL03FrameBits1
import Derived.Test.Ytoeabgeglgiobaac3bQOpen
import Derived.Test.Ytoeabgeglgiobaac3bPureFrameBits
import Derived.WalkKit
import Derived.ProofKit
import Derived.OpenShut
import Derived.ShutString
import Derived.ChangeOld
import Derived.Below
import Derived.SizedLaws
import Derived.ChangeSlices
namespace Go.Proofs.Ytoeabgeglgiobaa.frameBits
open Go.ChangeShapes Go.WideShapes Go.ChangeAt Go.RowKit
open Go.Proofs.Ytoeabgeglgiobaa.P
open Go.Proofs.YtoeabgeglgiobaaW.PrintWords (Kd)
open Go.ChangeMaps (open_string shut_string)
set_option linter.unusedVariables false
theorem own : ownKnob Try.prog.godebug = none := by kernel_rfl
theorem laidOut : laidOutB Try.prog = true := by kernel_rfl
def IsRow (k : IntKind) (w : World) (a : Option Addr) (len cap : Nat) (zs : List Int) : Prop :=
  (a = none ∧ len = 0 ∧ cap = 0 ∧ zs = []) ∨
  ∃ x, a = some x ∧ len ≤ cap ∧ cap ≤ maxLen ∧ zs.length = cap ∧ (∀ i, i < zs.length → w.cell? (x.add i) = some (.int k (zs.getD i 0))) ∧ ∀ n ∈ zs, (Lit.int k n).wf = true
set_option maxRecDepth 100000 in
theorem lifted (os : Os) (started : os.Started) (H : Type) (enc : TypeId × Value → H) :
    ReturnsInHanded {} Try.checked os 8 .any (Rows.frameBitsSpec.pre6 enc Try.prog Try.f8 Rows.frameBitsRow.domain false) (Rows.frameBitsSpec.post enc Try.prog Try.f8 false true false false) := by
  refine returnsInHanded_of_change_sized (C := Try.checked) own started (by kernel_rfl) Try.func8
    (ChangeSpec.witness6 (enc := enc) (C := Try.checked) false ⟨#[], #[.agg #[.int .u8 0, .slice none 0 0], .int .i64 0], []⟩ 8 (by kernel_rfl) (by kernel_rfl) (by kernel_rfl) (by kernel_rfl)) ?_
  intro W base args ds gs before hval0 hW hcnd hsz0 _
  have hsz : (DataW.weightsEach Try.prog (Try.f8.params.toList ++ Rows.frameBitsSpec.plain.varTypes Try.prog) (ds ++ gs)).all (· ≤ reachBytes) = true := hsz0
  have hval : ∀ (j : Nat) t v, Try.f8.params[j]? = some t → args[j]? = some v → Value.okWide Try.prog W .any base t v := hval0
  have hW' := hW
  obtain ⟨p, q, hA0, hV, rfl, hfz, hnd⟩ := hW
  have hA : DataW.TrodAll enc Try.prog W 0 (fun _ => true) true Try.f8.params.toList args.toList ds p := hA0
  rw [Try.params8] at hA hval hsz
  obtain ⟨v0, vs0, d0, ds0, p0, q0, hargs, rfl, rfl, h0, r0⟩ := trodAll_cons hA
  obtain ⟨v1, vs1, d1, ds1, p1, q1, rfl, rfl, rfl, h1, r1⟩ := trodAll_cons r0
  obtain ⟨rfl, rfl, rfl⟩ := trodAll_nil r1
  obtain rfl : args = #[v0, v1] := by cases args; simp_all
  obtain ⟨rfl, rfl⟩ := trodVars_none hV
  obtain ⟨cs0, rfl, _⟩ := okWide_struct Try.underlying46 (hval 0 46 v0 rfl rfl)
  have k0 := h0
  have lt0 : ∀ x ∈ p0, x.block < W.heap.size := by obtain ⟨m, hm⟩ := k0; exact DataW.trod_lt m _ _ _ hm
  obtain ⟨x0, A0, c0, hcs0, l0, g0, hok0⟩ : ∃ (x : S46) (A : Option Addr) (c : Nat), cs0.toList = [.int .u8 x.f0, .slice A x.f1.length c] ∧ x.f1.length ≤ c ∧ Kd.C (Kd.int .u8) W A x.f1.length x.f1 ∧ Q.Ok46 x := by
    obtain ⟨fuel, hf⟩ := h0
    obtain ⟨x, hK, hok⟩ := Q.opens46 _ _ _ hf (Q.light_each hsz (j := 0) rfl rfl)
    obtain ⟨A, c, e, l, g⟩ := k46_open hK
    exact ⟨x, A, c, e, l, g, hok⟩
  obtain rfl : cs0 = #[.int .u8 x0.f0, .slice A0 x0.f1.length c0] := by rw [← Array.toArray_toList (xs := cs0), hcs0]
  obtain ⟨a1, rfl, rfl, rfl, w1⟩ := open_int Try.underlying3 (hval 1 3 v1 rfl rfl) h1
  clear hA0 hval0 hsz0 hsz
  obtain ⟨kk, hkk⟩ := Pure.FrameBits x0.f0 x0.f1 a1 hok0 w1
  refine (P.chartroomlaw03_FrameBits.calls kk x0.f0 A0 c0 x0.f1 a1 true W g0 l0 hkk rfl).mono fun e W' ⟨he, bel⟩ => ?_
  subst he
  exact ⟨_, rfl, _, _, _, [], _, [], hW', trodAll_mk1 (shut_bool Try.underlying4 _), (trodAll_cons_mk (Below.trod laidOut (by kernel_rfl) (of_decide_eq_true (by kernel_rfl)) k0 bel lt0) (trodAll_cons_mk (shut_int Try.underlying3 w1) trodAll_mk0)), rfl, bel.frame _, fun h => by cases h⟩
theorem closed : joinedFacts Try.prog 8 Try.f8 Rows.frameBitsSpec Rows.frameBitsRow = true := by
  unfold joinedFacts
  simp only [X.mayEnter, X.lifts, X.make, X.laid, X.rowed, X.heard]
  kernel_rfl
theorem over : Rows.frameBitsRow.holds Try.pinned (OpenSpec.ofChange Rows.frameBitsSpec) :=
  OpenClaim.holds_of_wide 8 Try.f8 rfl rfl rfl rfl rfl rfl rfl ⟨rfl, rfl, rfl, rfl, rfl⟩ rfl rfl rfl rfl rfl (by kernel_rfl) Try.func8 closed
    (of_decide_eq_true (by kernel_rfl)) (by unfold Func.isWrapper; first | (rw [if_pos (by decide +kernel)]; kernel_rfl) | (rw [if_neg (by decide +kernel)]; exact ⟨rfl, rfl⟩))
    (fun os started H enc _ => lifted os started H enc)
theorem proved : Rows.FrameBitsSaid := over
#print axioms proved
end Go.Proofs.Ytoeabgeglgiobaa.frameBits
namespace Go.Proofs.Ytoeabgeglgiobaa
/-- The row, under a short name, for the claim. -/
theorem frameBits_holds : Rows.FrameBitsSaid := frameBits.proved
end Go.Proofs.Ytoeabgeglgiobaa
