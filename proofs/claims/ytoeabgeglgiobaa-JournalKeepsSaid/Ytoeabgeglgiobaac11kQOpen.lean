/- What the row's reader reads of a record, or of a row of records, as the printed contracts ask for it, and what the reach bounds of it. Its conditions: those of each theorem. -/
import Derived.Test.Ytoeabgeglgiobaac11kP0
import Derived.WalkKit
import Derived.ProofKit
import Derived.OpenShut
import Derived.Deep.Slices
import Derived.ChangeSame
import Derived.KernelRfl
import Derived.SizedLaws
namespace Go.Proofs.Ytoeabgeglgiobaa.Q
open Go.RowKit Go.Proofs.YtoeabgeglgiobaaW.PrintWords Go.Proofs.YtoeabgeglgiobaaW.PrintLast Go.Proofs.YtoeabgeglgiobaaW.PrintMore
open Go.ChangeShapes Go.WideShapes Go.ChangeAt Go.Deep
open Go.Proofs.Ytoeabgeglgiobaa.P
theorem addr_add_add (a : Addr) (m n : Nat) : (a.add m).add n = a.add (m + n) := by
  unfold Addr.add
  split <;> split <;> (try split) <;> simp_all <;> omega
section
variable {H : Type} {enc : TypeId × Value → H} {w : World} {base : Nat} {held : Bool}
/-- All that a datum weighs lies within the reach. -/
def Light (t : TypeId) (d : DataW H) : Prop := ∀ n ∈ d.weights Try.prog t, n ≤ reachBytes
theorem light_all {e : TypeId} : ∀ {ds : List (DataW H)} {d : DataW H}, d ∈ ds → ∀ n ∈ d.weights Try.prog e, n ∈ DataW.weightsAll Try.prog e ds := by
  intro ds
  induction ds with
  | nil => intro d h; simp at h
  | cons d0 r ih =>
    intro d h n hn
    simp only [DataW.weightsAll, List.mem_append]
    rcases List.mem_cons.1 h with rfl | h
    · exact .inl hn
    · exact .inr (ih h n hn)
theorem light_each {ts : List TypeId} {ds : List (DataW H)} (h : (DataW.weightsEach Try.prog ts ds).all (· ≤ reachBytes) = true) {j : Nat} {t : TypeId} {d : DataW H} (ht : ts[j]? = some t) (hd : ds[j]? = some d) : Light t d := fun n hn => by
  have := List.all_eq_true.1 h _ (DataW.weights_mem_each ht hd n hn)
  simpa using this
/-- A type that is read as a kind says: its cells are those of some x, which is well formed. -/
def Opens {α : Type} (enc : TypeId × Value → H) (w : World) (base : Nat) (held : Bool) (t : TypeId) (d : Kd α) (ok : α → Prop) : Prop :=
  ∀ fuel cs x, DataW.trod enc Try.prog w base (fun _ => true) held fuel t cs = some x → Light t x.1 → ∃ a, d.K w a cs ∧ ok a
theorem opens_row {α : Type} {t e : TypeId} {d : Kd α} {ok : α → Prop} (ht : Try.prog.underlying t = some (.slice e)) (hc : Try.prog.cellsOf e = d.sz) (z : α)
    (ho : Opens enc w base held e d ok) {fuel : Nat} {cs : List Value} {x : DataW H × List MemPlace} (h : DataW.trod enc Try.prog w base (fun _ => true) held fuel t cs = some x) (hl : Light t x.1) :
    ∃ A c xs, cs = [.slice A xs.length c] ∧ xs.length ≤ c ∧ xs.length ≤ maxLen ∧ xs.length * Try.prog.bytesOf e ≤ reachBytes ∧ Kd.C d w A xs.length xs ∧ ∀ y ∈ xs, ok y := by
  rcases open_slice ht h with ⟨rfl, _⟩ | ⟨a, len, cap, m, n, D, Pl, rfl, hb, hlc, hm, hmm, hxe, hx⟩
  · exact ⟨none, 0, [], rfl, Nat.le_refl _, Nat.zero_le _, by simp, ⟨rfl, by simp, fun h => by simp at h⟩, fun y hy => by simp at hy⟩
  · have hlm : len ≤ m := by rw [hmm]; simp; omega
    have hw : ∀ q ∈ (((List.range len).map D).length * Try.prog.bytesOf e + ((List.range (m - len)).map fun j => D (len + j)).length * Try.prog.bytesOf e) :: DataW.weightsAll Try.prog e ((List.range len).map D), q ≤ reachBytes := by
      intro q hq
      have : q ∈ DataW.weights Try.prog t x.1 := by
        rw [hxe]
        simp only [DataW.weights, ht, Nat.add_mul]
        rcases List.mem_cons.1 hq with hq | hq
        · exact List.mem_cons.2 (.inl hq)
        · exact List.mem_cons.2 (.inr (List.mem_append.2 (.inl hq)))
      exact hl q this
    have hbytes : len * Try.prog.bytesOf e ≤ reachBytes := by
      have := hw _ (List.mem_cons.2 (.inl rfl))
      rw [List.length_map, List.length_range] at this
      exact Nat.le_trans (Nat.le_add_right _ _) this
    have key : ∀ i, i < len → ∃ y : α, ok y ∧ ∃ c, c.length = d.sz ∧ d.K w y c ∧ ∀ j u, c[j]? = some u → w.cell? (a.add (i * d.sz + j)) = some u := by
      intro i hi
      obtain ⟨cs', h1, h2⟩ := hx i (by omega)
      obtain ⟨y, hy, hok⟩ := ho _ _ _ h2 (fun q hq => hw q (List.mem_cons.2 (.inr (light_all (List.mem_map.2 ⟨i, List.mem_range.2 hi, rfl⟩) q hq))))
      refine ⟨y, hok, cs', d.K_len hy, hy, fun j u hj => ?_⟩
      rw [hc] at h1
      obtain ⟨_, hlen, hcell⟩ := World.cells?_some h1
      have hjl : j < d.sz := by rw [← hlen]; exact (List.getElem?_eq_some_iff.1 hj).1
      have := (hcell j hjl).trans hj
      rw [addr_add_add] at this
      exact this
    let f : Nat → α := fun i => if hi : i < len then (key i hi).choose else z
    have hf : ∀ i (hi : i < len), f i = (key i hi).choose := fun i hi => dif_pos hi
    refine ⟨some a, cap, (List.range len).map f, by simp, by simpa using hlc, by simp; omega, by simpa using hbytes, ⟨rfl, ?_, fun _ => ⟨a, rfl, fun j p hj => ?_⟩⟩, fun y hy => ?_⟩
    · simp [maxLen] at hm ⊢; omega
    · have hjl : j < len := by have := (List.getElem?_eq_some_iff.1 hj).1; simpa using this
      have e : p = f j := by simp [hjl] at hj; exact hj.symm
      rw [e, hf j hjl]
      exact (key j hjl).choose_spec.2
    · simp only [List.mem_map, List.mem_range] at hy
      obtain ⟨i, hi, rfl⟩ := hy
      rw [hf i hi]
      exact (key i hi).choose_spec.1
theorem opens_int {t : TypeId} {k : IntKind} (ht : Try.prog.underlying t = some (.int k)) : Opens enc w base held t (Kd.int k) (fun n => (Lit.int k n).wf = true) := by
  intro fuel cs x h _
  obtain ⟨m, rfl, _, hw⟩ := DataW.trod_int ht h
  exact ⟨m, rfl, hw⟩
theorem cells5 : Try.prog.cellsOf 5 = 1 := by kernel_rfl
theorem cells24 : Try.prog.cellsOf 24 = 1 := by kernel_rfl
theorem bytes5 : Try.prog.bytesOf 5 = 1 := by kernel_rfl
end
end Go.Proofs.Ytoeabgeglgiobaa.Q
