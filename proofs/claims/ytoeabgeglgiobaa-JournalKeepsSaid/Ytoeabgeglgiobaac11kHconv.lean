/- A constant string's bytes: a literal's row that is marked by the conversion behind it, as an event of a walk. Its conditions: those of the theorem. -/
import Derived.Test.Ytoeabgeglgiobaac11kP0
namespace Go.Proofs.YtoeabgeglgiobaaW.PrintWords
open Go.RowKit
theorem conv_run {P : Program} (W : World) (t e : TypeId) (g cap n : Nat) (cur : Array Value) (hh : W.heap[g]? = some (.cells cur e (0, 0))) (ht : P.underlying t = some (.slice e)) (he : P.underlying e = some (.int .u8)) :
    (convert t t (.slice (some ⟨g, 0, none⟩) n cap)).run P W = .ok (.slice (some ⟨g, 0, none⟩) n cap) (W.freeze ⟨g, cur.size, none⟩ 1) := by
  have hsh : W.shape? g = some (e, cur.size) := by unfold World.shape?; rw [hh]
  simp [convert, run_underlying ht, run_underlying he, markStringish, hsh]
theorem freeze_at (W : World) (g k j : Nat) (h : j ≠ g) : (W.freeze ⟨g, k, none⟩ 1).heap[j]? = W.heap[j]? := by
  unfold World.freeze
  rw [if_neg (by decide)]
  simp [Array.getElem?_modify, Ne.symm h]
theorem freeze_self (W : World) (g k : Nat) (cur : Array Value) (e : TypeId) (hh : W.heap[g]? = some (.cells cur e (0, 0))) : ∃ z, (W.freeze ⟨g, k, none⟩ 1).heap[g]? = some (.cells cur e z) := by
  unfold World.freeze
  rw [if_neg (by decide)]
  simp only [Array.getElem?_modify, hh]
  exact ⟨_, rfl⟩
theorem freeze_size (W : World) (g k : Nat) : (W.freeze ⟨g, k, none⟩ 1).heap.size = W.heap.size := by
  unfold World.freeze
  rw [if_neg (by decide)]
  simp
section
variable {P : Program} {ops : Array Oper} {rest : List Oper} {o : Oper} {a : Act} {Q : Exit → Act → World → Prop}
/-- Behind a literal: the conversion to its own type. -/
theorem Kd.lit_conv {w W : World} {base e : Nat} {ok : Nat → Prop} (hgd : o.guard = none) {N : Tmp} (_hd : o.dst = some N) (t : TypeId) {v : Value} {xs : List Int}
    (ht : P.underlying t = some (.slice e)) (he : P.underlying e = some (.int .u8))
    (hrun : ∀ w1, (convert t t v).run P W = .ok v w1 → (execOp a.eval o).run P W = .ok (.value v) w1)
    (HO : (Kd.int .u8).R e W base ok v xs) (hb : Below w.heap.size w W) (hnew : ∃ b, v.ownBlock = some b ∧ w.heap.size ≤ b)
    (h : ∀ w1, (Kd.int .u8).V e w1 base (fun k => ok k ∧ base ≤ k ∧ k < w1.heap.size ∧ True) v xs → Below w.heap.size w w1 → wpList P ops Q rest (a.put o.dst v) w1) : wpList P ops Q (o :: rest) a W := by
  obtain ⟨b, hvb, hbl⟩ := hnew
  have HO' := HO
  obtain ⟨hok, inner, ho, _⟩ := HO'
  rcases ho.2 with ⟨rfl, _⟩ | ⟨g, cap, cur, rfl, hg, hh, hlen⟩
  · simp [Value.ownBlock] at hvb
  · have hgb : g = b := by simpa [Value.ownBlock] using hvb
    subst hgb
    obtain ⟨z, hz⟩ := freeze_self W g cur.size cur e hh
    refine Kd.event_run hgd (hrun _ (conv_run W t e g cap xs.length cur hh ht he)) (h _ ?_ ?_)
    · have hlt : g < (W.freeze ⟨g, cur.size, none⟩ 1).heap.size := by rw [freeze_size]; exact (Array.getElem?_eq_some_iff.1 hh).1
      refine ⟨some ⟨g, 0, none⟩, cap, rfl, (Kd.R_reads' HO).2.1, fun W' hW' => ?_⟩
      have hg' := hW' g ⟨hok g (by simp [Value.ownBlock]), hg, hlt, trivial⟩ (by rw [freeze_size]; exact (Array.getElem?_eq_some_iff.1 hh).1)
      rw [hz] at hg'
      have hC := (Kd.R_reads' HO).2.2
      refine ⟨hC.1, hC.2.1, fun hn => ?_⟩
      obtain ⟨ad, e1, hc⟩ := hC.2.2 hn
      refine ⟨ad, e1, fun j p hj => ?_⟩
      obtain ⟨c, h1, h2, h3⟩ := hc j p hj
      refine ⟨c, h1, h2, fun i u hi => ?_⟩
      rw [← h3 i u hi]
      injection e1 with e1
      subst e1
      have ha : ∀ m : Nat, ((⟨g, 0, none⟩ : Addr).add m).block = g := fun m => by unfold Addr.add; split <;> rfl
      simp only [World.cell?, ha, hg', hh]
    · have hf : ∀ (X : World) (p : Addr), (X.freeze p 1).os = X.os ∧ (X.freeze p 1).tape = X.tape ∧ (X.freeze p 1).output = X.output := fun X p => by unfold World.freeze; rw [if_neg (by decide)]; exact ⟨rfl, rfl, rfl⟩
      obtain ⟨h1, h2, h3⟩ := hf W ⟨g, cur.size, none⟩
      exact ⟨h1.trans hb.os, h2.trans hb.tape, h3.trans hb.output, by rw [freeze_size]; exact hb.size, fun k hk => (freeze_at W g cur.size k (by omega)).trans (hb.block k hk)⟩
end
end Go.Proofs.YtoeabgeglgiobaaW.PrintWords
