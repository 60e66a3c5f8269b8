/- A literal's conversion to its own type, in a region that draws its order. Its conditions: those of the theorem. -/
import Derived.Test.Ytoeabgeglgiobaac11kHconv
namespace Go.Proofs.YtoeabgeglgiobaaW.PrintWords
open Go.RowKit
section
variable {P : Program} {ops : Array Oper} {o : Oper} {a : Act} {Q : Exit → Act → World → Prop}
/-- The same in a region that draws its order. -/
theorem Kd.lit_conv_step {Kc : Act → World → Prop} {w W : World} {base e : Nat} {ok : Nat → Prop} (hw : Region.wanted o (yielded ops a.tmps) = true) {N : Tmp} (_hd : o.dst = some N) (t : TypeId) {v : Value} {xs : List Int}
    (ht : P.underlying t = some (.slice e)) (he : P.underlying e = some (.int .u8))
    (hrun : ∀ w1, (convert t t v).run P W = .ok v w1 → (execOp a.eval o).run P W = .ok (.value v) w1)
    (HO : (Kd.int .u8).R e W base ok v xs) (hb : Below w.heap.size w W) (hnew : ∃ b, v.ownBlock = some b ∧ w.heap.size ≤ b)
    (h : ∀ w1, (Kd.int .u8).V e w1 base (fun k => ok k ∧ base ≤ k ∧ k < w1.heap.size ∧ True) v xs → Below w.heap.size w w1 → Kc (a.put o.dst v) w1) : if Region.wanted o (yielded ops a.tmps) = true then Oper.wp P o a W Kc Q else Kc (a.put o.dst undef) W := by
  obtain ⟨b, hvb, hbl⟩ := hnew
  have HO' := HO
  obtain ⟨hok, inner, ho, _⟩ := HO'
  rcases ho.2 with ⟨rfl, _⟩ | ⟨g, cap, cur, rfl, hg, hh, hlen⟩
  · simp [Value.ownBlock] at hvb
  · have hgb : g = b := by simpa [Value.ownBlock] using hvb
    subst hgb
    obtain ⟨z, hz⟩ := freeze_self W g cur.size cur e hh
    refine event_step hw (hrun _ (conv_run W t e g cap xs.length cur hh ht he)) (h _ ?_ ?_)
    · have hlt : g < (W.freeze ⟨g, cur.size, none⟩ 1).heap.size := by rw [freeze_size]; exact (Array.getElem?_eq_some_iff.1 hh).1
      refine ⟨some ⟨g, 0, none⟩, cap, rfl, (Kd.R_reads' HO).2.1, fun W' hW' => ?_⟩
      have hg' := hW' g ⟨hok g (by simp [Value.ownBlock]), hg, hlt, trivial⟩ (by rw [freeze_size]; exact (Array.getElem?_eq_some_iff.1 hh).1)
      rw [hz] at hg'
      have hC := (Kd.R_reads' HO).2.2
      refine ⟨hC.1, hC.2.1, fun hn => ?_⟩
      obtain ⟨ad, e1, hc⟩ := hC.2.2 hn
      refine ⟨ad, e1, fun j p hj => ?_⟩
      obtain ⟨c, h1, h2, h3⟩ := hc j p hj
      refine ⟨c, h1, h2, fun i u hi => ?_⟩
      rw [← h3 i u hi]
      injection e1 with e1
      subst e1
      have ha : ∀ m : Nat, ((⟨g, 0, none⟩ : Addr).add m).block = g := fun m => by unfold Addr.add; split <;> rfl
      simp only [World.cell?, ha, hg', hh]
    · have hf : ∀ (X : World) (p : Addr), (X.freeze p 1).os = X.os ∧ (X.freeze p 1).tape = X.tape ∧ (X.freeze p 1).output = X.output := fun X p => by unfold World.freeze; rw [if_neg (by decide)]; exact ⟨rfl, rfl, rfl⟩
      obtain ⟨h1, h2, h3⟩ := hf W ⟨g, cur.size, none⟩
      exact ⟨h1.trans hb.os, h2.trans hb.tape, h3.trans hb.output, by rw [freeze_size]; exact hb.size, fun k hk => (freeze_at W g cur.size k (by omega)).trans (hb.block k hk)⟩
end
end Go.Proofs.YtoeabgeglgiobaaW.PrintWords
