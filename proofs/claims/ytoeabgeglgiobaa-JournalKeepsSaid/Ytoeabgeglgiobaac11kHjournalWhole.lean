/- How much of a segment is whole: what the program's journal.Whole answers (a loop over an iterator). Its condition: the bytes' bounds. -/
import Derived.RangeFuncNested
import Derived.RangeFuncBound
import Derived.RangeFuncCalls
import Derived.RangeFuncLeaves
import Derived.Shelf.Abstract
import Derived.Shelf.RegionOpen
import Derived.WalkKit
import Derived.OwnWalkIn
import Derived.TacticsInMore
import Derived.LoopNIn
import Derived.LoopIn
import Derived.Test.Ytoeabgeglgiobaac11kGjournal1n
import Derived.Test.Ytoeabgeglgiobaac11kQFall
namespace Go.Proofs.Ytoeabgeglgiobaa.Q
/-- The payload at a place. -/
def jnx (b : List Int) (a : Int) : List Int × Int × Int := if (ftake b a).2.2.2 = 0 then (if (ftake b a).1 = 9 then ((ftake b a).2.1, (ftake b a).2.2.1, 0) else ([], a, 60)) else ([], a, (ftake b a).2.2.2)
theorem jnx_ok (b : List Int) (hb : Bytes b) (a : Int) (h : (jnx b a).2.2 = 0) : 0 ≤ a ∧ a < (jnx b a).2.1 ∧ (jnx b a).2.1 ≤ b.length := by
  unfold jnx at h ⊢
  by_cases h1 : (ftake b a).2.2.2 = 0
  · have := ftake_ok b hb a h1
    rw [if_pos h1] at h ⊢
    by_cases h2 : (ftake b a).1 = 9
    · rw [if_pos h2]; simp only; omega
    · rw [if_neg h2] at h; simp at h
  · rw [if_neg h1] at h; exact absurd h h1
/-- The payloads from a place on, each with the place behind it. -/
def jall (b : List Int) : Nat → Int → List (Int × List Int)
  | 0, _ => []
  | m + 1, a => if (jnx b a).2.2 = 0 then ((jnx b a).2.1, (jnx b a).1) :: jall b m (jnx b a).2.1 else []
theorem vjnext (b : List Int) (hb : Bytes b) (hs : b.length ≤ 1000000) (a : Int) : Go.Proofs.YtoeabgeglgiobaaW.PrintWords.Ev (fun k => P.journal_Next.f k b a) (jnx b a) := by
  unfold P.journal_Next.f jnx
  refine Go.Proofs.YtoeabgeglgiobaaW.PrintWords.Ev.bind (vftake b hb hs a) ?_
  by_cases h1 : (ftake b a).2.2.2 = 0
  · simp only [if_pos h1]
    by_cases h2 : (ftake b a).1 = 9
    · simp only [if_pos h2]; exact Go.Proofs.YtoeabgeglgiobaaW.PrintWords.Ev.now _
    · simp only [if_neg h2]; exact Go.Proofs.YtoeabgeglgiobaaW.PrintWords.Ev.now _
  · simp only [if_neg h1]; exact Go.Proofs.YtoeabgeglgiobaaW.PrintWords.Ev.now _
end Go.Proofs.Ytoeabgeglgiobaa.Q
namespace Go.Proofs.Ytoeabgeglgiobaa.P
open Go.RowKit Go.Shelf
open Go.Proofs.YtoeabgeglgiobaaW.PrintWords (Kd Ev)
attribute [local go_sem] Oper.semAt_some
theorem jnext_calls (A0 : Option Addr) (c0 : Nat) (l0 : List Int) (hb : Q.Bytes l0) (hs : l0.length ≤ 1000000) (a1 : Int) (w : World) (hr0 : Kd.C (Kd.int .u8) w A0 l0.length l0) (hc0 : l0.length ≤ c0) :
    Calls Try.prog 170 #[.slice A0 l0.length c0, .int .i64 a1] w fun e w' => ∃ v0_ : Value, e = .returned (.tuple #[v0_, .int .i64 (Q.jnx l0 a1).2.1, .int .i64 (Q.jnx l0 a1).2.2]) ∧ Kd.R (Kd.int .u8) 5 w' w.heap.size (fun _ => True) v0_ (Q.jnx l0 a1).1 ∧ Below w.heap.size w w' := by
  obtain ⟨k, hk⟩ := Ev.rounds (Q.vjnext l0 hb hs a1)
  exact journal_Next.calls k A0 c0 l0 a1 _ _ _ w hr0 hc0 hk
abbrev jenc (x : Int × Value) : Array Value := #[.int .i64 x.1, x.2]
/-- What a round keeps: what lay below n₀, and the box of the segment. -/
def KB (n₀ Bn : Nat) (A B : World) : Prop := Below n₀ A B ∧ B.heap[Bn]? = A.heap[Bn]?
theorem KB.t {n₀ Bn : Nat} {A B C : World} (h : KB n₀ Bn A B) (k : KB n₀ Bn B C) : KB n₀ Bn A C := ⟨h.1.trans k.1, k.2.trans h.2⟩
set_option maxHeartbeats 4000000 in
set_option maxRecDepth 100000 in
theorem payloads_stops (n : Nat) (hn : 1 ≤ n) (Bn n₀ : Nat) (A0 : Option Addr) (c0 : Nat) (l0 : List Int) (hb : Q.Bytes l0) (hs : l0.length ≤ 1000000) (hc0 : l0.length ≤ c0) (w : World) (hn0 : n₀ ≤ w.heap.size) (hB : Bn < w.heap.size)
    (hBn : w.cell? ⟨Bn, 0, none⟩ = some (.slice A0 l0.length c0)) (hF : Kd.F (Kd.int .u8) w (fun k => k < n₀) A0 l0.length l0) :
    SeqStopsK Fence.wide n Try.prog 201 #[.pointer (some ⟨Bn, 0, none⟩)] jenc (KB n₀ Bn) (fun xs => xs.map (·.1) = (Q.jall l0 (l0.length + 1) 0).map (·.1)) (fun _ => True) (l0.length + 1) w := fun l J Jx W hW hJ hJx hY h0 => by
  refine callsIn_of_wp Try.func201 rfl trivial ?_ rfl
  simp only [Try.ntmps201, List.size_toArray, List.length_cons, List.length_nil, Nat.reduceAdd, Nat.reduceSub, Array.replicate_succ, Array.replicate_zero, List.push_toArray, List.append_toArray, List.nil_append, List.cons_append]
  have hBW : Bn < W.heap.size := by have := hW.size; omega
  have hBn' : W.cell? ⟨Bn, 0, none⟩ = some (.slice A0 l0.length c0) := (hW.cell (p := ⟨Bn, 0, none⟩) hB).trans hBn
  have hF' : Kd.F (Kd.int .u8) W (fun k => k < n₀) A0 l0.length l0 := Kd.F_step hF (fun k hk _ => hW.block k (by omega))
  have hn1 : n₀ ≤ W.heap.size := by have := hW.size; omega
  gi_wp2
  gi_loopw [3] (fun p wr => ∃ (a m : Nat) (pre : List (Int × Value)), p = .int .i64 (a : Int) ∧ a ≤ l0.length ∧ l0.length - a < m ∧ pre.length + m ≤ l0.length + 1 ∧ pre.map (·.1) ++ (Q.jall l0 m (a : Int)).map (·.1) = (Q.jall l0 (l0.length + 1) 0).map (·.1) ∧ J pre wr ∧ KB n₀ Bn W wr)
    (fun p wr => l0.length - (intOf p).toNat)
  case atStart =>
    exact ⟨0, l0.length + 1, [], rfl, Nat.zero_le _, by omega, by simp, rfl, h0, ⟨Below.refl _ _, rfl⟩⟩
  case round =>
    obtain ⟨a, m, pre, rfl, ha, hm, hpm, hx, hJs, hbw⟩ := hrel
    have hc1 : wr.cell? ⟨Bn, 0, none⟩ = some (.slice A0 l0.length c0) := (World.cell?_of_block (a := ⟨Bn, 0, none⟩) hbw.2).trans hBn'
    have hF1 : Kd.F (Kd.int .u8) wr (fun k => k < n₀) A0 l0.length l0 := Kd.F_step hF' (fun k hk _ => hbw.1.block k (by omega))
    have hws := hbw.1.size
    by_cases hok : (Q.jnx l0 (a : Int)).2.2 = 0
    · have hj := Q.jnx_ok l0 hb a hok
      obtain ⟨m, rfl⟩ : ∃ q, m = q + 1 := ⟨m - 1, by omega⟩
      rw [Q.jall, if_pos hok, List.map_cons] at hx
      obtain ⟨nx, hnx⟩ : ∃ nx : Nat, (Q.jnx l0 (a : Int)).2.1 = (nx : Int) := ⟨(Q.jnx l0 (a : Int)).2.1.toNat, by omega⟩
      rw [hnx] at hx hj
      gi_wp2_with (refine ⟨trivial, ?_⟩; gi_at_call 170; refine (callsIn_wide.2 (jnext_calls A0 c0 l0 hb hs (a : Int) _ (Kd.F_now hF1) hc0)).mono ?_; rintro e w1 ⟨v, rfl, hR, hbb⟩; rw [hok, hnx]; have hJ1 := hJ pre wr w1 none hJs ⟨hbb.os, hbb.tape, hbb.output, hbb.size, fun k hk _ => hbb.block k hk⟩ (fun r e => by cases e); obtain ⟨fn, tmps, assign, body, hy, hRd⟩ := hY pre ((nx : Int), v) w1 hJ1 (by omega); dsimp only [jenc] at hy)
      have hbw1 : KB n₀ Bn W w1 := hbw.t ⟨hbb.mono (by omega), hbb.block Bn (by omega)⟩
      refine hRd.mono ?_
      rintro e W3 (⟨rfl, hJ3, hk3⟩ | ⟨rfl, hJx3⟩)
      · gi_wp2
        go_roundw
        case rel => exact ⟨nx, m, pre ++ [((nx : Int), v)], rfl, by omega, by omega, by simp only [List.length_append, List.length_singleton]; omega, by rw [List.map_append, List.append_assoc]; exact hx, hJ3, hbw1.t hk3⟩
        case measure => simp [intOf]; omega
      · gi_wp2
        refine bodyPost_ret (results_none rfl _ _ _) rfl ?_
        exact ⟨⟨_, rfl⟩, .inr ⟨pre ++ [((nx : Int), v)], trivial, hJx3⟩⟩
    · have hne : ((Q.jnx l0 (a : Int)).2.2 != 0) = true := bne_iff_ne.2 hok
      obtain ⟨m, rfl⟩ : ∃ q, m = q + 1 := ⟨m - 1, by omega⟩
      rw [Q.jall, if_neg hok, List.map_nil, List.append_nil] at hx
      gi_wp2_with (refine ⟨trivial, ?_⟩; gi_at_call 170; refine (callsIn_wide.2 (jnext_calls A0 c0 l0 hb hs (a : Int) _ (Kd.F_now hF1) hc0)).mono ?_; rintro e w1 ⟨v, rfl, hR, hbb⟩; have hJ1 := hJ pre wr w1 none hJs ⟨hbb.os, hbb.tape, hbb.output, hbb.size, fun k hk _ => hbb.block k hk⟩ (fun r e => by cases e))
      refine ⟨fun _ h => (by cases h), ?_⟩
      gi_wp2
      refine bodyPost_ret (results_none rfl _ _ _) rfl ?_
      exact ⟨⟨_, rfl⟩, .inl ⟨pre, hx, hJ1⟩⟩
/-- A loop over an iterator whose assignment writes into memory, and whose rounds all go on. -/
theorem range_asg {α : Type} {n : Nat} {g : Operand} {ps : Array Tmp} {assign body : Code} {Q : Exit → Act → World → Prop} {a : Act} {w : World} (h1 : 1 ≤ n) {gf : Nat} {lb : Array Value} (hg : a.eval g = .func (.func gf) #[] lb)
    (eg : ∀ args w, (callFunc gf args).run Try.prog w = .ok (.enter gf args) w) {encs : α → Array Value} {Kp : World → World → Prop} {S Sp : List α → Prop} {N : Nat} {w0 : World} (hseq : SeqStopsK Fence.wide (n - 1) Try.prog gf lb encs Kp S Sp N w0)
    (hKt : ∀ {A B C : World}, Kp A B → Kp B C → Kp A C) (hKb : ∀ (W : World) (l : Nat) (o o' : Obj), w.heap.size ≤ l → W.heap[l]? = some o → o.isCells = false → o.isWalk = false → Kp W (W.putObj l o')) (hb0 : Below w0.heap.size w0 w) (hps : ∀ x, (encs x).size = ps.size)
    (I : List α → World → Prop) (hI : OwnFrom w.heap.size I) (h0 : I [] w) (Ax : List α → α → Act → World → Prop) (hAx : ∀ pre x a', OwnFrom w.heap.size (fun (_ : Unit) W => Ax pre x a' W))
    (hassign : ∀ (l : Nat) (pre : List α) (x : α) (W : World) (K : Act → World → Prop), I pre W → (∀ a' W', KeepsFrom w.heap.size W W' → Kp W W' → Ax pre x a' W' → K a' W') →
      assign.wpIn (Fence.wide.inRound l) (n - 1 - 1) Try.prog (Exit.then K (fun _ _ _ => False)) { tmps := (ps.zip (encs x)).foldl (fun t (p, v) => t.setIfInBounds p v) a.tmps, defers := [] } W)
    (hbody : ∀ (l : Nat) (pre : List α) (x : α) (a' : Act) (W : World), Ax pre x a' W → body.wpIn (Fence.wide.inRound l) (n - 1 - 1) Try.prog (ownPostG w.heap.size Kp I (fun _ _ _ => False) (pre ++ [x]) W) a' W)
    (hdone : ∀ (D : Nat) (xs : List α) (W : World), w.heap.size ≤ D → S xs → I xs W → W.heap[D]? = some (.deferred (some [])) → Q .normal { a with defers := { target := .collected D, args := #[] } :: a.defers } W) :
    (Code.rangeFunc g ps assign body).wpIn Fence.wide n Try.prog Q a w := by
  refine wpIn_rangeFunc ?_
  intro fn hfn
  obtain ⟨rec, hrec⟩ : ∃ rec : LoopState → Option Code → Loop, rec = fun st pe => { state := st, pending := pe, fn, tmps := a.tmps, params := ps, assign, body, defers := w.heap.size } := ⟨_, rfl⟩
  obtain ⟨W1, hW1⟩ : ∃ W1, (w.alloc (.deferred (some []))).alloc (.loop (rec .ready none)) = W1 := ⟨_, rfl⟩
  have hL1 : W1.heap[w.heap.size + 1]? = some (.loop (rec .ready none)) := by
    rw [← hW1]; have := World.alloc_heap_new (w.alloc (.deferred (some []))) (.loop (rec .ready none)); rwa [World.size_alloc] at this
  have hK1 : W1.heap[w.heap.size]? = some (.deferred (some [])) := by
    rw [← hW1]; exact (Below.heap_alloc _ _ _ (by simp)).trans (World.alloc_heap_new w _)
  have hb1 : Below w0.heap.size w0 W1 := by
    rw [← hW1]; exact hb0.trans ((((Below.refl _ w).alloc (Nat.le_refl _) _).alloc (by simp) _).mono hb0.size)
  refine ⟨w.heap.size + 1, [{ target := .collected w.heap.size, args := #[] }], W1, { target := .fn (.func gf) lb, args := #[.func (.yield (w.heap.size + 1)) #[] #[]] }, W1, gf,
    #[.func (.yield (w.heap.size + 1)) #[] #[]] ++ lb, W1, ?_, ?_, ?_, ?_, fun _ => h1, ?_⟩
  · rw [← hW1, hrec]; exact run_enterLoop_outer _ _ _ _ _
  · simp only [resolve, hg]
    simp [go_sem]
  · intro f' _; trivial
  · simp [invoke, go_sem, eg]
  · have hnw : ∀ {A B : World} {row : Option Nat}, (∀ r, row = some r → W1.heap.size ≤ r ∧ ∃ o : Obj, A.heap[r]? = some o ∧ o.isWalk = true) → (∀ r, row = some r → w.heap.size ≤ r ∧ ∃ o : Obj, A.heap[r]? = some o ∧ o.isCells = false) :=
      fun hr r e => by obtain ⟨hB, o, ho, hw⟩ := hr r e; exact ⟨by rw [← hW1] at hB; simp at hB; omega, o, ho, Obj.not_cells_of_walk hw⟩
    refine (hseq (w.heap.size + 1) (fun pre W => I pre W ∧ W.heap[w.heap.size + 1]? = some (.loop (rec .ready none)) ∧ W.heap[w.heap.size]? = some (.deferred (some []))) (fun _ _ => False) W1 hb1
      (fun s A B row hs hg' hr => ⟨hI s A B row hs.1 hg' (hnw (B := B) hr), (grownBy_keeps hg' (fun r e => (hr r e).2) hs.2.1 rfl).trans hs.2.1, (grownBy_keeps hg' (fun r e => (hr r e).2) hs.2.2 rfl).trans hs.2.2⟩)
      (fun _ _ _ _ hs _ _ => hs) ?_ ⟨by rw [← hW1]; exact hI.alloc _ (hI.alloc _ h0), hL1, hK1⟩).mono ?_
    · rintro pre x W ⟨hi, hl, hk⟩ _
      have hy := run_yield (P := Try.prog) (args := encs x) hl (by rw [hrec]; exact hps x)
      rw [hrec] at hy
      refine ⟨fn, _, assign, body, hy, roundIn_of_wpIn hfn (hassign _ pre x W _ hi ?_)⟩
      clear hy
      intro a' Wa hkfa hkpa hax
      replace hl := hkfa.same _ _ (by omega) hl rfl
      replace hk := hkfa.same _ _ (Nat.le_refl _) hk rfl
      have hlt : w.heap.size + 1 < Wa.heap.size := (Array.getElem?_eq_some_iff.1 hl).1
      refine ⟨_, run_beginRound hl (by rw [hrec]), ?_⟩
      have hl2 : (Wa.putObj (w.heap.size + 1) (.loop { rec .ready none with state := .busy })).heap[w.heap.size + 1]? = some (.loop { rec .ready none with state := .busy }) := World.putObj_heap_same hlt
      have hk2 : (Wa.putObj (w.heap.size + 1) (.loop { rec .ready none with state := .busy })).heap[w.heap.size]? = some (.deferred (some [])) := (World.putObj_heap_other (by omega)).trans hk
      have hw2 : Kp Wa (Wa.putObj (w.heap.size + 1) (.loop { rec .ready none with state := .busy })) := hKb _ _ _ _ (by omega) hl rfl rfl
      refine wpIn_mono (hbody _ pre x a' _ ((hAx pre x a').putObj (s := ()) _ hax (by omega) hl rfl)) ?_
      rintro e a3 W3 hp
      cases e with
      | normal =>
        obtain ⟨hk3, hkp3, hi3⟩ := hp
        have hl3 := hk3.same _ _ (by omega) hl2 rfl
        have hr : (Instr.endRound (w.heap.size + 1) none).run Try.prog W3 = .ok (.bool true) (W3.putObj (w.heap.size + 1) (.loop (rec .ready none))) := by
          have := run_endRound (P := Try.prog) none hl3
          rw [hrec] at this ⊢
          exact this
        exact ⟨_, _, hr, .inl ⟨rfl, ⟨hI.putObj _ hi3 (by omega) hl3 rfl, World.putObj_heap_same (Array.getElem?_eq_some_iff.1 hl3).1, (World.putObj_heap_other (by omega)).trans (hk3.same _ _ (Nat.le_refl _) hk2 rfl)⟩, hKt hkpa (hKt (hKt hw2 hkp3) (hKb _ _ _ _ (by omega) hl3 rfl rfl))⟩⟩
      | ret => exact hp.2.elim
      | exit id => exact hp.2.elim
      | goto t => exact hp.2.elim
      | panic ch => exact hp.elim
      | outgrown => exact hp.elim
    · rintro e W2 ⟨⟨v, rfl⟩, (⟨xs, hS, hi, hl, hk⟩ | ⟨pre, _, hf⟩)⟩
      · exact ⟨none, _, by have := run_endLoop (P := Try.prog) hl (by rw [hrec]; simp); rw [hrec] at this; exact this, hdone _ xs _ (Nat.le_refl _) hS (hI.putObj _ hi (by omega) hl rfl) ((World.putObj_heap_other (by omega)).trans hk)⟩
      · exact hf.elim
set_option maxHeartbeats 1000000 in
set_option maxRecDepth 100000 in
theorem payloads.calls (A : Option Addr) (l c : Nat) (w : World) : Calls Try.prog 169 #[.slice A l c] w fun e w' => e = .returned (.func (.func 201) #[] #[.pointer (some ⟨w.heap.size, 0, none⟩)]) ∧ w' = w.alloc (.cells #[.slice A l c] 24) := by
  go_enter Try.func169, Try.ntmps169
  go_wp2
  go_ret
  exact ⟨rfl, rfl⟩
/-- The last place behind a payload, or 0. -/
def wholeD (b : List Int) : Int := ((Q.jall b (b.length + 1) 0).map (·.1)).getLastD 0
def journal_Whole.f (l0 : List Int) : Option Int := if l0.length ≤ 1000000 ∧ (∀ x ∈ l0, 0 ≤ x ∧ x < 256) then some (wholeD l0) else none
set_option maxHeartbeats 4000000 in
set_option maxRecDepth 100000 in
theorem journal_Whole.calls (A0 : Option Addr) (c0 : Nat) (l0 : List Int) (r : Int) (w : World) (hr0 : Kd.C (Kd.int .u8) w A0 l0.length l0) (hc0 : l0.length ≤ c0) (h : journal_Whole.f l0 = some r) :
    Calls Try.prog 96 #[.slice A0 l0.length c0] w fun e w' => e = .returned (.int .i64 r) ∧ Below w.heap.size w w' := by
  unfold journal_Whole.f at h
  split at h
  · rename_i hh
    obtain ⟨hs, hb⟩ := hh
    obtain rfl := Option.some.inj h
    clear h
    refine callsIn_wide (n := 3).1 ?_
    refine callsIn_of_wp_marks Try.func96 rfl trivial ?_ rfl
    simp only [Try.ntmps96, List.size_toArray, List.length_cons, List.length_nil, Nat.reduceAdd, Nat.reduceSub, Array.replicate_succ, Array.replicate_zero, List.push_toArray, List.append_toArray, List.nil_append, List.cons_append]
    gi_wp2_with (refine ⟨trivial, ?_⟩; gi_at_call 169; refine (callsIn_wide.2 (payloads.calls _ _ _ _)).mono ?_; rintro e w' ⟨rfl, rfl⟩)
    have hF0 : Kd.F (Kd.int .u8) w (fun k => k < w.heap.size) A0 l0.length l0 := Kd.C_F (Kd.heap_int .u8) hr0
    generalize hw2 : (w.alloc (Obj.cells #[Value.int IntKind.i64 0] 3)).alloc (Obj.cells #[Value.slice A0 l0.length c0] 24) = w2
    have hb2 : Below w.heap.size w w2 := by rw [← hw2]; exact ((Below.refl _ w).alloc (Nat.le_refl _) _).alloc (by simp) _
    have hs2 : w2.heap.size = w.heap.size + 2 := by rw [← hw2]; simp
    have hc1 : w2.cell? ⟨w.heap.size, 0, none⟩ = some (.int .i64 0) := by rw [← hw2]; simp
    have hc2 : w2.cell? ⟨w.heap.size + 1, 0, none⟩ = some (.slice A0 l0.length c0) := by rw [← hw2]; simp
    have hf1 : w2.frozen? ⟨w.heap.size, 0, none⟩ = false := by rw [← hw2]; simp
    have hF2 : Kd.F (Kd.int .u8) w2 (fun k => k < w.heap.size) A0 l0.length l0 := Kd.F_step hF0 (fun k hk _ => hb2.block k hk)
    refine range_asg (by omega) (gf := 201) (lb := #[.pointer (some ⟨w.heap.size + 1, 0, none⟩)]) rfl (enters_of Try.func201 (by kernel_rfl) rfl)
      (payloads_stops (3 - 1) (by omega) (w.heap.size + 1) w.heap.size A0 c0 l0 hb hs hc0 w2 (by omega) (by omega) hc2 hF2) KB.t
      (fun W l o o' hl ho _ _ => ⟨(Below.refl _ W).grown (grownBy_putObj' W l o') (by have := (Array.getElem?_eq_some_iff.1 ho).1; omega) (fun k e => by cases e; omega), World.putObj_heap_other (by omega)⟩)
      (Below.refl _ _) (fun _ => rfl)
      (fun pre W => W.cell? ⟨w.heap.size, 0, none⟩ = some (.int .i64 ((pre.map (·.1)).getLastD 0)) ∧ W.frozen? ⟨w.heap.size, 0, none⟩ = false ∧ Below w.heap.size w W) ?hI ⟨hc1, hf1, hb2⟩
      (fun pre x a' W => W.cell? ⟨w.heap.size, 0, none⟩ = some (.int .i64 x.1) ∧ W.frozen? ⟨w.heap.size, 0, none⟩ = false ∧ Below w.heap.size w W) ?hAx ?assign ?body ?done
    case hI =>
      intro s A B row hs hg hr
      exact ⟨cell_kept hs.1 hg (fun r e => (hr r e).2), (frozen_kept hs.1 hg (fun r e => (hr r e).2)).trans hs.2.1, hs.2.2.grown hg hs.2.2.size (fun k e => by have := (hr k e).1; omega)⟩
    case hAx =>
      intro pre x a' s A B row hs hg hr
      exact ⟨cell_kept hs.1 hg (fun r e => (hr r e).2), (frozen_kept hs.1 hg (fun r e => (hr r e).2)).trans hs.2.1, hs.2.2.grown hg hs.2.2.size (fun k e => by have := (hr k e).1; omega)⟩
    case assign =>
      rintro l pre x W K ⟨hc, hf, hb'⟩ hK
      gi_wp2
      exact hK _ _ ((KeepsOthers.setCell _ _ _).from _) ⟨(Below.refl w.heap.size W).setCell (p := ⟨w.heap.size, 0, none⟩) (Nat.le_refl _) _, Below.heap_setCell W ⟨w.heap.size, 0, none⟩ _ _ (by simp)⟩
        ⟨World.cell?_setCell_same' _ _ _ (by rw [hc]; rfl), by rw [World.frozen?_setCell]; exact hf, hb'.setCell (p := ⟨w.heap.size, 0, none⟩) (Nat.le_refl _) _⟩
    case body =>
      rintro l pre x a' W ⟨hc, hf, hb'⟩
      gi_wp2
      exact ⟨KeepsFrom.refl _ _, ⟨Below.refl _ _, rfl⟩, by rw [hc]; simp, hf, hb'⟩
    case done =>
      rintro D xs W hD hS ⟨hc, hf, hb'⟩ hK
      rw [hS] at hc
      obtain ⟨V, hV⟩ : ∃ V, wholeD l0 = V := ⟨_, rfl⟩
      rw [show ((Q.jall l0 (l0.length + 1) 0).map (·.1)).getLastD 0 = V from hV] at hc
      gi_wp2
      have hK' := (KeepsOthers.setCell W ⟨w.heap.size, 0, none⟩ (.int .i64 V)).same D _ hK rfl
      refine ⟨by simp, .inl ⟨_, _, rfl, run_takeDeferred hK', ?_⟩⟩
      have hc5 := cell_kept (World.cell?_setCell_same' W ⟨w.heap.size, 0, none⟩ (.int .i64 V) (by rw [hc]; rfl)) (grownBy_putObj' _ D (.deferred none)) (fun r e => by cases e; exact ⟨_, hK', rfl⟩)
      refine ⟨.int .i64 V, ?_, by rw [hV], ?_⟩
      · simp [results, Try.f96, go_sem, hc5]
      · have hbS := hb'.setCell (p := ⟨w.heap.size, 0, none⟩) (Nat.le_refl _) (.int .i64 V)
        exact hbS.grown (grownBy_putObj' _ D (.deferred none)) hbS.size (fun k e => by cases e; omega)
  · cases h
end Go.Proofs.Ytoeabgeglgiobaa.P
