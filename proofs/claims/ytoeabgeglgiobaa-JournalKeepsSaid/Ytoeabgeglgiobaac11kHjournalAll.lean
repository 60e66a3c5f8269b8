/- All payloads of a segment: what the program's journal.All answers (a loop over an iterator that collects). Its condition: the bytes' bounds. -/
import Derived.Maps.AppendAt
import Derived.Test.Ytoeabgeglgiobaac11kHjournalWhole
namespace Go.Proofs.Ytoeabgeglgiobaa.P
open Go.RowKit Go.Shelf
open Go.Proofs.YtoeabgeglgiobaaW.PrintWords (Kd Ev)
attribute [local go_sem] Oper.semAt_some
/-- An append, as in a fence. -/
theorem append_in {F : Fence} {n : Nat} {P : Program} {o : Oper} {a : Act} {W : World} {Kc : Act → World → Prop} {Q : Exit → Act → World → Prop} {s x : Operand} {t : TypeId}
    (ho : o.op = .call { callee := .builtin .append, args := #[s, x], argTypes := #[t, t] }) (h : Oper.wp P o a W Kc (fun _ _ _ => False)) : Oper.wpIn F n P o a W Kc Q := by
  unfold Oper.wp at h
  unfold Oper.wpIn
  refine ⟨by simp [Oper.about, ho, resolve, Target.leads, Sem.run_pure], ?_⟩
  rw [Oper.semAt_plain F _ _ (by rw [ho]; intro c hc; cases hc)]
  simp [execOp, ho, resolve, invoke, builtin] at h ⊢
  cases hR : Sem.run P (Builtin.append_ #[t, t] o.type #[a.eval s, a.eval x]) W with
  | ok v w' => (try rw [hR] at h); exact h
  | halt r w' =>
    (try rw [hR] at h)
    cases r <;> first | exact h.elim | exact h | (simp [Result.andThen, Oper.upon, Oper.uponIn, LetsOut] at h ⊢)
abbrev JX := Int × List Int × Value
abbrev jenc2 (x : JX) : Array Value := #[.int .i64 x.1, x.2.2]
/-- An iterator that tells what it hands. -/
def SeqF (n : Nat) (gf : Nat) (lb : Array Value) (Kp : World → World → Prop) (S : List JX → Prop) (N : Nat) (w0 : World) : Prop :=
  ∀ (l : Nat) (J : List JX → World → Prop) (W : World), Below w0.heap.size w0 W → AbidesFrom W.heap.size J →
    (∀ pre x Wr W1, J pre Wr → Below Wr.heap.size Wr W1 → Kd.R (Kd.int .u8) 5 W1 Wr.heap.size (fun _ => True) x.2.2 x.2.1 → pre.length < N → YieldAt Fence.wide (n - 1) Try.prog l (jenc2 x) W1 fun e W' => e = .returned (.bool true) ∧ J (pre ++ [x]) W' ∧ Kp W1 W') →
    J [] W → CallsIn Fence.wide n Try.prog gf (#[.func (.yield l) #[] #[]] ++ lb) W fun e W' => (∃ v, e = .returned v) ∧ ∃ xs, S xs ∧ J xs W'
set_option maxHeartbeats 4000000 in
set_option maxRecDepth 100000 in
theorem payloads_facts (n : Nat) (hn : 1 ≤ n) (Bn n₀ : Nat) (A0 : Option Addr) (c0 : Nat) (l0 : List Int) (hb : Q.Bytes l0) (hs : l0.length ≤ 1000000) (hc0 : l0.length ≤ c0) (w : World) (hn0 : n₀ ≤ w.heap.size) (hB : Bn < w.heap.size)
    (hBn : w.cell? ⟨Bn, 0, none⟩ = some (.slice A0 l0.length c0)) (hF : Kd.F (Kd.int .u8) w (fun k => k < n₀) A0 l0.length l0) :
    SeqF n 201 #[.pointer (some ⟨Bn, 0, none⟩)] (KB n₀ Bn) (fun xs => xs.map (fun x => x.2.1) = (Q.jall l0 (l0.length + 1) 0).map (·.2)) (l0.length + 1) w := fun l J W hW hJ hY h0 => by
  refine callsIn_of_wp Try.func201 rfl trivial ?_ rfl
  simp only [Try.ntmps201, List.size_toArray, List.length_cons, List.length_nil, Nat.reduceAdd, Nat.reduceSub, Array.replicate_succ, Array.replicate_zero, List.push_toArray, List.append_toArray, List.nil_append, List.cons_append]
  have hBW : Bn < W.heap.size := by have := hW.size; omega
  have hBn' : W.cell? ⟨Bn, 0, none⟩ = some (.slice A0 l0.length c0) := (hW.cell (p := ⟨Bn, 0, none⟩) hB).trans hBn
  have hF' : Kd.F (Kd.int .u8) W (fun k => k < n₀) A0 l0.length l0 := Kd.F_step hF (fun k hk _ => hW.block k (by omega))
  have hn1 : n₀ ≤ W.heap.size := by have := hW.size; omega
  gi_wp2
  gi_loopw [3] (fun p wr => ∃ (a m : Nat) (pre : List JX), p = .int .i64 (a : Int) ∧ a ≤ l0.length ∧ l0.length - a < m ∧ pre.length + m ≤ l0.length + 1 ∧ pre.map (fun x => x.2.1) ++ (Q.jall l0 m (a : Int)).map (·.2) = (Q.jall l0 (l0.length + 1) 0).map (·.2) ∧ J pre wr ∧ KB n₀ Bn W wr)
    (fun p wr => l0.length - (intOf p).toNat)
  case atStart =>
    exact ⟨0, l0.length + 1, [], rfl, Nat.zero_le _, by omega, by simp, rfl, h0, ⟨Below.refl _ _, rfl⟩⟩
  case round =>
    obtain ⟨a, m, pre, rfl, ha, hm, hpm, hx, hJs, hbw⟩ := hrel
    have hc1 : wr.cell? ⟨Bn, 0, none⟩ = some (.slice A0 l0.length c0) := (World.cell?_of_block (a := ⟨Bn, 0, none⟩) hbw.2).trans hBn'
    have hF1 : Kd.F (Kd.int .u8) wr (fun k => k < n₀) A0 l0.length l0 := Kd.F_step hF' (fun k hk _ => hbw.1.block k (by omega))
    have hws := hbw.1.size
    by_cases hok : (Q.jnx l0 (a : Int)).2.2 = 0
    · have hj := Q.jnx_ok l0 hb a hok
      obtain ⟨m, rfl⟩ : ∃ q, m = q + 1 := ⟨m - 1, by omega⟩
      rw [Q.jall, if_pos hok, List.map_cons] at hx
      obtain ⟨nx, hnx⟩ : ∃ nx : Nat, (Q.jnx l0 (a : Int)).2.1 = (nx : Int) := ⟨(Q.jnx l0 (a : Int)).2.1.toNat, by omega⟩
      rw [hnx] at hx hj
      gi_wp2_with (refine ⟨trivial, ?_⟩; gi_at_call 170; refine (callsIn_wide.2 (jnext_calls A0 c0 l0 hb hs (a : Int) _ (Kd.F_now hF1) hc0)).mono ?_; rintro e w1 ⟨v, rfl, hR, hbb⟩; rw [hok, hnx]; obtain ⟨fn, tmps, assign, body, hy, hRd⟩ := hY pre ((nx : Int), (Q.jnx l0 (a : Int)).1, v) wr w1 hJs hbb hR (by omega); dsimp only [jenc2] at hy)
      have hbw1 : KB n₀ Bn W w1 := hbw.t ⟨hbb.mono (by omega), hbb.block Bn (by omega)⟩
      refine hRd.mono ?_
      rintro e W3 ⟨rfl, hJ3, hk3⟩
      gi_wp2
      go_roundw
      case rel => exact ⟨nx, m, pre ++ [((nx : Int), (Q.jnx l0 (a : Int)).1, v)], rfl, by omega, by omega, by simp only [List.length_append, List.length_singleton]; omega, by rw [List.map_append, List.append_assoc]; exact hx, hJ3, hbw1.t hk3⟩
      case measure => simp [intOf]; omega
    · have hne : ((Q.jnx l0 (a : Int)).2.2 != 0) = true := bne_iff_ne.2 hok
      obtain ⟨m, rfl⟩ : ∃ q, m = q + 1 := ⟨m - 1, by omega⟩
      rw [Q.jall, if_neg hok, List.map_nil, List.append_nil] at hx
      gi_wp2_with (refine ⟨trivial, ?_⟩; gi_at_call 170; refine (callsIn_wide.2 (jnext_calls A0 c0 l0 hb hs (a : Int) _ (Kd.F_now hF1) hc0)).mono ?_; rintro e w1 ⟨v, rfl, hR, hbb⟩; have hJ1 := hJ pre wr w1 none hJs ⟨hbb.os, hbb.tape, hbb.output, hbb.size, fun k hk _ => hbb.block k hk⟩ (fun r e => by cases e))
      refine ⟨fun _ h => (by cases h), ?_⟩
      gi_wp2
      refine bodyPost_ret (results_none rfl _ _ _) rfl ?_
      exact ⟨⟨_, rfl⟩, pre, hx, hJ1⟩
/-- A loop over the payloads, whose rounds all go on, and are told what they are handed. -/
theorem range_fct {n : Nat} {g : Operand} {ps : Array Tmp} {assign body : Code} {Q : Exit → Act → World → Prop} {a : Act} {w : World} (h1 : 1 ≤ n) {gf : Nat} {lb : Array Value} (hg : a.eval g = .func (.func gf) #[] lb)
    (eg : ∀ args w, (callFunc gf args).run Try.prog w = .ok (.enter gf args) w) {Kp : World → World → Prop} {S : List JX → Prop} {N : Nat} {w0 : World} (hseq : SeqF (n - 1) gf lb Kp S N w0)
    (hKt : ∀ {A B C : World}, Kp A B → Kp B C → Kp A C) (hKb : ∀ (W : World) (l : Nat) (o o' : Obj), w.heap.size ≤ l → W.heap[l]? = some o → o.isCells = false → o.isWalk = false → Kp W (W.putObj l o')) (hb0 : Below w0.heap.size w0 w) (hps : ∀ x, (jenc2 x).size = ps.size)
    (I : List JX → World → Prop) (hI : OwnFrom w.heap.size I) (h0 : I [] w) (Ax : List JX → JX → World → Prop) (hAx : ∀ pre x, OwnFrom w.heap.size (fun (_ : Unit) W => Ax pre x W)) (a₁ : JX → Act)
    (hfact : ∀ pre x Wr W1, I pre Wr → Below Wr.heap.size Wr W1 → Kd.R (Kd.int .u8) 5 W1 Wr.heap.size (fun _ => True) x.2.2 x.2.1 → Ax pre x W1)
    (hassign : ∀ (l : Nat) (x : JX) (W : World) (K : Act → World → Prop), K (a₁ x) W → assign.wpIn (Fence.wide.inRound l) (n - 1 - 1) Try.prog (Exit.then K (fun _ _ _ => False)) { tmps := (ps.zip (jenc2 x)).foldl (fun t (p, v) => t.setIfInBounds p v) a.tmps, defers := [] } W)
    (hbody : ∀ (l : Nat) (pre : List JX) (x : JX) (W : World), w.heap.size ≤ l → pre.length < N → Ax pre x W → body.wpIn (Fence.wide.inRound l) (n - 1 - 1) Try.prog (ownPostG w.heap.size Kp I (fun _ _ _ => False) (pre ++ [x]) W) (a₁ x) W)
    (hdone : ∀ (D : Nat) (xs : List JX) (W : World), w.heap.size ≤ D → S xs → I xs W → W.heap[D]? = some (.deferred (some [])) → Q .normal { a with defers := { target := .collected D, args := #[] } :: a.defers } W) :
    (Code.rangeFunc g ps assign body).wpIn Fence.wide n Try.prog Q a w := by
  refine wpIn_rangeFunc ?_
  intro fn hfn
  obtain ⟨rec, hrec⟩ : ∃ rec : LoopState → Option Code → Loop, rec = fun st pe => { state := st, pending := pe, fn, tmps := a.tmps, params := ps, assign, body, defers := w.heap.size } := ⟨_, rfl⟩
  obtain ⟨W1, hW1⟩ : ∃ W1, (w.alloc (.deferred (some []))).alloc (.loop (rec .ready none)) = W1 := ⟨_, rfl⟩
  have hL1 : W1.heap[w.heap.size + 1]? = some (.loop (rec .ready none)) := by
    rw [← hW1]; have := World.alloc_heap_new (w.alloc (.deferred (some []))) (.loop (rec .ready none)); rwa [World.size_alloc] at this
  have hK1 : W1.heap[w.heap.size]? = some (.deferred (some [])) := by
    rw [← hW1]; exact (Below.heap_alloc _ _ _ (by simp)).trans (World.alloc_heap_new w _)
  have hb1 : Below w0.heap.size w0 W1 := by
    rw [← hW1]; exact hb0.trans ((((Below.refl _ w).alloc (Nat.le_refl _) _).alloc (by simp) _).mono hb0.size)
  refine ⟨w.heap.size + 1, [{ target := .collected w.heap.size, args := #[] }], W1, { target := .fn (.func gf) lb, args := #[.func (.yield (w.heap.size + 1)) #[] #[]] }, W1, gf,
    #[.func (.yield (w.heap.size + 1)) #[] #[]] ++ lb, W1, ?_, ?_, ?_, ?_, fun _ => h1, ?_⟩
  · rw [← hW1, hrec]; exact run_enterLoop_outer _ _ _ _ _
  · simp only [resolve, hg]
    simp [go_sem]
  · intro f' _; trivial
  · simp [invoke, go_sem, eg]
  · have hnw : ∀ {A B : World} {row : Option Nat}, (∀ r, row = some r → W1.heap.size ≤ r ∧ ∃ o : Obj, A.heap[r]? = some o ∧ o.isWalk = true) → (∀ r, row = some r → w.heap.size ≤ r ∧ ∃ o : Obj, A.heap[r]? = some o ∧ o.isCells = false) :=
      fun hr r e => by obtain ⟨hB, o, ho, hw⟩ := hr r e; exact ⟨by rw [← hW1] at hB; simp at hB; omega, o, ho, Obj.not_cells_of_walk hw⟩
    refine (hseq (w.heap.size + 1) (fun pre W => I pre W ∧ W.heap[w.heap.size + 1]? = some (.loop (rec .ready none)) ∧ W.heap[w.heap.size]? = some (.deferred (some []))) W1 hb1
      (fun s A B row hs hg' hr => ⟨hI s A B row hs.1 hg' (hnw (B := B) hr), (grownBy_keeps hg' (fun r e => (hr r e).2) hs.2.1 rfl).trans hs.2.1, (grownBy_keeps hg' (fun r e => (hr r e).2) hs.2.2 rfl).trans hs.2.2⟩)
      ?_ ⟨by rw [← hW1]; exact hI.alloc _ (hI.alloc _ h0), hL1, hK1⟩).mono ?_
    · rintro pre x Wr Wa ⟨hi, hl0, hk0⟩ hbr hRr hlen
      have hl := (hbr.block _ (Array.getElem?_eq_some_iff.1 hl0).1).trans hl0
      have hk := (hbr.block _ (Array.getElem?_eq_some_iff.1 hk0).1).trans hk0
      have hax := hfact pre x Wr Wa hi hbr hRr
      have hy := run_yield (P := Try.prog) (args := jenc2 x) hl (by rw [hrec]; exact hps x)
      rw [hrec] at hy
      refine ⟨fn, _, assign, body, hy, roundIn_of_wpIn hfn (hassign _ x Wa _ ?_)⟩
      clear hy
      have hlt : w.heap.size + 1 < Wa.heap.size := (Array.getElem?_eq_some_iff.1 hl).1
      refine ⟨_, run_beginRound hl (by rw [hrec]), ?_⟩
      have hl2 : (Wa.putObj (w.heap.size + 1) (.loop { rec .ready none with state := .busy })).heap[w.heap.size + 1]? = some (.loop { rec .ready none with state := .busy }) := World.putObj_heap_same hlt
      have hk2 : (Wa.putObj (w.heap.size + 1) (.loop { rec .ready none with state := .busy })).heap[w.heap.size]? = some (.deferred (some [])) := (World.putObj_heap_other (by omega)).trans hk
      have hw2 : Kp Wa (Wa.putObj (w.heap.size + 1) (.loop { rec .ready none with state := .busy })) := hKb _ _ _ _ (by omega) hl rfl rfl
      refine wpIn_mono (hbody _ pre x _ (by omega) hlen ((hAx pre x).putObj (s := ()) _ hax (by omega) hl rfl)) ?_
      rintro e a3 W3 hp
      cases e with
      | normal =>
        obtain ⟨hk3, hkp3, hi3⟩ := hp
        have hl3 := hk3.same _ _ (by omega) hl2 rfl
        have hr : (Instr.endRound (w.heap.size + 1) none).run Try.prog W3 = .ok (.bool true) (W3.putObj (w.heap.size + 1) (.loop (rec .ready none))) := by
          have := run_endRound (P := Try.prog) none hl3
          rw [hrec] at this ⊢
          exact this
        exact ⟨_, _, hr, rfl, ⟨hI.putObj _ hi3 (by omega) hl3 rfl, World.putObj_heap_same (Array.getElem?_eq_some_iff.1 hl3).1, (World.putObj_heap_other (by omega)).trans (hk3.same _ _ (Nat.le_refl _) hk2 rfl)⟩, hKt (hKt hw2 hkp3) (hKb _ _ _ _ (by omega) hl3 rfl rfl)⟩
      | ret => exact hp.2.elim
      | exit id => exact hp.2.elim
      | goto t => exact hp.2.elim
      | panic ch => exact hp.elim
      | outgrown => exact hp.elim
    · rintro e W2 ⟨⟨v, rfl⟩, xs, hS, hi, hl, hk⟩
      exact ⟨none, _, by have := run_endLoop (P := Try.prog) hl (by rw [hrec]; simp); rw [hrec] at this; exact this, hdone _ xs _ (Nat.le_refl _) hS (hI.putObj _ hi (by omega) hl rfl) ((World.putObj_heap_other (by omega)).trans hk)⟩
open Go.Proofs.YtoeabgeglgiobaaW.PrintWords in
/-- A row collected by an append in a round. -/
theorem S_append_In {F : Fence} {nF : Nat} {P : Program} {ops : Array Oper} {rest : List Oper} {o : Oper} {a : Act} {Q : Exit → Act → World → Prop} {α : Type} (d : Kd α) {w0 W : World} (base : Nat) (hgd : o.guard = none) (s x : Operand) (t e : TypeId) (z : Value) (bytes : Nat)
    (ho : o.op = .call { callee := .builtin .append, args := #[s, x], argTypes := #[t, t] })
    (ht : P.underlying t = some (.slice e)) (hinfo : (P.info? e).map (fun i => (i.zero, i.size, i.bytes)) = some (some z, d.sz, bytes)) (hz : z.cells.size = d.sz) (hs0 : 0 < d.sz) (hb0 : 0 < bytes)
    (v : Value) (xs : List α) (p : α) (cs : List Value) (ok okp : Nat → Prop) (hs : a.eval s = v) (hx : a.eval x = .slice (some ⟨W.heap.size, 0, none⟩) 1 1) (hp : d.M W base okp p cs) (hokp : ∀ k, okp k → ok k ∧ some k ≠ v.ownBlock) (hfresh : ∀ k, W.heap.size ≤ k → ok k)
    (HO : Kd.S d e W base (fun k => ok k ∧ ¬ okp k) v xs) (HB : Below base w0 W) (hbase : base ≤ W.heap.size) (hl : (xs.length + 1) * bytes ≤ 140737488355328)
    (h : ∀ v1 w1, Kd.S d e w1 base ok v1 (xs ++ [p]) → Below base w0 w1 → W.grownBy w1 v.ownBlock → wpListIn F nF P ops Q rest (a.put o.dst v1) w1) :
    wpListIn F nF P ops Q (o :: rest) a (W.alloc (.cells cs.toArray e)) := by
  refine wpListIn_plain hgd fun K hK => append_in ho ?_
  have hw : Region.wanted o (yielded ops a.tmps) = true := by simp [Region.wanted, hgd]
  have := Kd.S_append_step (P := P) (ops := ops) (Kc := K) (Q := fun _ _ _ => False) d base hw s x t e z bytes ho ht hinfo hz hs0 hb0 v xs p cs ok okp hs hx hp hokp hfresh HO HB hbase hl (fun v1 w1 a1 a2 a3 _ => hK _ _ (h v1 w1 a1 a2 a3))
  rw [if_pos hw] at this
  exact this
theorem S_own {α : Type} {d : Kd α} {e base : Nat} {ok : Nat → Prop} {v : Value} {xs : List α} {A B : World} {row : Option Nat} (h : Kd.S d e A base ok v xs) (hg : A.grownBy B row) (hr : ∀ r, row = some r → ∃ o : Obj, A.heap[r]? = some o ∧ o.isCells = false) : Kd.S d e B base ok v xs :=
  Kd.S_mono (Kd.S_grown (Kd.S_bound h) hg (fun k hk e => by
    obtain ⟨_, _, _, q, _, cells, hc⟩ := hk
    obtain ⟨o, ho, hn⟩ := hr k e.symm
    rw [hc] at ho
    cases ho
    cases hn)) (fun _ hk => hk.1)
theorem R_own_ {α : Type} {d : Kd α} {e base : Nat} {ok : Nat → Prop} {v : Value} {xs : List α} {A B : World} {row : Option Nat} (h : Kd.R d e A base ok v xs) (hg : A.grownBy B row) (hr : ∀ r, row = some r → ∃ o : Obj, A.heap[r]? = some o ∧ o.isCells = false) : Kd.R d e B base ok v xs :=
  Kd.R_mono (Kd.R_grown (Kd.R_bound h) hg (fun k hk e => by
    obtain ⟨_, _, _, q, _, cells, hc⟩ := hk
    obtain ⟨o, ho, hn⟩ := hr k e.symm
    rw [hc] at ho
    cases ho
    cases hn)) (fun _ hk => hk.1)
def journal_All.f (l0 : List Int) : Option (List (List Int)) := if l0.length ≤ 1000000 ∧ (∀ x ∈ l0, 0 ≤ x ∧ x < 256) then some ((Q.jall l0 (l0.length + 1) 0).map (·.2)) else none
set_option maxHeartbeats 8000000 in
set_option maxRecDepth 100000 in
theorem journal_All.calls (A0 : Option Addr) (c0 : Nat) (l0 : List Int) (r : List (List Int)) (w : World) (hr0 : Kd.C (Kd.int .u8) w A0 l0.length l0) (hc0 : l0.length ≤ c0) (h : journal_All.f l0 = some r) :
    Calls Try.prog 98 #[.slice A0 l0.length c0] w fun e w' => ∃ v0_ : Value, e = .returned (v0_) ∧ Kd.S (Kd.slice 5 (Kd.int .u8)) 24 w' w.heap.size (fun _ => True) v0_ r ∧ Below w.heap.size w w' := by
  unfold journal_All.f at h
  split at h
  · rename_i hh
    obtain ⟨hs, hb⟩ := hh
    obtain rfl := Option.some.inj h
    clear h
    refine callsIn_wide (n := 3).1 ?_
    refine callsIn_of_wp_marks Try.func98 rfl trivial ?_ rfl
    simp only [Try.ntmps98, List.size_toArray, List.length_cons, List.length_nil, Nat.reduceAdd, Nat.reduceSub, Array.replicate_succ, Array.replicate_zero, List.push_toArray, List.append_toArray, List.nil_append, List.cons_append]
    gi_wp2_with (refine ⟨trivial, ?_⟩; gi_at_call 169; refine (callsIn_wide.2 (payloads.calls _ _ _ _)).mono ?_; rintro e w' ⟨rfl, rfl⟩)
    have hF0 : Kd.F (Kd.int .u8) w (fun k => k < w.heap.size) A0 l0.length l0 := Kd.C_F (Kd.heap_int .u8) hr0
    generalize hw2 : (w.alloc (Obj.cells #[Value.slice none 0 0] 90)).alloc (Obj.cells #[Value.slice A0 l0.length c0] 24) = w2
    have hb2 : Below w.heap.size w w2 := by rw [← hw2]; exact ((Below.refl _ w).alloc (Nat.le_refl _) _).alloc (by simp) _
    have hs2 : w2.heap.size = w.heap.size + 2 := by rw [← hw2]; simp
    have hc1 : w2.cell? ⟨w.heap.size, 0, none⟩ = some (.slice none 0 0) := by rw [← hw2]; simp
    have hc2 : w2.cell? ⟨w.heap.size + 1, 0, none⟩ = some (.slice A0 l0.length c0) := by rw [← hw2]; simp
    have hf1 : w2.frozen? ⟨w.heap.size, 0, none⟩ = false := by rw [← hw2]; simp
    have hF2 : Kd.F (Kd.int .u8) w2 (fun k => k < w.heap.size) A0 l0.length l0 := Kd.F_step hF0 (fun k hk _ => hb2.block k hk)
    generalize hbn : w.heap.size = b at *
    refine range_fct (by omega) (gf := 201) (lb := #[.pointer (some ⟨b + 1, 0, none⟩)]) rfl (enters_of Try.func201 (by kernel_rfl) rfl)
      (payloads_facts (3 - 1) (by omega) (b + 1) b A0 c0 l0 hb hs hc0 w2 (by omega) (by omega) hc2 hF2) KB.t
      (fun W l o o' hl ho _ _ => ⟨(Below.refl _ W).grown (grownBy_putObj' W l o') (by have := (Array.getElem?_eq_some_iff.1 ho).1; omega) (fun k e => by cases e; omega), World.putObj_heap_other (by omega)⟩)
      (Below.refl _ _) (fun _ => rfl)
      (fun pre W => ∃ v, W.cell? ⟨b, 0, none⟩ = some v ∧ W.frozen? ⟨b, 0, none⟩ = false ∧ Kd.S (Kd.slice 5 (Kd.int .u8)) 24 W b (fun k => k ≠ b ∧ k ≠ b + 1) v (pre.map (fun x => x.2.1)) ∧ Below b w W ∧ b + 2 ≤ W.heap.size) ?hI ⟨_, hc1, hf1, Kd.S_nil _ _ _ _ _, hb2, by omega⟩
      (fun pre x W => ∃ v M, W.cell? ⟨b, 0, none⟩ = some v ∧ W.frozen? ⟨b, 0, none⟩ = false ∧ b + 2 ≤ M ∧ M ≤ W.heap.size ∧ Kd.S (Kd.slice 5 (Kd.int .u8)) 24 W b (fun k => (k ≠ b ∧ k ≠ b + 1) ∧ k < M) v (pre.map (fun x => x.2.1)) ∧ Kd.R (Kd.int .u8) 5 W b (fun k => M ≤ k) x.2.2 x.2.1 ∧ Below b w W) ?hAx
      (fun x => { tmps := #[.slice A0 l0.length c0, undef, .pointer (some ⟨b, 0, none⟩), undef, x.2.2, .slice A0 l0.length c0, .func (.func 201) #[] #[.pointer (some ⟨b + 1, 0, none⟩)], .int .i64 x.1, x.2.2, undef, undef, undef, undef, undef], defers := [] }) ?hfact ?assign ?body ?done
    case hI =>
      rintro s A B row ⟨v, h1, h2, h3, h4, h5⟩ hg hr
      exact ⟨v, cell_kept h1 hg (fun r e => (hr r e).2), (frozen_kept h1 hg (fun r e => (hr r e).2)).trans h2, S_own h3 hg (fun r e => (hr r e).2), h4.grown hg (by omega) (fun k e => by have := (hr k e).1; omega), Nat.le_trans h5 hg.size⟩
    case hAx =>
      rintro pre x s A B row ⟨v, M, h1, h2, h3, h4, h5, h6, h7⟩ hg hr
      exact ⟨v, M, cell_kept h1 hg (fun r e => (hr r e).2), (frozen_kept h1 hg (fun r e => (hr r e).2)).trans h2, h3, Nat.le_trans h4 hg.size, S_own h5 hg (fun r e => (hr r e).2), R_own_ h6 hg (fun r e => (hr r e).2), h7.grown hg (by omega) (fun k e => by have := (hr k e).1; omega)⟩
    case hfact =>
      rintro pre x Wr W1 ⟨v, h1, h2, h3, h4, h5⟩ hbr hR
      have hlt : b < Wr.heap.size := by omega
      refine ⟨v, Wr.heap.size, (hbr.cell (p := ⟨b, 0, none⟩) hlt).trans h1, ?_, h5, hbr.size, Kd.S_below (Kd.S_mono (Kd.S_bound h3) (fun _ hk => ⟨hk.1, hk.2.2.1⟩)) hbr, Kd.R_lower (Kd.R_mono (Kd.R_bound hR) (fun _ hk => hk.2.1)) (by omega), h4.trans (hbr.mono (by omega))⟩
      rw [World.frozen?_of_block (a := ⟨b, 0, none⟩) (hbr.block b hlt)]
      exact h2
    case assign =>
      intro l x W K hK
      gi_wp2
      exact hK
    case body =>
      rintro l pre ⟨nx, py, vx⟩ W hl hlen ⟨v, M, h1, h2, h3, h4, h5, h6, h7⟩
      simp only at h6
      have hyl : (pre.map (fun x => x.2.1)).length = pre.length := List.length_map _
      obtain ⟨ys, hys⟩ : ∃ ys, pre.map (fun x => x.2.1) = ys := ⟨_, rfl⟩
      rw [hys] at h5 hyl
      have hnew : (pre ++ [((nx, py, vx) : JX)]).map (fun x => x.2.1) = ys ++ [py] := by rw [List.map_append, hys]; rfl
      have HN := Go.Proofs.YtoeabgeglgiobaaW.PrintWords.Aside0.mk hnew
      have hlim : (ys.length + 1) * 24 ≤ 140737488355328 := by omega
      have HL := Go.Proofs.YtoeabgeglgiobaaW.PrintWords.Aside0.mk hlim
      clear hnew hys hyl hlim
      obtain ⟨Ax, cx, rfl⟩ := Kd.R_slice h6
      obtain ⟨Av, cv, rfl⟩ := Kd.S_slice h5
      have hown : ∀ k, (Value.slice Av ys.length cv).ownBlock = some k → (k ≠ b ∧ k ≠ b + 1) ∧ k < M := fun k hk => (Kd.S_R h5).1 k hk
      have hlb : b < W.heap.size := by omega
      have htyp := Kd.S_typed h5
      gi_wp2_with (gi_at_builtin; refine S_append_In (Kd.slice 5 (Kd.int .u8)) (w0 := w) b rfl (.tmp 9) (.tmp 11) 90 24 (.slice none 0 0) 24 rfl Try.underlying90 info24 rfl (by decide) (by omega) (.slice Av ys.length cv) ys py [.slice Ax py.length cx] (fun k => k ≠ b ∧ k ≠ b + 1) (fun k => M ≤ k) rfl rfl (Kd.M_row h6) (fun k hk => ⟨⟨by omega, by omega⟩, fun e => by have := (hown k e.symm).2; omega⟩) (fun k hk => ⟨by omega, by omega⟩) (Kd.S_mono h5 (fun k hk => ⟨hk.1, by have := hk.2; omega⟩)) h7 (by omega) HL.out ?_; intro v1 w1 ho hb1 hg; obtain ⟨A1, c1, rfl⟩ := Kd.S_slice ho; have hne : some b ≠ (Value.slice Av ys.length cv).ownBlock := (fun e => (hown b e.symm).1.1 rfl); have hblk := hg.block b hlb hne; have hcell1 := (World.cell?_of_block (a := ⟨b, 0, none⟩) hblk).trans h1; have hfr1 := (World.frozen?_of_block (a := ⟨b, 0, none⟩) hblk).trans h2)
      have hbase := Kd.S_base h5
      have hl1 : (ys ++ [py]).length = ys.length + 1 := by simp
      rw [hl1] at ho
      have hkf : KeepsFrom w2.heap.size W (w1.setCell ⟨b, 0, none⟩ (.slice A1 (ys.length + 1) c1)) := KeepsFrom.trans ⟨hg.size, fun k o _ hk hn => (hg.block k (Array.getElem?_eq_some_iff.1 hk).1 (fun e => by
        obtain ⟨cells, hc⟩ := htyp k e.symm
        rw [hc] at hk
        cases hk
        cases hn)).trans hk⟩ ((KeepsOthers.setCell _ _ _).from _)
      have hsz := hkf.size
      exact ⟨hkf, ⟨((Below.refl b W).grown hg (by omega) (fun k e => hbase k e)).setCell (p := ⟨b, 0, none⟩) (Nat.le_refl _) _, (Below.heap_setCell w1 ⟨b, 0, none⟩ _ (b + 1) (by simp)).trans (hg.block (b + 1) (by omega) (fun e => (hown (b + 1) e.symm).1.2 rfl))⟩,
        _, World.cell?_setCell_same' _ _ _ (by rw [hcell1]; rfl), by rw [World.frozen?_setCell]; exact hfr1, by rw [HN.out]; exact Kd.S_far (p := ⟨b, 0, none⟩) ho (fun k hk => hk.1) _, hb1.setCell (p := ⟨b, 0, none⟩) (Nat.le_refl _) _, by omega⟩
    case done =>
      rintro D xs W hD hS ⟨v, h1, h2, h3, h4, h5⟩ hK
      rw [hS] at h3
      obtain ⟨ys, hys⟩ : ∃ ys, (Q.jall l0 (l0.length + 1) 0).map (·.2) = ys := ⟨_, rfl⟩
      rw [hys] at h3
      obtain ⟨Av, cv, rfl⟩ := Kd.S_slice h3
      gi_wp2
      have hK' := (KeepsOthers.setCell W ⟨b, 0, none⟩ (.slice Av ys.length cv)).same D _ hK rfl
      refine ⟨by simp, .inl ⟨_, _, rfl, run_takeDeferred hK', ?_⟩⟩
      have hc5 := cell_kept (World.cell?_setCell_same' W ⟨b, 0, none⟩ (.slice Av ys.length cv) (by rw [h1]; rfl)) (grownBy_putObj' _ D (.deferred none)) (fun r e => by cases e; exact ⟨_, hK', rfl⟩)
      refine ⟨.slice Av ys.length cv, ?_, _, rfl, ?_, ?_⟩
      · simp [results, Try.f98, go_sem, hc5]
      · rw [hbn, hys]
        exact Kd.S_mono (S_own (Kd.S_far (p := ⟨b, 0, none⟩) h3 (fun k hk => hk.1) _) (grownBy_putObj' _ D (.deferred none)) (fun r e => by cases e; exact ⟨_, hK', rfl⟩)) (fun _ _ => trivial)
      · rw [hbn]
        have hbS := h4.setCell (p := ⟨b, 0, none⟩) (Nat.le_refl _) (.slice Av ys.length cv)
        exact hbS.grown (grownBy_putObj' _ D (.deferred none)) (by have := (Array.getElem?_eq_some_iff.1 hK').1; omega) (fun k e => by cases e; omega)
  · cases h
end Go.Proofs.Ytoeabgeglgiobaa.P
