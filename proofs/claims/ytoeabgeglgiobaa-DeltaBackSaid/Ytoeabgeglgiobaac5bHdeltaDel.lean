/- Edits are struck out of a row of the call's own: what slices.DeleteFunc leaves. Its conditions: those of each theorem. -/
import Derived.Test.Ytoeabgeglgiobaac5bHdeltaRight
import Derived.Lib.SliceRun
namespace Go.Proofs.Ytoeabgeglgiobaa.P
open Go.RowKit Go.Proofs.YtoeabgeglgiobaaW.PrintWords Go.Proofs.YtoeabgeglgiobaaW.PrintLast Go.Proofs.YtoeabgeglgiobaaW.PrintMore
set_option linter.unusedVariables false
/-- Edits as cells. -/
def fl : List S153 → List Value
  | [] => []
  | x :: l => .int .u8 x.f0 :: .int .i64 x.f1 :: .string x.f2 :: fl l
theorem fl_len : ∀ l, (fl l).length = 3 * l.length
  | [] => rfl
  | x :: l => by simp only [fl, List.length_cons, fl_len l]; omega
theorem fl_get (l : List S153) : ∀ (k : Nat), k < l.length → (fl l)[k * 3]? = some (.int .u8 (rd_T153 l (k : Int)).f0) ∧ (fl l)[k * 3 + 1]? = some (.int .i64 (rd_T153 l (k : Int)).f1) ∧ (fl l)[k * 3 + 2]? = some (.string (rd_T153 l (k : Int)).f2) := by
  induction l with
  | nil => intro k h; simp at h
  | cons x l ih =>
    intro k h
    cases k with
    | zero => exact ⟨rfl, rfl, rfl⟩
    | succ k =>
      have := ih k (by simpa using h)
      have e : rd_T153 (x :: l) ((k + 1 : Nat) : Int) = rd_T153 l (k : Int) := by simp [rd_T153, List.getD]
      rw [e, show (k + 1) * 3 = k * 3 + 3 by omega, show k * 3 + 3 + 1 = (k * 3 + 1) + 3 by omega, show k * 3 + 3 + 2 = (k * 3 + 2) + 3 by omega]
      exact this
theorem fl_set (x : S153) : ∀ (l : List S153) (k : Nat), k < l.length → fl (l.set k x) = (((fl l).set (k * 3) (.int .u8 x.f0)).set (k * 3 + 1) (.int .i64 x.f1)).set (k * 3 + 2) (.string x.f2) := by
  intro l
  induction l with
  | nil => intro k h; simp at h
  | cons y l ih =>
    intro k h
    cases k with
    | zero => rfl
    | succ k =>
      have := ih k (by simpa using h)
      rw [List.set_cons_succ, fl, this, show (k + 1) * 3 = k * 3 + 3 by omega, show k * 3 + 3 + 1 = (k * 3 + 1) + 3 by omega, show k * 3 + 3 + 2 = (k * 3 + 2) + 3 by omega]
      rfl
/-- What a round's head holds: the first i of the row are those of the first j that stay, from j on nothing has turned. -/
structure DlR (p : S153 → Bool) (xs ys : List S153) (i j g : Nat) (w wr : World) : Prop where
  len : ys.length = xs.length
  ij : i ≤ j
  jn : j ≤ xs.length
  head : ys.take i = (xs.take j).filter fun x => !p x
  tail : ys.drop j = xs.drop j
  blk : wr.heap[g]? = some (.cells (fl ys).toArray 153 (0, 0))
  grown : w.grownBy wr (some g)
theorem DlR.cellF {p : S153 → Bool} {xs ys : List S153} {i j g : Nat} {w wr : World} (h : DlR p xs ys i j g w wr) (k : Nat) (hk : k < xs.length) :
    wr.cell? ⟨g, k * 3, none⟩ = some (.int .u8 (rd_T153 ys (k : Int)).f0) ∧ wr.cell? ⟨g, k * 3 + 1, none⟩ = some (.int .i64 (rd_T153 ys (k : Int)).f1) ∧ wr.cell? ⟨g, k * 3 + 2, none⟩ = some (.string (rd_T153 ys (k : Int)).f2) := by
  have := fl_get ys k (by rw [h.len]; exact hk)
  refine ⟨?_, ?_, ?_⟩
  · rw [blk_cell h.blk]; simpa using this.1
  · rw [blk_cell h.blk]; simpa using this.2.1
  · rw [blk_cell h.blk]; simpa using this.2.2
theorem idxP_spec (p : S153 → Bool) : ∀ (l : List S153) (i : Nat), (idxP p l i = -1 ∧ (l.filter fun x => !p x) = l) ∨ ∃ k, k < l.length ∧ idxP p l i = ((i + k : Nat) : Int) ∧ p (rd_T153 l (k : Int)) = true ∧ (l.take k).filter (fun x => !p x) = l.take k
  | [], _ => .inl ⟨rfl, rfl⟩
  | x :: l, i => by
    by_cases h : p x = true
    · exact .inr ⟨0, by simp, by rw [idxP, if_pos h]; simp, h, rfl⟩
    · have hf : p x = false := by simpa using h
      rcases idxP_spec p l (i + 1) with ⟨e, hl⟩ | ⟨k, hk, e, hp, hl⟩
      · exact .inl ⟨by rw [idxP, if_neg h, e], by rw [List.filter_cons]; simp [hf, hl]⟩
      · refine .inr ⟨k + 1, by simpa using hk, by rw [idxP, if_neg h, e]; congr 1; omega, ?_, ?_⟩
        · have e : rd_T153 (x :: l) ((k + 1 : Nat) : Int) = rd_T153 l (k : Int) := by simp [rd_T153, List.getD]
          rw [e]; exact hp
        · rw [List.take_succ_cons, List.filter_cons]; simp [hf, hl]
theorem grown_setCell (w : World) (b o : Nat) (v : Value) : w.grownBy (w.setCell ⟨b, o, none⟩ v) (some b) :=
  ⟨rfl, rfl, rfl, by simp [World.setCell], fun k _ hk => Below.heap_setCell _ _ _ _ (fun e => hk (by simp [e]))⟩
theorem grown_setCells (b : Nat) : ∀ (vs : List Value) (o : Nat) (w : World), w.grownBy (w.setCells b o vs) (some b)
  | [], _, w => ⟨rfl, rfl, rfl, Nat.le_refl _, fun _ _ _ => rfl⟩
  | v :: r, o, w => (grown_setCell w b o v).trans (grown_setCells b r (o + 1) _)
theorem run_clear153 (w : World) (ty : TypeId) (b o n c : Nat) (hn : 0 < n) (hc : ∀ j, j < n * 3 → (w.cell? ⟨b, o + j, none⟩).isSome = true) (hf : ∀ j, j < n * 3 → w.frozen? ⟨b, o + j, none⟩ = false) :
    (Builtin.clear_ #[133] ty #[.slice (some ⟨b, o, none⟩) n c]).run Try.prog w = .ok (.tuple #[]) (w.setCells b o (Builtin.zeroCells #[Value.int .u8 0, .int .i64 0, .string ⟨#[]⟩] n).toList) := by
  have hz : ∀ v ∈ (Builtin.zeroCells #[Value.int .u8 0, .int .i64 0, .string ⟨#[]⟩] n).toList, v.oneCell' = true := by
    intro v hv
    simp only [Builtin.zeroCells, Array.toList_map, List.mem_map] at hv
    obtain ⟨k, _, rfl⟩ := hv
    have : k % (#[Value.int .u8 0, .int .i64 0, .string ⟨#[]⟩] : Array Value).size < 3 := Nat.mod_lt _ (by decide)
    generalize k % (#[Value.int .u8 0, .int .i64 0, .string ⟨#[]⟩] : Array Value).size = q at this
    match q, this with
    | 0, _ => rfl
    | 1, _ => rfl
    | 2, _ => rfl
  have hlen : (Builtin.zeroCells #[Value.int .u8 0, .int .i64 0, .string ⟨#[]⟩] n).toList.length = n * 3 := by simp [Builtin.zeroCells]
  have hst := run_storeCells_cells (P := Try.prog) b o _ 0 w (by rw [hlen]; simpa using hc) (by rw [hlen]; simpa using hf) hz
  simp only [Nat.add_zero] at hst
  have hv : (zeroValue 153).run Try.prog w = .ok (.agg #[Value.int .u8 0, .int .i64 0, .string ⟨#[]⟩]) w := by kernel_rfl
  have hcl : (Value.agg #[Value.int .u8 0, .int .i64 0, .string ⟨#[]⟩]).cells = #[Value.int .u8 0, .int .i64 0, .string ⟨#[]⟩] := rfl
  obtain ⟨m, rfl⟩ : ∃ m, n = m + 1 := ⟨n - 1, by omega⟩
  simp [Builtin.clear_, run_underlying Try.underlying133, hv, hcl, hst]
theorem rd153_get (l : List S153) (k : Nat) (h : k < l.length) : rd_T153 l (k : Int) = l[k] := by simp [rd_T153, List.getD, h]
theorem tail_get {xs ys : List S153} {j : Nat} (h : ys.drop j = xs.drop j) (hl : ys.length = xs.length) (hj : j < xs.length) : rd_T153 ys (j : Int) = rd_T153 xs (j : Int) := by
  rw [rd153_get ys j (by omega), rd153_get xs j hj]
  have e1 := List.drop_eq_getElem_cons (l := ys) (i := j) (by omega)
  have e2 := List.drop_eq_getElem_cons (l := xs) (i := j) hj
  rw [e1, e2] at h
  exact (List.cons.inj h).1
theorem tail_next {xs ys : List S153} {j : Nat} (h : ys.drop j = xs.drop j) : ys.drop (j + 1) = xs.drop (j + 1) := by
  rw [← List.drop_drop, ← List.drop_drop, h]
theorem DlR.skip {p : S153 → Bool} {xs ys : List S153} {i j g : Nat} {w wr w2 : World} (h : DlR p xs ys i j g w wr) (hj : j < xs.length) (hp : p (rd_T153 ys (j : Int)) = true) (hb : Below wr.heap.size wr w2) : DlR p xs ys i (j + 1) g w w2 := by
  refine ⟨h.len, Nat.le_succ_of_le h.ij, hj, ?_, tail_next h.tail, blk_below h.blk hb, h.grown.trans (grown_of_below hb _)⟩
  have e := tail_get h.tail h.len hj
  rw [rd153_get xs j hj] at e
  rw [List.take_succ_eq_append_getElem hj, List.filter_append, ← h.head, ← e]
  simp [hp]
theorem DlR.keep {p : S153 → Bool} {xs ys : List S153} {i j g : Nat} {w wr w2 : World} (h : DlR p xs ys i j g w wr) (hij : i < j) (hj : j < xs.length) (y : S153) (hy : y = rd_T153 ys (j : Int)) (hp : p y = false) (hb : Below wr.heap.size wr w2) :
    DlR p xs (ys.set i y) (i + 1) (j + 1) g w (((w2.setCell ⟨g, i * 3, none⟩ (.int .u8 y.f0)).setCell ⟨g, i * 3 + 1, none⟩ (.int .i64 y.f1)).setCell ⟨g, i * 3 + 2, none⟩ (.string y.f2)) := by
  have hl := h.len
  refine ⟨by rw [List.length_set, hl], by omega, hj, ?_, ?_, ?_, (((h.grown.trans (grown_of_below hb _)).trans (grown_setCell _ _ _ _)).trans (grown_setCell _ _ _ _)).trans (grown_setCell _ _ _ _)⟩
  · have e := tail_get h.tail h.len hj
    rw [rd153_get xs j hj, ← hy] at e
    rw [List.take_succ_eq_append_getElem (by rw [List.length_set]; omega), List.take_set_of_le (Nat.le_refl _), List.getElem_set_self, h.head, List.take_succ_eq_append_getElem hj, List.filter_append, ← e]
    simp [hp]
  · rw [List.drop_set_of_lt (by omega), tail_next h.tail]
  · have b0 := blk_below h.blk hb
    have st : ∀ (W : World) (cs : Array Value) (o : Nat) (v : Value), W.heap[g]? = some (.cells cs 153 (0, 0)) → (W.setCell ⟨g, o, none⟩ v).heap[g]? = some (.cells (cs.setIfInBounds o v) 153 (0, 0)) := fun W cs o v k => heap_setCell_same _ _ _ _ _ _ k
    have b1 := st w2 _ (i * 3) (.int .u8 y.f0) b0
    have b2 := st _ _ (i * 3 + 1) (.int .i64 y.f1) b1
    have b3 := st _ _ (i * 3 + 2) (.string y.f2) b2
    rw [b3, fl_set y ys i (by omega)]
    simp
set_option maxHeartbeats 4000000 in
set_option maxRecDepth 100000 in
theorem slices_DeleteFunc153.calls (gf : Nat) (p : S153 → Bool) (hP : Pred153 gf p) (hg : Ent gf) (g : Nat) (xs : List S153) (hn : xs.length ≤ 1000) (w : World) (hb : w.heap[g]? = some (.cells (fl xs).toArray 153 (0, 0))) :
    Calls Try.prog 184 #[.slice (some ⟨g, 0, none⟩) xs.length xs.length, .func (.func gf) #[] #[]] w fun e w' => e = .returned (.slice (some ⟨g, 0, none⟩) (xs.filter fun x => !p x).length xs.length) ∧ Kd.C k153 w' (some ⟨g, 0, none⟩) (xs.filter fun x => !p x).length (xs.filter fun x => !p x) ∧ w.grownBy w' (some g) := by
  have hen : ∀ (args : Array Value) (W : World), (callFunc gf args).run Try.prog W = .ok (.enter gf args) W := hg
  have hu153 := Try.underlying153
  have hu133 := Try.underlying133
  have hgl : g < w.heap.size := by
    rcases Nat.lt_or_ge g w.heap.size with h' | h'
    · exact h'
    · simp [Array.getElem?_eq_none h'] at hb
  have mkC : ∀ (ys : List S153) (W : World) (m : Nat), m ≤ ys.length → ys.length ≤ 1000 → (∀ k, k < m → W.cell? ⟨g, k * 3, none⟩ = some (.int .u8 (rd_T153 ys (k : Int)).f0) ∧ W.cell? ⟨g, k * 3 + 1, none⟩ = some (.int .i64 (rd_T153 ys (k : Int)).f1) ∧ W.cell? ⟨g, k * 3 + 2, none⟩ = some (.string (rd_T153 ys (k : Int)).f2)) → Kd.C k153 W (some ⟨g, 0, none⟩) m (ys.take m) := by
    intro ys W m hm hl hcell
    refine ⟨by simp; omega, by omega, fun _ => ⟨_, rfl, fun j q hj => ?_⟩⟩
    have hjm : j < m := by have := (List.getElem?_eq_some_iff.1 hj).1; simp at this; omega
    have hq : q = rd_T153 ys (j : Int) := by
      rw [List.getElem?_take, if_pos hjm] at hj
      simp [rd_T153, List.getD, hj]
    subst hq
    obtain ⟨k0, k1, k2⟩ := hcell j hjm
    refine ⟨_, rfl, k153_mk W _, fun i u hi => ?_⟩
    have e : ∀ n, (⟨g, 0, none⟩ : Addr).add n = ⟨g, n, none⟩ := fun n => by unfold Addr.add; split <;> simp_all
    have hsz : k153.sz = 3 := rfl
    rw [e, hsz]
    match i, hi with
    | 0, hi => obtain rfl := Option.some.inj hi; exact k0
    | 1, hi => obtain rfl := Option.some.inj hi; exact k1
    | 2, hi => obtain rfl := Option.some.inj hi; exact k2
  have H0 : DlR p xs xs 0 0 g w w := ⟨rfl, Nat.le_refl _, Nat.zero_le _, by simp, rfl, hb, World.grownBy.refl _ _⟩
  have HC0 : Aside0 (Kd.C k153 w (some ⟨g, 0, none⟩) xs.length xs) := ⟨by
    have := mkC xs w xs.length (Nat.le_refl _) hn (fun k hk => H0.cellF k hk)
    rwa [List.take_length] at this⟩
  have HP := Aside0.mk hP
  have HB := Aside0.mk hb
  have HMK := Aside0.mk mkC
  have HG := Aside0.mk hgl
  clear hg mkC H0 hP hb hgl
  rcases idxP_spec p xs 0 with ⟨e1, e2⟩ | ⟨i0, hi0, e1, ep, e2⟩
  · have E2 := Aside0.mk e2
    have E1 := Aside0.mk e1
    clear e1 e2
    go_enter Try.func184, Try.ntmps184
    go_wp2_with (go_at_call 203; (refine (slices_IndexFunc153.calls gf p HP.out hen (some ⟨g, 0, none⟩) xs.length xs _ HC0.out (Nat.le_refl _)).mono ?_); rintro e w1 ⟨rfl, hb⟩; rw [E1.out]; have HB1 := Aside0.mk hb; clear hb)
    go_ret
    rw [E2.out]
    exact ⟨rfl, Kd.C_below HC0.out HB1.out, grown_of_below HB1.out _⟩
  · rw [Nat.zero_add] at e1
    have E2 := Aside0.mk e2
    have E1 := Aside0.mk e1
    have EP := Aside0.mk ep
    have hne : (((i0 : Nat) : Int) == -1) = false := by rw [beq_eq_false_iff_ne]; omega
    clear e1 e2 ep
    go_enter Try.func184, Try.ntmps184
    go_wp2_with (go_at_call 203; (refine (slices_IndexFunc153.calls gf p HP.out hen (some ⟨g, 0, none⟩) xs.length xs _ HC0.out (Nat.le_refl _)).mono ?_); rintro e w1 ⟨rfl, hb⟩; rw [E1.out]; have HB1 := Aside0.mk hb; clear hb)
    go_loopw [5, 6] (fun i j wr => ∃ (ys : List S153) (ni nj : Nat), i = .int .i64 ni ∧ j = .int .i64 nj ∧ ni < nj ∧ nj ≤ xs.length ∧ Aside0 (DlR p xs ys ni nj g w wr)) (fun _ j _ => xs.length - (intOf j).toNat)
    case atStart =>
      refine ⟨xs, i0, i0 + 1, rfl, by go_num, by omega, by omega, ⟨⟨rfl, by omega, by omega, ?_, rfl, blk_below HB.out HB1.out, grown_of_below HB1.out _⟩⟩⟩
      have hx : xs[i0] = rd_T153 xs (i0 : Int) := by simp [rd_T153, List.getD, hi0]
      rw [List.take_succ_eq_append_getElem hi0, List.filter_append, E2.out, hx]
      simp [EP.out]
    case round =>
      obtain ⟨ys, ni, nj, rfl, rfl, hij, hjn, HD⟩ := hrel
      by_cases hlt : nj < xs.length
      · obtain ⟨c0, c1, c2⟩ := HD.out.cellF nj hlt
        obtain ⟨d0, d1, d2⟩ := HD.out.cellF ni (by omega)
        obtain ⟨y, hy⟩ : ∃ y, y = rd_T153 ys (nj : Int) := ⟨_, rfl⟩
        have HY := Aside0.mk hy
        rw [← hy] at c0 c1 c2
        clear hy
        have HK := Aside0.mk (show ∀ W, Calls Try.prog gf #[.agg #[.int .u8 y.f0, .int .i64 y.f1, .string y.f2]] W (fun e w' => e = .returned (.bool (p y)) ∧ Below W.heap.size W w') from fun W => HP.out y W)
        have HL := Aside0.mk (show g < wr.heap.size from Nat.lt_of_lt_of_le HG.out HD.out.grown.size)
        cases hp : p y with
        | true =>
          rw [hp] at HK
          have HQ := Aside0.mk hp
          clear hp
          go_wp2_with ((with_reducible refine (HK.out _).mono ?_); rintro e w2 ⟨rfl, hb⟩; have HB2 := Aside0.mk (below_step (below_alloc (Below.refl wr.heap.size wr) _) hb); clear hb)
          go_roundw
          case rel => exact ⟨ys, ni, nj + 1, rfl, by go_num, by omega, by omega, ⟨HD.out.skip hlt (by rw [← HY.out]; exact HQ.out) HB2.out⟩⟩
          case measure => simp [intOf]; omega
        | false =>
          rw [hp] at HK
          have HQ := Aside0.mk hp
          clear hp
          go_wp2_with ((with_reducible refine (HK.out _).mono ?_); rintro e w2 ⟨rfl, hb⟩; have HB2 := Aside0.mk (below_step (below_alloc (Below.refl wr.heap.size wr) _) hb); have BK2 := Aside0.mk (blk_below (g := wr.heap.size) (o := .cells #[.int .u8 y.f0, .int .i64 y.f1, .string y.f2] 153 (0, 0)) (heap_alloc_new wr _) hb); have z0 : w2.cell? ⟨wr.heap.size, 0, none⟩ = some (.int .u8 y.f0) := (blk_cell BK2.out 0).trans rfl; have z1 : w2.cell? ⟨wr.heap.size, 1, none⟩ = some (.int .i64 y.f1) := (blk_cell BK2.out 1).trans rfl; have z2 : w2.cell? ⟨wr.heap.size, 2, none⟩ = some (.string y.f2) := (blk_cell BK2.out 2).trans rfl; clear hb; have BG := Aside0.mk (blk_below HD.out.blk HB2.out); have d3 := (HB2.out.cell (p := ⟨g, ni * 3, none⟩) HL.out).trans d0; have d4 := (HB2.out.cell (p := ⟨g, ni * 3 + 1, none⟩) HL.out).trans d1; have d5 := (HB2.out.cell (p := ⟨g, ni * 3 + 2, none⟩) HL.out).trans d2; have f3 : w2.frozen? ⟨g, ni * 3, none⟩ = false := blk_frozen BG.out _; have f4 : w2.frozen? ⟨g, ni * 3 + 1, none⟩ = false := blk_frozen BG.out _; have f5 : w2.frozen? ⟨g, ni * 3 + 2, none⟩ = false := blk_frozen BG.out _)
          go_roundw
          case rel => exact ⟨ys.set ni y, ni + 1, nj + 1, by go_num, by go_num, by omega, by omega, ⟨HD.out.keep hij hlt y HY.out HQ.out HB2.out⟩⟩
          case measure => simp [intOf]; omega
      · obtain rfl : nj = xs.length := by omega
        have hcl : ∀ ty, (Builtin.clear_ #[133] ty #[.slice (some ⟨g, ni * 3, none⟩) (xs.length - ni) (xs.length - ni)]).run Try.prog wr = .ok (.tuple #[]) (wr.setCells g (ni * 3) (Builtin.zeroCells #[Value.int .u8 0, .int .i64 0, .string ⟨#[]⟩] (xs.length - ni)).toList) := fun ty =>
          run_clear153 wr ty g (ni * 3) (xs.length - ni) _ (by omega) (fun j hj => by
            rw [blk_cell HD.out.blk]
            have : ni * 3 + j < (fl ys).length := by rw [fl_len, HD.out.len]; omega
            simp [this]) (fun j _ => blk_frozen HD.out.blk _)
        go_wp2
        go_ret
        have hd := HD.out
        have hf : (xs.filter fun x => !p x) = ys.take ni := by rw [hd.head, List.take_length]
        have hlen : (ys.take ni).length = ni := by rw [List.length_take, hd.len]; omega
        have hout : ∀ k c, k < ni → c < 3 → (wr.setCells g (ni * 3) (Builtin.zeroCells #[Value.int .u8 0, .int .i64 0, .string ⟨#[]⟩] (xs.length - ni)).toList).cell? ⟨g, k * 3 + c, none⟩ = wr.cell? ⟨g, k * 3 + c, none⟩ := fun k c hk hc3 =>
          World.cell?_setCells_out g _ _ _ _ (fun _ _ => .inl (by simp only; omega))
        rw [hf, hlen]
        refine ⟨rfl, HMK.out ys _ ni (by rw [hd.len]; omega) (by rw [hd.len]; exact hn) (fun k hk => ?_), hd.grown.trans (grown_setCells _ _ _ _)⟩
        obtain ⟨q0, q1, q2⟩ := hd.cellF k (by omega)
        exact ⟨(hout k 0 hk (by omega)).trans q0, (hout k 1 hk (by omega)).trans q1, (hout k 2 hk (by omega)).trans q2⟩
end Go.Proofs.Ytoeabgeglgiobaa.P
