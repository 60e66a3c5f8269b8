/- The table of the checksum, and what it does to a register: what the program's crc.Table answers. No condition. -/
import Derived.Test.Ytoeabgeglgiobaac11kP0
import Derived.Laws.CopyOwn
namespace Go.Proofs.Ytoeabgeglgiobaa.P
open Go.RowKit Go.Proofs.YtoeabgeglgiobaaW.PrintWords Go.Proofs.YtoeabgeglgiobaaW.PrintLast Go.Proofs.YtoeabgeglgiobaaW.PrintMore
/-- One digit falls out of the register, as the program has it. -/
def crcStep (c : Int) : Int := Go.bits .xor .u32 (c / 2) (Go.bits .and .u32 2197175160 ((-(Go.bits .and .u32 c 1)) % 4294967296))
def crcIt : Nat → Int → Int
  | 0, c => c
  | n + 1, c => crcStep (crcIt n c)
def crcTab (j : Nat) : Int := crcIt 8 (j : Int)
def crcUp (i : Nat) : Array Value := ((List.range 256).map fun j => if j < i then Value.int .u32 (crcTab j) else Value.int .u32 0).toArray
theorem crcUp_zero : crcUp 0 = Try.zeroCells263 := by kernel_rfl
theorem crcUp_size (i : Nat) : (crcUp i).size = 256 := by simp [crcUp]
theorem crcUp_get (i j : Nat) (hj : j < 256) : (crcUp i)[j]? = some (if j < i then Value.int .u32 (crcTab j) else Value.int .u32 0) := by
  simp [crcUp, hj]
theorem crcUp_set (i : Nat) (_h : i < 256) : (crcUp i).setIfInBounds i (.int .u32 (crcTab i)) = crcUp (i + 1) := by
  apply Array.ext
  · simp [crcUp]
  · intro j h1 h2
    simp [crcUp] at h1 h2
    simp only [crcUp, List.setIfInBounds_toArray, List.getElem_toArray]
    rw [List.getElem_set]
    by_cases e : i = j
    · subst e; simp
    · simp only [e, if_false, List.getElem_map, List.getElem_range]
      by_cases q : j < i
      · rw [if_pos q, if_pos (show j < i + 1 by omega)]
      · rw [if_neg q, if_neg (show ¬ j < i + 1 by omega)]
theorem crcUp_one (i : Nat) : (crcUp i).all (·.oneCell') = true := by
  rw [Array.all_eq_true_iff_forall_mem]
  intro v hv
  simp only [crcUp, List.mem_toArray, List.mem_map, List.mem_range] at hv
  obtain ⟨j, _, rfl⟩ := hv
  split <;> rfl
set_option linter.unusedVariables false in
set_option maxHeartbeats 1000000 in
set_option maxRecDepth 100000 in
theorem crc_Table.calls (w : World) : Calls Try.prog 196 #[] w fun e w' => e = .returned (.agg (crcUp 256)) ∧ Below w.heap.size w w' := by
  have H0 := Aside0.mk crcUp_zero
  go_enter Try.func196, Try.ntmps196
  go_wp2
  go_loopg [4] 256 (fun kq v4 wr => ∃ i : Nat, v4 = .int .i64 i ∧ Aside0 (kq + i = 256) ∧ Aside0 (wr.heap[w.heap.size + 1]? = some (.cells (crcUp i) 263 (0, 0))) ∧ Aside0 (wr.heap[w.heap.size]? = some (.cells Try.zeroCells263 263 (0, 0))) ∧ Aside0 (Below w.heap.size w wr))
  case atStart => exact ⟨0, rfl, ⟨rfl⟩, ⟨by rw [H0.out]; exact heap_alloc2_new w _ _⟩, ⟨heap_alloc2_old w _ _⟩, ⟨below_alloc (below_alloc (Below.refl _ _) _) _⟩⟩
  case round =>
    obtain ⟨i, rfl, hk, hB, hR, hb⟩ := hrel
    by_cases hlt : (i : Int) < 256
    · have hi : i < 256 := by omega
      have hc : wr.cell? ⟨w.heap.size + 1, i, none⟩ = some (.int .u32 0) := by
        rw [cell_of_row _ _ _ _ _ _ hB.out, crcUp_get i i hi, if_neg (Nat.lt_irrefl i)]
      have hf : wr.frozen? ⟨w.heap.size + 1, i, none⟩ = false := frozen_of_row _ _ _ _ _ hB.out
      go_wp2
      go_loop [3, 9] (fun c k => ∃ n : Nat, n ≤ 8 ∧ k = .int .i64 n ∧ c = .int .u32 (crcIt n i)) (fun _ k => 8 - (intOf k).toNat)
      case atStart => exact ⟨0, by omega, rfl, rfl⟩
      case round =>
        obtain ⟨n, hn, rfl, rfl⟩ := hrel
        by_cases hn8 : (n : Int) < 8
        · go_wp2
          go_round
          case rel => exact ⟨n + 1, by omega, by go_num, rfl⟩
          case measure => simp [intOf]; omega
        · obtain rfl : n = 8 := by omega
          go_wp2
          go_roundg (255 - i)
          case measure => have := hk.out; omega
          case rel =>
            refine ⟨i + 1, by go_num, ⟨by omega⟩, ⟨?_⟩, ⟨?_⟩, ⟨below_set hb.out (by omega)⟩⟩
            · rw [heap_setCell_same _ _ _ _ _ _ hB.out]
              rw [show Value.int IntKind.u32 (crcIt 8 (i : Int)) = Value.int IntKind.u32 (crcTab i) from rfl, crcUp_set i hi]
            · rw [heap_setCell_other _ _ _ _ (by show w.heap.size ≠ w.heap.size + 1; omega)]; exact hR.out
    · have hi : i = 256 := by have := hk.out; omega
      subst hi
      have hs1 := crcUp_size 256
      have hs2 := crcUp_one 256
      go_wp2_with (first | (refine wpList_load_row rfl 263 _ rfl (w.heap.size + 1) rfl 263 _ (0, 0) _ hB.out Try.underlying263 rfl ?hi ?_; (case hi => rw [hs1]; kernel_rfl)) | (refine wpList_store_row rfl 263 _ _ rfl w.heap.size (crcUp 256) rfl rfl 263 _ hR.out ?hi ?hold hs2 ?_; (case hi => rw [hs1]; kernel_rfl); (case hold => rw [hs1]; kernel_rfl)))
      refine bodyPost_ret (results_cell_row rfl _ _ w.heap.size 263 (crcUp 256) (0, 0) _ rfl (setRow_heap _ _ _ _ _ _ hR.out) Try.underlying263 rfl (by rw [hs1]; kernel_rfl)) rfl ⟨rfl, ?_⟩
      exact below_setRow hb.out (Nat.le_refl _) _
/-- One byte goes into the register, by the table. -/
def crcByte (c x : Int) : Int := Go.bits .xor .u32 (crcTab (Go.bits .xor .u8 (c % 256) x).toNat) (c / 256)
def crcFold (c : Int) (l : List Int) : Int := l.foldl crcByte c
/-- What crc.update answers. -/
def crcUpd (c : Int) (l : List Int) : Int := Go.bits .xor .u32 (crcFold (Go.bits .xor .u32 c 4294967295) l) 4294967295
theorem bits_u8_bd (op : BinOp) (a b : Int) : 0 ≤ Go.bits op .u8 a b ∧ Go.bits op .u8 a b < 256 := by
  have h : ∀ n : Int, 0 ≤ IntKind.u8.wrap n ∧ IntKind.u8.wrap n < 256 := fun n => by simp [IntKind.wrap, IntKind.bits, IntKind.signed]; omega
  unfold Go.bits
  exact h _
theorem bits_u32_bd (op : BinOp) (a b : Int) : 0 ≤ Go.bits op .u32 a b ∧ Go.bits op .u32 a b < 4294967296 := by
  have h : ∀ n : Int, 0 ≤ IntKind.u32.wrap n ∧ IntKind.u32.wrap n < 4294967296 := fun n => by simp [IntKind.wrap, IntKind.bits, IntKind.signed]; omega
  unfold Go.bits
  exact h _
theorem crcFold_snoc (c : Int) (l : List Int) (x : Int) : crcFold c (l ++ [x]) = crcByte (crcFold c l) x := by simp [crcFold]
theorem rd_take_snoc (l : List Int) (i : Int) (h0 : 0 ≤ i) (h1 : i < l.length) : l.take (i + 1).toNat = l.take i.toNat ++ [rd l i] := by
  have e : (i + 1).toNat = i.toNat + 1 := by omega
  have h : i.toNat < l.length := by omega
  rw [e, List.take_succ_eq_append_getElem h]
  simp [rd, h]
set_option linter.unusedVariables false in
set_option maxHeartbeats 1000000 in
set_option maxRecDepth 100000 in
theorem crc_update.calls (g : Nat) (c : Int) (A : Option Addr) (cap : Nat) (l : List Int) (w : World) (hg0 : w.heap[g]? = some (.cells (crcUp 256) 263 (0, 0))) (hr0 : Kd.C (Kd.int .u8) w A l.length l) (hc0 : l.length ≤ cap) :
    Calls Try.prog 197 #[.pointer (some ⟨g, 0, none⟩), .int .u32 c, .slice A l.length cap] w fun e w' => e = .returned (.int .u32 (crcUpd c l)) ∧ w = w' := by
  have HG := Aside0.mk hg0
  have HR := Aside0.mk hr0
  have HX := Aside0.mk (Kd.reads_of_C (enc := Value.int .u8) (d := (0 : Int)) (h1 := fun _ => rfl) hr0)
  have hmax : l.length ≤ 9223372036854775807 := HX.out.2.1
  clear hr0 hg0
  go_enter Try.func197, Try.ntmps197
  go_wp2
  go_loop [1, 13] (fun v1 v13 => ∃ i : Int, 0 ≤ i ∧ i ≤ l.length ∧ v13 = .int .i64 i ∧ v1 = .int .u32 (crcFold (Go.bits .xor .u32 c 4294967295) (l.take i.toNat))) (fun _ v13 => l.length - (intOf v13).toNat)
  case atStart => exact ⟨0, by omega, by omega, rfl, rfl⟩
  case round =>
    obtain ⟨i, h0, h1, rfl, rfl⟩ := hrel
    by_cases hlt : i < l.length
    · obtain ⟨ad, e1, hx⟩ := Kd.at_int HR.out i h0 hlt
      cases e1
      obtain ⟨r, hr⟩ : ∃ r, r = crcFold (Go.bits .xor .u32 c 4294967295) (l.take i.toNat) := ⟨_, rfl⟩
      have Hr := Aside0.mk hr
      rw [← hr]
      clear hr
      have hb := bits_u8_bd .xor (r % 256) (rd l i)
      have hcell : w.cell? ⟨g, (Go.bits .xor .u8 (r % 256) (rd l i)).toNat, none⟩ = some (.int .u32 (crcTab (Go.bits .xor .u8 (r % 256) (rd l i)).toNat)) := by
        rw [cell_of_row _ _ _ _ _ _ HG.out, crcUp_get _ _ (by omega), if_pos (by omega)]
      have hb0 : (0 ≤ Go.bits .xor .u8 (r % 256) (rd l i)) = True := eq_true hb.1
      have hb1 : (Go.bits .xor .u8 (r % 256) (rd l i) < 256) = True := eq_true hb.2
      clear hb
      have p0 := eq_true h0
      have q0 := eq_true hlt
      go_wp2
      go_round
      case rel =>
        refine ⟨i + 1, by omega, by omega, by go_num, ?_⟩
        rw [rd_take_snoc l i h0 hlt, crcFold_snoc, ← Hr.out]
        rfl
      case measure => simp [intOf]; omega
    · have hi : i.toNat = l.length := by omega
      go_wp2
      go_ret
      exact ⟨rfl, rfl⟩
def crcSum (l : List Int) : Int := crcUpd 0 l
set_option linter.unusedVariables false in
set_option maxHeartbeats 1000000 in
set_option maxRecDepth 100000 in
/-- The sum of one row: the slice of rows is one cell that holds it. -/
theorem crc_Sum.calls (g : Nat) (cap1 : Nat) (A : Option Addr) (cap : Nat) (l : List Int) (w : World) (hg0 : w.cell? ⟨g, 0, none⟩ = some (.slice A l.length cap)) (hr0 : Kd.C (Kd.int .u8) w A l.length l) (hc0 : l.length ≤ cap) :
    Calls Try.prog 155 #[.slice (some ⟨g, 0, none⟩) 1 cap1] w fun e w' => e = .returned (.int .u32 (crcSum l)) ∧ Below w.heap.size w w' := by
  have HG := Aside0.mk hg0
  have HR := Aside0.mk hr0
  have hgl : g < w.heap.size := World.block_lt_of_cell? w _ hg0
  clear hr0 hg0
  go_enter Try.func155, Try.ntmps155
  have hs1 := crcUp_size 256
  have hs2 := crcUp_one 256
  go_wp2_with (first | (go_at_call 196; refine (crc_Table.calls _).mono ?_; rintro e w1 ⟨rfl, hb1⟩) | (refine wpList_store_row rfl 263 _ _ rfl w1.heap.size (crcUp 256) rfl rfl 263 Try.zeroCells263 (heap_alloc_new _ _) ?hi ?hold hs2 ?_; (case hi => rw [hs1]; kernel_rfl); (case hold => rw [hs1]; kernel_rfl)))
  have HB2 := Aside0.mk (below_setRow (below_alloc hb1 (.cells Try.zeroCells263 263)) (hb1.size) (crcUp 256))
  have HT2 := Aside0.mk (setRow_heap (w1.alloc (.cells Try.zeroCells263 263)) w1.heap.size _ (crcUp 256) 263 (0, 0) (heap_alloc_new w1 _))
  generalize (w1.alloc (.cells Try.zeroCells263 263)).setRow w1.heap.size (crcUp 256) = w2 at HB2 HT2 ⊢
  have hcell := pw_cell_below HB2.out HG.out
  have HR2 := Aside0.mk (Kd.C_below HR.out HB2.out)
  clear hb1
  go_loop [4, 10] (fun v4 v10 => ∃ i : Nat, i ≤ 1 ∧ v10 = .int .i64 i ∧ v4 = .int .u32 (if i = 0 then 0 else crcSum l)) (fun _ v10 => 1 - (intOf v10).toNat)
  case atStart => exact ⟨0, by omega, rfl, rfl⟩
  case round =>
    obtain ⟨i, hi, rfl, rfl⟩ := hrel
    by_cases h0 : i = 0
    · subst h0
      go_wp2_with (go_at_call 197; refine (crc_update.calls w1.heap.size 0 A cap l _ HT2.out HR2.out hc0).mono ?_; rintro e w3 ⟨rfl, rfl⟩)
      go_round
      case rel => exact ⟨1, by omega, rfl, rfl⟩
      case measure => simp [intOf]
    · obtain rfl : i = 1 := by omega
      go_wp2
      go_ret
      exact ⟨rfl, HB2.out⟩
end Go.Proofs.Ytoeabgeglgiobaa.P
