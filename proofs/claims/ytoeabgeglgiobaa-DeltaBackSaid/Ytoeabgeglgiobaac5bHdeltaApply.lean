/- A text is made of another one by edits: what the program's delta.Apply answers. Its condition: the texts together lie within the reach. -/
import Derived.Test.Ytoeabgeglgiobaac5bHdeltaRight
import Derived.Test.Ytoeabgeglgiobaac5bHbuilder
import Derived.Lib.IndexBytes
import Derived.Lib.PathFns
namespace Go.Proofs.Ytoeabgeglgiobaa.Q
open Go.RowKit Go.Proofs.YtoeabgeglgiobaaW.PrintWords Go.Proofs.YtoeabgeglgiobaaW.PrintLast Go.Proofs.YtoeabgeglgiobaaW.PrintMore
open Go.Proofs.Ytoeabgeglgiobaa.P
/-- How many bytes of the old, and of the new text an edit is. -/
def szE (kd n : Int) (s : ByteArray) : Int × Int := if rightB kd n s = true then (if kd = 2 then (0, (s.size : Int)) else if kd = 3 then (n, 0) else (n, n)) else (0, 0)
theorem vsizes (kd n : Int) (s : ByteArray) : Ev (fun k => delta_Edit_sizes.f k kd n s) (szE kd n s) := by
  unfold delta_Edit_sizes.f szE
  refine Ev.bind (vright kd n s) ?_
  by_cases h : rightB kd n s = true
  · simp only [if_pos h]
    by_cases h2 : kd = 2
    · simp only [if_pos h2]; exact Ev.now _
    · by_cases h3 : kd = 3
      · simp only [if_neg h2, if_pos h3]; exact Ev.now _
      · simp only [if_neg h2, if_neg h3]; exact Ev.now _
  · simp only [if_neg h]; exact Ev.now _
theorem rightB_cases (kd n : Int) (s : ByteArray) : rightB kd n s = true ↔ ((kd = 1 ∨ kd = 3) ∧ ∃ m : Nat, n = (m : Int) ∧ 0 < m ∧ m ≤ 2147483647 ∧ s.size = 0) ∨ (kd = 2 ∧ n = 0 ∧ s.size ≠ 0) := by
  unfold rightB
  by_cases h : kd = 1 ∨ kd = 3
  · rw [if_pos h, decide_eq_true_iff]
    constructor
    · intro z
      exact .inl ⟨h, n.toNat, by omega, by omega, by omega, z.2.2⟩
    · rintro (⟨_, m, e, h1, h2, h3⟩ | ⟨e, _⟩)
      · exact ⟨by omega, by omega, h3⟩
      · omega
  · rw [if_neg h, decide_eq_true_iff]
    exact ⟨fun z => .inr z, fun z => z.elim (fun y => absurd y.1 h) id⟩
theorem take_extract (s : ByteArray) (m : Nat) : (s.extract 0 m).data.toList = s.data.toList.take m := by rw [Lib.extract_data]; simp
end Go.Proofs.Ytoeabgeglgiobaa.Q
namespace Go.Proofs.Ytoeabgeglgiobaa.P
open Go.RowKit Go.Proofs.YtoeabgeglgiobaaW.PrintWords Go.Proofs.YtoeabgeglgiobaaW.PrintLast Go.Proofs.YtoeabgeglgiobaaW.PrintMore
open Go.Proofs.Ytoeabgeglgiobaa.Q (rightB szE take_extract)
set_option linter.unusedVariables false
/-- What is left of the old text, and what there is of the new one, edit by edit. -/
def apL : List UInt8 → List UInt8 → List S153 → List UInt8 × Int
  | rem, acc, [] => if rem = [] then (acc, 0) else ([], 50)
  | rem, acc, x :: l => if rightB x.f0 x.f1 x.f2 = true ∧ (szE x.f0 x.f1 x.f2).1 ≤ rem.length then apL (rem.drop (szE x.f0 x.f1 x.f2).1.toNat) (acc ++ (if x.f0 = 1 then rem.take (szE x.f0 x.f1 x.f2).1.toNat else if x.f0 = 2 then x.f2.data.toList else [])) l else ([], 50)
def txtL : List S153 → Nat
  | [] => 0
  | x :: l => x.f2.size + txtL l
def delta_Apply.f (a0 : ByteArray) (l1 : List S153) : Option (ByteArray × Int) :=
  if a0.size + txtL l1 ≤ 140737488355328 then some ((⟨(apL a0.data.toList [] l1).1.toArray⟩ : ByteArray), (apL a0.data.toList [] l1).2) else none
theorem isBuilder_below {T e : TypeId} {B b : Nat} {bs : List Value} {w w' : World} (h : Lib.IsBuilder T e B b bs w) (hb : Below w.heap.size w w') : Lib.IsBuilder T e B b bs w' := by
  have key : ∀ p, Lib.BuilderAt T e B b p bs w → Lib.BuilderAt T e B b p bs w' := fun p k => by
    have hlt := k.lt
    obtain ⟨hB, v, hbk, hown, hne⟩ := k
    exact ⟨hB, v, (hb.block b hlt).trans hbk, hown.kept (row := none) ⟨hb.os, hb.tape, hb.output, hb.size, fun j hj _ => hb.block j hj⟩ (by cases hv : v.ownBlock <;> simp), hne⟩
  exact h.elim (fun k => .inl (key _ k)) (fun k => .inr (key _ k))
theorem apL_drop (l : List S153) (k : Nat) (h : k < l.length) (rem acc : List UInt8) : apL rem acc (l.drop k) =
    if rightB (rd_T153 l (k : Int)).f0 (rd_T153 l (k : Int)).f1 (rd_T153 l (k : Int)).f2 = true ∧ (szE (rd_T153 l (k : Int)).f0 (rd_T153 l (k : Int)).f1 (rd_T153 l (k : Int)).f2).1 ≤ rem.length then
      apL (rem.drop (szE (rd_T153 l (k : Int)).f0 (rd_T153 l (k : Int)).f1 (rd_T153 l (k : Int)).f2).1.toNat) (acc ++ (if (rd_T153 l (k : Int)).f0 = 1 then rem.take (szE (rd_T153 l (k : Int)).f0 (rd_T153 l (k : Int)).f1 (rd_T153 l (k : Int)).f2).1.toNat else if (rd_T153 l (k : Int)).f0 = 2 then (rd_T153 l (k : Int)).f2.data.toList else [])) (l.drop (k + 1)) else ([], 50) := by
  have : rd_T153 l (k : Int) = l[k] := by simp [rd_T153, List.getD, h]
  rw [List.drop_eq_getElem_cons h, apL, this]
theorem txtL_drop (l : List S153) (k : Nat) (h : k < l.length) : txtL (l.drop k) = (rd_T153 l (k : Int)).f2.size + txtL (l.drop (k + 1)) := by
  have : rd_T153 l (k : Int) = l[k] := by simp [rd_T153, List.getD, h]
  rw [List.drop_eq_getElem_cons h, txtL, this]
/-- What holds at each round's head. -/
structure ApR (w : World) (l : List S153) (r : List UInt8 × Int) (k : Nat) (rem : ByteArray) (acc : List UInt8) (wr : World) : Prop where
  res : r = apL rem.data.toList acc (l.drop k)
  room : acc.length + rem.size + txtL (l.drop k) ≤ 140737488355328
  bld : Lib.IsBuilder 229 5 w.heap.size w.heap.size (Lib.byteCells acc) wr
  bel : Below w.heap.size w wr
set_option maxHeartbeats 4000000 in
set_option maxRecDepth 100000 in
theorem delta_Apply.calls (a0 : ByteArray) (A1 : Option Addr) (c1 : Nat) (l1 : List S153) (r1 : ByteArray) (r2 : Int) (w : World) (hr1 : Kd.C k153 w A1 l1.length l1) (hc1 : l1.length ≤ c1) (h : delta_Apply.f a0 l1 = some (r1, r2)) :
    Calls Try.prog 104 #[.string a0, .slice A1 l1.length c1] w fun e w' => e = .returned (.tuple #[.string r1, .int .i64 r2]) ∧ Below w.heap.size w w' := by
  have hroom : a0.size + txtL l1 ≤ 140737488355328 := by
    unfold delta_Apply.f at h
    split at h
    · assumption
    · cases h
  have hres : (⟨(apL a0.data.toList [] l1).1.toArray⟩ : ByteArray) = r1 ∧ (apL a0.data.toList [] l1).2 = r2 := by
    unfold delta_Apply.f at h
    rw [if_pos hroom] at h
    have := Option.some.inj h
    exact ⟨congrArg (·.1) this, congrArg (·.2) this⟩
  obtain ⟨r, hr⟩ : ∃ r, r = apL a0.data.toList [] l1 := ⟨_, rfl⟩
  rw [← hr] at hres
  have HRES := Aside0.mk hres
  have HRR := Aside0.mk hr
  have HROOM := Aside0.mk hroom
  have HR := Aside0.mk hr1
  have HC := Aside0.mk hc1
  have hmax : l1.length ≤ 9223372036854775807 := hr1.2.1
  clear hres hr hroom hr1 hc1 h
  have hu153 := Try.underlying153
  go_enter Try.func104, Try.ntmps104
  go_wp2
  go_loopw [0, 13] (fun base i wr => ∃ (k : Nat) (rem : ByteArray) (acc : List UInt8), k ≤ l1.length ∧ i = .int .i64 k ∧ base = .string rem ∧ Aside0 (ApR w l1 r k rem acc wr)) (fun _ i _ => l1.length - (intOf i).toNat)
  case atStart => exact ⟨0, a0, [], Nat.zero_le _, rfl, rfl, ⟨⟨by rw [List.drop_zero]; exact HRR.out, by rw [List.drop_zero]; simpa using HROOM.out, Lib.fresh_isBuilder 229 5 w, below_alloc (Below.refl _ _) _⟩⟩⟩
  case round =>
    obtain ⟨k, rem, acc, hk, rfl, rfl, HA⟩ := hrel
    by_cases hlt : k < l1.length
    · obtain ⟨ad, rfl, x0, x1, x2⟩ := at_T153 HR.out (k : Int) (by omega) (by omega)
      have y0 := (HA.out.bel.cell (World.block_lt_of_cell? w _ x0)).trans x0
      have y1 := (HA.out.bel.cell (World.block_lt_of_cell? w _ x1)).trans x1
      have y2 := (HA.out.bel.cell (World.block_lt_of_cell? w _ x2)).trans x2
      have HE := Aside0.mk (apL_drop l1 k hlt rem.data.toList acc)
      have HT := Aside0.mk (txtL_drop l1 k hlt)
      rw [Int.toNat_natCast] at y0 y1 y2
      clear x0 x1 x2
      generalize rd_T153 l1 (k : Int) = E at *
      obtain ⟨kd, n, t⟩ := E
      dsimp only at *
      obtain ⟨ks, hks⟩ := Ev.rounds (Q.vsizes kd n t)
      obtain ⟨kr, hkr⟩ := Ev.rounds (Q.vright kd n t)
      cases hrb : rightB kd n t with
      | false =>
        have hs : szE kd n t = (0, 0) := by unfold szE; rw [hrb]; rfl
        have KS : Aside0 (delta_Edit_sizes.f ks kd n t = some (0, 0)) := ⟨by rw [hks, hs]⟩
        have KR : Aside0 (delta_Edit_right.f kr kd n t = some false) := ⟨by rw [hkr, hrb]⟩
        rw [hrb, hs] at HE
        clear hks hkr hrb hs
        have hx : r = ([], 50) := by rw [HA.out.res, HE.out, if_neg (fun z => by cases z.1)]
        have HX := Aside0.mk hx
        clear hx
        go_wp2_with (first | (go_at_call 171; refine (delta_Edit_sizes.calls ks kd n t 0 0 _ KS.out).mono ?_; rintro e w1 ⟨rfl, hb1⟩; have HB1 := Aside0.mk (below_step (below_alloc HA.out.bel _) hb1); have HD1 := Aside0.mk (isBuilder_below (isBuilder_below HA.out.bld (below_alloc (Below.refl _ _) _)) hb1); have BK1 := Aside0.mk (blk_below (g := wr.heap.size) (o := .cells #[.int .u8 kd, .int .i64 n, .string t] 153 (0, 0)) (heap_alloc_new wr _) hb1); have z0 : w1.cell? ⟨wr.heap.size, 0, none⟩ = some (.int .u8 kd) := (blk_cell BK1.out 0).trans rfl; have z1 : w1.cell? ⟨wr.heap.size, 1, none⟩ = some (.int .i64 n) := (blk_cell BK1.out 1).trans rfl; have z2 : w1.cell? ⟨wr.heap.size, 2, none⟩ = some (.string t) := (blk_cell BK1.out 2).trans rfl; clear hb1) | (go_at_call 172; refine (delta_Edit_right.calls kr kd n t false _ KR.out).mono ?_; rintro e w2 ⟨rfl, hb2⟩; have HB2 := Aside0.mk (below_step HB1.out hb2); have HD2 := Aside0.mk (isBuilder_below HD1.out hb2); have BK2 := Aside0.mk (blk_below (g := wr.heap.size) (o := .cells #[.int .u8 kd, .int .i64 n, .string t] 153 (0, 0)) BK1.out hb2); have z3 : w2.cell? ⟨wr.heap.size, 0, none⟩ = some (.int .u8 kd) := (blk_cell BK2.out 0).trans rfl; have z4 : w2.cell? ⟨wr.heap.size, 1, none⟩ = some (.int .i64 n) := (blk_cell BK2.out 1).trans rfl; have z5 : w2.cell? ⟨wr.heap.size, 2, none⟩ = some (.string t) := (blk_cell BK2.out 2).trans rfl; clear hb2))
        go_ret2
        obtain ⟨e1, e2⟩ := HRES.out
        rw [HX.out] at e1 e2
        exact ⟨by rw [← e1, ← e2]; rfl, HB2.out⟩
      | true =>
        have KR : Aside0 (delta_Edit_right.f kr kd n t = some true) := ⟨by rw [hkr, hrb]⟩
        have hrw := (Q.rightB_cases kd n t).1 hrb
        rcases hrw with ⟨hk13, m, rfl, hm0, hm1, ht⟩ | ⟨rfl, rfl, ht⟩
        · rcases hk13 with rfl | rfl
          · have hs : szE 1 (m : Int) t = ((m : Int), (m : Int)) := by unfold szE; rw [hrb]; rfl
            have KS : Aside0 (delta_Edit_sizes.f ks 1 (m : Int) t = some ((m : Int), (m : Int))) := ⟨by rw [hks, hs]⟩
            rw [hrb, hs] at HE
            clear hks hkr hrb hs
            have hsl : rem.data.toList.length = rem.size := by simp
            by_cases hle : m ≤ rem.size
            · have hnlt : ¬ (rem.size < m) := by omega
              have hx : r = apL (rem.data.toList.drop m) (acc ++ rem.data.toList.take m) (l1.drop (k + 1)) := by rw [HA.out.res, HE.out, if_pos ⟨rfl, by rw [hsl]; simp only; omega⟩]; rfl
              have HX := Aside0.mk hx
              have HL : Aside0 ((Lib.byteCells acc).length + (rem.extract 0 m).size ≤ 140737488355328) := ⟨by have := HA.out.room; rw [Lib.byteCells_length, ByteArray.size_extract]; omega⟩
              clear hx hsl
              go_wp2_with (first | (go_at_call 171; refine (delta_Edit_sizes.calls ks 1 (m : Int) t (m : Int) (m : Int) _ KS.out).mono ?_; rintro e w1 ⟨rfl, hb1⟩; have HB1 := Aside0.mk (below_step (below_alloc HA.out.bel _) hb1); have HD1 := Aside0.mk (isBuilder_below (isBuilder_below HA.out.bld (below_alloc (Below.refl _ _) _)) hb1); have BK1 := Aside0.mk (blk_below (g := wr.heap.size) (o := .cells #[.int .u8 1, .int .i64 (m : Int), .string t] 153 (0, 0)) (heap_alloc_new wr _) hb1); have z0 : w1.cell? ⟨wr.heap.size, 0, none⟩ = some (.int .u8 1) := (blk_cell BK1.out 0).trans rfl; have z1 : w1.cell? ⟨wr.heap.size, 1, none⟩ = some (.int .i64 (m : Int)) := (blk_cell BK1.out 1).trans rfl; have z2 : w1.cell? ⟨wr.heap.size, 2, none⟩ = some (.string t) := (blk_cell BK1.out 2).trans rfl; clear hb1) | (go_at_call 172; refine (delta_Edit_right.calls kr 1 (m : Int) t true _ KR.out).mono ?_; rintro e w2 ⟨rfl, hb2⟩; have HB2 := Aside0.mk (below_step HB1.out hb2); have HD2 := Aside0.mk (isBuilder_below HD1.out hb2); have BK2 := Aside0.mk (blk_below (g := wr.heap.size) (o := .cells #[.int .u8 1, .int .i64 (m : Int), .string t] 153 (0, 0)) BK1.out hb2); have z3 : w2.cell? ⟨wr.heap.size, 0, none⟩ = some (.int .u8 1) := (blk_cell BK2.out 0).trans rfl; have z4 : w2.cell? ⟨wr.heap.size, 1, none⟩ = some (.int .i64 (m : Int)) := (blk_cell BK2.out 1).trans rfl; have z5 : w2.cell? ⟨wr.heap.size, 2, none⟩ = some (.string t) := (blk_cell BK2.out 2).trans rfl; clear hb2) | (go_at_call 173; refine (Builder_WriteString w.heap.size w.heap.size (Lib.byteCells acc) (rem.extract 0 m) _ HD2.out HL.out (below_size HB2.out)).mono ?_; rintro e w3 ⟨rfl, hbd, hb3⟩; have HD3 := Aside0.mk hbd; have HB3 := Aside0.mk (HB2.out.trans hb3); clear hbd hb3))
              go_roundw
              case rel => exact ⟨k + 1, rem.extract m rem.size, acc ++ rem.data.toList.take m, by omega, by go_num, rfl, ⟨⟨by rw [Lib.extract_to_end]; exact HX.out, by have := HA.out.room; have := HT.out; simp only [ByteArray.size_extract, List.length_append, List.length_take, Array.length_toList, ByteArray.size_data]; omega, (.inr (by have := HD3.out; rw [Lib.strCells] at this; rw [Lib.byteCells, List.map_append, ← take_extract]; exact this)), HB3.out⟩⟩⟩
              case measure => simp [intOf]; omega
            · have hgt : rem.size < m := by omega
              have hx : r = ([], 50) := by rw [HA.out.res, HE.out, if_neg (fun z => by have := z.2; rw [hsl] at this; simp only at this; omega)]
              have HX := Aside0.mk hx
              clear hx
              go_wp2_with (first | (go_at_call 171; refine (delta_Edit_sizes.calls ks 1 (m : Int) t (m : Int) (m : Int) _ KS.out).mono ?_; rintro e w1 ⟨rfl, hb1⟩; have HB1 := Aside0.mk (below_step (below_alloc HA.out.bel _) hb1); have HD1 := Aside0.mk (isBuilder_below (isBuilder_below HA.out.bld (below_alloc (Below.refl _ _) _)) hb1); have BK1 := Aside0.mk (blk_below (g := wr.heap.size) (o := .cells #[.int .u8 1, .int .i64 (m : Int), .string t] 153 (0, 0)) (heap_alloc_new wr _) hb1); have z0 : w1.cell? ⟨wr.heap.size, 0, none⟩ = some (.int .u8 1) := (blk_cell BK1.out 0).trans rfl; have z1 : w1.cell? ⟨wr.heap.size, 1, none⟩ = some (.int .i64 (m : Int)) := (blk_cell BK1.out 1).trans rfl; have z2 : w1.cell? ⟨wr.heap.size, 2, none⟩ = some (.string t) := (blk_cell BK1.out 2).trans rfl; clear hb1) | (go_at_call 172; refine (delta_Edit_right.calls kr 1 (m : Int) t true _ KR.out).mono ?_; rintro e w2 ⟨rfl, hb2⟩; have HB2 := Aside0.mk (below_step HB1.out hb2); have HD2 := Aside0.mk (isBuilder_below HD1.out hb2); have BK2 := Aside0.mk (blk_below (g := wr.heap.size) (o := .cells #[.int .u8 1, .int .i64 (m : Int), .string t] 153 (0, 0)) BK1.out hb2); have z3 : w2.cell? ⟨wr.heap.size, 0, none⟩ = some (.int .u8 1) := (blk_cell BK2.out 0).trans rfl; have z4 : w2.cell? ⟨wr.heap.size, 1, none⟩ = some (.int .i64 (m : Int)) := (blk_cell BK2.out 1).trans rfl; have z5 : w2.cell? ⟨wr.heap.size, 2, none⟩ = some (.string t) := (blk_cell BK2.out 2).trans rfl; clear hb2))
              go_ret2
              obtain ⟨e1, e2⟩ := HRES.out
              rw [HX.out] at e1 e2
              exact ⟨by rw [← e1, ← e2]; rfl, HB2.out⟩
          · have hs : szE 3 (m : Int) t = ((m : Int), 0) := by unfold szE; rw [hrb]; rfl
            have KS : Aside0 (delta_Edit_sizes.f ks 3 (m : Int) t = some ((m : Int), 0)) := ⟨by rw [hks, hs]⟩
            rw [hrb, hs] at HE
            clear hks hkr hrb hs
            have hsl : rem.data.toList.length = rem.size := by simp
            by_cases hle : m ≤ rem.size
            · have hnlt : ¬ (rem.size < m) := by omega
              have hx : r = apL (rem.data.toList.drop m) (acc ++ []) (l1.drop (k + 1)) := by rw [HA.out.res, HE.out, if_pos ⟨rfl, by rw [hsl]; simp only; omega⟩]; rfl
              have HX := Aside0.mk hx
              have HL : Aside0 ((Lib.byteCells acc).length + (rem.extract 0 m).size ≤ 140737488355328) := ⟨by have := HA.out.room; rw [Lib.byteCells_length, ByteArray.size_extract]; omega⟩
              clear hx hsl
              go_wp2_with (first | (go_at_call 171; refine (delta_Edit_sizes.calls ks 3 (m : Int) t (m : Int) 0 _ KS.out).mono ?_; rintro e w1 ⟨rfl, hb1⟩; have HB1 := Aside0.mk (below_step (below_alloc HA.out.bel _) hb1); have HD1 := Aside0.mk (isBuilder_below (isBuilder_below HA.out.bld (below_alloc (Below.refl _ _) _)) hb1); have BK1 := Aside0.mk (blk_below (g := wr.heap.size) (o := .cells #[.int .u8 3, .int .i64 (m : Int), .string t] 153 (0, 0)) (heap_alloc_new wr _) hb1); have z0 : w1.cell? ⟨wr.heap.size, 0, none⟩ = some (.int .u8 3) := (blk_cell BK1.out 0).trans rfl; have z1 : w1.cell? ⟨wr.heap.size, 1, none⟩ = some (.int .i64 (m : Int)) := (blk_cell BK1.out 1).trans rfl; have z2 : w1.cell? ⟨wr.heap.size, 2, none⟩ = some (.string t) := (blk_cell BK1.out 2).trans rfl; clear hb1) | (go_at_call 172; refine (delta_Edit_right.calls kr 3 (m : Int) t true _ KR.out).mono ?_; rintro e w2 ⟨rfl, hb2⟩; have HB2 := Aside0.mk (below_step HB1.out hb2); have HD2 := Aside0.mk (isBuilder_below HD1.out hb2); have BK2 := Aside0.mk (blk_below (g := wr.heap.size) (o := .cells #[.int .u8 3, .int .i64 (m : Int), .string t] 153 (0, 0)) BK1.out hb2); have z3 : w2.cell? ⟨wr.heap.size, 0, none⟩ = some (.int .u8 3) := (blk_cell BK2.out 0).trans rfl; have z4 : w2.cell? ⟨wr.heap.size, 1, none⟩ = some (.int .i64 (m : Int)) := (blk_cell BK2.out 1).trans rfl; have z5 : w2.cell? ⟨wr.heap.size, 2, none⟩ = some (.string t) := (blk_cell BK2.out 2).trans rfl; clear hb2))
              go_roundw
              case rel => exact ⟨k + 1, rem.extract m rem.size, acc ++ [], by omega, by go_num, rfl, ⟨⟨by rw [Lib.extract_to_end]; exact HX.out, by have := HA.out.room; have := HT.out; simp only [ByteArray.size_extract, List.append_nil]; omega, (by rw [List.append_nil]; exact HD2.out), HB2.out⟩⟩⟩
              case measure => simp [intOf]; omega
            · have hgt : rem.size < m := by omega
              have hx : r = ([], 50) := by rw [HA.out.res, HE.out, if_neg (fun z => by have := z.2; rw [hsl] at this; simp only at this; omega)]
              have HX := Aside0.mk hx
              clear hx
              go_wp2_with (first | (go_at_call 171; refine (delta_Edit_sizes.calls ks 3 (m : Int) t (m : Int) 0 _ KS.out).mono ?_; rintro e w1 ⟨rfl, hb1⟩; have HB1 := Aside0.mk (below_step (below_alloc HA.out.bel _) hb1); have HD1 := Aside0.mk (isBuilder_below (isBuilder_below HA.out.bld (below_alloc (Below.refl _ _) _)) hb1); have BK1 := Aside0.mk (blk_below (g := wr.heap.size) (o := .cells #[.int .u8 3, .int .i64 (m : Int), .string t] 153 (0, 0)) (heap_alloc_new wr _) hb1); have z0 : w1.cell? ⟨wr.heap.size, 0, none⟩ = some (.int .u8 3) := (blk_cell BK1.out 0).trans rfl; have z1 : w1.cell? ⟨wr.heap.size, 1, none⟩ = some (.int .i64 (m : Int)) := (blk_cell BK1.out 1).trans rfl; have z2 : w1.cell? ⟨wr.heap.size, 2, none⟩ = some (.string t) := (blk_cell BK1.out 2).trans rfl; clear hb1) | (go_at_call 172; refine (delta_Edit_right.calls kr 3 (m : Int) t true _ KR.out).mono ?_; rintro e w2 ⟨rfl, hb2⟩; have HB2 := Aside0.mk (below_step HB1.out hb2); have HD2 := Aside0.mk (isBuilder_below HD1.out hb2); have BK2 := Aside0.mk (blk_below (g := wr.heap.size) (o := .cells #[.int .u8 3, .int .i64 (m : Int), .string t] 153 (0, 0)) BK1.out hb2); have z3 : w2.cell? ⟨wr.heap.size, 0, none⟩ = some (.int .u8 3) := (blk_cell BK2.out 0).trans rfl; have z4 : w2.cell? ⟨wr.heap.size, 1, none⟩ = some (.int .i64 (m : Int)) := (blk_cell BK2.out 1).trans rfl; have z5 : w2.cell? ⟨wr.heap.size, 2, none⟩ = some (.string t) := (blk_cell BK2.out 2).trans rfl; clear hb2))
              go_ret2
              obtain ⟨e1, e2⟩ := HRES.out
              rw [HX.out] at e1 e2
              exact ⟨by rw [← e1, ← e2]; rfl, HB2.out⟩
        · have hs : szE 2 0 t = (0, (t.size : Int)) := by unfold szE; rw [hrb]; rfl
          have KS : Aside0 (delta_Edit_sizes.f ks 2 0 t = some (0, (t.size : Int))) := ⟨by rw [hks, hs]⟩
          rw [hrb, hs] at HE
          clear hks hkr hrb hs
          have hx : r = apL rem.data.toList (acc ++ t.data.toList) (l1.drop (k + 1)) := by rw [HA.out.res, HE.out, if_pos ⟨rfl, by simp⟩]; rfl
          have HX := Aside0.mk hx
          have HL : Aside0 ((Lib.byteCells acc).length + t.size ≤ 140737488355328) := ⟨by have := HA.out.room; have := HT.out; rw [Lib.byteCells_length]; omega⟩
          clear hx
          go_wp2_with (first | (go_at_call 171; refine (delta_Edit_sizes.calls ks 2 0 t 0 (t.size : Int) _ KS.out).mono ?_; rintro e w1 ⟨rfl, hb1⟩; have HB1 := Aside0.mk (below_step (below_alloc HA.out.bel _) hb1); have HD1 := Aside0.mk (isBuilder_below (isBuilder_below HA.out.bld (below_alloc (Below.refl _ _) _)) hb1); have BK1 := Aside0.mk (blk_below (g := wr.heap.size) (o := .cells #[.int .u8 2, .int .i64 0, .string t] 153 (0, 0)) (heap_alloc_new wr _) hb1); have z0 : w1.cell? ⟨wr.heap.size, 0, none⟩ = some (.int .u8 2) := (blk_cell BK1.out 0).trans rfl; have z1 : w1.cell? ⟨wr.heap.size, 1, none⟩ = some (.int .i64 0) := (blk_cell BK1.out 1).trans rfl; have z2 : w1.cell? ⟨wr.heap.size, 2, none⟩ = some (.string t) := (blk_cell BK1.out 2).trans rfl; clear hb1) | (go_at_call 172; refine (delta_Edit_right.calls kr 2 0 t true _ KR.out).mono ?_; rintro e w2 ⟨rfl, hb2⟩; have HB2 := Aside0.mk (below_step HB1.out hb2); have HD2 := Aside0.mk (isBuilder_below HD1.out hb2); have BK2 := Aside0.mk (blk_below (g := wr.heap.size) (o := .cells #[.int .u8 2, .int .i64 0, .string t] 153 (0, 0)) BK1.out hb2); have z3 : w2.cell? ⟨wr.heap.size, 0, none⟩ = some (.int .u8 2) := (blk_cell BK2.out 0).trans rfl; have z4 : w2.cell? ⟨wr.heap.size, 1, none⟩ = some (.int .i64 0) := (blk_cell BK2.out 1).trans rfl; have z5 : w2.cell? ⟨wr.heap.size, 2, none⟩ = some (.string t) := (blk_cell BK2.out 2).trans rfl; clear hb2) | (go_at_call 173; refine (Builder_WriteString w.heap.size w.heap.size (Lib.byteCells acc) t _ HD2.out HL.out (below_size HB2.out)).mono ?_; rintro e w3 ⟨rfl, hbd, hb3⟩; have HD3 := Aside0.mk hbd; have HB3 := Aside0.mk (HB2.out.trans hb3); clear hbd hb3))
          go_roundw
          case rel => exact ⟨k + 1, rem, acc ++ t.data.toList, by omega, by go_num, rfl, ⟨⟨HX.out, by have := HA.out.room; have := HT.out; simp only [List.length_append, Array.length_toList, ByteArray.size_data]; omega, (.inr (by have := HD3.out; rw [Lib.strCells] at this; rw [Lib.byteCells, List.map_append]; exact this)), HB3.out⟩⟩⟩
          case measure => simp [intOf]; omega
    · obtain rfl : k = l1.length := by omega
      have hd : l1.drop l1.length = [] := List.drop_eq_nil_of_le (Nat.le_refl _)
      have hx := HA.out.res
      rw [hd] at hx
      by_cases hz : rem.toList = []
      · have hz' : rem.data.toList = [] := by rw [← ByteArray.toList_eq]; exact hz
        rw [apL, if_pos hz'] at hx
        have HX := Aside0.mk hx
        have HD := Aside0.mk HA.out.bld
        have hz2 : rem.toList.isEmpty = true := by rw [hz]; rfl
        clear hx hd hz'
        go_wp2_with (go_at_call 174; refine (Try.Builder_String_any w.heap.size w.heap.size acc _ HD.out (below_size HA.out.bel)).mono ?_; rintro e w1 ⟨rfl, hb1⟩; have HB1 := Aside0.mk (HA.out.bel.trans hb1); clear hb1)
        go_ret2
        obtain ⟨e1, e2⟩ := HRES.out
        rw [HX.out] at e1 e2
        exact ⟨by rw [← e1, ← e2]; rfl, HB1.out⟩
      · have hz' : rem.data.toList ≠ [] := by rw [← ByteArray.toList_eq]; exact hz
        rw [apL, if_neg hz'] at hx
        have HX := Aside0.mk hx
        have hz2 : rem.toList.isEmpty = false := by cases h : rem.toList with | nil => exact absurd h hz | cons _ _ => rfl
        clear hx hd hz'
        go_wp2
        go_ret2
        obtain ⟨e1, e2⟩ := HRES.out
        rw [HX.out] at e1 e2
        exact ⟨by rw [← e1, ← e2]; rfl, HA.out.bel⟩
end Go.Proofs.Ytoeabgeglgiobaa.P
