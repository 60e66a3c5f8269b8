/- The difference of two texts: what the program's delta.Diff answers. Its condition: the texts lie within the reach. -/
import Derived.Test.Ytoeabgeglgiobaac5bHdeltaDel
import Derived.Test.Ytoeabgeglgiobaac5bHdeltaApply
import Derived.Test.Ytoeabgeglgiobaac5bGdelta1
namespace Go.Proofs.Ytoeabgeglgiobaa.P
open Go.RowKit Go.Proofs.YtoeabgeglgiobaaW.PrintWords Go.Proofs.YtoeabgeglgiobaaW.PrintLast Go.Proofs.YtoeabgeglgiobaaW.PrintMore
open Go.Proofs.Ytoeabgeglgiobaa.Q (rightB)
set_option linter.unusedVariables false
/-- How many bytes are alike, from k on, d at most. -/
def cg (f : ByteArray → Nat → Int) (a b : ByteArray) : Nat → Nat → Nat
  | 0, k => k
  | d + 1, k => if k < b.size ∧ f a k = f b k then cg f a b d (k + 1) else k
theorem cg_le (f : ByteArray → Nat → Int) (a b : ByteArray) : ∀ (d k : Nat), k ≤ cg f a b d k ∧ cg f a b d k ≤ k + d ∧ (k ≤ b.size → cg f a b d k ≤ b.size)
  | 0, k => ⟨Nat.le_refl _, Nat.le_refl _, id⟩
  | d + 1, k => by
    rw [cg]
    split
    · rename_i h
      obtain ⟨h1, h2, h3⟩ := cg_le f a b d (k + 1)
      exact ⟨by omega, by omega, fun _ => h3 (by omega)⟩
    · exact ⟨Nat.le_refl _, by omega, id⟩
set_option maxHeartbeats 2000000 in
set_option maxRecDepth 100000 in
theorem delta_common.calls (gf : Nat) (f : ByteArray → Nat → Int) (hg : Ent gf) (hA : ∀ (s : ByteArray) (k : Nat) (W : World), s.size ≤ 140737488355328 → k < s.size → Calls Try.prog gf #[.string s, .int .i64 (k : Int)] W (fun e w' => e = .returned (.int .u8 (f s k)) ∧ W = w'))
    (a b : ByteArray) (ha : a.size ≤ 140737488355328) (hb : b.size ≤ 140737488355328) (w : World) :
    Calls Try.prog 180 #[.string a, .string b, .func (.func gf) #[] #[]] w fun e w' => e = .returned (.int .i64 (cg f a b a.size 0)) ∧ w = w' := by
  have hen : ∀ (args : Array Value) (W : World), (callFunc gf args).run Try.prog W = .ok (.enter gf args) W := hg
  have HA := Aside0.mk hA
  clear hA hg
  go_enter Try.func180, Try.ntmps180
  go_wp2
  go_loop [7] (fun v => ∃ k : Nat, k ≤ a.size ∧ v = .int .i64 (k : Int) ∧ Aside0 (cg f a b a.size 0 = cg f a b (a.size - k) k)) (fun v => a.size - (intOf v).toNat)
  case atStart => exact ⟨0, Nat.zero_le _, rfl, ⟨rfl⟩⟩
  case round =>
    obtain ⟨k, hk, rfl, HI⟩ := hrel
    by_cases h1 : k < a.size
    · have hd : a.size - k = (a.size - (k + 1)) + 1 := by omega
      have he := HI.out
      rw [hd, cg] at he
      by_cases h2 : k < b.size
      · by_cases h3 : f a k = f b k
        · rw [if_pos ⟨h2, h3⟩] at he
          have HE := Aside0.mk he
          have H3 := Aside0.mk h3
          have hbq : (f a k == f b k) = true := beq_iff_eq.2 h3
          clear he h3 hd
          go_wp2_with ((with_reducible refine ((HA.out _ _ _ (by assumption) (by assumption)).mono ?_)); rintro e w' ⟨rfl, rfl⟩)
          go_round
          case rel => exact ⟨k + 1, by omega, by go_num, ⟨HE.out⟩⟩
          case measure => simp [intOf]; omega
        · rw [if_neg (fun z => h3 z.2)] at he
          have HE := Aside0.mk he
          have hbq : (f a k == f b k) = false := beq_eq_false_iff_ne.2 h3
          clear he h3 hd
          go_wp2_with ((with_reducible refine ((HA.out _ _ _ (by assumption) (by assumption)).mono ?_)); rintro e w' ⟨rfl, rfl⟩)
          go_ret
          exact ⟨by rw [HE.out]; rfl, rfl⟩
      · rw [if_neg (fun z => h2 z.1)] at he
        have HE := Aside0.mk he
        clear he hd
        go_wp2
        go_ret
        exact ⟨by rw [HE.out]; rfl, rfl⟩
    · have he := HI.out
      rw [show a.size - k = 0 by omega, cg] at he
      have HE := Aside0.mk he
      clear he
      go_wp2
      go_ret
      exact ⟨by rw [HE.out]; rfl, rfl⟩
set_option maxHeartbeats 1000000 in
set_option maxRecDepth 100000 in
theorem delta_Diff1.calls (s : ByteArray) (hs : s.size ≤ 140737488355328) (k : Nat) (W : World) (hk : k < s.size) : Calls Try.prog 181 #[.string s, .int .i64 (k : Int)] W (fun e w' => e = .returned (.int .u8 (bt s (k : Int))) ∧ W = w') := by
  have hb := bt_at s (k : Int)
  go_enter Try.func181, Try.ntmps181
  go_wp2
  go_ret
  exact ⟨by rw [show s[k] = s[(k : Int).toNat]'(by omega) from rfl]; rw [← bt_at s (k : Int) (by omega)]; rfl, rfl⟩
set_option maxHeartbeats 1000000 in
set_option maxRecDepth 100000 in
theorem delta_Diff2.calls (s : ByteArray) (hs : s.size ≤ 140737488355328) (k : Nat) (W : World) (hk : k < s.size) : Calls Try.prog 182 #[.string s, .int .i64 (k : Int)] W (fun e w' => e = .returned (.int .u8 (bt s ((s.size - 1 - k : Nat) : Int))) ∧ W = w') := by
  have h0 : 0 ≤ (s.size : Int) - 1 - k := by omega
  have h1 : (s.size : Int) - 1 - k < s.size := by omega
  have h2 : ((s.size : Int) - 1 - k).toNat = s.size - 1 - k := by omega
  have h3 : s.size - 1 - k < s.size := by omega
  go_enter Try.func182, Try.ntmps182
  go_wp2
  go_ret
  exact ⟨by rw [← bt_at s ((s.size - 1 - k : Nat) : Int) (by omega)]; rfl, rfl⟩
set_option maxHeartbeats 1000000 in
set_option maxRecDepth 100000 in
theorem strings_Clone.calls (s : ByteArray) (hs : s.size ≤ 140737488355328) (w : World) : Calls Try.prog 183 #[.string s] w fun e w' => e = .returned (.string s) ∧ Below w.heap.size w w' := by
  go_enter Try.func183, Try.ntmps183
  go_wp2_with (go_at_call 204; refine (Try.stringslite_Clone s _ (by omega)).mono ?_; rintro e w1 ⟨rfl, hb⟩)
  go_ret
  exact ⟨rfl, hb⟩
set_option maxHeartbeats 1000000 in
set_option maxRecDepth 100000 in
theorem delta_Diff3.calls (a0 a1 : Int) (a2 : ByteArray) (w : World) :
    Calls Try.prog 185 #[.agg #[.int .u8 a0, .int .i64 a1, .string a2]] w fun e w' => e = .returned (.bool (!rightB a0 a1 a2)) ∧ Below w.heap.size w w' := by
  obtain ⟨k, hk⟩ := Ev.rounds (Q.vright a0 a1 a2)
  have K := Aside0.mk hk
  clear hk
  have hu153 := Try.underlying153
  go_enter Try.func185, Try.ntmps185
  go_wp2_with (go_at_call 172; refine (delta_Edit_right.calls k a0 a1 a2 _ _ K.out).mono ?_; rintro e w1 ⟨rfl, hb⟩)
  go_ret
  exact ⟨rfl, below_step (below_alloc (Below.refl _ _) _) hb⟩
def hdD (a b : ByteArray) : Nat := cg (fun s k => bt s (k : Int)) a b a.size 0
def tlD (a b : ByteArray) : Nat := cg (fun s k => bt s ((s.size - 1 - k : Nat) : Int)) a b a.size 0
/-- The four edits, of what is left behind the head. -/
def rowD (h : Nat) (a b : ByteArray) : List S153 := [⟨1, (h : Int), ⟨#[]⟩⟩, ⟨2, 0, b.extract 0 (b.size - tlD a b)⟩, ⟨3, (a.size : Int) - (tlD a b : Int), ⟨#[]⟩⟩, ⟨1, (tlD a b : Int), ⟨#[]⟩⟩]
def delta_Diff.f (a0 a1 : ByteArray) : Option (List S153) :=
  if a0.size ≤ 140737488351232 ∧ a1.size ≤ 140737488351232 then
    (delta_Normal.f 10 ((rowD (hdD a0 a1) (a0.extract (hdD a0 a1) a0.size) (a1.extract (hdD a0 a1) a1.size)).filter fun x => !(!rightB x.f0 x.f1 x.f2))).map (·.1)
  else none
set_option maxHeartbeats 4000000 in
set_option maxRecDepth 100000 in
theorem delta_Diff.calls (a0 a1 : ByteArray) (r : List S153) (w : World) (h : delta_Diff.f a0 a1 = some r) :
    Calls Try.prog 115 #[.string a0, .string a1] w fun e w' => ∃ v0_ : Value, e = .returned v0_ ∧ Kd.R k153 153 w' w.heap.size (fun _ => True) v0_ r ∧ Below w.heap.size w w' := by
  unfold delta_Diff.f at h
  split at h
  · rename_i hs
    obtain ⟨hs0, hs1⟩ := hs
    obtain ⟨⟨r1, r2⟩, hn, rfl⟩ := Option.map_eq_some_iff.1 h
    have HN := Aside0.mk hn
    clear h hn
    have hh := cg_le (fun s k => bt s (k : Int)) a0 a1 a0.size 0
    obtain ⟨hd, ehd⟩ : ∃ hd, hd = hdD a0 a1 := ⟨_, rfl⟩
    have hd0 : hd ≤ a0.size := by rw [ehd]; have := hh.2.1; unfold hdD; omega
    have hd1 : hd ≤ a1.size := by rw [ehd]; exact hh.2.2 (Nat.zero_le _)
    rw [← ehd] at HN
    have EHD := Aside0.mk ehd
    clear ehd hh
    obtain ⟨A, eA⟩ : ∃ A, A = a0.extract hd a0.size := ⟨_, rfl⟩
    obtain ⟨B, eB⟩ : ∃ B, B = a1.extract hd a1.size := ⟨_, rfl⟩
    rw [← eA, ← eB] at HN
    have sA : A.size ≤ 140737488355328 := by rw [eA, ByteArray.size_extract]; omega
    have sB : B.size ≤ 140737488355328 := by rw [eB, ByteArray.size_extract]; omega
    have ht := cg_le (fun s k => bt s ((s.size - 1 - k : Nat) : Int)) A B A.size 0
    obtain ⟨tl, etl⟩ : ∃ tl, tl = tlD A B := ⟨_, rfl⟩
    have tl0 : tl ≤ A.size := by rw [etl]; have := ht.2.1; unfold tlD; omega
    have tl1 : tl ≤ B.size := by rw [etl]; exact ht.2.2 (Nat.zero_le _)
    have ETL := Aside0.mk etl
    have EA := Aside0.mk eA
    have EB := Aside0.mk eB
    have HF : Aside0 (((rowD hd A B).filter fun x => !(!rightB x.f0 x.f1 x.f2)).length ≤ 4) := ⟨List.length_filter_le _ _⟩
    have HDel := Aside0.mk (show ∀ (g : Nat) (W : World), W.heap[g]? = some (.cells #[.int .u8 1, .int .i64 (hd : Int), .string ⟨#[]⟩, .int .u8 2, .int .i64 0, .string (B.extract 0 (B.size - tl)), .int .u8 3, .int .i64 ((A.size : Int) - (tl : Int)), .string ⟨#[]⟩, .int .u8 1, .int .i64 (tl : Int), .string ⟨#[]⟩] 153 (0, 0)) →
        Calls Try.prog 184 #[.slice (some ⟨g, 0, none⟩) 4 4, .func (.func 185) #[] #[]] W (fun e w' => e = .returned (.slice (some ⟨g, 0, none⟩) ((rowD hd A B).filter fun x => !(!rightB x.f0 x.f1 x.f2)).length 4) ∧ Kd.C k153 w' (some ⟨g, 0, none⟩) ((rowD hd A B).filter fun x => !(!rightB x.f0 x.f1 x.f2)).length ((rowD hd A B).filter fun x => !(!rightB x.f0 x.f1 x.f2)) ∧ W.grownBy w' (some g)) from fun g W hW =>
      slices_DeleteFunc153.calls 185 (fun x => !rightB x.f0 x.f1 x.f2) (fun x W => delta_Diff3.calls x.f0 x.f1 x.f2 W) (fun args W => enters_ Try.func185 (by kernel_rfl) rfl args W) g (rowD hd A B) (by simp [rowD]) W (by rw [hW, etl]; rfl))
    obtain ⟨F, eF⟩ : ∃ F, F = ((rowD hd A B).filter fun x => !(!rightB x.f0 x.f1 x.f2)) := ⟨_, rfl⟩
    rw [← eF] at HN HF HDel
    clear etl ht eF
    go_enter Try.func115, Try.ntmps115
    go_wp2_with (go_at_call 180; refine (delta_common.calls 181 (fun s k => bt s (k : Int)) (fun args W => enters_ Try.func181 (by kernel_rfl) rfl args W) (fun s k W hs hk => delta_Diff1.calls s hs k W hk) a0 a1 (by omega) (by omega) _).mono ?_; rintro e w1 ⟨rfl, rfl⟩; rw [show cg (fun s k => bt s (k : Int)) a0 a1 a0.size 0 = hd from EHD.out.symm])
    go_quiet (fail)
    rw [← eA, ← eB]
    clear eA eB
    go_wp2_with (first | (go_at_call 180; refine (delta_common.calls 182 (fun s k => bt s ((s.size - 1 - k : Nat) : Int)) (fun args W => enters_ Try.func182 (by kernel_rfl) rfl args W) (fun s k W hs hk => delta_Diff2.calls s hs k W hk) A B sA sB _).mono ?_; rintro e w1 ⟨rfl, rfl⟩; rw [show cg (fun s k => bt s ((s.size - 1 - k : Nat) : Int)) A B A.size 0 = tl from ETL.out.symm]) | (go_at_call 183; refine (strings_Clone.calls (B.extract 0 (B.size - tl)) (by rw [ByteArray.size_extract]; omega) _).mono ?_; rintro e w2 ⟨rfl, hb2⟩; have HB2 := Aside0.mk (below_then (pw_below_drewN (Below.refl w.heap.size w) _) (Nat.le_refl _) hb2); clear hb2) | (go_at_call 184; refine (HDel.out w2.heap.size _ (heap_alloc_new w2 _)).mono ?_; rintro e w3 ⟨rfl, hC, hg⟩; have HC3 := Aside0.mk hC; have HB3 := Aside0.mk (pw_below_grown (below_alloc HB2.out _) _ (below_size (below_alloc HB2.out _)) hg (fun k hk => by cases hk; exact below_size HB2.out)); clear hC hg) | (go_at_call 108; refine (delta_Normal.calls 10 (some ⟨w2.heap.size, 0, none⟩) 4 F r1 r2 _ HC3.out HF.out HN.out).mono ?_; rintro e w4 ⟨v4, rfl, ho, hb4⟩; have HO4 := Aside0.mk (Kd.R_lower ho (below_size HB3.out)); have HB4 := Aside0.mk (below_step HB3.out hb4); clear ho hb4))
    go_ret
    exact ⟨_, rfl, HO4.out, HB4.out⟩
  · cases h
end Go.Proofs.Ytoeabgeglgiobaa.P
