/- The difference of two texts: by the program and by the reference alike; it makes the one of the other. Its condition: the texts' sizes. -/
import Derived.Test.Ytoeabgeglgiobaac5dQDst
import Derived.Test.Ytoeabgeglgiobaac5dQDnr
import Derived.Test.Ytoeabgeglgiobaac5dHdeltaDiff
namespace Go.Proofs.Ytoeabgeglgiobaa.Q
open Go.RowKit Go.Proofs.YtoeabgeglgiobaaW.PrintWords Go.Proofs.YtoeabgeglgiobaaW.PrintLast Go.Proofs.YtoeabgeglgiobaaW.PrintMore
open Go.Proofs.Ytoeabgeglgiobaa.P
theorem cg_same (f : ByteArray → Nat → Int) (a b : ByteArray) : ∀ (d k j : Nat), k ≤ j → j < cg f a b d k → f a j = f b j
  | 0, k, j, h1, h2 => by rw [cg] at h2; omega
  | d + 1, k, j, h1, h2 => by
    rw [cg] at h2
    split at h2
    · rename_i h
      rcases Nat.eq_or_lt_of_le h1 with rfl | h1
      · exact h.2
      · exact cg_same f a b d (k + 1) j h1 h2
    · omega
theorem bt_get (s : ByteArray) (i : Nat) (h : i < s.data.toList.length) : bt s (i : Int) = ((s.data.toList[i]).toNat : Int) := by
  rw [← bt_at s (i : Int) (by rw [data_length] at h; simpa using h)]
  rfl
theorem byte_eq {x y : UInt8} (h : ((x.toNat : Nat) : Int) = ((y.toNat : Nat) : Int)) : x = y := UInt8.toNat_inj.1 (by omega)
theorem extract_list (s : ByteArray) (i j : Nat) : (s.extract i j).data.toList = (s.data.toList.drop i).take (j - i) := by
  rw [ByteArray.data_extract, Array.toList_extract, List.extract_eq_take_drop]
theorem extract_to (s : ByteArray) (i : Nat) : (s.extract i s.size).data.toList = s.data.toList.drop i := by
  rw [extract_list, List.take_of_length_le (by rw [List.length_drop, data_length]; omega)]
/-- The head alike. -/
theorem head_same (a b : ByteArray) : a.data.toList.take (hdD a b) = b.data.toList.take (hdD a b) := by
  have hle := cg_le (fun s k => bt s (k : Int)) a b a.size 0
  have hs := cg_same (fun s k => bt s (k : Int)) a b a.size 0
  unfold hdD
  generalize cg (fun s k => bt s (k : Int)) a b a.size 0 = h at *
  have h1 := hle.2.1
  have h2 := hle.2.2 (Nat.zero_le _)
  refine List.ext_getElem (by rw [List.length_take, List.length_take, data_length, data_length]; omega) (fun i p q => ?_)
  rw [List.length_take] at p q
  rw [List.getElem_take, List.getElem_take]
  have := hs i (Nat.zero_le _) (by omega)
  rw [bt_get a i (by omega), bt_get b i (by omega)] at this
  exact byte_eq this
/-- The tail alike. -/
theorem tail_same (a b : ByteArray) : a.data.toList.drop (a.size - tlD a b) = b.data.toList.drop (b.size - tlD a b) := by
  have hle := cg_le (fun s k => bt s ((s.size - 1 - k : Nat) : Int)) a b a.size 0
  have hs := cg_same (fun s k => bt s ((s.size - 1 - k : Nat) : Int)) a b a.size 0
  unfold tlD
  generalize cg (fun s k => bt s ((s.size - 1 - k : Nat) : Int)) a b a.size 0 = h at *
  have h1 := hle.2.1
  have h2 := hle.2.2 (Nat.zero_le _)
  refine List.ext_getElem (by rw [List.length_drop, List.length_drop, data_length, data_length]; omega) (fun i p q => ?_)
  rw [List.length_drop, data_length] at p q
  rw [List.getElem_drop, List.getElem_drop]
  have := hs (h - 1 - i) (Nat.zero_le _) (by omega)
  rw [show a.size - 1 - (h - 1 - i) = a.size - h + i by omega, show b.size - 1 - (h - 1 - i) = b.size - h + i by omega, bt_get a _ (by rw [data_length]; omega), bt_get b _ (by rw [data_length]; omega)] at this
  exact byte_eq this
/-- The four edits. -/
def row4 (h : Nat) (a b : ByteArray) : List Ed := [(1, (h : Int), emptyS), (2, 0, b.extract 0 (b.size - tlD a b)), (3, (a.size : Int) - (tlD a b : Int), emptyS), (1, (tlD a b : Int), emptyS)]
theorem filter_mk (p : Int → Int → ByteArray → Bool) : ∀ (L : List Ed), (L.map mk153).filter (fun x => !(!p x.f0 x.f1 x.f2)) = (L.filter fun x => p x.1 x.2.1 x.2.2).map mk153
  | [] => rfl
  | x :: l => by
    have ih := filter_mk p l
    rw [List.map_cons, List.filter_cons, List.filter_cons]
    have e : (!(!p (mk153 x).f0 (mk153 x).f1 (mk153 x).f2)) = p x.1 x.2.1 x.2.2 := by rw [Bool.not_not]; rfl
    rw [e]
    split
    · rw [ih]; rfl
    · exact ih
def rowF (a b : ByteArray) : List Ed := (row4 (hdD a b) (a.extract (hdD a b) a.size) (b.extract (hdD a b) b.size)).filter rightE
theorem row_right (a b : ByteArray) : rightL (rowF a b) = true := List.all_eq_true.2 (fun _ hx => (List.mem_filter.1 hx).2)
theorem rowF_sub (a b : ByteArray) : (rowF a b).Sublist (row4 (hdD a b) (a.extract (hdD a b) a.size) (b.extract (hdD a b) b.size)) := List.filter_sublist
theorem tot_sub : ∀ (L M : List Ed), (∀ x ∈ M, 0 ≤ x.2.1) → L.Sublist M → totN L ≤ totN M ∧ totS L ≤ totS M := by
  intro L M hp h
  induction h with
  | slnil => exact ⟨Int.le_refl _, Nat.le_refl _⟩
  | cons x' _ ih =>
    have := ih (fun y hy => hp y (List.mem_cons_of_mem _ hy))
    have := hp x' (by simp)
    simp only [totN, totS]; omega
  | cons_cons x _ ih =>
    have := ih (fun y hy => hp y (List.mem_cons_of_mem _ hy))
    simp only [totN, totS]; omega
theorem sizes (a b : ByteArray) : hdD a b ≤ a.size ∧ hdD a b ≤ b.size ∧ tlD a b ≤ a.size ∧ tlD a b ≤ b.size := by
  have h := cg_le (fun s k => bt s (k : Int)) a b a.size 0
  have t := cg_le (fun s k => bt s ((s.size - 1 - k : Nat) : Int)) a b a.size 0
  exact ⟨by have := h.2.1; unfold hdD; omega, h.2.2 (Nat.zero_le _), by have := t.2.1; unfold tlD; omega, t.2.2 (Nat.zero_le _)⟩
theorem ex_size (s : ByteArray) (i j : Nat) (h : i ≤ j) (hj : j ≤ s.size) : (s.extract i j).size = j - i := by rw [ByteArray.size_extract]; omega
theorem rowF_tot (a b : ByteArray) : totN (rowF a b) ≤ a.size + a.size ∧ totS (rowF a b) ≤ b.size ∧ (rowF a b).length ≤ 4 := by
  obtain ⟨h1, h2, _, _⟩ := sizes a b
  obtain ⟨_, _, t1, t2⟩ := sizes (a.extract (hdD a b) a.size) (b.extract (hdD a b) b.size)
  have hs := tot_sub _ _ (by
    intro x hx
    simp only [row4, List.mem_cons, List.not_mem_nil, or_false] at hx
    rcases hx with rfl | rfl | rfl | rfl <;> simp only <;> omega) (rowF_sub a b)
  have hA := ex_size a (hdD a b) a.size h1 (Nat.le_refl _)
  have hB := ex_size b (hdD a b) b.size h2 (Nat.le_refl _)
  have hl := (rowF_sub a b).length_le
  unfold row4 at hs hl
  simp only [totN, totS, emptyS_size, List.length_cons, List.length_nil] at hs hl
  have e := ex_size (b.extract (hdD a b) b.size) 0 ((b.extract (hdD a b) b.size).size - tlD (a.extract (hdD a b) a.size) (b.extract (hdD a b) b.size)) (Nat.zero_le _) (Nat.sub_le _ _)
  refine ⟨by omega, by omega, hl⟩
theorem skip_filter (p : Ed → Bool) (f : St → Ed → St) : ∀ (L : List Ed), (∀ x ∈ L, p x = false → ∀ σ, f σ x = σ) → ∀ σ, (L.filter p).foldl f σ = L.foldl f σ
  | [], _, σ => rfl
  | x :: l, h, σ => by
    have ih := skip_filter p f l (fun y hy => h y (List.mem_cons_of_mem _ hy))
    rw [List.filter_cons]
    cases hx : p x with
    | true => simp only [if_true, List.foldl_cons]; exact ih _
    | false => simp only [if_neg (show ¬ (false = true) by decide), List.foldl_cons]; rw [h x (by simp) hx]; exact ih _
theorem row_does (a b : ByteArray) (ha : a.size ≤ 2000000000) : szL (rowF a b) = ((a.size : Int), (b.size : Int)) ∧ apR a.data.toList [] (rowF a b) = b.data.toList := by
  obtain ⟨h1, h2, _, _⟩ := sizes a b
  obtain ⟨_, _, t1, t2⟩ := sizes (a.extract (hdD a b) a.size) (b.extract (hdD a b) b.size)
  have hA := ex_size a (hdD a b) a.size h1 (Nat.le_refl _)
  have hB := ex_size b (hdD a b) b.size h2 (Nat.le_refl _)
  have hH := head_same a b
  have hT := tail_same (a.extract (hdD a b) a.size) (b.extract (hdD a b) b.size)
  rw [extract_to, extract_to, hA, hB] at hT
  have hsk : ∀ σ, (rowF a b).foldl stE σ = (row4 (hdD a b) (a.extract (hdD a b) a.size) (b.extract (hdD a b) b.size)).foldl stE σ := by
    refine skip_filter rightE stE _ ?_
    intro x hx hr σ
    have key : ∀ n : Int, 0 ≤ n → n ≤ 2147483647 → ∀ kd, (kd = 1 ∨ kd = 3) → rightE (kd, n, emptyS) = false → n = 0 := by
      intro n n0 n1 kd hk h
      unfold rightE rightB at h
      rw [if_pos hk] at h
      have := of_decide_eq_false h
      rcases Int.lt_or_eq_of_le n0 with q | q
      · exact absurd ⟨q, n1, rfl⟩ this
      · exact q.symm
    simp only [row4, List.mem_cons, List.not_mem_nil, or_false] at hx
    rcases hx with rfl | rfl | rfl | rfl
    · have := key _ (by omega) (by omega) 1 (.inl rfl) hr
      simp [stE, this]
    · unfold rightE rightB at hr
      have : (b.extract (hdD a b) b.size).extract 0 ((b.extract (hdD a b) b.size).size - tlD (a.extract (hdD a b) a.size) (b.extract (hdD a b) b.size)) = emptyS := by
        refine emptyS_of ?_
        simpa using hr
      rw [this]
      simp [stE, emptyS_size, show emptyS.data.toList = [] from rfl]
    · have := key _ (by omega) (by omega) 3 (.inr rfl) hr
      simp only [stE, if_neg (show ¬ (3 : Int) = 2 by decide), if_true]
      rw [this]
      simp
    · have := key _ (by omega) (by omega) 1 (.inl rfl) hr
      simp [stE, this]
  obtain ⟨rem', hrun⟩ := run_right (rowF a b) a.data.toList [] 0 0 (row_right a b)
  rw [hsk] at hrun
  clear hsk
  generalize rowF a b = F at *
  unfold row4 at hrun
  have hex : ((b.extract (hdD a b) b.size).extract 0 ((b.extract (hdD a b) b.size).size - tlD (a.extract (hdD a b) a.size) (b.extract (hdD a b) b.size))).data.toList = (b.data.toList.drop (hdD a b)).take (b.size - hdD a b - tlD (a.extract (hdD a b) a.size) (b.extract (hdD a b) b.size)) := by
    rw [extract_list, extract_to, hB]; rfl
  simp only [List.foldl_cons, List.foldl_nil, stE, if_neg (show ¬ (1 : Int) = 2 by decide), if_neg (show ¬ (1 : Int) = 3 by decide), if_true, if_neg (show ¬ (3 : Int) = 2 by decide), hex] at hrun
  have hbs : ((b.extract (hdD a b) b.size).extract 0 ((b.extract (hdD a b) b.size).size - tlD (a.extract (hdD a b) a.size) (b.extract (hdD a b) b.size))).size = b.size - hdD a b - tlD (a.extract (hdD a b) a.size) (b.extract (hdD a b) b.size) := by
    rw [ex_size _ _ _ (Nat.zero_le _) (Nat.sub_le _ _), hB]; rfl
  rw [hbs, hA] at hrun
  rw [hA] at t1
  rw [hB] at t2
  generalize htl : tlD (a.extract (hdD a b) a.size) (b.extract (hdD a b) b.size) = tl at *
  generalize hhd : hdD a b = hd at *
  simp only [Prod.mk.injEq, Int.zero_add, List.nil_append] at hrun
  obtain ⟨_, r1, r2, r3⟩ := hrun
  refine ⟨Prod.ext (by rw [← r2]; simp only; omega) (by rw [← r3]; simp only; omega), ?_⟩
  rw [← r1]
  have e1 : ((hd : Int)).toNat = hd := rfl
  have e2 : (((a.size - hd : Nat) : Int) - (tl : Int)).toNat = a.size - hd - tl := by omega
  have e3 : ((tl : Int)).toNat = tl := rfl
  rw [e1, e2, e3, hT, hH, List.take_of_length_le (l := (b.data.toList.drop hd).drop _) (by rw [List.length_drop, List.length_drop, data_length]; omega), List.append_assoc, List.take_append_drop, List.take_append_drop]
/-- The difference. -/
def dif (a b : ByteArray) : List Ed := nf (rowF a b)
theorem nrm_row (a b : ByteArray) (ha : a.size ≤ 1000000) : nrm (rowF a b) = (dif a b, 0) := by
  unfold nrm dif
  have := (rowF_tot a b).1
  rw [if_pos (row_right a b), if_pos (nf_right _ (row_right a b) (by omega))]
theorem vDiff (a b : ByteArray) (ha : a.size ≤ 1000000) (hb : b.size ≤ 1000000) : delta_Diff.f a b = some ((dif a b).map mk153) := by
  obtain ⟨k1, k2, k3⟩ := rowF_tot a b
  unfold delta_Diff.f
  rw [if_pos ⟨by omega, by omega⟩]
  have e : (rowD (hdD a b) (a.extract (hdD a b) a.size) (b.extract (hdD a b) b.size)).filter (fun x => !(!rightB x.f0 x.f1 x.f2)) = (rowF a b).map mk153 :=
    filter_mk rightB (row4 (hdD a b) (a.extract (hdD a b) a.size) (b.extract (hdD a b) b.size))
  rw [e, vNormal_at (rowF a b) (by omega) (by omega) 10 (by omega), nrm_row a b ha]
  rfl
theorem dif_right (a b : ByteArray) (ha : a.size ≤ 1000000) : rightL (dif a b) = true := nf_right _ (row_right a b) (by have := (rowF_tot a b).1; omega)
theorem dif_sizes (a b : ByteArray) (ha : a.size ≤ 1000000) : szL (dif a b) = ((a.size : Int), (b.size : Int)) := by
  rw [dif, (nf_does _ (row_right a b) (dif_right a b ha)).1, (row_does a b (by omega)).1]
theorem dif_applies (a b : ByteArray) (ha : a.size ≤ 1000000) : apS a (dif a b) = (b, 0) := by
  rw [dif, (nf_does _ (row_right a b) (dif_right a b ha)).2]
  unfold apS
  have := row_does a b (by omega)
  rw [if_pos ⟨row_right a b, by rw [this.1]⟩, this.2]
theorem dif_normal (a b : ByteArray) (ha : a.size ≤ 1000000) : nrm (dif a b) = (dif a b, 0) := by
  unfold nrm
  have e : nf (dif a b) = dif a b := nf_idem _ (rightL_wr (row_right a b))
  rw [e, if_pos (dif_right a b ha), if_pos (dif_right a b ha)]
theorem dif_len (a b : ByteArray) : (dif a b).length ≤ 4 ∧ totS (dif a b) ≤ b.size := by
  have h := nf_reach _ (rowF a b) (Nat.lt_succ_self _) (rightL_wr (row_right a b))
  have f := nf_facts (rowF a b) (rightL_wr (row_right a b))
  have t := rowF_tot a b
  exact ⟨Nat.le_trans h.2.1 t.2.2, by rw [dif, f.2.2.1]; exact t.2.1⟩
/-! The reference's. -/
theorem bt_ex (s : ByteArray) (h i : Nat) (hi : h + i < s.size) : bt (s.extract h s.size) (i : Int) = bt s ((h + i : Nat) : Int) := by
  have e := extract_to s h
  rw [bt_get _ i (by rw [e, List.length_drop, data_length]; omega), bt_get s (h + i) (by rw [data_length]; omega)]
  simp only [e, List.getElem_drop]
theorem rDiff_l0 (a b : ByteArray) (r : List S226) (hs : a.size ≤ 1000000) : ∀ (d k : Nat), k + d = a.size → Ev (fun n => chartroomref05_Diff.j1 n a b ((cg (fun s k => bt s (k : Int)) a b d k : Nat) : Int)) r → Ev (fun n => chartroomref05_Diff.l0 n a b (k : Int)) r := by
  intro d
  induction d with
  | zero =>
    intro k h hr
    refine ev_shift ?_
    simp only [chartroomref05_Diff.l0, if_neg (show ¬ (k : Int) < a.size by omega)]
    exact hr
  | succ d ih =>
    intro k h hr
    refine ev_shift ?_
    rw [cg] at hr
    by_cases h1 : k < b.size
    · by_cases h2 : bt a (k : Int) = bt b (k : Int)
      · rw [if_pos ⟨h1, h2⟩] at hr
        simp only [chartroomref05_Diff.l0, if_pos (show (k : Int) < a.size by omega), if_pos (show (k : Int) < b.size by omega), if_pos (show (0 : Int) ≤ k by omega), if_pos h2, w64 ((k : Int) + 1) (by omega) (by omega)]
        exact ih (k + 1) (by omega) hr
      · rw [if_neg (fun z => h2 z.2)] at hr
        simp only [chartroomref05_Diff.l0, if_pos (show (k : Int) < a.size by omega), if_pos (show (k : Int) < b.size by omega), if_pos (show (0 : Int) ≤ k by omega), if_neg h2]
        exact hr
    · rw [if_neg (fun z => h1 z.1)] at hr
      simp only [chartroomref05_Diff.l0, if_pos (show (k : Int) < a.size by omega), if_neg (show ¬ (k : Int) < b.size by omega)]
      exact hr
theorem rDiff_l1 (a b : ByteArray) (h : Nat) (r : List S226) (ha : h ≤ a.size) (hb : h ≤ b.size) (hs : a.size ≤ 1000000) (hs2 : b.size ≤ 1000000) : ∀ (d k : Nat), k + d = a.size - h →
    Ev (fun n => chartroomref05_Diff.j3 n a b (h : Int) ((cg (fun s k => bt s ((s.size - 1 - k : Nat) : Int)) (a.extract h a.size) (b.extract h b.size) d k : Nat) : Int)) r → Ev (fun n => chartroomref05_Diff.l1 n a b (h : Int) (k : Int)) r := by
  have hA := ex_size a h a.size ha (Nat.le_refl _)
  have hB := ex_size b h b.size hb (Nat.le_refl _)
  intro d
  induction d with
  | zero =>
    intro k hk hr
    refine ev_shift ?_
    simp only [chartroomref05_Diff.l1, w64 ((a.size : Int) - h) (by omega) (by omega), if_neg (show ¬ (k : Int) < (a.size : Int) - h by omega)]
    exact hr
  | succ d ih =>
    intro k hk hr
    refine ev_shift ?_
    rw [cg, hB] at hr
    have w1 : wrap64 ((a.size : Int) - h) = (a.size : Int) - h := w64 _ (by omega) (by omega)
    have w2 : wrap64 ((b.size : Int) - h) = (b.size : Int) - h := w64 _ (by omega) (by omega)
    by_cases h1 : k < b.size - h
    · have w3 : wrap64 (wrap64 ((a.size : Int) - 1) - k) = ((a.size - 1 - k : Nat) : Int) := by rw [w64 ((a.size : Int) - 1) (by omega) (by omega), w64 _ (by omega) (by omega)]; omega
      have w4 : wrap64 (wrap64 ((b.size : Int) - 1) - k) = ((b.size - 1 - k : Nat) : Int) := by rw [w64 ((b.size : Int) - 1) (by omega) (by omega), w64 _ (by omega) (by omega)]; omega
      have g1 : bt (a.extract h a.size) (((a.extract h a.size).size - 1 - k : Nat) : Int) = bt a ((a.size - 1 - k : Nat) : Int) := by
        rw [hA, bt_ex a h _ (by omega), show h + (a.size - h - 1 - k) = a.size - 1 - k by omega]
      have g2 : bt (b.extract h b.size) ((b.size - h - 1 - k : Nat) : Int) = bt b ((b.size - 1 - k : Nat) : Int) := by
        rw [bt_ex b h _ (by omega), show h + (b.size - h - 1 - k) = b.size - 1 - k by omega]
      rw [g1, g2] at hr
      by_cases h2 : bt a ((a.size - 1 - k : Nat) : Int) = bt b ((b.size - 1 - k : Nat) : Int)
      · rw [if_pos ⟨h1, h2⟩] at hr
        simp only [chartroomref05_Diff.l1, w1, w2, w3, w4, if_pos (show (k : Int) < (a.size : Int) - h by omega), if_pos (show (k : Int) < (b.size : Int) - h by omega), if_pos (show (0 : Int) ≤ ((a.size - 1 - k : Nat) : Int) by omega), if_pos (show ((a.size - 1 - k : Nat) : Int) < a.size by omega), if_pos (show (0 : Int) ≤ ((b.size - 1 - k : Nat) : Int) by omega), if_pos (show ((b.size - 1 - k : Nat) : Int) < b.size by omega), if_pos h2, w64 ((k : Int) + 1) (by omega) (by omega)]
        exact ih (k + 1) (by omega) hr
      · rw [if_neg (fun z => h2 z.2)] at hr
        simp only [chartroomref05_Diff.l1, w1, w2, w3, w4, if_pos (show (k : Int) < (a.size : Int) - h by omega), if_pos (show (k : Int) < (b.size : Int) - h by omega), if_pos (show (0 : Int) ≤ ((a.size - 1 - k : Nat) : Int) by omega), if_pos (show ((a.size - 1 - k : Nat) : Int) < a.size by omega), if_pos (show (0 : Int) ≤ ((b.size - 1 - k : Nat) : Int) by omega), if_pos (show ((b.size - 1 - k : Nat) : Int) < b.size by omega), if_neg h2]
        exact hr
    · rw [if_neg (fun z => h1 z.1)] at hr
      simp only [chartroomref05_Diff.l1, w1, w2, if_pos (show (k : Int) < (a.size : Int) - h by omega), if_neg (show ¬ (k : Int) < (b.size : Int) - h by omega)]
      exact hr
theorem keep1 (kd n : Int) (hk : kd = 1 ∨ kd = 3) (n1 : n ≤ 2147483647) (l : List Ed) : ((kd, n, emptyS) :: l).filter rightE = (if 0 < n then [(kd, n, emptyS)] else []) ++ l.filter rightE := by
  rw [List.filter_cons]
  have e : rightE (kd, n, emptyS) = decide (0 < n) := by
    unfold rightE rightB
    rw [if_pos hk, decide_eq_decide]
    exact ⟨fun z => z.1, fun z => ⟨z, n1, rfl⟩⟩
  rw [e]
  by_cases h : 0 < n
  · rw [decide_eq_true h, if_pos rfl, if_pos h]; rfl
  · rw [decide_eq_false h, if_neg (by decide), if_neg h]; rfl
theorem keep2 (s : ByteArray) (l : List Ed) : (((2 : Int), (0 : Int), s) :: l).filter rightE = (if 0 < s.size then [((2 : Int), (0 : Int), s)] else []) ++ l.filter rightE := by
  rw [List.filter_cons]
  have e : rightE ((2 : Int), (0 : Int), s) = decide (0 < s.size) := by
    unfold rightE rightB
    rw [if_neg (show ¬ ((2 : Int) = 1 ∨ (2 : Int) = 3) by decide), decide_eq_decide]
    exact ⟨fun z => by have := z.2.2; simp only at this; omega, fun z => ⟨rfl, rfl, by simp only; omega⟩⟩
  rw [e]
  by_cases h : 0 < s.size
  · rw [decide_eq_true h, if_pos rfl, if_pos h]; rfl
  · rw [decide_eq_false h, if_neg (by decide), if_neg h]; rfl
theorem rowF_eq (a b : ByteArray) (ha : a.size ≤ 1000000) : ∃ h t : Nat, h = hdD a b ∧ t = tlD (a.extract h a.size) (b.extract h b.size) ∧ h + t ≤ a.size ∧ h + t ≤ b.size ∧
    rowF a b = (if 0 < (h : Int) then [((1 : Int), (h : Int), emptyS)] else []) ++ ((if (b.size : Int) > (h : Int) + t then [((2 : Int), (0 : Int), b.extract h (b.size - t))] else []) ++ ((if (a.size : Int) > (h : Int) + t then [((3 : Int), (a.size : Int) - h - t, emptyS)] else []) ++ (if 0 < (t : Int) then [((1 : Int), (t : Int), emptyS)] else []))) := by
  refine ⟨hdD a b, tlD (a.extract (hdD a b) a.size) (b.extract (hdD a b) b.size), rfl, rfl, ?_⟩
  obtain ⟨h1, h2, _, _⟩ := sizes a b
  obtain ⟨_, _, t1, t2⟩ := sizes (a.extract (hdD a b) a.size) (b.extract (hdD a b) b.size)
  have hA := ex_size a (hdD a b) a.size h1 (Nat.le_refl _)
  have hB := ex_size b (hdD a b) b.size h2 (Nat.le_refl _)
  have hC := ex_size (b.extract (hdD a b) b.size) 0 ((b.extract (hdD a b) b.size).size - tlD (a.extract (hdD a b) a.size) (b.extract (hdD a b) b.size)) (Nat.zero_le _) (Nat.sub_le _ _)
  have hE : ∀ T, T ≤ b.size - hdD a b → (b.extract (hdD a b) b.size).extract 0 ((b.extract (hdD a b) b.size).size - T) = b.extract (hdD a b) (b.size - T) := by
    intro T hT
    rw [ByteArray.extract_extract, hB, Nat.add_zero, show min (hdD a b + (b.size - hdD a b - T)) b.size = b.size - T by omega]
  refine ⟨by omega, by omega, ?_⟩
  unfold rowF row4
  rw [keep1 1 _ (.inl rfl) (by omega), keep2, keep1 3 _ (.inr rfl) (by omega), keep1 1 _ (.inl rfl) (by omega), List.filter_nil, List.append_nil, hC, hE _ (by rw [← hB]; exact t2), hA, hB]
  rw [hA] at t1
  rw [hB] at t2
  generalize tlD (a.extract (hdD a b) a.size) (b.extract (hdD a b) b.size) = t at *
  generalize hdD a b = h at *
  have q2 : (0 < b.size - h - t - 0) ↔ ((b.size : Int) > (h : Int) + t) := by omega
  have q3 : (0 < (a.size : Int) - h - t) ↔ ((a.size : Int) > (h : Int) + t) := by omega
  have q4 : ((a.size - h : Nat) : Int) - (t : Int) = (a.size : Int) - h - t := by omega
  simp only [q2, q3, q4]
theorem rDiff_j5 (a : ByteArray) (h t : Nat) (out : List Ed) (r : List S226) (hs : a.size ≤ 1000000) (hh : h + t ≤ a.size) (ho : out.length ≤ 100)
    (hn : Ev (fun k => chartroomref05_Normal.f k ((out ++ ((if (a.size : Int) > (h : Int) + t then [((3 : Int), (a.size : Int) - h - t, emptyS)] else []) ++ (if 0 < (t : Int) then [((1 : Int), (t : Int), emptyS)] else []))).map mk226)) (r, 0)) :
    Ev (fun k => chartroomref05_Diff.j5 k a (h : Int) (t : Int) (out.map mk226)) r := by
  refine ev_shift ?_
  have w1 : wrap64 ((h : Int) + t) = (h : Int) + t := w64 _ (by omega) (by omega)
  have w2 : wrap64 (wrap64 ((a.size : Int) - h) - t) = (a.size : Int) - h - t := by rw [w64 ((a.size : Int) - h) (by omega) (by omega), w64 _ (by omega) (by omega)]
  by_cases c1 : (a.size : Int) > (h : Int) + t
  · rw [if_pos c1] at hn
    by_cases c2 : (0 : Int) < t
    · rw [if_pos c2] at hn
      simp only [chartroomref05_Diff.j5, w1, w2, if_pos c1, List.length_map, if_pos (show out.length < 4398046511104 by omega), Option.bind_some, if_pos (show (t : Int) > 0 from c2), List.length_append, List.length_singleton, if_pos (show out.length + 1 < 4398046511104 by omega)]
      refine Ev.bind (?_ : Ev _ (r, (0 : Int))) (Ev.now _)
      simpa [mk226, emptyS] using hn
    · rw [if_neg c2] at hn
      simp only [chartroomref05_Diff.j5, w1, w2, if_pos c1, List.length_map, if_pos (show out.length < 4398046511104 by omega), Option.bind_some, if_neg (show ¬ (t : Int) > 0 from c2)]
      refine Ev.bind (?_ : Ev _ (r, (0 : Int))) (Ev.now _)
      simpa [mk226, emptyS] using hn
  · rw [if_neg c1] at hn
    by_cases c2 : (0 : Int) < t
    · rw [if_pos c2] at hn
      simp only [chartroomref05_Diff.j5, w1, w2, if_neg c1, List.length_map, if_pos (show out.length < 4398046511104 by omega), if_pos (show (t : Int) > 0 from c2)]
      refine Ev.bind (?_ : Ev _ (r, (0 : Int))) (Ev.now _)
      simpa [mk226, emptyS] using hn
    · rw [if_neg c2] at hn
      simp only [chartroomref05_Diff.j5, w1, w2, if_neg c1, if_neg (show ¬ (t : Int) > 0 from c2)]
      refine Ev.bind (?_ : Ev _ (r, (0 : Int))) (Ev.now _)
      simpa [mk226, emptyS] using hn
theorem rDiff_j4 (a b : ByteArray) (h t : Nat) (out : List Ed) (r : List S226) (hs : a.size ≤ 1000000) (hs2 : b.size ≤ 1000000) (hh : h + t ≤ a.size) (hh2 : h + t ≤ b.size) (ho : out.length ≤ 50)
    (hn : Ev (fun k => chartroomref05_Normal.f k ((out ++ ((if (b.size : Int) > (h : Int) + t then [((2 : Int), (0 : Int), b.extract h (b.size - t))] else []) ++ ((if (a.size : Int) > (h : Int) + t then [((3 : Int), (a.size : Int) - h - t, emptyS)] else []) ++ (if 0 < (t : Int) then [((1 : Int), (t : Int), emptyS)] else [])))).map mk226)) (r, 0)) :
    Ev (fun k => chartroomref05_Diff.j4 k a b (h : Int) (t : Int) (out.map mk226)) r := by
  refine ev_shift ?_
  have w1 : wrap64 ((h : Int) + t) = (h : Int) + t := w64 _ (by omega) (by omega)
  have w2 : wrap64 ((b.size : Int) - t) = ((b.size - t : Nat) : Int) := by rw [w64 _ (by omega) (by omega)]; omega
  by_cases c1 : (b.size : Int) > (h : Int) + t
  · rw [if_pos c1, ← List.append_assoc] at hn
    simp only [chartroomref05_Diff.j4, w1, w2, if_pos c1, List.length_map, if_pos (show (0 : Int) ≤ h by omega), if_pos (show (h : Int) ≤ ((b.size - t : Nat) : Int) by omega), if_pos (show ((b.size - t : Nat) : Int) ≤ b.size by omega), if_pos (show out.length < 4398046511104 by omega)]
    have := rDiff_j5 a h t _ r hs hh (by simp only [List.length_append, List.length_singleton]; omega) hn
    rw [List.map_append] at this
    exact this
  · rw [if_neg c1, List.nil_append] at hn
    simp only [chartroomref05_Diff.j4, w1, w2, if_neg c1]
    exact rDiff_j5 a h t _ r hs hh (by omega) hn
theorem rDiff (a b : ByteArray) (ha : a.size ≤ 1000000) (hb : b.size ≤ 1000000) : Ev (fun k => chartroomref05_Diff.f k a b) ((dif a b).map mk226) := by
  obtain ⟨k1, k2, k3⟩ := rowF_tot a b
  have hn := rNormal (rowF a b) (by omega) (by omega)
  rw [nrm_row a b ha] at hn
  obtain ⟨h, t, eh, et, s1, s2, er⟩ := rowF_eq a b ha
  rw [er] at hn
  unfold chartroomref05_Diff.f
  refine rDiff_l0 a b _ ha a.size 0 (by omega) ?_
  show Ev (fun n => chartroomref05_Diff.j1 n a b ((hdD a b : Nat) : Int)) _
  rw [← eh]
  refine ev_shift ?_
  simp only [chartroomref05_Diff.j1]
  have hA := ex_size a h a.size (by omega) (Nat.le_refl _)
  refine rDiff_l1 a b h _ (by omega) (by omega) ha hb (a.size - h) 0 (by omega) ?_
  have et' : t = cg (fun s k => bt s ((s.size - 1 - k : Nat) : Int)) (a.extract h a.size) (b.extract h b.size) (a.size - h) 0 := by rw [et, tlD, hA]
  rw [← et']
  refine ev_shift ?_
  by_cases c0 : (h : Int) > 0
  · rw [if_pos c0] at hn
    simp only [chartroomref05_Diff.j3, if_pos c0, List.length_nil, if_pos (show 0 < 4398046511104 by decide)]
    exact rDiff_j4 a b h t [((1 : Int), (h : Int), emptyS)] _ ha hb s1 s2 (by simp) hn
  · rw [if_neg c0] at hn
    simp only [chartroomref05_Diff.j3, if_neg c0]
    exact rDiff_j4 a b h t [] _ ha hb s1 s2 (by simp) hn
end Go.Proofs.Ytoeabgeglgiobaa.Q
