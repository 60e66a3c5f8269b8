/- A delta put to a text: by the program and by the reference alike. No condition but the bounds in each theorem. -/
import Derived.Test.Ytoeabgeglgiobaac5aQDsum
import Derived.Test.Ytoeabgeglgiobaac5aQVback
namespace Go.Proofs.Ytoeabgeglgiobaa.Q
open Go.RowKit Go.Proofs.YtoeabgeglgiobaaW.PrintWords Go.Proofs.YtoeabgeglgiobaaW.PrintLast Go.Proofs.YtoeabgeglgiobaaW.PrintMore
open Go.Proofs.Ytoeabgeglgiobaa.P
/-- What an edit adds. -/
def addE (rem : List UInt8) (x : Ed) : List UInt8 := if x.1 = 1 then rem.take (szE x.1 x.2.1 x.2.2).1.toNat else if x.1 = 2 then x.2.2.data.toList else []
def apR : List UInt8 → List UInt8 → List Ed → List UInt8
  | _, acc, [] => acc
  | rem, acc, x :: l => apR (rem.drop (szE x.1 x.2.1 x.2.2).1.toNat) (acc ++ addE rem x) l
theorem apL_apR : ∀ (L : List Ed) (rem acc : List UInt8), apL rem acc (L.map mk153) = if rightL L = true ∧ (szL L).1 = rem.length then (apR rem acc L, 0) else ([], 50) := by
  intro L
  induction L with
  | nil =>
    intro rem acc
    simp only [List.map_nil, apL, szL, apR, rightL, List.all_nil]
    by_cases h : rem = []
    · subst h; simp
    · rw [if_neg h, if_neg]
      rintro ⟨_, q⟩
      have : rem.length ≠ 0 := fun z => h (List.eq_nil_of_length_eq_zero z)
      omega
  | cons x l ih =>
    intro rem acc
    have hx := szE_bd x
    have hl : 0 ≤ (szL l).1 := by
      obtain ⟨m, hm⟩ : ∃ m, ∀ y ∈ l, y.2.2.size ≤ m := by
        clear ih
        induction l with
        | nil => exact ⟨0, by simp⟩
        | cons y l ih2 =>
          obtain ⟨m, hm⟩ := ih2
          exact ⟨m + y.2.2.size, fun z hz => (List.mem_cons.1 hz).elim (fun e => by subst e; omega) (fun q => by have := hm z q; omega)⟩
      exact (szL_bd m l hm).1
    have e1 : rightL (x :: l) = (rightB x.1 x.2.1 x.2.2 && rightL l) := rfl
    rw [List.map_cons, apL]
    show (if rightB x.1 x.2.1 x.2.2 = true ∧ (szE x.1 x.2.1 x.2.2).1 ≤ rem.length then apL (rem.drop (szE x.1 x.2.1 x.2.2).1.toNat) (acc ++ addE rem x) (l.map mk153) else ([], 50)) = _
    simp only [szL, e1, Bool.and_eq_true]
    by_cases h : rightB x.1 x.2.1 x.2.2 = true ∧ (szE x.1 x.2.1 x.2.2).1 ≤ rem.length
    · rw [if_pos h, ih, List.length_drop, apR]
      have e2 : ((szL l).1 = ((rem.length - (szE x.1 x.2.1 x.2.2).1.toNat : Nat) : Int)) ↔ (szE x.1 x.2.1 x.2.2).1 + (szL l).1 = rem.length := by omega
      by_cases h2 : rightL l = true ∧ (szE x.1 x.2.1 x.2.2).1 + (szL l).1 = rem.length
      · rw [if_pos ⟨h2.1, e2.2 h2.2⟩, if_pos ⟨⟨h.1, h2.1⟩, h2.2⟩]
      · rw [if_neg (fun z => h2 ⟨z.1, e2.1 z.2⟩), if_neg (fun z => h2 ⟨z.1.2, z.2⟩)]
    · rw [if_neg h, if_neg]
      rintro ⟨⟨q1, q2⟩, q3⟩
      exact h ⟨q1, by omega⟩
def apS (s : ByteArray) (L : List Ed) : ByteArray × Int := if rightL L = true ∧ (szL L).1 = s.size then (⟨(apR s.data.toList [] L).toArray⟩, 0) else (emptyS, 50)
theorem txtL_le (m : Nat) : ∀ (L : List Ed), (∀ x ∈ L, x.2.2.size ≤ m) → txtL (L.map mk153) ≤ m * L.length := by
  intro L
  induction L with
  | nil => intro _; simp [txtL]
  | cons x l ih =>
    intro h
    have := ih (fun y hy => h y (List.mem_cons_of_mem _ hy))
    have := h x (by simp)
    simp only [List.map_cons, txtL, List.length_cons, Nat.mul_add, Nat.mul_one, mk153]
    omega
theorem vApply (s : ByteArray) (L : List Ed) (h : s.size + txtL (L.map mk153) ≤ 140737488355328) : delta_Apply.f s (L.map mk153) = some (apS s L) := by
  unfold delta_Apply.f apS
  rw [if_pos h, apL_apR]
  have : (s.data.toList.length : Int) = s.size := by rw [data_length]
  rw [this]
  by_cases q : rightL L = true ∧ (szL L).1 = s.size
  · rw [if_pos q, if_pos q]
  · rw [if_neg q, if_neg q]; rfl
/-! The reference. -/
def nums (l : List UInt8) : List Int := l.map fun b => (b.toNat : Int)
theorem nums_append (a b : List UInt8) : nums (a ++ b) = nums a ++ nums b := List.map_append
theorem nums_length (a : List UInt8) : (nums a).length = a.length := List.length_map _
theorem strOf_nums (l : List UInt8) : strOfNums (nums l) = ⟨l.toArray⟩ := by
  have := strOfNums_bytesOf ⟨l.toArray⟩
  exact this
theorem bt_nums (s : ByteArray) (i : Nat) (h : i < s.size) : ∃ h' : i < s.data.toList.length, [bt s (i : Int)] = nums [s.data.toList[i]'h'] := by
  have h' : i < s.data.toList.length := by rw [data_length]; exact h
  refine ⟨h', ?_⟩
  rw [← bt_at s (i : Int) (by simpa using h)]
  rfl
theorem ap_keep (s : ByteArray) (Lm : List S226) (i : Nat) (hi : i < Lm.length) (r : ByteArray × Int) (hk : (rd_T226 Lm (i : Int)).f0 = 1) (hs : s.size ≤ 1000000) : ∀ (d j a : Nat) (acc : List UInt8), ((j : Int) + d = (rd_T226 Lm (i : Int)).f1) → a + d ≤ s.size → acc.length + d ≤ 1000000000 → j + d ≤ 1000000000000 →
    Ev (fun k => chartroomref05_Apply.l2 k s Lm (nums (acc ++ (s.data.toList.drop a).take d)) ((a + d : Nat) : Int) (i : Int) 0) r → Ev (fun k => chartroomref05_Apply.l1 k s Lm (nums acc) (a : Int) (i : Int) (j : Int)) r := by
  intro d
  induction d with
  | zero =>
    intro j a acc h1 h2 h3 h4 h
    refine ev_shift ?_
    simp only [chartroomref05_Apply.l1, if_pos (show (0 : Int) ≤ i by omega), if_pos (show (i : Int) < Lm.length by omega), if_neg (show ¬ (j : Int) < (rd_T226 Lm (i : Int)).f1 by omega)]
    simpa using h
  | succ d ih =>
    intro j a acc h1 h2 h3 h4 h
    obtain ⟨hb, eb⟩ := bt_nums s a (by omega)
    have next := ih (j + 1) (a + 1) (acc ++ [s.data.toList[a]]) (by omega) (by omega) (by simp only [List.length_append, List.length_singleton]; omega) (by omega) (by
      rw [List.drop_eq_getElem_cons hb, List.take_succ_cons] at h
      rw [show a + 1 + d = a + (d + 1) by omega]
      simpa using h)
    refine ev_shift ?_
    simp only [chartroomref05_Apply.l1, if_pos (show (0 : Int) ≤ i by omega), if_pos (show (i : Int) < Lm.length by omega), if_pos (show (j : Int) < (rd_T226 Lm (i : Int)).f1 by omega), if_pos hk, if_pos (show (0 : Int) ≤ a by omega), if_pos (show (a : Int) < s.size by omega), nums_length, if_pos (show acc.length < 140737488355328 by omega), eb, ← nums_append, w64 ((a : Int) + 1) (by omega) (by omega), w64 ((j : Int) + 1) (by omega) (by omega)]
    exact next
theorem ap_drop (s : ByteArray) (Lm : List S226) (i : Nat) (hi : i < Lm.length) (r : ByteArray × Int) (hk : ¬ (rd_T226 Lm (i : Int)).f0 = 1) (acc : List UInt8) : ∀ (d j a : Nat), ((j : Int) + d = (rd_T226 Lm (i : Int)).f1) → a + d ≤ 1000000000 → j + d ≤ 1000000000000 →
    Ev (fun k => chartroomref05_Apply.l2 k s Lm (nums acc) ((a + d : Nat) : Int) (i : Int) 0) r → Ev (fun k => chartroomref05_Apply.l1 k s Lm (nums acc) (a : Int) (i : Int) (j : Int)) r := by
  intro d
  induction d with
  | zero =>
    intro j a h1 h2 h3 h
    refine ev_shift ?_
    simp only [chartroomref05_Apply.l1, if_pos (show (0 : Int) ≤ i by omega), if_pos (show (i : Int) < Lm.length by omega), if_neg (show ¬ (j : Int) < (rd_T226 Lm (i : Int)).f1 by omega)]
    exact h
  | succ d ih =>
    intro j a h1 h2 h3 h
    have next := ih (j + 1) (a + 1) (by omega) (by omega) (by omega) (by rw [show a + 1 + d = a + (d + 1) by omega]; exact h)
    refine ev_shift ?_
    simp only [chartroomref05_Apply.l1, if_pos (show (0 : Int) ≤ i by omega), if_pos (show (i : Int) < Lm.length by omega), if_pos (show (j : Int) < (rd_T226 Lm (i : Int)).f1 by omega), if_neg hk, w64 ((a : Int) + 1) (by omega) (by omega), w64 ((j : Int) + 1) (by omega) (by omega)]
    exact next
theorem ap_text (s : ByteArray) (Lm : List S226) (i : Nat) (hi : i < Lm.length) (r : ByteArray × Int) (a : Int) (hl : Lm.length ≤ 1000000) : ∀ (d j : Nat) (acc : List UInt8), j + d = (rd_T226 Lm (i : Int)).f2.size → acc.length + d ≤ 1000000000 → j + d ≤ 1000000000 →
    Ev (fun k => chartroomref05_Apply.l0 k s Lm (nums (acc ++ (rd_T226 Lm (i : Int)).f2.data.toList.drop j)) a ((i + 1 : Nat) : Int)) r → Ev (fun k => chartroomref05_Apply.l2 k s Lm (nums acc) a (i : Int) (j : Int)) r := by
  intro d
  generalize ht : (rd_T226 Lm (i : Int)).f2 = t
  induction d with
  | zero =>
    intro j acc h1 h2 h3 h
    refine ev_shift ?_
    simp only [chartroomref05_Apply.l2, if_pos (show (0 : Int) ≤ i by omega), if_pos (show (i : Int) < Lm.length by omega), ht, if_neg (show ¬ (j : Int) < t.size by omega), w64 ((i : Int) + 1) (by omega) (by omega)]
    rw [List.drop_eq_nil_of_le (by rw [data_length]; omega), List.append_nil] at h
    exact h
  | succ d ih =>
    intro j acc h1 h2 h3 h
    obtain ⟨hb, eb⟩ := bt_nums t j (by omega)
    have next := ih (j + 1) (acc ++ [t.data.toList[j]]) (by omega) (by simp only [List.length_append, List.length_singleton]; omega) (by omega) (by
      rw [List.drop_eq_getElem_cons hb] at h
      simpa using h)
    refine ev_shift ?_
    simp only [chartroomref05_Apply.l2, if_pos (show (0 : Int) ≤ i by omega), if_pos (show (i : Int) < Lm.length by omega), ht, if_pos (show (j : Int) < t.size by omega), if_pos (show (0 : Int) ≤ j by omega), nums_length, if_pos (show acc.length < 140737488355328 by omega), eb, ← nums_append, w64 ((j : Int) + 1) (by omega) (by omega)]
    exact next
theorem szE_right (x : Ed) (h : rightB x.1 x.2.1 x.2.2 = true) : (x.1 = 2 ∧ x.2.1 = 0 ∧ (szE x.1 x.2.1 x.2.2).1 = 0) ∨ (x.1 ≠ 2 ∧ 0 < x.2.1 ∧ x.2.1 ≤ 2147483647 ∧ x.2.2.size = 0 ∧ (szE x.1 x.2.1 x.2.2).1 = x.2.1) := by
  unfold szE
  rw [if_pos h]
  rcases (rightB_cases x.1 x.2.1 x.2.2).1 h with ⟨h1, m, h2, h3, h4, h5⟩ | ⟨h1, h2, h3⟩
  · have : x.1 ≠ 2 := by omega
    rw [if_neg this]
    refine .inr ⟨this, by omega, by omega, h5, ?_⟩
    split <;> rfl
  · rw [if_pos h1]; exact .inl ⟨h1, h2, rfl⟩
theorem rApply_l0 (s : ByteArray) (L : List Ed) (m : Nat) (hs : s.size ≤ 1000000) (hl : L.length ≤ 1000) (hm : m ≤ 100000) (ht : ∀ x ∈ L, x.2.2.size ≤ m) (hr : rightL L = true) : ∀ (d i a : Nat) (acc : List UInt8), i + d = L.length → (a : Int) + (szL (L.drop i)).1 = s.size → acc.length ≤ a + m * i →
    Ev (fun k => chartroomref05_Apply.l0 k s (L.map mk226) (nums acc) (a : Int) (i : Int)) (⟨(apR (s.data.toList.drop a) acc (L.drop i)).toArray⟩, (0 : Int)) := by
  intro d
  induction d with
  | zero =>
    intro i a acc h _ _
    refine ev_shift ?_
    simp only [chartroomref05_Apply.l0, List.length_map, if_neg (show ¬ (i : Int) < L.length by omega), strOf_nums]
    have e0 : L.drop i = [] := List.drop_eq_nil_of_le (by omega)
    rw [e0, apR]
    exact Ev.now _
  | succ d ih =>
    intro i a acc h hsum hacc
    have hi : i < L.length := by omega
    have hx : rightB L[i].1 L[i].2.1 L[i].2.2 = true := List.all_eq_true.1 hr _ (List.getElem_mem hi)
    have htx := ht _ (List.getElem_mem hi)
    have hrest : 0 ≤ (szL (L.drop (i + 1))).1 := (szL_bd m _ (fun y hy => ht y (List.mem_of_mem_drop hy))).1
    have hget := get226 L i hi
    have him : i < (L.map mk226).length := by rw [List.length_map]; exact hi
    have hmi : m * i ≤ 100000 * 1000 := Nat.mul_le_mul hm (by omega)
    have hmi1 : m * (i + 1) = m * i + m := Nat.mul_succ m i
    rw [List.drop_eq_getElem_cons hi, szL] at hsum
    rw [List.drop_eq_getElem_cons hi, apR]
    refine ev_shift ?_
    simp only [chartroomref05_Apply.l0, List.length_map, if_pos (show (i : Int) < L.length by omega)]
    have hcs := szE_right L[i] hx
    generalize hxe : L[i] = x at *
    by_cases h1 : x.1 = 1
    · obtain ⟨_, n0, n1, tz, es⟩ := hcs.resolve_left (fun z => by have := z.1; omega)
      have etoN : ((szE x.1 x.2.1 x.2.2).1.toNat : Int) = x.2.1 := by omega
      generalize hn : (szE x.1 x.2.1 x.2.2).1.toNat = n at *
      refine ap_keep s (L.map mk226) i him _ (by rw [hget]; exact h1) hs n 0 a acc (by rw [hget]; simp only [mk226]; omega) (by omega) (by omega) (by omega) ?_
      refine ap_text s (L.map mk226) i him _ _ (by rw [List.length_map]; omega) 0 0 _ (by rw [hget]; simp only [mk226]; omega) (by simp only [List.length_append, List.length_take, List.length_drop, data_length]; omega) (by omega) ?_
      have hdn : (rd_T226 (L.map mk226) (i : Int)).f2.data.toList.drop 0 = [] := by
        rw [hget]
        exact List.eq_nil_of_length_eq_zero (by rw [List.length_drop, data_length]; simp only [mk226]; omega)
      rw [hdn, List.append_nil]
      have := ih (i + 1) (a + n) (acc ++ (s.data.toList.drop a).take n) (by omega) (by omega) (by simp only [List.length_append, List.length_take, List.length_drop, data_length]; omega)
      rw [List.drop_drop]
      have ea : addE (s.data.toList.drop a) x = (s.data.toList.drop a).take n := by unfold addE; rw [if_pos h1, hn]
      rw [ea]
      exact this
    · by_cases h2 : x.1 = 2
      · obtain ⟨_, n0, es⟩ := hcs.resolve_right (fun z => z.1 h2)
        rw [es, show (0 : Int).toNat = 0 from rfl, List.drop_zero]
        refine ap_drop s (L.map mk226) i him _ (by rw [hget]; exact h1) acc 0 0 a (by rw [hget]; simp only [mk226]; omega) (by omega) (by omega) ?_
        refine ap_text s (L.map mk226) i him _ _ (by rw [List.length_map]; omega) x.2.2.size 0 _ (by rw [hget]; simp only [mk226]; omega) (by omega) (by omega) ?_
        have ea : addE (s.data.toList.drop a) x = x.2.2.data.toList := by unfold addE; rw [if_neg h1, if_pos h2]
        have := ih (i + 1) a (acc ++ x.2.2.data.toList) (by omega) (by omega) (by simp only [List.length_append, data_length]; omega)
        rw [ea, hget]
        exact this
      · obtain ⟨_, n0, n1, tz, es⟩ := hcs.resolve_left (fun z => h2 z.1)
        have etoN : ((szE x.1 x.2.1 x.2.2).1.toNat : Int) = x.2.1 := by omega
        generalize hn : (szE x.1 x.2.1 x.2.2).1.toNat = n at *
        refine ap_drop s (L.map mk226) i him _ (by rw [hget]; exact h1) acc n 0 a (by rw [hget]; simp only [mk226]; omega) (by omega) (by omega) ?_
        refine ap_text s (L.map mk226) i him _ _ (by rw [List.length_map]; omega) 0 0 _ (by rw [hget]; simp only [mk226]; omega) (by omega) (by omega) ?_
        have hdn : (rd_T226 (L.map mk226) (i : Int)).f2.data.toList.drop 0 = [] := by
          rw [hget]
          exact List.eq_nil_of_length_eq_zero (by rw [List.length_drop, data_length]; simp only [mk226]; omega)
        rw [hdn, List.append_nil]
        have := ih (i + 1) (a + n) acc (by omega) (by omega) (by omega)
        rw [List.drop_drop]
        have ea : addE (s.data.toList.drop a) x = [] := by unfold addE; rw [if_neg h1, if_neg h2]
        rw [ea, List.append_nil]
        exact this
theorem rApply (s : ByteArray) (L : List Ed) (m : Nat) (hs : s.size ≤ 1000000) (hl : L.length ≤ 1000) (hm : m ≤ 100000) (ht : ∀ x ∈ L, x.2.2.size ≤ m) : Ev (fun k => chartroomref05_Apply.f k s (L.map mk226)) (apS s L) := by
  unfold chartroomref05_Apply.f apS
  refine Ev.bind (rSizes L m (by omega) hl ht) ?_
  refine Ev.bind (rRight L (by omega)) ?_
  by_cases h1 : rightL L = true
  · simp only [if_pos h1]
    refine ev_shift ?_
    by_cases h2 : (szL L).1 = s.size
    · simp only [chartroomref05_Apply.j0, h2, bne_self_eq_false, if_neg (show ¬ (false = true) by decide), if_pos (show rightL L = true ∧ True from ⟨h1, trivial⟩)]
      have := rApply_l0 s L m hs hl hm ht h1 L.length 0 0 [] (by omega) (by simpa using h2) (by simp)
      rw [List.drop_zero, List.drop_zero] at this
      exact this
    · have hb : ((szL L).1 != (s.size : Int)) = true := bne_iff_ne.2 h2
      simp only [chartroomref05_Apply.j0, hb, if_true]
      rw [if_neg (fun z => h2 z.2)]
      exact Ev.now _
  · simp only [if_neg h1]
    refine ev_shift ?_
    simp only [chartroomref05_Apply.j0, if_true]
    rw [if_neg (fun z => h1 z.1)]
    exact Ev.now _
end Go.Proofs.Ytoeabgeglgiobaa.Q
