/- What is written of edits is parsed as it was; what is parsed, written again, is the bytes that were parsed. No condition but the bounds in each theorem. -/
import Derived.Test.Ytoeabgeglgiobaac5bQDsum
import Derived.Test.Ytoeabgeglgiobaac5bQVback
namespace Go.Proofs.Ytoeabgeglgiobaa.Q
open Go.RowKit Go.Proofs.YtoeabgeglgiobaaW.PrintWords Go.Proofs.YtoeabgeglgiobaaW.PrintLast Go.Proofs.YtoeabgeglgiobaaW.PrintMore
open Go.Proofs.Ytoeabgeglgiobaa.P
theorem take_at (b : List Int) (hb : Bytes b) (a : Nat) (h : (Q.take b (a : Int)).2.2 = 0) : ∃ n : Nat, (Q.take b (a : Int)).2.1 = ((a + n : Nat) : Int) ∧ a + n ≤ b.length ∧ putL (Q.take b (a : Int)).1.toNat = (b.drop a).take n := by
  have bd := take_bd b hb a h
  have hal : a < b.length := by omega
  have e1 : Q.take b (a : Int) = fin (a : Int) (tkL (b.drop a) 0 0) := by
    unfold Q.take
    rw [if_neg (by omega), Int.toNat_natCast]
  have e2 : Q.take (b.drop a) 0 = fin 0 (tkL (b.drop a) 0 0) := by
    unfold Q.take
    rw [if_neg (by rw [List.length_drop]; omega)]
    rfl
  rw [e1] at h bd ⊢
  have hk := take_back (b.drop a) (hb.drop a)
  rw [e2] at hk
  unfold fin at h bd hk ⊢
  by_cases h1 : (tkL (b.drop a) 0 0).2.2 = 0
  · rw [if_pos h1] at bd hk ⊢
    have := hk rfl
    refine ⟨(tkL (b.drop a) 0 0).2.1, by simp only; omega, by simp only at bd; omega, ?_⟩
    rw [this]
    congr 1
    simp only; omega
  · rw [if_neg h1] at h
    simp only at h
    omega
theorem bytesOf_strOf (l : List Int) (h : Bytes l) : bytesOf (strOfNums l) = l := by
  unfold bytesOf strOfNums
  rw [List.map_map]
  conv => rhs; rw [← List.map_id l]
  refine List.map_congr_left (fun x hx => ?_)
  have := h x hx
  simp only [Function.comp, id]
  rw [UInt8.toNat_ofNat_of_lt' (by change x.toNat < 256; omega)]
  omega
theorem cut_drop {α : Type} (l : List α) (i n : Nat) : l.drop i = (l.drop i).take n ++ l.drop (i + n) := by
  have h := (List.take_append_drop n (l.drop i)).symm
  rw [List.drop_drop] at h
  exact h
/-- One edit that is read is right, and is written as it stood. -/
theorem pstep_back (b : List Int) (hb : Bytes b) (hs : b.length ≤ 1000000) (a : Nat) (ha : a < b.length) (h : (pstep b (a : Int)).1 = 0) :
    rightE (pstep b (a : Int)).2.1 = true ∧ ∃ n : Nat, (pstep b (a : Int)).2.2 = (n : Int) ∧ a < n ∧ n ≤ b.length ∧ b.drop a = putE (pstep b (a : Int)).2.1 ++ b.drop n := by
  have hd : b.drop a = rd b (a : Int) :: b.drop (a + 1) := by rw [List.drop_eq_getElem_cons ha, rd_lt b a ha]
  have ca : ((a : Int) + 1) = ((a + 1 : Nat) : Int) := by omega
  unfold pstep at h ⊢
  rw [ca] at h ⊢
  by_cases h2 : rd b (a : Int) = 2
  · rw [if_pos h2] at h ⊢
    by_cases h0 : (takeText b ((a + 1 : Nat) : Int)).2.2 ≠ 0
    · rw [if_pos h0] at h; exact absurd h h0
    · rw [if_neg h0] at h ⊢
      have h0' : (takeText b ((a + 1 : Nat) : Int)).2.2 = 0 := by omega
      split
      · rename_i hr
        refine ⟨hr, ?_⟩
        unfold takeText at h0' ⊢
        by_cases h3 : (Q.take b ((a + 1 : Nat) : Int)).2.2 = 0
        · rw [if_pos h3] at h0' ⊢
          obtain ⟨n, e1, e2, e3⟩ := take_at b hb (a + 1) h3
          have bd := take_bd b hb _ h3
          by_cases h4 : (Q.take b ((a + 1 : Nat) : Int)).1 > (b.length : Int) - (Q.take b ((a + 1 : Nat) : Int)).2.1
          · rw [if_pos h4] at h0'; simp at h0'
          · rw [if_neg h4]
            generalize Q.take b ((a + 1 : Nat) : Int) = q at *
            obtain ⟨v, nx, er⟩ := q
            simp only at *
            obtain ⟨m, rfl⟩ : ∃ m : Nat, v = (m : Int) := ⟨v.toNat, by omega⟩
            rw [Int.toNat_natCast] at e3
            have t1 : (nx + (m : Int)).toNat = a + 1 + n + m := by omega
            have t2 : nx.toNat = a + 1 + n := by omega
            rw [t1, t2]
            have hbl : Bytes ((b.take (a + 1 + n + m)).drop (a + 1 + n)) := (hb.take _).drop _
            have hx : bytesOf (strOfNums ((b.take (a + 1 + n + m)).drop (a + 1 + n))) = (b.take (a + 1 + n + m)).drop (a + 1 + n) := bytesOf_strOf _ hbl
            have hz : (strOfNums ((b.take (a + 1 + n + m)).drop (a + 1 + n))).size = m := by
              rw [← bytesOf_length, hx, List.length_drop, List.length_take]; omega
            refine ⟨a + 1 + n + m, by omega, by omega, by omega, ?_⟩
            unfold putE
            rw [if_pos rfl, textL, hz, hx, e3, hd, h2]
            have d1 := cut_drop b (a + 1) n
            have d2 : b.drop (a + 1 + n) = (b.take (a + 1 + n + m)).drop (a + 1 + n) ++ b.drop (a + 1 + n + m) := by
              rw [List.drop_take, show a + 1 + n + m - (a + 1 + n) = m by omega]
              exact cut_drop b (a + 1 + n) m
            conv => lhs; rw [d1, d2]
            simp
        · rw [if_neg h3] at h0'; exact absurd h0' h3
      · rename_i q; rw [if_neg q] at h; exact absurd h (by simp)
  · rw [if_neg h2] at h ⊢
    by_cases h1 : rd b (a : Int) = 1 ∨ rd b (a : Int) = 3
    · rw [if_pos h1] at h ⊢
      by_cases h0 : (Q.take b ((a + 1 : Nat) : Int)).2.2 ≠ 0
      · rw [if_pos h0] at h; exact absurd h h0
      · rw [if_neg h0] at h ⊢
        have h0' : (Q.take b ((a + 1 : Nat) : Int)).2.2 = 0 := by omega
        obtain ⟨n, e1, e2, e3⟩ := take_at b hb (a + 1) h0'
        split
        · rename_i hr
          refine ⟨?_, a + 1 + n, e1, by omega, e2, ?_⟩
          · unfold rightE rightB
            simp only
            rw [if_pos h1, decide_eq_true_iff]
            exact ⟨hr.1, hr.2, rfl⟩
          · unfold putE
            simp only
            rw [if_neg h2, e3, hd]
            have d1 := cut_drop b (a + 1) n
            conv => lhs; rw [d1]
            simp
        · rename_i q; rw [if_neg q] at h; exact absurd h (by simp)
    · rw [if_neg h1] at h; exact absurd h (by simp)
theorem parse_back (b : List Int) (hb : Bytes b) (hs : b.length ≤ 1000000) : ∀ (m : Nat) (a : Nat) (acc M : List Ed), a ≤ b.length → b.length - a < m → dparse b m (a : Int) acc = (M, 0) → ∃ X, M = acc ++ X ∧ rightL X = true ∧ putsL X = b.drop a := by
  intro m
  induction m with
  | zero => intro a acc M h1 h2; omega
  | succ m ih =>
    intro a acc M h1 h2 h
    rw [dparse] at h
    by_cases hl : (a : Int) < b.length
    · rw [if_pos hl] at h
      by_cases h0 : (pstep b (a : Int)).1 = 0
      · rw [if_pos h0] at h
        obtain ⟨r1, n, e1, e2, e3, e4⟩ := pstep_back b hb hs a (by omega) h0
        rw [e1] at h
        obtain ⟨X, x1, x2, x3⟩ := ih n _ M e3 (by omega) h
        refine ⟨(pstep b (a : Int)).2.1 :: X, by rw [x1]; simp, ?_, ?_⟩
        · have e : rightL ((pstep b (a : Int)).2.1 :: X) = (rightE (pstep b (a : Int)).2.1 && rightL X) := rfl
          rw [e, r1, x2]; rfl
        · rw [putsL_cons, x3, e4]
      · rw [if_neg h0] at h
        exact absurd (congrArg Prod.snd h) h0
    · rw [if_neg hl] at h
      obtain rfl := congrArg Prod.fst h
      exact ⟨[], by simp, rfl, by rw [List.drop_eq_nil_of_le (by omega)]; rfl⟩
theorem rightE_bytes (x : Ed) (h : rightE x = true) (hs : x.2.2.size ≤ 1000000) : Bytes (putE x) := by
  have hr := (rightB_cases x.1 x.2.1 x.2.2).1 h
  unfold putE
  intro y hy
  rcases List.mem_cons.1 hy with rfl | hy
  · rcases hr with ⟨q, _⟩ | ⟨q, _⟩ <;> omega
  · by_cases h2 : x.1 = 2
    · rw [if_pos h2] at hy
      exact textL_bytes x.2.2 (by omega) y hy
    · rw [if_neg h2] at hy
      rcases hr with ⟨_, m, e, _, h4, _⟩ | ⟨e, _⟩
      · exact putL_bytes_u64 (n := x.2.1.toNat) (by omega) y hy
      · exact absurd e h2
theorem putsL_bytes : ∀ (L : List Ed), rightL L = true → (∀ x ∈ L, x.2.2.size ≤ 1000000) → Bytes (putsL L)
  | [], _, _ => fun _ h => by simp [putsL] at h
  | x :: l, h, ht => by
    have e1 : rightL (x :: l) = (rightE x && rightL l) := rfl
    rw [e1, Bool.and_eq_true] at h
    rw [putsL_cons]
    exact (rightE_bytes x h.1 (ht x (by simp))).append (putsL_bytes l h.2 (fun y hy => ht y (List.mem_cons_of_mem _ hy)))
/-- One edit that stands written is read. -/
theorem pstep_put (pre post : List Int) (x : Ed) (h : rightE x = true) (hs : x.2.2.size < 1000000) (hl : pre.length < 900000) (hp : post.length < 1000000) :
    pstep (pre ++ (putE x ++ post)) (pre.length : Int) = (0, x, ((pre.length + (putE x).length : Nat) : Int)) := by
  obtain ⟨kd, n, s⟩ := x
  have hr := (rightB_cases kd n s).1 h
  have hrd : rd (pre ++ (putE (kd, n, s) ++ post)) (pre.length : Int) = kd := by
    rw [rd_lt _ _ (by simp [putE])]
    simp [putE]
  have hre : pre ++ (putE (kd, n, s) ++ post) = (pre ++ [kd]) ++ ((if kd = 2 then textL s else putL n.toNat) ++ post) := by simp [putE]
  have hlen : ((pre.length : Int) + 1) = ((pre ++ [kd]).length : Int) := by simp
  unfold pstep
  rw [hrd, hlen, hre]
  rcases hr with ⟨h1, m, e, h3, h4, h5⟩ | ⟨rfl, rfl, h5⟩
  · have k2 : ¬ kd = 2 := by omega
    have et := take_put (pre ++ [kd]) post n.toNat (by omega)
    rw [if_neg k2, if_pos h1, if_neg k2, et, if_neg (by simp), if_pos ⟨by simp only; omega, by simp only; omega⟩]
    have es : s = emptyS := by
      apply ByteArray.ext
      exact Array.eq_empty_of_size_eq_zero h5
    simp only [putE, if_neg k2, List.length_append, List.length_cons, List.length_nil]
    rw [es]
    refine Prod.ext rfl (Prod.ext (Prod.ext rfl (Prod.ext (by simp only; omega) rfl)) ?_)
    simp only
    omega
  · have et := takeText_put (pre ++ [2]) post s hs (by simp; omega) hp
    have h' : rightB 2 0 s = true := h
    rw [if_pos rfl, if_pos rfl, et, if_neg (by simp), if_pos h']
    simp only [putE, if_true, List.length_append, List.length_cons, List.length_nil]
    refine Prod.ext rfl (Prod.ext rfl ?_)
    simp only
    omega
theorem parse_put : ∀ (L : List Ed) (m : Nat) (pre : List Int) (acc : List Ed), rightL L = true → (∀ x ∈ L, x.2.2.size < 1000000) → pre.length + (putsL L).length < 900000 → (putsL L).length < m →
    dparse (pre ++ putsL L) m (pre.length : Int) acc = (acc ++ L, 0) := by
  intro L
  induction L with
  | nil =>
    intro m pre acc _ _ _ hm
    obtain ⟨m, rfl⟩ : ∃ q, m = q + 1 := ⟨m - 1, by simp [putsL] at hm; omega⟩
    rw [dparse, if_neg (by simp [putsL])]
    simp
  | cons x l ih =>
    intro m pre acc hr hs hlen hm
    obtain ⟨m, rfl⟩ : ∃ q, m = q + 1 := ⟨m - 1, by omega⟩
    have e1 : rightL (x :: l) = (rightE x && rightL l) := rfl
    rw [e1, Bool.and_eq_true] at hr
    rw [putsL_cons, List.length_append] at hlen hm
    have hpos : 0 < (putE x).length := by simp [putE]
    have hst := pstep_put pre (putsL l) x hr.1 (hs x (by simp)) (by omega) (by omega)
    rw [dparse, putsL_cons, if_pos (by simp only [List.length_append]; omega), hst, if_pos rfl]
    have := ih m (pre ++ putE x) (acc ++ [x]) hr.2 (fun y hy => hs y (List.mem_cons_of_mem _ hy)) (by rw [List.length_append]; omega) (by omega)
    rw [List.length_append, List.append_assoc] at this
    rw [this]
    simp
end Go.Proofs.Ytoeabgeglgiobaa.Q
