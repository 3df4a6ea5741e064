/- What is read of a line, and that it is the line's own, in plain words. -/
import Derived.Test.YtmeneoanmfpecaaDoorReadPure
import Derived.Test.YtmeneoanmfpecaaDoorCheckSame
namespace Go.Proofs.YtmeneoanmfpecaaDoor
set_option linter.unusedVariables false
set_option linter.unusedSimpArgs false

/-! ### What a text holds behind what was read -/
def Tail (T : List UInt8) : Prop := T = [] ∨ ∃ T', T = 32 :: T'
theorem takeWhile_tail {a T : List UInt8} (ha : (32 : UInt8) ∉ a) (hT : Tail T) : (a ++ T).takeWhile nb = a ∧ (a ++ T).dropWhile nb = T := by
  induction a with
  | nil =>
    rcases hT with rfl | ⟨T', rfl⟩
    · exact ⟨rfl, rfl⟩
    · simp [nb]
  | cons c a ih =>
    have hc : nb c = true := by
      simp only [nb, bne_iff_ne, ne_eq]
      exact fun e => ha (by simp [e])
    have := ih (fun h => ha (List.mem_cons_of_mem _ h))
    rw [List.cons_append, List.takeWhile_cons, List.dropWhile_cons, hc]
    simp only [if_true]
    exact ⟨by rw [this.1], this.2⟩
theorem num_blank (v : Int) : (32 : UInt8) ∉ Lib.itoa v := itoa_not v 32 (by decide) (by decide)
theorem numM_line (v : Int) (h0 : -9223372036854775808 ≤ v) (h1 : v ≤ 9223372036854775807) (T : List UInt8) (hT : Tail T) : numM (32 :: Lib.itoa v ++ T) = some (v, T) := by
  have h := takeWhile_tail (num_blank v) hT
  rw [List.cons_append]
  simp only [numM, if_pos]
  rw [h.1, h.2, atoi_itoa v h0 h1]
  simp
theorem txtM_line (u T : List UInt8) : txtM (32 :: quoteL u ++ T) = some (u, T) := by
  rw [List.cons_append]
  simp only [txtM, if_pos]
  rw [unquote_quote]
  simp
theorem tail_nums (x : OpR) (P : List Nat) (T : List UInt8) (hT : Tail T) : Tail (P.flatMap x.numT ++ T) := by
  cases P with
  | nil => exact hT
  | cons i P => exact .inr ⟨_, rfl⟩
theorem tail_txts (x : OpR) (P : List Nat) (T : List UInt8) (hT : Tail T) : Tail (P.flatMap x.textT ++ T) := by
  cases P with
  | nil => exact hT
  | cons i P => exact .inr ⟨_, rfl⟩
theorem read_nums (x : OpR) (hx : ∀ i, i ≤ 5 → -9223372036854775808 ≤ x.num i ∧ x.num i ≤ 9223372036854775807) : ∀ (P : List Nat), (∀ i ∈ P, 1 ≤ i ∧ i ≤ 5) → ∀ (T : List UInt8), Tail T → ∀ y,
    P.foldl numStep (P.flatMap x.numT ++ T, true, y) = (T, true, P.foldl (fun y i => y.setNum i (x.num i)) y)
  | [], _, T, _, y => rfl
  | i :: P, hP, T, hT, y => by
    have hi := hx i (hP i (by simp)).2
    rw [List.foldl_cons, List.foldl_cons, List.flatMap_cons, List.append_assoc]
    have h : numStep (x.numT i ++ (P.flatMap x.numT ++ T), true, y) i = (P.flatMap x.numT ++ T, true, y.setNum i (x.num i)) := by
      simp only [numStep, if_pos, OpR.numT]
      rw [numM_line _ hi.1 hi.2 _ (tail_nums x P T hT)]
    rw [h]
    exact read_nums x hx P (fun j hj => hP j (by simp [hj])) T hT _
theorem read_txts (x : OpR) : ∀ (P : List Nat) (T : List UInt8) (y : OpR),
    P.foldl txtStep (P.flatMap x.textT ++ T, true, y) = (T, true, P.foldl (fun y i => y.setTxt i (x.text i)) y)
  | [], T, y => rfl
  | i :: P, T, y => by
    rw [List.foldl_cons, List.foldl_cons, List.flatMap_cons, List.append_assoc]
    have h : txtStep (x.textT i ++ (P.flatMap x.textT ++ T), true, y) i = (P.flatMap x.textT ++ T, true, y.setTxt i (x.text i)) := by
      simp only [txtStep, if_pos, OpR.textT]
      rw [txtM_line]
    rw [h]
    exact read_txts x P T _
theorem word_blank (k : Nat) (hk : k < 13) : (32 : UInt8) ∉ wordL.getD k [] := by
  have : ∀ k : Fin 13, (32 : UInt8) ∉ wordL.getD k.val [] := by decide
  exact this ⟨k, hk⟩
theorem kind_word (k : Nat) (hk : k < 13) : kindM (wordL.getD k []) = (k, true) := by
  have : ∀ k : Fin 13, kindM (wordL.getD k.val []) = (k.val, true) := by decide
  exact this ⟨k, hk⟩
theorem kindM_word {l : List UInt8} {k : Nat} (h : kindM l = (k, true)) : l = wordL.getD k [] ∧ k < 13 := by
  unfold kindM at h
  split at h
  · rename_i i hi
    obtain ⟨h1, h2, _⟩ := List.idxOf?_eq_some_iff.1 hi
    simp only [Prod.mk.injEq, and_true] at h
    subst h
    refine ⟨?_, h1⟩
    rw [List.getD_eq_getElem?_getD, List.getElem?_eq_getElem h1]
    simpa using h2.symm
  · cases h

theorem toList_nil {u : ByteArray} (h : u.toList.isEmpty = true) : u = ⟨#[]⟩ := by
  apply ByteArray.ext
  rw [← Array.toList_inj]
  rw [ByteArray.toList_eq, List.isEmpty_iff] at h
  rw [h]
/-- What an operation has no place for is not there. -/
theorem spare_zero (x : OpR) (K : Nat) (hK : K < 13) (hk : x.k = (K : Int)) (h : spareM x = false) :
    ((4 ≤ K ∧ K ≤ 7) ∨ x.t = 0) ∧ ((2 ≤ K ∧ K ≤ 9) ∨ x.n = 0) ∧ ((K = 7 ∨ K = 9) ∨ x.a = 0) ∧ (K = 7 ∨ x.m = 0) ∧ (K < 2 ∨ x.u = ⟨#[]⟩) ∧ (K = 0 ∨ x.v = ⟨#[]⟩) := by
  have hl := spareB_lit (x.t != 0) (x.n != 0) (x.a != 0) (x.m != 0) (!x.u.toList.isEmpty) (!x.v.toList.isEmpty) ⟨K, hK⟩
  unfold spareM at h
  rw [hk, Int.toNat_natCast] at h
  rw [h] at hl
  have hl' := hl.symm
  simp only [Bool.not_eq_false', Bool.and_eq_true] at hl'
  obtain ⟨h0, h1, h2, h3, h4, h5⟩ := hl'
  refine ⟨?_, ?_, ?_, ?_, ?_, ?_⟩
  · by_cases c : 4 ≤ K ∧ K ≤ 7
    · exact .inl c
    · rw [if_neg c] at h0; exact .inr (by simpa using h0)
  · by_cases c : 2 ≤ K ∧ K ≤ 9
    · exact .inl c
    · rw [if_neg c] at h1; exact .inr (by simpa using h1)
  · by_cases c : K = 7 ∨ K = 9
    · exact .inl c
    · rw [if_neg c] at h2; exact .inr (by simpa using h2)
  · by_cases c : K = 7
    · exact .inl c
    · rw [if_neg c] at h3; exact .inr (by simpa using h3)
  · by_cases c : K < 2
    · exact .inl c
    · rw [if_neg c] at h4; exact .inr (toList_nil (by simpa using h4))
  · by_cases c : K = 0
    · exact .inl c
    · rw [if_neg c] at h5; exact .inr (toList_nil (by simpa using h5))
theorem set_all (x : OpR) (K : Nat) (hK : K < 13) (hk : x.k = (K : Int)) (h : spareM x = false) :
    (textP K).foldl (fun y i => y.setTxt i (x.text i)) ((numP K).foldl (fun y i => y.setNum i (x.num i)) { zeroOp with k := (K : Int) }) = x := by
  obtain ⟨ht, hn, ha, hm, hu, hv⟩ := spare_zero x K hK hk h
  obtain ⟨k, p, t, n, a, m, u, v⟩ := x
  simp only at ht hn ha hm hu hv hk
  subst hk
  rcases (show K = 0 ∨ K = 1 ∨ K = 2 ∨ K = 3 ∨ K = 4 ∨ K = 5 ∨ K = 6 ∨ K = 7 ∨ K = 8 ∨ K = 9 ∨ K = 10 ∨ K = 11 ∨ K = 12 by omega) with rfl | rfl | rfl | rfl | rfl | rfl | rfl | rfl | rfl | rfl | rfl | rfl | rfl <;>
    simp at ht hn ha hm hu hv <;> simp [numP, textP, OpR.setNum, OpR.setTxt, OpR.num, OpR.text, zeroOp, ht, hn, ha, hm, hu, hv]
theorem num_in64 (x : OpR) (h : checkM x = 0) (i : Nat) (hi : i ≤ 5) : -9223372036854775808 ≤ x.num i ∧ x.num i ≤ 9223372036854775807 := by
  have := num_range x h i hi
  omega
/-- A line is read as the operation whose line it is. -/
theorem read_line (x : OpR) (h : checkM x = 0) : readM (lineM x) = (x, 0) := by
  have hz := check_zero x h
  obtain ⟨K, hK⟩ : ∃ K : Nat, x.k = (K : Int) := ⟨x.k.toNat, by omega⟩
  have hK13 : K < 13 := by omega
  have hT := tail_txts x (textP K) [] (.inl rfl)
  rw [List.append_nil] at hT
  have hT2 := tail_nums x (numP K) ((textP K).flatMap x.textT) hT
  have hl : lineM x = wordL.getD K [] ++ ((numP K).flatMap x.numT ++ (textP K).flatMap x.textT) := by
    unfold lineM
    rw [hK, Int.toNat_natCast, List.append_assoc]
  have hw := takeWhile_tail (word_blank K hK13) hT2
  have hra : readAll (lineM x) = ([], true, x) := by
    unfold readAll
    rw [hl, hw.1, hw.2, kind_word K hK13]
    simp only
    rw [read_nums x (fun i hi => num_in64 x h i hi) (numP K) (numP_bd K).2 _ hT]
    have h2 := read_txts x (textP K) [] ((numP K).foldl (fun y i => y.setNum i (x.num i)) { zeroOp with k := (K : Int) })
    rw [List.append_nil] at h2
    rw [h2, set_all x K hK13 hK hz.2.2.2.2.2]
  unfold readM
  rw [hra]
  simp only
  rw [if_pos ⟨trivial, trivial, h⟩]

/-! ### Back -/
theorem nums_false (P : List Nat) : ∀ r y, (P.foldl numStep (r, false, y)).2.1 = false := by
  induction P with
  | nil => intro r y; rfl
  | cons i P ih => intro r y; rw [List.foldl_cons]; exact ih _ _
theorem txts_false (P : List Nat) : ∀ r y, (P.foldl txtStep (r, false, y)).2.1 = false := by
  induction P with
  | nil => intro r y; rfl
  | cons i P ih => intro r y; rw [List.foldl_cons]; exact ih _ _
theorem numM_back {l r : List UInt8} {v : Int} (h : numM l = some (v, r)) : l = 32 :: Lib.itoa v ++ r := by
  cases l with
  | nil => cases h
  | cons c t =>
    simp only [numM] at h
    split at h
    · rename_i hc
      split at h
      · split at h
        · rename_i hi
          injection h with h
          injection h with h1 h2
          subst h1
          rw [← h2, hi, hc, List.cons_append, List.takeWhile_append_dropWhile]
        · cases h
      · cases h
    · cases h
theorem txtM_back {l r v : List UInt8} (h : txtM l = some (v, r)) : l = 32 :: quoteL v ++ r := by
  cases l with
  | nil => cases h
  | cons c t =>
    simp only [txtM] at h
    split at h
    · rename_i hc
      split at h
      · rename_i hz
        injection h with h
        injection h with h1 h2
        obtain ⟨y, k, er, hu⟩ : ∃ y k er, unquoteM t = (y, k, er) := ⟨_, _, _, rfl⟩
        rw [hu] at hz h1 h2
        simp only at hz h1 h2
        subst hz h1
        obtain ⟨r', ht, hk⟩ := unquote_back hu
        rw [← h2, ht, hk, hc, List.cons_append]
        simp
      · cases h
    · cases h
theorem setNum_same (y : OpR) (i : Nat) (h0 : 1 ≤ i) (h5 : i ≤ 5) (v : Int) : (y.setNum i v).num i = v := by
  rcases (show i = 1 ∨ i = 2 ∨ i = 3 ∨ i = 4 ∨ i = 5 by omega) with rfl | rfl | rfl | rfl | rfl <;> rfl
theorem setNum_other (y : OpR) (i j : Nat) (h : i ≠ j) (v : Int) : (y.setNum i v).num j = y.num j := by
  unfold OpR.setNum
  split <;> first
    | rfl
    | (unfold OpR.num
       match j, h with
       | 0, _ => rfl
       | 1, h => first | rfl | exact absurd rfl h
       | 2, h => first | rfl | exact absurd rfl h
       | 3, h => first | rfl | exact absurd rfl h
       | 4, h => first | rfl | exact absurd rfl h
       | 5, h => first | rfl | exact absurd rfl h
       | j + 6, _ => rfl)
theorem setNum_text (y : OpR) (i j : Nat) (v : Int) : (y.setNum i v).text j = y.text j := by
  unfold OpR.setNum
  split <;> rfl
theorem setTxt_num (y : OpR) (i j : Nat) (v : ByteArray) : (y.setTxt i v).num j = y.num j := by
  unfold OpR.setTxt OpR.num
  split <;> rfl
theorem setTxt_same (y : OpR) (i : Nat) (h : i = 6 ∨ i = 7) (v : ByteArray) : (y.setTxt i v).text i = v := by
  rcases h with rfl | rfl <;> rfl
theorem setTxt_other (y : OpR) (i j : Nat) (hi : i = 6 ∨ i = 7) (hj : j = 6 ∨ j = 7) (h : i ≠ j) (v : ByteArray) : (y.setTxt i v).text j = y.text j := by
  rcases hi with rfl | rfl <;> rcases hj with rfl | rfl <;> first | rfl | exact absurd rfl h
theorem nums_back : ∀ (P : List Nat), P.Nodup → (∀ i ∈ P, 1 ≤ i ∧ i ≤ 5) → ∀ (r0 : List UInt8) (q0 : Bool) (y0 : OpR) (r1 : List UInt8) (y1 : OpR), P.foldl numStep (r0, q0, y0) = (r1, true, y1) →
    q0 = true ∧ r0 = P.flatMap y1.numT ++ r1 ∧ (∀ j, j ∉ P → y1.num j = y0.num j) ∧ (∀ j, y1.text j = y0.text j)
  | [], _, _, r0, q0, y0, r1, y1, h => by
    simp only [List.foldl_nil, Prod.mk.injEq] at h
    obtain ⟨rfl, rfl, rfl⟩ := h
    exact ⟨rfl, rfl, fun _ _ => rfl, fun _ => rfl⟩
  | i :: P, hnd, hP, r0, q0, y0, r1, y1, h => by
    rw [List.foldl_cons] at h
    obtain ⟨hni, hnd'⟩ := List.nodup_cons.1 hnd
    have hi := hP i (by simp)
    cases q0 with
    | false =>
      have := nums_false P r0 y0
      have e : numStep (r0, false, y0) i = (r0, false, y0) := by simp [numStep]
      rw [e] at h
      rw [h] at this
      cases this
    | true =>
      cases hn : numM r0 with
      | none =>
        have e : numStep (r0, true, y0) i = ([], false, y0) := by simp [numStep, hn]
        rw [e] at h
        have := nums_false P [] y0
        rw [h] at this
        cases this
      | some p =>
        obtain ⟨v, r⟩ := p
        have e : numStep (r0, true, y0) i = (r, true, y0.setNum i v) := by simp [numStep, hn]
        rw [e] at h
        obtain ⟨_, h2, h3, h4⟩ := nums_back P hnd' (fun j hj => hP j (by simp [hj])) _ _ _ _ _ h
        have hv : y1.num i = v := by rw [h3 i hni, setNum_same _ _ hi.1 hi.2]
        refine ⟨rfl, ?_, fun j hj => ?_, fun j => ?_⟩
        · rw [numM_back hn, List.flatMap_cons, h2, OpR.numT, hv]
          simp
        · simp only [List.mem_cons, not_or] at hj
          rw [h3 j hj.2, setNum_other _ _ _ (fun e => hj.1 e.symm)]
        · rw [h4 j, setNum_text]
theorem txts_back : ∀ (P : List Nat), P.Nodup → (∀ i ∈ P, i = 6 ∨ i = 7) → ∀ (r0 : List UInt8) (q0 : Bool) (y0 : OpR) (r1 : List UInt8) (y1 : OpR), P.foldl txtStep (r0, q0, y0) = (r1, true, y1) →
    q0 = true ∧ r0 = P.flatMap y1.textT ++ r1 ∧ (∀ j, j = 6 ∨ j = 7 → j ∉ P → y1.text j = y0.text j) ∧ (∀ j, y1.num j = y0.num j)
  | [], _, _, r0, q0, y0, r1, y1, h => by
    simp only [List.foldl_nil, Prod.mk.injEq] at h
    obtain ⟨rfl, rfl, rfl⟩ := h
    exact ⟨rfl, rfl, fun _ _ _ => rfl, fun _ => rfl⟩
  | i :: P, hnd, hP, r0, q0, y0, r1, y1, h => by
    rw [List.foldl_cons] at h
    obtain ⟨hni, hnd'⟩ := List.nodup_cons.1 hnd
    have hi := hP i (by simp)
    cases q0 with
    | false =>
      have := txts_false P r0 y0
      have e : txtStep (r0, false, y0) i = (r0, false, y0) := by simp [txtStep]
      rw [e] at h
      rw [h] at this
      cases this
    | true =>
      cases hn : txtM r0 with
      | none =>
        have e : txtStep (r0, true, y0) i = ([], false, y0) := by simp [txtStep, hn]
        rw [e] at h
        have := txts_false P [] y0
        rw [h] at this
        cases this
      | some p =>
        obtain ⟨v, r⟩ := p
        have e : txtStep (r0, true, y0) i = (r, true, y0.setTxt i ⟨v.toArray⟩) := by simp [txtStep, hn]
        rw [e] at h
        obtain ⟨_, h2, h3, h4⟩ := txts_back P hnd' (fun j hj => hP j (by simp [hj])) _ _ _ _ _ h
        have hv : y1.text i = ⟨v.toArray⟩ := by rw [h3 i hi hni, setTxt_same _ _ hi]
        refine ⟨rfl, ?_, fun j hj67 hj => ?_, fun j => ?_⟩
        · rw [txtM_back hn, List.flatMap_cons, h2, OpR.textT, hv]
          simp
        · simp only [List.mem_cons, not_or] at hj
          rw [h3 j hj67 hj.2, setTxt_other _ _ _ hi hj67 (fun e => hj.1 e.symm)]
        · rw [h4 j, setTxt_num]
theorem numP_nodup (K : Nat) (hK : K < 13) : (numP K).Nodup := by
  have : ∀ K : Fin 13, (numP K.val).Nodup := by decide
  exact this ⟨K, hK⟩
theorem textP_nodup (K : Nat) (hK : K < 13) : (textP K).Nodup := by
  have : ∀ K : Fin 13, (textP K.val).Nodup := by decide
  exact this ⟨K, hK⟩
theorem flat_congr {α : Type} (f g : α → List UInt8) (l : List α) (h : ∀ x ∈ l, f x = g x) : l.flatMap f = l.flatMap g := by
  induction l with
  | nil => rfl
  | cons x l ih => rw [List.flatMap_cons, List.flatMap_cons, h x (by simp), ih fun y hy => h y (by simp [hy])]
/-- What is read is the operation whose line it is. -/
theorem read_back {l : List UInt8} {x : OpR} (h : readM l = (x, 0)) : checkM x = 0 ∧ l = lineM x := by
  unfold readM at h
  split at h
  · rename_i hc
    obtain ⟨hq, hr, hck⟩ := hc
    simp only [Prod.mk.injEq, and_true] at h
    rw [h] at hck
    obtain ⟨r1, q1, y1, hR⟩ : ∃ r q y, readAll l = (r, q, y) := ⟨_, _, _, rfl⟩
    rw [hR] at hq hr h
    simp only at hq hr h
    subst hq hr h
    refine ⟨hck, ?_⟩
    unfold readAll at hR
    obtain ⟨K, is, hk⟩ : ∃ K is, kindM (l.takeWhile nb) = (K, is) := ⟨_, _, rfl⟩
    rw [hk] at hR
    simp only at hR
    have hK13 : K < 13 := by
      have : (kindM (l.takeWhile nb)).1 < 13 := by
        unfold kindM
        split
        · rename_i i hi
          obtain ⟨h1, _⟩ := List.idxOf?_eq_some_iff.1 hi
          exact h1
        · decide
      rw [hk] at this
      exact this
    obtain ⟨r0, q0, y0, hN⟩ : ∃ r q y, (numP K).foldl numStep (l.dropWhile nb, is, { zeroOp with k := (K : Int) }) = (r, q, y) := ⟨_, _, _, rfl⟩
    rw [hN] at hR
    obtain ⟨rfl, ht, _, htn⟩ := txts_back _ (textP_nodup K hK13) (textP_bd K).2 _ _ _ _ _ hR
    obtain ⟨rfl, hn, hno, _⟩ := nums_back _ (numP_nodup K hK13) (numP_bd K).2 _ _ _ _ _ hN
    obtain ⟨hw, _⟩ := kindM_word hk
    have hxk : y1.k = (K : Int) := by
      have h1 : y1.num 0 = y0.num 0 := htn 0
      have h2 : y0.num 0 = (K : Int) := hno 0 (fun hm => by have := ((numP_bd K).2 0 hm).1; omega)
      have h3 : y1.num 0 = y1.k := rfl
      omega
    unfold lineM
    rw [hxk, Int.toNat_natCast, ← hw, List.append_assoc]
    have h5 : (numP K).flatMap y1.numT = (numP K).flatMap y0.numT := flat_congr _ _ _ fun i _ => by unfold OpR.numT; rw [htn i]
    rw [h5]
    rw [List.append_nil] at ht
    rw [← ht, ← hn, List.takeWhile_append_dropWhile]
  · simp at h
theorem read_zero_or (l : List UInt8) : (readM l).2 = 0 ∨ readM l = (zeroOp, 16) := by
  unfold readM
  split
  · exact .inl rfl
  · exact .inr rfl
theorem read_nil : readM [] = (zeroOp, 16) := by
  rcases read_zero_or [] with h | h
  · obtain ⟨x, e, hx⟩ : ∃ x e, readM [] = (x, e) := ⟨_, _, rfl⟩
    rw [hx] at h
    simp only at h
    subst h
    obtain ⟨hc, hl⟩ := read_back hx
    exfalso
    have := check_zero x hc
    have h1 := congrArg List.length hl
    unfold lineM at h1
    rw [List.length_append, List.length_append] at h1
    have h2 : ∀ k : Fin 13, 0 < (wordL.getD k.val []).length := by decide
    have h3 := h2 ⟨x.k.toNat, by omega⟩
    simp only [List.length_nil] at h1 h3
    omega
  · exact h
end Go.Proofs.YtmeneoanmfpecaaDoor
