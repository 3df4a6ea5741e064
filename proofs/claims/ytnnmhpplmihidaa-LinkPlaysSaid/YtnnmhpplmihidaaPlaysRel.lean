/- The document's net beside the net's links: what each operation leaves. -/
import Derived.Test.YtnnmhpplmihidaaPlaysPure
namespace Go.Proofs.Ytnnmhpplmihidaa
set_option linter.unusedVariables false
set_option linter.unusedSimpArgs false
open PLinkPlays Go.RowKit

structure Ok (P : Int) (M : List RF) (L : Int × Int → List Fr) (n : Nat) : Prop where
  rel : Rel M L
  len : M.length ≤ n
  there : ∀ x ∈ M, thereB P x.f0 x.f1 = true
  size : ∀ x ∈ M, x.f2.size ≤ 131072

theorem filter_len {P : Int} {M : List RF} {L : Int × Int → List Fr} {n : Nat} (h : Ok P M L n) (a b : Int) : (M.filter (onK a b)).length = (L (a, b)).length := by rw [h.rel a b]; simp

theorem Ok.lenM {P : Int} {M : List RF} {L : Int × Int → List Fr} {n : Nat} (h : Ok P M L n) (a b : Int) : (M.filter (onK a b)).length = lenM P L a b := by
  rw [filter_len h]
  unfold Go.Proofs.Ytnnmhpplmihidaa.lenM
  split
  · rename_i ht
    rw [h.rel a b]
    have : M.filter (onK a b) = [] := by
      rw [List.filter_eq_nil_iff]
      intro x hx hk
      have := h.there x hx
      simp only [onK, decide_eq_true_eq] at hk
      rw [hk.1, hk.2, ht] at this
      cases this
    rw [this]
    rfl
  · rfl

theorem onK_other {a b c d : Int} {x : RF} (h : onK a b x = true) (hne : (c, d) ≠ (a, b)) : onK c d x = false := by
  simp only [onK, decide_eq_true_eq, decide_eq_false_iff_not] at h ⊢
  intro h2
  exact hne (by rw [← h2.1, ← h2.2, h.1, h.2])

theorem upd_self (L : Int × Int → List Fr) (p : Int × Int) (l : List Fr) : upd L p l p = l := by simp [upd]
theorem upd_ne (L : Int × Int → List Fr) {p q : Int × Int} (l : List Fr) (h : q ≠ p) : upd L p l q = L q := by simp [upd, h]

theorem Ok.append {P : Int} {M : List RF} {L : Int × Int → List Fr} {n : Nat} (h : Ok P M L n) (x : RF) (a b : Int) (hx : onK a b x = true) (ht : thereB P a b = true) (hs : x.f2.size ≤ 131072) : Ok P (M ++ [x]) (upd L (a, b) (L (a, b) ++ [fr x])) (n + 1) where
  rel c d := by
    rw [List.filter_append, List.map_append]
    by_cases e : (c, d) = (a, b)
    · cases e
      rw [upd_self, h.rel]
      simp [List.filter_cons, hx]
    · rw [upd_ne _ _ e, h.rel]
      simp [List.filter_cons, onK_other hx e]
  len := by have := h.len; simp; omega
  there y hy := by
    rcases List.mem_append.1 hy with hy | hy
    · exact h.there y hy
    · simp at hy
      subst hy
      simp only [onK, decide_eq_true_eq] at hx
      rw [hx.1, hx.2]
      exact ht
  size y hy := by
    rcases List.mem_append.1 hy with hy | hy
    · exact h.size y hy
    · simp at hy
      subst hy
      exact hs

/-- The i-th frame of a link, and its place among all. -/
theorem Ok.split {P : Int} {M : List RF} {L : Int × Int → List Fr} {n : Nat} (h : Ok P M L n) {a b : Int} {i j : Nat} (hf : findN M a b i = some j) :
    ∃ (A B : List RF) (x : RF), M = A ++ x :: B ∧ A.length = j ∧ onK a b x = true ∧ ((A.filter (onK a b)).map fr).length = i ∧ L (a, b) = (A.filter (onK a b)).map fr ++ fr x :: (B.filter (onK a b)).map fr := by
  obtain ⟨hj, h1, h2⟩ := findN_some hf
  have e : M = M.take j ++ M[j] :: M.drop (j + 1) := by
    rw [← List.drop_eq_getElem_cons hj, List.take_append_drop]
  refine ⟨M.take j, M.drop (j + 1), M[j], e, by rw [List.length_take]; omega, h1, by rw [List.length_map]; exact h2, ?_⟩
  have h3 := h.rel a b
  rw [e] at h3
  rw [h3, List.filter_append, List.filter_cons, if_pos h1, List.map_append, List.map_cons]

theorem Ok.erase {P : Int} {A B : List RF} {x : RF} {L : Int × Int → List Fr} {n : Nat} (h : Ok P (A ++ x :: B) L n) {a b : Int} (hx : onK a b x = true) :
    Ok P (A ++ B) (upd L (a, b) ((L (a, b)).eraseIdx ((A.filter (onK a b)).map fr).length)) n where
  rel c d := by
    by_cases e : (c, d) = (a, b)
    · cases e
      rw [upd_self, h.rel, List.filter_append, List.filter_cons, if_pos hx, List.filter_append, List.map_append, List.map_cons, List.map_append, List.eraseIdx_append_of_length_le (Nat.le_refl _), Nat.sub_self]
      rfl
    · rw [upd_ne _ _ e, h.rel, List.filter_append, List.filter_append, List.filter_cons, onK_other hx e]
      simp
  len := by have := h.len; simp at this ⊢; omega
  there y hy := h.there y (by rcases List.mem_append.1 hy with h | h <;> simp [h])
  size y hy := h.size y (by rcases List.mem_append.1 hy with h | h <;> simp [h])

theorem Ok.change {P : Int} {A B : List RF} {x y : RF} {L : Int × Int → List Fr} {n : Nat} (h : Ok P (A ++ x :: B) L n) {a b : Int} (hx : onK a b x = true) (hy : onK a b y = true) (hs : y.f2.size ≤ 131072) :
    Ok P (A ++ y :: B) (upd L (a, b) ((L (a, b)).set ((A.filter (onK a b)).map fr).length (fr y))) n where
  rel c d := by
    by_cases e : (c, d) = (a, b)
    · cases e
      rw [upd_self, h.rel, List.filter_append, List.filter_cons, if_pos hx, List.filter_append, List.filter_cons, if_pos hy, List.map_append, List.map_cons, List.map_append, List.map_cons, List.set_append_right _ _ (Nat.le_refl _), Nat.sub_self]
      rfl
    · rw [upd_ne _ _ e, h.rel, List.filter_append, List.filter_append, List.filter_cons, List.filter_cons, onK_other hx e, onK_other hy e]
      simp
  len := by have := h.len; simp at this ⊢; omega
  there z hz := by
    rcases List.mem_append.1 hz with hz | hz
    · exact h.there z (by simp [hz])
    · rcases List.mem_cons.1 hz with rfl | hz
      · have := h.there x (by simp)
        simp only [onK, decide_eq_true_eq] at hx hy
        rw [hx.1, hx.2] at this
        rw [hy.1, hy.2]
        exact this
      · exact h.there z (by simp [hz])
  size z hz := by
    rcases List.mem_append.1 hz with hz | hz
    · exact h.size z (by simp [hz])
    · rcases List.mem_cons.1 hz with rfl | hz
      · exact hs
      · exact h.size z (by simp [hz])

theorem may_eval (k : Nat) (hk : 4000 ≤ k) {P : Int} {M : List RF} {L : Int × Int → List Fr} {n : Nat} (h : Ok P M L n) (hn : n < 1000) (a b i : Int) (hi : i < 9223372036854775808) :
    hearsayref26_may.f k P M a b i = some (findM P L a b i).1 := by
  unfold hearsayref26_may.f
  rw [there_f]
  simp only [Option.bind_some, findM]
  by_cases ht : thereB P a b = true
  · rw [if_pos ht, ht]
    simp only [Bool.true_eq_false, if_false]
    by_cases hneg : i < 0
    · rw [if_pos hneg, if_pos (.inl hneg)]
    · rw [if_neg hneg]
      obtain ⟨j, rfl⟩ := Int.eq_ofNat_of_zero_le (by omega : 0 ≤ i)
      have hl := h.len
      rw [find_f k P M a b j (by omega) (by omega) (by omega)]
      simp only [Option.bind_some, findI]
      cases hf : findN M a b j with
      | none =>
        have := findN_none.1 hf
        rw [filter_len h] at this
        dsimp only
        rw [if_pos (by omega), if_pos (.inr (by omega))]
      | some m =>
        have : ¬ (M.filter (onK a b)).length ≤ j := fun h2 => by rw [findN_none.2 h2] at hf; cases hf
        rw [filter_len h] at this
        simp only
        rw [if_neg (by omega), if_neg (by omega)]
  · have ht' : thereB P a b = false := by simpa using ht
    rw [if_neg ht, if_pos ht']

theorem send_eval (k : Nat) (hk : 4000 ≤ k) {P : Int} {M : List RF} {L : Int × Int → List Fr} {n : Nat} (h : Ok P M L n) (hn : n < 1000) (a b : Int) (s : ByteArray) :
    ∃ M', hearsayref26_Send.f k P M a b s = some (P, M', (sendM P L a b s).1) ∧ Ok P M' (sendM P L a b s).2 (n + 1) := by
  have hl := h.len
  have hup : Ok P M L (n + 1) := ⟨h.rel, by omega, h.there, h.size⟩
  unfold hearsayref26_Send.f
  rw [there_f]
  simp only [Option.bind_some]
  unfold sendM
  by_cases ht : thereB P a b = true
  · rw [if_pos ht, ht]
    simp only [Bool.true_eq_false, if_false]
    by_cases h1 : s.size > 131072
    · rw [if_pos (by omega), if_pos h1]
      exact ⟨M, rfl, hup⟩
    · rw [if_neg (by omega), if_neg h1, len_f k P M a b (by omega) hk]
      simp only [Option.bind_some, filter_len h]
      by_cases h2 : (L (a, b)).length ≥ 8
      · rw [if_pos (by omega), if_pos h2]
        exact ⟨M, rfl, hup⟩
      · rw [if_neg (by omega), if_neg h2, if_pos (by simp; omega), if_pos (by simp; omega)]
        exact ⟨_, rfl, by simpa [fr] using h.append ⟨a, b, s, s⟩ a b (by simp [onK]) ht (by show s.size ≤ _; omega)⟩
  · have ht' : thereB P a b = false := by simpa using ht
    rw [if_neg ht, if_pos ht']
    exact ⟨M, rfl, hup⟩

theorem findM_find {P : Int} {M : List RF} {L : Int × Int → List Fr} {n : Nat} (h : Ok P M L n) {a b i : Int} (h0 : (findM P L a b i).1 = 0) :
    thereB P a b = true ∧ ∃ (j : Nat) (A B : List RF) (x : RF), i = j ∧ findN M a b j = some A.length ∧ M = A ++ x :: B ∧ onK a b x = true ∧ ((A.filter (onK a b)).map fr).length = j ∧ (findM P L a b i).2 = fr x := by
  obtain ⟨ht, j, rfl, hj, hfm⟩ := findM_zero h0
  refine ⟨ht, j, ?_⟩
  cases hf : findN M a b j with
  | none =>
    have := findN_none.1 hf
    rw [filter_len h] at this
    omega
  | some m =>
    obtain ⟨A, B, x, e1, e2, e3, e4, e5⟩ := h.split hf
    refine ⟨A, B, x, rfl, by rw [e2], e1, e3, e4, ?_⟩
    rw [hfm]
    simp only
    have : (L (a, b))[j]? = some (fr x) := by rw [e5, List.getElem?_append_right (by omega), e4]; simp
    rw [List.getElem?_eq_getElem hj] at this
    exact Option.some.inj this

theorem take_eval (k : Nat) (hk : 4000 ≤ k) {P : Int} {M : List RF} {L : Int × Int → List Fr} {n : Nat} (h : Ok P M L n) (hn : n < 1000) (a b i : Int) (hi : i < 9223372036854775808) :
    ∃ M', hearsayref26_Take.f k P M a b i = some (P, M', (takeM P L a b i).1.1, (takeM P L a b i).1.2.1, (takeM P L a b i).1.2.2) ∧ Ok P M' (takeM P L a b i).2 n := by
  have hl := h.len
  unfold hearsayref26_Take.f
  rw [may_eval k hk h hn a b i hi]
  simp only [Option.bind_some]
  unfold takeM
  by_cases h0 : (findM P L a b i).1 = 0
  · rw [if_pos h0, if_pos h0]
    obtain ⟨ht, j, A, B, x, rfl, hf, rfl, hx, hA, hfx⟩ := findM_find h h0
    have hlen : (A ++ x :: B).length = A.length + 1 + B.length := by simp; omega
    rw [find_f k P _ a b j (by omega) (by omega) (by omega)]
    simp only [Option.bind_some, findI, hf, Nat.add_zero]
    have hw : wrap64 ((A.length : Int) + 1) = ((A.length + 1 : Nat) : Int) := by rw [wrap64_small _ (by omega) (by omega)]; omega
    rw [if_pos (by omega), if_pos (by omega), if_pos (by omega), hw, if_pos (by simp; omega), if_pos (by omega), if_pos (by omega), if_pos (by simp; omega), rd_eq (by omega)]
    have e1 : (A ++ x :: B)[A.length]'(by omega) = x := by simp
    have e2 : ([] ++ (A ++ x :: B).take ((A.length : Int)).toNat) ++ (A ++ x :: B).drop (((A.length + 1 : Nat) : Int)).toNat = A ++ B := by simp
    rw [e1, e2, hfx, beq_toList]
    refine ⟨A ++ B, rfl, ?_⟩
    simp only [takeL, Int.toNat_natCast]
    rw [← hA]
    exact h.erase hx
  · rw [if_neg h0, if_neg h0]
    exact ⟨M, rfl, h⟩
end Go.Proofs.Ytnnmhpplmihidaa
