/- LinkOnce's plain law: what is taken as it was sent was sent there, not more often than it was sent or doubled. -/
import Derived.Test.YtnnmhpplmihidaaNetBend
namespace Go.Proofs.Ytnnmhpplmihidaa
set_option linter.unusedVariables false
set_option linter.unusedSimpArgs false

abbrev FV := Int × Int × ByteArray
def cnt (x : FV) (l : List FV) : Nat := l.countP (fun y => decide (y = x))
theorem cnt_append (x : FV) (l k : List FV) : cnt x (l ++ k) = cnt x l + cnt x k := by simp [cnt]
theorem cnt_one (x y : FV) : cnt x [y] = if y = x then 1 else 0 := by
  by_cases h : y = x <;> simp [cnt, h]
theorem cnt_pos {x : FV} {l : List FV} (h : x ∈ l) : cnt x l ≠ 0 := by
  have : 0 < cnt x l := List.countP_pos_iff.2 ⟨x, h, by simp⟩
  omega

structure Inv (L : Int × Int → List Fr) (sent got : List FV) (tw : Nat) : Prop where
  count : ∀ (p : Int × Int) (s : ByteArray), cnt (p.1, p.2, s) got + (L p).countP (fun f => decide (f.2 = s)) ≤ cnt (p.1, p.2, s) sent + tw
  mem : ∀ p, ∀ f ∈ L p, (p.1, p.2, f.2) ∈ sent
  got_ : ∀ x ∈ got, x ∈ sent
  size : ∀ p, ∀ f ∈ L p, f.1.size ≤ 140737488351232

theorem Inv.start : Inv (fun _ => []) [] [] 0 where
  count p s := by simp [cnt]
  mem p f h := by simp at h
  got_ x h := by simp at h
  size p f h := by simp at h

theorem countP_one (f : Fr) (s : ByteArray) : [f].countP (fun f => decide (f.2 = s)) = if f.2 = s then 1 else 0 := by
  by_cases h : f.2 = s <;> simp [h]

theorem inv_send {L : Int × Int → List Fr} {sent got : List FV} {tw : Nat} (h : Inv L sent got tw) (a b : Int) (s : ByteArray) (hs : s.size ≤ 140737488351232) :
    Inv (sendM 3 L a b s).2 (if (sendM 3 L a b s).1 = 0 then sent ++ [(a, b, s)] else sent) got tw := by
  unfold sendM
  split
  · simpa using h
  · split
    · simpa using h
    · split
      · simpa using h
      · simp only [if_true]
        refine ⟨fun p t => ?_, fun p f hf => ?_, fun x hx => List.mem_append_left _ (h.got_ x hx), fun p f hf => ?_⟩
        · have := h.count p t
          rw [cnt_append, cnt_one]
          by_cases hp : p = (a, b)
          · subst hp
            simp only [upd, if_true, List.countP_append, countP_one]
            simp only [Prod.mk.injEq, true_and]
            simp only at this
            split <;> omega
          · simp only [upd, if_neg hp]
            omega
        · by_cases hp : p = (a, b)
          · subst hp
            simp only [upd, if_true, List.mem_append, List.mem_singleton] at hf
            rcases hf with hf | rfl
            · exact List.mem_append_left _ (h.mem _ _ hf)
            · exact List.mem_append_right _ (by simp)
          · simp only [upd, if_neg hp] at hf
            exact List.mem_append_left _ (h.mem _ _ hf)
        · by_cases hp : p = (a, b)
          · subst hp
            simp only [upd, if_true, List.mem_append, List.mem_singleton] at hf
            rcases hf with hf | rfl
            · exact h.size _ _ hf
            · exact hs
          · simp only [upd, if_neg hp] at hf
            exact h.size _ _ hf

theorem inv_twice {L : Int × Int → List Fr} {sent got : List FV} {tw : Nat} (h : Inv L sent got tw) (a b i : Int) :
    Inv (twiceM 3 L a b i).2 sent got (if (twiceM 3 L a b i).1 = 0 then tw + 1 else tw) := by
  unfold twiceM
  split
  · rename_i h0
    obtain ⟨_, n, rfl, hn, hf⟩ := findM_zero h0
    split
    · simpa using h
    · simp only [if_true, hf]
      have hmem : (L (a, b))[n] ∈ L (a, b) := List.getElem_mem hn
      refine ⟨fun p t => ?_, fun p f hf => ?_, h.got_, fun p f hf => ?_⟩
      · have := h.count p t
        by_cases hp : p = (a, b)
        · subst hp
          simp only [upd, if_true, List.countP_append, countP_one]
          simp only at this
          split <;> omega
        · simp only [upd, if_neg hp]
          omega
      · by_cases hp : p = (a, b)
        · subst hp
          simp only [upd, if_true, List.mem_append, List.mem_singleton] at hf
          rcases hf with hf | rfl
          · exact h.mem _ _ hf
          · exact h.mem _ _ hmem
        · simp only [upd, if_neg hp] at hf
          exact h.mem _ _ hf
      · by_cases hp : p = (a, b)
        · subst hp
          simp only [upd, if_true, List.mem_append, List.mem_singleton] at hf
          rcases hf with hf | rfl
          · exact h.size _ _ hf
          · exact h.size _ _ hmem
        · simp only [upd, if_neg hp] at hf
          exact h.size _ _ hf
  · rename_i h0
    simpa [h0] using h

theorem countP_erase {α : Type} (q : α → Bool) : ∀ (l : List α) (n : Nat) (hn : n < l.length), (l.eraseIdx n).countP q + (if q l[n] then 1 else 0) = l.countP q
  | x :: l, 0, _ => by simp [List.countP_cons]
  | x :: l, n + 1, hn => by
    have := countP_erase q l n (by simpa using hn)
    simp only [List.eraseIdx_cons_succ, List.countP_cons, List.getElem_cons_succ]
    omega

theorem inv_take {L : Int × Int → List Fr} {sent got : List FV} {tw : Nat} (h : Inv L sent got tw) (a b i : Int) :
    Inv (takeM 3 L a b i).2 sent (if (takeM 3 L a b i).1.2.2 = 0 ∧ (takeM 3 L a b i).1.2.1 = true then got ++ [(a, b, (takeM 3 L a b i).1.1)] else got) tw := by
  unfold takeM
  split
  · rename_i h0
    obtain ⟨_, n, rfl, hn, hf⟩ := findM_zero h0
    have hmem : (L (a, b))[n] ∈ L (a, b) := List.getElem_mem hn
    simp only [hf, true_and, decide_eq_true_eq, takeL, Int.toNat_natCast]
    have hM : ∀ p, ∀ f ∈ upd L (a, b) ((L (a, b)).eraseIdx n) p, f ∈ L p := by
      intro p f hf
      by_cases hp : p = (a, b)
      · subst hp
        simp only [upd, if_true] at hf
        exact List.mem_of_mem_eraseIdx hf
      · simpa only [upd, if_neg hp] using hf
    by_cases hs : (L (a, b))[n].1 = (L (a, b))[n].2
    · rw [if_pos hs]
      refine ⟨fun p t => ?_, fun p f hf => h.mem p f (hM p f hf), fun x hx => ?_, fun p f hf => h.size p f (hM p f hf)⟩
      · have h1 := h.count p t
        rw [cnt_append, cnt_one]
        by_cases hp : p = (a, b)
        · subst hp
          have h2 := countP_erase (fun f : Fr => decide (f.2 = t)) _ n hn
          simp only [upd, if_true, Prod.mk.injEq, true_and, hs]
          simp only at h1
          simp only [decide_eq_true_eq] at h2
          split
          · rename_i e
            rw [if_pos e] at h2
            omega
          · rename_i e
            rw [if_neg e] at h2
            omega
        · simp only [upd, if_neg hp]
          rw [if_neg (by
            intro h
            simp only [Prod.mk.injEq] at h
            exact hp (Prod.ext h.1.symm h.2.1.symm))]
          omega
      · rcases List.mem_append.1 hx with hx | hx
        · exact h.got_ x hx
        · simp at hx
          subst hx
          rw [hs]
          exact h.mem (a, b) _ hmem
    · rw [if_neg hs]
      refine ⟨fun p t => ?_, fun p f hf => h.mem p f (hM p f hf), h.got_, fun p f hf => h.size p f (hM p f hf)⟩
      have h1 := h.count p t
      by_cases hp : p = (a, b)
      · subst hp
        have h2 := countP_erase (fun f : Fr => decide (f.2 = t)) _ n hn
        simp only [upd, if_true]
        simp only at h1
        omega
      · simp only [upd, if_neg hp]
        omega
  · rename_i h0
    simpa [h0] using h

theorem bendB_length (bs : List UInt8) (p mask : Nat) : ∀ k, (bendB bs p mask k).length = bs.length
  | 0 => rfl
  | k + 1 => by simp [bendB, bendB_length bs p mask k]

theorem countP_set {α : Type} (q : α → Bool) : ∀ (l : List α) (n : Nat) (x : α) (hn : n < l.length), q x = q l[n] → (l.set n x).countP q = l.countP q
  | y :: l, 0, x, _, h => by simp at h; simp [List.countP_cons, h]
  | y :: l, n + 1, x, hn, h => by
    have := countP_set q l n x (by simpa using hn) (by simpa using h)
    simp only [List.set_cons_succ, List.countP_cons, this]

theorem inv_bend {L : Int × Int → List Fr} {sent got : List FV} {tw : Nat} (h : Inv L sent got tw) (a b i at_ : Int) (mask : Nat) :
    Inv (bendM 3 L a b i at_ mask).2 sent got tw := by
  unfold bendM
  split
  · rename_i h0
    obtain ⟨_, n, rfl, hn, hf⟩ := findM_zero h0
    split
    · exact h
    · simp only [hf, Int.toNat_natCast]
      have hmem : (L (a, b))[n] ∈ L (a, b) := List.getElem_mem hn
      obtain ⟨X, hX⟩ : ∃ X : ByteArray, ⟨(bendB (L (a, b))[n].1.data.toList ((IntKind.u64.wrap at_).toNat % ((L (a, b))[n].1.size - 3)) mask 4).toArray⟩ = X := ⟨_, rfl⟩
      have hXs : X.size = (L (a, b))[n].1.size := by
        rw [← hX]
        show (bendB _ _ _ 4).toArray.size = _
        rw [List.size_toArray, bendB_length]
        simp
      rw [hX]
      have hM : ∀ p, ∀ f ∈ upd L (a, b) ((L (a, b)).set n (X, (L (a, b))[n].2)) p, ∃ f' ∈ L p, f'.2 = f.2 ∧ f'.1.size = f.1.size := by
        intro p f hf
        by_cases hp : p = (a, b)
        · subst hp
          simp only [upd, if_true] at hf
          rcases List.mem_or_eq_of_mem_set hf with hf | rfl
          · exact ⟨f, hf, rfl, rfl⟩
          · exact ⟨_, hmem, rfl, hXs.symm⟩
        · simp only [upd, if_neg hp] at hf
          exact ⟨f, hf, rfl, rfl⟩
      refine ⟨fun p t => ?_, fun p f hf => ?_, h.got_, fun p f hf => ?_⟩
      · have h1 := h.count p t
        by_cases hp : p = (a, b)
        · subst hp
          simp only [upd, if_true]
          rw [countP_set (fun f : Fr => decide (f.2 = t)) _ n (X, (L (a, b))[n].2) hn rfl]
          exact h1
        · simp only [upd, if_neg hp]
          exact h1
      · obtain ⟨f', h1, h2, _⟩ := hM p f hf
        rw [← h2]
        exact h.mem p f' h1
      · obtain ⟨f', h1, _, h3⟩ := hM p f hf
        rw [← h3]
        exact h.size p f' h1
  · exact h

theorem Inv.final {L : Int × Int → List Fr} {sent got : List FV} {tw : Nat} (h : Inv L sent got tw) {x : FV} (hx : x ∈ got) : cnt x sent ≠ 0 ∧ cnt x got ≤ cnt x sent + tw := by
  refine ⟨cnt_pos (h.got_ x hx), ?_⟩
  have := h.count (x.1, x.2.1) x.2.2
  have e : ((x.1, x.2.1, x.2.2) : FV) = x := rfl
  rw [show (((x.1, x.2.1) : Int × Int).1, ((x.1, x.2.1) : Int × Int).2, x.2.2) = x from rfl] at this
  omega
end Go.Proofs.Ytnnmhpplmihidaa
