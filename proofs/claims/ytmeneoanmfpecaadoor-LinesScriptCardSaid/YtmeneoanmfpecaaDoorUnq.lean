/- Unquoting, in plain words. -/
import Derived.Test.YtmeneoanmfpecaaDoorQuote
import Derived.Lib.Bytealg
namespace Go.Proofs.YtmeneoanmfpecaaDoor
set_option linter.unusedVariables false
set_option linter.unusedSimpArgs false

/-- What a sign of sixteen is worth. -/
def hexV (c : UInt8) : Option Nat := if 48 ≤ c.toNat ∧ c.toNat ≤ 57 then some (c.toNat - 48) else if 97 ≤ c.toNat ∧ c.toNat ≤ 102 then some (c.toNat - 87) else none
/-- Does a byte of these upper four bits not stand for itself? -/
def opensB (q : Nat) : Bool := (List.range 16).any fun k => !plainB (UInt8.ofNat (16 * q + k))
/-- What a text says by its next bytes, behind a backslash: an error's number, and the byte. -/
def signM : List UInt8 → Int × UInt8
  | [] => (5, 0)
  | [h] => match hexV h with
    | none => (7, 0)
    | some q => if opensB q = true then (5, 0) else (7, 0)
  | h :: k :: _ => match hexV h with
    | none => (7, 0)
    | some q => match hexV k with
      | none => (7, 0)
      | some r => if plainB (UInt8.ofNat (16 * q + r)) = true then (7, 0) else (0, UInt8.ofNat (16 * q + r))
/-- The rest of a text in quotes: the text, how far it reaches, an error's number. -/
def unqM : List UInt8 → List UInt8 → Nat → List UInt8 × Nat × Int
  | [], _, _ => ([], 0, 5)
  | c :: r, acc, i =>
    if c = 34 then (acc, i + 1, 0)
    else if plainB c = true then unqM r (acc ++ [c]) (i + 1)
    else if c = 92 then (if (signM r).1 = 0 then unqM (r.drop 2) (acc ++ [(signM r).2]) (i + 3) else ([], 0, (signM r).1))
    else ([], 0, 7)
termination_by l => l.length
decreasing_by
  · simp
  · simp only [List.length_drop, List.length_cons]; omega
def unquoteM (l : List UInt8) : List UInt8 × Nat × Int :=
  match l with
  | [] => ([], 0, 5)
  | c :: r => if c = 34 then unqM r [] 1 else ([], 0, 7)

theorem hexV_hexes (q : Nat) (h : q < 16) : hexV (hexes.getD q 0) = some q := by
  have : ∀ q : Fin 16, hexV (hexes.getD q.val 0) = some q.val := by decide
  exact this ⟨q, h⟩
theorem hexV_some {c : UInt8} {q : Nat} (h : hexV c = some q) : q < 16 ∧ c = hexes.getD q 0 := by
  have : ∀ c : Fin 256, ∀ q : Fin 16, hexV (UInt8.ofNat c.val) = some q.val → UInt8.ofNat c.val = hexes.getD q.val 0 := by decide +kernel
  have hq : q < 16 := by
    unfold hexV at h
    split at h
    · simp at h; omega
    · split at h
      · simp at h; omega
      · cases h
  have hc := this ⟨c.toNat, c.toNat_lt⟩ ⟨q, hq⟩
  simp only [UInt8.ofNat_toNat] at hc
  exact ⟨hq, hc h⟩
theorem hexV_index (c : UInt8) : (match hexV c with | some q => (Lib.indexByte hexes c = (q : Int)) | none => Lib.indexByte hexes c = -1) := by
  have : ∀ c : Fin 256, (match hexV (UInt8.ofNat c.val) with | some q => decide (Lib.indexByte hexes (UInt8.ofNat c.val) = (q : Int)) | none => decide (Lib.indexByte hexes (UInt8.ofNat c.val) = -1)) = true := by decide +kernel
  have h := this ⟨c.toNat, c.toNat_lt⟩
  simp only [UInt8.ofNat_toNat] at h
  cases hh : hexV c with
  | none => rw [hh] at h; simpa using h
  | some q => rw [hh] at h; simpa using h

theorem oneL_plain {c : UInt8} (h : plainB c = true) : oneL c = [c] := by simp [oneL, h]
theorem oneL_esc {c : UInt8} (h : plainB c = false) : oneL c = [92, hexes.getD (c.toNat / 16) 0, hexes.getD (c.toNat % 16) 0] := by simp [oneL, h]
theorem nibbles (c : UInt8) : UInt8.ofNat (16 * (c.toNat / 16) + c.toNat % 16) = c := by
  have h : 16 * (c.toNat / 16) + c.toNat % 16 = c.toNat := by omega
  rw [h, UInt8.ofNat_toNat]
theorem plain34 : plainB 34 = false := by decide
theorem plain92 : plainB 92 = false := by decide
theorem sign_esc {c : UInt8} (h : plainB c = false) (r : List UInt8) : signM (hexes.getD (c.toNat / 16) 0 :: hexes.getD (c.toNat % 16) 0 :: r) = (0, c) := by
  have hc := c.toNat_lt
  simp only [signM, hexV_hexes _ (show c.toNat / 16 < 16 by omega), hexV_hexes _ (show c.toNat % 16 < 16 by omega), nibbles, h]
  simp
/-- A byte, as it stands in quotes, is taken. -/
theorem unq_one (c : UInt8) (r acc : List UInt8) (i : Nat) : unqM (oneL c ++ r) acc i = unqM r (acc ++ [c]) (i + (oneL c).length) := by
  cases h : plainB c with
  | true =>
    rw [oneL_plain h]
    have h34 : c ≠ 34 := fun e => by rw [e, plain34] at h; cases h
    rw [List.singleton_append, unqM, if_neg h34, if_pos h]
    rfl
  | false =>
    rw [oneL_esc h]
    show unqM (92 :: _ :: _ :: r) acc i = _
    rw [unqM, if_neg (by decide), if_neg (by rw [plain92]; decide), if_pos rfl, sign_esc h]
    simp
theorem unq_flat (s : List UInt8) : ∀ (r acc : List UInt8) (i : Nat), unqM (s.flatMap oneL ++ r) acc i = unqM r (acc ++ s) (i + (s.flatMap oneL).length) := by
  induction s with
  | nil => intro r acc i; simp
  | cons c s ih =>
    intro r acc i
    rw [List.flatMap_cons, List.append_assoc, unq_one, ih]
    simp [Nat.add_assoc]
/-- What stands in quotes is what was put there. -/
theorem unquote_quote (s t : List UInt8) : unquoteM (quoteL s ++ t) = (s, (quoteL s).length, 0) := by
  unfold quoteL
  simp only [List.singleton_append, List.cons_append, List.append_assoc, unquoteM, if_pos, List.nil_append]
  rw [unq_flat, unqM, if_pos rfl]
  simp
  omega

theorem drop_two {α : Type} (h k : α) (r : List α) : (h :: k :: r).drop 2 = r := rfl
theorem sign_ok {r : List UInt8} (h : (signM r).1 = 0) : ∃ r', r = hexes.getD ((signM r).2.toNat / 16) 0 :: hexes.getD ((signM r).2.toNat % 16) 0 :: r' ∧ plainB (signM r).2 = false := by
  match r, h with
  | [], h => simp [signM] at h
  | [a], h =>
    simp only [signM] at h
    split at h
    · simp at h
    · split at h <;> simp at h
  | a :: b :: r, h =>
    simp only [signM] at h ⊢
    split at h
    · simp at h
    · rename_i q hq
      split at h
      · simp at h
      · rename_i t ht
        obtain ⟨hq16, rfl⟩ := hexV_some hq
        obtain ⟨ht16, rfl⟩ := hexV_some ht
        split at h
        · simp at h
        · rename_i hp
          simp only [if_neg hp]
          have e : (UInt8.ofNat (16 * q + t)).toNat = 16 * q + t := by rw [UInt8.toNat_ofNat']; omega
          have e1 : (16 * q + t) / 16 = q := by omega
          have e2 : (16 * q + t) % 16 = t := by omega
          simp only [e, e1, e2]
          exact ⟨r, rfl, by simpa using hp⟩
/-- What is unquoted stood in quotes. -/
theorem unq_back (n : Nat) : ∀ (l : List UInt8), l.length ≤ n → ∀ (acc : List UInt8) (i : Nat) (x : List UInt8) (k : Nat), unqM l acc i = (x, k, 0) → ∃ s r, l = s.flatMap oneL ++ 34 :: r ∧ x = acc ++ s ∧ k = i + (s.flatMap oneL).length + 1 := by
  induction n with
  | zero =>
    intro l hl acc i x k h
    have : l = [] := List.length_eq_zero_iff.1 (by omega)
    subst this
    rw [unqM] at h
    simp at h
  | succ n ih =>
    intro l hl acc i x k h
    cases l with
    | nil => rw [unqM] at h; simp at h
    | cons c r =>
      rw [unqM] at h
      simp only [List.length_cons] at hl
      split at h
      · rename_i hc
        simp only [Prod.mk.injEq, and_true] at h
        exact ⟨[], r, by simp [hc], by simp [h.1], by simp; omega⟩
      · split at h
        · rename_i hp
          obtain ⟨s, r', rfl, rfl, rfl⟩ := ih r (by omega) _ _ _ _ h
          exact ⟨c :: s, r', by simp [oneL_plain hp], by simp, by simp [oneL_plain hp]; omega⟩
        · split at h
          · rename_i h92
            split at h
            · rename_i hs
              obtain ⟨r', hr, hp⟩ := sign_ok hs
              obtain ⟨s, r2, hs2, rfl, rfl⟩ := ih (r.drop 2) (by simp only [List.length_drop]; omega) _ _ _ _ h
              refine ⟨(signM r).2 :: s, r2, ?_, by simp, ?_⟩
              · rw [List.flatMap_cons, oneL_esc hp, h92]
                have : r.drop 2 = r' := by rw [hr]; rfl
                rw [this] at hs2
                rw [List.append_assoc, ← hs2]
                show 92 :: r = 92 :: _ :: _ :: r'
                rw [← hr]
              · simp [oneL_esc hp]; omega
            · rename_i hs
              simp only [Prod.mk.injEq] at h
              exact absurd h.2.2 hs
          · simp at h
theorem unquote_back {l x : List UInt8} {k : Nat} (h : unquoteM l = (x, k, 0)) : ∃ r, l = quoteL x ++ r ∧ k = (quoteL x).length := by
  unfold unquoteM at h
  split at h
  · simp at h
  · rename_i c r
    split at h
    · rename_i hc
      obtain ⟨s, r', rfl, rfl, rfl⟩ := unq_back r.length r (Nat.le_refl _) _ _ _ _ h
      exact ⟨r', by simp [quoteL, hc], by simp [quoteL]; omega⟩
    · simp at h

/-- May a text be the beginning of what a byte stands as? -/
def mayB (l : List UInt8) (c : UInt8) : Bool := decide (l.length < (oneL c).length) && l.isPrefixOf (oneL c)
def isB (l : List UInt8) (c : UInt8) : Bool := (oneL c).isPrefixOf l
theorem opens_iff (q : Nat) : opensB q = true ↔ ∃ k, k < 16 ∧ plainB (UInt8.ofNat (16 * q + k)) = false := by
  simp [opensB]
theorem all_plain_or (f : UInt8 → Prop) (h : ∀ k : Nat, k < 256 → f (UInt8.ofNat k)) (c : UInt8) : f c := by
  have := h c.toNat c.toNat_lt
  rwa [UInt8.ofNat_toNat] at this
def mayAny (l : List UInt8) : Bool := (List.range 256).any fun k => mayB l (UInt8.ofNat k)
def shortB (l : List UInt8) : Bool := l.isEmpty || mayAny l
theorem shortB_iff (l : List UInt8) : shortB l = true ↔ (l = [] ∨ ∃ c, mayB l c = true) := by
  unfold shortB mayAny
  rw [Bool.or_eq_true, List.isEmpty_iff, List.any_eq_true]
  constructor
  · rintro (h | ⟨k, _, h⟩)
    · exact .inl h
    · exact .inr ⟨_, h⟩
  · rintro (h | ⟨c, h⟩)
    · exact .inl h
    · exact .inr ⟨c.toNat, List.mem_range.2 c.toNat_lt, by rw [UInt8.ofNat_toNat]; exact h⟩
/-- No byte stands there: the error. -/
theorem unq_none (l acc : List UInt8) (i : Nat) (h34 : l.head? ≠ some 34) (hno : ∀ c, isB l c = false) :
    unqM l acc i = ([], 0, if shortB l = true then 5 else 7) := by
  match l, h34, hno with
  | [], _, _ => rw [unqM]; rfl
  | c :: r, h34, hno =>
    have hc34 : c ≠ 34 := fun e => h34 (by simp [e])
    have hp : plainB c = false := by
      cases h : plainB c with
      | false => rfl
      | true => have := hno c; rw [isB, oneL_plain h] at this; simp at this
    rw [unqM, if_neg hc34, if_neg (by rw [hp]; decide)]
    by_cases h92 : c = 92
    · subst h92
      rw [if_pos rfl]
      match r, hno with
      | [], hno =>
        have hm : ∃ c, mayB [92] c = true := ⟨0, by decide⟩
        rw [if_neg (by simp [signM]), if_pos ((shortB_iff _).2 (.inr hm))]
        rfl
      | [a], hno =>
        cases ha : hexV a with
        | none =>
          have hm : ¬ (([92, a] : List UInt8) = [] ∨ ∃ c, mayB [92, a] c = true) := by
            rintro (h | ⟨c, h⟩)
            · cases h
            · simp only [mayB, Bool.and_eq_true] at h
              cases hpc : plainB c with
              | true => rw [oneL_plain hpc] at h; simp at h
              | false =>
                rw [oneL_esc hpc] at h
                simp only [List.isPrefixOf, beq_self_eq_true, Bool.true_and, Bool.and_true, beq_iff_eq] at h
                have := hexV_hexes (c.toNat / 16) (by have := c.toNat_lt; omega)
                rw [← h.2, ha] at this
                cases this
          rw [if_neg (by simp [signM, ha]), if_neg (fun h => hm ((shortB_iff _).1 h))]
          simp [signM, ha]
        | some q =>
          obtain ⟨hq, rfl⟩ := hexV_some ha
          cases ho : opensB q with
          | true =>
            obtain ⟨k, hk, hkp⟩ := (opens_iff q).1 ho
            have hm : ∃ c, mayB [92, hexes.getD q 0] c = true := by
              refine ⟨UInt8.ofNat (16 * q + k), ?_⟩
              have e : (UInt8.ofNat (16 * q + k)).toNat = 16 * q + k := by rw [UInt8.toNat_ofNat']; omega
              have e1 : (16 * q + k) / 16 = q := by omega
              rw [mayB, oneL_esc hkp, e, e1]
              simp
            rw [if_neg (by simp only [signM, ha, ho]; simp), if_pos ((shortB_iff _).2 (.inr hm))]
            simp only [signM, ha, ho]
            simp
          | false =>
            have hm : ¬ (([92, hexes.getD q 0] : List UInt8) = [] ∨ ∃ c, mayB [92, hexes.getD q 0] c = true) := by
              rintro (h | ⟨c, h⟩)
              · cases h
              · simp only [mayB, Bool.and_eq_true] at h
                cases hpc : plainB c with
                | true => rw [oneL_plain hpc] at h; simp at h
                | false =>
                  rw [oneL_esc hpc] at h
                  simp only [List.isPrefixOf, beq_self_eq_true, Bool.true_and, Bool.and_true, beq_iff_eq] at h
                  have hv := hexV_hexes (c.toNat / 16) (by have := c.toNat_lt; omega)
                  rw [← h.2, ha] at hv
                  have hv' := Option.some.inj hv
                  have : opensB q = true := (opens_iff q).2 ⟨c.toNat % 16, by omega, by rw [hv', nibbles]; exact hpc⟩
                  rw [this] at ho
                  cases ho
            rw [if_neg (by simp only [signM, ha, ho]; simp), if_neg (fun h => hm ((shortB_iff _).1 h))]
            simp only [signM, ha, ho]
            simp
      | a :: b :: r, hno =>
        have hm : ¬ ((92 :: a :: b :: r : List UInt8) = [] ∨ ∃ c, mayB (92 :: a :: b :: r) c = true) := by
          rintro (h | ⟨c, h⟩)
          · cases h
          · simp only [mayB, Bool.and_eq_true, decide_eq_true_eq, List.length_cons] at h
            have := oneL_len c
            omega
        rw [if_neg (fun h => hm ((shortB_iff _).1 h))]
        by_cases hs : (signM (a :: b :: r)).1 = 0
        · obtain ⟨r', hr, hpc⟩ := sign_ok hs
          have hn := hno (signM (a :: b :: r)).2
          have hy : isB (92 :: a :: b :: r) (signM (a :: b :: r)).2 = true := by
            rw [isB, List.isPrefixOf_iff_prefix, oneL_esc hpc]
            exact ⟨r', by rw [List.cons_append, List.cons_append, List.cons_append, List.nil_append, ← hr]⟩
          rw [hn] at hy
          cases hy
        · rw [if_neg hs]
          have h7 : (signM (a :: b :: r)).1 = 0 ∨ (signM (a :: b :: r)).1 = 7 := by
            simp only [signM]
            split
            · exact .inr rfl
            · split
              · exact .inr rfl
              · split
                · exact .inr rfl
                · exact .inl rfl
          rcases h7 with h | h
          · exact absurd h hs
          · rw [h]
    · have hm : ¬ ((c :: r : List UInt8) = [] ∨ ∃ d, mayB (c :: r) d = true) := by
        rintro (h | ⟨d, h⟩)
        · cases h
        · simp only [mayB, Bool.and_eq_true] at h
          cases hpd : plainB d with
          | true => rw [oneL_plain hpd] at h; simp at h
          | false =>
            rw [oneL_esc hpd] at h
            simp only [List.isPrefixOf, Bool.and_eq_true, beq_iff_eq] at h
            exact h92 h.2.1
      rw [if_neg h92, if_neg (fun h => hm ((shortB_iff _).1 h))]
theorem isB_iff (l : List UInt8) (c : UInt8) : isB l c = true ↔ ∃ r, l = oneL c ++ r := by
  rw [isB, List.isPrefixOf_iff_prefix]
  exact ⟨fun ⟨r, h⟩ => ⟨r, h.symm⟩, fun ⟨r, h⟩ => ⟨r, h.symm⟩⟩
end Go.Proofs.YtmeneoanmfpecaaDoor
