/- A number's text, a dot's and a vector's say the number, the dot, the vector. -/
import Derived.Test.YtmeneoanmfpecaaDoorVec
namespace Go.Proofs.YtmeneoanmfpecaaDoor
open Lib

def valD (l : List UInt8) : Nat := l.foldl (fun n c => 10 * n + (c.toNat - 48)) 0
theorem valD_snoc (l : List UInt8) (c : UInt8) : valD (l ++ [c]) = 10 * valD l + (c.toNat - 48) := by simp [valD]
theorem digit_toNat (u : Nat) (h : u < 10) : (UInt8.ofNat (48 + u)).toNat = 48 + u := by
  rw [UInt8.toNat_ofNat']
  omega
theorem valD_digits (u : Nat) : valD (decDigits u) = u := by
  induction u using Nat.strongRecOn with
  | ind u ih =>
    rw [decDigits]
    split
    · rename_i h
      show valD ([] ++ [_]) = u
      rw [valD_snoc, digit_toNat u h]
      simp [valD]
    · rename_i h
      rw [valD_snoc, ih (u / 10) (by omega), digit_toNat _ (by omega)]
      omega
theorem digits_mem (u : Nat) : ∀ c ∈ decDigits u, 48 ≤ c.toNat ∧ c.toNat ≤ 57 := by
  induction u using Nat.strongRecOn with
  | ind u ih =>
    intro c hc
    rw [decDigits] at hc
    split at hc
    · rename_i h
      simp only [List.mem_singleton] at hc
      subst hc
      rw [digit_toNat u h]
      omega
    · rename_i h
      rcases List.mem_append.1 hc with h' | h'
      · exact ih (u / 10) (by omega) c h'
      · simp only [List.mem_singleton] at h'
        subst h'
        rw [digit_toNat _ (by omega)]
        omega
theorem digits_ne (u : Nat) : decDigits u ≠ [] := by
  rw [decDigits]
  split <;> simp
theorem itoa_mem (n : Int) : ∀ c ∈ itoa n, c = 45 ∨ (48 ≤ c.toNat ∧ c.toNat ≤ 57) := by
  intro c hc
  unfold itoa at hc
  split at hc
  · rcases List.mem_cons.1 hc with h | h
    · exact .inl h
    · exact .inr (digits_mem _ c h)
  · exact .inr (digits_mem _ c hc)
theorem itoa_ne (n : Int) : itoa n ≠ [] := by
  unfold itoa
  split
  · simp
  · exact digits_ne _
theorem digits_inj {u v : Nat} (h : decDigits u = decDigits v) : u = v := by
  have := congrArg valD h
  rwa [valD_digits, valD_digits] at this
theorem digits_head (u : Nat) (r : List UInt8) : decDigits u ≠ 45 :: r := fun h => by
  have := digits_mem u 45 (by rw [h]; simp)
  revert this
  decide
theorem itoa_inj {a b : Int} (h : itoa a = itoa b) : a = b := by
  unfold itoa at h
  split at h <;> split at h
  · have := digits_inj (List.cons.inj h).2
    omega
  · exact absurd h.symm (digits_head _ _)
  · exact absurd h (digits_head _ _)
  · have := digits_inj h
    omega
/-- Two rows that stop at a sign that neither has. -/
theorem cut_inj {s : UInt8} : ∀ {a b x y : List UInt8}, s ∉ a → s ∉ b → (x = [] ∨ ∃ x', x = s :: x') → (y = [] ∨ ∃ y', y = s :: y') → a ++ x = b ++ y → a = b ∧ x = y
  | [], [], x, y, _, _, _, _, h => ⟨rfl, h⟩
  | [], b :: bs, x, y, _, hb, hx, _, h => by
    rcases hx with rfl | ⟨x', rfl⟩
    · simp at h
    · simp only [List.nil_append, List.cons_append, List.cons.injEq] at h
      exact absurd h.1 (fun e => hb (by simp [e]))
  | a :: at_, [], x, y, ha, _, _, hy, h => by
    rcases hy with rfl | ⟨y', rfl⟩
    · simp at h
    · simp only [List.nil_append, List.cons_append, List.cons.injEq] at h
      exact absurd h.1 (fun e => ha (by simp [e]))
  | a :: at_, b :: bs, x, y, ha, hb, hx, hy, h => by
    simp only [List.cons_append, List.cons.injEq] at h
    have := cut_inj (fun q => ha (List.mem_cons_of_mem _ q)) (fun q => hb (List.mem_cons_of_mem _ q)) hx hy h.2
    exact ⟨by rw [h.1, this.1], this.2⟩
theorem itoa_not (n : Int) (s : UInt8) (h : s.toNat ≠ 45) (h2 : s.toNat < 48 ∨ 57 < s.toNat) : s ∉ itoa n := fun hm => by
  rcases itoa_mem n s hm with rfl | h3
  · exact h rfl
  · omega
theorem dotT_inj {p c p' c' : Int} (h : dotT p c = dotT p' c') : p = p' ∧ c = c' := by
  have := cut_inj (s := 58) (itoa_not p 58 (by decide) (by decide)) (itoa_not p' 58 (by decide) (by decide)) (.inr ⟨_, rfl⟩) (.inr ⟨_, rfl⟩) h
  exact ⟨itoa_inj this.1, itoa_inj (List.cons.inj this.2).2⟩
theorem dotT_not (p c : Int) : (32 : UInt8) ∉ dotT p c := fun h => by
  rcases List.mem_append.1 h with h | h
  · exact itoa_not p 32 (by decide) (by decide) h
  · rcases List.mem_cons.1 h with h | h
    · exact absurd h (by decide)
    · exact itoa_not c 32 (by decide) (by decide) h
theorem dotT_ne (p c : Int) : dotT p c ≠ [] := by simp [dotT]

/-- Texts with a blank between each two. -/
def jn : List (List UInt8) → List UInt8
  | [] => []
  | [x] => x
  | x :: y :: r => x ++ 32 :: jn (y :: r)
theorem jn_cons (x : List UInt8) (r : List (List UInt8)) : jn (x :: r) = x ++ (if r = [] then [] else 32 :: jn r) := by
  cases r with
  | nil => simp [jn]
  | cons y r => simp [jn]
theorem jn_snoc (l : List (List UInt8)) (x : List UInt8) : jn (l ++ [x]) = jn l ++ ((if l = [] then [] else [32]) ++ x) := by
  induction l with
  | nil => simp [jn]
  | cons y r ih =>
    rw [List.cons_append, jn_cons, jn_cons, ih]
    cases r <;> simp [jn]
theorem join_jn (T : Nat → List UInt8) (n : Nat) : joinT [32] T n = jn ((List.range n).map T) := by
  induction n with
  | zero => rfl
  | succ n ih =>
    rw [joinT, ih, List.range_succ, List.map_append, List.map_singleton, jn_snoc]
    cases n with
    | zero => simp
    | succ n => simp [List.range_succ]
theorem jn_inj : ∀ {a b : List (List UInt8)}, (∀ x ∈ a, (32 : UInt8) ∉ x ∧ x ≠ []) → (∀ x ∈ b, (32 : UInt8) ∉ x ∧ x ≠ []) → jn a = jn b → a = b
  | [], [], _, _, _ => rfl
  | [], y :: r, _, hb, h => by
    rw [jn_cons] at h
    have := (hb y (by simp)).2
    simp [jn] at h
    exact absurd h.1 this
  | x :: r, [], ha, _, h => by
    rw [jn_cons] at h
    have := (ha x (by simp)).2
    simp [jn] at h
    exact absurd h.1 this
  | x :: r, y :: s, ha, hb, h => by
    rw [jn_cons, jn_cons] at h
    have hc := cut_inj (s := 32) (ha x (by simp)).1 (hb y (by simp)).1 (by split; exact .inl rfl; exact .inr ⟨_, rfl⟩) (by split; exact .inl rfl; exact .inr ⟨_, rfl⟩) h
    obtain ⟨rfl, h2⟩ := hc
    by_cases hr : r = []
    · by_cases hs : s = []
      · rw [hr, hs]
      · rw [if_pos hr, if_neg hs] at h2
        exact absurd h2.symm (by simp)
    · by_cases hs : s = []
      · rw [if_neg hr, if_pos hs] at h2
        exact absurd h2 (by simp)
      · rw [if_neg hr, if_neg hs] at h2
        rw [jn_inj (fun q hq => ha q (List.mem_cons_of_mem _ hq)) (fun q hq => hb q (List.mem_cons_of_mem _ hq)) (List.cons.inj h2).2]
theorem dotAt_list (l : List (Int × Int)) : (List.range l.length).map (dotAt l) = l.map fun x => dotT x.1 x.2 := by
  apply List.ext_getElem
  · simp
  · intro i h1 h2
    simp only [List.length_map, List.length_range] at h1
    simp [dotAt, List.getElem?_eq_getElem h1]
theorem vecT_inj {a b : List (Int × Int)} (h : vecT a = vecT b) : a = b := by
  unfold vecT at h
  rw [List.cons_append, List.cons_append] at h
  have h1 := List.append_cancel_right (List.cons.inj h).2
  rw [join_jn, join_jn, dotAt_list, dotAt_list] at h1
  have h2 := jn_inj (by intro x hx; obtain ⟨q, _, rfl⟩ := List.mem_map.1 hx; exact ⟨dotT_not _ _, dotT_ne _ _⟩) (by intro x hx; obtain ⟨q, _, rfl⟩ := List.mem_map.1 hx; exact ⟨dotT_not _ _, dotT_ne _ _⟩) h1
  exact (List.map_inj_right fun x y e => by obtain ⟨p, q⟩ := dotT_inj e; exact Prod.ext p q).1 h2
end Go.Proofs.YtmeneoanmfpecaaDoor
