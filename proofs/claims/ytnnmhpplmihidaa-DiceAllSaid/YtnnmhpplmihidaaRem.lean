/- Places that are not gone; a permutation's order; rounds. -/
import Derived.IntWalk
import Derived.Test.YtnnmhpplmihidaaOrd
namespace Go.Proofs.Ytnnmhpplmihidaa
set_option linter.unusedVariables false
set_option linter.unusedSimpArgs false
open Go.RowKit

/-- The places that are not gone. -/
def remL : List Bool → Nat → List Int
  | [], _ => []
  | true :: g, i => remL g (i + 1)
  | false :: g, i => (i : Int) :: remL g (i + 1)

theorem remL_replicate : ∀ (n i : Nat), remL (List.replicate n false) i = (List.range' i n).map fun j : Nat => (j : Int)
  | 0, _ => rfl
  | n + 1, i => by simp [List.replicate_succ, remL, remL_replicate n (i + 1), List.range'_succ]

theorem remL_iota (n : Nat) : remL (List.replicate n false) 0 = iota n := by
  rw [remL_replicate, iota, List.range_eq_range']

theorem remL_ge : ∀ (g : List Bool) (i : Nat) (x : Int), x ∈ remL g i → (i : Int) ≤ x ∧ x < i + g.length
  | [], _, _, h => by simp [remL] at h
  | true :: g, i, x, h => by
    have := remL_ge g (i + 1) x h
    simp; omega
  | false :: g, i, x, h => by
    simp only [remL, List.mem_cons] at h
    rcases h with rfl | h
    · simp; omega
    · have := remL_ge g (i + 1) x h
      simp; omega

theorem getD_mem {α : Type} (l : List α) (k : Nat) (d : α) (h : k < l.length) : l.getD k d ∈ l := by
  rw [List.getD_eq_getElem?_getD, List.getElem?_eq_getElem h]; exact List.getElem_mem h

theorem remL_erase : ∀ (g : List Bool) (i k : Nat), k < (remL g i).length → remL (g.set (((remL g i).getD k 0).toNat - i) true) i = (remL g i).eraseIdx k
  | [], _, _, h => by simp [remL] at h
  | true :: g, i, k, h => by
    simp only [remL] at h ⊢
    have h1 := remL_ge g (i + 1) _ (getD_mem _ k 0 h)
    have e : ((remL g (i + 1)).getD k 0).toNat - i = (((remL g (i + 1)).getD k 0).toNat - (i + 1)) + 1 := by omega
    rw [e, List.set_cons_succ]
    simp only [remL]
    exact remL_erase g (i + 1) k h
  | false :: g, i, 0, h => by simp [remL]
  | false :: g, i, k + 1, h => by
    simp only [remL, List.length_cons] at h ⊢
    have hk : k < (remL g (i + 1)).length := by omega
    have h1 := remL_ge g (i + 1) _ (getD_mem _ k 0 hk)
    have e : ((((i : Int) :: remL g (i + 1)).getD (k + 1) 0)).toNat - i = (((remL g (i + 1)).getD k 0).toNat - (i + 1)) + 1 := by
      rw [List.getD_cons_succ]; omega
    rw [e, List.set_cons_succ]
    simp only [remL, List.eraseIdx_cons_succ]
    rw [remL_erase g (i + 1) k hk]

/-- From some number of rounds on. -/
def Late {α : Type} (g : Nat → Option α) (r : α) : Prop := ∃ K, ∀ k, K ≤ k → g k = some r

theorem Late.step {α : Type} {g h : Nat → Option α} {r : α} (hs : ∀ k, g (k + 1) = h k) (hr : Late h r) : Late g r := by
  obtain ⟨K, hK⟩ := hr
  refine ⟨K + 1, fun k hk => ?_⟩
  obtain ⟨j, rfl⟩ : ∃ j, k = j + 1 := ⟨k - 1, by omega⟩
  rw [hs, hK j (by omega)]

theorem Late.stop {α : Type} {g : Nat → Option α} {r : α} (hs : ∀ k, g (k + 1) = some r) : Late g r :=
  ⟨1, fun k hk => by obtain ⟨j, rfl⟩ : ∃ j, k = j + 1 := ⟨k - 1, by omega⟩; exact hs j⟩

theorem wrap64_in' {i : Int} (h0 : -9223372036854775808 ≤ i) (h : i ≤ 9223372036854775807) : wrap64 i = i := by unfold wrap64; omega


theorem remL_len : ∀ (g : List Bool) (i : Nat), (remL g i).length ≤ g.length
  | [], _ => by simp [remL]
  | true :: g, i => by have := remL_len g (i + 1); simp [remL]; omega
  | false :: g, i => by have := remL_len g (i + 1); simp [remL]; omega

theorem ordN_perm : ∀ (n d : Nat) (l : List Int), l.length = n → (ordN n d l).Perm l
  | 0, _, l, h => by have : l = [] := List.length_eq_zero_iff.1 h; subst this; exact List.Perm.refl _
  | n + 1, d, l, h => by
    have hr : d % (n + 1) < l.length := by have h0 : d % (n + 1) < n + 1 := Nat.mod_lt d (Nat.succ_pos n); omega
    have h1 := ordN_perm n (d / (n + 1)) (l.eraseIdx (d % (n + 1))) (by rw [List.length_eraseIdx, if_pos hr]; omega)
    refine (List.Perm.cons _ h1).trans ?_
    rw [List.getD_eq_getElem?_getD, List.getElem?_eq_getElem hr]
    generalize d % (n + 1) = r at hr ⊢
    have e : l = l.take r ++ l[r] :: l.drop (r + 1) := by rw [List.getElem_cons_drop]; exact (List.take_append_drop _ _).symm
    have e2 : l.eraseIdx r = l.take r ++ l.drop (r + 1) := List.eraseIdx_eq_take_drop_succ l r
    show List.Perm (l[r] :: l.eraseIdx r) l
    rw [e2]
    exact List.perm_middle.symm.trans (List.Perm.of_eq e.symm)

theorem iota_nodup (n : Nat) : (iota n).Nodup := by
  unfold iota
  rw [List.nodup_iff_pairwise_ne, List.pairwise_map]
  exact (List.nodup_iff_pairwise_ne.1 List.nodup_range).imp (fun h e => h (by omega))

theorem mem_iota {n : Nat} {x : Int} (h : x ∈ iota n) : 0 ≤ x ∧ x < n := by
  unfold iota at h
  obtain ⟨i, hi, rfl⟩ := List.mem_map.1 h
  have := List.mem_range.1 hi
  omega

end Go.Proofs.Ytnnmhpplmihidaa
