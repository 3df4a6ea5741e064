/- The document's net, as a list of frames, beside the net's links: find, Len. -/
import Derived.Test.YtnnmhpplmihidaaPLinkPlaysx2
import Derived.Test.YtnnmhpplmihidaaPLinkPlaysx4
import Derived.Test.YtnnmhpplmihidaaOnceLaw
namespace Go.Proofs.Ytnnmhpplmihidaa
set_option linter.unusedVariables false
set_option linter.unusedSimpArgs false
open PLinkPlays Go.RowKit

abbrev RF := S52
theorem wrap64_small (x : Int) (h0 : -9223372036854775808 ≤ x) (h1 : x < 9223372036854775808) : wrap64 x = x := by unfold wrap64; omega

def onK (a b : Int) (x : RF) : Bool := decide (x.f0 = a ∧ x.f1 = b)
def fr (x : RF) : Fr := (x.f2, x.f3)
def Rel (M : List RF) (L : Int × Int → List Fr) : Prop := ∀ a b, L (a, b) = (M.filter (onK a b)).map fr

def findN : List RF → Int → Int → Nat → Option Nat
  | [], _, _, _ => none
  | x :: M, a, b, i => if onK a b x = true then (match i with | 0 => some 0 | i + 1 => (findN M a b i).map (· + 1)) else (findN M a b i).map (· + 1)

theorem findN_some {a b : Int} : ∀ {M : List RF} {i n : Nat}, findN M a b i = some n → ∃ h : n < M.length, onK a b M[n] = true ∧ ((M.take n).filter (onK a b)).length = i
  | x :: M, i, n, h => by
    unfold findN at h
    split at h
    · rename_i hx
      cases i with
      | zero =>
        simp at h
        subst h
        exact ⟨by simp, hx, rfl⟩
      | succ i =>
        simp only [Option.map_eq_some_iff] at h
        obtain ⟨m, hm, rfl⟩ := h
        obtain ⟨h1, h2, h3⟩ := findN_some hm
        refine ⟨by simpa using h1, by simpa using h2, ?_⟩
        simp [List.take_succ_cons, List.filter_cons, hx, h3]
    · rename_i hx
      simp only [Option.map_eq_some_iff] at h
      obtain ⟨m, hm, rfl⟩ := h
      obtain ⟨h1, h2, h3⟩ := findN_some hm
      refine ⟨by simpa using h1, by simpa using h2, ?_⟩
      simp [List.take_succ_cons, List.filter_cons, hx, h3]

theorem findN_none {a b : Int} : ∀ {M : List RF} {i : Nat}, findN M a b i = none ↔ (M.filter (onK a b)).length ≤ i
  | [], i => by simp [findN]
  | x :: M, i => by
    unfold findN
    split
    · rename_i hx
      cases i with
      | zero => simp [List.filter_cons, hx]
      | succ i =>
        rw [Option.map_eq_none_iff, findN_none, List.filter_cons, if_pos hx]
        simp
    · rename_i hx
      rw [Option.map_eq_none_iff, findN_none, List.filter_cons, if_neg hx]

def findI (M : List RF) (a b : Int) (i : Nat) (off : Nat) : Int := match findN M a b i with | some n => ((n + off : Nat) : Int) | none => -1

theorem rd_eq {M : List RF} {i : Nat} (h : i < M.length) : rd_T52 M (i : Int) = M[i] := by
  unfold rd_T52
  simp [h]

theorem find_eval (a b P : Int) (M : List RF) (hM : M.length < 4611686018427387904) : ∀ (k : Nat) (idx i : Nat), i < 9223372036854775808 → idx ≤ M.length → 2 * (M.length - idx) + 1 ≤ k →
    hearsayref26_find.l0 k a b (i : Int) (idx : Int) P M = some (findI (M.drop idx) a b i idx)
  | 0, idx, i, _, _, hk => by omega
  | 1, idx, i, _, hl, hk => by
    have e : idx = M.length := by omega
    subst e
    unfold hearsayref26_find.l0
    rw [if_neg (by omega)]
    simp [findI, findN]
  | k + 2, idx, i, hi, hl, hk => by
    by_cases hlt : idx < M.length
    · unfold hearsayref26_find.l0
      rw [if_pos (by omega), if_pos (by omega), rd_eq hlt]
      have hd : M.drop idx = M[idx] :: M.drop (idx + 1) := List.drop_eq_getElem_cons hlt
      have hw1 : wrap64 ((idx : Int) + 1) = ((idx + 1 : Nat) : Int) := by rw [wrap64_small _ (by omega) (by omega)]; omega
      rw [hd]
      have ih := find_eval a b P M hM k (idx + 1)
      have key : ∀ c : Bool, c = onK a b M[idx] → hearsayref26_find.j1 (k + 1) a b (i : Int) (idx : Int) c P M = some (findI (M[idx] :: M.drop (idx + 1)) a b i idx) := by
        intro c hc
        unfold hearsayref26_find.j1
        cases c with
        | true =>
          rw [if_pos rfl]
          cases i with
          | zero =>
            rw [if_pos (by rfl)]
            simp [findI, findN, ← hc]
          | succ i =>
            rw [if_neg (by omega), hw1, show ((i + 1 : Nat) : Int) - 1 = (i : Int) by omega, wrap64_small _ (by omega) (by omega), ih i (by omega) (by omega) (by omega)]
            simp only [findI, findN, ← hc, if_true]
            cases findN (M.drop (idx + 1)) a b i with
            | none => rfl
            | some n => simp only [Option.map_some]; congr 1; omega
        | false =>
          rw [if_neg (by simp), hw1, ih i hi (by omega) (by omega)]
          simp only [findI, findN, ← hc, Bool.false_eq_true, if_false]
          cases findN (M.drop (idx + 1)) a b i with
          | none => rfl
          | some n => simp only [Option.map_some]; congr 1; omega
      by_cases e : M[idx].f0 = a
      · rw [if_pos e]
        exact key _ (by simp only [onK, e, true_and]; rfl)
      · rw [if_neg e]
        exact key _ (by simp [onK, e])
    · have e : idx = M.length := by omega
      subst e
      unfold hearsayref26_find.l0
      rw [if_neg (by omega)]
      simp [findI, findN]

theorem find_f (k : Nat) (P : Int) (M : List RF) (a b : Int) (i : Nat) (hM : M.length < 1000) (hi : i < 9223372036854775808) (hk : 2001 ≤ k) : hearsayref26_find.f k P M a b (i : Int) = some (findI M a b i 0) := by
  unfold hearsayref26_find.f
  have := find_eval a b P M (by omega) k 0 i hi (by omega) (by omega)
  simpa using this

theorem len_eval (a b P : Int) (M : List RF) (hM : M.length < 1000) : ∀ (d c k : Nat), c + d = (M.filter (onK a b)).length → 2002 + d ≤ k → hearsayref26_Len.l0 k a b (c : Int) P M = some ((M.filter (onK a b)).length : Int)
  | 0, c, 0, _, hk => by omega
  | d + 1, c, 0, _, hk => by omega
  | d, c, k + 1, hc, hk => by
    have hfl : (M.filter (onK a b)).length ≤ M.length := List.length_filter_le _ _
    unfold hearsayref26_Len.l0
    rw [find_f k P M a b c hM (by omega) (by omega)]
    simp only [Option.bind_some]
    cases d with
    | zero =>
      have hn : findN M a b c = none := findN_none.2 (by omega)
      rw [findI, hn]
      simp
      omega
    | succ d =>
      cases hn : findN M a b c with
      | none =>
        have := findN_none.1 hn
        omega
      | some n =>
        simp only [findI, hn]
        rw [if_pos (by omega), wrap64_small _ (by omega) (by omega)]
        have := len_eval a b P M hM d (c + 1) k (by omega) (by omega)
        simpa using this

theorem len_f (k : Nat) (P : Int) (M : List RF) (a b : Int) (hM : M.length < 1000) (hk : 4000 ≤ k) : hearsayref26_Len.f k P M a b = some ((M.filter (onK a b)).length : Int) := by
  unfold hearsayref26_Len.f
  have hfl : (M.filter (onK a b)).length ≤ M.length := List.length_filter_le _ _
  have := len_eval a b P M hM (M.filter (onK a b)).length 0 k (by omega) (by omega)
  simpa using this

theorem there_f (P : Int) (M : List RF) (a b : Int) : hearsayref26_there.f P M a b = some (thereB P a b) := by
  unfold hearsayref26_there.f thereB
  by_cases h1 : a ≥ 0 <;> by_cases h2 : a < P <;> by_cases h3 : b ≥ 0 <;> by_cases h4 : b < P <;> simp [h1, h2, h3, h4] <;> first | omega | (by_cases h5 : a = b <;> simp [h5] <;> omega)
end Go.Proofs.Ytnnmhpplmihidaa
