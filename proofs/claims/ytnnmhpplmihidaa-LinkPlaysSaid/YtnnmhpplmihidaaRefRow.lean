/- The document's rows of frames, in cells. -/
import Derived.Test.YtnnmhpplmihidaaPlaysEnd
import Derived.Test.YtnnmhpplmihidaaOnceAt
namespace Go.Proofs.Ytnnmhpplmihidaa
set_option linter.unusedVariables false
set_option linter.unusedSimpArgs false
open PLinkPlays Go.RowKit Go.Proofs.YtnnmhpplmihidaaW.PrintWords

def rf (x : RF) : List Value := [.int .i64 x.f0, .int .i64 x.f1, .string x.f2, .string x.f3]
def rfCells (M : List RF) : List Value := M.flatMap rf
theorem rfCells_length (l : List RF) : (rfCells l).length = l.length * 4 := by
  induction l with
  | nil => rfl
  | cons f l ih => simp only [rfCells, List.flatMap_cons, List.length_append, rf, List.length_cons, List.length_nil] at ih ⊢; omega
theorem rfCells_append (a b : List RF) : rfCells (a ++ b) = rfCells a ++ rfCells b := by simp [rfCells]
theorem rfCells_drop : ∀ (l : List RF) (j : Nat), (rfCells l).drop (j * 4) = rfCells (l.drop j)
  | l, 0 => by simp
  | [], j + 1 => by simp [rfCells]
  | x :: l, j + 1 => by
    show (rf x ++ rfCells l).drop ((j + 1) * 4) = rfCells (l.drop j)
    rw [← rfCells_drop l j, show (j + 1) * 4 = 4 + j * 4 by omega, ← List.drop_drop]
    rfl
theorem rfCells_at (l : List RF) (i : Nat) (h : i < l.length) (j : Nat) (hj : j < 4) : (rfCells l)[i * 4 + j]? = (rf l[i])[j]? := by
  rw [← List.getElem?_drop, rfCells_drop, List.drop_eq_getElem_cons h]
  show (rf l[i] ++ rfCells _)[j]? = _
  rw [List.getElem?_append_left (by simp [rf]; omega)]

theorem toOwn {w : World} {base : Nat} {ok : Nat → Prop} {v : Value} {M : List RF} (h : Kd.R k52 52 w base ok v M) : w.ownsRow base 52 4 v M.length (rfCells M) := by
  obtain ⟨_, inner, ho, hr⟩ := h
  have ho' : w.ownsRow base 52 4 v M.length inner := ho
  have hl : inner.length = M.length * 4 := hr.1
  have e : inner = rfCells M := by
    apply List.ext_getElem?
    intro n
    by_cases hn : n < M.length * 4
    · have hj : n / 4 < M.length := by omega
      have h1 := k52_openM (hr.2 (n / 4) M[n / 4] (List.getElem?_eq_getElem hj))
      have h1' : (inner.drop (n / 4 * 4)).take 4 = rf M[n / 4] := h1
      have h2 := rfCells_at M (n / 4) hj (n % 4) (Nat.mod_lt _ (by decide))
      rw [show n / 4 * 4 + n % 4 = n by omega] at h2
      rw [h2, ← h1', List.getElem?_take, if_pos (Nat.mod_lt _ (by decide)), List.getElem?_drop, show n / 4 * 4 + n % 4 = n by omega]
    · rw [List.getElem?_eq_none (by omega), List.getElem?_eq_none (by rw [rfCells_length]; omega)]
  rw [e] at ho'
  exact ho'

theorem toR {w : World} {base : Nat} {ok : Nat → Prop} {v : Value} {M : List RF} (h : w.ownsRow base 52 4 v M.length (rfCells M)) (hk : ∀ k, v.ownBlock = some k → ok k) : Kd.R k52 52 w base ok v M := by
  refine ⟨hk, rfCells M, h, rfCells_length M, fun j p hp => ?_⟩
  obtain ⟨hj, rfl⟩ := List.getElem?_eq_some_iff.1 hp
  show Kd.M _ _ _ _ M[j] (((rfCells M).drop (j * 4)).take 4)
  have : ((rfCells M).drop (j * 4)).take 4 = rf M[j] := by
    rw [rfCells_drop, List.drop_eq_getElem_cons hj]
    rfl
  rw [this]
  exact k52_mkM _ _ _ _

theorem toC {w : World} {base : Nat} {A : Option Addr} {c : Nat} {M : List RF} (h : w.ownsRow base 52 4 (.slice A M.length c) M.length (rfCells M)) : M.length ≤ c ∧ Kd.C k52 w A M.length M := by
  obtain ⟨A', c', e, h1, h2⟩ := Kd.R_reads (toR (ok := fun _ => True) h (fun _ _ => trivial))
  cases e
  exact ⟨h1, h2⟩
end Go.Proofs.Ytnnmhpplmihidaa
