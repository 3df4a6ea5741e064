/- the document's Check is the program's. -/
import Derived.Test.YtmeneoanmfpecaaDoorRefCheck2
import Derived.Test.YtmeneoanmfpecaaDoorLineText
namespace Go.Proofs.YtmeneoanmfpecaaDoor
set_option linter.unusedVariables false
set_option linter.unusedSimpArgs false

theorem spareB_lit (b0 b1 b2 b3 b4 b5 : Bool) : ∀ k : Fin 13, spareB (bools6 b0 b1 b2 b3 b4 b5) k = !((if 4 ≤ k.val ∧ k.val ≤ 7 then true else !b0) && ((if 2 ≤ k.val ∧ k.val ≤ 9 then true else !b1) && ((if k.val = 7 ∨ k.val = 9 then true else !b2) && ((if k.val = 7 then true else !b3) && ((if k.val < 2 then true else !b4) && (if k.val = 0 then true else !b5)))))) := by
  revert b0 b1 b2 b3 b4 b5
  decide +kernel

theorem empty_toList : (⟨#[]⟩ : ByteArray).toList = [] := by decide +kernel
theorem spare_opEq (x : OpR) (h0 : 0 ≤ x.k) (h13 : x.k < 13) : opEq (bareM x) (plainOp x.k x.p) = !(spareM x) := by
  obtain ⟨k, p, t, n, a, m, u, v⟩ := x
  simp only at h0 h13
  obtain ⟨K, rfl⟩ := Int.eq_ofNat_of_zero_le h0
  have hK : K < 13 := by omega
  have h := spareB_lit (t != 0) (n != 0) (a != 0) (m != 0) (!u.toList.isEmpty) (!v.toList.isEmpty) ⟨K, hK⟩
  simp only [spareM, Int.toNat_natCast]
  rw [h, Bool.not_not]
  simp only [opEq, bareM, plainOp, empty_toList, beq_self_eq_true, Bool.true_and]
  have e1 : ((if 4 ≤ (K : Int) ∧ (K : Int) ≤ 7 then 0 else t) == 0) = (if 4 ≤ K ∧ K ≤ 7 then true else !(t != 0)) := by
    by_cases hc : 4 ≤ K ∧ K ≤ 7
    · rw [if_pos hc, if_pos (by omega)]; rfl
    · rw [if_neg hc, if_neg (by omega)]; simp [bne]
  have e2 : ((if 2 ≤ (K : Int) ∧ (K : Int) ≤ 9 then 0 else n) == 0) = (if 2 ≤ K ∧ K ≤ 9 then true else !(n != 0)) := by
    by_cases hc : 2 ≤ K ∧ K ≤ 9
    · rw [if_pos hc, if_pos (by omega)]; rfl
    · rw [if_neg hc, if_neg (by omega)]; simp [bne]
  have e3 : ((if (K : Int) = 7 ∨ (K : Int) = 9 then 0 else a) == 0) = (if K = 7 ∨ K = 9 then true else !(a != 0)) := by
    by_cases hc : K = 7 ∨ K = 9
    · rw [if_pos hc, if_pos (by omega)]; rfl
    · rw [if_neg hc, if_neg (by omega)]; simp [bne]
  have e4 : ((if (K : Int) = 7 then 0 else m) == 0) = (if K = 7 then true else !(m != 0)) := by
    by_cases hc : K = 7
    · rw [if_pos hc, if_pos (by omega)]; rfl
    · rw [if_neg hc, if_neg (by omega)]; simp [bne]
  have e5 : (ByteArray.toList (if (K : Int) < 2 then ⟨#[]⟩ else u) == []) = (if K < 2 then true else !(!u.toList.isEmpty)) := by
    by_cases hc : K < 2
    · rw [if_pos hc, if_pos (by omega), empty_toList]; rfl
    · rw [if_neg hc, if_neg (by omega), Bool.not_not]; cases u.toList <;> rfl
  have e6 : (ByteArray.toList (if (K : Int) = 0 then ⟨#[]⟩ else v) == []) = (if K = 0 then true else !(!v.toList.isEmpty)) := by
    by_cases hc : K = 0
    · rw [if_pos hc, if_pos (by omega), empty_toList]; rfl
    · rw [if_neg hc, if_neg (by omega), Bool.not_not]; cases v.toList <;> rfl
  rw [e1, e2, e3, e4, e5, e6]

theorem rcheck_eq (x : OpR) : rcheckM x = checkM x := by
  unfold rcheckM checkM
  by_cases h1 : x.k < 0 ∨ 12 < x.k
  · rw [if_pos h1, if_pos (c := kindB x.k = false) (by simp [kindB]; omega)]
  · rw [if_neg h1, if_neg (c := kindB x.k = false) (by simp [kindB]; omega)]
    by_cases h2 : x.p < 0 ∨ 63 < x.p ∨ x.t < 0 ∨ 63 < x.t
    · rw [if_pos h2, if_pos (c := (peerB x.p && peerB x.t) = false) (by simp [peerB]; omega)]
    · rw [if_neg h2, if_neg (c := (peerB x.p && peerB x.t) = false) (by simp [peerB]; omega)]
      by_cases h3 : (numB x.n && numB x.a && numB x.m) = false
      · rw [if_pos h3, if_pos h3]
      · rw [if_neg h3, if_neg h3]
        by_cases h4 : 255 < (x.u.size : Int) ∨ 255 < (x.v.size : Int)
        · rw [if_pos h4, if_pos (c := (textB x.u && textB x.v) = false) (by simp [textB]; omega)]
        · rw [if_neg h4, if_neg (c := (textB x.u && textB x.v) = false) (by simp [textB]; omega)]
          rw [spare_opEq x (by omega) (by omega)]
          cases spareM x <;> rfl
end Go.Proofs.YtmeneoanmfpecaaDoor
