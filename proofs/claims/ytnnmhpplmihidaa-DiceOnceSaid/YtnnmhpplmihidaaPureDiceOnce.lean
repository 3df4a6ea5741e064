/- DiceOnce: whatever the draw each number is there once: the lists alone. -/
import Derived.Test.YtnnmhpplmihidaaPDicex1
import Derived.Test.YtnnmhpplmihidaaGivenDice
import Derived.Test.YtnnmhpplmihidaaRem
namespace Go.Proofs.Ytnnmhpplmihidaa.Pure
set_option linter.unusedVariables false
set_option linter.unusedSimpArgs false
open Go.RowKit Go.Proofs.Ytnnmhpplmihidaa.PDice Go.Proofs.YtnnmhpplmihidaaW.PrintWords Go.Proofs.YtnnmhpplmihidaaW.PrintLast

theorem once_l0 (q : Nat) (l : List Int) (hq : q ≤ 100) (hl : l.length = q) (hm : ∀ x ∈ l, 0 ≤ x ∧ x < q) (hn : l.Nodup) : ∀ (suf pre : List Int) (seen : List Bool), l = pre ++ suf → seen.length = q →
    (∀ x : Int, 0 ≤ x → x < q → (rdOf false seen x = true ↔ x ∈ pre)) → Late (fun K => hearsaylaw09_DiceOnce.l0 K q l seen pre.length) true
  | [], pre, seen, h, hs, hi => Late.stop (fun K => by
      have : pre.length = l.length := by rw [h]; simp
      simp only [hearsaylaw09_DiceOnce.l0]
      rw [if_neg (by omega), if_pos (by omega)]
      rfl)
  | x :: suf, pre, seen, h, hs, hi => by
    have hlt : pre.length < l.length := by rw [h]; simp
    have hx : rd l (pre.length : Int) = x := by rw [h]; simp [rd]
    obtain ⟨x0, x1⟩ := hm x (by rw [h]; simp)
    have hnx : x ∉ pre := by
      rw [h, List.nodup_append] at hn
      intro hp
      exact hn.2.2 x hp x (by simp) rfl
    have hf : rdOf false seen x = false := by
      cases hb : rdOf false seen x with
      | false => rfl
      | true => exact absurd ((hi x x0 x1).1 hb) hnx
    refine Late.step (h := fun K => hearsaylaw09_DiceOnce.l0 K q l (seen.set x.toNat true) (pre ++ [x]).length) (fun K => ?_) ?_
    · simp only [hearsaylaw09_DiceOnce.l0]
      rw [if_pos (by omega), if_pos (by omega), hx, if_neg (by omega), if_neg (by omega), if_pos x0, if_pos (by omega), hf, if_neg (by simp), wrap64_in' (by omega) (by omega)]
      simp
    · refine once_l0 q l hq hl hm hn suf (pre ++ [x]) _ (by simpa using h) (by simpa using hs) (fun y y0 y1 => ?_)
      have e : rdOf false (seen.set x.toNat true) y = if x = y then true else rdOf false seen y := by
        unfold rdOf
        rw [List.getD_eq_getElem?_getD, List.getElem?_set]
        by_cases hxy : x = y
        · subst hxy
          rw [if_pos rfl, if_pos rfl, if_pos (by omega)]; rfl
        · rw [if_neg (by omega), if_neg hxy, List.getD_eq_getElem?_getD]
      rw [e]
      by_cases hxy : x = y
      · subst hxy; simp
      · rw [if_neg hxy, hi y y0 y1]
        simp [Ne.symm hxy]

theorem DiceOnce : hearsaylaw09_DiceOnce.Pure := by
  intro a0 a1 w0 w1
  have e := wrap_u64_mod a1
  obtain ⟨q, hq, hq100⟩ : ∃ q : Nat, wrap64 (Int.tmod (IntKind.u64.wrap a1) 100) = q ∧ q < 100 := by
    rw [Int.tmod_eq_emod_of_nonneg (by omega), wrap64_in' (by omega) (by omega)]
    exact ⟨(IntKind.u64.wrap a1 % 100).toNat, by omega, by omega⟩
  have hz : ∃ l, dice_Order.f a0 q = some l ∧ l.length = q ∧ (∀ x ∈ l, 0 ≤ x ∧ x < q) ∧ l.Nodup := by
    refine ⟨_, rfl, ?_⟩
    unfold ordZ
    split
    · rename_i h
      obtain rfl : q = 0 := by omega
      simp
    · rw [Int.toNat_natCast]
      have hp := ordN_perm q (IntKind.u64.wrap a0).toNat (iota q) (iota_length q)
      exact ⟨ordI_length _ _, fun x hx => mem_iota (hp.mem_iff.1 hx), hp.nodup_iff.2 (iota_nodup q)⟩
  obtain ⟨l, h1, h2, h3, h4⟩ := hz
  obtain ⟨K, hK⟩ := once_l0 q l (by omega) h2 h3 h4 l [] (List.replicate q false) rfl (by simp) (fun x x0 x1 => by
    have : rdOf false (List.replicate q false) x = false := by
      unfold rdOf
      rw [List.getD_eq_getElem?_getD, List.getElem?_replicate]
      split <;> rfl
    rw [this]; simp)
  refine ⟨K, ?_⟩
  unfold hearsaylaw09_DiceOnce.f
  rw [hq, h1]
  simp only [Option.bind_some]
  rw [if_pos (by omega), if_pos (by omega), Int.toNat_natCast]
  exact hK K (Nat.le_refl _)

end Go.Proofs.Ytnnmhpplmihidaa.Pure
