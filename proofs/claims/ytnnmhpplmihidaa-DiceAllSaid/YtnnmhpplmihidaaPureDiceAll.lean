/- DiceAll: any order of a few numbers comes of the draw that picks it: the lists alone. -/
import Derived.Test.YtnnmhpplmihidaaPDicex1
import Derived.Test.YtnnmhpplmihidaaGivenDice
import Derived.Test.YtnnmhpplmihidaaRem
import Derived.Lib.Hide
namespace Go.Proofs.Ytnnmhpplmihidaa.Pure
set_option linter.unusedVariables false
set_option linter.unusedSimpArgs false
open Go.RowKit Go.Proofs.Ytnnmhpplmihidaa.PDice Go.Proofs.YtnnmhpplmihidaaW.PrintWords Go.Proofs.YtnnmhpplmihidaaW.PrintLast

theorem same2_l0 (xs : List Int) (hm : xs.length ≤ 1000) : ∀ (d i : Nat), xs.length - i = d → i ≤ xs.length →
    Late (fun K => hearsayref09_Same.l0 K xs xs i) true
  | 0, i, hd, hi => Late.stop (fun K => by
      simp only [hearsayref09_Same.l0]
      rw [if_neg (by omega)])
  | d + 1, i, hd, hi => by
    refine Late.step (h := fun K => hearsayref09_Same.l0 K xs xs ((i + 1 : Nat) : Int)) (fun K => ?_) (same2_l0 xs hm d (i + 1) (by omega) (by omega))
    simp only [hearsayref09_Same.l0]
    rw [if_pos (by omega), if_pos (by omega), if_pos (by omega), if_pos True.intro, wrap64_in' (by omega) (by omega)]
    rfl

theorem same2 (xs : List Int) (hm : xs.length ≤ 1000) : Late (fun K => hearsayref09_Same.f K xs xs) true := by
  obtain ⟨K, hK⟩ := same2_l0 xs hm xs.length 0 (by omega) (by omega)
  refine ⟨K, fun k hk => ?_⟩
  show hearsayref09_Same.f k xs xs = some true
  unfold hearsayref09_Same.f
  rw [if_pos rfl]
  exact hK k hk

theorem all_l1 (x0 : List Int) (left : List Bool) (want : List Int) (D U : Int) (i : Nat) (hn : left.length ≤ 12) (hi : i < want.length) (hw : want.length = left.length) : ∀ (g pre : List Bool) (k : Nat), left = pre ++ g → k < (remL g pre.length).length →
    Late (fun K => hearsaylaw09_DiceAll.l0 K x0 left.length (left.set ((remL g pre.length).getD k 0).toNat true) (want.set i ((remL g pre.length).getD k 0)) D U ((i + 1 : Nat) : Int)) true →
    Late (fun K => hearsaylaw09_DiceAll.l1 K x0 left.length left want D U i k pre.length) true
  | [], _, _, _, h, _ => by simp [remL] at h
  | b :: g, pre, k, hg, hk, hr => by
    have hi' : pre.length < left.length := by rw [hg]; simp
    have hrd : rdOf false left (pre.length : Int) = b := by rw [hg]; simp [rdOf]
    have hw' : wrap64 ((pre.length : Int) + 1) = ((pre ++ [b]).length : Nat) := by rw [wrap64_in' (by omega) (by omega)]; simp
    cases b with
    | true =>
      refine Late.step (h := fun K => hearsaylaw09_DiceAll.l1 K x0 left.length left want D U i k (pre ++ [true]).length) (fun K => ?_) ?_
      · simp only [hearsaylaw09_DiceAll.l1]
        rw [if_pos (by omega), if_pos (by omega), if_pos (by omega), hrd, if_pos rfl, hw']
      · refine all_l1 x0 left want D U i hn hi hw g (pre ++ [true]) k (by simpa using hg) (by simpa [remL] using hk) ?_
        simpa [remL] using hr
    | false =>
      cases k with
      | zero =>
        refine Late.step (h := fun K => hearsaylaw09_DiceAll.l0 K x0 left.length (left.set ((remL (false :: g) pre.length).getD 0 0).toNat true) (want.set i ((remL (false :: g) pre.length).getD 0 0)) D U ((i + 1 : Nat) : Int)) (fun K => ?_) hr
        simp only [hearsaylaw09_DiceAll.l1]
        rw [if_pos (by omega), if_pos (by omega), if_pos (by omega), hrd, if_neg (by simp), if_pos (by simp), if_pos (by omega), if_pos (by omega), wrap64_in' (i := ((i : Nat) : Int) + 1) (by omega) (by omega)]
        simp [remL]
      | succ k =>
        refine Late.step (h := fun K => hearsaylaw09_DiceAll.l1 K x0 left.length left want D U i k (pre ++ [false]).length) (fun K => ?_) ?_
        · simp only [hearsaylaw09_DiceAll.l1]
          have hkk : k + 1 ≤ left.length := by
            have h1 := remL_len (false :: g) pre.length
            have h2 : (false :: g).length ≤ left.length := by rw [hg]; simp
            omega
          rw [if_pos (by omega), if_pos (by omega), if_pos (by omega), hrd, if_neg (by simp), if_neg (by omega), hw', wrap64_in' (by omega) (by omega)]
          congr 1
          omega
        · refine all_l1 x0 left want D U i hn hi hw g (pre ++ [false]) k (by simpa using hg) (by simpa [remL] using hk) ?_
          simpa [remL] using hr

theorem ordN_step (m k E : Nat) (l : List Int) (hk : k < m + 1) : ordN (m + 1) (k + (m + 1) * E) l = l.getD k 0 :: ordN m E (l.eraseIdx k) := by
  have h1 : (k + (m + 1) * E) % (m + 1) = k := by rw [Nat.add_mul_mod_self_left]; exact Nat.mod_eq_of_lt hk
  have h2 : (k + (m + 1) * E) / (m + 1) = E := by rw [Nat.add_mul_div_left _ _ (Nat.succ_pos m), Nat.div_eq_of_lt hk]; omega
  rw [ordN, h1, h2]

theorem w64n (z : Nat) (h : z ≤ 8916100448256) : wrap64 (z : Int) = z := wrap64_in' (by omega) (by omega)

theorem pow12 (i : Nat) (h : i ≤ 12) : 12 ^ i ≤ 8916100448256 := Nat.le_trans (Nat.pow_le_pow_right (by decide) h) (by decide)

theorem all_l0 (x0 : List Int) (n : Nat) (hn : n ≤ 12) (hx : x0.length = n) : ∀ (m i D U : Nat) (left : List Bool) (want : List Int), i + m = n → left.length = n → want.length = n → (remL left 0).length = m →
    D < U → U ≤ 12 ^ i → (∀ E, ordN n (D + U * E) (iota n) = want.take i ++ ordN m E (remL left 0)) →
    Late (fun K => hearsaylaw09_DiceAll.l0 K x0 n left want D U i) true
  | 0, i, D, U, left, want, him, hl, hw, hr, hD, hU, hE => by
    have hD12 : D < 8916100448256 := Nat.lt_of_lt_of_le hD (Nat.le_trans hU (pow12 i (by omega)))
    clear hU
    have e : dice_Order.f D n = some want := by
      unfold dice_Order.f ordZ
      have h0 := hE 0
      rw [Nat.mul_zero, Nat.add_zero, List.take_of_length_le (by omega)] at h0
      simp only [ordN, List.append_nil] at h0
      split
      · have : n = 0 := by omega
        have : want = [] := List.length_eq_zero_iff.1 (by omega)
        rw [this]
      · have hu : IntKind.u64.wrap (D : Int) = D := by rw [wrap_u64_mod]; omega
        rw [hu, Int.toNat_natCast, Int.toNat_natCast]
        unfold ordI
        rw [h0]
    obtain ⟨K, hK⟩ := same2 want (by omega)
    refine ⟨K + 1, fun k hk => ?_⟩
    obtain ⟨j, rfl⟩ : ∃ j, k = j + 1 := ⟨k - 1, by omega⟩
    simp only [hearsaylaw09_DiceAll.l0]
    rw [if_neg (by omega), e]
    simp only [Option.bind_some]
    have hj : hearsayref09_Same.f j want want = some true := hK j (by omega)
    rw [hj]
    rfl
  | m + 1, i, D, U, left, want, him, hl, hw, hr, hD, hU, hE => by
    have hv := wrap_u64_mod (rd x0 i)
    have hs : wrap64 ((n : Int) - i) = ((m + 1 : Nat) : Int) := by rw [wrap64_in' (by omega) (by omega)]; omega
    have hu : IntKind.u64.wrap ((m + 1 : Nat) : Int) = ((m + 1 : Nat) : Int) := by rw [wrap_u64_mod]; omega
    obtain ⟨k, hk, hkm⟩ : ∃ k : Nat, wrap64 (Int.tmod (IntKind.u64.wrap (rd x0 i)) ((m + 1 : Nat) : Int)) = k ∧ k < m + 1 := by
      have h0 : 0 ≤ IntKind.u64.wrap (rd x0 i) := by omega
      rw [Int.tmod_eq_emod_of_nonneg h0]
      have h1 := Int.emod_nonneg (IntKind.u64.wrap (rd x0 i)) (b := ((m + 1 : Nat) : Int)) (by omega)
      have h2 := Int.emod_lt_of_pos (IntKind.u64.wrap (rd x0 i)) (b := ((m + 1 : Nat) : Int)) (by omega)
      generalize IntKind.u64.wrap (rd x0 i) % ((m + 1 : Nat) : Int) = z at h1 h2
      rw [wrap64_in' (by omega) (by omega)]
      exact ⟨z.toNat, by omega, by omega⟩
    have hUm : U * (m + 1) ≤ 12 ^ (i + 1) := by rw [Nat.pow_succ]; exact Nat.mul_le_mul hU (by omega)
    have h13 : U * (m + 1) ≤ 8916100448256 := Nat.le_trans hUm (pow12 (i + 1) (by omega))
    have hU12 : U ≤ 8916100448256 := Nat.le_trans hU (pow12 i (by omega))
    have hkU : k * U + U ≤ U * (m + 1) := by
      have : U * (k + 1) ≤ U * (m + 1) := Nat.mul_le_mul_left _ (by omega)
      rw [Nat.mul_add, Nat.mul_one, Nat.mul_comm] at this
      exact this
    have hDU : D + k * U < U * (m + 1) := Nat.lt_of_lt_of_le (by rw [Nat.add_comm]; exact Nat.add_lt_add_left hD _) hkU
    have hDk : D + k * U ≤ 8916100448256 := Nat.le_trans (Nat.le_of_lt hDU) h13
    have hU' := Lib.hid hU
    have hUm' := Lib.hid hUm
    have HK := Lib.hid hkU
    have HDK := Lib.hid hDk
    have H13 := Lib.hid h13
    clear hU hUm
    have hw1 : wrap64 ((k : Int) * U) = ((k * U : Nat) : Int) := (congrArg wrap64 (Int.natCast_mul _ _).symm).trans (w64n _ (Nat.le_trans (Nat.le_trans (Nat.le_add_right _ _) hkU) h13))
    have hw2 : wrap64 ((D : Int) + ((k * U : Nat) : Int)) = ((D + k * U : Nat) : Int) := (congrArg wrap64 (Int.natCast_add _ _).symm).trans (w64n _ hDk)
    have hw3 : wrap64 ((U : Int) * ((m + 1 : Nat) : Int)) = ((U * (m + 1) : Nat) : Int) := (congrArg wrap64 (Int.natCast_mul _ _).symm).trans (w64n _ h13)
    clear hkU hDk h13 hU12
    refine Late.step (h := fun K => hearsaylaw09_DiceAll.l1 K x0 n left want ((D + k * U : Nat) : Int) ((U * (m + 1) : Nat) : Int) i k (([] : List Bool).length)) (fun K => ?_) ?_
    · simp only [hearsaylaw09_DiceAll.l0]
      rw [if_pos (by omega), if_pos (by omega), if_pos (by omega), hs, hu, if_neg (by omega), hk, hw1, hw2, hw3]
      rfl
    · have hx' := remL_erase left 0 k (by omega)
      rw [Nat.sub_zero] at hx'
      have := all_l1 x0 left want ((D + k * U : Nat) : Int) ((U * (m + 1) : Nat) : Int) i (by omega) (by omega) (by omega) left [] k rfl (by simpa [hr] using hkm)
      rw [hl] at this
      refine this ?_
      have ih := all_l0 x0 n hn hx m (i + 1) (D + k * U) (U * (m + 1)) (left.set ((remL left 0).getD k 0).toNat true) (want.set i ((remL left 0).getD k 0)) (by omega) (by simpa using hl) (by simpa using hw) (by rw [hx', List.length_eraseIdx, if_pos (by omega)]; omega) hDU hUm'.out (fun E => ?_)
      · exact ih
      · have h0 := hE (k + (m + 1) * E)
        rw [ordN_step m k E _ hkm] at h0
        have e1 : D + U * (k + (m + 1) * E) = D + k * U + U * (m + 1) * E := by rw [Nat.mul_add, Nat.mul_comm k U, Nat.mul_assoc, Nat.add_assoc]
        rw [← e1, h0, hx']
        have e2 : (want.set i ((remL left 0).getD k 0)).take (i + 1) = want.take i ++ [(remL left 0).getD k 0] := by
          rw [List.take_succ_eq_append_getElem (by simp; omega)]
          simp [List.take_set_of_le]
        rw [e2]
        simp

theorem DiceAll : hearsaylaw09_DiceAll.Pure := by
  intro l hl1 hl2 hwf
  by_cases h : l.length > 12
  · refine ⟨0, ?_⟩
    unfold hearsaylaw09_DiceAll.f
    rw [if_pos (by omega)]
    rfl
  · obtain ⟨K, hK⟩ := all_l0 l l.length (by omega) rfl l.length 0 0 1 (List.replicate l.length false) (List.replicate l.length 0) (by omega) (by simp) (by simp) (by rw [remL_iota, iota_length]) (by omega) (by omega) (fun E => by
      rw [remL_iota]; simp)
    refine ⟨K, ?_⟩
    unfold hearsaylaw09_DiceAll.f
    rw [if_neg (by omega), if_pos (by omega), if_pos (by omega), if_pos (by omega), Int.toNat_natCast]
    exact hK K (Nat.le_refl _)

end Go.Proofs.Ytnnmhpplmihidaa.Pure
