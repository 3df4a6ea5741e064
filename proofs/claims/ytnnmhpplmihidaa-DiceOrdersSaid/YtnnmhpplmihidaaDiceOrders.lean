/- The walk of DiceOrders: in which order any draw puts numbers. -/
import Derived.OpenShut
import Derived.Test.YtnnmhpplmihidaaOrdRef
import Derived.Test.YtnnmhpplmihidaaAwake09
namespace Go.Proofs.Ytnnmhpplmihidaa
open Go.RowKit Go.Proofs.YtnnmhpplmihidaaW.PrintWords Go.Proofs.YtnnmhpplmihidaaW.PrintLast Go.Proofs.YtnnmhpplmihidaaW.PrintMore
open PDiceOrders

/-- What both sides hand back. -/
def ordZ (d n : Int) : List Int := if n < 1 ∨ 1000 < n then [] else ordI (IntKind.u64.wrap d).toNat n.toNat

theorem ordZ_length (d n : Int) : (ordZ d n).length ≤ 1000 := by
  unfold ordZ; split
  · simp
  · rw [ordI_length]; omega

theorem order_any (d n : Int) (w : World) :
    Calls Try.prog 13 #[.int .i64 d, .int .i64 n] w fun e w' => ∃ v, e = .returned v ∧ RowI w' v (ordZ d n) ∧ Below w.heap.size w w' := by
  unfold ordZ
  split
  · rename_i h
    refine (order_none d n h w).mono ?_
    rintro e w' ⟨rfl, q, rfl⟩
    exact ⟨_, rfl, RowI.nil _, bD (Below.refl _ _) q⟩
  · rename_i h
    obtain ⟨k, rfl⟩ := Int.eq_ofNat_of_zero_le (show 0 ≤ n by omega)
    refine (order_some d k (by omega) (by omega) w).mono ?_
    rintro e w' ⟨v, rfl, hrow, hb⟩
    exact ⟨v, rfl, RowI.of_own hrow, hb⟩

theorem refOrder_any (d n : Int) (w : World) :
    Calls Try.prog 14 #[.int .i64 d, .int .i64 n] w fun e w' => ∃ v, e = .returned v ∧ RowI w' v (ordZ d n) ∧ Below w.heap.size w w' := by
  have hk : ∃ k, hearsayref09_Order.f k d n = some (ordZ d n) := by
    unfold ordZ
    split
    · rename_i h
      exact ⟨1, order_f_none d n h⟩
    · rename_i h
      obtain ⟨k, rfl⟩ := Int.eq_ofNat_of_zero_le (show 0 ≤ n by omega)
      obtain ⟨K, hK⟩ := order_f d k (by omega) (by omega)
      exact ⟨K, hK K (Nat.le_refl _)⟩
  obtain ⟨k, hk⟩ := hk
  refine (hearsayref09_Order.calls k d n _ w hk).mono ?_
  rintro e w' ⟨v, rfl, hR, hb⟩
  exact ⟨v, rfl, RowI.of_R hR, hb⟩

set_option maxHeartbeats 1000000 in
theorem diceOrders_walk (a b : Int) (wa : (Lit.int .i64 a).wf = true) (wb : (Lit.int .i64 b).wf = true) (w : World) :
    Calls Try.prog 3 #[.int .i64 a, .int .i64 b] w fun e w' => e = .returned (.bool true) ∧ Below w.heap.size w w' := by
  have hend : ∀ w1, Below w.heap.size w w1 → Calls Try.prog 11 #[] w1 fun e w' => e = .returned (.bool true) ∧ Below w.heap.size w w' := fun w1 h => by
    refine (awake09 w1).mono ?_
    rintro e w' ⟨rfl, hb⟩
    exact ⟨rfl, h.trans (hb.mono h.size)⟩
  have HE := Lib.hid hend
  clear hend
  have HZ := ordZ_length a b
  by_cases h1 : b > 200
  · by_cases h2 : b ≤ 1000
    · go_enter Try.func3, Try.ntmps3
      go_wp2_with fail
      refine (HE.out _ (Below.refl _ _)).mono ?_
      rintro e w' ⟨rfl, hb⟩
      go_wp2_with fail
      go_ret
      exact ⟨rfl, hb⟩
    · go_enter Try.func3, Try.ntmps3
      go_wp2_with fail
      refine (order_any a b _).mono ?_
      rintro e w1 ⟨v1, rfl, hr1, hb1⟩
      go_wp2_with fail
      refine (refOrder_any a b _).mono ?_
      rintro e w2 ⟨v2, rfl, hr2, hb2⟩
      have hr1' := hr1.below hb2
      have hb2' : Below w.heap.size w w2 := hb1.trans (hb2.mono hb1.size)
      go_wp2_with fail
      refine (same_rows v1 v2 _ _ _ hr1' hr2 (Nat.le_trans HZ (by decide))).mono ?_
      rintro e w3 ⟨rfl, q3, rfl⟩
      go_wp2_with fail
      refine (HE.out _ (bD hb2' q3)).mono ?_
      rintro e w' ⟨rfl, hb⟩
      go_wp2_with fail
      go_ret
      exact ⟨rfl, hb⟩
  · go_enter Try.func3, Try.ntmps3
    go_wp2_with fail
    refine (order_any a b _).mono ?_
    rintro e w1 ⟨v1, rfl, hr1, hb1⟩
    go_wp2_with fail
    refine (refOrder_any a b _).mono ?_
    rintro e w2 ⟨v2, rfl, hr2, hb2⟩
    have hr1' := hr1.below hb2
    have hb2' : Below w.heap.size w w2 := hb1.trans (hb2.mono hb1.size)
    go_wp2_with fail
    refine (same_rows v1 v2 _ _ _ hr1' hr2 (Nat.le_trans HZ (by decide))).mono ?_
    rintro e w3 ⟨rfl, q3, rfl⟩
    go_wp2_with fail
    refine (HE.out _ (bD hb2' q3)).mono ?_
    rintro e w' ⟨rfl, hb⟩
    go_wp2_with fail
    go_ret
    exact ⟨rfl, hb⟩
end Go.Proofs.Ytnnmhpplmihidaa
