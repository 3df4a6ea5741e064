/- Chapter 9's examples hold. -/
import Derived.WalkKit
import Derived.Lib.Hide
import Derived.Outline
import Derived.Test.YtnnmhpplmihidaaPDiceOrdersx1
import Derived.Test.YtnnmhpplmihidaaPicked
import Derived.Test.YtnnmhpplmihidaaSame09
namespace Go.Proofs.Ytnnmhpplmihidaa
set_option linter.unusedVariables false
set_option linter.unusedSimpArgs false
open Go.RowKit Go.Proofs.YtnnmhpplmihidaaW.PrintWords Go.Proofs.YtnnmhpplmihidaaW.PrintLast Go.Proofs.YtnnmhpplmihidaaW.PrintMore

theorem bD {B : Nat} {w w' : World} (h : Below B w w') (n : Nat) : Below B w (w'.drewN n) := ⟨h.os, h.tape, h.output, h.size, h.block⟩

theorem order03 (w : World) : Calls Try.prog 13 #[.int .i64 0, .int .i64 3] w fun e w' => ∃ v, e = .returned v ∧ w'.ownsRow w.heap.size 3 1 v 3 (([0, 1, 2] : List Int).map (Value.int .i64)) ∧ Below w.heap.size w w' := by
  have h := order_some 0 3 (by omega) (by omega) w
  rw [show ordI (IntKind.u64.wrap 0).toNat 3 = [0, 1, 2] from by decide +kernel] at h
  exact h
theorem order53 (w : World) : Calls Try.prog 13 #[.int .i64 5, .int .i64 3] w fun e w' => ∃ v, e = .returned v ∧ w'.ownsRow w.heap.size 3 1 v 3 (([2, 1, 0] : List Int).map (Value.int .i64)) ∧ Below w.heap.size w w' := by
  have h := order_some 5 3 (by omega) (by omega) w
  rw [show ordI (IntKind.u64.wrap 5).toNat 3 = [2, 1, 0] from by decide +kernel] at h
  exact h

set_option maxHeartbeats 1000000 in
theorem awake09 (w : World) : Calls Try.prog 11 #[] w fun e w' => e = .returned (.bool true) ∧ Below w.heap.size w w' := by
  go_enter Try.func11, Try.ntmps11
  go_wp2_with fail
  refine (PDiceOrders.dice_Below.calls 7 3 1 _ (by decide +kernel)).mono ?_
  rintro e w1 ⟨rfl, ⟨q1, rfl⟩⟩
  go_wp2_with fail
  refine (order03 _).mono ?_
  rintro e w1 ⟨v, rfl, hrow, hb⟩
  go_wp2_with fail
  refine (same_own _ _ _ _ _ _ _ _ [0, 1, 2] [0, 1, 2] _ (hrow.alloc _) (own_new w1 3 [.int .i64 0, .int .i64 1, .int .i64 2] (by decide)) (by decide)).mono ?_
  rintro e w2 ⟨rfl, ⟨q2, rfl⟩⟩
  go_wp2_with fail
  refine (order53 _).mono ?_
  rintro e w3 ⟨v3, rfl, hrow3, hb3⟩
  go_wp2_with fail
  refine (same_own _ _ _ _ _ _ _ _ [2, 1, 0] [2, 1, 0] _ (hrow3.alloc _) (own_new w3 3 [.int .i64 2, .int .i64 1, .int .i64 0] (by decide)) (by decide)).mono ?_
  rintro e w4 ⟨rfl, ⟨q4, rfl⟩⟩
  go_wp2_with fail
  go_ret
  refine ⟨rfl, bD ?_ _⟩
  have h1 : Below w.heap.size w w1 := (bD (Below.refl _ _) q1).trans hb
  have h2 : Below w.heap.size w w3 := (bD (h1.alloc h1.size _) q2).trans (hb3.mono (by have := h1.size; simp; omega))
  exact h2.alloc h2.size _
end Go.Proofs.Ytnnmhpplmihidaa
