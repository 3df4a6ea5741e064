/- The walk of DiceDraws: what is left of a draw, and the draw behind it, are the reference's. -/
import Derived.Test.YtnnmhpplmihidaaPDiceDrawsx1
import Derived.Test.YtnnmhpplmihidaaAwake09
import Derived.OpenShut
namespace Go.Proofs.Ytnnmhpplmihidaa
open Go.RowKit Go.Proofs.YtnnmhpplmihidaaW.PrintWords Go.Proofs.YtnnmhpplmihidaaW.PrintLast Go.Proofs.YtnnmhpplmihidaaW.PrintMore

theorem below_some (a b : Int) (wb : (Lit.int .i64 b).wf = true) : ∃ r, PDiceDraws.dice_Below.f a b = some r := by
  unfold PDiceDraws.dice_Below.f
  have hb := bounds_i64 wb
  by_cases h : b < 1
  · exact ⟨0, by rw [if_pos h]⟩
  · have e := wrap_u64_mod b
    rw [if_neg h, if_neg (by omega)]
    exact ⟨_, rfl⟩

set_option maxHeartbeats 1000000 in
theorem diceDraws_walk (a b : Int) (wa : (Lit.int .i64 a).wf = true) (wb : (Lit.int .i64 b).wf = true) (w : World) :
    Calls Try.prog 6 #[.int .i64 a, .int .i64 b] w fun e w' => e = .returned (.bool true) ∧ Below w.heap.size w w' := by
  obtain ⟨r, hr⟩ := below_some a b wb
  have hr' : PDiceDraws.hearsayref09_Below.f a b = some r := hr
  obtain ⟨t, ht⟩ : ∃ t, PDiceDraws.dice_Next.f a = some t := ⟨_, rfl⟩
  have ht' : PDiceDraws.hearsayref09_Next.f a = some t := ht
  have H1 := Lib.hid hr
  have H2 := Lib.hid hr'
  have H3 := Lib.hid ht
  have H4 := Lib.hid ht'
  clear hr hr' ht ht'
  go_enter Try.func6, Try.ntmps6
  go_wp2_with fail
  refine (PDiceDraws.dice_Below.calls a b r _ H1.out).mono ?_
  rintro e w1 ⟨rfl, ⟨q1, rfl⟩⟩
  go_wp2_with fail
  refine (PDiceDraws.hearsayref09_Below.calls a b r _ H2.out).mono ?_
  rintro e w1 ⟨rfl, ⟨q2, rfl⟩⟩
  go_wp2_with fail
  refine (PDiceDraws.dice_Next.calls a t _ H3.out).mono ?_
  rintro e w1 ⟨rfl, ⟨q3, rfl⟩⟩
  go_wp2_with fail
  refine (PDiceDraws.hearsayref09_Next.calls a t _ H4.out).mono ?_
  rintro e w1 ⟨rfl, ⟨q4, rfl⟩⟩
  go_wp2_with fail
  refine (awake09 _).mono ?_
  rintro e w1 ⟨rfl, hb⟩
  go_wp2_with fail
  go_ret
  exact ⟨rfl, (bD (Below.refl _ _) (q1 + q2 + q3 + q4)).trans hb⟩
end Go.Proofs.Ytnnmhpplmihidaa
