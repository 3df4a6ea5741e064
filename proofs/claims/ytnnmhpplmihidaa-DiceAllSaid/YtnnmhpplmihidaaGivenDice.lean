/- dice.Order and chapter 9's examples, in the form of a printed contract. -/
import Derived.Test.YtnnmhpplmihidaaAwake09
namespace Go.Proofs.Ytnnmhpplmihidaa
set_option linter.unusedVariables false
set_option linter.unusedSimpArgs false
open Go.RowKit Go.Proofs.YtnnmhpplmihidaaW.PrintWords Go.Proofs.YtnnmhpplmihidaaW.PrintLast Go.Proofs.YtnnmhpplmihidaaW.PrintMore

/-- What dice.Order hands back. -/
def ordZ (d n : Int) : List Int := if n < 1 ∨ 1000 < n then [] else ordI (IntKind.u64.wrap d).toNat n.toNat

theorem ordZ_length (d n : Int) : (ordZ d n).length ≤ 1000 := by
  unfold ordZ; split
  · simp
  · rw [ordI_length]; omega

def dice_Order.f (a0 a1 : Int) : Option (List Int) := some (ordZ a0 a1)

theorem dice_Order.calls (a0 : Int) (a1 : Int) (r : List Int) (w : World) (h : dice_Order.f a0 a1 = some r) :
    Calls Try.prog 13 #[.int .i64 a0, .int .i64 a1] w fun e w' => ∃ v0_ : Value, e = .returned (v0_) ∧ Kd.R (Kd.int .i64) 3 w' w.heap.size (fun _ => True) v0_ r ∧ Below w.heap.size w w' := by
  obtain rfl := Option.some.inj h
  unfold ordZ
  split
  · rename_i h
    refine (order_none a0 a1 h w).mono ?_
    rintro e w' ⟨rfl, q, rfl⟩
    exact ⟨_, rfl, Kd.R_nil _ _ _ _ _, bD (Below.refl _ _) q⟩
  · rename_i h
    obtain ⟨k, rfl⟩ := Int.eq_ofNat_of_zero_le (show 0 ≤ a1 by omega)
    refine (order_some a0 k (by omega) (by omega) w).mono ?_
    rintro e w' ⟨v, rfl, hrow, hb⟩
    refine ⟨v, rfl, Kd.R_of_own (enc := Value.int .i64) (h1 := fun _ => rfl) ?_ (fun _ _ => trivial), hb⟩
    rw [ordI_length]
    exact hrow

def hearsaylaw09_awake.f : Option Bool := some true
theorem hearsaylaw09_awake.calls (r : Bool) (w : World) (h : hearsaylaw09_awake.f = some r) :
    Calls Try.prog 11 #[] w fun e w' => e = .returned (.bool r) ∧ Below w.heap.size w w' := by
  obtain rfl := Option.some.inj h
  exact awake09 w
end Go.Proofs.Ytnnmhpplmihidaa
