/- an error's word. -/
import Derived.WalkKit
import Derived.WalkSpells
import Derived.IntWalk
import Derived.Lib.Hide
import Derived.Test.YtmeneoanmfpecaaDoorBytes
namespace Go.Proofs.YtmeneoanmfpecaaDoor
set_option linter.unusedVariables false
set_option linter.unusedSimpArgs false
open Go.RowKit

def errL : List (List UInt8) := [[111, 107], [112, 97, 116, 104], [115, 105, 122, 101], [110, 111, 110, 101], [102, 117, 108, 108], [115, 104, 111, 114, 116], [109, 111, 114, 101], [102, 111, 114, 109], [111, 114, 100, 101, 114], [115, 117, 109], [100, 101, 97, 100], [112, 101, 101, 114], [99, 111, 117, 110, 116], [115, 116, 97, 116, 101], [98, 117, 115, 121], [107, 105, 110, 100], [108, 105, 110, 101]]
def errT (e : Int) : List UInt8 := if 0 ≤ e ∧ e < 17 then errL.getD e.toNat [] else [111, 116, 104, 101, 114]
theorem errT_bd (e : Int) : (errT e).length ≤ 7 := by
  unfold errT
  split
  · rename_i h
    have hk : ∀ k : Fin 17, (errL.getD k []).length ≤ 7 := by decide +kernel
    exact hk ⟨e.toNat, by omega⟩
  · decide
theorem seventeen {e : Int} (h : 0 ≤ e ∧ e < 17) : e = 0 ∨ e = 1 ∨ e = 2 ∨ e = 3 ∨ e = 4 ∨ e = 5 ∨ e = 6 ∨ e = 7 ∨ e = 8 ∨ e = 9 ∨ e = 10 ∨ e = 11 ∨ e = 12 ∨ e = 13 ∨ e = 14 ∨ e = 15 ∨ e = 16 := by omega

set_option maxHeartbeats 8000000 in
set_option maxRecDepth 100000 in
theorem errno_any (e : Int) (w : World) : Calls Tryd.prog 73 #[.int .i64 e] w fun x w' => x = .returned (.string ⟨(errT e).toArray⟩) ∧ Below w.heap.size w w' := by
  have HR := Lib.hid (Below.refl w.heap.size w)
  have HA := Lib.hid (fun o => (Below.refl w.heap.size w).alloc (Nat.le_refl _) o)
  by_cases h : 0 ≤ e ∧ e < 17
  · rcases seventeen h with rfl | rfl | rfl | rfl | rfl | rfl | rfl | rfl | rfl | rfl | rfl | rfl | rfl | rfl | rfl | rfl | rfl <;> clear h
    all_goals
      go_enter Tryd.func73, Tryd.ntmps73
      go_wp2
      go_ret
      exact ⟨rfl, by first | exact HR.out | exact HA.out _⟩
  · have HT : Hid (errT e = [111, 116, 104, 101, 114]) := by simp [Hid, errT, h]
    have n0 : ¬ e = 0 := by omega
    have n1 : ¬ e = 1 := by omega
    have n2 : ¬ e = 2 := by omega
    have n3 : ¬ e = 3 := by omega
    have n4 : ¬ e = 4 := by omega
    have n5 : ¬ e = 5 := by omega
    have n6 : ¬ e = 6 := by omega
    have n7 : ¬ e = 7 := by omega
    have n8 : ¬ e = 8 := by omega
    have n9 : ¬ e = 9 := by omega
    have n10 : ¬ e = 10 := by omega
    have n11 : ¬ e = 11 := by omega
    have n12 : ¬ e = 12 := by omega
    have n13 : ¬ e = 13 := by omega
    have n14 : ¬ e = 14 := by omega
    have n15 : ¬ e = 15 := by omega
    have n16 : ¬ e = 16 := by omega
    rw [HT.out]
    by_cases h0 : e < 0
    · clear h
      go_enter Tryd.func73, Tryd.ntmps73
      go_wp2
      go_ret
      exact ⟨rfl, by first | exact HR.out | exact HA.out _⟩
    · have h1 : 17 ≤ e := by omega
      clear h
      go_enter Tryd.func73, Tryd.ntmps73
      go_wp2
      go_ret
      exact ⟨rfl, by first | exact HR.out | exact HA.out _⟩

set_option maxHeartbeats 8000000 in
set_option maxRecDepth 100000 in
theorem rword_any (e : Int) (w : World) : Calls Tryd.prog 74 #[.int .i64 e] w fun x w' => x = .returned (.string ⟨(errT e).toArray⟩) ∧ Below w.heap.size w w' := by
  have HR := Lib.hid (Below.refl w.heap.size w)
  have HA := Lib.hid (fun o => (Below.refl w.heap.size w).alloc (Nat.le_refl _) o)
  by_cases h : 0 ≤ e ∧ e < 17
  · rcases seventeen h with rfl | rfl | rfl | rfl | rfl | rfl | rfl | rfl | rfl | rfl | rfl | rfl | rfl | rfl | rfl | rfl | rfl <;> clear h
    all_goals
      go_enter Tryd.func74, Tryd.ntmps74
      go_wp2
      go_ret
      exact ⟨rfl, by first | exact HR.out | exact HA.out _⟩
  · have HT : Hid (errT e = [111, 116, 104, 101, 114]) := by simp [Hid, errT, h]
    have n0 : ¬ e = 0 := by omega
    have n1 : ¬ e = 1 := by omega
    have n2 : ¬ e = 2 := by omega
    have n3 : ¬ e = 3 := by omega
    have n4 : ¬ e = 4 := by omega
    have n5 : ¬ e = 5 := by omega
    have n6 : ¬ e = 6 := by omega
    have n7 : ¬ e = 7 := by omega
    have n8 : ¬ e = 8 := by omega
    have n9 : ¬ e = 9 := by omega
    have n10 : ¬ e = 10 := by omega
    have n11 : ¬ e = 11 := by omega
    have n12 : ¬ e = 12 := by omega
    have n13 : ¬ e = 13 := by omega
    have n14 : ¬ e = 14 := by omega
    have n15 : ¬ e = 15 := by omega
    have n16 : ¬ e = 16 := by omega
    rw [HT.out]
    by_cases h0 : e < 0
    · clear h
      go_enter Tryd.func74, Tryd.ntmps74
      go_wp2
      go_ret
      exact ⟨rfl, by first | exact HR.out | exact HA.out _⟩
    · have h1 : 17 ≤ e := by omega
      clear h
      go_enter Tryd.func74, Tryd.ntmps74
      go_wp2
      go_ret
      exact ⟨rfl, by first | exact HR.out | exact HA.out _⟩
end Go.Proofs.YtmeneoanmfpecaaDoor
