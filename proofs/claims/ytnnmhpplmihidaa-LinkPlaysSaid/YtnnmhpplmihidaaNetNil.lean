/- The methods of no net. -/
import Derived.Test.YtnnmhpplmihidaaNetTake
namespace Go.Proofs.Ytnnmhpplmihidaa
set_option linter.unusedVariables false
set_option linter.unusedSimpArgs false
open Go.RowKit

set_option maxHeartbeats 2000000 in
set_option maxRecDepth 100000 in
theorem send_nil (a b : Int) (s : ByteArray) (w : World) :
    Calls Try.prog 29 #[.pointer none, .int .i64 a, .int .i64 b, .string s] w fun e w' => e = .returned (.int .i64 11) ∧ w = w' := by
  go_enter Try.func29, Try.ntmps29
  go_wp2_with (first
    | (go_at_call 50; refine (list_nil _ a b).mono ?_; rintro e w' ⟨rfl, rfl⟩)
    | (go_at_call 51; refine (there_nil a b _).mono ?_; rintro e w' ⟨rfl, rfl⟩))
  go_ret
  exact ⟨rfl, rfl⟩

set_option maxHeartbeats 2000000 in
set_option maxRecDepth 100000 in
theorem take_nil (a b i : Int) (w : World) :
    Calls Try.prog 30 #[.pointer none, .int .i64 a, .int .i64 b, .int .i64 i] w fun e w' => e = .returned (.tuple #[.string ByteArray.empty, .bool false, .int .i64 11]) ∧ Below w.heap.size w w' := by
  have HF := Lib.hid (find_nil a b i w)
  go_enter Try.func30, Try.ntmps30
  go_wp2_with (go_at_call 54; refine HF.out.mono ?_; rintro e w' ⟨rfl, hb⟩)
  go_ret3
  exact ⟨rfl, hb.alloc hb.size _⟩

set_option maxHeartbeats 2000000 in
set_option maxRecDepth 100000 in
theorem twice_nil (a b i : Int) (w : World) :
    Calls Try.prog 31 #[.pointer none, .int .i64 a, .int .i64 b, .int .i64 i] w fun e w' => e = .returned (.int .i64 11) ∧ Below w.heap.size w w' := by
  have HF := Lib.hid (find_nil a b i w)
  go_enter Try.func31, Try.ntmps31
  go_wp2_with (go_at_call 54; refine HF.out.mono ?_; rintro e w' ⟨rfl, hb⟩)
  go_ret
  exact ⟨rfl, hb.alloc hb.size _⟩

set_option maxHeartbeats 2000000 in
set_option maxRecDepth 100000 in
theorem bend_nil (a b i at_ : Int) (mask : Nat) (hmask : mask < 4294967296) (w : World) :
    Calls Try.prog 32 #[.pointer none, .int .i64 a, .int .i64 b, .int .i64 i, .int .i64 at_, .int .u32 mask] w fun e w' => e = .returned (.int .i64 11) ∧ Below w.heap.size w w' := by
  have HF := Lib.hid (find_nil a b i w)
  go_enter Try.func32, Try.ntmps32
  go_wp2_with (go_at_call 54; refine HF.out.mono ?_; rintro e w' ⟨rfl, hb⟩)
  go_ret
  exact ⟨rfl, hb.alloc hb.size _⟩

set_option maxHeartbeats 2000000 in
set_option maxRecDepth 100000 in
theorem all_nil (w : World) :
    Calls Try.prog 39 #[.pointer none] w fun e w' => e = .returned (.int .i64 0) ∧ w = w' := by
  go_enter Try.func39, Try.ntmps39
  go_wp2
  go_ret
  exact ⟨rfl, rfl⟩

set_option maxHeartbeats 2000000 in
set_option maxRecDepth 100000 in
theorem next_nil (w : World) :
    Calls Try.prog 42 #[.pointer none] w fun e w' => e = .returned (.tuple #[.int .i64 0, .int .i64 0, .bool false]) ∧ Below w.heap.size w w' := by
  go_enter Try.func42, Try.ntmps42
  go_wp2
  go_ret3
  exact ⟨rfl, Below.refl _ _⟩

set_option maxHeartbeats 2000000 in
set_option maxRecDepth 100000 in
theorem clear_nil (b : Int) (w : World) :
    Calls Try.prog 37 #[.pointer none, .int .i64 b] w fun e w' => e = .returned (.int .i64 0) ∧ w = w' := by
  go_enter Try.func37, Try.ntmps37
  go_wp2
  go_ret
  exact ⟨rfl, rfl⟩
end Go.Proofs.Ytnnmhpplmihidaa
