/- The order in which a draw puts numbers, as a list. -/
namespace Go.Proofs.Ytnnmhpplmihidaa
set_option linter.unusedVariables false
set_option linter.unusedSimpArgs false

def ordN : Nat → Nat → List Int → List Int
  | 0, _, _ => []
  | n + 1, d, l => l.getD (d % (n + 1)) 0 :: ordN n (d / (n + 1)) (l.eraseIdx (d % (n + 1)))

def iota (n : Nat) : List Int := (List.range n).map fun i : Nat => (i : Int)

def ordI (d n : Nat) : List Int := ordN n d (iota n)

theorem iota_zero : iota 0 = [] := rfl
theorem iota_succ (n : Nat) : iota (n + 1) = iota n ++ [(n : Int)] := by simp [iota, List.range_succ]
theorem iota_length (n : Nat) : (iota n).length = n := by simp [iota]
theorem ordN_length : ∀ n d l, (ordN n d l).length = n
  | 0, _, _ => rfl
  | n + 1, d, l => by simp [ordN, ordN_length n]
theorem ordI_length (d n : Nat) : (ordI d n).length = n := ordN_length _ _ _

end Go.Proofs.Ytnnmhpplmihidaa
