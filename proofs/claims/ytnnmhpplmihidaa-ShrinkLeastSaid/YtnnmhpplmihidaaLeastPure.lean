/- package shrink: what Least comes to, in plain lists. -/
import Derived.Test.YtnnmhpplmihidaaAsk
import Derived.ScopeJumps
namespace Go
theorem wp_scope_loop {P : Program} {a : Act} {w : World} {Q : Exit → Act → World → Prop} {c r : Code} (l : Nat) (J : Act → World → Prop) (μ : Act → World → Nat) (hf : findLabel c l = some (Code.skip.seq r))
    (pass : ∀ a w, J a w → r.wp P (Exit.jump l (fun a' w' => J a' w' ∧ μ a' w' < μ a w) Q) a w)
    (first : (∀ a w, J a w → r.wp P (Exit.jump l J Q) a w) → c.wp P (Exit.jump l J Q) a w) : (Code.scope c).wp P Q a w :=
  wp_scope_jumps l J μ hf (first fun a w h => Code.wp_mono (fun e a' w' h' => by
    cases e with
    | goto l' => exact ⟨h'.1, h'.2.1⟩
    | _ => exact h') (pass a w h)) (fun a w h => wp_seq (wp_skip (pass a w h)))
end Go
namespace Go.Proofs.Ytnnmhpplmihidaa
set_option linter.unusedVariables false

def leastPass (K : List Int → Bool) : Nat → List Int → Nat → Nat → Bool → List Int × Nat × Bool
  | 0, out, _, n, less => (out, n, less)
  | d + 1, out, i, n, less =>
    if askB K n (out.take i ++ out.drop (i + 1)) = true then leastPass K d (out.take i ++ out.drop (i + 1)) i (askN n) true else leastPass K d out (i + 1) (askN n) less

theorem leastPass_succ' (K : List Int → Bool) (d : Nat) (out : List Int) (i n : Nat) (less : Bool) : leastPass K (d + 1) out i n less =
    if askB K n (out.take i ++ out.drop (i + 1)) = true then leastPass K d (out.take i ++ out.drop (i + 1)) i (askN n) true else leastPass K d out (i + 1) (askN n) less := rfl

def leastAll (K : List Int → Bool) : Nat → List Int → Nat → List Int × Nat
  | 0, out, n => (out, n)
  | f + 1, out, n =>
    if (leastPass K out.length out 0 n false).2.2 = true then leastAll K f (leastPass K out.length out 0 n false).1 (leastPass K out.length out 0 n false).2.1
    else ((leastPass K out.length out 0 n false).1, (leastPass K out.length out 0 n false).2.1)

def leastOf (K : List Int → Bool) (l : List Int) : List Int × Nat := if K l = true then leastAll K (l.length + 1) l 1 else (l, 1)

theorem askN_le {n : Nat} (h : n ≤ 600) : askN n ≤ 600 := by unfold askN; split <;> omega

theorem leastPass_len (K : List Int → Bool) : ∀ (d : Nat) (out : List Int) (i n : Nat) (less : Bool), out.length = i + d →
    (leastPass K d out i n less).1.length ≤ out.length ∧ ((leastPass K d out i n less).2.2 = true → less = true ∨ (leastPass K d out i n less).1.length < out.length)
  | 0, out, i, n, less, h => ⟨Nat.le_refl _, fun h => .inl h⟩
  | d + 1, out, i, n, less, h => by
    unfold leastPass
    split
    · have hl : (out.take i ++ out.drop (i + 1)).length = i + d := by simp; omega
      obtain ⟨h1, h2⟩ := leastPass_len K d (out.take i ++ out.drop (i + 1)) i (askN n) true hl
      exact ⟨by omega, fun _ => .inr (by omega)⟩
    · exact leastPass_len K d out (i + 1) (askN n) less (by omega)

theorem leastPass_n (K : List Int → Bool) : ∀ (d : Nat) (out : List Int) (i n : Nat) (less : Bool), n ≤ 600 → (leastPass K d out i n less).2.1 ≤ 600
  | 0, out, i, n, less, h => h
  | d + 1, out, i, n, less, h => by
    unfold leastPass
    split
    · exact leastPass_n K d _ i (askN n) true (askN_le h)
    · exact leastPass_n K d out (i + 1) (askN n) less (askN_le h)
end Go.Proofs.Ytnnmhpplmihidaa
