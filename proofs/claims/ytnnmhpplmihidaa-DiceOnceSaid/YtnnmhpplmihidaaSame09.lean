/- The reference's Same tells whether two lists are the same. -/
import Derived.WalkKit
import Derived.Lib.Hide
import Derived.RangeFuncRecord
import Derived.Test.YtnnmhpplmihidaaPDiceOrdersx1
import Derived.Test.YtnnmhpplmihidaaOrd
namespace Go.Proofs.Ytnnmhpplmihidaa
set_option linter.unusedVariables false
set_option linter.unusedSimpArgs false
open Go.RowKit Go.Proofs.YtnnmhpplmihidaaW.PrintWords Go.Proofs.YtnnmhpplmihidaaW.PrintLast Go.Proofs.YtnnmhpplmihidaaW.PrintMore
open PDiceOrders

theorem wrap64_small {i : Int} (h0 : 0 ≤ i) (h : i ≤ 9223372036854775806) : wrap64 (i + 1) = i + 1 := by unfold wrap64; omega

theorem same_l0 (xs ys : List Int) (hl : xs.length = ys.length) (hm : xs.length ≤ 9223372036854775806) (d : Nat) : ∀ (k i : Nat), xs.length - i = d → i ≤ xs.length → d < k →
    hearsayref09_Same.l0 k xs ys i = some (decide (xs.drop i = ys.drop i)) := by
  induction d with
  | zero =>
    intro k i hd hi hk
    obtain ⟨k, rfl⟩ : ∃ m, k = m + 1 := ⟨k - 1, by omega⟩
    simp only [hearsayref09_Same.l0]
    rw [if_neg (by omega), List.drop_eq_nil_of_le (by omega), List.drop_eq_nil_of_le (by omega)]
    simp
  | succ d ih =>
    intro k i hd hi hk
    obtain ⟨k, rfl⟩ : ∃ m, k = m + 1 := ⟨k - 1, by omega⟩
    simp only [hearsayref09_Same.l0]
    have hx : i < xs.length := by omega
    have hy : i < ys.length := by omega
    rw [if_pos (by omega), if_pos (by omega), if_pos (by omega), wrap64_small (by omega) (by omega)]
    have e1 : rd xs i = xs[i] := by simp [rd, List.getD_eq_getElem?_getD, hx]
    have e2 : rd ys i = ys[i] := by simp [rd, List.getD_eq_getElem?_getD, hy]
    rw [e1, e2, List.drop_eq_getElem_cons hx, List.drop_eq_getElem_cons hy]
    by_cases h : xs[i] = ys[i]
    · rw [if_pos h]
      have := ih k (i + 1) (by omega) (by omega) (by omega)
      rw [show ((i : Int) + 1) = ((i + 1 : Nat) : Int) from by omega, this]
      simp only [List.cons.injEq, h, true_and]
    · rw [if_neg h]
      simp only [List.cons.injEq, h, false_and, decide_false]

theorem same_f (xs ys : List Int) (hm : xs.length ≤ 9223372036854775806) : hearsayref09_Same.f (xs.length + 1) xs ys = some (decide (xs = ys)) := by
  unfold hearsayref09_Same.f
  by_cases h : xs.length = ys.length
  · rw [if_pos (by omega)]
    have := same_l0 xs ys h hm xs.length (xs.length + 1) 0 (by omega) (by omega) (by omega)
    simpa using this
  · rw [if_neg (by omega)]
    have : xs ≠ ys := fun e => h (by rw [e])
    simp [this]

/-- A row of ints of the call's own, read. -/
theorem own_C {w : World} {base e n : Nat} {v : Value} {xs : List Int} (h : w.ownsRow base e 1 v n (xs.map (Value.int .i64))) :
    ∃ A c, v = .slice A xs.length c ∧ xs.length ≤ c ∧ Kd.C (Kd.int .i64) w A xs.length xs ∧ xs.length = n := by
  have hl : xs.length = n := by simpa using h.1
  subst hl
  obtain ⟨A, c, e1, e2, e3⟩ := Kd.R_reads (Kd.R_of_own (enc := Value.int .i64) (h1 := fun _ => rfl) (ok := fun _ => True) h (fun _ _ => trivial))
  exact ⟨A, c, e1, e2, e3, rfl⟩

theorem own_max {w : World} {base e n : Nat} {v : Value} {xs : List Value} (h : w.ownsRow base e 1 v n xs) : n ≤ maxLen := by
  rcases h.2 with ⟨_, rfl⟩ | ⟨g, cap, cur, _, _, _, h1, h2, _⟩
  · exact Nat.zero_le _
  · omega

theorem same_own (b1 b2 e1 e2 n1 n2 : Nat) (v1 v2 : Value) (xs ys : List Int) (w : World) (h1 : w.ownsRow b1 e1 1 v1 n1 (xs.map (Value.int .i64))) (h2 : w.ownsRow b2 e2 1 v2 n2 (ys.map (Value.int .i64))) (hm : n1 ≤ 1000000) :
    Calls Try.prog 12 #[v1, v2] w fun e w' => e = .returned (.bool (decide (xs = ys))) ∧ ∃ n, w' = w.drewN n := by
  obtain ⟨A1, c1, rfl, hc1, hr1, hn1⟩ := own_C h1
  obtain ⟨A2, c2, rfl, hc2, hr2, hn2⟩ := own_C h2
  refine (hearsayref09_Same.calls (xs.length + 1) A1 c1 xs A2 c2 ys _ w hr1 hc1 hr2 hc2 (same_f xs ys (by omega))).mono ?_
  rintro e w' ⟨rfl, hd⟩
  exact ⟨rfl, hd.out⟩

/-- A slice of ints that reads as a list. -/
def RowI (w : World) (v : Value) (xs : List Int) : Prop := ∃ A c, v = .slice A xs.length c ∧ xs.length ≤ c ∧ Kd.C (Kd.int .i64) w A xs.length xs

theorem RowI.of_own {w : World} {base e n : Nat} {v : Value} {xs : List Int} (h : w.ownsRow base e 1 v n (xs.map (Value.int .i64))) : RowI w v xs := by
  obtain ⟨A, c, h1, h2, h3, _⟩ := own_C h
  exact ⟨A, c, h1, h2, h3⟩
theorem RowI.of_R {w : World} {base e : Nat} {ok : Nat → Prop} {v : Value} {xs : List Int} (h : Kd.R (Kd.int .i64) e w base ok v xs) : RowI w v xs := Kd.R_reads h
theorem RowI.below {w w' : World} {v : Value} {xs : List Int} (h : RowI w v xs) (hb : Below w.heap.size w w') : RowI w' v xs := by
  obtain ⟨A, c, h1, h2, h3⟩ := h
  exact ⟨A, c, h1, h2, Kd.C_below h3 hb⟩
theorem RowI.nil (w : World) : RowI w (.slice none 0 0) [] := RowI.of_R (Kd.R_nil (Kd.int .i64) 0 w 0 (fun _ => True))

theorem same_rows (v1 v2 : Value) (xs ys : List Int) (w : World) (h1 : RowI w v1 xs) (h2 : RowI w v2 ys) (hm : xs.length ≤ 1000000) :
    Calls Try.prog 12 #[v1, v2] w fun e w' => e = .returned (.bool (decide (xs = ys))) ∧ ∃ n, w' = w.drewN n := by
  obtain ⟨A1, c1, rfl, hc1, hr1⟩ := h1
  obtain ⟨A2, c2, rfl, hc2, hr2⟩ := h2
  refine (hearsayref09_Same.calls (xs.length + 1) A1 c1 xs A2 c2 ys _ w hr1 hc1 hr2 hc2 (same_f xs ys (by omega))).mono ?_
  rintro e w' ⟨rfl, hd⟩
  exact ⟨rfl, hd.out⟩

theorem own_new (w : World) (e : Nat) (cs : List Value) (hm : cs.length ≤ maxLen) : (w.alloc (.cells cs.toArray e)).ownsRow w.heap.size e 1 (.slice (some ⟨w.heap.size, 0, none⟩) cs.length cs.length) cs.length cs :=
  ⟨by simp, .inr ⟨w.heap.size, cs.length, cs.toArray, rfl, Nat.le_refl _, World.alloc_heap_new w _, Nat.le_refl _, hm, by simp, by simp⟩⟩

end Go.Proofs.Ytnnmhpplmihidaa
