/- slices.Clone at []hearsay/api.Op: a new row of the same cells. -/
import Derived.Test.YtnnmhpplmihidaaProg
import Derived.Test.YtnnmhpplmihidaaRd
namespace Go.Proofs.Ytnnmhpplmihidaa
set_option linter.unusedVariables false
set_option linter.unusedSimpArgs false
open Go.RowKit

theorem info_Op : (Try.prog.info? 34).map (fun i => (i.zero, i.size, i.bytes)) = some (some (.agg #[.int .i64 0, .int .i64 0, .int .i64 0, .int .i64 0, .int .i64 0, .int .i64 0, .string ByteArray.empty, .string ByteArray.empty]), 8, 80) := by kernel_rfl

set_option maxHeartbeats 1000000 in
set_option maxRecDepth 100000 in
theorem clone_Op (v : Value) (n : Nat) (xs : List Value) (h1c : ∀ u ∈ xs, u.oneCell' = true) (hby : n * 80 ≤ 140737488355328) (w : World) (h : Rd w v 8 n xs) :
    Calls Try.prog 47 #[v] w fun e w' => ∃ v', e = .returned v' ∧ w'.ownsRow w.heap.size 34 8 v' n xs ∧ Below w.heap.size w w' := by
  obtain ⟨i0, hi, hz0, hz1, hz2⟩ := info_parts info_Op
  obtain ⟨hl, hn, A, c, rfl, hA, hc⟩ := h
  cases A with
  | none =>
    obtain ⟨rfl, rfl⟩ := hA rfl
    have hx : xs = [] := List.length_eq_zero_iff.1 (by simpa using hl)
    subst hx
    clear hA hc hl
    have heq := fun (w : World) (a : Option Addr) (l c : Nat) => Lib.run_eql_slice_nil (P := Try.prog) w 32 34 a l c 0 0 Try.underlying32
    go_enter Try.func47, Try.ntmps47
    go_wp2
    go_ret
    exact ⟨_, rfl, ⟨by simp, .inl ⟨rfl, rfl⟩⟩, Below.refl _ _⟩
  | some ad =>
    have hc' := hc ad rfl
    have hown : (w.alloc (.cells #[] 34)).ownsRow w.heap.size 34 8 (.slice (some ⟨w.heap.size, 0, none⟩) 0 0) 0 [] :=
      ⟨by simp, .inr ⟨w.heap.size, 0, #[], rfl, Nat.le_refl _, World.alloc_heap_new w _, Nat.le_refl _, by unfold maxLen; omega, by simp, by simp⟩⟩
    have hnews : ∀ j u, xs[j]? = some u → (w.alloc (.cells #[] 34)).cell? (ad.add j) = some u := fun j u hj => cell_below ((Below.refl _ _).alloc (Nat.le_refl _) _) (hc' j u hj)
    have HN := Lib.hid hnews
    have HO := Lib.hid hown
    have HL := Lib.hid hl
    have H1 := Lib.hid h1c
    clear hA hc hc' hnews hown hl h1c
    have heq := fun (w : World) (a : Option Addr) (l c : Nat) => Lib.run_eql_slice_nil (P := Try.prog) w 32 34 a l c 0 0 Try.underlying32
    go_enter Try.func47, Try.ntmps47
    go_wp2_with ((at_builtin; refine wpList_append_own _ rfl _ _ 32 rfl w.heap.size 34 i0 (.agg #[.int .i64 0, .int .i64 0, .int .i64 0, .int .i64 0, .int .i64 0, .int .i64 0, .string ByteArray.empty, .string ByteArray.empty]) 8 80 Try.underlying32 hi hz0 hz1 hz2 rfl (by decide) _ _ _ rfl HO.out ad n c xs rfl HL.out HN.out H1.out (by omega) (by omega) (by simp) ?_; intro v' w1 hown' hgrow _))
    go_ret
    simp only [Nat.zero_add, List.nil_append] at hown'
    exact ⟨_, rfl, hown', ((Below.refl _ _).alloc (Nat.le_refl _) _).grown hgrow (by simp) (fun k e => by cases e; exact Nat.le_refl _)⟩
end Go.Proofs.Ytnnmhpplmihidaa
