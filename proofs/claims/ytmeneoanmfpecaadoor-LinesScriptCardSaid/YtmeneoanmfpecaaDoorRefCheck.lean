/- package hearsayref34: may an operation be? -/
import Derived.WalkKit
import Derived.WalkSpells
import Derived.IntWalk
import Derived.Lib.Hide
import Derived.Handy
import Derived.Laws.StructEq
import Derived.Test.YtmeneoanmfpecaaDoorWEqStruct
import Derived.Test.YtmeneoanmfpecaaDoorLineParts
namespace Go.Proofs.YtmeneoanmfpecaaDoor
set_option linter.unusedVariables false
set_option linter.unusedSimpArgs false
open Go.RowKit Go.Proofs.YtmeneoanmfpecaaDoorW.PrintWords

theorem rnum_any (x : Int) (w : World) : Calls Tryd.prog 107 #[.int .i64 x] w fun e w' => e = .returned (.bool (numB x)) ∧ w = w' := by
  by_cases h0 : 0 ≤ x
  · by_cases h1 : x ≤ 1073741824
    · have HT : Hid (numB x = true) := by simp [Hid, numB, h0, h1]
      go_enter Tryd.func107, Tryd.ntmps107
      go_wp2
      go_ret
      rw [HT.out]
      exact ⟨by simp [h0, h1], rfl⟩
    · have HT : Hid (numB x = false) := by simp [Hid, numB, h1]
      go_enter Tryd.func107, Tryd.ntmps107
      go_wp2
      go_ret
      rw [HT.out]
      exact ⟨by simp [h0, h1], rfl⟩
  · have HT : Hid (numB x = false) := by simp [Hid, numB, h0]
    go_enter Tryd.func107, Tryd.ntmps107
    go_wp2
    go_ret
    rw [HT.out]
    exact ⟨by simp [h0], rfl⟩

/-- An operation without its own fields. -/
def bareM (x : OpR) : OpR where
  k := x.k
  p := x.p
  t := if 4 ≤ x.k ∧ x.k ≤ 7 then 0 else x.t
  n := if 2 ≤ x.k ∧ x.k ≤ 9 then 0 else x.n
  a := if x.k = 7 ∨ x.k = 9 then 0 else x.a
  m := if x.k = 7 then 0 else x.m
  u := if x.k < 2 then ⟨#[]⟩ else x.u
  v := if x.k = 0 then ⟨#[]⟩ else x.v

set_option maxHeartbeats 4000000 in
set_option maxRecDepth 100000 in
theorem bare_any (x : OpR) (h0 : 0 ≤ x.k) (h13 : x.k < 13) (w : World) :
    Calls Tryd.prog 108 #[.agg x.cells] w fun e w' => e = .returned (.agg (bareM x).cells) ∧ Below w.heap.size w w' := by
  obtain ⟨k, p, t, n, a, m, u, v⟩ := x
  simp only at h0 h13
  have HG : ∀ (y : OpR), ((w.alloc (.cells y.cells 30)).alloc (.cells y.cells 30)).heap[w.heap.size + 1]? = some (.cells y.cells 30 (0, 0)) := fun y => by
    have h := World.alloc_heap_new (w.alloc (.cells y.cells 30)) (.cells y.cells 30)
    rw [show (w.alloc (.cells y.cells 30)).heap.size = w.heap.size + 1 by simp] at h
    exact h
  have HI : (Tryd.prog.info? 30).map (·.size) = some 8 := by kernel_rfl
  have HGH := Lib.hid HG
  have HIH := Lib.hid HI
  clear HG HI
  rcases thirteen h0 h13 with rfl | rfl | rfl | rfl | rfl | rfl | rfl | rfl | rfl | rfl | rfl | rfl | rfl <;> clear h0 h13
  · show Calls Tryd.prog 108 #[.agg #[.int .i64 0, .int .i64 p, .int .i64 t, .int .i64 n, .int .i64 a, .int .i64 m, .string u, .string v]] w _
    go_enter Tryd.func108, Tryd.ntmps108
    go_wp2
    refine bodyPost_ret (results_cell_row rfl _ _ (w.heap.size + 1) 30 (bareM ⟨0, p, t, n, a, m, u, v⟩).cells (0, 0) _ rfl (HGH.out (bareM ⟨0, p, t, n, a, m, u, v⟩)) Tryd.underlying30 rfl HIH.out) rfl ?_
    exact ⟨rfl, ((Below.refl _ _).alloc (Nat.le_refl _) _).alloc (by simp) _⟩
  · show Calls Tryd.prog 108 #[.agg #[.int .i64 1, .int .i64 p, .int .i64 t, .int .i64 n, .int .i64 a, .int .i64 m, .string u, .string v]] w _
    go_enter Tryd.func108, Tryd.ntmps108
    go_wp2
    refine bodyPost_ret (results_cell_row rfl _ _ (w.heap.size + 1) 30 (bareM ⟨1, p, t, n, a, m, u, v⟩).cells (0, 0) _ rfl (HGH.out (bareM ⟨1, p, t, n, a, m, u, v⟩)) Tryd.underlying30 rfl HIH.out) rfl ?_
    exact ⟨rfl, ((Below.refl _ _).alloc (Nat.le_refl _) _).alloc (by simp) _⟩
  · show Calls Tryd.prog 108 #[.agg #[.int .i64 2, .int .i64 p, .int .i64 t, .int .i64 n, .int .i64 a, .int .i64 m, .string u, .string v]] w _
    go_enter Tryd.func108, Tryd.ntmps108
    go_wp2
    refine bodyPost_ret (results_cell_row rfl _ _ (w.heap.size + 1) 30 (bareM ⟨2, p, t, n, a, m, u, v⟩).cells (0, 0) _ rfl (HGH.out (bareM ⟨2, p, t, n, a, m, u, v⟩)) Tryd.underlying30 rfl HIH.out) rfl ?_
    exact ⟨rfl, ((Below.refl _ _).alloc (Nat.le_refl _) _).alloc (by simp) _⟩
  · show Calls Tryd.prog 108 #[.agg #[.int .i64 3, .int .i64 p, .int .i64 t, .int .i64 n, .int .i64 a, .int .i64 m, .string u, .string v]] w _
    go_enter Tryd.func108, Tryd.ntmps108
    go_wp2
    refine bodyPost_ret (results_cell_row rfl _ _ (w.heap.size + 1) 30 (bareM ⟨3, p, t, n, a, m, u, v⟩).cells (0, 0) _ rfl (HGH.out (bareM ⟨3, p, t, n, a, m, u, v⟩)) Tryd.underlying30 rfl HIH.out) rfl ?_
    exact ⟨rfl, ((Below.refl _ _).alloc (Nat.le_refl _) _).alloc (by simp) _⟩
  · show Calls Tryd.prog 108 #[.agg #[.int .i64 4, .int .i64 p, .int .i64 t, .int .i64 n, .int .i64 a, .int .i64 m, .string u, .string v]] w _
    go_enter Tryd.func108, Tryd.ntmps108
    go_wp2
    refine bodyPost_ret (results_cell_row rfl _ _ (w.heap.size + 1) 30 (bareM ⟨4, p, t, n, a, m, u, v⟩).cells (0, 0) _ rfl (HGH.out (bareM ⟨4, p, t, n, a, m, u, v⟩)) Tryd.underlying30 rfl HIH.out) rfl ?_
    exact ⟨rfl, ((Below.refl _ _).alloc (Nat.le_refl _) _).alloc (by simp) _⟩
  · show Calls Tryd.prog 108 #[.agg #[.int .i64 5, .int .i64 p, .int .i64 t, .int .i64 n, .int .i64 a, .int .i64 m, .string u, .string v]] w _
    go_enter Tryd.func108, Tryd.ntmps108
    go_wp2
    refine bodyPost_ret (results_cell_row rfl _ _ (w.heap.size + 1) 30 (bareM ⟨5, p, t, n, a, m, u, v⟩).cells (0, 0) _ rfl (HGH.out (bareM ⟨5, p, t, n, a, m, u, v⟩)) Tryd.underlying30 rfl HIH.out) rfl ?_
    exact ⟨rfl, ((Below.refl _ _).alloc (Nat.le_refl _) _).alloc (by simp) _⟩
  · show Calls Tryd.prog 108 #[.agg #[.int .i64 6, .int .i64 p, .int .i64 t, .int .i64 n, .int .i64 a, .int .i64 m, .string u, .string v]] w _
    go_enter Tryd.func108, Tryd.ntmps108
    go_wp2
    refine bodyPost_ret (results_cell_row rfl _ _ (w.heap.size + 1) 30 (bareM ⟨6, p, t, n, a, m, u, v⟩).cells (0, 0) _ rfl (HGH.out (bareM ⟨6, p, t, n, a, m, u, v⟩)) Tryd.underlying30 rfl HIH.out) rfl ?_
    exact ⟨rfl, ((Below.refl _ _).alloc (Nat.le_refl _) _).alloc (by simp) _⟩
  · show Calls Tryd.prog 108 #[.agg #[.int .i64 7, .int .i64 p, .int .i64 t, .int .i64 n, .int .i64 a, .int .i64 m, .string u, .string v]] w _
    go_enter Tryd.func108, Tryd.ntmps108
    go_wp2
    refine bodyPost_ret (results_cell_row rfl _ _ (w.heap.size + 1) 30 (bareM ⟨7, p, t, n, a, m, u, v⟩).cells (0, 0) _ rfl (HGH.out (bareM ⟨7, p, t, n, a, m, u, v⟩)) Tryd.underlying30 rfl HIH.out) rfl ?_
    exact ⟨rfl, ((Below.refl _ _).alloc (Nat.le_refl _) _).alloc (by simp) _⟩
  · show Calls Tryd.prog 108 #[.agg #[.int .i64 8, .int .i64 p, .int .i64 t, .int .i64 n, .int .i64 a, .int .i64 m, .string u, .string v]] w _
    go_enter Tryd.func108, Tryd.ntmps108
    go_wp2
    refine bodyPost_ret (results_cell_row rfl _ _ (w.heap.size + 1) 30 (bareM ⟨8, p, t, n, a, m, u, v⟩).cells (0, 0) _ rfl (HGH.out (bareM ⟨8, p, t, n, a, m, u, v⟩)) Tryd.underlying30 rfl HIH.out) rfl ?_
    exact ⟨rfl, ((Below.refl _ _).alloc (Nat.le_refl _) _).alloc (by simp) _⟩
  · show Calls Tryd.prog 108 #[.agg #[.int .i64 9, .int .i64 p, .int .i64 t, .int .i64 n, .int .i64 a, .int .i64 m, .string u, .string v]] w _
    go_enter Tryd.func108, Tryd.ntmps108
    go_wp2
    refine bodyPost_ret (results_cell_row rfl _ _ (w.heap.size + 1) 30 (bareM ⟨9, p, t, n, a, m, u, v⟩).cells (0, 0) _ rfl (HGH.out (bareM ⟨9, p, t, n, a, m, u, v⟩)) Tryd.underlying30 rfl HIH.out) rfl ?_
    exact ⟨rfl, ((Below.refl _ _).alloc (Nat.le_refl _) _).alloc (by simp) _⟩
  · show Calls Tryd.prog 108 #[.agg #[.int .i64 10, .int .i64 p, .int .i64 t, .int .i64 n, .int .i64 a, .int .i64 m, .string u, .string v]] w _
    go_enter Tryd.func108, Tryd.ntmps108
    go_wp2
    refine bodyPost_ret (results_cell_row rfl _ _ (w.heap.size + 1) 30 (bareM ⟨10, p, t, n, a, m, u, v⟩).cells (0, 0) _ rfl (HGH.out (bareM ⟨10, p, t, n, a, m, u, v⟩)) Tryd.underlying30 rfl HIH.out) rfl ?_
    exact ⟨rfl, ((Below.refl _ _).alloc (Nat.le_refl _) _).alloc (by simp) _⟩
  · show Calls Tryd.prog 108 #[.agg #[.int .i64 11, .int .i64 p, .int .i64 t, .int .i64 n, .int .i64 a, .int .i64 m, .string u, .string v]] w _
    go_enter Tryd.func108, Tryd.ntmps108
    go_wp2
    refine bodyPost_ret (results_cell_row rfl _ _ (w.heap.size + 1) 30 (bareM ⟨11, p, t, n, a, m, u, v⟩).cells (0, 0) _ rfl (HGH.out (bareM ⟨11, p, t, n, a, m, u, v⟩)) Tryd.underlying30 rfl HIH.out) rfl ?_
    exact ⟨rfl, ((Below.refl _ _).alloc (Nat.le_refl _) _).alloc (by simp) _⟩
  · show Calls Tryd.prog 108 #[.agg #[.int .i64 12, .int .i64 p, .int .i64 t, .int .i64 n, .int .i64 a, .int .i64 m, .string u, .string v]] w _
    go_enter Tryd.func108, Tryd.ntmps108
    go_wp2
    refine bodyPost_ret (results_cell_row rfl _ _ (w.heap.size + 1) 30 (bareM ⟨12, p, t, n, a, m, u, v⟩).cells (0, 0) _ rfl (HGH.out (bareM ⟨12, p, t, n, a, m, u, v⟩)) Tryd.underlying30 rfl HIH.out) rfl ?_
    exact ⟨rfl, ((Below.refl _ _).alloc (Nat.le_refl _) _).alloc (by simp) _⟩

theorem part_int (w : World) (cs : Array Value) (o : Nat) (v : Value) (h : cs[o]? = some v) : (part 3 cs o).run Tryd.prog w = .ok v w := by
  have ha : (isAgg 3).run Tryd.prog w = .ok false w := by kernel_rfl
  simp [part, Sem.run_bind, ha, h, Result.andThen]
theorem part_str (w : World) (cs : Array Value) (o : Nat) (v : Value) (h : cs[o]? = some v) : (part 9 cs o).run Tryd.prog w = .ok v w := by
  have ha : (isAgg 9).run Tryd.prog w = .ok false w := by kernel_rfl
  simp [part, Sem.run_bind, ha, h, Result.andThen]

def opEq (y x : OpR) : Bool := (y.k == x.k) && ((y.p == x.p) && ((y.t == x.t) && ((y.n == x.n) && ((y.a == x.a) && ((y.m == x.m) && ((y.u.toList == x.u.toList) && (y.v.toList == x.v.toList)))))))
set_option maxRecDepth 100000 in
theorem op_equal (w : World) (y x : OpR) : (Op.equalIn (9999 + 1) 30 (.agg y.cells) (.agg x.cells)).run Tryd.prog w = .ok (opEq y x) w := by
  refine eqA_of Tryd.underlying30 (by kernel_rfl) ?_
  refine eqf_cons (by decide) (part_int w _ _ _ rfl) (part_int w _ _ _ rfl) (run_equalIn_int w 9998 _ _ _ _ _ Tryd.underlying3) ?_
  refine eqf_cons (by decide) (part_int w _ _ _ rfl) (part_int w _ _ _ rfl) (run_equalIn_int w 9998 _ _ _ _ _ Tryd.underlying3) ?_
  refine eqf_cons (by decide) (part_int w _ _ _ rfl) (part_int w _ _ _ rfl) (run_equalIn_int w 9998 _ _ _ _ _ Tryd.underlying3) ?_
  refine eqf_cons (by decide) (part_int w _ _ _ rfl) (part_int w _ _ _ rfl) (run_equalIn_int w 9998 _ _ _ _ _ Tryd.underlying3) ?_
  refine eqf_cons (by decide) (part_int w _ _ _ rfl) (part_int w _ _ _ rfl) (run_equalIn_int w 9998 _ _ _ _ _ Tryd.underlying3) ?_
  refine eqf_cons (by decide) (part_int w _ _ _ rfl) (part_int w _ _ _ rfl) (run_equalIn_int w 9998 _ _ _ _ _ Tryd.underlying3) ?_
  refine eqf_cons (by decide) (part_str w _ _ _ rfl) (part_str w _ _ _ rfl) (run_equalIn_string w 9998 _ _ _ Tryd.underlying9) ?_
  exact eqf_last (by decide) (part_str w _ _ _ rfl) (part_str w _ _ _ rfl) (run_equalIn_string w 9998 _ _ _ Tryd.underlying9)
end Go.Proofs.YtmeneoanmfpecaaDoor
