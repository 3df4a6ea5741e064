/- package hearsayref34: may an operation be? package hearsayref34: Check. the document's Check is the program's. An operation as bytes: the plain machine. package ops: put. -/
import Derived.WalkKit
import Derived.WalkSpells
import Derived.IntWalk
import Derived.Lib.Hide
import Derived.Handy
import Derived.Laws.StructEq
import Derived.Test.YtjmfdacnaodfdaaDoorWEqStruct
import Derived.Test.YtjmfdacnaodfdaaDoorK1
import Derived.StillTailTactics
import Derived.Deep.Cut
import Derived.Deep.RegionHeld3
import Derived.Deep.LoopGhost
namespace Go.Proofs.YtjmfdacnaodfdaaDoor
set_option linter.unusedVariables false
set_option linter.unusedSimpArgs false
open Go.RowKit Go.Proofs.YtjmfdacnaodfdaaDoorW.PrintWords

theorem rnum_any (x : Int) (w : World) : Calls Tryd.prog 54 #[.int .i64 x] w fun e w' => e = .returned (.bool (numB x)) ∧ w = w' := by
  by_cases h0 : 0 ≤ x
  · by_cases h1 : x ≤ 1073741824
    · have HT : Hid (numB x = true) := by simp [Hid, numB, h0, h1]
      go_enter Tryd.func54, Tryd.ntmps54
      go_wp2
      go_ret
      rw [HT.out]
      exact ⟨by simp [h0, h1], rfl⟩
    · have HT : Hid (numB x = false) := by simp [Hid, numB, h1]
      go_enter Tryd.func54, Tryd.ntmps54
      go_wp2
      go_ret
      rw [HT.out]
      exact ⟨by simp [h0, h1], rfl⟩
  · have HT : Hid (numB x = false) := by simp [Hid, numB, h0]
    go_enter Tryd.func54, Tryd.ntmps54
    go_wp2
    go_ret
    rw [HT.out]
    exact ⟨by simp [h0], rfl⟩

/-- An operation without its own fields. -/
def bareM (x : OpR) : OpR where
  k := x.k
  p := x.p
  t := if 4 ≤ x.k ∧ x.k ≤ 7 then 0 else x.t
  n := if 2 ≤ x.k ∧ x.k ≤ 9 then 0 else x.n
  a := if x.k = 7 ∨ x.k = 9 then 0 else x.a
  m := if x.k = 7 then 0 else x.m
  u := if x.k < 2 then ⟨#[]⟩ else x.u
  v := if x.k = 0 then ⟨#[]⟩ else x.v

set_option maxHeartbeats 4000000 in
set_option maxRecDepth 100000 in
theorem bare_any (x : OpR) (h0 : 0 ≤ x.k) (h13 : x.k < 13) (w : World) :
    Calls Tryd.prog 55 #[.agg x.cells] w fun e w' => e = .returned (.agg (bareM x).cells) ∧ Below w.heap.size w w' := by
  obtain ⟨k, p, t, n, a, m, u, v⟩ := x
  simp only at h0 h13
  have HG : ∀ (y : OpR), ((w.alloc (.cells y.cells 30)).alloc (.cells y.cells 30)).heap[w.heap.size + 1]? = some (.cells y.cells 30 (0, 0)) := fun y => by
    have h := World.alloc_heap_new (w.alloc (.cells y.cells 30)) (.cells y.cells 30)
    rw [show (w.alloc (.cells y.cells 30)).heap.size = w.heap.size + 1 by simp] at h
    exact h
  have HI : (Tryd.prog.info? 30).map (·.size) = some 8 := by kernel_rfl
  have HGH := Lib.hid HG
  have HIH := Lib.hid HI
  clear HG HI
  rcases thirteen h0 h13 with rfl | rfl | rfl | rfl | rfl | rfl | rfl | rfl | rfl | rfl | rfl | rfl | rfl <;> clear h0 h13
  · show Calls Tryd.prog 55 #[.agg #[.int .i64 0, .int .i64 p, .int .i64 t, .int .i64 n, .int .i64 a, .int .i64 m, .string u, .string v]] w _
    go_enter Tryd.func55, Tryd.ntmps55
    go_wp2
    refine bodyPost_ret (results_cell_row rfl _ _ (w.heap.size + 1) 30 (bareM ⟨0, p, t, n, a, m, u, v⟩).cells (0, 0) _ rfl (HGH.out (bareM ⟨0, p, t, n, a, m, u, v⟩)) Tryd.underlying30 rfl HIH.out) rfl ?_
    exact ⟨rfl, ((Below.refl _ _).alloc (Nat.le_refl _) _).alloc (by simp) _⟩
  · show Calls Tryd.prog 55 #[.agg #[.int .i64 1, .int .i64 p, .int .i64 t, .int .i64 n, .int .i64 a, .int .i64 m, .string u, .string v]] w _
    go_enter Tryd.func55, Tryd.ntmps55
    go_wp2
    refine bodyPost_ret (results_cell_row rfl _ _ (w.heap.size + 1) 30 (bareM ⟨1, p, t, n, a, m, u, v⟩).cells (0, 0) _ rfl (HGH.out (bareM ⟨1, p, t, n, a, m, u, v⟩)) Tryd.underlying30 rfl HIH.out) rfl ?_
    exact ⟨rfl, ((Below.refl _ _).alloc (Nat.le_refl _) _).alloc (by simp) _⟩
  · show Calls Tryd.prog 55 #[.agg #[.int .i64 2, .int .i64 p, .int .i64 t, .int .i64 n, .int .i64 a, .int .i64 m, .string u, .string v]] w _
    go_enter Tryd.func55, Tryd.ntmps55
    go_wp2
    refine bodyPost_ret (results_cell_row rfl _ _ (w.heap.size + 1) 30 (bareM ⟨2, p, t, n, a, m, u, v⟩).cells (0, 0) _ rfl (HGH.out (bareM ⟨2, p, t, n, a, m, u, v⟩)) Tryd.underlying30 rfl HIH.out) rfl ?_
    exact ⟨rfl, ((Below.refl _ _).alloc (Nat.le_refl _) _).alloc (by simp) _⟩
  · show Calls Tryd.prog 55 #[.agg #[.int .i64 3, .int .i64 p, .int .i64 t, .int .i64 n, .int .i64 a, .int .i64 m, .string u, .string v]] w _
    go_enter Tryd.func55, Tryd.ntmps55
    go_wp2
    refine bodyPost_ret (results_cell_row rfl _ _ (w.heap.size + 1) 30 (bareM ⟨3, p, t, n, a, m, u, v⟩).cells (0, 0) _ rfl (HGH.out (bareM ⟨3, p, t, n, a, m, u, v⟩)) Tryd.underlying30 rfl HIH.out) rfl ?_
    exact ⟨rfl, ((Below.refl _ _).alloc (Nat.le_refl _) _).alloc (by simp) _⟩
  · show Calls Tryd.prog 55 #[.agg #[.int .i64 4, .int .i64 p, .int .i64 t, .int .i64 n, .int .i64 a, .int .i64 m, .string u, .string v]] w _
    go_enter Tryd.func55, Tryd.ntmps55
    go_wp2
    refine bodyPost_ret (results_cell_row rfl _ _ (w.heap.size + 1) 30 (bareM ⟨4, p, t, n, a, m, u, v⟩).cells (0, 0) _ rfl (HGH.out (bareM ⟨4, p, t, n, a, m, u, v⟩)) Tryd.underlying30 rfl HIH.out) rfl ?_
    exact ⟨rfl, ((Below.refl _ _).alloc (Nat.le_refl _) _).alloc (by simp) _⟩
  · show Calls Tryd.prog 55 #[.agg #[.int .i64 5, .int .i64 p, .int .i64 t, .int .i64 n, .int .i64 a, .int .i64 m, .string u, .string v]] w _
    go_enter Tryd.func55, Tryd.ntmps55
    go_wp2
    refine bodyPost_ret (results_cell_row rfl _ _ (w.heap.size + 1) 30 (bareM ⟨5, p, t, n, a, m, u, v⟩).cells (0, 0) _ rfl (HGH.out (bareM ⟨5, p, t, n, a, m, u, v⟩)) Tryd.underlying30 rfl HIH.out) rfl ?_
    exact ⟨rfl, ((Below.refl _ _).alloc (Nat.le_refl _) _).alloc (by simp) _⟩
  · show Calls Tryd.prog 55 #[.agg #[.int .i64 6, .int .i64 p, .int .i64 t, .int .i64 n, .int .i64 a, .int .i64 m, .string u, .string v]] w _
    go_enter Tryd.func55, Tryd.ntmps55
    go_wp2
    refine bodyPost_ret (results_cell_row rfl _ _ (w.heap.size + 1) 30 (bareM ⟨6, p, t, n, a, m, u, v⟩).cells (0, 0) _ rfl (HGH.out (bareM ⟨6, p, t, n, a, m, u, v⟩)) Tryd.underlying30 rfl HIH.out) rfl ?_
    exact ⟨rfl, ((Below.refl _ _).alloc (Nat.le_refl _) _).alloc (by simp) _⟩
  · show Calls Tryd.prog 55 #[.agg #[.int .i64 7, .int .i64 p, .int .i64 t, .int .i64 n, .int .i64 a, .int .i64 m, .string u, .string v]] w _
    go_enter Tryd.func55, Tryd.ntmps55
    go_wp2
    refine bodyPost_ret (results_cell_row rfl _ _ (w.heap.size + 1) 30 (bareM ⟨7, p, t, n, a, m, u, v⟩).cells (0, 0) _ rfl (HGH.out (bareM ⟨7, p, t, n, a, m, u, v⟩)) Tryd.underlying30 rfl HIH.out) rfl ?_
    exact ⟨rfl, ((Below.refl _ _).alloc (Nat.le_refl _) _).alloc (by simp) _⟩
  · show Calls Tryd.prog 55 #[.agg #[.int .i64 8, .int .i64 p, .int .i64 t, .int .i64 n, .int .i64 a, .int .i64 m, .string u, .string v]] w _
    go_enter Tryd.func55, Tryd.ntmps55
    go_wp2
    refine bodyPost_ret (results_cell_row rfl _ _ (w.heap.size + 1) 30 (bareM ⟨8, p, t, n, a, m, u, v⟩).cells (0, 0) _ rfl (HGH.out (bareM ⟨8, p, t, n, a, m, u, v⟩)) Tryd.underlying30 rfl HIH.out) rfl ?_
    exact ⟨rfl, ((Below.refl _ _).alloc (Nat.le_refl _) _).alloc (by simp) _⟩
  · show Calls Tryd.prog 55 #[.agg #[.int .i64 9, .int .i64 p, .int .i64 t, .int .i64 n, .int .i64 a, .int .i64 m, .string u, .string v]] w _
    go_enter Tryd.func55, Tryd.ntmps55
    go_wp2
    refine bodyPost_ret (results_cell_row rfl _ _ (w.heap.size + 1) 30 (bareM ⟨9, p, t, n, a, m, u, v⟩).cells (0, 0) _ rfl (HGH.out (bareM ⟨9, p, t, n, a, m, u, v⟩)) Tryd.underlying30 rfl HIH.out) rfl ?_
    exact ⟨rfl, ((Below.refl _ _).alloc (Nat.le_refl _) _).alloc (by simp) _⟩
  · show Calls Tryd.prog 55 #[.agg #[.int .i64 10, .int .i64 p, .int .i64 t, .int .i64 n, .int .i64 a, .int .i64 m, .string u, .string v]] w _
    go_enter Tryd.func55, Tryd.ntmps55
    go_wp2
    refine bodyPost_ret (results_cell_row rfl _ _ (w.heap.size + 1) 30 (bareM ⟨10, p, t, n, a, m, u, v⟩).cells (0, 0) _ rfl (HGH.out (bareM ⟨10, p, t, n, a, m, u, v⟩)) Tryd.underlying30 rfl HIH.out) rfl ?_
    exact ⟨rfl, ((Below.refl _ _).alloc (Nat.le_refl _) _).alloc (by simp) _⟩
  · show Calls Tryd.prog 55 #[.agg #[.int .i64 11, .int .i64 p, .int .i64 t, .int .i64 n, .int .i64 a, .int .i64 m, .string u, .string v]] w _
    go_enter Tryd.func55, Tryd.ntmps55
    go_wp2
    refine bodyPost_ret (results_cell_row rfl _ _ (w.heap.size + 1) 30 (bareM ⟨11, p, t, n, a, m, u, v⟩).cells (0, 0) _ rfl (HGH.out (bareM ⟨11, p, t, n, a, m, u, v⟩)) Tryd.underlying30 rfl HIH.out) rfl ?_
    exact ⟨rfl, ((Below.refl _ _).alloc (Nat.le_refl _) _).alloc (by simp) _⟩
  · show Calls Tryd.prog 55 #[.agg #[.int .i64 12, .int .i64 p, .int .i64 t, .int .i64 n, .int .i64 a, .int .i64 m, .string u, .string v]] w _
    go_enter Tryd.func55, Tryd.ntmps55
    go_wp2
    refine bodyPost_ret (results_cell_row rfl _ _ (w.heap.size + 1) 30 (bareM ⟨12, p, t, n, a, m, u, v⟩).cells (0, 0) _ rfl (HGH.out (bareM ⟨12, p, t, n, a, m, u, v⟩)) Tryd.underlying30 rfl HIH.out) rfl ?_
    exact ⟨rfl, ((Below.refl _ _).alloc (Nat.le_refl _) _).alloc (by simp) _⟩

theorem part_int (w : World) (cs : Array Value) (o : Nat) (v : Value) (h : cs[o]? = some v) : (part 3 cs o).run Tryd.prog w = .ok v w := by
  have ha : (isAgg 3).run Tryd.prog w = .ok false w := by kernel_rfl
  simp [part, Sem.run_bind, ha, h, Result.andThen]
theorem part_str (w : World) (cs : Array Value) (o : Nat) (v : Value) (h : cs[o]? = some v) : (part 9 cs o).run Tryd.prog w = .ok v w := by
  have ha : (isAgg 9).run Tryd.prog w = .ok false w := by kernel_rfl
  simp [part, Sem.run_bind, ha, h, Result.andThen]

def opEq (y x : OpR) : Bool := (y.k == x.k) && ((y.p == x.p) && ((y.t == x.t) && ((y.n == x.n) && ((y.a == x.a) && ((y.m == x.m) && ((y.u.toList == x.u.toList) && (y.v.toList == x.v.toList)))))))
set_option maxRecDepth 100000 in
theorem op_equal (w : World) (y x : OpR) : (Op.equalIn (9999 + 1) 30 (.agg y.cells) (.agg x.cells)).run Tryd.prog w = .ok (opEq y x) w := by
  refine eqA_of Tryd.underlying30 (by kernel_rfl) ?_
  refine eqf_cons (by decide) (part_int w _ _ _ rfl) (part_int w _ _ _ rfl) (run_equalIn_int w 9998 _ _ _ _ _ Tryd.underlying3) ?_
  refine eqf_cons (by decide) (part_int w _ _ _ rfl) (part_int w _ _ _ rfl) (run_equalIn_int w 9998 _ _ _ _ _ Tryd.underlying3) ?_
  refine eqf_cons (by decide) (part_int w _ _ _ rfl) (part_int w _ _ _ rfl) (run_equalIn_int w 9998 _ _ _ _ _ Tryd.underlying3) ?_
  refine eqf_cons (by decide) (part_int w _ _ _ rfl) (part_int w _ _ _ rfl) (run_equalIn_int w 9998 _ _ _ _ _ Tryd.underlying3) ?_
  refine eqf_cons (by decide) (part_int w _ _ _ rfl) (part_int w _ _ _ rfl) (run_equalIn_int w 9998 _ _ _ _ _ Tryd.underlying3) ?_
  refine eqf_cons (by decide) (part_int w _ _ _ rfl) (part_int w _ _ _ rfl) (run_equalIn_int w 9998 _ _ _ _ _ Tryd.underlying3) ?_
  refine eqf_cons (by decide) (part_str w _ _ _ rfl) (part_str w _ _ _ rfl) (run_equalIn_string w 9998 _ _ _ Tryd.underlying9) ?_
  exact eqf_last (by decide) (part_str w _ _ _ rfl) (part_str w _ _ _ rfl) (run_equalIn_string w 9998 _ _ _ Tryd.underlying9)
end Go.Proofs.YtjmfdacnaodfdaaDoor

namespace Go.Proofs.YtjmfdacnaodfdaaDoor
set_option linter.unusedVariables false
set_option linter.unusedSimpArgs false
open Go.RowKit

def plainOp (k p : Int) : OpR := ⟨k, p, 0, 0, 0, 0, ⟨#[]⟩, ⟨#[]⟩⟩
def rcheckM (x : OpR) : Int :=
  if x.k < 0 ∨ 12 < x.k then 15 else if x.p < 0 ∨ 63 < x.p ∨ x.t < 0 ∨ 63 < x.t then 11
  else if (numB x.n && numB x.a && numB x.m) = false then 12
  else if 255 < (x.u.size : Int) ∨ 255 < (x.v.size : Int) then 2 else if opEq (bareM x) (plainOp x.k x.p) = false then 7 else 0

set_option maxHeartbeats 4000000 in
set_option maxRecDepth 100000 in
theorem rcheck_any (x : OpR) (w : World) :
    Calls Tryd.prog 27 #[.agg x.cells] w fun e w' => e = .returned (.int .i64 (rcheckM x)) ∧ Below w.heap.size w w' := by
  have hcm : rcheckM x = if x.k < 0 ∨ 12 < x.k then 15 else if x.p < 0 ∨ 63 < x.p ∨ x.t < 0 ∨ 63 < x.t then 11
    else if (numB x.n && numB x.a && numB x.m) = false then 12
    else if 255 < (x.u.size : Int) ∨ 255 < (x.v.size : Int) then 2 else if opEq (bareM x) (plainOp x.k x.p) = false then 7 else 0 := rfl
  have HCM := Lib.hid hcm
  have HBR := Lib.hid (fun (h0 : 0 ≤ x.k) (h13 : x.k < 13) (w' : World) => bare_any x h0 h13 w')
  have HEQ := Lib.hid (fun w' => op_equal w' (bareM x) (plainOp x.k x.p))
  obtain ⟨BC, hBC⟩ : ∃ b, (bareM x).cells = b := ⟨_, rfl⟩
  obtain ⟨bq, hbq⟩ : ∃ b, opEq (bareM x) (plainOp x.k x.p) = b := ⟨_, rfl⟩
  rw [hBC] at HBR HEQ
  rw [hbq] at HCM HEQ
  clear hcm hBC hbq
  obtain ⟨k, p, t, n, a, m, u, v⟩ := x
  obtain ⟨w1, hw1⟩ : ∃ W, w.alloc (.cells #[.int .i64 k, .int .i64 p, .int .i64 t, .int .i64 n, .int .i64 a, .int .i64 m, .string u, .string v] 30) = W := ⟨_, rfl⟩
  have hbl : w1.heap[w.heap.size]? = some (.cells #[.int .i64 k, .int .i64 p, .int .i64 t, .int .i64 n, .int .i64 a, .int .i64 m, .string u, .string v] 30 (0, 0)) := by rw [← hw1]; exact World.alloc_heap_new _ _
  have hb1 : Below w.heap.size w w1 := by rw [← hw1]; exact (Below.refl _ _).alloc (Nat.le_refl _) _
  have c0 : w1.cell? ⟨w.heap.size, 0, none⟩ = some (.int .i64 k) := by simp [World.cell?, hbl]
  have c1 : w1.cell? ⟨w.heap.size, 1, none⟩ = some (.int .i64 p) := by simp [World.cell?, hbl]
  have c2 : w1.cell? ⟨w.heap.size, 2, none⟩ = some (.int .i64 t) := by simp [World.cell?, hbl]
  have c3 : w1.cell? ⟨w.heap.size, 3, none⟩ = some (.int .i64 n) := by simp [World.cell?, hbl]
  have c4 : w1.cell? ⟨w.heap.size, 4, none⟩ = some (.int .i64 a) := by simp [World.cell?, hbl]
  have c5 : w1.cell? ⟨w.heap.size, 5, none⟩ = some (.int .i64 m) := by simp [World.cell?, hbl]
  have c6 : w1.cell? ⟨w.heap.size, 6, none⟩ = some (.string u) := by simp [World.cell?, hbl]
  have c7 : w1.cell? ⟨w.heap.size, 7, none⟩ = some (.string v) := by simp [World.cell?, hbl]
  have HB1 := Lib.hid hb1
  have HC0 := Lib.hid c0
  have HC1 := Lib.hid c1
  clear hbl hb1
  show Calls Tryd.prog 27 #[.agg #[.int .i64 k, .int .i64 p, .int .i64 t, .int .i64 n, .int .i64 a, .int .i64 m, .string u, .string v]] w _
  simp only at HCM HBR HEQ
  obtain ⟨R, hR⟩ : ∃ R, rcheckM ⟨k, p, t, n, a, m, u, v⟩ = R := ⟨_, rfl⟩
  rw [hR] at HCM ⊢
  clear hR
  obtain ⟨bn, ebn⟩ : ∃ b, numB n = b := ⟨_, rfl⟩
  have Hbn := Lib.hid (rnum_any n w1)
  rw [ebn] at HCM Hbn
  obtain ⟨ba, eba⟩ : ∃ b, numB a = b := ⟨_, rfl⟩
  have Hba := Lib.hid (rnum_any a w1)
  rw [eba] at HCM Hba
  obtain ⟨bm, ebm⟩ : ∃ b, numB m = b := ⟨_, rfl⟩
  have Hbm := Lib.hid (rnum_any m w1)
  rw [ebm] at HCM Hbm
  clear ebn eba ebm
  by_cases hk0 : k < 0
  · have HR : Hid (R = 15) := by rw [HCM.out]; simp [hk0, Hid]
    go_enter Tryd.func27, Tryd.ntmps27
    go_wp2_with fail
    go_ret
    exact ⟨by rw [HR.out]; rfl, HB1.out⟩
  by_cases hk1 : 12 < k
  · have HR : Hid (R = 15) := by rw [HCM.out]; simp [hk0, hk1, Hid]
    go_enter Tryd.func27, Tryd.ntmps27
    go_wp2_with fail
    go_ret
    exact ⟨by rw [HR.out]; rfl, HB1.out⟩
  by_cases hp0 : p < 0
  · have HR : Hid (R = 11) := by rw [HCM.out]; simp [hk0, hk1, hp0, Hid]
    go_enter Tryd.func27, Tryd.ntmps27
    go_wp2_with fail
    go_ret
    exact ⟨by rw [HR.out]; rfl, HB1.out⟩
  by_cases hp1 : 63 < p
  · have HR : Hid (R = 11) := by rw [HCM.out]; simp [hk0, hk1, hp0, hp1, Hid]
    go_enter Tryd.func27, Tryd.ntmps27
    go_wp2_with fail
    go_ret
    exact ⟨by rw [HR.out]; rfl, HB1.out⟩
  by_cases ht0 : t < 0
  · have HR : Hid (R = 11) := by rw [HCM.out]; simp [hk0, hk1, hp0, hp1, ht0, Hid]
    go_enter Tryd.func27, Tryd.ntmps27
    go_wp2_with fail
    go_ret
    exact ⟨by rw [HR.out]; rfl, HB1.out⟩
  by_cases ht1 : 63 < t
  · have HR : Hid (R = 11) := by rw [HCM.out]; simp [hk0, hk1, hp0, hp1, ht0, ht1, Hid]
    go_enter Tryd.func27, Tryd.ntmps27
    go_wp2_with fail
    go_ret
    exact ⟨by rw [HR.out]; rfl, HB1.out⟩
  have HS : Hid (R = if (bn && ba && bm) = false then 12 else if 255 < (u.size : Int) ∨ 255 < (v.size : Int) then 2 else if bq = false then 7 else 0) := by rw [HCM.out]; simp [hk0, hk1, hp0, hp1, ht0, ht1, Hid]
  have HK0 : Hid (0 ≤ k ∧ k < 13) := ⟨by omega, by omega⟩
  have HBB : Hid (∀ w', Below w1.heap.size w1 w' → Calls Tryd.prog 55 #[.agg #[.int .i64 k, .int .i64 p, .int .i64 t, .int .i64 n, .int .i64 a, .int .i64 m, .string u, .string v]] w' fun e w'' => e = .returned (.agg BC) ∧ Below w1.heap.size w1 w'') := fun w' hb => (HBR.out HK0.out.1 HK0.out.2 w').mono fun e w'' h => ⟨h.1, hb.trans (h.2.mono hb.size)⟩
  have HCELL : Hid (∀ w', Below w1.heap.size w1 w' → Below w1.heap.size w1 w' ∧ w'.cell? ⟨w.heap.size, 0, none⟩ = some (.int .i64 k) ∧ w'.cell? ⟨w.heap.size, 1, none⟩ = some (.int .i64 p) ∧ w'.cell? ⟨w.heap.size, 2, none⟩ = some (.int .i64 t) ∧ w'.cell? ⟨w.heap.size, 3, none⟩ = some (.int .i64 n) ∧ w'.cell? ⟨w.heap.size, 4, none⟩ = some (.int .i64 a) ∧ w'.cell? ⟨w.heap.size, 5, none⟩ = some (.int .i64 m) ∧ w'.cell? ⟨w.heap.size, 6, none⟩ = some (.string u) ∧ w'.cell? ⟨w.heap.size, 7, none⟩ = some (.string v)) := fun w' hb => ⟨hb, cell_below hb c0, cell_below hb c1, cell_below hb c2, cell_below hb c3, cell_below hb c4, cell_below hb c5, cell_below hb c6, cell_below hb c7⟩
  clear HCM HBR
  by_cases hu : 255 < (u.size : Int)
  · have HR : Hid (R = if (bn && ba && bm) = false then 12 else 2) := by rw [HS.out]; simp [hu, Hid]
    clear HS
    go_enter Tryd.func27, Tryd.ntmps27
    go_wp2_with fail
    refine Hbn.out.mono ?_
    rintro e w' ⟨rfl, rfl⟩
    cases bn with
    | false =>
      go_wp2_with fail
      go_ret
      exact ⟨by rw [HR.out]; rfl, HB1.out⟩
    | true =>
      go_wp2_with fail
      refine Hba.out.mono ?_
      rintro e w' ⟨rfl, rfl⟩
      cases ba with
      | false =>
        go_wp2_with fail
        go_ret
        exact ⟨by rw [HR.out]; rfl, HB1.out⟩
      | true =>
        go_wp2_with fail
        refine Hbm.out.mono ?_
        rintro e w' ⟨rfl, rfl⟩
        cases bm with
        | false =>
          go_wp2_with fail
          go_ret
          exact ⟨by rw [HR.out]; rfl, HB1.out⟩
        | true =>
          go_wp2_with fail
          go_ret
          exact ⟨by rw [HR.out]; rfl, HB1.out⟩
  by_cases hv : 255 < (v.size : Int)
  · have HR : Hid (R = if (bn && ba && bm) = false then 12 else 2) := by rw [HS.out]; simp [hu, hv, Hid]
    clear HS
    go_enter Tryd.func27, Tryd.ntmps27
    go_wp2_with fail
    refine Hbn.out.mono ?_
    rintro e w' ⟨rfl, rfl⟩
    cases bn with
    | false =>
      go_wp2_with fail
      go_ret
      exact ⟨by rw [HR.out]; rfl, HB1.out⟩
    | true =>
      go_wp2_with fail
      refine Hba.out.mono ?_
      rintro e w' ⟨rfl, rfl⟩
      cases ba with
      | false =>
        go_wp2_with fail
        go_ret
        exact ⟨by rw [HR.out]; rfl, HB1.out⟩
      | true =>
        go_wp2_with fail
        refine Hbm.out.mono ?_
        rintro e w' ⟨rfl, rfl⟩
        cases bm with
        | false =>
          go_wp2_with fail
          go_ret
          exact ⟨by rw [HR.out]; rfl, HB1.out⟩
        | true =>
          go_wp2_with fail
          go_ret
          exact ⟨by rw [HR.out]; rfl, HB1.out⟩
  have HR : Hid (R = if (bn && ba && bm) = false then 12 else if bq = false then 7 else 0) := by rw [HS.out]; simp [hu, hv, Hid]
  clear HS
  go_enter Tryd.func27, Tryd.ntmps27
  go_wp2_with fail
  refine Hbn.out.mono ?_
  rintro e w' ⟨rfl, rfl⟩
  cases bn with
  | false =>
    go_wp2_with fail
    go_ret
    exact ⟨by rw [HR.out]; rfl, HB1.out⟩
  | true =>
    go_wp2_with fail
    refine Hba.out.mono ?_
    rintro e w' ⟨rfl, rfl⟩
    cases ba with
    | false =>
      go_wp2_with fail
      go_ret
      exact ⟨by rw [HR.out]; rfl, HB1.out⟩
    | true =>
      go_wp2_with fail
      refine Hbm.out.mono ?_
      rintro e w' ⟨rfl, rfl⟩
      cases bm with
      | false =>
        go_wp2_with fail
        go_ret
        exact ⟨by rw [HR.out]; rfl, HB1.out⟩
      | true =>
        go_wp2_with fail
        have heq : ∀ w', (Op.equalIn 10000 30 (.agg BC) (.agg #[.int .i64 k, .int .i64 p, .int .i64 0, .int .i64 0, .int .i64 0, .int .i64 0, .string ⟨#[]⟩, .string ⟨#[]⟩])).run Tryd.prog w' = .ok bq w' := fun w' => HEQ.out w'
        go_cut [62] (fun t wc => t = .bool (!bq) ∧ Hid (Below w1.heap.size w1 wc))
        case first =>
          go_region_held3 (fun w' => Below w1.heap.size w1 w' ∧ w'.cell? ⟨w.heap.size, 0, none⟩ = some (.int .i64 k) ∧ w'.cell? ⟨w.heap.size, 1, none⟩ = some (.int .i64 p) ∧ w'.cell? ⟨w.heap.size, 2, none⟩ = some (.int .i64 t) ∧ w'.cell? ⟨w.heap.size, 3, none⟩ = some (.int .i64 n) ∧ w'.cell? ⟨w.heap.size, 4, none⟩ = some (.int .i64 a) ∧ w'.cell? ⟨w.heap.size, 5, none⟩ = some (.int .i64 m) ∧ w'.cell? ⟨w.heap.size, 6, none⟩ = some (.string u) ∧ w'.cell? ⟨w.heap.size, 7, none⟩ = some (.string v))
            (first | exact HCELL.out _ (by assumption) | exact HCELL.out _ (Below.refl _ _).drew | exact HCELL.out _ (Below.refl _ _) | (go_split_ands; exact HCELL.out _ (by assumption)))
            (first | (go_at_call 55; refine (HBB.out _ ?_).mono ?_; (first | assumption | exact (Below.refl _ _).drew | exact Below.refl _ _ | (go_split_ands; assumption)); rintro e w' ⟨rfl, hq⟩))
          all_goals
            go_wp2_with fail
            go_meet
            exact ⟨rfl, Lib.hid (by assumption)⟩
        case rest =>
          obtain ⟨rfl, HBY⟩ := hcut
          cases bq with
          | false =>
            go_wp2_with fail
            go_ret
            exact ⟨by rw [HR.out]; rfl, HB1.out.trans (HBY.out.mono HB1.out.size)⟩
          | true =>
            go_wp2_with fail
            go_ret
            exact ⟨by rw [HR.out]; rfl, HB1.out.trans (HBY.out.mono HB1.out.size)⟩
end Go.Proofs.YtjmfdacnaodfdaaDoor

namespace Go.Proofs.YtjmfdacnaodfdaaDoor
set_option linter.unusedVariables false
set_option linter.unusedSimpArgs false

theorem spareB_lit (b0 b1 b2 b3 b4 b5 : Bool) : ∀ k : Fin 13, spareB (bools6 b0 b1 b2 b3 b4 b5) k = !((if 4 ≤ k.val ∧ k.val ≤ 7 then true else !b0) && ((if 2 ≤ k.val ∧ k.val ≤ 9 then true else !b1) && ((if k.val = 7 ∨ k.val = 9 then true else !b2) && ((if k.val = 7 then true else !b3) && ((if k.val < 2 then true else !b4) && (if k.val = 0 then true else !b5)))))) := by
  revert b0 b1 b2 b3 b4 b5
  decide +kernel

theorem empty_toList : (⟨#[]⟩ : ByteArray).toList = [] := by decide +kernel
theorem spare_opEq (x : OpR) (h0 : 0 ≤ x.k) (h13 : x.k < 13) : opEq (bareM x) (plainOp x.k x.p) = !(spareM x) := by
  obtain ⟨k, p, t, n, a, m, u, v⟩ := x
  simp only at h0 h13
  obtain ⟨K, rfl⟩ := Int.eq_ofNat_of_zero_le h0
  have hK : K < 13 := by omega
  have h := spareB_lit (t != 0) (n != 0) (a != 0) (m != 0) (!u.toList.isEmpty) (!v.toList.isEmpty) ⟨K, hK⟩
  simp only [spareM, Int.toNat_natCast]
  rw [h, Bool.not_not]
  simp only [opEq, bareM, plainOp, empty_toList, beq_self_eq_true, Bool.true_and]
  have e1 : ((if 4 ≤ (K : Int) ∧ (K : Int) ≤ 7 then 0 else t) == 0) = (if 4 ≤ K ∧ K ≤ 7 then true else !(t != 0)) := by
    by_cases hc : 4 ≤ K ∧ K ≤ 7
    · rw [if_pos hc, if_pos (by omega)]; rfl
    · rw [if_neg hc, if_neg (by omega)]; simp [bne]
  have e2 : ((if 2 ≤ (K : Int) ∧ (K : Int) ≤ 9 then 0 else n) == 0) = (if 2 ≤ K ∧ K ≤ 9 then true else !(n != 0)) := by
    by_cases hc : 2 ≤ K ∧ K ≤ 9
    · rw [if_pos hc, if_pos (by omega)]; rfl
    · rw [if_neg hc, if_neg (by omega)]; simp [bne]
  have e3 : ((if (K : Int) = 7 ∨ (K : Int) = 9 then 0 else a) == 0) = (if K = 7 ∨ K = 9 then true else !(a != 0)) := by
    by_cases hc : K = 7 ∨ K = 9
    · rw [if_pos hc, if_pos (by omega)]; rfl
    · rw [if_neg hc, if_neg (by omega)]; simp [bne]
  have e4 : ((if (K : Int) = 7 then 0 else m) == 0) = (if K = 7 then true else !(m != 0)) := by
    by_cases hc : K = 7
    · rw [if_pos hc, if_pos (by omega)]; rfl
    · rw [if_neg hc, if_neg (by omega)]; simp [bne]
  have e5 : (ByteArray.toList (if (K : Int) < 2 then ⟨#[]⟩ else u) == []) = (if K < 2 then true else !(!u.toList.isEmpty)) := by
    by_cases hc : K < 2
    · rw [if_pos hc, if_pos (by omega), empty_toList]; rfl
    · rw [if_neg hc, if_neg (by omega), Bool.not_not]; cases u.toList <;> rfl
  have e6 : (ByteArray.toList (if (K : Int) = 0 then ⟨#[]⟩ else v) == []) = (if K = 0 then true else !(!v.toList.isEmpty)) := by
    by_cases hc : K = 0
    · rw [if_pos hc, if_pos (by omega), empty_toList]; rfl
    · rw [if_neg hc, if_neg (by omega), Bool.not_not]; cases v.toList <;> rfl
  rw [e1, e2, e3, e4, e5, e6]

theorem rcheck_eq (x : OpR) : rcheckM x = checkM x := by
  unfold rcheckM checkM
  by_cases h1 : x.k < 0 ∨ 12 < x.k
  · rw [if_pos h1, if_pos (c := kindB x.k = false) (by simp [kindB]; omega)]
  · rw [if_neg h1, if_neg (c := kindB x.k = false) (by simp [kindB]; omega)]
    by_cases h2 : x.p < 0 ∨ 63 < x.p ∨ x.t < 0 ∨ 63 < x.t
    · rw [if_pos h2, if_pos (c := (peerB x.p && peerB x.t) = false) (by simp [peerB]; omega)]
    · rw [if_neg h2, if_neg (c := (peerB x.p && peerB x.t) = false) (by simp [peerB]; omega)]
      by_cases h3 : (numB x.n && numB x.a && numB x.m) = false
      · rw [if_pos h3, if_pos h3]
      · rw [if_neg h3, if_neg h3]
        by_cases h4 : 255 < (x.u.size : Int) ∨ 255 < (x.v.size : Int)
        · rw [if_pos h4, if_pos (c := (textB x.u && textB x.v) = false) (by simp [textB]; omega)]
        · rw [if_neg h4, if_neg (c := (textB x.u && textB x.v) = false) (by simp [textB]; omega)]
          rw [spare_opEq x (by omega) (by omega)]
          cases spareM x <;> rfl
end Go.Proofs.YtjmfdacnaodfdaaDoor

namespace Go.Proofs.YtjmfdacnaodfdaaDoor
set_option linter.unusedVariables false
set_option linter.unusedSimpArgs false
open Go.RowKit

theorem check_zero' (x : OpR) (h : checkM x = 0) : (0 ≤ x.k ∧ x.k < 13) ∧ (0 ≤ x.p ∧ x.p ≤ 63 ∧ 0 ≤ x.t ∧ x.t ≤ 63) ∧ (0 ≤ x.n ∧ x.n ≤ 1073741824 ∧ 0 ≤ x.a ∧ x.a ≤ 1073741824 ∧ 0 ≤ x.m ∧ x.m ≤ 1073741824) ∧ x.u.size ≤ 255 ∧ x.v.size ≤ 255 ∧ spareM x = false := by
  unfold checkM at h
  split at h
  · omega
  rename_i h1
  split at h
  · omega
  rename_i h2
  split at h
  · omega
  rename_i h3
  split at h
  · omega
  rename_i h4
  split at h
  · omega
  rename_i h5
  simp only [kindB, peerB, numB, textB, Bool.not_eq_false, Bool.and_eq_true, decide_eq_true_eq, Bool.not_eq_true] at h1 h2 h3 h4 h5
  refine ⟨by omega, by omega, by omega, by omega, by omega, h5⟩

/-- An operation's fields by their places. -/
def OpR.numA (x : OpR) (i : Nat) : Int := [x.k, x.p, x.t, x.n, x.a, x.m].getD i 0
def OpR.textA (x : OpR) (i : Nat) : List UInt8 := if i = 6 then x.u.data.toList else x.v.data.toList
/-- Has kind K the field of bit i? -/
def fbit (K i : Nat) : Bool := (fieldsTab.getD K 0).toNat.testBit i
def Wr.nums (r : Wr) (x : OpR) (K : Nat) : Nat → Wr
  | 0 => r
  | i + 1 => if fbit K i = true then (r.nums x K i).num (x.numA (2 + i)) else r.nums x K i
def Wr.txts (r : Wr) (x : OpR) (K : Nat) : Nat → Wr
  | 0 => r
  | i + 1 => if fbit K (4 + i) = true then (r.txts x K i).txt (x.textA (6 + i)) else r.txts x K i
def Wr.body (r : Wr) (x : OpR) : Wr := ((((r.num x.k).num x.p).nums x x.k.toNat 4).txts x x.k.toNat 2)
def Wr.op (r : Wr) (x : OpR) : Wr := if checkM x = 0 then r.body x else r.fail (checkM x)

theorem Wr.put_stop (r : Wr) (h : r.e ≠ 0) (is : Bool) (s : List UInt8) : r.put is s = r := by unfold Wr.put; rw [if_pos h]
theorem Wr.num_stop (r : Wr) (h : r.e ≠ 0) (n : Int) : r.num n = r := r.put_stop h _ _
theorem Wr.txt_stop (r : Wr) (h : r.e ≠ 0) (t : List UInt8) : r.txt t = r := r.put_stop h _ _
theorem Wr.fail_ne (r : Wr) (f : Int) (h : f ≠ 0) : (r.fail f).e ≠ 0 := by
  unfold Wr.fail
  split
  · exact h
  · assumption
theorem Wr.fail_zero (r : Wr) : r.fail 0 = r := by
  unfold Wr.fail
  split
  · rename_i h
    obtain ⟨l, e⟩ := r
    simp only at h
    rw [h]
  · rfl
theorem Wr.num_len (r : Wr) (n : Int) : (r.num n).l.length ≤ r.l.length + 5 := by
  have := r.put_len (decide (0 ≤ n ∧ n ≤ 1073741824)) (putM n)
  have := putM_len n
  unfold Wr.num
  omega
theorem Wr.txt_len (r : Wr) (t : List UInt8) : (r.txt t).l.length ≤ r.l.length + 5 + t.length := by
  have := r.put_len (decide (t.length ≤ 65536)) (putM t.length ++ t)
  have h2 := putM_len t.length
  rw [List.length_append] at this
  unfold Wr.txt
  omega
theorem Wr.nums_len (r : Wr) (x : OpR) (K : Nat) : ∀ i, (r.nums x K i).l.length ≤ r.l.length + 5 * i
  | 0 => Nat.le_refl _
  | i + 1 => by
    have h := r.nums_len x K i
    unfold Wr.nums
    split
    · have := Wr.num_len (r.nums x K i) (x.numA (2 + i))
      omega
    · omega
theorem Wr.txts_len (r : Wr) (x : OpR) (K : Nat) (h1 : x.u.size ≤ 300) (h2 : x.v.size ≤ 300) : ∀ i, (r.txts x K i).l.length ≤ r.l.length + 305 * i
  | 0 => Nat.le_refl _
  | i + 1 => by
    have h := r.txts_len x K h1 h2 i
    unfold Wr.txts
    split
    · have := Wr.txt_len (r.txts x K i) (x.textA (6 + i))
      have : (x.textA (6 + i)).length ≤ 300 := by
        unfold OpR.textA
        split <;> simp <;> assumption
      omega
    · omega
theorem Wr.body_len (r : Wr) (x : OpR) (h1 : x.u.size ≤ 300) (h2 : x.v.size ≤ 300) : (r.body x).l.length ≤ r.l.length + 650 := by
  unfold Wr.body
  have := Wr.num_len r x.k
  have := Wr.num_len (r.num x.k) x.p
  have := Wr.nums_len ((r.num x.k).num x.p) x x.k.toNat 4
  have := Wr.txts_len (((r.num x.k).num x.p).nums x x.k.toNat 4) x x.k.toNat h1 h2 2
  omega
theorem Wr.fail_len (r : Wr) (f : Int) : (r.fail f).l.length = r.l.length := by unfold Wr.fail; split <;> rfl
theorem Wr.op_len (r : Wr) (x : OpR) : (r.op x).l.length ≤ r.l.length + 650 := by
  unfold Wr.op
  split
  · rename_i h
    have := check_zero' x h
    exact r.body_len x (by omega) (by omega)
  · rw [Wr.fail_len]; omega

/-- An operation in a block of its own. -/
def OpBox (w : World) (b : Nat) (x : OpR) : Prop := w.heap[b]? = some (.cells x.cells 30 (0, 0))
theorem OpBox.cells {w : World} {b : Nat} {x : OpR} (h : OpBox w b x) :
    w.cell? ⟨b, 0, none⟩ = some (.int .i64 x.k) ∧ w.cell? ⟨b, 1, none⟩ = some (.int .i64 x.p) ∧ w.cell? ⟨b, 2, none⟩ = some (.int .i64 x.t) ∧ w.cell? ⟨b, 3, none⟩ = some (.int .i64 x.n) ∧
    w.cell? ⟨b, 4, none⟩ = some (.int .i64 x.a) ∧ w.cell? ⟨b, 5, none⟩ = some (.int .i64 x.m) ∧ w.cell? ⟨b, 6, none⟩ = some (.string x.u) ∧ w.cell? ⟨b, 7, none⟩ = some (.string x.v) := by
  refine ⟨?_, ?_, ?_, ?_, ?_, ?_, ?_, ?_⟩ <;> (rw [Lib.cell_of_heap h]; rfl)
theorem OpBox.lt {w : World} {b : Nat} {x : OpR} (h : OpBox w b x) : b < w.heap.size := by
  rcases Nat.lt_or_ge b w.heap.size with h' | h'
  · exact h'
  · unfold OpBox at h
    simp [Array.getElem?_eq_none h'] at h
theorem OpBox.below {w w' : World} {b : Nat} {x : OpR} (h : OpBox w b x) (hb : Below w.heap.size w w') : OpBox w' b x := by
  have hlt := h.lt
  unfold OpBox at h ⊢
  rw [hb.block b hlt]
  exact h
theorem OpBox.keptW {w w' : World} {b c : Nat} {x : OpR} (h : OpBox w c x) (hk : KeptW b w w') (hne : c ≠ b) : OpBox w' c x := hk.heap h hne (by decide)
theorem OpBox.keptBut {w w' : World} {b c : Nat} {x : OpR} (h : OpBox w c x) (hk : KeptBut b w w') (hne : c ≠ b) : OpBox w' c x := by
  have hlt := h.lt
  unfold OpBox at h ⊢
  rw [hk.block c hlt hne]
  exact h
theorem bs_ofData (S : ByteArray) : bs S.data.toList = S := rfl
end Go.Proofs.YtjmfdacnaodfdaaDoor

namespace Go.Proofs.YtjmfdacnaodfdaaDoor
set_option linter.unusedVariables false
set_option linter.unusedSimpArgs false
open Go.RowKit

/-- Where a put stands: the writer, the operation's box, the table. -/
structure PutS (b xb : Nat) (w0 : World) (x : OpR) (r : Wr) (w : World) : Prop where
  wr : CwAt b r w
  kept : KeptW b w0 w
  box : OpBox w xb x
  flds : Flds w
theorem Flds.of_block {w w' : World} (h : Flds w) (h0 : w'.heap[0]? = w.heap[0]?) : Flds w' := by
  unfold Flds Lib.TabIs World.var? at h ⊢
  rw [gFields] at h ⊢
  simp only [Option.bind_some] at h ⊢
  rw [h0]
  exact h
theorem PutS.num {b xb : Nat} {w0 : World} {x : OpR} {r : Wr} {w : World} (h : PutS b xb w0 x r w) (h0 : 0 < b) (hx : xb ≠ b) (hl : r.l.length ≤ 1000000) (n : Int) :
    Calls Tryd.prog 17 #[.pointer (some ⟨b, 0, none⟩), .int .i64 n] w fun v w' => v = .returned (.tuple #[]) ∧ PutS b xb w0 x (r.num n) w' :=
  (cwnum_any b r n hl w h.wr).mono fun v w' ⟨e, h1, h2⟩ => ⟨e, h1, h.kept.trans h2, h.box.keptW h2 hx, h.flds.of_block (h2.below.block 0 h0)⟩
theorem PutS.txt {b xb : Nat} {w0 : World} {x : OpR} {r : Wr} {w : World} (h : PutS b xb w0 x r w) (h0 : 0 < b) (hx : xb ≠ b) (T : ByteArray) (hl : r.l.length + T.size ≤ 1000000) :
    Calls Tryd.prog 43 #[.pointer (some ⟨b, 0, none⟩), .string T] w fun v w' => v = .returned (.tuple #[]) ∧ PutS b xb w0 x (r.txt T.data.toList) w' :=
  (cwtxt_any b r T.data.toList (by simpa using hl) w h.wr).mono fun v w' ⟨e, h1, h2⟩ => ⟨e, h1, h.kept.trans h2, h.box.keptW h2 hx, h.flds.of_block (h2.below.block 0 h0)⟩
theorem PutS.below {b xb : Nat} {w0 : World} {x : OpR} {r : Wr} {w w' : World} (h : PutS b xb w0 x r w) (hb : Below w.heap.size w w') : PutS b xb w0 x r w' :=
  ⟨h.wr.below hb, h.kept.trans (KeptW.of_below hb (Nat.le_of_lt h.wr.lt)), h.box.below hb, h.flds.below hb⟩

theorem fbit_val : ∀ K : Fin 13, ∀ i : Fin 6, bits .and .i64 (fieldsTab.getD K.val 0 / (2 ^ i.val : Int)) 1 = if fbit K.val i.val = true then 1 else 0 := by decide +kernel
theorem index4_0 (a0 a1 a2 a3 : Int) (w : World) : (Instr.index 109 (.agg #[.int .i64 a0, .int .i64 a1, .int .i64 a2, .int .i64 a3]) (.int .i64 0)).run Tryd.prog w = .ok (.int .i64 a0) w := by
  kernel_rfl
theorem index4_1 (a0 a1 a2 a3 : Int) (w : World) : (Instr.index 109 (.agg #[.int .i64 a0, .int .i64 a1, .int .i64 a2, .int .i64 a3]) (.int .i64 1)).run Tryd.prog w = .ok (.int .i64 a1) w := by
  kernel_rfl
theorem index4_2 (a0 a1 a2 a3 : Int) (w : World) : (Instr.index 109 (.agg #[.int .i64 a0, .int .i64 a1, .int .i64 a2, .int .i64 a3]) (.int .i64 2)).run Tryd.prog w = .ok (.int .i64 a2) w := by
  kernel_rfl
theorem index4_3 (a0 a1 a2 a3 : Int) (w : World) : (Instr.index 109 (.agg #[.int .i64 a0, .int .i64 a1, .int .i64 a2, .int .i64 a3]) (.int .i64 3)).run Tryd.prog w = .ok (.int .i64 a3) w := by
  kernel_rfl
theorem index2_0 (a0 a1 : ByteArray) (w : World) : (Instr.index 110 (.agg #[.string a0, .string a1]) (.int .i64 0)).run Tryd.prog w = .ok (.string a0) w := by
  kernel_rfl
theorem index2_1 (a0 a1 : ByteArray) (w : World) : (Instr.index 110 (.agg #[.string a0, .string a1]) (.int .i64 1)).run Tryd.prog w = .ok (.string a1) w := by
  kernel_rfl

set_option maxHeartbeats 8000000 in
set_option maxRecDepth 100000 in
theorem oput_any (b : Nat) (r : Wr) (x : OpR) (hl : r.l.length ≤ 500000) (hb0 : 0 < b) (w : World) (hd : Flds w) (h : CwAt b r w) :
    Calls Tryd.prog 66 #[.pointer (some ⟨b, 0, none⟩), .agg x.cells] w fun v w' => v = .returned (.tuple #[]) ∧ CwAt b (r.op x) w' ∧ KeptW b w w' := by
  have hlt := h.lt
  obtain ⟨w1, hw1⟩ : ∃ W, w.alloc (.cells x.cells 30) = W := ⟨_, rfl⟩
  have hb1 : Below w.heap.size w w1 := by rw [← hw1]; exact (Below.refl _ _).alloc (Nat.le_refl _) _
  have hbox : OpBox w1 w.heap.size x := by rw [← hw1]; exact World.alloc_heap_new _ _
  have HS : Hid (PutS b w.heap.size w x r w1) := Lib.hid ⟨h.below hb1, KeptW.of_below hb1 (Nat.le_of_lt hlt), hbox, hd.below hb1⟩
  have HC := Lib.hid (check_any x w1 (hd.below hb1))
  have hne : w.heap.size ≠ b := by omega
  have HNE := Lib.hid hne
  obtain ⟨k, p, t, n, a, m, u, v⟩ := x
  obtain ⟨c0, c1, c2, c3, c4, c5, c6, c7⟩ := hbox.cells
  simp only at c0 c1 c2 c3 c4 c5 c6 c7
  have HL := Lib.hid hl
  obtain ⟨X, hX⟩ : ∃ X : OpR, (⟨k, p, t, n, a, m, u, v⟩ : OpR) = X := ⟨_, rfl⟩
  have HX := Lib.hid hX
  by_cases hck : checkM ⟨k, p, t, n, a, m, u, v⟩ = 0
  · obtain ⟨⟨hk0, hk13⟩, hp, hn, hu, hv, _⟩ := check_zero' _ hck
    simp only at hk0 hk13 hu hv
    obtain ⟨K, rfl⟩ := Int.eq_ofNat_of_zero_le hk0
    rw [hck] at HC
    have HOP : Hid (r.op ⟨K, p, t, n, a, m, u, v⟩ = ((((r.num K).num p).nums X K 4).txts X K 2)) := Lib.hid (by unfold Wr.op; rw [if_pos hck, hX]; unfold Wr.body; rw [← hX]; rfl)
    obtain ⟨R1, hR1⟩ : ∃ R1, ((r.num K).num p).nums X K 4 = R1 := ⟨_, rfl⟩
    rw [HOP.out, hR1]
    have HR1E := Lib.hid hR1
    simp only [OpR.cells] at hw1 ⊢
    clear hb1 hbox h hd hck hne hl hp hn hX hR1
    go_enter Tryd.func66, Tryd.ntmps66
    go_wp2_with fail
    refine HC.out.mono ?_
    rintro e w2 ⟨rfl, hb2⟩
    have HS2 := Lib.hid (HS.out.below hb2)
    obtain ⟨d0, d1, d2, d3, d4, d5, d6, d7⟩ := HS2.out.box.cells
    simp only at d0 d1 d2 d3 d4 d5 d6 d7
    clear hb2 c0 c1 c2 c3 c4 c5 c6 c7 hw1
    go_wp2_with fail
    refine (HS2.out.num hb0 HNE.out (by have := HL.out; omega) (K : Int)).mono ?_
    rintro e w3 ⟨rfl, hs3⟩
    have HS3 := Lib.hid hs3
    obtain ⟨c0, c1, c2, c3, c4, c5, c6, c7⟩ := HS3.out.box.cells
    simp only at c0 c1 c2 c3 c4 c5 c6 c7
    clear hs3 d0 d1 d2 d3 d4 d5 d6 d7
    go_wp2_with fail
    refine (HS3.out.num hb0 HNE.out (by have := HL.out; have := r.num_len K; omega) p).mono ?_
    rintro e w4 ⟨rfl, hs4⟩
    have HS4 := Lib.hid hs4
    obtain ⟨d0, d1, d2, d3, d4, d5, d6, d7⟩ := HS4.out.box.cells
    simp only at d0 d1 d2 d3 d4 d5 d6 d7
    clear hs4 c0 c1 c2 c3 c4 c5 c6 c7
    obtain ⟨F, hF⟩ : ∃ F, fieldsTab.getD K 0 = F := ⟨_, rfl⟩
    have hf := HS4.out.flds.cell K (by omega)
    rw [hF] at hf
    have HF := Lib.hid hF
    clear hF
    go_wp2_with fail
    go_loopg [6, 7, 38] 4 (fun g t6 t7 t38 wr => ∃ i : Nat, Hid (g = 4 - i ∧ i ≤ 4) ∧ t38 = .int .i64 i ∧ Hid (PutS b w.heap.size w ⟨K, p, t, n, a, m, u, v⟩ (((r.num K).num p).nums X K i) wr))
    case atStart => exact ⟨0, ⟨rfl, Nat.zero_le _⟩, rfl, HS4.out⟩
    case round =>
      obtain ⟨i, HG, rfl, HR⟩ := hrel
      have hnl := Wr.nums_len ((r.num K).num p) X K i
      have hl1 := Wr.num_len r K
      have hl2 := Wr.num_len (r.num K) p
      have hlen : ((((r.num K).num p).nums X K i)).l.length ≤ 1000000 ∨ 4 < i := by
        have := HL.out
        by_cases h : 4 < i
        · exact .inr h
        · exact .inl (by omega)
      have HLEN := Lib.hid hlen
      clear hlen hnl hl1 hl2
      by_cases hi : i < 4
      · rcases (show i = 0 ∨ i = 1 ∨ i = 2 ∨ i = 3 by omega) with rfl | rfl | rfl | rfl
        · have q := index4_0 t n a m
          have hvv := fbit_val ⟨K, by omega⟩ ⟨0, by decide⟩
          simp only at hvv
          rw [HF.out] at hvv
          by_cases hb : fbit K 0 = true
          · rw [if_pos hb] at hvv
            have hbit : bits .and .i64 (F) 1 = 1 := by simpa using hvv
            have HN : Hid (((r.num K).num p).nums X K (0 + 1) = (((r.num K).num p).nums X K 0).num t) := Lib.hid (by rw [show ((r.num K).num p).nums X K (0 + 1) = if fbit K 0 = true then (((r.num K).num p).nums X K 0).num (X.numA (2 + 0)) else ((r.num K).num p).nums X K 0 from rfl, if_pos hb, ← HX.out]; rfl)
            clear hvv hb
            go_wp2_with fail
            refine (HR.out.num hb0 HNE.out (by have := HLEN.out; omega) t).mono ?_
            rintro e w5 ⟨rfl, hs5⟩
            have HS5 := Lib.hid hs5
            clear hs5
            go_wp2_with fail
            go_roundg (4 - (0 + 1))
            case rel => exact ⟨0 + 1, ⟨rfl, by omega⟩, by go_num, by rw [HN.out]; exact HS5⟩
            case measure => have := HG.out; omega
          · rw [if_neg hb] at hvv
            have hbit : bits .and .i64 (F) 1 = 0 := by simpa using hvv
            have HN : Hid (((r.num K).num p).nums X K (0 + 1) = ((r.num K).num p).nums X K 0) := Lib.hid (by rw [show ((r.num K).num p).nums X K (0 + 1) = if fbit K 0 = true then (((r.num K).num p).nums X K 0).num (X.numA (2 + 0)) else ((r.num K).num p).nums X K 0 from rfl, if_neg hb])
            clear hvv hb
            go_wp2_with fail
            go_roundg (4 - (0 + 1))
            case rel => exact ⟨0 + 1, ⟨rfl, by omega⟩, by go_num, by rw [HN.out]; exact HR⟩
            case measure => have := HG.out; omega
        · have q := index4_1 t n a m
          have hvv := fbit_val ⟨K, by omega⟩ ⟨1, by decide⟩
          simp only at hvv
          rw [HF.out] at hvv
          by_cases hb : fbit K 1 = true
          · rw [if_pos hb] at hvv
            have hbit : bits .and .i64 (F / 2) 1 = 1 := by simpa using hvv
            have HN : Hid (((r.num K).num p).nums X K (1 + 1) = (((r.num K).num p).nums X K 1).num n) := Lib.hid (by rw [show ((r.num K).num p).nums X K (1 + 1) = if fbit K 1 = true then (((r.num K).num p).nums X K 1).num (X.numA (2 + 1)) else ((r.num K).num p).nums X K 1 from rfl, if_pos hb, ← HX.out]; rfl)
            clear hvv hb
            go_wp2_with fail
            refine (HR.out.num hb0 HNE.out (by have := HLEN.out; omega) n).mono ?_
            rintro e w5 ⟨rfl, hs5⟩
            have HS5 := Lib.hid hs5
            clear hs5
            go_wp2_with fail
            go_roundg (4 - (1 + 1))
            case rel => exact ⟨1 + 1, ⟨rfl, by omega⟩, by go_num, by rw [HN.out]; exact HS5⟩
            case measure => have := HG.out; omega
          · rw [if_neg hb] at hvv
            have hbit : bits .and .i64 (F / 2) 1 = 0 := by simpa using hvv
            have HN : Hid (((r.num K).num p).nums X K (1 + 1) = ((r.num K).num p).nums X K 1) := Lib.hid (by rw [show ((r.num K).num p).nums X K (1 + 1) = if fbit K 1 = true then (((r.num K).num p).nums X K 1).num (X.numA (2 + 1)) else ((r.num K).num p).nums X K 1 from rfl, if_neg hb])
            clear hvv hb
            go_wp2_with fail
            go_roundg (4 - (1 + 1))
            case rel => exact ⟨1 + 1, ⟨rfl, by omega⟩, by go_num, by rw [HN.out]; exact HR⟩
            case measure => have := HG.out; omega
        · have q := index4_2 t n a m
          have hvv := fbit_val ⟨K, by omega⟩ ⟨2, by decide⟩
          simp only at hvv
          rw [HF.out] at hvv
          by_cases hb : fbit K 2 = true
          · rw [if_pos hb] at hvv
            have hbit : bits .and .i64 (F / 4) 1 = 1 := by simpa using hvv
            have HN : Hid (((r.num K).num p).nums X K (2 + 1) = (((r.num K).num p).nums X K 2).num a) := Lib.hid (by rw [show ((r.num K).num p).nums X K (2 + 1) = if fbit K 2 = true then (((r.num K).num p).nums X K 2).num (X.numA (2 + 2)) else ((r.num K).num p).nums X K 2 from rfl, if_pos hb, ← HX.out]; rfl)
            clear hvv hb
            go_wp2_with fail
            refine (HR.out.num hb0 HNE.out (by have := HLEN.out; omega) a).mono ?_
            rintro e w5 ⟨rfl, hs5⟩
            have HS5 := Lib.hid hs5
            clear hs5
            go_wp2_with fail
            go_roundg (4 - (2 + 1))
            case rel => exact ⟨2 + 1, ⟨rfl, by omega⟩, by go_num, by rw [HN.out]; exact HS5⟩
            case measure => have := HG.out; omega
          · rw [if_neg hb] at hvv
            have hbit : bits .and .i64 (F / 4) 1 = 0 := by simpa using hvv
            have HN : Hid (((r.num K).num p).nums X K (2 + 1) = ((r.num K).num p).nums X K 2) := Lib.hid (by rw [show ((r.num K).num p).nums X K (2 + 1) = if fbit K 2 = true then (((r.num K).num p).nums X K 2).num (X.numA (2 + 2)) else ((r.num K).num p).nums X K 2 from rfl, if_neg hb])
            clear hvv hb
            go_wp2_with fail
            go_roundg (4 - (2 + 1))
            case rel => exact ⟨2 + 1, ⟨rfl, by omega⟩, by go_num, by rw [HN.out]; exact HR⟩
            case measure => have := HG.out; omega
        · have q := index4_3 t n a m
          have hvv := fbit_val ⟨K, by omega⟩ ⟨3, by decide⟩
          simp only at hvv
          rw [HF.out] at hvv
          by_cases hb : fbit K 3 = true
          · rw [if_pos hb] at hvv
            have hbit : bits .and .i64 (F / 8) 1 = 1 := by simpa using hvv
            have HN : Hid (((r.num K).num p).nums X K (3 + 1) = (((r.num K).num p).nums X K 3).num m) := Lib.hid (by rw [show ((r.num K).num p).nums X K (3 + 1) = if fbit K 3 = true then (((r.num K).num p).nums X K 3).num (X.numA (2 + 3)) else ((r.num K).num p).nums X K 3 from rfl, if_pos hb, ← HX.out]; rfl)
            clear hvv hb
            go_wp2_with fail
            refine (HR.out.num hb0 HNE.out (by have := HLEN.out; omega) m).mono ?_
            rintro e w5 ⟨rfl, hs5⟩
            have HS5 := Lib.hid hs5
            clear hs5
            go_wp2_with fail
            go_roundg (4 - (3 + 1))
            case rel => exact ⟨3 + 1, ⟨rfl, by omega⟩, by go_num, by rw [HN.out]; exact HS5⟩
            case measure => have := HG.out; omega
          · rw [if_neg hb] at hvv
            have hbit : bits .and .i64 (F / 8) 1 = 0 := by simpa using hvv
            have HN : Hid (((r.num K).num p).nums X K (3 + 1) = ((r.num K).num p).nums X K 3) := Lib.hid (by rw [show ((r.num K).num p).nums X K (3 + 1) = if fbit K 3 = true then (((r.num K).num p).nums X K 3).num (X.numA (2 + 3)) else ((r.num K).num p).nums X K 3 from rfl, if_neg hb])
            clear hvv hb
            go_wp2_with fail
            go_roundg (4 - (3 + 1))
            case rel => exact ⟨3 + 1, ⟨rfl, by omega⟩, by go_num, by rw [HN.out]; exact HR⟩
            case measure => have := HG.out; omega
      · obtain rfl : i = 4 := by have := HG.out.2; omega
        have hR1l : R1.l.length ≤ 600000 := by
          rw [← HR1E.out]
          have hnl := Wr.nums_len ((r.num K).num p) X K 4
          have hl1 := Wr.num_len r K
          have hl2 := Wr.num_len (r.num K) p
          have := HL.out
          omega
        have HR1 := Lib.hid hR1l
        rw [HR1E.out] at HR
        obtain ⟨e0, e1, e2, e3, e4, e5, e6, e7⟩ := HR.out.box.cells
        simp only at e0 e1 e2 e3 e4 e5 e6 e7
        clear hR1l d0 d1 d2 d3 d4 d5 d6 d7 hf HLEN
        go_wp2_with fail
        go_loopg [8, 9, 56] 2 (fun g t8 t9 t56 wr => ∃ i : Nat, Hid (g = 2 - i ∧ i ≤ 2) ∧ t56 = .int .i64 i ∧ Hid (PutS b w.heap.size w ⟨K, p, t, n, a, m, u, v⟩ (R1.txts X K i) wr))
        case atStart => exact ⟨0, ⟨rfl, Nat.zero_le _⟩, rfl, HR⟩
        case round =>
          clear e0 e1 e2 e3 e4 e5 e6 e7
          obtain ⟨i, HG, rfl, HR⟩ := hrel
          by_cases hi : i < 2
          · rcases (show i = 0 ∨ i = 1 by omega) with rfl | rfl
            · have q := index2_0 u v
              have hvv := fbit_val ⟨K, by omega⟩ ⟨4, by decide⟩
              simp only at hvv
              rw [HF.out] at hvv
              have hlen : (R1.txts X K 0).l.length + u.size ≤ 1000000 := by
                have := Wr.txts_len R1 X K (by rw [← HX.out]; show u.size ≤ 300; omega) (by rw [← HX.out]; show v.size ≤ 300; omega) 0
                have := HR1.out
                omega
              have HT := Lib.hid (HR.out.txt hb0 HNE.out u hlen)
              by_cases hb : fbit K 4 = true
              · rw [if_pos hb] at hvv
                have hbit : bits .and .i64 (F / 16) 1 = 1 := by simpa using hvv
                have HN : Hid (R1.txts X K (0 + 1) = (R1.txts X K 0).txt u.data.toList) := Lib.hid (by rw [show R1.txts X K (0 + 1) = if fbit K (4 + 0) = true then (R1.txts X K 0).txt (X.textA (6 + 0)) else R1.txts X K 0 from rfl, if_pos hb, ← HX.out]; rfl)
                clear hvv hb hlen
                go_wp2_with fail
                refine HT.out.mono ?_
                rintro e w5 ⟨rfl, hs5⟩
                have HS5 := Lib.hid hs5
                clear hs5
                go_wp2_with fail
                go_roundg (2 - (0 + 1))
                case rel => exact ⟨0 + 1, ⟨rfl, by omega⟩, by go_num, by rw [HN.out]; exact HS5⟩
                case measure => have := HG.out; omega
              · rw [if_neg hb] at hvv
                have hbit : bits .and .i64 (F / 16) 1 = 0 := by simpa using hvv
                have HN : Hid (R1.txts X K (0 + 1) = R1.txts X K 0) := Lib.hid (by rw [show R1.txts X K (0 + 1) = if fbit K (4 + 0) = true then (R1.txts X K 0).txt (X.textA (6 + 0)) else R1.txts X K 0 from rfl, if_neg hb])
                clear hvv hb hlen
                go_wp2_with fail
                go_roundg (2 - (0 + 1))
                case rel => exact ⟨0 + 1, ⟨rfl, by omega⟩, by go_num, by rw [HN.out]; exact HR⟩
                case measure => have := HG.out; omega
            · have q := index2_1 u v
              have hvv := fbit_val ⟨K, by omega⟩ ⟨5, by decide⟩
              simp only at hvv
              rw [HF.out] at hvv
              have hlen : (R1.txts X K 1).l.length + v.size ≤ 1000000 := by
                have := Wr.txts_len R1 X K (by rw [← HX.out]; show u.size ≤ 300; omega) (by rw [← HX.out]; show v.size ≤ 300; omega) 1
                have := HR1.out
                omega
              have HT := Lib.hid (HR.out.txt hb0 HNE.out v hlen)
              by_cases hb : fbit K 5 = true
              · rw [if_pos hb] at hvv
                have hbit : bits .and .i64 (F / 32) 1 = 1 := by simpa using hvv
                have HN : Hid (R1.txts X K (1 + 1) = (R1.txts X K 1).txt v.data.toList) := Lib.hid (by rw [show R1.txts X K (1 + 1) = if fbit K (4 + 1) = true then (R1.txts X K 1).txt (X.textA (6 + 1)) else R1.txts X K 1 from rfl, if_pos hb, ← HX.out]; rfl)
                clear hvv hb hlen
                go_wp2_with fail
                refine HT.out.mono ?_
                rintro e w5 ⟨rfl, hs5⟩
                have HS5 := Lib.hid hs5
                clear hs5
                go_wp2_with fail
                go_roundg (2 - (1 + 1))
                case rel => exact ⟨1 + 1, ⟨rfl, by omega⟩, by go_num, by rw [HN.out]; exact HS5⟩
                case measure => have := HG.out; omega
              · rw [if_neg hb] at hvv
                have hbit : bits .and .i64 (F / 32) 1 = 0 := by simpa using hvv
                have HN : Hid (R1.txts X K (1 + 1) = R1.txts X K 1) := Lib.hid (by rw [show R1.txts X K (1 + 1) = if fbit K (4 + 1) = true then (R1.txts X K 1).txt (X.textA (6 + 1)) else R1.txts X K 1 from rfl, if_neg hb])
                clear hvv hb hlen
                go_wp2_with fail
                go_roundg (2 - (1 + 1))
                case rel => exact ⟨1 + 1, ⟨rfl, by omega⟩, by go_num, by rw [HN.out]; exact HR⟩
                case measure => have := HG.out; omega
          · obtain rfl : i = 2 := by have := HG.out.2; omega
            go_wp2_with fail
            go_end0
            exact ⟨rfl, HR.out.wr, HR.out.kept⟩
  · obtain ⟨E, hE⟩ : ∃ E, checkM ⟨k, p, t, n, a, m, u, v⟩ = E := ⟨_, rfl⟩
    have HOP : Hid (r.op ⟨k, p, t, n, a, m, u, v⟩ = r.fail E) := Lib.hid (by unfold Wr.op; rw [if_neg hck, hE])
    rw [HOP.out]
    rw [hE] at HC hck
    have he2 : (E == 0) = false := by simpa using hck
    have he3 : (E != 0) = true := by simpa using hck
    simp only [OpR.cells] at hw1 ⊢
    clear hb1 hbox h hd hck hne hl hX hE
    go_enter Tryd.func66, Tryd.ntmps66
    go_wp2_with fail
    refine HC.out.mono ?_
    rintro e w2 ⟨rfl, hb2⟩
    have HS2 := Lib.hid (HS.out.below hb2)
    clear hb2
    go_wp2_with fail
    refine (cwfail_any b r E w2 HS2.out.wr).mono ?_
    rintro e w3 ⟨rfl, h1, h2⟩
    have HQ := Lib.hid (And.intro h1 (HS2.out.kept.trans h2))
    clear h1 h2
    go_wp2_with fail
    refine bodyPost_ret (v := .tuple #[]) (results_none rfl _ _ _) rfl ?_
    exact ⟨rfl, HQ.out⟩
end Go.Proofs.YtjmfdacnaodfdaaDoor
