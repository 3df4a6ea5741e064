/- package hearsayref34: Check. -/
import Derived.StillTailTactics
import Derived.Deep.Cut
import Derived.Deep.RegionHeld3
import Derived.Deep.LoopGhost
import Derived.Test.YtmeneoanmfpecaaDoorRefCheck
namespace Go.Proofs.YtmeneoanmfpecaaDoor
set_option linter.unusedVariables false
set_option linter.unusedSimpArgs false
open Go.RowKit

def plainOp (k p : Int) : OpR := ⟨k, p, 0, 0, 0, 0, ⟨#[]⟩, ⟨#[]⟩⟩
def rcheckM (x : OpR) : Int :=
  if x.k < 0 ∨ 12 < x.k then 15 else if x.p < 0 ∨ 63 < x.p ∨ x.t < 0 ∨ 63 < x.t then 11
  else if (numB x.n && numB x.a && numB x.m) = false then 12
  else if 255 < (x.u.size : Int) ∨ 255 < (x.v.size : Int) then 2 else if opEq (bareM x) (plainOp x.k x.p) = false then 7 else 0

set_option maxHeartbeats 4000000 in
set_option maxRecDepth 100000 in
theorem rcheck_any (x : OpR) (w : World) :
    Calls Tryd.prog 59 #[.agg x.cells] w fun e w' => e = .returned (.int .i64 (rcheckM x)) ∧ Below w.heap.size w w' := by
  have hcm : rcheckM x = if x.k < 0 ∨ 12 < x.k then 15 else if x.p < 0 ∨ 63 < x.p ∨ x.t < 0 ∨ 63 < x.t then 11
    else if (numB x.n && numB x.a && numB x.m) = false then 12
    else if 255 < (x.u.size : Int) ∨ 255 < (x.v.size : Int) then 2 else if opEq (bareM x) (plainOp x.k x.p) = false then 7 else 0 := rfl
  have HCM := Lib.hid hcm
  have HBR := Lib.hid (fun (h0 : 0 ≤ x.k) (h13 : x.k < 13) (w' : World) => bare_any x h0 h13 w')
  have HEQ := Lib.hid (fun w' => op_equal w' (bareM x) (plainOp x.k x.p))
  obtain ⟨BC, hBC⟩ : ∃ b, (bareM x).cells = b := ⟨_, rfl⟩
  obtain ⟨bq, hbq⟩ : ∃ b, opEq (bareM x) (plainOp x.k x.p) = b := ⟨_, rfl⟩
  rw [hBC] at HBR HEQ
  rw [hbq] at HCM HEQ
  clear hcm hBC hbq
  obtain ⟨k, p, t, n, a, m, u, v⟩ := x
  obtain ⟨w1, hw1⟩ : ∃ W, w.alloc (.cells #[.int .i64 k, .int .i64 p, .int .i64 t, .int .i64 n, .int .i64 a, .int .i64 m, .string u, .string v] 30) = W := ⟨_, rfl⟩
  have hbl : w1.heap[w.heap.size]? = some (.cells #[.int .i64 k, .int .i64 p, .int .i64 t, .int .i64 n, .int .i64 a, .int .i64 m, .string u, .string v] 30 (0, 0)) := by rw [← hw1]; exact World.alloc_heap_new _ _
  have hb1 : Below w.heap.size w w1 := by rw [← hw1]; exact (Below.refl _ _).alloc (Nat.le_refl _) _
  have c0 : w1.cell? ⟨w.heap.size, 0, none⟩ = some (.int .i64 k) := by simp [World.cell?, hbl]
  have c1 : w1.cell? ⟨w.heap.size, 1, none⟩ = some (.int .i64 p) := by simp [World.cell?, hbl]
  have c2 : w1.cell? ⟨w.heap.size, 2, none⟩ = some (.int .i64 t) := by simp [World.cell?, hbl]
  have c3 : w1.cell? ⟨w.heap.size, 3, none⟩ = some (.int .i64 n) := by simp [World.cell?, hbl]
  have c4 : w1.cell? ⟨w.heap.size, 4, none⟩ = some (.int .i64 a) := by simp [World.cell?, hbl]
  have c5 : w1.cell? ⟨w.heap.size, 5, none⟩ = some (.int .i64 m) := by simp [World.cell?, hbl]
  have c6 : w1.cell? ⟨w.heap.size, 6, none⟩ = some (.string u) := by simp [World.cell?, hbl]
  have c7 : w1.cell? ⟨w.heap.size, 7, none⟩ = some (.string v) := by simp [World.cell?, hbl]
  have HB1 := Lib.hid hb1
  have HC0 := Lib.hid c0
  have HC1 := Lib.hid c1
  clear hbl hb1
  show Calls Tryd.prog 59 #[.agg #[.int .i64 k, .int .i64 p, .int .i64 t, .int .i64 n, .int .i64 a, .int .i64 m, .string u, .string v]] w _
  simp only at HCM HBR HEQ
  obtain ⟨R, hR⟩ : ∃ R, rcheckM ⟨k, p, t, n, a, m, u, v⟩ = R := ⟨_, rfl⟩
  rw [hR] at HCM ⊢
  clear hR
  obtain ⟨bn, ebn⟩ : ∃ b, numB n = b := ⟨_, rfl⟩
  have Hbn := Lib.hid (rnum_any n w1)
  rw [ebn] at HCM Hbn
  obtain ⟨ba, eba⟩ : ∃ b, numB a = b := ⟨_, rfl⟩
  have Hba := Lib.hid (rnum_any a w1)
  rw [eba] at HCM Hba
  obtain ⟨bm, ebm⟩ : ∃ b, numB m = b := ⟨_, rfl⟩
  have Hbm := Lib.hid (rnum_any m w1)
  rw [ebm] at HCM Hbm
  clear ebn eba ebm
  by_cases hk0 : k < 0
  · have HR : Hid (R = 15) := by rw [HCM.out]; simp [hk0, Hid]
    go_enter Tryd.func59, Tryd.ntmps59
    go_wp2_with fail
    go_ret
    exact ⟨by rw [HR.out]; rfl, HB1.out⟩
  by_cases hk1 : 12 < k
  · have HR : Hid (R = 15) := by rw [HCM.out]; simp [hk0, hk1, Hid]
    go_enter Tryd.func59, Tryd.ntmps59
    go_wp2_with fail
    go_ret
    exact ⟨by rw [HR.out]; rfl, HB1.out⟩
  by_cases hp0 : p < 0
  · have HR : Hid (R = 11) := by rw [HCM.out]; simp [hk0, hk1, hp0, Hid]
    go_enter Tryd.func59, Tryd.ntmps59
    go_wp2_with fail
    go_ret
    exact ⟨by rw [HR.out]; rfl, HB1.out⟩
  by_cases hp1 : 63 < p
  · have HR : Hid (R = 11) := by rw [HCM.out]; simp [hk0, hk1, hp0, hp1, Hid]
    go_enter Tryd.func59, Tryd.ntmps59
    go_wp2_with fail
    go_ret
    exact ⟨by rw [HR.out]; rfl, HB1.out⟩
  by_cases ht0 : t < 0
  · have HR : Hid (R = 11) := by rw [HCM.out]; simp [hk0, hk1, hp0, hp1, ht0, Hid]
    go_enter Tryd.func59, Tryd.ntmps59
    go_wp2_with fail
    go_ret
    exact ⟨by rw [HR.out]; rfl, HB1.out⟩
  by_cases ht1 : 63 < t
  · have HR : Hid (R = 11) := by rw [HCM.out]; simp [hk0, hk1, hp0, hp1, ht0, ht1, Hid]
    go_enter Tryd.func59, Tryd.ntmps59
    go_wp2_with fail
    go_ret
    exact ⟨by rw [HR.out]; rfl, HB1.out⟩
  have HS : Hid (R = if (bn && ba && bm) = false then 12 else if 255 < (u.size : Int) ∨ 255 < (v.size : Int) then 2 else if bq = false then 7 else 0) := by rw [HCM.out]; simp [hk0, hk1, hp0, hp1, ht0, ht1, Hid]
  have HK0 : Hid (0 ≤ k ∧ k < 13) := ⟨by omega, by omega⟩
  have HBB : Hid (∀ w', Below w1.heap.size w1 w' → Calls Tryd.prog 108 #[.agg #[.int .i64 k, .int .i64 p, .int .i64 t, .int .i64 n, .int .i64 a, .int .i64 m, .string u, .string v]] w' fun e w'' => e = .returned (.agg BC) ∧ Below w1.heap.size w1 w'') := fun w' hb => (HBR.out HK0.out.1 HK0.out.2 w').mono fun e w'' h => ⟨h.1, hb.trans (h.2.mono hb.size)⟩
  have HCELL : Hid (∀ w', Below w1.heap.size w1 w' → Below w1.heap.size w1 w' ∧ w'.cell? ⟨w.heap.size, 0, none⟩ = some (.int .i64 k) ∧ w'.cell? ⟨w.heap.size, 1, none⟩ = some (.int .i64 p) ∧ w'.cell? ⟨w.heap.size, 2, none⟩ = some (.int .i64 t) ∧ w'.cell? ⟨w.heap.size, 3, none⟩ = some (.int .i64 n) ∧ w'.cell? ⟨w.heap.size, 4, none⟩ = some (.int .i64 a) ∧ w'.cell? ⟨w.heap.size, 5, none⟩ = some (.int .i64 m) ∧ w'.cell? ⟨w.heap.size, 6, none⟩ = some (.string u) ∧ w'.cell? ⟨w.heap.size, 7, none⟩ = some (.string v)) := fun w' hb => ⟨hb, cell_below hb c0, cell_below hb c1, cell_below hb c2, cell_below hb c3, cell_below hb c4, cell_below hb c5, cell_below hb c6, cell_below hb c7⟩
  clear HCM HBR
  by_cases hu : 255 < (u.size : Int)
  · have HR : Hid (R = if (bn && ba && bm) = false then 12 else 2) := by rw [HS.out]; simp [hu, Hid]
    clear HS
    go_enter Tryd.func59, Tryd.ntmps59
    go_wp2_with fail
    refine Hbn.out.mono ?_
    rintro e w' ⟨rfl, rfl⟩
    cases bn with
    | false =>
      go_wp2_with fail
      go_ret
      exact ⟨by rw [HR.out]; rfl, HB1.out⟩
    | true =>
      go_wp2_with fail
      refine Hba.out.mono ?_
      rintro e w' ⟨rfl, rfl⟩
      cases ba with
      | false =>
        go_wp2_with fail
        go_ret
        exact ⟨by rw [HR.out]; rfl, HB1.out⟩
      | true =>
        go_wp2_with fail
        refine Hbm.out.mono ?_
        rintro e w' ⟨rfl, rfl⟩
        cases bm with
        | false =>
          go_wp2_with fail
          go_ret
          exact ⟨by rw [HR.out]; rfl, HB1.out⟩
        | true =>
          go_wp2_with fail
          go_ret
          exact ⟨by rw [HR.out]; rfl, HB1.out⟩
  by_cases hv : 255 < (v.size : Int)
  · have HR : Hid (R = if (bn && ba && bm) = false then 12 else 2) := by rw [HS.out]; simp [hu, hv, Hid]
    clear HS
    go_enter Tryd.func59, Tryd.ntmps59
    go_wp2_with fail
    refine Hbn.out.mono ?_
    rintro e w' ⟨rfl, rfl⟩
    cases bn with
    | false =>
      go_wp2_with fail
      go_ret
      exact ⟨by rw [HR.out]; rfl, HB1.out⟩
    | true =>
      go_wp2_with fail
      refine Hba.out.mono ?_
      rintro e w' ⟨rfl, rfl⟩
      cases ba with
      | false =>
        go_wp2_with fail
        go_ret
        exact ⟨by rw [HR.out]; rfl, HB1.out⟩
      | true =>
        go_wp2_with fail
        refine Hbm.out.mono ?_
        rintro e w' ⟨rfl, rfl⟩
        cases bm with
        | false =>
          go_wp2_with fail
          go_ret
          exact ⟨by rw [HR.out]; rfl, HB1.out⟩
        | true =>
          go_wp2_with fail
          go_ret
          exact ⟨by rw [HR.out]; rfl, HB1.out⟩
  have HR : Hid (R = if (bn && ba && bm) = false then 12 else if bq = false then 7 else 0) := by rw [HS.out]; simp [hu, hv, Hid]
  clear HS
  go_enter Tryd.func59, Tryd.ntmps59
  go_wp2_with fail
  refine Hbn.out.mono ?_
  rintro e w' ⟨rfl, rfl⟩
  cases bn with
  | false =>
    go_wp2_with fail
    go_ret
    exact ⟨by rw [HR.out]; rfl, HB1.out⟩
  | true =>
    go_wp2_with fail
    refine Hba.out.mono ?_
    rintro e w' ⟨rfl, rfl⟩
    cases ba with
    | false =>
      go_wp2_with fail
      go_ret
      exact ⟨by rw [HR.out]; rfl, HB1.out⟩
    | true =>
      go_wp2_with fail
      refine Hbm.out.mono ?_
      rintro e w' ⟨rfl, rfl⟩
      cases bm with
      | false =>
        go_wp2_with fail
        go_ret
        exact ⟨by rw [HR.out]; rfl, HB1.out⟩
      | true =>
        go_wp2_with fail
        have heq : ∀ w', (Op.equalIn 10000 30 (.agg BC) (.agg #[.int .i64 k, .int .i64 p, .int .i64 0, .int .i64 0, .int .i64 0, .int .i64 0, .string ⟨#[]⟩, .string ⟨#[]⟩])).run Tryd.prog w' = .ok bq w' := fun w' => HEQ.out w'
        go_cut [62] (fun t wc => t = .bool (!bq) ∧ Hid (Below w1.heap.size w1 wc))
        case first =>
          go_region_held3 (fun w' => Below w1.heap.size w1 w' ∧ w'.cell? ⟨w.heap.size, 0, none⟩ = some (.int .i64 k) ∧ w'.cell? ⟨w.heap.size, 1, none⟩ = some (.int .i64 p) ∧ w'.cell? ⟨w.heap.size, 2, none⟩ = some (.int .i64 t) ∧ w'.cell? ⟨w.heap.size, 3, none⟩ = some (.int .i64 n) ∧ w'.cell? ⟨w.heap.size, 4, none⟩ = some (.int .i64 a) ∧ w'.cell? ⟨w.heap.size, 5, none⟩ = some (.int .i64 m) ∧ w'.cell? ⟨w.heap.size, 6, none⟩ = some (.string u) ∧ w'.cell? ⟨w.heap.size, 7, none⟩ = some (.string v))
            (first | exact HCELL.out _ (by assumption) | exact HCELL.out _ (Below.refl _ _).drew | exact HCELL.out _ (Below.refl _ _) | (go_split_ands; exact HCELL.out _ (by assumption)))
            (first | (go_at_call 108; refine (HBB.out _ ?_).mono ?_; (first | assumption | exact (Below.refl _ _).drew | exact Below.refl _ _ | (go_split_ands; assumption)); rintro e w' ⟨rfl, hq⟩))
          all_goals
            go_wp2_with fail
            go_meet
            exact ⟨rfl, Lib.hid (by assumption)⟩
        case rest =>
          obtain ⟨rfl, HBY⟩ := hcut
          cases bq with
          | false =>
            go_wp2_with fail
            go_ret
            exact ⟨by rw [HR.out]; rfl, HB1.out.trans (HBY.out.mono HB1.out.size)⟩
          | true =>
            go_wp2_with fail
            go_ret
            exact ⟨by rw [HR.out]; rfl, HB1.out.trans (HBY.out.mono HB1.out.size)⟩
end Go.Proofs.YtmeneoanmfpecaaDoor
