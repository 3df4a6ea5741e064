/- the law ShowEvents: its walk. -/
import Derived.StillTailTactics
import Derived.Deep.Cut
import Derived.Deep.DeepCutAuto
import Derived.Deep.RegionHeld3
import Derived.Test.YtmeneoanmfpecaaDoorAwake38
namespace Go.Proofs.YtmeneoanmfpecaaDoor
set_option linter.unusedVariables false
set_option linter.unusedSimpArgs false
open Go.RowKit

set_option maxHeartbeats 4000000 in
set_option maxRecDepth 100000 in
theorem showEvents_any (x : EvR) (hx : x.ok) (w : World) (hd : Door w) :
    Calls Tryd.prog 6 #[.agg x.cells] w fun e w' => e = .returned (.bool true) ∧ Below w.heap.size w w' := by
  obtain ⟨w1, hw1⟩ : ∃ W, w.alloc (.cells x.cells 34) = W := ⟨_, rfl⟩
  have hb1 : Below w.heap.size w w1 := by rw [← hw1]; exact (Below.refl _ _).alloc (Nat.le_refl _) _
  have hbl : w1.heap[w.heap.size]? = some (.cells x.cells 34 (0, 0)) := by rw [← hw1]; exact World.alloc_heap_new _ _
  have HB1 := Lib.hid hb1
  have HE : Hid (∀ w', Below w1.heap.size w1 w' → Calls Tryd.prog 23 #[.agg x.cells] w' fun e w'' => e = .returned (.string ⟨(eventT x).toArray⟩) ∧ Below w1.heap.size w1 w'') := fun w' hb => (event_any x hx w' ((hd.below hb1).below hb)).mono fun e w'' h => ⟨h.1, hb.trans (h.2.mono hb.size)⟩
  have HR : Hid (∀ w', Below w1.heap.size w1 w' → Calls Tryd.prog 24 #[.agg x.cells] w' fun e w'' => e = .returned (.string ⟨(eventT x).toArray⟩) ∧ Below w1.heap.size w1 w'') := fun w' hb => (revent_any x hx w' ((hd.below hb1).below hb)).mono fun e w'' h => ⟨h.1, hb.trans (h.2.mono hb.size)⟩
  have HA : Hid (∀ w', Below w1.heap.size w1 w' → Calls Tryd.prog 22 #[] w' fun e w'' => e = .returned (.bool true) ∧ Below w1.heap.size w1 w'') := fun w' hb => (awake38_any w' ((hd.below hb1).below hb)).mono fun e w'' h => ⟨h.1, hb.trans (h.2.mono hb.size)⟩
  obtain ⟨T, hT⟩ : ∃ T : ByteArray, ⟨(eventT x).toArray⟩ = T := ⟨_, rfl⟩
  rw [hT] at HE HR
  obtain ⟨at_, ⟨k, p, t, n, a, m, u, v⟩, er, dp, dc⟩ := x
  simp only [EvR.cells] at hw1 HE HR
  have c0 : w1.cell? ⟨w.heap.size, 0, none⟩ = some (.int .i64 at_) := by simp [World.cell?, hbl, EvR.cells]
  have c1 : w1.cell? ⟨w.heap.size, 1, none⟩ = some (.int .i64 k) := by simp [World.cell?, hbl, EvR.cells]
  have c2 : w1.cell? ⟨w.heap.size, 2, none⟩ = some (.int .i64 p) := by simp [World.cell?, hbl, EvR.cells]
  have c3 : w1.cell? ⟨w.heap.size, 3, none⟩ = some (.int .i64 t) := by simp [World.cell?, hbl, EvR.cells]
  have c4 : w1.cell? ⟨w.heap.size, 4, none⟩ = some (.int .i64 n) := by simp [World.cell?, hbl, EvR.cells]
  have c5 : w1.cell? ⟨w.heap.size, 5, none⟩ = some (.int .i64 a) := by simp [World.cell?, hbl, EvR.cells]
  have c6 : w1.cell? ⟨w.heap.size, 6, none⟩ = some (.int .i64 m) := by simp [World.cell?, hbl, EvR.cells]
  have c7 : w1.cell? ⟨w.heap.size, 7, none⟩ = some (.string u) := by simp [World.cell?, hbl, EvR.cells]
  have c8 : w1.cell? ⟨w.heap.size, 8, none⟩ = some (.string v) := by simp [World.cell?, hbl, EvR.cells]
  have c9 : w1.cell? ⟨w.heap.size, 9, none⟩ = some (.int .i64 er) := by simp [World.cell?, hbl, EvR.cells]
  have c10 : w1.cell? ⟨w.heap.size, 10, none⟩ = some (.int .i64 dp) := by simp [World.cell?, hbl, EvR.cells]
  have c11 : w1.cell? ⟨w.heap.size, 11, none⟩ = some (.int .i64 dc) := by simp [World.cell?, hbl, EvR.cells]
  have HCELL : Hid (∀ w', Below w1.heap.size w1 w' → Below w1.heap.size w1 w' ∧ w'.cell? ⟨w.heap.size, 0, none⟩ = some (.int .i64 at_) ∧ w'.cell? ⟨w.heap.size, 1, none⟩ = some (.int .i64 k) ∧ w'.cell? ⟨w.heap.size, 2, none⟩ = some (.int .i64 p) ∧ w'.cell? ⟨w.heap.size, 3, none⟩ = some (.int .i64 t) ∧ w'.cell? ⟨w.heap.size, 4, none⟩ = some (.int .i64 n) ∧ w'.cell? ⟨w.heap.size, 5, none⟩ = some (.int .i64 a) ∧ w'.cell? ⟨w.heap.size, 6, none⟩ = some (.int .i64 m) ∧ w'.cell? ⟨w.heap.size, 7, none⟩ = some (.string u) ∧ w'.cell? ⟨w.heap.size, 8, none⟩ = some (.string v) ∧ w'.cell? ⟨w.heap.size, 9, none⟩ = some (.int .i64 er) ∧ w'.cell? ⟨w.heap.size, 10, none⟩ = some (.int .i64 dp) ∧ w'.cell? ⟨w.heap.size, 11, none⟩ = some (.int .i64 dc)) :=
    fun w' hb => ⟨hb, cell_below hb c0, cell_below hb c1, cell_below hb c2, cell_below hb c3, cell_below hb c4, cell_below hb c5, cell_below hb c6, cell_below hb c7, cell_below hb c8, cell_below hb c9, cell_below hb c10, cell_below hb c11⟩
  clear hb1 hbl hd hx hT
  show Calls Tryd.prog 6 #[.agg #[.int .i64 at_, .int .i64 k, .int .i64 p, .int .i64 t, .int .i64 n, .int .i64 a, .int .i64 m, .string u, .string v, .int .i64 er, .int .i64 dp, .int .i64 dc]] w _
  by_cases hu : 300 < (u.size : Int)
  · go_enter Tryd.func6, Tryd.ntmps6
    go_wp2_with fail
    refine (HA.out w1 (Below.refl _ _)).mono ?_
    rintro e w' ⟨rfl, hb⟩
    have HB := Lib.hid hb
    clear hb
    go_wp2_with fail
    go_ret
    exact ⟨rfl, HB1.out.trans (HB.out.mono HB1.out.size)⟩
  · by_cases hv : 300 < (v.size : Int)
    · go_enter Tryd.func6, Tryd.ntmps6
      go_wp2_with fail
      refine (HA.out w1 (Below.refl _ _)).mono ?_
      rintro e w' ⟨rfl, hb⟩
      have HB := Lib.hid hb
      clear hb
      go_wp2_with fail
      go_ret
      exact ⟨rfl, HB1.out.trans (HB.out.mono HB1.out.size)⟩
    · go_enter Tryd.func6, Tryd.ntmps6
      go_wp2_with fail
      go_cut [2] (fun t wc => t = .bool true ∧ Hid (Below w1.heap.size w1 wc))
      case first =>
        go_region_held3 (fun w' => Below w1.heap.size w1 w' ∧ w'.cell? ⟨w.heap.size, 0, none⟩ = some (.int .i64 at_) ∧ w'.cell? ⟨w.heap.size, 1, none⟩ = some (.int .i64 k) ∧ w'.cell? ⟨w.heap.size, 2, none⟩ = some (.int .i64 p) ∧ w'.cell? ⟨w.heap.size, 3, none⟩ = some (.int .i64 t) ∧ w'.cell? ⟨w.heap.size, 4, none⟩ = some (.int .i64 n) ∧ w'.cell? ⟨w.heap.size, 5, none⟩ = some (.int .i64 a) ∧ w'.cell? ⟨w.heap.size, 6, none⟩ = some (.int .i64 m) ∧ w'.cell? ⟨w.heap.size, 7, none⟩ = some (.string u) ∧ w'.cell? ⟨w.heap.size, 8, none⟩ = some (.string v) ∧ w'.cell? ⟨w.heap.size, 9, none⟩ = some (.int .i64 er) ∧ w'.cell? ⟨w.heap.size, 10, none⟩ = some (.int .i64 dp) ∧ w'.cell? ⟨w.heap.size, 11, none⟩ = some (.int .i64 dc))
          (first | exact HCELL.out _ (by assumption) | exact HCELL.out _ (Below.refl _ _).drew | exact HCELL.out _ (Below.refl _ _) | (go_split_ands; exact HCELL.out _ (by assumption)))
          (first | (go_at_call 23; refine (HE.out _ ?_).mono ?_; (first | assumption | exact (Below.refl _ _).drew | exact Below.refl _ _ | (go_split_ands; assumption)); rintro e w' ⟨rfl, hq⟩) | (go_at_call 24; refine (HR.out _ ?_).mono ?_; (first | assumption | exact (Below.refl _ _).drew | exact Below.refl _ _ | (go_split_ands; assumption)); rintro e w' ⟨rfl, hq⟩) | (go_at_call 22; refine (HA.out _ ?_).mono ?_; (first | assumption | exact (Below.refl _ _).drew | exact Below.refl _ _ | (go_split_ands; assumption)); rintro e w' ⟨rfl, hq⟩))
        all_goals
          go_wp2_with fail
          go_meet
          exact ⟨rfl, Lib.hid (by assumption)⟩
      case rest =>
        obtain ⟨rfl, HBY⟩ := hcut
        go_wp2_with fail
        go_ret
        exact ⟨rfl, HB1.out.trans (HBY.out.mono HB1.out.size)⟩
end Go.Proofs.YtmeneoanmfpecaaDoor
