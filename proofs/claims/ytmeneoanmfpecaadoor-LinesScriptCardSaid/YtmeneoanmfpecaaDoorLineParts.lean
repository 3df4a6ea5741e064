/- package lines: which numbers and texts an operation has; its word. -/
import Derived.StillTailTactics
import Derived.WalkSpells
import Derived.Deep.Cut
import Derived.Deep.RegionHeld3
import Derived.Test.YtmeneoanmfpecaaDoorQuote
import Derived.Test.YtmeneoanmfpecaaDoorOpsCheck
namespace Go.Proofs.YtmeneoanmfpecaaDoor
set_option linter.unusedVariables false
set_option linter.unusedSimpArgs false
open Go.RowKit

def numP : Nat → List Nat
  | 2 | 3 | 8 => [1, 3]
  | 4 | 5 | 6 => [1, 2, 3]
  | 7 => [1, 2, 3, 4, 5]
  | 9 => [1, 3, 4]
  | _ => [1]
def textP : Nat → List Nat
  | 0 => [6, 7]
  | 1 => [6]
  | _ => []

theorem thirteen {K : Int} (h0 : 0 ≤ K) (h13 : K < 13) : K = 0 ∨ K = 1 ∨ K = 2 ∨ K = 3 ∨ K = 4 ∨ K = 5 ∨ K = 6 ∨ K = 7 ∨ K = 8 ∨ K = 9 ∨ K = 10 ∨ K = 11 ∨ K = 12 := by omega

set_option maxHeartbeats 4000000 in
set_option maxRecDepth 100000 in
theorem parts_any (K : Int) (h0 : 0 ≤ K) (h13 : K < 13) (w : World) :
    Calls Tryd.prog 122 #[.int .i64 K] w fun e w' => e = .returned (.tuple #[.int .i64 ((numP K.toNat).length : Int), .int .i64 ((textP K.toNat).length : Int)]) ∧ w = w' := by
  rcases thirteen h0 h13 with rfl | rfl | rfl | rfl | rfl | rfl | rfl | rfl | rfl | rfl | rfl | rfl | rfl <;> clear h0 h13
  all_goals
    go_enter Tryd.func122, Tryd.ntmps122
    go_wp2
    go_ret2
    exact ⟨rfl, rfl⟩

def ptrs (b : Nat) (l : List Nat) : List Value := l.map fun i => .pointer (some ⟨b, i, none⟩)
/-- A row of pointers to some of the cells of block b. -/
def PtrsAt (w : World) (b : Nat) (l : List Nat) (e : Ending) (w' : World) : Prop :=
  ∃ g c, e = .returned (.slice (some ⟨g, 0, none⟩) l.length c) ∧ (∀ j (hj : j < l.length), w'.cell? ⟨g, j, none⟩ = some (.pointer (some ⟨b, l[j], none⟩))) ∧ Below w.heap.size w w'

set_option maxHeartbeats 8000000 in
set_option maxRecDepth 100000 in
theorem numbers_any (K : Int) (h0 : 0 ≤ K) (h13 : K < 13) (b : Nat) (w : World) (hc : w.cell? ⟨b, 0, none⟩ = some (.int .i64 K)) :
    Calls Tryd.prog 87 #[.pointer (some ⟨b, 0, none⟩)] w (PtrsAt w b (numP K.toNat)) := by
  have HP := Lib.hid (parts_any K h0 h13 w)
  have hca : ∀ o, (w.alloc o).cell? ⟨b, 0, none⟩ = some (.int .i64 K) := fun o => cell_below ((Below.refl _ _).alloc (Nat.le_refl _) o) hc
  rcases thirteen h0 h13 with rfl | rfl | rfl | rfl | rfl | rfl | rfl | rfl | rfl | rfl | rfl | rfl | rfl <;> clear h0 h13
  · go_enter Tryd.func87, Tryd.ntmps87
    go_wp2_with fail
    refine HP.out.mono ?_
    rintro e w' ⟨rfl, rfl⟩
    go_wp2_with fail
    (go_region_held3 (fun w' => AnyW w') (exact anyW _) (fail))
    go_wp2_with fail
    go_ret
    refine ⟨_, _, rfl, fun j hj => ?_, (by first | exact ((Below.refl _ _).alloc (Nat.le_refl _) _).drew | exact ((((Below.refl _ _).alloc (Nat.le_refl _) _).drew).alloc (by simp) _).drew)⟩
    simp only [show (numP (Int.toNat 0)) = [1] from rfl] at hj ⊢
    simp at hj
    have hj' : j = 0 := by omega
    rcases hj' with rfl <;> first | (simp [World.cell?_alloc_new]; done) | (simp [World.cell?, World.alloc_heap_new]; done) | (simp [World.cell?]; done)
  · go_enter Tryd.func87, Tryd.ntmps87
    go_wp2_with fail
    refine HP.out.mono ?_
    rintro e w' ⟨rfl, rfl⟩
    go_wp2_with fail
    (go_region_held3 (fun w' => AnyW w') (exact anyW _) (fail))
    go_wp2_with fail
    go_ret
    refine ⟨_, _, rfl, fun j hj => ?_, (by first | exact ((Below.refl _ _).alloc (Nat.le_refl _) _).drew | exact ((((Below.refl _ _).alloc (Nat.le_refl _) _).drew).alloc (by simp) _).drew)⟩
    simp only [show (numP (Int.toNat 1)) = [1] from rfl] at hj ⊢
    simp at hj
    have hj' : j = 0 := by omega
    rcases hj' with rfl <;> first | (simp [World.cell?_alloc_new]; done) | (simp [World.cell?, World.alloc_heap_new]; done) | (simp [World.cell?]; done)
  · go_enter Tryd.func87, Tryd.ntmps87
    go_wp2_with fail
    refine HP.out.mono ?_
    rintro e w' ⟨rfl, rfl⟩
    go_wp2_with fail
    (go_region_held3 (fun w' => AnyW w') (exact anyW _) (fail))
    go_wp2_with fail
    (go_region_held3 (fun w' => AnyW w') (exact anyW _) (fail))
    go_wp2_with fail
    go_ret
    refine ⟨_, _, rfl, fun j hj => ?_, (by first | exact ((Below.refl _ _).alloc (Nat.le_refl _) _).drew | exact ((((Below.refl _ _).alloc (Nat.le_refl _) _).drew).alloc (by simp) _).drew)⟩
    simp only [show (numP (Int.toNat 2)) = [1, 3] from rfl] at hj ⊢
    simp at hj
    have hj' : j = 0 ∨ j = 1 := by omega
    rcases hj' with rfl | rfl <;> first | (simp [World.cell?_alloc_new]; done) | (simp [World.cell?, World.alloc_heap_new]; done) | (simp [World.cell?]; done)
  · go_enter Tryd.func87, Tryd.ntmps87
    go_wp2_with fail
    refine HP.out.mono ?_
    rintro e w' ⟨rfl, rfl⟩
    go_wp2_with fail
    (go_region_held3 (fun w' => AnyW w') (exact anyW _) (fail))
    go_wp2_with fail
    (go_region_held3 (fun w' => AnyW w') (exact anyW _) (fail))
    go_wp2_with fail
    go_ret
    refine ⟨_, _, rfl, fun j hj => ?_, (by first | exact ((Below.refl _ _).alloc (Nat.le_refl _) _).drew | exact ((((Below.refl _ _).alloc (Nat.le_refl _) _).drew).alloc (by simp) _).drew)⟩
    simp only [show (numP (Int.toNat 3)) = [1, 3] from rfl] at hj ⊢
    simp at hj
    have hj' : j = 0 ∨ j = 1 := by omega
    rcases hj' with rfl | rfl <;> first | (simp [World.cell?_alloc_new]; done) | (simp [World.cell?, World.alloc_heap_new]; done) | (simp [World.cell?]; done)
  · go_enter Tryd.func87, Tryd.ntmps87
    go_wp2_with fail
    refine HP.out.mono ?_
    rintro e w' ⟨rfl, rfl⟩
    go_wp2_with fail
    (go_region_held3 (fun w' => AnyW w') (exact anyW _) (fail))
    go_wp2_with fail
    go_ret
    refine ⟨_, _, rfl, fun j hj => ?_, (by first | exact ((Below.refl _ _).alloc (Nat.le_refl _) _).drew | exact ((((Below.refl _ _).alloc (Nat.le_refl _) _).drew).alloc (by simp) _).drew)⟩
    simp only [show (numP (Int.toNat 4)) = [1, 2, 3] from rfl] at hj ⊢
    simp at hj
    have hj' : j = 0 ∨ j = 1 ∨ j = 2 := by omega
    rcases hj' with rfl | rfl | rfl <;> first | (simp [World.cell?_alloc_new]; done) | (simp [World.cell?, World.alloc_heap_new]; done) | (simp [World.cell?]; done)
  · go_enter Tryd.func87, Tryd.ntmps87
    go_wp2_with fail
    refine HP.out.mono ?_
    rintro e w' ⟨rfl, rfl⟩
    go_wp2_with fail
    (go_region_held3 (fun w' => AnyW w') (exact anyW _) (fail))
    go_wp2_with fail
    go_ret
    refine ⟨_, _, rfl, fun j hj => ?_, (by first | exact ((Below.refl _ _).alloc (Nat.le_refl _) _).drew | exact ((((Below.refl _ _).alloc (Nat.le_refl _) _).drew).alloc (by simp) _).drew)⟩
    simp only [show (numP (Int.toNat 5)) = [1, 2, 3] from rfl] at hj ⊢
    simp at hj
    have hj' : j = 0 ∨ j = 1 ∨ j = 2 := by omega
    rcases hj' with rfl | rfl | rfl <;> first | (simp [World.cell?_alloc_new]; done) | (simp [World.cell?, World.alloc_heap_new]; done) | (simp [World.cell?]; done)
  · go_enter Tryd.func87, Tryd.ntmps87
    go_wp2_with fail
    refine HP.out.mono ?_
    rintro e w' ⟨rfl, rfl⟩
    go_wp2_with fail
    (go_region_held3 (fun w' => AnyW w') (exact anyW _) (fail))
    go_wp2_with fail
    go_ret
    refine ⟨_, _, rfl, fun j hj => ?_, (by first | exact ((Below.refl _ _).alloc (Nat.le_refl _) _).drew | exact ((((Below.refl _ _).alloc (Nat.le_refl _) _).drew).alloc (by simp) _).drew)⟩
    simp only [show (numP (Int.toNat 6)) = [1, 2, 3] from rfl] at hj ⊢
    simp at hj
    have hj' : j = 0 ∨ j = 1 ∨ j = 2 := by omega
    rcases hj' with rfl | rfl | rfl <;> first | (simp [World.cell?_alloc_new]; done) | (simp [World.cell?, World.alloc_heap_new]; done) | (simp [World.cell?]; done)
  · go_enter Tryd.func87, Tryd.ntmps87
    go_wp2_with fail
    refine HP.out.mono ?_
    rintro e w' ⟨rfl, rfl⟩
    go_wp2_with fail
    (go_region_held3 (fun w' => AnyW w') (exact anyW _) (fail))
    go_wp2_with fail
    go_ret
    refine ⟨_, _, rfl, fun j hj => ?_, (by first | exact ((Below.refl _ _).alloc (Nat.le_refl _) _).drew | exact ((((Below.refl _ _).alloc (Nat.le_refl _) _).drew).alloc (by simp) _).drew)⟩
    simp only [show (numP (Int.toNat 7)) = [1, 2, 3, 4, 5] from rfl] at hj ⊢
    simp at hj
    have hj' : j = 0 ∨ j = 1 ∨ j = 2 ∨ j = 3 ∨ j = 4 := by omega
    rcases hj' with rfl | rfl | rfl | rfl | rfl <;> first | (simp [World.cell?_alloc_new]; done) | (simp [World.cell?, World.alloc_heap_new]; done) | (simp [World.cell?]; done)
  · go_enter Tryd.func87, Tryd.ntmps87
    go_wp2_with fail
    refine HP.out.mono ?_
    rintro e w' ⟨rfl, rfl⟩
    go_wp2_with fail
    (go_region_held3 (fun w' => AnyW w') (exact anyW _) (fail))
    go_wp2_with fail
    (go_region_held3 (fun w' => AnyW w') (exact anyW _) (fail))
    go_wp2_with fail
    go_ret
    refine ⟨_, _, rfl, fun j hj => ?_, (by first | exact ((Below.refl _ _).alloc (Nat.le_refl _) _).drew | exact ((((Below.refl _ _).alloc (Nat.le_refl _) _).drew).alloc (by simp) _).drew)⟩
    simp only [show (numP (Int.toNat 8)) = [1, 3] from rfl] at hj ⊢
    simp at hj
    have hj' : j = 0 ∨ j = 1 := by omega
    rcases hj' with rfl | rfl <;> first | (simp [World.cell?_alloc_new]; done) | (simp [World.cell?, World.alloc_heap_new]; done) | (simp [World.cell?]; done)
  · go_enter Tryd.func87, Tryd.ntmps87
    go_wp2_with fail
    refine HP.out.mono ?_
    rintro e w' ⟨rfl, rfl⟩
    go_wp2_with fail
    (go_region_held3 (fun w' => AnyW w') (exact anyW _) (fail))
    go_wp2_with fail
    (go_region_held3 (fun w' => AnyW w') (exact anyW _) (fail))
    go_wp2_with fail
    go_ret
    refine ⟨_, _, rfl, fun j hj => ?_, (by first | exact ((Below.refl _ _).alloc (Nat.le_refl _) _).drew | exact ((((Below.refl _ _).alloc (Nat.le_refl _) _).drew).alloc (by simp) _).drew)⟩
    simp only [show (numP (Int.toNat 9)) = [1, 3, 4] from rfl] at hj ⊢
    simp at hj
    have hj' : j = 0 ∨ j = 1 ∨ j = 2 := by omega
    rcases hj' with rfl | rfl | rfl <;> first | (simp [World.cell?_alloc_new]; done) | (simp [World.cell?, World.alloc_heap_new]; done) | (simp [World.cell?]; done)
  · go_enter Tryd.func87, Tryd.ntmps87
    go_wp2_with fail
    refine HP.out.mono ?_
    rintro e w' ⟨rfl, rfl⟩
    go_wp2_with fail
    (go_region_held3 (fun w' => AnyW w') (exact anyW _) (fail))
    go_wp2_with fail
    go_ret
    refine ⟨_, _, rfl, fun j hj => ?_, (by first | exact ((Below.refl _ _).alloc (Nat.le_refl _) _).drew | exact ((((Below.refl _ _).alloc (Nat.le_refl _) _).drew).alloc (by simp) _).drew)⟩
    simp only [show (numP (Int.toNat 10)) = [1] from rfl] at hj ⊢
    simp at hj
    have hj' : j = 0 := by omega
    rcases hj' with rfl <;> first | (simp [World.cell?_alloc_new]; done) | (simp [World.cell?, World.alloc_heap_new]; done) | (simp [World.cell?]; done)
  · go_enter Tryd.func87, Tryd.ntmps87
    go_wp2_with fail
    refine HP.out.mono ?_
    rintro e w' ⟨rfl, rfl⟩
    go_wp2_with fail
    (go_region_held3 (fun w' => AnyW w') (exact anyW _) (fail))
    go_wp2_with fail
    go_ret
    refine ⟨_, _, rfl, fun j hj => ?_, (by first | exact ((Below.refl _ _).alloc (Nat.le_refl _) _).drew | exact ((((Below.refl _ _).alloc (Nat.le_refl _) _).drew).alloc (by simp) _).drew)⟩
    simp only [show (numP (Int.toNat 11)) = [1] from rfl] at hj ⊢
    simp at hj
    have hj' : j = 0 := by omega
    rcases hj' with rfl <;> first | (simp [World.cell?_alloc_new]; done) | (simp [World.cell?, World.alloc_heap_new]; done) | (simp [World.cell?]; done)
  · go_enter Tryd.func87, Tryd.ntmps87
    go_wp2_with fail
    refine HP.out.mono ?_
    rintro e w' ⟨rfl, rfl⟩
    go_wp2_with fail
    (go_region_held3 (fun w' => AnyW w') (exact anyW _) (fail))
    go_wp2_with fail
    go_ret
    refine ⟨_, _, rfl, fun j hj => ?_, (by first | exact ((Below.refl _ _).alloc (Nat.le_refl _) _).drew | exact ((((Below.refl _ _).alloc (Nat.le_refl _) _).drew).alloc (by simp) _).drew)⟩
    simp only [show (numP (Int.toNat 12)) = [1] from rfl] at hj ⊢
    simp at hj
    have hj' : j = 0 := by omega
    rcases hj' with rfl <;> first | (simp [World.cell?_alloc_new]; done) | (simp [World.cell?, World.alloc_heap_new]; done) | (simp [World.cell?]; done)
end Go.Proofs.YtmeneoanmfpecaaDoor
