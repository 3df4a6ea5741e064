/- package show: a dot's text. -/
import Derived.StillTailTactics
import Derived.Deep.Cut
import Derived.Deep.DeepCutAuto
import Derived.Deep.RegionHeld3
import Derived.Test.YtmeneoanmfpecaaDoorLineText
namespace Go.Proofs.YtmeneoanmfpecaaDoor
set_option linter.unusedVariables false
set_option linter.unusedSimpArgs false
open Go.RowKit

def In64 (x : Int) : Prop := -9223372036854775808 ≤ x ∧ x ≤ 9223372036854775807
def dotT (p c : Int) : List UInt8 := Lib.itoa p ++ 58 :: Lib.itoa c
theorem dotT_bd (p c : Int) (hp : In64 p) (hc : In64 c) : (dotT p c).length ≤ 43 := by
  have := Lib.itoa_length_le p hp.1 hp.2
  have := Lib.itoa_length_le c hc.1 hc.2
  simp [dotT]
  omega

set_option maxHeartbeats 4000000 in
set_option maxRecDepth 100000 in
theorem dot_any (p c : Int) (hp : In64 p) (hc : In64 c) (w : World) (hd : Door w) :
    Calls Tryd.prog 25 #[.agg #[.int .i64 p, .int .i64 c]] w fun e w' => e = .returned (.string ⟨(dotT p c).toArray⟩) ∧ Below w.heap.size w w' := by
  obtain ⟨w1, hw1⟩ : ∃ W, w.alloc (.cells #[.int .i64 p, .int .i64 c] 32) = W := ⟨_, rfl⟩
  have hb1 : Below w.heap.size w w1 := by rw [← hw1]; exact (Below.refl _ _).alloc (Nat.le_refl _) _
  have hbl : w1.heap[w.heap.size]? = some (.cells #[.int .i64 p, .int .i64 c] 32 (0, 0)) := by rw [← hw1]; exact World.alloc_heap_new _ _
  have c0 : w1.cell? ⟨w.heap.size, 0, none⟩ = some (.int .i64 p) := by simp [World.cell?, hbl]
  have c1 : w1.cell? ⟨w.heap.size, 1, none⟩ = some (.int .i64 c) := by simp [World.cell?, hbl]
  have HB1 := Lib.hid hb1
  have HCELL : Hid (∀ w', Below w1.heap.size w1 w' → Below w1.heap.size w1 w' ∧ w'.cell? ⟨w.heap.size, 0, none⟩ = some (.int .i64 p) ∧ w'.cell? ⟨w.heap.size, 1, none⟩ = some (.int .i64 c)) := fun w' hb => ⟨hb, cell_below hb c0, cell_below hb c1⟩
  have HP : Hid (∀ w', Below w1.heap.size w1 w' → Calls Tryd.prog 72 #[.int .i64 p] w' fun e w'' => e = .returned (.string ⟨(Lib.itoa p).toArray⟩) ∧ Below w1.heap.size w1 w'') := fun w' hb => (itoa_any p hp.1 hp.2 w' ((hd.below hb1).below hb)).mono fun e w'' h => ⟨h.1, hb.trans (h.2.mono hb.size)⟩
  have HQ : Hid (∀ w', Below w1.heap.size w1 w' → Calls Tryd.prog 72 #[.int .i64 c] w' fun e w'' => e = .returned (.string ⟨(Lib.itoa c).toArray⟩) ∧ Below w1.heap.size w1 w'') := fun w' hb => (itoa_any c hc.1 hc.2 w' ((hd.below hb1).below hb)).mono fun e w'' h => ⟨h.1, hb.trans (h.2.mono hb.size)⟩
  have hl1 := Lib.itoa_length_le p hp.1 hp.2
  have hl2 := Lib.itoa_length_le c hc.1 hc.2
  obtain ⟨o1, e1⟩ : ∃ o : ByteArray, ⟨(Lib.itoa p).toArray⟩ = o := ⟨_, rfl⟩
  obtain ⟨o2, e2⟩ : ∃ o : ByteArray, ⟨(Lib.itoa c).toArray⟩ = o := ⟨_, rfl⟩
  have hz1 : o1.size ≤ 21 := by rw [← e1]; exact hl1
  have hz2 : o2.size ≤ 21 := by rw [← e2]; exact hl2
  obtain ⟨U, hU⟩ : ∃ U : ByteArray, o1 ++ ⟨#[58]⟩ = U := ⟨_, rfl⟩
  obtain ⟨T, hT⟩ : ∃ T : ByteArray, U ++ o2 = T := ⟨_, rfl⟩
  have hzu : U.size ≤ 22 := by rw [← hU, ByteArray.size_append]; show o1.size + 1 ≤ 22; omega
  have ha1 : ¬ 9223372036854775807 < o1.size + 1 := by omega
  have ha2 : ¬ 9223372036854775807 < U.size + o2.size := by omega
  have HFIN : Hid (T = ⟨(dotT p c).toArray⟩) := by
    rw [← hT, ← hU, ← e1, ← e2]
    apply ByteArray.ext
    simp [dotT]
  rw [e1] at HP
  rw [e2] at HQ
  rw [← HFIN.out]
  clear hbl hb1 hd hl1 hl2 hz1 hz2 hzu e1 e2 hp hc
  go_enter Tryd.func25, Tryd.ntmps25
  go_wp2_with fail
  go_cut [2] (fun t wc => t = .string T ∧ Hid (Below w1.heap.size w1 wc))
  case first =>
    go_region_held3 (fun w' => Below w1.heap.size w1 w' ∧ w'.cell? ⟨w.heap.size, 0, none⟩ = some (.int .i64 p) ∧ w'.cell? ⟨w.heap.size, 1, none⟩ = some (.int .i64 c))
      (first | exact HCELL.out _ (by assumption) | exact HCELL.out _ (Below.refl _ _).drew | exact HCELL.out _ (Below.refl _ _) | (go_split_ands; exact HCELL.out _ (by assumption)))
      (first | (go_at_call 72; refine (HP.out _ ?_).mono ?_; (first | assumption | exact (Below.refl _ _).drew | exact Below.refl _ _ | (go_split_ands; assumption)); rintro e w' ⟨rfl, hq⟩) | (go_at_call 72; refine (HQ.out _ ?_).mono ?_; (first | assumption | exact (Below.refl _ _).drew | exact Below.refl _ _ | (go_split_ands; assumption)); rintro e w' ⟨rfl, hq⟩))
    all_goals
      go_wp2_with fail
      go_meet
      exact ⟨rfl, Lib.hid (by assumption)⟩
  case rest =>
    obtain ⟨rfl, HBY⟩ := hcut
    go_wp2_with fail
    go_ret
    exact ⟨rfl, HB1.out.trans (HBY.out.mono HB1.out.size)⟩

set_option maxHeartbeats 4000000 in
set_option maxRecDepth 100000 in
theorem rdot_any (p c : Int) (hp : In64 p) (hc : In64 c) (w : World) (hd : Door w) :
    Calls Tryd.prog 29 #[.agg #[.int .i64 p, .int .i64 c]] w fun e w' => e = .returned (.string ⟨(dotT p c).toArray⟩) ∧ Below w.heap.size w w' := by
  obtain ⟨w1, hw1⟩ : ∃ W, w.alloc (.cells #[.int .i64 p, .int .i64 c] 32) = W := ⟨_, rfl⟩
  have hb1 : Below w.heap.size w w1 := by rw [← hw1]; exact (Below.refl _ _).alloc (Nat.le_refl _) _
  have hbl : w1.heap[w.heap.size]? = some (.cells #[.int .i64 p, .int .i64 c] 32 (0, 0)) := by rw [← hw1]; exact World.alloc_heap_new _ _
  have c0 : w1.cell? ⟨w.heap.size, 0, none⟩ = some (.int .i64 p) := by simp [World.cell?, hbl]
  have c1 : w1.cell? ⟨w.heap.size, 1, none⟩ = some (.int .i64 c) := by simp [World.cell?, hbl]
  have HB1 := Lib.hid hb1
  have HCELL : Hid (∀ w', Below w1.heap.size w1 w' → Below w1.heap.size w1 w' ∧ w'.cell? ⟨w.heap.size, 0, none⟩ = some (.int .i64 p) ∧ w'.cell? ⟨w.heap.size, 1, none⟩ = some (.int .i64 c)) := fun w' hb => ⟨hb, cell_below hb c0, cell_below hb c1⟩
  have HP : Hid (∀ w', Below w1.heap.size w1 w' → Calls Tryd.prog 72 #[.int .i64 p] w' fun e w'' => e = .returned (.string ⟨(Lib.itoa p).toArray⟩) ∧ Below w1.heap.size w1 w'') := fun w' hb => (itoa_any p hp.1 hp.2 w' ((hd.below hb1).below hb)).mono fun e w'' h => ⟨h.1, hb.trans (h.2.mono hb.size)⟩
  have HQ : Hid (∀ w', Below w1.heap.size w1 w' → Calls Tryd.prog 72 #[.int .i64 c] w' fun e w'' => e = .returned (.string ⟨(Lib.itoa c).toArray⟩) ∧ Below w1.heap.size w1 w'') := fun w' hb => (itoa_any c hc.1 hc.2 w' ((hd.below hb1).below hb)).mono fun e w'' h => ⟨h.1, hb.trans (h.2.mono hb.size)⟩
  have hl1 := Lib.itoa_length_le p hp.1 hp.2
  have hl2 := Lib.itoa_length_le c hc.1 hc.2
  obtain ⟨o1, e1⟩ : ∃ o : ByteArray, ⟨(Lib.itoa p).toArray⟩ = o := ⟨_, rfl⟩
  obtain ⟨o2, e2⟩ : ∃ o : ByteArray, ⟨(Lib.itoa c).toArray⟩ = o := ⟨_, rfl⟩
  have hz1 : o1.size ≤ 21 := by rw [← e1]; exact hl1
  have hz2 : o2.size ≤ 21 := by rw [← e2]; exact hl2
  obtain ⟨U, hU⟩ : ∃ U : ByteArray, o1 ++ ⟨#[58]⟩ = U := ⟨_, rfl⟩
  obtain ⟨T, hT⟩ : ∃ T : ByteArray, U ++ o2 = T := ⟨_, rfl⟩
  have hzu : U.size ≤ 22 := by rw [← hU, ByteArray.size_append]; show o1.size + 1 ≤ 22; omega
  have ha1 : ¬ 9223372036854775807 < o1.size + 1 := by omega
  have ha2 : ¬ 9223372036854775807 < U.size + o2.size := by omega
  have HFIN : Hid (T = ⟨(dotT p c).toArray⟩) := by
    rw [← hT, ← hU, ← e1, ← e2]
    apply ByteArray.ext
    simp [dotT]
  rw [e1] at HP
  rw [e2] at HQ
  rw [← HFIN.out]
  clear hbl hb1 hd hl1 hl2 hz1 hz2 hzu e1 e2 hp hc
  go_enter Tryd.func29, Tryd.ntmps29
  go_wp2_with fail
  go_cut [2] (fun t wc => t = .string T ∧ Hid (Below w1.heap.size w1 wc))
  case first =>
    go_region_held3 (fun w' => Below w1.heap.size w1 w' ∧ w'.cell? ⟨w.heap.size, 0, none⟩ = some (.int .i64 p) ∧ w'.cell? ⟨w.heap.size, 1, none⟩ = some (.int .i64 c))
      (first | exact HCELL.out _ (by assumption) | exact HCELL.out _ (Below.refl _ _).drew | exact HCELL.out _ (Below.refl _ _) | (go_split_ands; exact HCELL.out _ (by assumption)))
      (first | (go_at_call 72; refine (HP.out _ ?_).mono ?_; (first | assumption | exact (Below.refl _ _).drew | exact Below.refl _ _ | (go_split_ands; assumption)); rintro e w' ⟨rfl, hq⟩) | (go_at_call 72; refine (HQ.out _ ?_).mono ?_; (first | assumption | exact (Below.refl _ _).drew | exact Below.refl _ _ | (go_split_ands; assumption)); rintro e w' ⟨rfl, hq⟩))
    all_goals
      go_wp2_with fail
      go_meet
      exact ⟨rfl, Lib.hid (by assumption)⟩
  case rest =>
    obtain ⟨rfl, HBY⟩ := hcut
    go_wp2_with fail
    go_ret
    exact ⟨rfl, HB1.out.trans (HBY.out.mono HB1.out.size)⟩
end Go.Proofs.YtmeneoanmfpecaaDoor
