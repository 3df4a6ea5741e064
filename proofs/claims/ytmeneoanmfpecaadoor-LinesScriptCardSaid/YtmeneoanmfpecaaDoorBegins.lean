/- The document's 'begins'. -/
import Derived.Deep.QuietTactic
import Derived.BigQuiet
import Derived.WalkLawsBesides
import Derived.Test.YtmeneoanmfpecaaDoorUnquote
import Derived.Test.YtmeneoanmfpecaaDoorShort2
namespace Go.Proofs.YtmeneoanmfpecaaDoor
set_option linter.unusedVariables false
set_option linter.unusedSimpArgs false
open Go.RowKit

theorem cut_eq (s t : ByteArray) (h : t.size ≤ s.size) : ((s.extract 0 t.size).toList == t.toList) = t.data.toList.isPrefixOf s.data.toList := by
  rw [ByteArray.toList_eq, ByteArray.toList_eq, Lib.extract_data, List.drop_zero, Nat.sub_zero]
  have hl : t.data.toList.length = t.size := by simp
  cases hp : t.data.toList.isPrefixOf s.data.toList with
  | true =>
    obtain ⟨r, hr⟩ := List.isPrefixOf_iff_prefix.1 hp
    rw [← hr, ← hl]
    simp
  | false =>
    rw [beq_eq_false_iff_ne]
    intro he
    have : t.data.toList.isPrefixOf s.data.toList = true := List.isPrefixOf_iff_prefix.2 ⟨s.data.toList.drop t.size, by
      conv => lhs; rw [← he]
      exact List.take_append_drop _ _⟩
    rw [this] at hp
    cases hp
theorem cut_eq' (s t : ByteArray) (h : s.size ≤ t.size) : (s.toList == (t.extract 0 s.size).toList) = s.data.toList.isPrefixOf t.data.toList := by
  rw [← cut_eq t s h]
  exact Bool.beq_comm

set_option maxHeartbeats 2000000 in
set_option maxRecDepth 100000 in
theorem begins_any (s t : ByteArray) (hs : s.size ≤ 1000000000000) (ht : t.size ≤ 1000000000000) (w : World) :
    Calls Tryd.prog 85 #[.string s, .string t] w fun e w' => e = .returned (.tuple #[.bool (t.data.toList.isPrefixOf s.data.toList), .bool (decide (s.size < t.size) && s.data.toList.isPrefixOf t.data.toList)]) ∧ Below w.heap.size w w' := by
  by_cases h : t.size ≤ s.size
  · have hd : decide (s.size < t.size) = false := by simp; omega
    have h1 := cut_eq s t h
    obtain ⟨b, hb⟩ : ∃ b, t.data.toList.isPrefixOf s.data.toList = b := ⟨_, rfl⟩
    rw [hd, Bool.false_and, hb]
    rw [hb] at h1
    have h2 : ¬ (s.size : Int) < t.size := by omega
    have h3 : (t.size : Int) ≤ s.size := by omega
    have hmin : min (s.size : Int) (t.size : Int) = (t.size : Int) := by omega
    have h5 : decide (t.size ≤ s.size) = true := by simpa using h
    clear hb
    go_enter Tryd.func85, Tryd.ntmps85
    go_wp2_with fail
    go_quiet (fail)
    go_wp2_with fail
    go_ret2
    exact ⟨rfl, below_drawn (Below.refl _ _) _⟩
  · have hd : decide (s.size < t.size) = true := by simp; omega
    have h1 := cut_eq' s t (by omega)
    have hp : t.data.toList.isPrefixOf s.data.toList = false := by
      cases hp : t.data.toList.isPrefixOf s.data.toList with
      | false => rfl
      | true =>
        have := (List.isPrefixOf_iff_prefix.1 hp).length_le
        have e1 : t.data.toList.length = t.size := by simp
        have e2 : s.data.toList.length = s.size := by simp
        omega
    obtain ⟨b, hb⟩ : ∃ b, s.data.toList.isPrefixOf t.data.toList = b := ⟨_, rfl⟩
    rw [hd, Bool.true_and, hb, hp]
    rw [hb] at h1
    have h2 : (s.size : Int) < t.size := by omega
    have hmin : min (s.size : Int) (t.size : Int) = (s.size : Int) := by omega
    have hmin2 : min s.size t.size = s.size := by omega
    have h3 : ¬ (t.size : Int) ≤ s.size := by omega
    have h5 : decide (t.size ≤ s.size) = false := by simpa using h
    clear hb hp
    go_enter Tryd.func85, Tryd.ntmps85
    go_wp2_with fail
    go_quiet (fail)
    go_wp2_with fail
    go_ret2
    exact ⟨rfl, below_drawn (Below.refl _ _) _⟩
end Go.Proofs.YtmeneoanmfpecaaDoor
