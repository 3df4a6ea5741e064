/- package lines: an operation's texts; a kind's word. -/
import Derived.StillTailTactics
import Derived.WalkSpells
import Derived.Deep.Cut
import Derived.Deep.RegionHeld3
import Derived.Test.YtmeneoanmfpecaaDoorLineParts
namespace Go.Proofs.YtmeneoanmfpecaaDoor
set_option linter.unusedVariables false
set_option linter.unusedSimpArgs false
open Go.RowKit

def wordsS : ByteArray := ⟨#[32, 112, 117, 116, 32, 100, 101, 108, 32, 116, 105, 99, 107, 32, 100, 114, 97, 119, 32, 115, 101, 110, 100, 32, 100, 114, 111, 112, 32, 116, 119, 105, 99, 101, 32, 98, 101, 110, 100, 32, 102, 117, 115, 101, 32, 99, 114, 97, 115, 104, 32, 115, 116, 97, 114, 116, 32, 99, 111, 109, 112, 97, 99, 116, 32, 98, 117, 114, 121, 32]⟩
def wordL : List (List UInt8) := [[112, 117, 116], [100, 101, 108], [116, 105, 99, 107], [100, 114, 97, 119], [115, 101, 110, 100], [100, 114, 111, 112], [116, 119, 105, 99, 101], [98, 101, 110, 100], [102, 117, 115, 101], [99, 114, 97, 115, 104], [115, 116, 97, 114, 116], [99, 111, 109, 112, 97, 99, 116], [98, 117, 114, 121]]
theorem words_fields : Lib.fields wordsS.data.toList = wordL := by decide +kernel
theorem words_ascii : ∀ (j : Nat) b, wordsS.data.toList[j]? = some b → b.toNat < 128 := by
  have h : wordsS.data.toList.all (fun b => decide (b.toNat < 128)) = true := by decide +kernel
  intro j b hj
  have := List.all_eq_true.1 h b (List.mem_of_getElem? hj)
  simpa using this

theorem fields_any (w : World) (hd : Door w) : Calls Tryd.prog 121 #[.string wordsS] w fun e w' => e = .returned (.slice (some ⟨w.heap.size, 0, none⟩) 13 13) ∧ w' = w.alloc (.cells (wordL.map fun l => Value.string ⟨l.toArray⟩).toArray 9) := by
  have h := Tryd.strings_Fields wordsS w (by decide) words_ascii hd.spc
  rw [words_fields] at h
  exact h

set_option maxHeartbeats 1000000 in
set_option maxRecDepth 100000 in
theorem word_any (K : Nat) (h13 : K < 13) (w : World) (hd : Door w) :
    Calls Tryd.prog 86 #[.int .i64 K] w fun e w' => e = .returned (.string ⟨(wordL.getD K []).toArray⟩) ∧ Below w.heap.size w w' := by
  have HF := Lib.hid (fields_any w hd)
  obtain ⟨w1, hw1⟩ : ∃ W, w.alloc (.cells (wordL.map fun l => Value.string ⟨l.toArray⟩).toArray 9) = W := ⟨_, rfl⟩
  rw [hw1] at HF
  have hb1 : Below w.heap.size w w1 := by rw [← hw1]; exact (Below.refl _ _).alloc (Nat.le_refl _) _
  have hc : w1.cell? ⟨w.heap.size, K, none⟩ = some (.string ⟨(wordL.getD K []).toArray⟩) := by
    rw [← hw1]
    have := cells_new w (wordL.map fun l => Value.string ⟨l.toArray⟩) 9 K (.string ⟨(wordL.getD K []).toArray⟩) (by
      rw [List.getElem?_map, List.getElem?_eq_getElem (by simpa [wordL] using h13), List.getD_eq_getElem?_getD, List.getElem?_eq_getElem (by simpa [wordL] using h13)]
      rfl)
    rw [addr_add] at this
    exact this
  obtain ⟨S, hS⟩ : ∃ S : ByteArray, ⟨(wordL.getD K []).toArray⟩ = S := ⟨_, rfl⟩
  rw [hS] at hc ⊢
  have HB1 := Lib.hid hb1
  have hK0 : (0 : Int) ≤ K := by omega
  have hK1 : (K : Int) < 13 := by omega
  clear hd hb1 hw1 hS
  go_enter Tryd.func86, Tryd.ntmps86
  go_wp2_with fail
  refine HF.out.mono ?_
  rintro e w' ⟨rfl, rfl⟩
  go_wp2_with fail
  go_ret
  exact ⟨rfl, HB1.out⟩

set_option maxHeartbeats 4000000 in
set_option maxRecDepth 100000 in
theorem texts_any (K : Int) (h0 : 0 ≤ K) (h13 : K < 13) (b : Nat) (w : World) (hc : w.cell? ⟨b, 0, none⟩ = some (.int .i64 K)) :
    Calls Tryd.prog 88 #[.pointer (some ⟨b, 0, none⟩)] w (PtrsAt w b (textP K.toNat)) := by
  have HP := Lib.hid (parts_any K h0 h13 w)
  have h3 : textP K.toNat = [] ∨ textP K.toNat = [6] ∨ textP K.toNat = [6, 7] := by
    rcases thirteen h0 h13 with rfl | rfl | rfl | rfl | rfl | rfl | rfl | rfl | rfl | rfl | rfl | rfl | rfl <;> first | exact .inl rfl | exact .inr (.inl rfl) | exact .inr (.inr rfl)
  clear h0 h13
  rcases h3 with h3 | h3 | h3
  all_goals
    rw [h3] at HP ⊢
    obtain ⟨N, hN⟩ : ∃ N : Int, ((numP K.toNat).length : Int) = N := ⟨_, rfl⟩
    rw [hN] at HP
    clear h3 hN
    go_enter Tryd.func88, Tryd.ntmps88
    go_wp2_with fail
    refine HP.out.mono ?_
    rintro e w' ⟨rfl, rfl⟩
    go_wp2_with fail
    go_region_held3 (fun w' => AnyW w') (exact anyW _) (fail)
    go_wp2_with fail
    go_ret
    refine ⟨_, _, rfl, fun j hj => ?_, ((Below.refl _ _).alloc (Nat.le_refl _) _).drew⟩
    simp at hj
    try
      have hj' : j = 0 ∨ j = 1 := by omega
      rcases hj' with rfl | rfl <;> first | omega | (simp [World.cell?_alloc_new]; done) | (simp [World.cell?, World.alloc_heap_new]; done)
end Go.Proofs.YtmeneoanmfpecaaDoor
