/- The net of package link: find, Len. -/
import Derived.Test.YtnnmhpplmihidaaNetSend
namespace Go.Proofs.Ytnnmhpplmihidaa
set_option linter.unusedVariables false
set_option linter.unusedSimpArgs false
open Go.RowKit

section
variable {n0 : Nat} {w : World} {O : Nat → Prop} {g : Nat} {peers : Int} {L : Int × Int → List Fr} {mb : Nat} {m : List ((Int × Int) × Value)}

def findM (peers : Int) (L : Int × Int → List Fr) (a b i : Int) : Int × Fr :=
  if thereB peers a b = false then (11, (ByteArray.empty, ByteArray.empty)) else if i < 0 ∨ (L (a, b)).length ≤ i then (3, (ByteArray.empty, ByteArray.empty)) else (0, (L (a, b)).getD i.toNat (ByteArray.empty, ByteArray.empty))

def findRet (peers : Int) (L : Int × Int → List Fr) (a b i : Int) : Value := .tuple #[.agg #[.string (findM peers L a b i).2.1, .string (findM peers L a b i).2.2], .int .i64 (findM peers L a b i).1]

set_option maxHeartbeats 2000000 in
set_option maxRecDepth 100000 in
theorem find_net (h : IsNet n0 w O g peers L mb m) (a b i : Int) :
    Calls Try.prog 54 #[.pointer (some ⟨g, 0, none⟩), .int .i64 a, .int .i64 b, .int .i64 i] w fun e w' => e = .returned (findRet peers L a b i) ∧ Below w.heap.size w w' := by
  obtain ⟨W, hW⟩ : ∃ W, w.alloc (.cells #[.string ⟨#[]⟩, .string ⟨#[]⟩] 94) = W := ⟨_, rfl⟩
  have HB : Below w.heap.size w W := by rw [← hW]; exact (Below.refl _ _).alloc (Nat.le_refl _) _
  have hw := h.moved (Moved.of_below O HB h.hn0)
  have c0 := hw.cell0
  have hbl : W.heap[w.heap.size]? = some (.cells #[.string ⟨#[]⟩, .string ⟨#[]⟩] 94 (0, 0)) := by rw [← hW]; exact World.alloc_heap_new w _
  have b0 : W.cell? ⟨w.heap.size, 0, none⟩ = some (.string ⟨#[]⟩) := by simp [World.cell?, hbl]
  have b1 : W.cell? ⟨w.heap.size, 1, none⟩ = some (.string ⟨#[]⟩) := by simp [World.cell?, hbl]
  have f0 : W.frozen? ⟨w.heap.size, 0, none⟩ = false := by simp [World.frozen?, hbl]
  have f1 : W.frozen? ⟨w.heap.size, 1, none⟩ = false := by simp [World.frozen?, hbl]
  clear hbl
  by_cases ht : thereB peers a b = true
  · have hlist := list_net hw a b ht
    have hm8 := h.most (a, b)
    have HL := Lib.hid hlist
    have HT := Lib.hid ht
    by_cases h1 : i < 0
    · have HF : Hid (findM peers L a b i = (3, (ByteArray.empty, ByteArray.empty))) := by simp [Hid, findM, ht, h1]
      clear h hw hlist ht
      go_enter Try.func54, Try.ntmps54
      go_wp2_with (first
        | (go_at_call 50; refine HL.out.mono ?_; rintro e w' ⟨u, rfl, hrow, hO, rfl⟩; obtain ⟨A, c, rfl⟩ := own_shape hrow)
        | (go_at_call 51; refine (there_net g peers a b _ c0).mono ?_; rintro e w' ⟨rfl, rfl⟩; rw [HT.out]))
      refine bodyPost_ret (v := .tuple #[.agg #[.string ByteArray.empty, .string ByteArray.empty], .int .i64 3]) (by simp [results, Try.results54, go_sem, b0, b1]; try rfl) rfl ⟨by unfold findRet; rw [HF.out], ?_⟩
      exact (HB.setCell (p := ⟨w.heap.size, 0, none⟩) (Nat.le_refl _) _).setCell (p := ⟨w.heap.size, 1, none⟩) (Nat.le_refl _) _
    · by_cases h2 : ((L (a, b)).length : Int) ≤ i
      · have HF : Hid (findM peers L a b i = (3, (ByteArray.empty, ByteArray.empty))) := by simp [Hid, findM, ht, h2]
        clear h hw hlist ht
        go_enter Try.func54, Try.ntmps54
        go_wp2_with (first
          | (go_at_call 50; refine HL.out.mono ?_; rintro e w' ⟨u, rfl, hrow, hO, rfl⟩; obtain ⟨A, c, rfl⟩ := own_shape hrow)
          | (go_at_call 51; refine (there_net g peers a b _ c0).mono ?_; rintro e w' ⟨rfl, rfl⟩; rw [HT.out]))
        refine bodyPost_ret (v := .tuple #[.agg #[.string ByteArray.empty, .string ByteArray.empty], .int .i64 3]) (by simp [results, Try.results54, go_sem, b0, b1]; try rfl) rfl ⟨by unfold findRet; rw [HF.out], ?_⟩
        exact (HB.setCell (p := ⟨w.heap.size, 0, none⟩) (Nat.le_refl _) _).setCell (p := ⟨w.heap.size, 1, none⟩) (Nat.le_refl _) _
      · obtain ⟨n, rfl⟩ := Int.eq_ofNat_of_zero_le (show 0 ≤ i by omega)
        have hn : n < (L (a, b)).length := by omega
        have HF : Hid (findM peers L a b n = (0, (L (a, b))[n])) := by
          have : ¬ ((n : Int) < 0 ∨ ((L (a, b)).length : Int) ≤ n) := by omega
          simp [Hid, findM, ht, this, List.getD_eq_getElem?_getD, hn]
        have hn' : (n : Int) < ((L (a, b)).length : Int) := by omega
        have hcat : Hid (∀ (gr cap : Nat), W.ownsRow n0 94 2 (.slice (some ⟨gr, 0, none⟩) (L (a, b)).length cap) (L (a, b)).length (frCells (L (a, b))) →
            W.cell? ⟨gr, n * 2, none⟩ = some (.string (L (a, b))[n].1) ∧ W.cell? ⟨gr, n * 2 + 1, none⟩ = some (.string (L (a, b))[n].2)) := by
          intro gr cap hr
          have hl := frCells_length (L (a, b))
          exact ⟨(hr.cellAt (n * 2) (by omega)).trans (frCells_at _ n hn).1, (hr.cellAt (n * 2 + 1) (by omega)).trans (frCells_at _ n hn).2⟩
        clear h hw ht hlist
        go_enter Try.func54, Try.ntmps54
        go_wp2_with (first
          | (go_at_call 50; refine HL.out.mono ?_; rintro e w' ⟨u, rfl, hrow, hO, rfl⟩; obtain ⟨gr, cap, rfl, hgr1, hgr2⟩ := hrow.form (Nat.lt_of_le_of_lt (Nat.zero_le _) hn); obtain ⟨e0, e1⟩ := hcat.out gr cap hrow; clear hrow hO)
          | (go_at_call 51; refine (there_net g peers a b _ c0).mono ?_; rintro e w' ⟨rfl, rfl⟩; rw [HT.out]))
        refine bodyPost_ret (v := .tuple #[.agg #[.string (L (a, b))[n].1, .string (L (a, b))[n].2], .int .i64 0]) (by simp [results, Try.results54, go_sem, b0, b1]; try rfl) rfl ⟨by unfold findRet; rw [HF.out], ?_⟩
        exact (HB.setCell (p := ⟨w.heap.size, 0, none⟩) (Nat.le_refl _) _).setCell (p := ⟨w.heap.size, 1, none⟩) (Nat.le_refl _) _
  · have HT := Lib.hid (by simpa using ht : thereB peers a b = false)
    have HF : Hid (findM peers L a b i = (11, (ByteArray.empty, ByteArray.empty))) := by simp at ht; simp [Hid, findM, ht]
    clear h hw ht
    go_enter Try.func54, Try.ntmps54
    go_wp2_with (first
      | (go_at_call 50; refine (list_none g c0 a b HT.out).mono ?_; rintro e w' ⟨rfl, rfl⟩)
      | (go_at_call 51; refine (there_net g peers a b _ c0).mono ?_; rintro e w' ⟨rfl, rfl⟩; rw [HT.out]))
    refine bodyPost_ret (v := .tuple #[.agg #[.string ByteArray.empty, .string ByteArray.empty], .int .i64 11]) (by simp [results, Try.results54, go_sem, b0, b1]; try rfl) rfl ⟨by unfold findRet; rw [HF.out], ?_⟩
    exact (HB.setCell (p := ⟨w.heap.size, 0, none⟩) (Nat.le_refl _) _).setCell (p := ⟨w.heap.size, 1, none⟩) (Nat.le_refl _) _

def lenM (peers : Int) (L : Int × Int → List Fr) (a b : Int) : Nat := if thereB peers a b = false then 0 else (L (a, b)).length

set_option maxHeartbeats 2000000 in
set_option maxRecDepth 100000 in
theorem len_net (h : IsNet n0 w O g peers L mb m) (a b : Int) :
    Calls Try.prog 40 #[.pointer (some ⟨g, 0, none⟩), .int .i64 a, .int .i64 b] w fun e w' => e = .returned (.int .i64 (lenM peers L a b)) ∧ w = w' := by
  have c0 := h.cell0
  by_cases ht : thereB peers a b = true
  · have hlist := list_net h a b ht
    have HL := Lib.hid hlist
    have HF : Hid (lenM peers L a b = (L (a, b)).length) := by simp [Hid, lenM, ht]
    clear h hlist ht
    go_enter Try.func40, Try.ntmps40
    go_wp2_with (go_at_call 50; refine HL.out.mono ?_; rintro e w' ⟨u, rfl, hrow, hO, rfl⟩; obtain ⟨A, c, rfl⟩ := own_shape hrow)
    go_ret
    exact ⟨by rw [HF.out]; rfl, rfl⟩
  · have HT := Lib.hid (by simpa using ht : thereB peers a b = false)
    have HF : Hid (lenM peers L a b = 0) := by simp at ht; simp [Hid, lenM, ht]
    clear h ht
    go_enter Try.func40, Try.ntmps40
    go_wp2_with (go_at_call 50; refine (list_none g c0 a b HT.out).mono ?_; rintro e w' ⟨rfl, rfl⟩)
    go_ret
    exact ⟨by rw [HF.out]; rfl, rfl⟩

set_option maxHeartbeats 2000000 in
set_option maxRecDepth 100000 in
theorem len_nil (a b : Int) (w : World) :
    Calls Try.prog 40 #[.pointer none, .int .i64 a, .int .i64 b] w fun e w' => e = .returned (.int .i64 0) ∧ w = w' := by
  go_enter Try.func40, Try.ntmps40
  go_wp2_with (go_at_call 50; refine (list_nil _ a b).mono ?_; rintro e w' ⟨rfl, rfl⟩)
  go_ret
  exact ⟨rfl, rfl⟩

set_option maxHeartbeats 2000000 in
set_option maxRecDepth 100000 in
theorem find_nil (a b i : Int) (w : World) :
    Calls Try.prog 54 #[.pointer none, .int .i64 a, .int .i64 b, .int .i64 i] w fun e w' => e = .returned (.tuple #[.agg #[.string ByteArray.empty, .string ByteArray.empty], .int .i64 11]) ∧ Below w.heap.size w w' := by
  obtain ⟨W, hW⟩ : ∃ W, w.alloc (.cells #[.string ⟨#[]⟩, .string ⟨#[]⟩] 94) = W := ⟨_, rfl⟩
  have HB : Below w.heap.size w W := by rw [← hW]; exact (Below.refl _ _).alloc (Nat.le_refl _) _
  have hbl : W.heap[w.heap.size]? = some (.cells #[.string ⟨#[]⟩, .string ⟨#[]⟩] 94 (0, 0)) := by rw [← hW]; exact World.alloc_heap_new w _
  have b0 : W.cell? ⟨w.heap.size, 0, none⟩ = some (.string ⟨#[]⟩) := by simp [World.cell?, hbl]
  have b1 : W.cell? ⟨w.heap.size, 1, none⟩ = some (.string ⟨#[]⟩) := by simp [World.cell?, hbl]
  have f0 : W.frozen? ⟨w.heap.size, 0, none⟩ = false := by simp [World.frozen?, hbl]
  have f1 : W.frozen? ⟨w.heap.size, 1, none⟩ = false := by simp [World.frozen?, hbl]
  clear hbl
  go_enter Try.func54, Try.ntmps54
  go_wp2_with (first
    | (go_at_call 50; refine (list_nil _ a b).mono ?_; rintro e w' ⟨rfl, rfl⟩)
    | (go_at_call 51; refine (there_nil a b _).mono ?_; rintro e w' ⟨rfl, rfl⟩))
  refine bodyPost_ret (v := .tuple #[.agg #[.string ByteArray.empty, .string ByteArray.empty], .int .i64 11]) (by simp [results, Try.results54, go_sem, b0, b1]; try rfl) rfl ⟨rfl, ?_⟩
  exact (HB.setCell (p := ⟨w.heap.size, 0, none⟩) (Nat.le_refl _) _).setCell (p := ⟨w.heap.size, 1, none⟩) (Nat.le_refl _) _
end
end Go.Proofs.Ytnnmhpplmihidaa
