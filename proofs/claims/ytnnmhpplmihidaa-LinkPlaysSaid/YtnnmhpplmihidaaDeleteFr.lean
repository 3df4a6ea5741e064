/- slices.Delete at []link.frame, of one element of a row of the call's own. -/
import Derived.Deep.RegionLaw
import Derived.Test.YtnnmhpplmihidaaProg
import Derived.Test.YtnnmhpplmihidaaRd
import Derived.Test.YtnnmhpplmihidaaCloneFr
namespace Go.Proofs.Ytnnmhpplmihidaa
set_option linter.unusedVariables false
set_option linter.unusedSimpArgs false
open Go.RowKit

theorem zero_Fr (w : World) : (zeroValue 94).run Try.prog w = .ok (.agg #[.string ByteArray.empty, .string ByteArray.empty]) w := by kernel_rfl

set_option maxHeartbeats 1000000 in
set_option maxRecDepth 100000 in
theorem delete_Fr (base g n cap i : Nat) (xs : List Value) (h1c : ∀ u ∈ xs, u.oneCell' = true) (w : World) (hi' : i < n) (h : w.ownsRow base 94 2 (.slice (some ⟨g, 0, none⟩) n cap) n xs) :
    Calls Try.prog 55 #[.slice (some ⟨g, 0, none⟩) n cap, .int .i64 i, .int .i64 ((i : Int) + 1)] w fun e w' => e = .returned (.slice (some ⟨g, 0, none⟩) (n - 1) cap) ∧
      w'.ownsRow base 94 2 (.slice (some ⟨g, 0, none⟩) (n - 1) cap) (n - 1) (xs.take (i * 2) ++ xs.drop ((i + 1) * 2)) ∧ w.grownBy w' (some g) ∧ w'.heap.size = w.heap.size := by
  obtain ⟨i0, hi, hz0, hz1, hz2⟩ := info_parts info_Fr
  have hl := h.1
  have hnc : n ≤ cap ∧ cap ≤ maxLen := by
    rcases h.2 with ⟨h', _⟩ | ⟨g', cap', cur, h', hb, hg, hnc, hcm, hcs, htake⟩
    · simp at h'
    · simp only [Value.slice.injEq, Option.some.injEq, Addr.mk.injEq, and_true, true_and] at h'
      obtain ⟨rfl, rfl⟩ := h'
      exact ⟨hnc, hcm⟩
  obtain ⟨hnc, hcm⟩ := hnc
  obtain ⟨news, hnews⟩ : ∃ news, xs.drop ((i + 1) * 2) = news := ⟨_, rfl⟩
  have hlen : news.length = (n - (i + 1)) * 2 := by rw [← hnews, List.length_drop, hl]; omega
  have hdrw : w.drew.ownsRow base 94 2 (.slice (some ⟨g, 0, none⟩) n cap) n xs := h
  obtain ⟨A, hA, hsrc⟩ : ∃ A : Addr, (if cap = i + 1 then (some (⟨g, 0, none⟩ : Addr)) else some ⟨g, (i + 1) * 2, none⟩) = some A ∧ Hid (∀ t u, news[t]? = some u → w.drew.cell? (A.add t) = some u) := by
    by_cases hc : cap = i + 1
    · refine ⟨⟨g, 0, none⟩, by simp [hc], fun t u hu => ?_⟩
      have h0 : news.length = 0 := by rw [hlen]; omega
      rw [List.length_eq_zero_iff.1 h0] at hu
      simp at hu
    · refine ⟨⟨g, (i + 1) * 2, none⟩, by simp [hc], fun t u hu => ?_⟩
      have ht : t < (n - (i + 1)) * 2 := by
        have := (List.getElem?_eq_some_iff.1 hu).1
        rwa [hlen] at this
      rw [Addr.add_lit]
      have hc1 := hdrw.cellAt ((i + 1) * 2 + t) (by omega)
      rw [hc1, ← hu, ← hnews, List.getElem?_drop]
  have s1 : Hid (news.length = (n - (i + 1)) * 2) := hlen
  have s2 : Hid (∀ u ∈ news, u.oneCell' = true) := fun u hu => h1c u (List.mem_of_mem_drop (by rw [hnews]; exact hu))
  have s3 : Hid (∀ t, t < news.length → (w.drew.cell? ⟨g, 0 + i * 2 + t, none⟩).isSome = true ∧ w.drew.frozen? ⟨g, 0 + i * 2 + t, none⟩ = false) := by
    intro t ht
    rw [hlen] at ht
    have hb : 0 + i * 2 + t < n * 2 := by omega
    refine ⟨?_, hdrw.frozenAt _⟩
    rw [hdrw.cellAt _ hb, List.getElem?_eq_getElem (by omega)]; rfl
  obtain ⟨r1, r2, r3⟩ := own_setCells news (0 + i * 2) w.drew xs hdrw
  obtain ⟨W1, hW1⟩ : ∃ W1, w.drew.setCells g (0 + i * 2) news = W1 := ⟨_, rfl⟩
  rw [hW1] at r1 r2 r3
  have hov : overlay xs (0 + i * 2) news = xs.take (i * 2) ++ news ++ xs.drop (i * 2 + news.length) := by
    rw [Nat.zero_add]; exact overlay_eq news xs _ (by omega)
  have hZ : (.agg #[.string ByteArray.empty, .string ByteArray.empty] : Value).cells.size = 2 := by rfl
  have hcl : ∀ ty, (Builtin.clear_ #[87] ty #[.slice (some ⟨g, (n - 1) * 2, none⟩) 1 (cap - (n - 1))]).run Try.prog W1 = .ok (.tuple #[]) (W1.setCells g ((n - 1) * 2) (Builtin.zeroCells (.agg #[.string ByteArray.empty, .string ByteArray.empty] : Value).cells 1).toList) := fun ty =>
    run_clear_rows W1 87 94 ty _ Try.underlying87 (zero_Fr W1) (by simp [Value.cells, Value.oneCell']) g ((n - 1) * 2) 1 _ (by omega) (fun t ht => by
      rw [hZ] at ht
      rw [r1.cellAt _ (by omega), List.getElem?_eq_getElem (by rw [overlay_length]; omega)]; rfl) (fun t ht => by
      rw [hZ] at ht
      exact r1.frozenAt _)
  obtain ⟨q1, q2, q3⟩ := own_setCells (Builtin.zeroCells (.agg #[.string ByteArray.empty, .string ByteArray.empty] : Value).cells 1).toList ((n - 1) * 2) W1 _ r1
  have hq := own_shrink q1 (n - 1) (by omega)
  have hfin : (overlay (overlay xs (0 + i * 2) news) ((n - 1) * 2) (Builtin.zeroCells (.agg #[.string ByteArray.empty, .string ByteArray.empty] : Value).cells 1).toList).take ((n - 1) * 2) = xs.take (i * 2) ++ xs.drop ((i + 1) * 2) := by
    rw [overlay_eq _ _ _ (by rw [zeroCells_length, hZ, overlay_length]; omega), List.append_assoc, List.take_append_of_le_length (by rw [List.length_take, overlay_length]; omega), List.take_take, Nat.min_self, hov, hnews, List.take_append_of_le_length (by rw [List.length_append, List.length_take, hlen]; omega), List.take_of_length_le (by rw [List.length_append, List.length_take, hlen]; omega)]
  rw [hfin] at hq
  have hg1 : w.grownBy (W1.setCells g ((n - 1) * 2) (Builtin.zeroCells (.agg #[.string ByteArray.empty, .string ByteArray.empty] : Value).cells 1).toList) (some g) :=
    ⟨q2.os.trans r2.os, q2.tape.trans r2.tape, q2.output.trans r2.output, Nat.le_trans r2.size q2.size, fun k hk hne => (q2.block k (by rw [r3]; exact hk) hne).trans (r2.block k hk hne)⟩
  have hs1 : (W1.setCells g ((n - 1) * 2) (Builtin.zeroCells (.agg #[.string ByteArray.empty, .string ByteArray.empty] : Value).cells 1).toList).heap.size = w.heap.size := q3.trans r3
  obtain ⟨Z, hZZ⟩ : ∃ Z, (Builtin.zeroCells (.agg #[.string ByteArray.empty, .string ByteArray.empty] : Value).cells 1).toList = Z := ⟨_, rfl⟩
  rw [hZZ] at hq hg1 hs1
  simp only [hZZ] at hcl
  clear hZZ
  have X1 := Lib.hid hq
  have X2 := Lib.hid hg1
  have X3 := Lib.hid hs1
  have X4 := Lib.hid hW1
  clear hq hg1 hs1 hW1 q1 q2 q3 r1 r2 r3 hov hfin hdrw hlen hnews hl h h1c hZ
  unfold maxLen at hcm
  obtain ⟨m, rfl⟩ : ∃ m, n = m + 1 := ⟨n - 1, by omega⟩
  simp only [Nat.add_sub_cancel] at *
  have hic : i ≤ cap := by omega
  have hjc : i + 1 ≤ cap := by omega
  have him : i ≤ m := by omega
  have hi0' : (0 : Int) ≤ (i : Int) + 1 := by omega
  go_enter Try.func55, Try.ntmps55
  go_wp2_with fail
  go_region_law (refine step_append_room rfl (.tmp 22) (.tmp 25) 87 rfl 94 i0 2 Try.underlying87 hi hz1 g 0 i cap (by simp [Act.eval, Act.put]) A (m - i) (cap - (i + 1)) news (by simp [Act.eval, Act.put]) (by have := s1.out; omega) hsrc.out s2.out (by omega) s3.out ?_; rw [X4.out])
  go_wp2_with fail
  go_ret
  exact ⟨rfl, X1.out, X2.out, X3.out⟩
end Go.Proofs.Ytnnmhpplmihidaa
