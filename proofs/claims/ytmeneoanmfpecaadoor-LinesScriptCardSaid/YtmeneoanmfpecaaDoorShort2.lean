/- The document's digest's signs. -/
import Derived.Test.YtmeneoanmfpecaaDoorShort
import Derived.Test.YtmeneoanmfpecaaDoorVec
namespace Go.Proofs.YtmeneoanmfpecaaDoor
set_option linter.unusedVariables false
set_option linter.unusedSimpArgs false
open Go.RowKit

theorem below_drawn {B : Nat} {a w : World} (h : Below B a w) (n : Nat) : Below B a (w.drewN n) := ⟨h.os, h.tape, h.output, h.size, h.block⟩
theorem hex_cut (q : Nat) (h : q < 16) : hexS.extract q (q + 1) = ⟨#[hexes.getD q 0]⟩ := by
  have : ∀ q : Fin 16, hexS.extract q.val (q.val + 1) = ⟨#[hexes.getD q.val 0]⟩ := by decide +kernel
  exact this ⟨q, h⟩

set_option maxHeartbeats 2000000 in
set_option maxRecDepth 100000 in
theorem rhex_any (l : List UInt8) (h32 : l.length = 32) (w : World) :
    Calls Tryd.prog 80 #[.agg (byteV l).toArray] w fun e w' => e = .returned (.string ⟨(hexL l).toArray⟩) ∧ Below w.heap.size w w' := by
  obtain ⟨cs, hcs⟩ : ∃ cs, (byteV l).toArray = cs := ⟨_, rfl⟩
  obtain ⟨w1, hw1⟩ : ∃ W, w.alloc (.cells cs 47) = W := ⟨_, rfl⟩
  have hb1 : Below w.heap.size w w1 := by rw [← hw1]; exact (Below.refl _ _).alloc (Nat.le_refl _) _
  have hbl : w1.heap[w.heap.size]? = some (.cells cs 47 (0, 0)) := by rw [← hw1]; exact World.alloc_heap_new _ _
  have HC : Hid (∀ (k : Nat) (c : UInt8), l[k]? = some c → w1.cell? ⟨w.heap.size, k, none⟩ = some (.int .u8 (c.toNat : Int))) := fun k c hc => by
    rw [cell_of_row _ _ _ _ _ _ hbl, ← hcs]; simp [byteV, hc]
  have HB1 := Lib.hid hb1
  have H32 := Lib.hid h32
  have hz : (hexL l).length = 64 := by rw [hexL_len, h32]
  rw [hcs]
  clear hcs hb1 hbl h32 hz
  go_enter Tryd.func80, Tryd.ntmps80
  go_wp2_with fail
  go_loopg [3, 4] 32 (fun g t3 t4 wr => ∃ k : Nat, Hid (g = 32 - k ∧ k ≤ 32) ∧ t4 = .int .i64 k ∧ t3 = .string ⟨(hexL (l.take k)).toArray⟩ ∧ Hid (Below w1.heap.size w1 wr))
  case atStart => exact ⟨0, ⟨rfl, Nat.zero_le _⟩, rfl, rfl, Below.refl _ _⟩
  case round =>
    obtain ⟨k, HN, rfl, rfl, HB⟩ := hrel
    have hSz : (⟨(hexL (l.take k)).toArray⟩ : ByteArray).size ≤ 64 := by
      show (hexL (l.take k)).length ≤ 64
      rw [hexL_len]
      have := List.length_take_le k l
      have := HN.out
      omega
    obtain ⟨S, hS⟩ : ∃ S : ByteArray, ⟨(hexL (l.take k)).toArray⟩ = S := ⟨_, rfl⟩
    have HS := Lib.hid hS
    rw [hS] at hSz ⊢
    clear hS
    by_cases hlt : k < 32
    · have hlt' : (k : Int) < 32 := by omega
      have hkl : k < l.length := by rw [H32.out]; exact hlt
      obtain ⟨c, hc⟩ : ∃ c, l[k]'hkl = c := ⟨_, rfl⟩
      have hcell := cell_below HB.out (HC.out k c (by rw [List.getElem?_eq_getElem hkl, hc]))
      obtain ⟨q, r, hq, hr, eq, er, e1, e2, e3, e4⟩ := hex_facts c
      have HX : Hid (hexS.extract q (q + 1) = ⟨#[hexes.getD q 0]⟩) := hex_cut q hq
      have HY : Hid (hexS.extract r (r + 1) = ⟨#[hexes.getD r 0]⟩) := hex_cut r hr
      have HNX : Hid (∀ u v, u = hexS.extract q (q + 1) → v = hexS.extract r (r + 1) → S ++ (u ++ v) = ⟨(hexL (l.take (k + 1))).toArray⟩) := fun u v hu hv => by
        rw [hu, hv, HX.out, HY.out, ← HS.out, hexL_succ l k hkl, hc, hexTwo, eq, er]
        apply ByteArray.ext
        simp
      have hwq : IntKind.u8.wrap (q : Int) = (q : Int) := by
        unfold IntKind.wrap
        simp [IntKind.signed, IntKind.bits]
        omega
      have hwq1 : IntKind.u8.wrap ((q : Int) + 1) = (q : Int) + 1 := by
        unfold IntKind.wrap
        simp [IntKind.signed, IntKind.bits]
        omega
      have hwr1 : IntKind.u8.wrap ((r : Int) + 1) = (r : Int) + 1 := by
        unfold IntKind.wrap
        simp [IntKind.signed, IntKind.bits]
        omega
      have hq0 : (0 : Int) ≤ q := by omega
      have hr0 : (0 : Int) ≤ r := by omega
      have hq1 : (q : Int) < 16 := by omega
      have hr1 : (r : Int) < 16 := by omega
      have hqn : ((q : Int)).toNat = q := by omega
      have hrn : ((r : Int)).toNat = r := by omega
      have hqm : ((q : Int) + 1).toNat = q + 1 := by omega
      have hrm : ((r : Int) + 1).toNat = r + 1 := by omega
      clear hc eq er hkl hq hr
      go_wp2_with fail
      go_quiet (fail)
      go_wp2_with fail
      go_roundg (32 - (k + 1))
      case rel => exact ⟨k + 1, ⟨rfl, hlt⟩, by go_num, by rw [← HNX.out _ _ rfl rfl]; rfl, below_drawn HB.out _⟩
      case measure => have := HN.out; omega
    · have hlt' : ¬ (k : Int) < 32 := by omega
      have hk : l.take k = l := List.take_of_length_le (by have := HN.out; have := H32.out; omega)
      have HF : Hid (S = ⟨(hexL l).toArray⟩) := Lib.hid (by rw [← HS.out, hk])
      clear hk
      go_wp2_with fail
      go_ret
      rw [HF.out]
      exact ⟨rfl, HB1.out.trans (HB.out.mono HB1.out.size)⟩

set_option maxHeartbeats 1000000 in
set_option maxRecDepth 100000 in
theorem rshort_any (l : List UInt8) (h32 : l.length = 32) (w : World) :
    Calls Tryd.prog 34 #[.agg (byteV l).toArray] w fun e w' => e = .returned (.string ((⟨(hexL l).toArray⟩ : ByteArray).extract 0 8)) ∧ Below w.heap.size w w' := by
  obtain ⟨cs, hcs⟩ : ∃ cs, (byteV l).toArray = cs := ⟨_, rfl⟩
  have hcsz : cs.size = 32 := by rw [← hcs]; simp [byteV, h32]
  obtain ⟨w1, hw1⟩ : ∃ W, w.alloc (.cells cs 47) = W := ⟨_, rfl⟩
  have hb1 : Below w.heap.size w w1 := by rw [← hw1]; exact (Below.refl _ _).alloc (Nat.le_refl _) _
  have hbl : w1.heap[w.heap.size]? = some (.cells cs 47 (0, 0)) := by rw [← hw1]; exact World.alloc_heap_new _ _
  have HBL := Lib.hid hbl
  have HSZ : Hid ((Tryd.prog.info? 47).map (·.size) = some cs.size) := Lib.hid (by rw [hcsz]; kernel_rfl)
  have HB1 := Lib.hid hb1
  have HC := Lib.hid (rhex_any l h32 w1)
  rw [hcs] at HC
  have hz : (hexL l).length = 64 := by rw [hexL_len, h32]
  obtain ⟨S, hS⟩ : ∃ S : ByteArray, ⟨(hexL l).toArray⟩ = S := ⟨_, rfl⟩
  have hz8 : 8 ≤ S.size := by rw [← hS]; show 8 ≤ (hexL l).length; omega
  rw [hS] at HC
  rw [hcs, hS]
  clear hcs hcsz hb1 hbl h32 hz hS
  go_enter Tryd.func34, Tryd.ntmps34
  go_wp2_with (refine wpList_load_row rfl _ _ rfl w.heap.size rfl _ cs (0, 0) _ HBL.out Tryd.underlying47 rfl HSZ.out ?_)
  refine HC.out.mono ?_
  rintro e w2 ⟨rfl, hb⟩
  have HB := Lib.hid hb
  clear hb
  go_wp2_with fail
  go_ret
  exact ⟨rfl, HB1.out.trans (HB.out.mono HB1.out.size)⟩
end Go.Proofs.YtmeneoanmfpecaaDoor
