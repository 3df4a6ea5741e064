/- package sha: a digest's signs, the program's and the document's; what is shown of them. -/
import Derived.Laws.Rows
import Derived.Deep.QuietTactic
import Derived.BigQuiet
import Derived.Test.YtmeneoanmfpecaaDoorQuote
namespace Go.Proofs.YtmeneoanmfpecaaDoor
set_option linter.unusedVariables false
set_option linter.unusedSimpArgs false
open Go.RowKit

def hexTwo (b : UInt8) : List UInt8 := [hexes.getD (b.toNat / 16) 0, hexes.getD (b.toNat % 16) 0]
def hexL (l : List UInt8) : List UInt8 := l.flatMap hexTwo
theorem hexL_len (l : List UInt8) : (hexL l).length = 2 * l.length := by
  induction l with
  | nil => rfl
  | cons b l ih => simp only [hexL, List.flatMap_cons, List.length_append, List.length_cons] at ih ⊢; rw [ih]; simp [hexTwo]; omega
theorem hexL_succ (l : List UInt8) (k : Nat) (h : k < l.length) : hexL (l.take (k + 1)) = hexL (l.take k) ++ hexTwo l[k] := by
  rw [List.take_succ_eq_append_getElem h, hexL, List.flatMap_append]
  simp [hexL]

theorem index_dig (cs : Array Value) (k : Nat) (hk : k < 32) (v : Value) (h : cs[k]? = some v) (w : World) : (Instr.index 47 (.agg cs) (.int .i64 k)).run Tryd.prog w = .ok v w := by
  have ha : (isAgg 5).run Tryd.prog w = .ok false w := by kernel_rfl
  have hs : (sizeOf 5).run Tryd.prog w = .ok 1 w := by kernel_rfl
  have h0 : (0 : Int) ≤ (k : Int) ∧ (k : Int) < ((32 : Nat) : Int) := by omega
  simp [Instr.index, run_underlying Tryd.underlying47, asIntOf, Sem.run_bind, h0, hs, part, ha, h, Result.andThen]
  intro hn
  omega

set_option maxHeartbeats 2000000 in
set_option maxRecDepth 100000 in
theorem hex_any (l : List UInt8) (h32 : l.length = 32) (w : World) :
    Calls Tryd.prog 79 #[.agg (byteV l).toArray] w fun e w' => e = .returned (.string ⟨(hexL l).toArray⟩) ∧ Below w.heap.size w w' := by
  obtain ⟨cs, hcs⟩ : ∃ cs, (byteV l).toArray = cs := ⟨_, rfl⟩
  have hcsz : cs.size = 32 := by rw [← hcs]; simp [byteV, h32]
  have HIX : Hid (∀ (k : Nat) (hk : k < 32) (c : UInt8), l[k]? = some c → ∀ w', (Instr.index 47 (.agg cs) (.int .i64 k)).run Tryd.prog w' = .ok (.int .u8 (c.toNat : Int)) w') := fun k hk c hc w' => index_dig cs k hk _ (by rw [← hcs]; simp [byteV, hc]) w'
  obtain ⟨w1, hw1⟩ : ∃ W, w.alloc (.cells cs 47) = W := ⟨_, rfl⟩
  have hb1 : Below w.heap.size w w1 := by rw [← hw1]; exact (Below.refl _ _).alloc (Nat.le_refl _) _
  have hbl : w1.heap[w.heap.size]? = some (.cells cs 47 (0, 0)) := by rw [← hw1]; exact World.alloc_heap_new _ _
  have HBL := Lib.hid hbl
  have HSZ : Hid ((Tryd.prog.info? 47).map (·.size) = some cs.size) := Lib.hid (by rw [hcsz]; kernel_rfl)
  have HB1 := Lib.hid hb1
  have H32 := Lib.hid h32
  obtain ⟨i0, hi, hz0, hz1, hz2⟩ := info_parts info_u8
  have HI := Lib.hid (And.intro hi (And.intro hz0 (And.intro hz1 hz2)))
  rw [hcs]
  clear hcs hcsz hb1 hbl h32 hi hz0 hz1 hz2
  go_enter Tryd.func79, Tryd.ntmps79
  go_wp2_with (refine wpList_load_row rfl _ _ rfl w.heap.size rfl _ cs (0, 0) _ HBL.out Tryd.underlying47 rfl HSZ.out ?_)
  go_loopg [3, 5, 7] 32 (fun g t3 t5 t7 wr => ∃ (k m : Nat) (A : Option Addr) (c : Nat), Hid (g = 32 - k ∧ k ≤ 32) ∧ t7 = .int .i64 k ∧ t3 = .slice A m c ∧ Hid (wr.ownsRow w1.heap.size 5 1 (.slice A m c) m (byteV (hexL (l.take k)))) ∧ Hid (Below w1.heap.size w1 wr))
  case atStart => exact ⟨0, 0, none, 0, ⟨rfl, Nat.zero_le _⟩, rfl, rfl, World.ownsRow_nil _ _ _ _, Below.refl _ _⟩
  case round =>
    obtain ⟨k, m, A, cc, HN, rfl, rfl, HO, HB⟩ := hrel
    have hm2 : m ≤ 64 := by
      have h1 := HO.out.1
      rw [byteV_length, Nat.mul_one, hexL_len] at h1
      have := List.length_take_le k l
      have := HN.out
      omega
    by_cases hlt : k < 32
    · have hlt' : (k : Int) < 32 := by omega
      have hkl : k < l.length := by rw [H32.out]; exact hlt
      obtain ⟨c, hc⟩ : ∃ c, l[k]'hkl = c := ⟨_, rfl⟩
      have hix := HIX.out k hlt c (by rw [List.getElem?_eq_getElem hkl, hc])
      have HNX : Hid (byteV (hexL (l.take (k + 1))) = byteV (hexL (l.take k)) ++ byteV (hexTwo c)) := Lib.hid (by rw [hexL_succ l k hkl, hc, byteV_append])
      obtain ⟨q, r, hq, hr, eq, er, e1, e2, e3, e4⟩ := hex_facts c
      obtain ⟨x, hx⟩ : ∃ x, hexS[q]'hq = x := ⟨_, rfl⟩
      obtain ⟨y, hy⟩ : ∃ y, hexS[r]'hr = y := ⟨_, rfl⟩
      have HONE : Hid (hexTwo c = [x, y]) := by simp only [Hid, hexTwo, eq, er]; rw [← hexS_at q hq, ← hexS_at r hr, hx, hy]
      have HX := Lib.hid hx
      have HY := Lib.hid hy
      have HM2 := Lib.hid hm2
      have hwq : IntKind.u8.wrap (q : Int) = (q : Int) := by
        unfold IntKind.wrap
        simp [IntKind.signed, IntKind.bits]
        omega
      have hq0 : (0 : Int) ≤ q := by omega
      have hr0 : (0 : Int) ≤ r := by omega
      have hq1 : (q : Int) < 16 := by omega
      have hr1 : (r : Int) < 16 := by omega
      have hqn : ((q : Int)).toNat = q := by omega
      have hrn : ((r : Int)).toNat = r := by omega
      clear hc hx hy eq er e1 e2 hm2 hkl
      go_upto_region 5 with fail
      have hand : bits .and .u8 (c.toNat : Int) 15 = (r : Int) := by rw [and15, e4]
      go_region_held3 (fun w' => AnyW w') (exact anyW _)
        (first
          | (refine step_append_lies _ (by rfl) _ _ 76 (by rfl) w1.heap.size 5 i0 (.int .u8 0) 1 1 Tryd.underlying76 HI.out.1 HI.out.2.1 HI.out.2.2.1 HI.out.2.2.2 rfl (by omega) (.slice A m cc) m (byteV (hexL (l.take k))) (by rfl) ((HO.out.alloc _).drew) ⟨wr.heap.size, 0, none⟩ 2 2 (byteV [x, y]) (by rfl) (by rfl) (by rw [← HX.out, ← HY.out]; exact cells_new _ _ _) (byteV_one _) (by omega) (by have := HM2.out; unfold maxLen; omega) (by have := HM2.out; omega) (by have := HB.out.size; simp; omega) (wr.heap.size + 1) (by simp) ?_; intro gg cap w2 hown2 hgrow hat hlt2))
      all_goals
        have HO2 : Hid (w2.ownsRow w1.heap.size 5 1 (.slice (some ⟨gg, 0, none⟩) (m + 2) cap) (m + 2) (byteV (hexL (l.take (k + 1))))) := Lib.hid (by rw [HNX.out, HONE.out]; exact hown2)
        have HB2 : Hid (Below w1.heap.size w1 w2) := Lib.hid ((HB.out.trans ((((Below.refl wr.heap.size wr).alloc (Nat.le_refl _) _).drew).mono HB.out.size)).grown hgrow (by have := HB.out.size; simp; omega) (fun q e => own_ge' HO.out q e))
        clear hown2 hgrow hat hlt2 hwq hand hix
        go_wp2_with fail
        go_roundg (32 - (k + 1))
        case rel => exact ⟨k + 1, m + 2, some ⟨gg, 0, none⟩, cap, ⟨rfl, hlt⟩, by go_num, rfl, HO2, HB2⟩
        case measure => have := HN.out; omega
    · have hlt' : ¬ (k : Int) < 32 := by omega
      have ho := HO.out
      have hk : l.take k = l := List.take_of_length_le (by have := HN.out; have := H32.out; omega)
      rw [hk] at ho
      have hm : m = (hexL l).length := by
        have h1 := ho.1
        rw [byteV_length, Nat.mul_one] at h1
        exact h1.symm
      have hcv := own_string (w := wr) (base := w1.heap.size) (v := .slice A m cc) (l := hexL l) (by rw [← hm]; exact ho)
      clear ho hk hm hm2
      go_wp2_with fail
      go_ret
      exact ⟨rfl, HB1.out.trans (HB.out.mono HB1.out.size)⟩

set_option maxHeartbeats 1000000 in
set_option maxRecDepth 100000 in
theorem short_any (l : List UInt8) (h32 : l.length = 32) (w : World) :
    Calls Tryd.prog 33 #[.agg (byteV l).toArray] w fun e w' => e = .returned (.string ((⟨(hexL l).toArray⟩ : ByteArray).extract 0 8)) ∧ Below w.heap.size w w' := by
  obtain ⟨cs, hcs⟩ : ∃ cs, (byteV l).toArray = cs := ⟨_, rfl⟩
  have hcsz : cs.size = 32 := by rw [← hcs]; simp [byteV, h32]
  obtain ⟨w1, hw1⟩ : ∃ W, w.alloc (.cells cs 47) = W := ⟨_, rfl⟩
  have hb1 : Below w.heap.size w w1 := by rw [← hw1]; exact (Below.refl _ _).alloc (Nat.le_refl _) _
  have hbl : w1.heap[w.heap.size]? = some (.cells cs 47 (0, 0)) := by rw [← hw1]; exact World.alloc_heap_new _ _
  have HBL := Lib.hid hbl
  have HSZ : Hid ((Tryd.prog.info? 47).map (·.size) = some cs.size) := Lib.hid (by rw [hcsz]; kernel_rfl)
  have HB1 := Lib.hid hb1
  have HC := Lib.hid (hex_any l h32 w1)
  rw [hcs] at HC
  have hz : (hexL l).length = 64 := by rw [hexL_len, h32]
  obtain ⟨S, hS⟩ : ∃ S : ByteArray, ⟨(hexL l).toArray⟩ = S := ⟨_, rfl⟩
  have hz8 : 8 ≤ S.size := by rw [← hS]; show 8 ≤ (hexL l).length; omega
  rw [hS] at HC
  rw [hcs, hS]
  clear hcs hcsz hb1 hbl h32 hz hS
  go_enter Tryd.func33, Tryd.ntmps33
  go_wp2_with (refine wpList_load_row rfl _ _ rfl w.heap.size rfl _ cs (0, 0) _ HBL.out Tryd.underlying47 rfl HSZ.out ?_)
  refine HC.out.mono ?_
  rintro e w2 ⟨rfl, hb⟩
  have HB := Lib.hid hb
  clear hb
  go_wp2_with fail
  go_ret
  exact ⟨rfl, HB1.out.trans (HB.out.mono HB1.out.size)⟩
end Go.Proofs.YtmeneoanmfpecaaDoor
