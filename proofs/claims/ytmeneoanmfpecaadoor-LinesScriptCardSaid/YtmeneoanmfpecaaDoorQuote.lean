/- A text in quotes: the program's, and the document's. -/
import Derived.StillTailTactics
import Derived.IntWalk
import Derived.Deep.LoopGhost
import Derived.WalkSpells
import Derived.Deep.Cut
import Derived.Deep.OwnRows
import Derived.Deep.RegionHeld3
import Derived.Deep.AppendLies
import Derived.Test.YtmeneoanmfpecaaDoorBytes
namespace Go.Proofs.YtmeneoanmfpecaaDoor
set_option linter.unusedVariables false
set_option linter.unusedSimpArgs false
open Go.RowKit

def plainB (c : UInt8) : Bool := decide (32 ≤ (c.toNat : Int) ∧ (c.toNat : Int) ≤ 126 ∧ (c.toNat : Int) ≠ 34 ∧ (c.toNat : Int) ≠ 92)
def hexes : List UInt8 := [48, 49, 50, 51, 52, 53, 54, 55, 56, 57, 97, 98, 99, 100, 101, 102]
def oneL (c : UInt8) : List UInt8 := if plainB c = true then [c] else [92, hexes.getD (c.toNat / 16) 0, hexes.getD (c.toNat % 16) 0]
def quoteL (l : List UInt8) : List UInt8 := [34] ++ l.flatMap oneL ++ [34]
theorem oneL_len (c : UInt8) : (oneL c).length ≤ 3 := by unfold oneL; split <;> simp
theorem flat_len (l : List UInt8) : (l.flatMap oneL).length ≤ 3 * l.length := by
  induction l with
  | nil => simp
  | cons c l ih => have := oneL_len c; simp only [List.flatMap_cons, List.length_append, List.length_cons]; omega
theorem flat_succ (l : List UInt8) (k : Nat) (h : k < l.length) : (l.take (k + 1)).flatMap oneL = (l.take k).flatMap oneL ++ oneL l[k] := by
  rw [List.take_succ_eq_append_getElem h, List.flatMap_append]
  simp

def hexS : ByteArray := ⟨#[48, 49, 50, 51, 52, 53, 54, 55, 56, 57, 97, 98, 99, 100, 101, 102]⟩
theorem hexS_at (q : Nat) (h : q < 16) : (hexS[q]'h) = hexes.getD q 0 := by
  have : ∀ q : Fin 16, (hexS[q.val]'q.isLt) = hexes.getD q.val 0 := by decide
  exact this ⟨q, h⟩

set_option maxHeartbeats 1000000 in
theorem plain_walk (c : Int) (b : Bool) (hb : b = decide (32 ≤ c ∧ c ≤ 126 ∧ c ≠ 34 ∧ c ≠ 92)) (w : World) :
    Calls Tryd.prog 82 #[.int .u8 c] w fun e w' => e = .returned (.bool b) ∧ w = w' := by
  have HB := Lib.hid hb
  clear hb
  by_cases h1 : 32 ≤ c
  · by_cases h2 : c ≤ 126
    · by_cases h3 : c = 34
      · subst h3
        go_enter Tryd.func82, Tryd.ntmps82
        go_wp2
        go_ret
        rw [HB.out]
        exact ⟨by simp, rfl⟩
      · have h3' : (c != 34) = true := by simpa using h3
        go_enter Tryd.func82, Tryd.ntmps82
        go_wp2
        go_ret
        rw [HB.out]
        refine ⟨?_, rfl⟩
        by_cases h4 : c = 92
        · simp [h1, h2, h3, h4]
        · simp [h1, h2, h3, h4]
    · go_enter Tryd.func82, Tryd.ntmps82
      go_wp2
      go_ret
      rw [HB.out]
      exact ⟨by simp; omega, rfl⟩
  · go_enter Tryd.func82, Tryd.ntmps82
    go_wp2
    go_ret
    rw [HB.out]
    exact ⟨by simp; omega, rfl⟩
theorem plain_any (c : UInt8) (w : World) : Calls Tryd.prog 82 #[.int .u8 (c.toNat : Int)] w fun e w' => e = .returned (.bool (plainB c)) ∧ w = w' := plain_walk _ _ rfl w
set_option maxHeartbeats 1000000 in
theorem rplain_walk (c : Int) (b : Bool) (hb : b = decide (32 ≤ c ∧ c ≤ 126 ∧ c ≠ 34 ∧ c ≠ 92)) (w : World) :
    Calls Tryd.prog 120 #[.int .u8 c] w fun e w' => e = .returned (.bool b) ∧ w = w' := by
  have HB := Lib.hid hb
  clear hb
  by_cases h1 : 32 ≤ c
  · by_cases h2 : c ≤ 126
    · by_cases h3 : c = 34
      · subst h3
        go_enter Tryd.func120, Tryd.ntmps120
        go_wp2
        go_ret
        rw [HB.out]
        exact ⟨by simp, rfl⟩
      · have h3' : (c != 34) = true := by simpa using h3
        go_enter Tryd.func120, Tryd.ntmps120
        go_wp2
        go_ret
        rw [HB.out]
        refine ⟨?_, rfl⟩
        by_cases h4 : c = 92
        · simp [h1, h2, h3, h4]
        · simp [h1, h2, h3, h4]
    · go_enter Tryd.func120, Tryd.ntmps120
      go_wp2
      go_ret
      rw [HB.out]
      exact ⟨by simp; omega, rfl⟩
  · go_enter Tryd.func120, Tryd.ntmps120
    go_wp2
    go_ret
    rw [HB.out]
    exact ⟨by simp; omega, rfl⟩
theorem rplain_any (c : UInt8) (w : World) : Calls Tryd.prog 120 #[.int .u8 (c.toNat : Int)] w fun e w' => e = .returned (.bool (plainB c)) ∧ w = w' := rplain_walk _ _ rfl w

theorem info_u8 : (Tryd.prog.info? 5).map (fun i => (i.zero, i.size, i.bytes)) = some (some (.int .u8 0), 1, 1) := by kernel_rfl

theorem and15 (c : UInt8) : bits .and .u8 (c.toNat : Int) 15 = (c.toNat : Int) % 16 := by
  have h : ∀ x : Fin 256, bits .and .u8 (x.val : Int) 15 = (x.val : Int) % 16 := by decide +kernel
  exact h ⟨c.toNat, c.toNat_lt⟩

def AnyW (_ : World) : Prop := True
theorem anyW (w : World) : AnyW w := trivial

/-- The two signs of a byte. -/
theorem hex_facts (c : UInt8) : ∃ q r : Nat, q < 16 ∧ r < 16 ∧ c.toNat / 16 = q ∧ c.toNat % 16 = r ∧ IntKind.u8.wrap ((c.toNat : Int).tdiv 16) = (q : Int) ∧ (c.toNat : Int).tmod 16 = (r : Int) ∧ (c.toNat : Int) / 16 = (q : Int) ∧ (c.toNat : Int) % 16 = (r : Int) := by
  have hc := c.toNat_lt
  refine ⟨_, _, by omega, by omega, rfl, rfl, ?_, ?_, by omega, by omega⟩
  · rw [Int.tdiv_eq_ediv_of_nonneg (by omega)]
    unfold IntKind.wrap
    simp [IntKind.signed, IntKind.bits]
    omega
  · rw [Int.tmod_eq_emod_of_nonneg (by omega)]
    omega

set_option maxHeartbeats 1000000 in
set_option maxRecDepth 100000 in
theorem one_any (c : UInt8) (w : World) : Calls Tryd.prog 84 #[.int .u8 (c.toNat : Int)] w fun e w' => e = .returned (.string ⟨(oneL c).toArray⟩) ∧ Below w.heap.size w w' := by
  have HP := Lib.hid (rplain_any c w)
  obtain ⟨b, hb⟩ : ∃ b, plainB c = b := ⟨_, rfl⟩
  rw [hb] at HP
  obtain ⟨q, r, hq, hr, eq, er, e1, e2, _, _⟩ := hex_facts c
  cases b with
  | true =>
    have HO : Hid (oneL c = [c]) := by simp [Hid, oneL, hb]
    obtain ⟨w1, hw1⟩ : ∃ W, w.alloc (.cells #[.int .u8 (c.toNat : Int)] 5) = W := ⟨_, rfl⟩
    have hcv : (convert 76 9 (.slice (some ⟨w.heap.size, 0, none⟩) 1 1)).run Tryd.prog w1 = .ok (.string ⟨[c].toArray⟩) w1 := by
      rw [← hw1]
      exact bytes_string [c] (fun ad hA j u hj => by cases hA; exact cells_new w (byteV [c]) 5 j u hj) (fun h => by cases h)
    have HB1 : Hid (Below w.heap.size w w1) := by rw [← hw1]; exact (Below.refl _ _).alloc (Nat.le_refl _) _
    clear hb e1 e2 eq er
    go_enter Tryd.func84, Tryd.ntmps84
    go_wp2_with fail
    refine HP.out.mono ?_
    rintro e w' ⟨rfl, rfl⟩
    go_wp2_with fail
    go_ret
    rw [HO.out]
    exact ⟨rfl, HB1.out⟩
  | false =>
    obtain ⟨x, hx⟩ : ∃ x, hexS[q]'hq = x := ⟨_, rfl⟩
    obtain ⟨y, hy⟩ : ∃ y, hexS[r]'hr = y := ⟨_, rfl⟩
    have HO : Hid (oneL c = [92, x, y]) := by simp only [Hid, oneL, hb, eq, er]; rw [← hexS_at q hq, ← hexS_at r hr, hx, hy]; rfl
    have HX := Lib.hid hx
    have HY := Lib.hid hy
    have hq0 : (0 : Int) ≤ q := by omega
    have hr0 : (0 : Int) ≤ r := by omega
    have hq1 : (q : Int) < 16 := by omega
    have hr1 : (r : Int) < 16 := by omega
    have hwq : IntKind.u8.wrap (q : Int) = (q : Int) := by
      unfold IntKind.wrap
      simp [IntKind.signed, IntKind.bits]
      omega
    have hqn : ((q : Int)).toNat = q := by omega
    have hrn : ((r : Int)).toNat = r := by omega
    clear hb eq er hx hy
    go_enter Tryd.func84, Tryd.ntmps84
    go_wp2_with fail
    refine HP.out.mono ?_
    rintro e w' ⟨rfl, rfl⟩
    go_upto_region 4 with fail
    go_still_tail 8, (by kernel_rfl)
    rw [show ((⟨#[48, 49, 50, 51, 52, 53, 54, 55, 56, 57, 97, 98, 99, 100, 101, 102]⟩ : ByteArray)[q]'hq) = x from HX.out, show ((⟨#[48, 49, 50, 51, 52, 53, 54, 55, 56, 57, 97, 98, 99, 100, 101, 102]⟩ : ByteArray)[r]'hr) = y from HY.out]
    clear hwq
    change wpList _ _ _ _ _ w.drew
    obtain ⟨w1, hw1⟩ : ∃ W, (w.alloc (.cells #[.int .u8 92, .int .u8 (x.toNat : Int), .int .u8 (y.toNat : Int)] 5)).drew = W := ⟨_, rfl⟩
    have hcv : (convert 76 9 (.slice (some ⟨w.heap.size, 0, none⟩) 3 3)).run Tryd.prog w1 = .ok (.string ⟨[92, x, y].toArray⟩) w1 := by
      refine bytes_string [92, x, y] (fun ad hA j u hj => ?_) (fun h => by cases h)
      cases hA
      rw [← hw1]
      exact cells_new w (byteV [92, x, y]) 5 j u hj
    have HB1 : Hid (Below w.heap.size w w1) := by rw [← hw1]; exact ((Below.refl _ _).alloc (Nat.le_refl _) _).drew
    go_wp2_with fail
    go_ret
    rw [HO.out]
    exact ⟨rfl, HB1.out⟩

set_option maxHeartbeats 1000000 in
set_option maxRecDepth 100000 in
theorem rquote_any (s : ByteArray) (hs : s.size ≤ 140737488351232) (w : World) :
    Calls Tryd.prog 41 #[.string s] w fun e w' => e = .returned (.string ⟨(quoteL s.data.toList).toArray⟩) ∧ Below w.heap.size w w' := by
  have hs' : (s.size : Int) ≤ 140737488351232 := by omega
  obtain ⟨l, hl⟩ : ∃ l, s.data.toList = l := ⟨_, rfl⟩
  have hlen : l.length = s.size := by rw [← hl]; simp
  have hat : ∀ k (h : k < s.size) (h2 : k < l.length), s[k]'h = l[k]'h2 := fun k h h2 => by subst hl; rfl
  have HLE := Lib.hid hlen
  have HAT := Lib.hid hat
  rw [hl]
  clear hl hlen hat
  go_enter Tryd.func41, Tryd.ntmps41
  go_wp2_with fail
  go_loopg [3, 4] s.size (fun n t3 t4 wr => ∃ k : Nat, Hid (n = s.size - k ∧ k ≤ s.size) ∧ t4 = .int .i64 k ∧ t3 = .string ⟨([34] ++ (l.take k).flatMap oneL).toArray⟩ ∧ Hid (Below w.heap.size w wr))
  case atStart => exact ⟨0, ⟨rfl, Nat.zero_le _⟩, rfl, rfl, Below.refl _ _⟩
  case round =>
    obtain ⟨k, HN, rfl, rfl, HB⟩ := hrel
    by_cases hlt : k < s.size
    · have hlt' : (k : Int) < s.size := by omega
      obtain ⟨c, hc⟩ : ∃ c, s[k]'hlt = c := ⟨_, rfl⟩
      have hkl : k < l.length := by have := HLE.out; omega
      have hcl := HAT.out k hlt hkl
      rw [hc] at hcl
      have hsz : ([34] ++ (l.take k).flatMap oneL).length ≤ 3 * 140737488351232 + 1 := by
        have := flat_len (l.take k)
        simp only [List.length_append, List.length_cons, List.length_nil]
        have := List.length_take_le k l
        have := HLE.out
        omega
      obtain ⟨t, ht⟩ : ∃ t : ByteArray, ⟨([34] ++ (l.take k).flatMap oneL).toArray⟩ = t := ⟨_, rfl⟩
      have htz : t.size ≤ 3 * 140737488351232 + 1 := by rw [← ht]; exact hsz
      obtain ⟨o, ho⟩ : ∃ o : ByteArray, ⟨(oneL c).toArray⟩ = o := ⟨_, rfl⟩
      have hoz : o.size ≤ 3 := by rw [← ho]; exact oneL_len c
      have hnext : t ++ o = ⟨([34] ++ (l.take (k + 1)).flatMap oneL).toArray⟩ := by
        rw [flat_succ l k hkl, ← hcl, ← ht, ← ho]
        apply ByteArray.ext
        simp
      rw [ht]
      have HNX := Lib.hid hnext
      have HONE := Lib.hid (one_any c wr)
      rw [ho] at HONE
      have hadd : ¬ 9223372036854775807 < t.size + o.size := by omega
      clear hsz ht htz ho hoz hnext hcl hkl
      go_wp2_with fail
      refine HONE.out.mono ?_
      rintro e w2 ⟨rfl, hb2⟩
      have HB2 : Hid (Below w.heap.size w w2) := HB.out.trans (hb2.mono HB.out.size)
      clear hb2
      go_wp2_with fail
      go_roundg (s.size - (k + 1))
      case rel => exact ⟨k + 1, ⟨rfl, hlt⟩, by go_num, by rw [HNX.out], HB2⟩
      case measure => have := HN.out; omega
    · have hlt' : ¬ (k : Int) < s.size := by omega
      have hk : k = l.length := by have := HN.out; have := HLE.out; omega
      have hsz : ([34] ++ (l.take k).flatMap oneL).length ≤ 3 * 140737488351232 + 1 := by
        have := flat_len (l.take k)
        simp only [List.length_append, List.length_cons, List.length_nil]
        have := List.length_take_le k l
        have := HLE.out
        omega
      obtain ⟨t, ht⟩ : ∃ t : ByteArray, ⟨([34] ++ (l.take k).flatMap oneL).toArray⟩ = t := ⟨_, rfl⟩
      have htz : t.size ≤ 3 * 140737488351232 + 1 := by rw [← ht]; exact hsz
      have hfin : t ++ ⟨#[34]⟩ = ⟨(quoteL l).toArray⟩ := by
        rw [← ht, hk, List.take_length]
        apply ByteArray.ext
        simp [quoteL]
      rw [ht]
      have hadd : ¬ 9223372036854775807 < t.size + 1 := by omega
      have HF := Lib.hid hfin
      clear hsz ht htz hfin hk
      go_wp2_with fail
      go_ret
      rw [← HF.out]
      exact ⟨rfl, HB.out⟩

set_option maxHeartbeats 2000000 in
set_option maxRecDepth 100000 in
theorem quote_any (s : ByteArray) (hs : s.size ≤ 1000000000000) (w : World) :
    Calls Tryd.prog 40 #[.string s] w fun e w' => e = .returned (.string ⟨(quoteL s.data.toList).toArray⟩) ∧ Below w.heap.size w w' := by
  have hs' : (s.size : Int) ≤ 1000000000000 := by omega
  obtain ⟨l, hl⟩ : ∃ l, s.data.toList = l := ⟨_, rfl⟩
  have hlen : l.length = s.size := by rw [← hl]; simp
  have hat : ∀ k (h : k < s.size) (h2 : k < l.length), s[k]'h = l[k]'h2 := fun k h h2 => by subst hl; rfl
  have HLE := Lib.hid hlen
  have HAT := Lib.hid hat
  obtain ⟨i0, hi, hz0, hz1, hz2⟩ := info_parts info_u8
  have HI := Lib.hid (And.intro hi (And.intro hz0 (And.intro hz1 hz2)))
  have hbound : ∀ k, k ≤ s.size → ((l.take k).flatMap oneL).length ≤ 3 * s.size := fun k hk => by
    have := flat_len (l.take k)
    have := List.length_take_le k l
    omega
  have HBD := Lib.hid hbound
  have HSZ : Hid (s.size ≤ 1000000000000) := hs
  rw [hl]
  clear hl hlen hat hi hz0 hz1 hz2 hbound hs
  obtain ⟨w1, hw1⟩ : ∃ W, w.alloc (.cells #[.int .u8 34] 5) = W := ⟨_, rfl⟩
  have hb1 : Below w.heap.size w w1 := by rw [← hw1]; exact (Below.refl _ _).alloc (Nat.le_refl _) _
  have hown1 : w1.ownsRow w.heap.size 5 1 (.slice (some ⟨w.heap.size, 0, none⟩) 1 1) 1 (byteV [34]) := by
    rw [← hw1]
    exact ⟨rfl, .inr ⟨w.heap.size, 1, #[.int .u8 34], rfl, Nat.le_refl _, World.alloc_heap_new _ _, Nat.le_refl _, by simp [maxLen], rfl, rfl⟩⟩
  have HO1 := Lib.hid hown1
  have HB1 := Lib.hid hb1
  clear hb1 hown1
  go_enter Tryd.func40, Tryd.ntmps40
  go_wp2_with fail
  go_loopg [3, 4, 5, 9] s.size (fun n t3 t4 t5 t9 wr => ∃ (k m : Nat) (A : Option Addr) (c : Nat), Hid (n = s.size - k ∧ k ≤ s.size) ∧ t9 = .int .i64 k ∧ t3 = .slice A m c ∧ Hid (wr.ownsRow w.heap.size 5 1 (.slice A m c) m (byteV ([34] ++ (l.take k).flatMap oneL))) ∧ Hid (Below w.heap.size w wr))
  case atStart => exact ⟨0, 1, _, _, ⟨rfl, Nat.zero_le _⟩, rfl, rfl, HO1, HB1⟩
  case round =>
    obtain ⟨k, m, A, cc, HN, rfl, rfl, HO, HB⟩ := hrel
    have hm : m = ([34] ++ (l.take k).flatMap oneL).length := by
      have h1 := HO.out.1
      rw [byteV_length, Nat.mul_one] at h1
      exact h1.symm
    have hm2 : m ≤ 3 * s.size + 1 := by
      have := HBD.out k HN.out.2
      rw [hm]
      simp only [List.length_append, List.length_cons, List.length_nil]
      omega
    by_cases hlt : k < s.size
    · have hlt' : (k : Int) < s.size := by omega
      obtain ⟨c, hc⟩ : ∃ c, s[k]'hlt = c := ⟨_, rfl⟩
      have hkl : k < l.length := by have := HLE.out; omega
      have hcl := HAT.out k hlt hkl
      rw [hc] at hcl
      have hnext : ([34] ++ (l.take (k + 1)).flatMap oneL) = ([34] ++ (l.take k).flatMap oneL) ++ oneL c := by rw [flat_succ l k hkl, ← hcl, List.append_assoc]
      have HNX := Lib.hid hnext
      have HP := Lib.hid (plain_any c wr)
      obtain ⟨b, hb⟩ : ∃ b, plainB c = b := ⟨_, rfl⟩
      rw [hb] at HP
      have HM2 := Lib.hid hm2
      clear hm hm2 hcl hnext hkl
      cases b with
      | true =>
        have HONE : Hid (oneL c = [c]) := by simp [Hid, oneL, hb]
        clear hb
        go_wp2_with fail
        refine HP.out.mono ?_
        rintro e w' ⟨rfl, rfl⟩
        go_wp2_with (at_builtin; refine wpList_append_own _ rfl _ _ 76 rfl w.heap.size 5 i0 (.int .u8 0) 1 1 Tryd.underlying76 HI.out.1 HI.out.2.1 HI.out.2.2.1 HI.out.2.2.2 rfl (by decide) (.slice A m cc) m (byteV ([34] ++ (l.take k).flatMap oneL)) rfl (HO.out.alloc _) ⟨wr.heap.size, 0, none⟩ 1 1 (byteV [c]) rfl rfl (cells_new _ _ _) (byteV_one _) (by have := HM2.out; have := HSZ.out; unfold maxLen; omega) (by have := HM2.out; have := HSZ.out; omega) (by have := HB.out.size; simp; omega) ?_; intro v' w2 hown' hgrow hnil; obtain ⟨A4, c4, hv⟩ := own_shape hown'; subst hv; have HO2 : Hid (w2.ownsRow w.heap.size 5 1 (.slice A4 (m + 1) c4) (m + 1) (byteV ([34] ++ (l.take (k + 1)).flatMap oneL))) := (by rw [HNX.out, HONE.out, byteV_append]; exact hown'); have HB2 : Hid (Below w.heap.size w w2) := (HB.out.trans (((Below.refl wr.heap.size wr).alloc (Nat.le_refl _) (.cells (byteV [c]).toArray 5)).mono HB.out.size)).grown hgrow (by have := HB.out.size; simp; omega) (fun q e => own_ge' HO.out q e); clear hown' hgrow hnil)
        go_roundg (s.size - (k + 1))
        case rel => exact ⟨k + 1, m + 1, A4, c4, ⟨rfl, hlt⟩, by go_num, rfl, HO2, HB2⟩
        case measure => have := HN.out; omega
      | false =>
        obtain ⟨q, r, hq, hr, eq, er, e1, e2, e3, e4⟩ := hex_facts c
        obtain ⟨x, hx⟩ : ∃ x, hexS[q]'hq = x := ⟨_, rfl⟩
        obtain ⟨y, hy⟩ : ∃ y, hexS[r]'hr = y := ⟨_, rfl⟩
        have HONE : Hid (oneL c = [92, x, y]) := by simp only [Hid, oneL, hb, eq, er]; rw [← hexS_at q hq, ← hexS_at r hr, hx, hy]; rfl
        have HX := Lib.hid hx
        have HY := Lib.hid hy
        clear hb hx hy eq er e1 e2
        go_wp2_with fail
        refine HP.out.mono ?_
        rintro e w' ⟨rfl, rfl⟩
        have hwq : IntKind.u8.wrap (q : Int) = (q : Int) := by
          unfold IntKind.wrap
          simp [IntKind.signed, IntKind.bits]
          omega
        have hq0 : (0 : Int) ≤ q := by omega
        have hr0 : (0 : Int) ≤ r := by omega
        have hq1 : (q : Int) < 16 := by omega
        have hr1 : (r : Int) < 16 := by omega
        have hqn : ((q : Int)).toNat = q := by omega
        have hrn : ((r : Int)).toNat = r := by omega
        go_upto_region 8 with fail
        have hand : bits .and .u8 (c.toNat : Int) 15 = (r : Int) := by rw [and15, e4]
        go_region_held3 (fun w' => AnyW w') (exact anyW _)
          (first
            | (refine step_append_lies _ (by rfl) _ _ 76 (by rfl) w.heap.size 5 i0 (.int .u8 0) 1 1 Tryd.underlying76 HI.out.1 HI.out.2.1 HI.out.2.2.1 HI.out.2.2.2 rfl (by omega) (.slice A m cc) m (byteV ([34] ++ (l.take k).flatMap oneL)) (by rfl) ((HO.out.alloc _).drew) ⟨wr.heap.size, 0, none⟩ 3 3 (byteV [92, x, y]) (by rfl) (by rfl) (by rw [← HX.out, ← HY.out]; exact cells_new _ _ _) (byteV_one _) (by omega) (by have := HM2.out; have := HSZ.out; unfold maxLen; omega) (by have := HM2.out; have := HSZ.out; omega) (by have := HB.out.size; simp; omega) (wr.heap.size + 1) (by simp) ?_; intro gg cap w2 hown2 hgrow hat hlt2))
        all_goals
          have HO2 : Hid (w2.ownsRow w.heap.size 5 1 (.slice (some ⟨gg, 0, none⟩) (m + 3) cap) (m + 3) (byteV ([34] ++ (l.take (k + 1)).flatMap oneL))) := by rw [HNX.out, HONE.out, byteV_append]; exact hown2
          have HB2 : Hid (Below w.heap.size w w2) := (HB.out.trans ((((Below.refl wr.heap.size wr).alloc (Nat.le_refl _) _).drew).mono HB.out.size)).grown hgrow (by have := HB.out.size; simp; omega) (fun q e => own_ge' HO.out q e)
          clear hown2 hgrow hat hlt2 hwq hand
          go_wp2_with fail
          go_roundg (s.size - (k + 1))
          case rel => exact ⟨k + 1, m + 3, some ⟨gg, 0, none⟩, cap, ⟨rfl, hlt⟩, by go_num, rfl, HO2, HB2⟩
          case measure => have := HN.out; omega
    · have hlt' : ¬ (k : Int) < s.size := by omega
      have hk : l.take k = l := by
        have := HN.out
        have := HLE.out
        exact List.take_of_length_le (by omega)
      have hq : ([34] ++ (l.take k).flatMap oneL) ++ [34] = quoteL l := by rw [hk]; rfl
      have HQ := Lib.hid hq
      have HM2 := Lib.hid hm2
      have hmq : m + 1 = (quoteL l).length := by rw [← hq, List.length_append, ← hm]; rfl
      have HMQ := Lib.hid hmq
      clear hk hq hm hm2 hmq
      go_wp2_with (at_builtin; refine wpList_append_own _ rfl _ _ 76 rfl w.heap.size 5 i0 (.int .u8 0) 1 1 Tryd.underlying76 HI.out.1 HI.out.2.1 HI.out.2.2.1 HI.out.2.2.2 rfl (by decide) (.slice A m cc) m (byteV ([34] ++ (l.take k).flatMap oneL)) rfl (HO.out.alloc _) ⟨wr.heap.size, 0, none⟩ 1 1 (byteV [34]) rfl rfl (cells_new _ _ _) (byteV_one _) (by have := HM2.out; have := HSZ.out; unfold maxLen; omega) (by have := HM2.out; have := HSZ.out; omega) (by have := HB.out.size; simp; omega) ?_; intro v' w2 hown' hgrow hnil; have HB2 : Hid (Below w.heap.size w w2) := (HB.out.trans (((Below.refl wr.heap.size wr).alloc (Nat.le_refl _) (.cells (byteV [34]).toArray 5)).mono HB.out.size)).grown hgrow (by have := HB.out.size; simp; omega) (fun q e => own_ge' HO.out q e); have hcv := own_string (w := w2) (base := w.heap.size) (v := v') (l := quoteL l) (by rw [← HMQ.out, ← HQ.out, byteV_append]; exact hown'); clear hown' hgrow hnil)
      go_ret
      exact ⟨rfl, HB2.out⟩
end Go.Proofs.YtmeneoanmfpecaaDoor
