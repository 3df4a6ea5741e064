/- the laws TraceWrites and TraceReads: their walks. -/
import Derived.StillTailTactics
import Derived.Deep.Cut
import Derived.Deep.DeepCutAuto
import Derived.Deep.RegionHeld3
import Derived.Test.YtjmfdacnaodfdaaDoorK8
namespace Go.Proofs.YtjmfdacnaodfdaaDoor
set_option linter.unusedVariables false
set_option linter.unusedSimpArgs false
open Go.RowKit

theorem rawLoop_len : ∀ (n : Nat) (r : Rd) (acc : List RawR), (rawLoop n r acc).1.length ≤ acc.length + n
  | 0, r, acc => by simp [rawLoop]
  | n + 1, r, acc => by
    unfold rawLoop
    split
    · simp only; omega
    · have := rawLoop_len n (takeT r).2 (acc ++ [(takeT r).1])
      simp only [List.length_append, List.length_singleton] at this
      omega
theorem wholeLoop_len : ∀ (l : List RawR) (acc : List EvR), (wholeLoop l acc).1.length ≤ acc.length + l.length
  | [], acc => by simp [wholeLoop]
  | x :: t, acc => by
    unfold wholeLoop
    split
    · simp
    · have := wholeLoop_len t (acc ++ [(wholeM x).1])
      simp only [List.length_append, List.length_cons, List.length_nil] at this ⊢
      omega
theorem readT_len (l : List UInt8) : (readT l).1.length ≤ 400 := by
  have h4 := Rd.num_le ⟨l, 0⟩ 400 (by omega)
  have h5 : (rawLoop ((⟨l, 0⟩ : Rd).num 400).1.toNat ((⟨l, 0⟩ : Rd).num 400).2 []).1.length ≤ 400 := Nat.le_trans (rawLoop_len _ _ _) (by simp only [List.length_nil]; omega)
  unfold readT
  simp only
  split
  · simp
  · exact Nat.le_trans (wholeLoop_len _ _) (by simp only [List.length_nil]; omega)
/-- What Read's callers need to know. -/
theorem readT_post {f : FuncId} {s : List UInt8} {w0 w : World} (hb : Below w0.heap.size w0 w) (h : Calls Tryd.prog f #[.string (bs s)] w (ReadTPost (readT s) w)) :
    Calls Tryd.prog f #[.string (bs s)] w fun e w' => (∃ A c, e = .returned (.tuple #[.slice A (if (readT s).2 = 0 then (readT s).1 else []).length c, .int .i64 (readT s).2]) ∧ EvsAt w' A (if (readT s).2 = 0 then (readT s).1 else [])) ∧ Below w0.heap.size w0 w' := by
  refine h.mono fun e w' h => ?_
  refine ⟨?_, hb.trans (h.2.2.mono hb.size)⟩
  by_cases h0 : (readT s).2 = 0
  · obtain ⟨A, c, rfl, hA⟩ := h.1 h0
    rw [if_pos h0]
    exact ⟨A, c, by rw [h0], hA⟩
  · rw [if_neg h0]
    exact ⟨none, 0, h.2.1 h0, evs_nil _⟩

set_option maxHeartbeats 4000000 in
set_option maxRecDepth 100000 in
theorem traceReads_any (S : ByteArray) (w : World) (hd : Flds w) (h0 : 0 < w.heap.size) :
    Calls Tryd.prog 4 #[.string S] w fun e w' => e = .returned (.bool true) ∧ Below w.heap.size w w' := by
  have HA : Hid (∀ w', Below w.heap.size w w' → Calls Tryd.prog 7 #[] w' fun e w'' => e = .returned (.bool true) ∧ Below w.heap.size w w'') := Lib.hid fun w' hb => (awake40_any w' (hd.below hb) (by have := hb.size; omega)).mono fun e w'' h => ⟨h.1, hb.trans (h.2.mono hb.size)⟩
  by_cases hn : 9000 < (S.size : Int)
  · clear hd h0
    go_enter Tryd.func4, Tryd.ntmps4
    go_wp2_with fail
    refine (HA.out _ (Below.refl _ _)).mono ?_
    rintro e w' ⟨rfl, hb⟩
    have HB := Lib.hid hb
    clear hb
    go_wp2_with fail
    go_ret
    exact ⟨rfl, HB.out⟩
  · have hS : bs S.data.toList = S := rfl
    have hl : S.data.toList.length ≤ 1000000000 := by
      have : S.data.toList.length = S.size := rfl
      omega
    have HT : Hid (∀ w', Below w.heap.size w w' → Calls Tryd.prog 12 #[.string S] w' fun e w'' => (∃ A c, e = .returned (.tuple #[.slice A (if (readT S.data.toList).2 = 0 then (readT S.data.toList).1 else []).length c, .int .i64 (readT S.data.toList).2]) ∧ EvsAt w'' A (if (readT S.data.toList).2 = 0 then (readT S.data.toList).1 else [])) ∧ Below w.heap.size w w'') :=
      Lib.hid fun w' hb => readT_post hb (tread_any S.data.toList hl w' (hd.below hb) (by have := hb.size; omega))
    have HR : Hid (∀ w', Below w.heap.size w w' → Calls Tryd.prog 13 #[.string S] w' fun e w'' => (∃ A c, e = .returned (.tuple #[.slice A (if (readT S.data.toList).2 = 0 then (readT S.data.toList).1 else []).length c, .int .i64 (readT S.data.toList).2]) ∧ EvsAt w'' A (if (readT S.data.toList).2 = 0 then (readT S.data.toList).1 else [])) ∧ Below w.heap.size w w'') :=
      Lib.hid fun w' hb => readT_post hb (rread40_any S.data.toList hl w' (hd.below hb) (by have := hb.size; omega))
    have hL : (if (readT S.data.toList).2 = 0 then (readT S.data.toList).1 else []).length ≤ 1000000 := by
      have := readT_len S.data.toList
      split
      · omega
      · simp
    obtain ⟨L, hLd⟩ : ∃ L, (if (readT S.data.toList).2 = 0 then (readT S.data.toList).1 else []) = L := ⟨_, rfl⟩
    obtain ⟨F, hF⟩ : ∃ F, (readT S.data.toList).2 = F := ⟨_, rfl⟩
    rw [hLd] at HT HR hL
    rw [hF] at HT HR
    have HS : Hid (∀ A B ca cb w', EvsAt w' A L → EvsAt w' B L → Below w.heap.size w w' → Calls Tryd.prog 14 #[.slice A L.length ca, .slice B L.length cb] w' fun e w'' => e = .returned (.bool true) ∧ Below w.heap.size w w'') :=
      Lib.hid fun A B ca cb w' ha hb' hb => (same35_any A B ca cb L hL w' ha hb').mono fun e w'' h => ⟨h.1, hb.trans (h.2.mono hb.size)⟩
    have HK : Hid (∀ A w1 w2, EvsAt w1 A L → Below w1.heap.size w1 w2 → EvsAt w2 A L) := Lib.hid fun A w1 w2 h hb => h.below hb
    have HR2 : Hid (∀ w' A, Below w.heap.size w w' → EvsAt w' A L → Calls Tryd.prog 13 #[.string S] w' fun e w'' => (∃ B c, e = .returned (.tuple #[.slice B L.length c, .int .i64 F]) ∧ EvsAt w'' B L ∧ EvsAt w'' A L) ∧ Below w.heap.size w w'') := Lib.hid fun w' A hb hA => by
      have h := readT_post (Below.refl _ w') (rread40_any S.data.toList hl w' (hd.below hb) (by have := hb.size; omega))
      rw [hLd, hF] at h
      refine h.mono fun e w'' h => ?_
      obtain ⟨⟨B, c, he, hB⟩, hb2⟩ := h
      exact ⟨⟨B, c, he, hB, hA.below hb2⟩, hb.trans (hb2.mono hb.size)⟩
    clear hd h0 hS hl hL hLd hF HR HK
    go_enter Tryd.func4, Tryd.ntmps4
    go_wp2_with fail
    refine (HT.out _ (Below.refl _ _)).mono ?_
    rintro e w1 ⟨⟨A, c, rfl, hA⟩, hb⟩
    have HA1 := Lib.hid hA
    have HB := Lib.hid hb
    clear hb hA
    go_wp2_with fail
    refine (HR2.out _ A HB.out HA1.out).mono ?_
    rintro e w2 ⟨⟨B, c2, rfl, hB, hA2⟩, hb⟩
    have HE2 := Lib.hid (And.intro hA2 hB)
    have HB2 := Lib.hid hb
    clear hb hA2 hB
    go_wp2_with fail
    refine (HS.out A B _ _ _ HE2.out.1 HE2.out.2 HB2.out).mono ?_
    rintro e w3 ⟨rfl, hb⟩
    have HB3 := Lib.hid hb
    clear hb
    go_wp2_with fail
    refine (HA.out _ HB3.out).mono ?_
    rintro e w4 ⟨rfl, hb⟩
    have HB4 := Lib.hid hb
    clear hb
    go_wp2_with fail
    go_ret
    exact ⟨rfl, HB4.out⟩
end Go.Proofs.YtjmfdacnaodfdaaDoor
