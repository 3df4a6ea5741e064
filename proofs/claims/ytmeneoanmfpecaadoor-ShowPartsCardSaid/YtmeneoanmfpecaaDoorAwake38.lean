/- chapter 38's examples. -/
import Derived.Test.YtmeneoanmfpecaaDoorVersion
import Derived.Test.YtmeneoanmfpecaaDoorEvent
namespace Go.Proofs.YtmeneoanmfpecaaDoor
set_option linter.unusedVariables false
set_option linter.unusedSimpArgs false
open Go.RowKit

theorem itoa_digit (i : Nat) (h : i < 10) : Lib.itoa (i : Int) = [UInt8.ofNat (48 + i)] := by rw [Lib.itoa_nonneg, Lib.decDigits_one h]
theorem itoa0 : Lib.itoa 0 = [48] := itoa_digit 0 (by decide)
theorem itoa1 : Lib.itoa 1 = [49] := itoa_digit 1 (by decide)

def exVer (A : Option Addr) (c : Nat) : VerR := ⟨1, 1, A, c, [(0, 1)], false, ⟨#[120]⟩⟩
theorem exVer_text (A : Option Addr) (c : Nat) : verT (exVer A c) = [49, 58, 49, 32, 123, 48, 58, 49, 125, 32, 34, 120, 34] := by
  simp [verT, exVer, dotT, vecT, joinT, dotAt, whatT, itoa0, itoa1, quoteL, oneL, plainB]
theorem exVer_ok (A : Option Addr) (c : Nat) : (exVer A c).Ok := by
  refine ⟨?_, ?_, ?_, ?_, ?_⟩ <;> simp [exVer, In64, DotsOk, ByteArray.size]

def exOp : OpR := ⟨0, 0, 0, 0, 0, 0, ⟨#[97]⟩, ⟨#[120]⟩⟩
def exEv : EvR := ⟨0, exOp, 0, 0, 1⟩
theorem exOp_check : checkM exOp = 0 := by decide +kernel
theorem exEv_text : eventT exEv = [48, 58, 32, 112, 117, 116, 32, 48, 32, 34, 97, 34, 32, 34, 120, 34, 44, 32, 111, 107, 32, 48, 58, 49] := by
  unfold eventT lineT
  simp only [exEv, exOp_check]
  simp [exOp, lineM, wordL, numP, textP, OpR.numT, OpR.num, OpR.textT, OpR.text, itoa0, itoa1, quoteL, oneL, plainB, errT, errL, dotT]
theorem exEv_ok : exEv.ok := by simp [EvR.ok, exEv, In64]

set_option maxHeartbeats 4000000 in
set_option maxRecDepth 100000 in
theorem awake38_any (w : World) (hd : Door w) : Calls Tryd.prog 22 #[] w fun e w' => e = .returned (.bool true) ∧ Below w.heap.size w w' := by
  obtain ⟨W, hW⟩ : ∃ W, ((w.alloc (.cells #[.int .i64 0, .int .i64 1] 32)).alloc (.cells #[.int .i64 1, .int .i64 1, .slice (some ⟨w.heap.size, 0, none⟩) 1 1, .bool false, .string ⟨#[120]⟩] 54)).alloc (.cells #[.int .i64 0, .int .i64 0, .int .i64 0, .int .i64 0, .int .i64 0, .int .i64 0, .int .i64 0, .string ⟨#[97]⟩, .string ⟨#[120]⟩, .int .i64 0, .int .i64 0, .int .i64 1] 34) = W := ⟨_, rfl⟩
  have hbW : Below w.heap.size w W := by
    rw [← hW]
    exact (((Below.refl _ _).alloc (Nat.le_refl _) _).alloc (by simp) _).alloc (by simp; omega) _
  have b2 : W.heap[w.heap.size + 1 + 1]? = some (.cells #[.int .i64 0, .int .i64 0, .int .i64 0, .int .i64 0, .int .i64 0, .int .i64 0, .int .i64 0, .string ⟨#[97]⟩, .string ⟨#[120]⟩, .int .i64 0, .int .i64 0, .int .i64 1] 34 (0, 0)) := by
    have h := World.alloc_heap_new ((w.alloc (.cells #[.int .i64 0, .int .i64 1] 32)).alloc (.cells #[.int .i64 1, .int .i64 1, .slice (some ⟨w.heap.size, 0, none⟩) 1 1, .bool false, .string ⟨#[120]⟩] 54)) (.cells #[.int .i64 0, .int .i64 0, .int .i64 0, .int .i64 0, .int .i64 0, .int .i64 0, .int .i64 0, .string ⟨#[97]⟩, .string ⟨#[120]⟩, .int .i64 0, .int .i64 0, .int .i64 1] 34)
    rw [hW] at h
    simpa using h
  have b1 : W.heap[w.heap.size + 1]? = some (.cells #[.int .i64 1, .int .i64 1, .slice (some ⟨w.heap.size, 0, none⟩) 1 1, .bool false, .string ⟨#[120]⟩] 54 (0, 0)) := by
    have h := World.alloc_heap_new (w.alloc (.cells #[.int .i64 0, .int .i64 1] 32)) (.cells #[.int .i64 1, .int .i64 1, .slice (some ⟨w.heap.size, 0, none⟩) 1 1, .bool false, .string ⟨#[120]⟩] 54)
    rw [← hW, Lib.alloc_old _ _ _ (by simp)]
    simpa using h
  have b0 : W.heap[w.heap.size]? = some (.cells #[.int .i64 0, .int .i64 1] 32 (0, 0)) := by
    rw [← hW, Lib.alloc_old _ _ _ (by simp; omega), Lib.alloc_old _ _ _ (by simp)]
    exact World.alloc_heap_new _ _
  have hdots : DotsAt W (some ⟨w.heap.size, 0, none⟩) [(0, 1)] := by
    intro j hj
    have : j = 0 := by simpa using hj
    subst this
    exact ⟨_, rfl, by simp [World.cell?, b0, Addr.add], by simp [World.cell?, b0, Addr.add]⟩
  have hdW := hd.below hbW
  have HVE : Hid (Calls Tryd.prog 30 #[.agg #[.int .i64 1, .int .i64 1, .slice (some ⟨w.heap.size, 0, none⟩) 1 1, .bool false, .string ⟨#[120]⟩]] W fun e w' => e = .returned (.string ⟨#[49, 58, 49, 32, 123, 48, 58, 49, 125, 32, 34, 120, 34]⟩) ∧ Below W.heap.size W w') := by
    have h := version_any (exVer (some ⟨w.heap.size, 0, none⟩) 1) (exVer_ok _ _) W hdW hdots
    rw [exVer_text] at h
    exact h
  have HEV : Hid (∀ w', Below W.heap.size W w' → Calls Tryd.prog 23 #[.agg #[.int .i64 0, .int .i64 0, .int .i64 0, .int .i64 0, .int .i64 0, .int .i64 0, .int .i64 0, .string ⟨#[97]⟩, .string ⟨#[120]⟩, .int .i64 0, .int .i64 0, .int .i64 1]] w' fun e w'' => e = .returned (.string ⟨#[48, 58, 32, 112, 117, 116, 32, 48, 32, 34, 97, 34, 32, 34, 120, 34, 44, 32, 111, 107, 32, 48, 58, 49]⟩) ∧ Below w'.heap.size w' w'') := fun w' hb => by
    have h := event_any exEv exEv_ok w' (hdW.below hb)
    rw [exEv_text] at h
    exact h
  have e0 : W.cell? ⟨w.heap.size + 1 + 1, 0, none⟩ = some (.int .i64 0) := by simp [World.cell?, b2]
  have e1 : W.cell? ⟨w.heap.size + 1 + 1, 1, none⟩ = some (.int .i64 0) := by simp [World.cell?, b2]
  have e2 : W.cell? ⟨w.heap.size + 1 + 1, 2, none⟩ = some (.int .i64 0) := by simp [World.cell?, b2]
  have e3 : W.cell? ⟨w.heap.size + 1 + 1, 3, none⟩ = some (.int .i64 0) := by simp [World.cell?, b2]
  have e4 : W.cell? ⟨w.heap.size + 1 + 1, 4, none⟩ = some (.int .i64 0) := by simp [World.cell?, b2]
  have e5 : W.cell? ⟨w.heap.size + 1 + 1, 5, none⟩ = some (.int .i64 0) := by simp [World.cell?, b2]
  have e6 : W.cell? ⟨w.heap.size + 1 + 1, 6, none⟩ = some (.int .i64 0) := by simp [World.cell?, b2]
  have e7 : W.cell? ⟨w.heap.size + 1 + 1, 7, none⟩ = some (.string ⟨#[97]⟩) := by simp [World.cell?, b2]
  have e8 : W.cell? ⟨w.heap.size + 1 + 1, 8, none⟩ = some (.string ⟨#[120]⟩) := by simp [World.cell?, b2]
  have e9 : W.cell? ⟨w.heap.size + 1 + 1, 9, none⟩ = some (.int .i64 0) := by simp [World.cell?, b2]
  have e10 : W.cell? ⟨w.heap.size + 1 + 1, 10, none⟩ = some (.int .i64 0) := by simp [World.cell?, b2]
  have e11 : W.cell? ⟨w.heap.size + 1 + 1, 11, none⟩ = some (.int .i64 1) := by simp [World.cell?, b2]
  have v0 : W.cell? ⟨w.heap.size + 1, 0, none⟩ = some (.int .i64 1) := by simp [World.cell?, b1]
  have v1 : W.cell? ⟨w.heap.size + 1, 1, none⟩ = some (.int .i64 1) := by simp [World.cell?, b1]
  have v2 : W.cell? ⟨w.heap.size + 1, 2, none⟩ = some (.slice (some ⟨w.heap.size, 0, none⟩) 1 1) := by simp [World.cell?, b1]
  have v3 : W.cell? ⟨w.heap.size + 1, 3, none⟩ = some (.bool false) := by simp [World.cell?, b1]
  have v4 : W.cell? ⟨w.heap.size + 1, 4, none⟩ = some (.string ⟨#[120]⟩) := by simp [World.cell?, b1]
  have HBW := Lib.hid hbW
  have HCE : Hid (∀ w', Below W.heap.size W w' → w'.cell? ⟨w.heap.size + 1 + 1, 0, none⟩ = some (.int .i64 0) ∧ w'.cell? ⟨w.heap.size + 1 + 1, 1, none⟩ = some (.int .i64 0) ∧ w'.cell? ⟨w.heap.size + 1 + 1, 2, none⟩ = some (.int .i64 0) ∧ w'.cell? ⟨w.heap.size + 1 + 1, 3, none⟩ = some (.int .i64 0) ∧ w'.cell? ⟨w.heap.size + 1 + 1, 4, none⟩ = some (.int .i64 0) ∧ w'.cell? ⟨w.heap.size + 1 + 1, 5, none⟩ = some (.int .i64 0) ∧ w'.cell? ⟨w.heap.size + 1 + 1, 6, none⟩ = some (.int .i64 0) ∧ w'.cell? ⟨w.heap.size + 1 + 1, 7, none⟩ = some (.string ⟨#[97]⟩) ∧ w'.cell? ⟨w.heap.size + 1 + 1, 8, none⟩ = some (.string ⟨#[120]⟩) ∧ w'.cell? ⟨w.heap.size + 1 + 1, 9, none⟩ = some (.int .i64 0) ∧ w'.cell? ⟨w.heap.size + 1 + 1, 10, none⟩ = some (.int .i64 0) ∧ w'.cell? ⟨w.heap.size + 1 + 1, 11, none⟩ = some (.int .i64 1)) := fun w' hb => ⟨cell_below hb e0, cell_below hb e1, cell_below hb e2, cell_below hb e3, cell_below hb e4, cell_below hb e5, cell_below hb e6, cell_below hb e7, cell_below hb e8, cell_below hb e9, cell_below hb e10, cell_below hb e11⟩
  clear b0 b1 b2 hdots hdW hd hbW e0 e1 e2 e3 e4 e5 e6 e7 e8 e9 e10 e11
  go_enter Tryd.func22, Tryd.ntmps22
  go_wp2_with fail
  refine HVE.out.mono ?_
  rintro e w2 ⟨rfl, hb⟩
  have HB2 := Lib.hid hb
  obtain ⟨e0, e1, e2, e3, e4, e5, e6, e7, e8, e9, e10, e11⟩ := HCE.out w2 hb
  clear hb
  go_wp2_with fail
  refine (HEV.out w2 HB2.out).mono ?_
  rintro e w3 ⟨rfl, hb⟩
  have HB3 := Lib.hid (HBW.out.trans ((HB2.out.trans (hb.mono HB2.out.size)).mono HBW.out.size))
  clear hb
  go_wp2_with fail
  go_ret
  exact ⟨rfl, HB3.out⟩
end Go.Proofs.YtmeneoanmfpecaaDoor
