/- Chapter 37's examples. -/
import Derived.Test.YtmeneoanmfpecaaDoorReadOp
import Derived.Test.YtmeneoanmfpecaaDoorReadLine
import Derived.Test.YtmeneoanmfpecaaDoorRefCheck
namespace Go.Proofs.YtmeneoanmfpecaaDoor
set_option linter.unusedVariables false
set_option linter.unusedSimpArgs false
open Go.RowKit

theorem itoaOne (i : Nat) (h : i < 10) : Lib.itoa (i : Int) = [UInt8.ofNat (48 + i)] := by rw [Lib.itoa_nonneg, Lib.decDigits_one h]
theorem itoa255 : Lib.itoa 255 = [50, 53, 53] := by
  have h : Lib.itoa ((255 : Nat) : Int) = Lib.decDigits 255 := Lib.itoa_nonneg 255
  have h2 : Lib.decDigits 255 = Lib.decDigits 25 ++ [53] := by rw [Lib.decDigits]; rfl
  have h3 : Lib.decDigits 25 = [50, 53] := by rw [Lib.decDigits_two (by decide) (by decide)]; rfl
  rw [h2, h3] at h
  exact h
def exPut : OpR := ⟨0, 0, 0, 0, 0, 0, ⟨#[97, 47, 98]⟩, ⟨#[120, 10]⟩⟩
def exBend : OpR := ⟨7, 1, 2, 0, 7, 255, ⟨#[]⟩, ⟨#[]⟩⟩
theorem exPut_check : checkM exPut = 0 := by decide +kernel
theorem exBend_check : checkM exBend = 0 := by decide +kernel
theorem exPut_line : lineT exPut = [112, 117, 116, 32, 48, 32, 34, 97, 47, 98, 34, 32, 34, 120, 92, 48, 97, 34] := by
  have h0 : Lib.itoa 0 = [48] := itoaOne 0 (by decide)
  unfold lineT
  rw [if_pos exPut_check]
  simp only [lineM, exPut, Int.toNat_zero, numP, textP, List.flatMap_cons, List.flatMap_nil, OpR.numT, OpR.textT, OpR.num, OpR.text, List.getD_cons_succ, List.getD_cons_zero, h0]
  decide +kernel
theorem exBend_line : lineM exBend = [98, 101, 110, 100, 32, 49, 32, 50, 32, 48, 32, 55, 32, 50, 53, 53] := by
  have h0 : Lib.itoa 0 = [48] := itoaOne 0 (by decide)
  have h1 : Lib.itoa 1 = [49] := itoaOne 1 (by decide)
  have h2 : Lib.itoa 2 = [50] := itoaOne 2 (by decide)
  have h7 : Lib.itoa 7 = [55] := itoaOne 7 (by decide)
  have e7 : ((7 : Int)).toNat = 7 := rfl
  simp only [lineM, exBend, e7, numP, textP, List.flatMap_cons, List.flatMap_nil, OpR.numT, OpR.num, List.getD_cons_succ, List.getD_cons_zero, h0, h1, h2, h7, itoa255]
  decide +kernel
theorem opEq_self (x : OpR) : opEq x x = true := by simp [opEq]

set_option maxHeartbeats 2000000 in
set_option maxRecDepth 100000 in
theorem awake37_any (w : World) (hd : Door2 w) : Calls Tryd.prog 37 #[] w fun e w' => e = .returned (.bool true) ∧ Below w.heap.size w w' := by
  have HL := Lib.hid (line_any exPut w hd.toDoor)
  have HR : Hid (∀ w', Below w.heap.size w w' → Calls Tryd.prog 44 #[.string ⟨#[98, 101, 110, 100, 32, 49, 32, 50, 32, 48, 32, 55, 32, 50, 53, 53]⟩] w' fun e w'' => e = .returned (.tuple #[.agg exBend.cells, .int .i64 0]) ∧ Below w.heap.size w w'') := Lib.hid (fun w' hb => by
    refine (read_any _ (by decide) w' (hd.below hb)).mono fun e w'' h => ⟨?_, hb.trans (h.2.mono hb.size)⟩
    rw [h.1]
    have e1 : (⟨#[98, 101, 110, 100, 32, 49, 32, 50, 32, 48, 32, 55, 32, 50, 53, 53]⟩ : ByteArray).data.toList = lineM exBend := by rw [exBend_line]
    rw [e1, read_line exBend exBend_check])
  rw [exPut_line, exPut_check] at HL
  simp only [OpR.cells, exPut, exBend] at HL HR
  have heq : ∀ w', (Op.equalIn 10000 30 (.agg #[.int .i64 7, .int .i64 1, .int .i64 2, .int .i64 0, .int .i64 7, .int .i64 255, .string ⟨#[]⟩, .string ⟨#[]⟩]) (.agg #[.int .i64 7, .int .i64 1, .int .i64 2, .int .i64 0, .int .i64 7, .int .i64 255, .string ⟨#[]⟩, .string ⟨#[]⟩])).run Tryd.prog w' = .ok true w' := fun w' => by
    have h := op_equal w' exBend exBend
    rw [opEq_self] at h
    exact h
  clear hd
  go_enter Tryd.func37, Tryd.ntmps37
  go_wp2_with fail
  refine HL.out.mono ?_
  rintro e w1 ⟨rfl, hb1⟩
  have HB1 := Lib.hid hb1
  clear hb1
  go_wp2_with fail
  refine (HR.out w1 HB1.out).mono ?_
  rintro e w2 ⟨rfl, hb2⟩
  have HB2 := Lib.hid hb2
  clear hb2
  go_wp2_with fail
  go_ret
  exact ⟨rfl, HB2.out.alloc HB2.out.size _⟩
end Go.Proofs.YtmeneoanmfpecaaDoor
