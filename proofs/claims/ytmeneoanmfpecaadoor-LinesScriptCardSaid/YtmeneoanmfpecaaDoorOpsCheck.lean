/- package ops: may an operation be? -/
import Derived.WalkKit
import Derived.WalkSpells
import Derived.IntWalk
import Derived.Lib.Hide
import Derived.Laws.BitsLemmas
import Derived.RangeFuncRecord
import Derived.Deep.LoopGhost
import Derived.Test.YtmeneoanmfpecaaDoorDoor
namespace Go.Proofs.YtmeneoanmfpecaaDoor
set_option linter.unusedVariables false
set_option linter.unusedSimpArgs false
open Go.RowKit

structure OpR where
  k : Int
  p : Int
  t : Int
  n : Int
  a : Int
  m : Int
  u : ByteArray
  v : ByteArray

def OpR.cells (x : OpR) : Array Value := #[.int .i64 x.k, .int .i64 x.p, .int .i64 x.t, .int .i64 x.n, .int .i64 x.a, .int .i64 x.m, .string x.u, .string x.v]

/-- What the first i of some bits come to. -/
def bitsTo (b : Nat → Bool) : Nat → Nat
  | 0 => 0
  | i + 1 => if b i then bitsTo b i ||| 2 ^ i else bitsTo b i

def bools6 (b0 b1 b2 b3 b4 b5 : Bool) (i : Nat) : Bool := [b0, b1, b2, b3, b4, b5].getD i false

theorem or_step : ∀ (b0 b1 b2 b3 b4 b5 : Bool), ∀ i : Fin 6, bits .or .i64 (bitsTo (bools6 b0 b1 b2 b3 b4 b5) i : Int) (2 ^ i.val : Int) = ((bitsTo (bools6 b0 b1 b2 b3 b4 b5) i ||| 2 ^ i.val : Nat) : Int) := by decide +kernel

/-- Has an operation of kind k a field that is not its own? -/
def spareB (b : Nat → Bool) (k : Nat) : Bool := (List.range 6).any fun i => b i && !((fieldsTab.getD k 0).toNat.testBit i)

theorem andNot_step : ∀ (b0 b1 b2 b3 b4 b5 : Bool), ∀ k : Fin 13, (bits .andNot .i64 (bitsTo (bools6 b0 b1 b2 b3 b4 b5) 6 : Int) (fieldsTab.getD k 0) != 0) = spareB (bools6 b0 b1 b2 b3 b4 b5) k := by decide +kernel

theorem index6_0 (b0 b1 b2 b3 b4 b5 : Bool) (w : World) : (Instr.index 164 (.agg #[.bool b0, .bool b1, .bool b2, .bool b3, .bool b4, .bool b5]) (.int .i64 0)).run Tryd.prog w = .ok (.bool b0) w := by
  kernel_rfl
theorem index6_1 (b0 b1 b2 b3 b4 b5 : Bool) (w : World) : (Instr.index 164 (.agg #[.bool b0, .bool b1, .bool b2, .bool b3, .bool b4, .bool b5]) (.int .i64 1)).run Tryd.prog w = .ok (.bool b1) w := by
  kernel_rfl
theorem index6_2 (b0 b1 b2 b3 b4 b5 : Bool) (w : World) : (Instr.index 164 (.agg #[.bool b0, .bool b1, .bool b2, .bool b3, .bool b4, .bool b5]) (.int .i64 2)).run Tryd.prog w = .ok (.bool b2) w := by
  kernel_rfl
theorem index6_3 (b0 b1 b2 b3 b4 b5 : Bool) (w : World) : (Instr.index 164 (.agg #[.bool b0, .bool b1, .bool b2, .bool b3, .bool b4, .bool b5]) (.int .i64 3)).run Tryd.prog w = .ok (.bool b3) w := by
  kernel_rfl
theorem index6_4 (b0 b1 b2 b3 b4 b5 : Bool) (w : World) : (Instr.index 164 (.agg #[.bool b0, .bool b1, .bool b2, .bool b3, .bool b4, .bool b5]) (.int .i64 4)).run Tryd.prog w = .ok (.bool b4) w := by
  kernel_rfl
theorem index6_5 (b0 b1 b2 b3 b4 b5 : Bool) (w : World) : (Instr.index 164 (.agg #[.bool b0, .bool b1, .bool b2, .bool b3, .bool b4, .bool b5]) (.int .i64 5)).run Tryd.prog w = .ok (.bool b5) w := by
  kernel_rfl

def spareM (x : OpR) : Bool := spareB (bools6 (x.t != 0) (x.n != 0) (x.a != 0) (x.m != 0) (!x.u.toList.isEmpty) (!x.v.toList.isEmpty)) x.k.toNat

set_option maxHeartbeats 2000000 in
set_option maxRecDepth 100000 in
theorem spare_any (x : OpR) (w : World) (hd : Flds w) (h0 : 0 ≤ x.k) (h13 : x.k < 13) :
    Calls Tryd.prog 105 #[.agg x.cells] w fun e w' => e = .returned (.bool (spareM x)) ∧ Below w.heap.size w w' := by
  obtain ⟨k, p, t, n, a, m, u, v⟩ := x
  simp only at h0 h13
  obtain ⟨K, rfl⟩ := Int.eq_ofNat_of_zero_le h0
  obtain ⟨w1, hw1⟩ : ∃ W, w.alloc (.cells #[.int .i64 K, .int .i64 p, .int .i64 t, .int .i64 n, .int .i64 a, .int .i64 m, .string u, .string v] 30) = W := ⟨_, rfl⟩
  have hbl : w1.heap[w.heap.size]? = some (.cells #[.int .i64 K, .int .i64 p, .int .i64 t, .int .i64 n, .int .i64 a, .int .i64 m, .string u, .string v] 30 (0, 0)) := by rw [← hw1]; exact World.alloc_heap_new _ _
  have hb1 : Below w.heap.size w w1 := by rw [← hw1]; exact (Below.refl _ _).alloc (Nat.le_refl _) _
  have c0 : w1.cell? ⟨w.heap.size, 0, none⟩ = some (.int .i64 K) := by simp [World.cell?, hbl]
  have c2 : w1.cell? ⟨w.heap.size, 2, none⟩ = some (.int .i64 t) := by simp [World.cell?, hbl]
  have c3 : w1.cell? ⟨w.heap.size, 3, none⟩ = some (.int .i64 n) := by simp [World.cell?, hbl]
  have c4 : w1.cell? ⟨w.heap.size, 4, none⟩ = some (.int .i64 a) := by simp [World.cell?, hbl]
  have c5 : w1.cell? ⟨w.heap.size, 5, none⟩ = some (.int .i64 m) := by simp [World.cell?, hbl]
  have c6 : w1.cell? ⟨w.heap.size, 6, none⟩ = some (.string u) := by simp [World.cell?, hbl]
  have c7 : w1.cell? ⟨w.heap.size, 7, none⟩ = some (.string v) := by simp [World.cell?, hbl]
  have hK : K < 13 := by omega
  have hf := (hd.below hb1).cell K hK
  obtain ⟨F, hF⟩ : ∃ F, fieldsTab.getD K 0 = F := ⟨_, rfl⟩
  obtain ⟨b0, e0⟩ : ∃ b, (t != 0) = b := ⟨_, rfl⟩
  obtain ⟨b1, e1⟩ : ∃ b, (n != 0) = b := ⟨_, rfl⟩
  obtain ⟨b2, e2⟩ : ∃ b, (a != 0) = b := ⟨_, rfl⟩
  obtain ⟨b3, e3⟩ : ∃ b, (m != 0) = b := ⟨_, rfl⟩
  obtain ⟨b4, e4⟩ : ∃ b, (!u.toList.isEmpty) = b := ⟨_, rfl⟩
  obtain ⟨b5, e5⟩ : ∃ b, (!v.toList.isEmpty) = b := ⟨_, rfl⟩
  have han : (bits .andNot .i64 (bitsTo (bools6 b0 b1 b2 b3 b4 b5) 6 : Int) (fieldsTab.getD K 0) != 0) = spareB (bools6 b0 b1 b2 b3 b4 b5) K := andNot_step b0 b1 b2 b3 b4 b5 ⟨K, hK⟩
  have HAN := Lib.hid han
  have HS : Hid (spareM ⟨K, p, t, n, a, m, u, v⟩ = spareB (bools6 b0 b1 b2 b3 b4 b5) K) := by simp [Hid, spareM, e0, e1, e2, e3, e4, e5]
  rw [hF] at hf
  have HF := Lib.hid hF
  have HB1 := Lib.hid hb1
  have hK' : (K : Int) < 13 := by omega
  clear hbl hb1 hd hF han hK h0 h13
  show Calls Tryd.prog 105 #[.agg #[.int .i64 K, .int .i64 p, .int .i64 t, .int .i64 n, .int .i64 a, .int .i64 m, .string u, .string v]] w _
  go_enter Tryd.func105, Tryd.ntmps105
  go_wp2_with fail
  go_loopg [3, 4, 5, 25] 6 (fun n t3 t4 t5 t25 wr => w1 = wr ∧ (n = 6 ∧ t25 = .int .i64 0 ∧ t3 = .int .i64 (bitsTo (bools6 b0 b1 b2 b3 b4 b5) 0 : Int) ∨ n = 5 ∧ t25 = .int .i64 1 ∧ t3 = .int .i64 (bitsTo (bools6 b0 b1 b2 b3 b4 b5) 1 : Int) ∨ n = 4 ∧ t25 = .int .i64 2 ∧ t3 = .int .i64 (bitsTo (bools6 b0 b1 b2 b3 b4 b5) 2 : Int) ∨ n = 3 ∧ t25 = .int .i64 3 ∧ t3 = .int .i64 (bitsTo (bools6 b0 b1 b2 b3 b4 b5) 3 : Int) ∨ n = 2 ∧ t25 = .int .i64 4 ∧ t3 = .int .i64 (bitsTo (bools6 b0 b1 b2 b3 b4 b5) 4 : Int) ∨ n = 1 ∧ t25 = .int .i64 5 ∧ t3 = .int .i64 (bitsTo (bools6 b0 b1 b2 b3 b4 b5) 5 : Int) ∨ n = 0 ∧ t25 = .int .i64 6 ∧ t3 = .int .i64 (bitsTo (bools6 b0 b1 b2 b3 b4 b5) 6 : Int)))
  case atStart => exact ⟨rfl, .inl ⟨rfl, rfl, rfl⟩⟩
  case round =>
    have hOR := or_step b0 b1 b2 b3 b4 b5
    have HOR := Lib.hid hOR
    clear hOR
    obtain ⟨rfl, ⟨rfl, rfl, rfl⟩ | ⟨rfl, rfl, rfl⟩ | ⟨rfl, rfl, rfl⟩ | ⟨rfl, rfl, rfl⟩ | ⟨rfl, rfl, rfl⟩ | ⟨rfl, rfl, rfl⟩ | ⟨rfl, rfl, rfl⟩⟩ := hrel
    · obtain ⟨N, hN⟩ : ∃ N : Nat, bitsTo (bools6 b0 b1 b2 b3 b4 b5) 0 = N := ⟨_, rfl⟩
      rw [hN]
      have HN := Lib.hid hN
      clear hN
      have ho := HOR.out ⟨0, by decide⟩
      by_cases hb0 : b0 = true
      · have q : ∀ w, (Instr.index 164 (.agg #[.bool b0, .bool b1, .bool b2, .bool b3, .bool b4, .bool b5]) (.int .i64 0)).run Tryd.prog w = .ok (.bool true) w := fun w => (index6_0 b0 b1 b2 b3 b4 b5 w).trans (by rw [hb0])
        have h1 : bits .or .i64 (N : Int) 1 = (bitsTo (bools6 b0 b1 b2 b3 b4 b5) 1 : Int) := by
          rw [← HN.out]
          refine ho.trans ?_
          show _ = ((if b0 = true then _ else _ : Nat) : Int)
          rw [if_pos hb0]
        have H1 := Lib.hid h1
        clear h1 ho hb0
        go_wp2_with fail
        go_roundg 5
        case rel =>
          refine ⟨rfl, .inr (.inl ⟨rfl, rfl, ?_⟩)⟩
          rw [H1.out]
        case measure => omega
      · have q : ∀ w, (Instr.index 164 (.agg #[.bool b0, .bool b1, .bool b2, .bool b3, .bool b4, .bool b5]) (.int .i64 0)).run Tryd.prog w = .ok (.bool false) w := fun w => (index6_0 b0 b1 b2 b3 b4 b5 w).trans (by rw [show b0 = false by simpa using hb0])
        have h1 : bitsTo (bools6 b0 b1 b2 b3 b4 b5) 1 = N := by
          rw [← HN.out]
          show (if b0 = true then _ else _ : Nat) = _
          rw [if_neg hb0]
        have H1 := Lib.hid h1
        clear h1 ho hb0
        go_wp2_with fail
        go_roundg 5
        case rel =>
          refine ⟨rfl, .inr (.inl ⟨rfl, rfl, ?_⟩)⟩
          rw [H1.out]
        case measure => omega
    · obtain ⟨N, hN⟩ : ∃ N : Nat, bitsTo (bools6 b0 b1 b2 b3 b4 b5) 1 = N := ⟨_, rfl⟩
      rw [hN]
      have HN := Lib.hid hN
      clear hN
      have ho := HOR.out ⟨1, by decide⟩
      by_cases hb1 : b1 = true
      · have q : ∀ w, (Instr.index 164 (.agg #[.bool b0, .bool b1, .bool b2, .bool b3, .bool b4, .bool b5]) (.int .i64 1)).run Tryd.prog w = .ok (.bool true) w := fun w => (index6_1 b0 b1 b2 b3 b4 b5 w).trans (by rw [hb1])
        have h1 : bits .or .i64 (N : Int) 2 = (bitsTo (bools6 b0 b1 b2 b3 b4 b5) 2 : Int) := by
          rw [← HN.out]
          refine ho.trans ?_
          show _ = ((if b1 = true then _ else _ : Nat) : Int)
          rw [if_pos hb1]
        have H1 := Lib.hid h1
        clear h1 ho hb1
        go_wp2_with fail
        go_roundg 4
        case rel =>
          refine ⟨rfl, .inr (.inr (.inl ⟨rfl, rfl, ?_⟩))⟩
          rw [H1.out]
        case measure => omega
      · have q : ∀ w, (Instr.index 164 (.agg #[.bool b0, .bool b1, .bool b2, .bool b3, .bool b4, .bool b5]) (.int .i64 1)).run Tryd.prog w = .ok (.bool false) w := fun w => (index6_1 b0 b1 b2 b3 b4 b5 w).trans (by rw [show b1 = false by simpa using hb1])
        have h1 : bitsTo (bools6 b0 b1 b2 b3 b4 b5) 2 = N := by
          rw [← HN.out]
          show (if b1 = true then _ else _ : Nat) = _
          rw [if_neg hb1]
        have H1 := Lib.hid h1
        clear h1 ho hb1
        go_wp2_with fail
        go_roundg 4
        case rel =>
          refine ⟨rfl, .inr (.inr (.inl ⟨rfl, rfl, ?_⟩))⟩
          rw [H1.out]
        case measure => omega
    · obtain ⟨N, hN⟩ : ∃ N : Nat, bitsTo (bools6 b0 b1 b2 b3 b4 b5) 2 = N := ⟨_, rfl⟩
      rw [hN]
      have HN := Lib.hid hN
      clear hN
      have ho := HOR.out ⟨2, by decide⟩
      by_cases hb2 : b2 = true
      · have q : ∀ w, (Instr.index 164 (.agg #[.bool b0, .bool b1, .bool b2, .bool b3, .bool b4, .bool b5]) (.int .i64 2)).run Tryd.prog w = .ok (.bool true) w := fun w => (index6_2 b0 b1 b2 b3 b4 b5 w).trans (by rw [hb2])
        have h1 : bits .or .i64 (N : Int) 4 = (bitsTo (bools6 b0 b1 b2 b3 b4 b5) 3 : Int) := by
          rw [← HN.out]
          refine ho.trans ?_
          show _ = ((if b2 = true then _ else _ : Nat) : Int)
          rw [if_pos hb2]
        have H1 := Lib.hid h1
        clear h1 ho hb2
        go_wp2_with fail
        go_roundg 3
        case rel =>
          refine ⟨rfl, .inr (.inr (.inr (.inl ⟨rfl, rfl, ?_⟩)))⟩
          rw [H1.out]
        case measure => omega
      · have q : ∀ w, (Instr.index 164 (.agg #[.bool b0, .bool b1, .bool b2, .bool b3, .bool b4, .bool b5]) (.int .i64 2)).run Tryd.prog w = .ok (.bool false) w := fun w => (index6_2 b0 b1 b2 b3 b4 b5 w).trans (by rw [show b2 = false by simpa using hb2])
        have h1 : bitsTo (bools6 b0 b1 b2 b3 b4 b5) 3 = N := by
          rw [← HN.out]
          show (if b2 = true then _ else _ : Nat) = _
          rw [if_neg hb2]
        have H1 := Lib.hid h1
        clear h1 ho hb2
        go_wp2_with fail
        go_roundg 3
        case rel =>
          refine ⟨rfl, .inr (.inr (.inr (.inl ⟨rfl, rfl, ?_⟩)))⟩
          rw [H1.out]
        case measure => omega
    · obtain ⟨N, hN⟩ : ∃ N : Nat, bitsTo (bools6 b0 b1 b2 b3 b4 b5) 3 = N := ⟨_, rfl⟩
      rw [hN]
      have HN := Lib.hid hN
      clear hN
      have ho := HOR.out ⟨3, by decide⟩
      by_cases hb3 : b3 = true
      · have q : ∀ w, (Instr.index 164 (.agg #[.bool b0, .bool b1, .bool b2, .bool b3, .bool b4, .bool b5]) (.int .i64 3)).run Tryd.prog w = .ok (.bool true) w := fun w => (index6_3 b0 b1 b2 b3 b4 b5 w).trans (by rw [hb3])
        have h1 : bits .or .i64 (N : Int) 8 = (bitsTo (bools6 b0 b1 b2 b3 b4 b5) 4 : Int) := by
          rw [← HN.out]
          refine ho.trans ?_
          show _ = ((if b3 = true then _ else _ : Nat) : Int)
          rw [if_pos hb3]
        have H1 := Lib.hid h1
        clear h1 ho hb3
        go_wp2_with fail
        go_roundg 2
        case rel =>
          refine ⟨rfl, .inr (.inr (.inr (.inr (.inl ⟨rfl, rfl, ?_⟩))))⟩
          rw [H1.out]
        case measure => omega
      · have q : ∀ w, (Instr.index 164 (.agg #[.bool b0, .bool b1, .bool b2, .bool b3, .bool b4, .bool b5]) (.int .i64 3)).run Tryd.prog w = .ok (.bool false) w := fun w => (index6_3 b0 b1 b2 b3 b4 b5 w).trans (by rw [show b3 = false by simpa using hb3])
        have h1 : bitsTo (bools6 b0 b1 b2 b3 b4 b5) 4 = N := by
          rw [← HN.out]
          show (if b3 = true then _ else _ : Nat) = _
          rw [if_neg hb3]
        have H1 := Lib.hid h1
        clear h1 ho hb3
        go_wp2_with fail
        go_roundg 2
        case rel =>
          refine ⟨rfl, .inr (.inr (.inr (.inr (.inl ⟨rfl, rfl, ?_⟩))))⟩
          rw [H1.out]
        case measure => omega
    · obtain ⟨N, hN⟩ : ∃ N : Nat, bitsTo (bools6 b0 b1 b2 b3 b4 b5) 4 = N := ⟨_, rfl⟩
      rw [hN]
      have HN := Lib.hid hN
      clear hN
      have ho := HOR.out ⟨4, by decide⟩
      by_cases hb4 : b4 = true
      · have q : ∀ w, (Instr.index 164 (.agg #[.bool b0, .bool b1, .bool b2, .bool b3, .bool b4, .bool b5]) (.int .i64 4)).run Tryd.prog w = .ok (.bool true) w := fun w => (index6_4 b0 b1 b2 b3 b4 b5 w).trans (by rw [hb4])
        have h1 : bits .or .i64 (N : Int) 16 = (bitsTo (bools6 b0 b1 b2 b3 b4 b5) 5 : Int) := by
          rw [← HN.out]
          refine ho.trans ?_
          show _ = ((if b4 = true then _ else _ : Nat) : Int)
          rw [if_pos hb4]
        have H1 := Lib.hid h1
        clear h1 ho hb4
        go_wp2_with fail
        go_roundg 1
        case rel =>
          refine ⟨rfl, .inr (.inr (.inr (.inr (.inr (.inl ⟨rfl, rfl, ?_⟩)))))⟩
          rw [H1.out]
        case measure => omega
      · have q : ∀ w, (Instr.index 164 (.agg #[.bool b0, .bool b1, .bool b2, .bool b3, .bool b4, .bool b5]) (.int .i64 4)).run Tryd.prog w = .ok (.bool false) w := fun w => (index6_4 b0 b1 b2 b3 b4 b5 w).trans (by rw [show b4 = false by simpa using hb4])
        have h1 : bitsTo (bools6 b0 b1 b2 b3 b4 b5) 5 = N := by
          rw [← HN.out]
          show (if b4 = true then _ else _ : Nat) = _
          rw [if_neg hb4]
        have H1 := Lib.hid h1
        clear h1 ho hb4
        go_wp2_with fail
        go_roundg 1
        case rel =>
          refine ⟨rfl, .inr (.inr (.inr (.inr (.inr (.inl ⟨rfl, rfl, ?_⟩)))))⟩
          rw [H1.out]
        case measure => omega
    · obtain ⟨N, hN⟩ : ∃ N : Nat, bitsTo (bools6 b0 b1 b2 b3 b4 b5) 5 = N := ⟨_, rfl⟩
      rw [hN]
      have HN := Lib.hid hN
      clear hN
      have ho := HOR.out ⟨5, by decide⟩
      by_cases hb5 : b5 = true
      · have q : ∀ w, (Instr.index 164 (.agg #[.bool b0, .bool b1, .bool b2, .bool b3, .bool b4, .bool b5]) (.int .i64 5)).run Tryd.prog w = .ok (.bool true) w := fun w => (index6_5 b0 b1 b2 b3 b4 b5 w).trans (by rw [hb5])
        have h1 : bits .or .i64 (N : Int) 32 = (bitsTo (bools6 b0 b1 b2 b3 b4 b5) 6 : Int) := by
          rw [← HN.out]
          refine ho.trans ?_
          show _ = ((if b5 = true then _ else _ : Nat) : Int)
          rw [if_pos hb5]
        have H1 := Lib.hid h1
        clear h1 ho hb5
        go_wp2_with fail
        go_roundg 0
        case rel =>
          refine ⟨rfl, .inr (.inr (.inr (.inr (.inr (.inr (⟨rfl, rfl, ?_⟩))))))⟩
          rw [H1.out]
        case measure => omega
      · have q : ∀ w, (Instr.index 164 (.agg #[.bool b0, .bool b1, .bool b2, .bool b3, .bool b4, .bool b5]) (.int .i64 5)).run Tryd.prog w = .ok (.bool false) w := fun w => (index6_5 b0 b1 b2 b3 b4 b5 w).trans (by rw [show b5 = false by simpa using hb5])
        have h1 : bitsTo (bools6 b0 b1 b2 b3 b4 b5) 6 = N := by
          rw [← HN.out]
          show (if b5 = true then _ else _ : Nat) = _
          rw [if_neg hb5]
        have H1 := Lib.hid h1
        clear h1 ho hb5
        go_wp2_with fail
        go_roundg 0
        case rel =>
          refine ⟨rfl, .inr (.inr (.inr (.inr (.inr (.inr (⟨rfl, rfl, ?_⟩))))))⟩
          rw [H1.out]
        case measure => omega
    · go_wp2_with fail
      go_ret
      refine ⟨?_, HB1.out⟩
      rw [HS.out, ← HAN.out, HF.out]
      rfl

def kindB (x : Int) : Bool := decide (0 ≤ x ∧ x < 13)
theorem kind_any (x : Int) (w : World) : Calls Tryd.prog 101 #[.int .i64 x] w fun e w' => e = .returned (.bool (kindB x)) ∧ w = w' := by
  by_cases h0 : 0 ≤ x
  · by_cases h1 : x < 13
    · have HT : Hid (kindB x = true) := by simp [Hid, kindB, h0, h1]
      go_enter Tryd.func101, Tryd.ntmps101
      go_wp2
      go_ret
      rw [HT.out]
      exact ⟨by simp [h0, h1], rfl⟩
    · have HT : Hid (kindB x = false) := by simp [Hid, kindB, h1]
      go_enter Tryd.func101, Tryd.ntmps101
      go_wp2
      go_ret
      rw [HT.out]
      exact ⟨by simp [h0, h1], rfl⟩
  · have HT : Hid (kindB x = false) := by simp [Hid, kindB, h0]
    go_enter Tryd.func101, Tryd.ntmps101
    go_wp2
    go_ret
    rw [HT.out]
    exact ⟨by simp [h0], rfl⟩

def peerB (x : Int) : Bool := decide (0 ≤ x ∧ x < 64)
theorem peer_any (x : Int) (w : World) : Calls Tryd.prog 102 #[.int .i64 x] w fun e w' => e = .returned (.bool (peerB x)) ∧ w = w' := by
  by_cases h0 : 0 ≤ x
  · by_cases h1 : x < 64
    · have HT : Hid (peerB x = true) := by simp [Hid, peerB, h0, h1]
      go_enter Tryd.func102, Tryd.ntmps102
      go_wp2
      go_ret
      rw [HT.out]
      exact ⟨by simp [h0, h1], rfl⟩
    · have HT : Hid (peerB x = false) := by simp [Hid, peerB, h1]
      go_enter Tryd.func102, Tryd.ntmps102
      go_wp2
      go_ret
      rw [HT.out]
      exact ⟨by simp [h0, h1], rfl⟩
  · have HT : Hid (peerB x = false) := by simp [Hid, peerB, h0]
    go_enter Tryd.func102, Tryd.ntmps102
    go_wp2
    go_ret
    rw [HT.out]
    exact ⟨by simp [h0], rfl⟩

def numB (x : Int) : Bool := decide (0 ≤ x ∧ x ≤ 1073741824)
theorem num_any (x : Int) (w : World) : Calls Tryd.prog 103 #[.int .i64 x] w fun e w' => e = .returned (.bool (numB x)) ∧ w = w' := by
  by_cases h0 : 0 ≤ x
  · by_cases h1 : x ≤ 1073741824
    · have HT : Hid (numB x = true) := by simp [Hid, numB, h0, h1]
      go_enter Tryd.func103, Tryd.ntmps103
      go_wp2
      go_ret
      rw [HT.out]
      exact ⟨by simp [h0, h1], rfl⟩
    · have HT : Hid (numB x = false) := by simp [Hid, numB, h1]
      go_enter Tryd.func103, Tryd.ntmps103
      go_wp2
      go_ret
      rw [HT.out]
      exact ⟨by simp [h0, h1], rfl⟩
  · have HT : Hid (numB x = false) := by simp [Hid, numB, h0]
    go_enter Tryd.func103, Tryd.ntmps103
    go_wp2
    go_ret
    rw [HT.out]
    exact ⟨by simp [h0], rfl⟩

def textB (s : ByteArray) : Bool := decide ((s.size : Int) ≤ 255)
theorem text_any (s : ByteArray) (w : World) : Calls Tryd.prog 104 #[.string s] w fun e w' => e = .returned (.bool (textB s)) ∧ w = w' := by
  go_enter Tryd.func104, Tryd.ntmps104
  go_wp2
  go_ret
  exact ⟨rfl, rfl⟩

def checkM (x : OpR) : Int :=
  if kindB x.k = false then 15 else if (peerB x.p && peerB x.t) = false then 11 else if (numB x.n && numB x.a && numB x.m) = false then 12
  else if (textB x.u && textB x.v) = false then 2 else if spareM x = true then 7 else 0

set_option maxHeartbeats 2000000 in
set_option maxRecDepth 100000 in
theorem check_any (x : OpR) (w : World) (hd : Flds w) :
    Calls Tryd.prog 57 #[.agg x.cells] w fun e w' => e = .returned (.int .i64 (checkM x)) ∧ Below w.heap.size w w' := by
  have HSP := Lib.hid (fun (w' : World) (hb : Below w.heap.size w w') (h0 : 0 ≤ x.k) (h13 : x.k < 13) => spare_any x w' (hd.below hb) h0 h13)
  have HM : Hid (checkM x = checkM x) := rfl
  have HX : Hid (∀ c, checkM x = c → checkM x = c) := fun _ h => h
  have hcm : checkM x = if kindB x.k = false then 15 else if (peerB x.p && peerB x.t) = false then 11 else if (numB x.n && numB x.a && numB x.m) = false then 12 else if (textB x.u && textB x.v) = false then 2 else if spareM x = true then 7 else 0 := rfl
  have HCM := Lib.hid hcm
  clear hcm HM HX hd
  obtain ⟨k, p, t, n, a, m, u, v⟩ := x
  obtain ⟨w1, hw1⟩ : ∃ W, w.alloc (.cells #[.int .i64 k, .int .i64 p, .int .i64 t, .int .i64 n, .int .i64 a, .int .i64 m, .string u, .string v] 30) = W := ⟨_, rfl⟩
  have hbl : w1.heap[w.heap.size]? = some (.cells #[.int .i64 k, .int .i64 p, .int .i64 t, .int .i64 n, .int .i64 a, .int .i64 m, .string u, .string v] 30 (0, 0)) := by rw [← hw1]; exact World.alloc_heap_new _ _
  have hb1 : Below w.heap.size w w1 := by rw [← hw1]; exact (Below.refl _ _).alloc (Nat.le_refl _) _
  have c0 : w1.cell? ⟨w.heap.size, 0, none⟩ = some (.int .i64 k) := by simp [World.cell?, hbl]
  have c1 : w1.cell? ⟨w.heap.size, 1, none⟩ = some (.int .i64 p) := by simp [World.cell?, hbl]
  have c2 : w1.cell? ⟨w.heap.size, 2, none⟩ = some (.int .i64 t) := by simp [World.cell?, hbl]
  have c3 : w1.cell? ⟨w.heap.size, 3, none⟩ = some (.int .i64 n) := by simp [World.cell?, hbl]
  have c4 : w1.cell? ⟨w.heap.size, 4, none⟩ = some (.int .i64 a) := by simp [World.cell?, hbl]
  have c5 : w1.cell? ⟨w.heap.size, 5, none⟩ = some (.int .i64 m) := by simp [World.cell?, hbl]
  have c6 : w1.cell? ⟨w.heap.size, 6, none⟩ = some (.string u) := by simp [World.cell?, hbl]
  have c7 : w1.cell? ⟨w.heap.size, 7, none⟩ = some (.string v) := by simp [World.cell?, hbl]
  have HB1 := Lib.hid hb1
  clear hbl hb1
  show Calls Tryd.prog 57 #[.agg #[.int .i64 k, .int .i64 p, .int .i64 t, .int .i64 n, .int .i64 a, .int .i64 m, .string u, .string v]] w _
  simp only at HCM
  obtain ⟨bk, ebk⟩ : ∃ b, kindB k = b := ⟨_, rfl⟩
  have Hbk := Lib.hid (kind_any k w1)
  rw [ebk] at HCM Hbk
  obtain ⟨bp, ebp⟩ : ∃ b, peerB p = b := ⟨_, rfl⟩
  have Hbp := Lib.hid (peer_any p w1)
  rw [ebp] at HCM Hbp
  obtain ⟨bt, ebt⟩ : ∃ b, peerB t = b := ⟨_, rfl⟩
  have Hbt := Lib.hid (peer_any t w1)
  rw [ebt] at HCM Hbt
  obtain ⟨bn, ebn⟩ : ∃ b, numB n = b := ⟨_, rfl⟩
  have Hbn := Lib.hid (num_any n w1)
  rw [ebn] at HCM Hbn
  obtain ⟨ba, eba⟩ : ∃ b, numB a = b := ⟨_, rfl⟩
  have Hba := Lib.hid (num_any a w1)
  rw [eba] at HCM Hba
  obtain ⟨bm, ebm⟩ : ∃ b, numB m = b := ⟨_, rfl⟩
  have Hbm := Lib.hid (num_any m w1)
  rw [ebm] at HCM Hbm
  obtain ⟨bu, ebu⟩ : ∃ b, textB u = b := ⟨_, rfl⟩
  have Hbu := Lib.hid (text_any u w1)
  rw [ebu] at HCM Hbu
  obtain ⟨bv, ebv⟩ : ∃ b, textB v = b := ⟨_, rfl⟩
  have Hbv := Lib.hid (text_any v w1)
  rw [ebv] at HCM Hbv
  have EK := Lib.hid ebk
  clear ebk ebp ebt ebn eba ebm ebu ebv
  go_enter Tryd.func57, Tryd.ntmps57
  go_wp2_with fail
  refine Hbk.out.mono ?_
  rintro e w' ⟨rfl, rfl⟩
  cases bk with
  | false =>
    go_wp2_with fail
    go_ret
    exact ⟨by rw [HCM.out]; rfl, HB1.out⟩
  | true =>
    go_wp2_with fail
    refine Hbp.out.mono ?_
    rintro e w' ⟨rfl, rfl⟩
    cases bp with
    | false =>
      go_wp2_with fail
      go_ret
      exact ⟨by rw [HCM.out]; rfl, HB1.out⟩
    | true =>
      go_wp2_with fail
      refine Hbt.out.mono ?_
      rintro e w' ⟨rfl, rfl⟩
      cases bt with
      | false =>
        go_wp2_with fail
        go_ret
        exact ⟨by rw [HCM.out]; rfl, HB1.out⟩
      | true =>
        go_wp2_with fail
        refine Hbn.out.mono ?_
        rintro e w' ⟨rfl, rfl⟩
        cases bn with
        | false =>
          go_wp2_with fail
          go_ret
          exact ⟨by rw [HCM.out]; rfl, HB1.out⟩
        | true =>
          go_wp2_with fail
          refine Hba.out.mono ?_
          rintro e w' ⟨rfl, rfl⟩
          cases ba with
          | false =>
            go_wp2_with fail
            go_ret
            exact ⟨by rw [HCM.out]; rfl, HB1.out⟩
          | true =>
            go_wp2_with fail
            refine Hbm.out.mono ?_
            rintro e w' ⟨rfl, rfl⟩
            cases bm with
            | false =>
              go_wp2_with fail
              go_ret
              exact ⟨by rw [HCM.out]; rfl, HB1.out⟩
            | true =>
              go_wp2_with fail
              refine Hbu.out.mono ?_
              rintro e w' ⟨rfl, rfl⟩
              cases bu with
              | false =>
                go_wp2_with fail
                go_ret
                exact ⟨by rw [HCM.out]; rfl, HB1.out⟩
              | true =>
                go_wp2_with fail
                refine Hbv.out.mono ?_
                rintro e w' ⟨rfl, rfl⟩
                cases bv with
                | false =>
                  go_wp2_with fail
                  go_ret
                  exact ⟨by rw [HCM.out]; rfl, HB1.out⟩
                | true =>
                  have hk : 0 ≤ k ∧ k < 13 := by have := EK.out; simpa [kindB] using this
                  have HSQ := Lib.hid (HSP.out w1 HB1.out hk.1 hk.2)
                  obtain ⟨bs, ebs⟩ : ∃ b, spareM ⟨k, p, t, n, a, m, u, v⟩ = b := ⟨_, rfl⟩
                  rw [ebs] at HCM HSQ
                  clear hk ebs
                  go_wp2_with fail
                  refine HSQ.out.mono ?_
                  rintro e w2 ⟨rfl, hb2⟩
                  have HB2 := Lib.hid hb2
                  clear hb2
                  cases bs with
                  | true =>
                    go_wp2_with fail
                    go_ret
                    exact ⟨by rw [HCM.out]; rfl, HB1.out.trans (HB2.out.mono HB1.out.size)⟩
                  | false =>
                    go_wp2_with fail
                    go_ret
                    exact ⟨by rw [HCM.out]; rfl, HB1.out.trans (HB2.out.mono HB1.out.size)⟩
end Go.Proofs.YtmeneoanmfpecaaDoor
