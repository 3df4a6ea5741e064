/- LinkNil's walk. -/
import Derived.Test.YtnnmhpplmihidaaAwake26
import Derived.Test.YtnnmhpplmihidaaOpen7
namespace Go.Proofs.Ytnnmhpplmihidaa
set_option linter.unusedVariables false
set_option linter.unusedSimpArgs false
open Go.RowKit

set_option maxHeartbeats 4000000 in
set_option maxRecDepth 100000 in
theorem linkNil_walk (k f t i a : Int) (mask : Nat) (hmask : mask < 4294967296) (s : ByteArray) (w : World) :
    Calls Try.prog 10 #[.agg #[.int .i64 k, .int .i64 f, .int .i64 t, .int .i64 i, .int .i64 a, .int .u32 mask, .string s]] w fun e w' => e = .returned (.bool true) ∧ Below w.heap.size w w' := by
  obtain ⟨W, hW⟩ : ∃ W, w.alloc (.cells #[.int .i64 k, .int .i64 f, .int .i64 t, .int .i64 i, .int .i64 a, .int .u32 mask, .string s] 50) = W := ⟨_, rfl⟩
  have HB : Below w.heap.size w W := by rw [← hW]; exact (Below.refl _ _).alloc (Nat.le_refl _) _
  have hbl : W.heap[w.heap.size]? = some (.cells #[.int .i64 k, .int .i64 f, .int .i64 t, .int .i64 i, .int .i64 a, .int .u32 mask, .string s] 50 (0, 0)) := by rw [← hW]; exact World.alloc_heap_new w _
  have hlt : w.heap.size < W.heap.size := (Array.getElem?_eq_some_iff.1 hbl).1
  have HL := Lib.hid hlt
  have b1 : W.cell? ⟨w.heap.size, 1, none⟩ = some (.int .i64 f) := by simp [World.cell?, hbl]
  have b2 : W.cell? ⟨w.heap.size, 2, none⟩ = some (.int .i64 t) := by simp [World.cell?, hbl]
  have b3 : W.cell? ⟨w.heap.size, 3, none⟩ = some (.int .i64 i) := by simp [World.cell?, hbl]
  have b4 : W.cell? ⟨w.heap.size, 4, none⟩ = some (.int .i64 a) := by simp [World.cell?, hbl]
  have b5 : W.cell? ⟨w.heap.size, 5, none⟩ = some (.int .u32 mask) := by simp [World.cell?, hbl]
  have b6 : W.cell? ⟨w.heap.size, 6, none⟩ = some (.string s) := by simp [World.cell?, hbl]
  have HBB := Lib.hid HB
  have HM := Lib.hid hmask
  clear hbl hlt HB hmask
  go_enter Try.func10, Try.ntmps10
  go_wp2_with fail
  refine (take_nil f t i W).mono ?_
  rintro e w1 ⟨rfl, hb⟩
  have c1 := cell_below hb b1
  have c2 := cell_below hb b2
  have c3 := cell_below hb b3
  have c4 := cell_below hb b4
  have c5 := cell_below hb b5
  have c6 := cell_below hb b6
  have HB1 := Lib.hid (HBB.out.trans (hb.mono HBB.out.size))
  have HBa := Lib.hid hb
  clear hb b1 b2 b3 b4 b5 b6 hW
  go_wp2_with fail
  refine (next_nil w1).mono ?_
  rintro e w2 ⟨rfl, hb⟩
  have b1 := cell_below hb c1
  have b2 := cell_below hb c2
  have b3 := cell_below hb c3
  have b4 := cell_below hb c4
  have b5 := cell_below hb c5
  have b6 := cell_below hb c6
  have HB2 := Lib.hid (HB1.out.trans (hb.mono HB1.out.size))
  clear hb c1 c2 c3 c4 c5 c6
  go_wp2_with fail
  refine (send_nil f t s w2).mono ?_
  rintro e w3 ⟨rfl, rfl⟩
  go_wp2_with fail
  refine (twice_nil f t i w2).mono ?_
  rintro e w3 ⟨rfl, hb⟩
  have c1 := cell_below hb b1
  have c2 := cell_below hb b2
  have c3 := cell_below hb b3
  have c4 := cell_below hb b4
  have c5 := cell_below hb b5
  have HB3 := Lib.hid (HB2.out.trans (hb.mono HB2.out.size))
  clear hb b1 b2 b3 b4 b5 b6
  go_wp2_with fail
  refine (bend_nil f t i a mask HM.out w3).mono ?_
  rintro e w4 ⟨rfl, hb⟩
  have b1 := cell_below hb c1
  have b2 := cell_below hb c2
  have HB4 := Lib.hid (HB3.out.trans (hb.mono HB3.out.size))
  clear hb c1 c2 c3 c4 c5
  go_wp2_with fail
  refine (len_nil f t w4).mono ?_
  rintro e w5 ⟨rfl, rfl⟩
  go_wp2_with fail
  refine (all_nil w4).mono ?_
  rintro e w5 ⟨rfl, rfl⟩
  go_wp2_with fail
  refine (clear_nil t w4).mono ?_
  rintro e w5 ⟨rfl, rfl⟩
  go_wp2_with fail
  refine (awake26 w4).mono ?_
  rintro e w5 ⟨rfl, hb⟩
  have HB5 := Lib.hid (HB4.out.trans (hb.mono HB4.out.size))
  clear hb b1 b2
  go_wp2_with fail
  go_ret
  exact ⟨rfl, HB5.out⟩

set_option maxRecDepth 100000 in
theorem linkNil_any {H : Type} {S : Prop} (w : World) (v : Value) (base : Nat) (p : List MemPlace) (d : DataW H) (enc : TypeId × Value → H) (hv : Value.okWide Try.prog w .any base 50 v)
    (h : DataW.Trod enc Try.prog w 0 (fun _ => true) true 50 v d p) (hsz : S) :
    Calls Try.prog 10 #[v] w fun e w' => e = .returned (.bool true) ∧ Below w.heap.size w w' := by
  obtain ⟨k, f, t, i, a, m, s, rfl, hm, _⟩ := open_act hv h
  exact linkNil_walk k f t i a m hm s w
end Go.Proofs.Ytnnmhpplmihidaa
