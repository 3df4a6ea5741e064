/- slices.Grow of no row, slices.Concat of two rows, at []api.Op. -/
import Derived.Deep.LoopGhost
import Derived.IntWalk
import Derived.Test.YtnnmhpplmihidaaCloneOp
namespace Go
open Go.RowKit
section
variable {P : Program} (w : World)
theorem run_append_zeros_nil (t u ty e : TypeId) (k : IntKind) (i : TypeInfo) (z : Value) (ht : P.underlying t = some (.slice e)) (hu : P.underlying u = some (.int k)) (hi : P.info? e = some i) (hz : i.zero = some z)
    (n : Nat) (h0 : 0 < n) (hs : 0 < i.size) (h63 : (n : Int) ≤ 9223372036854775807) (h48 : n * i.bytes ≤ 281474976710656) :
    (Builtin.append_ #[t, u] ty #[.slice none 0 0, .int k n]).run P w =
      .ok (.slice (some ⟨w.heap.size, 0, none⟩) n (grownCap w n 0 e)) (w.drew.alloc (.cells (Builtin.zeroCells z.cells n ++ Builtin.zeroCells z.cells (grownCap w n 0 e - n)) e)) := by
  have hn : n ≠ 0 := by omega
  have h63' : ¬ (9223372036854775807 < (n : Int)) := by omega
  have hl : IntKind.i64.wrap (n : Int) = (n : Int) := IntWalk.i64_in _ (by omega)
  have h48' : ¬ (281474976710656 < Builtin.nextslicecap n 0 * i.bytes) := by rw [nextslicecap_zero h0]; omega
  have h48i : ¬ (281474976710656 < (n : Int) * (i.bytes : Int)) := by
    have : ((n * i.bytes : Nat) : Int) ≤ 281474976710656 := by omega
    rw [Int.natCast_mul] at this
    omega
  have hns : n * i.size ≠ 0 := Nat.mul_ne_zero hn (by omega)
  have hneg : ¬ ((n : Int) < 0) := by omega
  simp [Builtin.append_, run_underlying ht, run_underlying hu, sizeOf, typeInfo, zeroValue, hi, hz, asInt, asIntOf, hl, hneg, h48i, hn, hns, h63', h48', Question.forced, run_firstCells_none, newRow, grownCap]
theorem wpList_append_zeros_nil {ops : Array Oper} {rest : List Oper} {o : Oper} {a : Act} {Q : Exit → Act → World → Prop} (hgd : o.guard = none) (s x : Operand) (t u : TypeId)
    (ho : o.op = .call { callee := .builtin .append, args := #[s, x], argTypes := #[t, u] }) (v : Value) (w' : World) (sv xv : Value) (hs : a.eval s = sv) (hx : a.eval x = xv)
    (hr : (Builtin.append_ #[t, u] o.type #[sv, xv]).run P w = .ok v w') (h : wpList P ops Q rest (a.put o.dst v) w') : wpList P ops Q (o :: rest) a w :=
  wpList_plain hgd fun _ hK => by
    unfold Oper.wp execOp
    simp only [ho, resolve, invoke, builtin, Sem.run_bind, Sem.run_pure, Result.andThen_ok, List.map_toArray, List.map_cons, List.map_nil, hs, hx, hr]
    exact hK _ _ h
end
end Go
namespace Go.Proofs.Ytnnmhpplmihidaa
set_option linter.unusedVariables false
set_option linter.unusedSimpArgs false
open Go.RowKit

set_option maxHeartbeats 1000000 in
set_option maxRecDepth 100000 in
theorem grow_Op (n : Nat) (hn : n ≤ 1000000) (w : World) :
    Calls Try.prog 62 #[.slice none 0 0, .int .i64 n] w fun e w' => ∃ v', e = .returned v' ∧ w'.ownsRow w.heap.size 34 8 v' 0 [] ∧ Below w.heap.size w w' := by
  obtain ⟨i0, hi, hz0, hz1, hz2⟩ := info_parts info_Op
  by_cases h0 : 0 < n
  · have hap := fun (w : World) => run_append_zeros_nil (P := Try.prog) w 32 3 32 34 .i64 i0 (.agg #[.int .i64 0, .int .i64 0, .int .i64 0, .int .i64 0, .int .i64 0, .int .i64 0, .string ByteArray.empty, .string ByteArray.empty]) Try.underlying32 Try.underlying3 hi hz0 n h0 (by omega) (by omega) (by rw [hz2]; omega)
    have h0' : (0 : Int) < n := by omega
    have hneg : ¬ (n : Int) < 0 := by omega
    have hap' := hap w
    have hsz := hz1
    obtain ⟨cap, hcap⟩ : ∃ c, grownCap w n 0 34 = c := ⟨_, rfl⟩
    rw [hcap] at hap'
    have hge : n ≤ cap := by have := grownCap_ge w n 0 34; omega
    have hle : cap ≤ maxLen := by have := grownCap_le_maxLen w n 0 34 (by unfold maxLen; omega); omega
    obtain ⟨zs, hzs⟩ : ∃ zs, Builtin.zeroCells (.agg #[.int .i64 0, .int .i64 0, .int .i64 0, .int .i64 0, .int .i64 0, .int .i64 0, .string ByteArray.empty, .string ByteArray.empty] : Value).cells n ++ Builtin.zeroCells (.agg #[.int .i64 0, .int .i64 0, .int .i64 0, .int .i64 0, .int .i64 0, .int .i64 0, .string ByteArray.empty, .string ByteArray.empty] : Value).cells (cap - n) = zs := ⟨_, rfl⟩
    have hzl : zs.size = cap * 8 := by
      rw [← hzs]
      simp [size_zeroCells, Value.cells]
      omega
    rw [hzs] at hap'
    have HX := Lib.hid (And.intro hzl (And.intro hge hle))
    have HAP := Lib.hid hap'
    clear hap hap' hsz hcap hzs hzl hge hle hi hz0 hz1 hz2
    go_enter Try.func62, Try.ntmps62
    go_wp2_with (at_builtin; refine wpList_append_zeros_nil _ rfl _ _ 32 3 rfl _ _ (.slice none 0 0) (.int .i64 n) rfl rfl HAP.out ?_)
    go_ret
    refine ⟨_, rfl, ⟨by simp, .inr ⟨w.heap.size, cap, zs, rfl, Nat.le_refl _, ?_, Nat.zero_le _, HX.out.2.2, HX.out.1, by simp⟩⟩, ?_⟩
    · exact World.alloc_heap_new _ _
    · exact ((Below.refl _ _).drew).alloc (by simp) _
  · have hn0 : n = 0 := by omega
    subst hn0
    clear hi hz0 hz1 hz2
    go_enter Try.func62, Try.ntmps62
    go_wp2
    go_ret
    exact ⟨_, rfl, ⟨by simp, .inl ⟨rfl, rfl⟩⟩, Below.refl _ _⟩

def opZ : Value := .agg #[.int .i64 0, .int .i64 0, .int .i64 0, .int .i64 0, .int .i64 0, .int .i64 0, .string ByteArray.empty, .string ByteArray.empty]

set_option maxHeartbeats 2000000 in
set_option maxRecDepth 100000 in
theorem concat_Op (B : Nat) (a1 a2 : Addr) (n1 c1 n2 c2 : Nat) (xs1 xs2 : List Value) (hn : n1 + n2 ≤ 1000000) (w : World)
    (hB : w.heap[B]? = some (.cells #[.slice (some a1) n1 c1, .slice (some a2) n2 c2] 32 (0, 0)))
    (hl1 : xs1.length = n1 * 8) (hl2 : xs2.length = n2 * 8) (h1 : ∀ j u, xs1[j]? = some u → w.cell? (a1.add j) = some u) (h2 : ∀ j u, xs2[j]? = some u → w.cell? (a2.add j) = some u)
    (o1 : ∀ u ∈ xs1, u.oneCell' = true) (o2 : ∀ u ∈ xs2, u.oneCell' = true) :
    Calls Try.prog 49 #[.slice (some ⟨B, 0, none⟩) 2 2] w fun e w' => ∃ v', e = .returned v' ∧ w'.ownsRow w.heap.size 34 8 v' (n1 + n2) (xs1 ++ xs2) ∧ Below w.heap.size w w' := by
  obtain ⟨i0, hi, hz0, hz1, hz2⟩ := info_parts info_Op
  have HI := Lib.hid (And.intro hi (And.intro hz0 (And.intro hz1 hz2)))
  have b0 : w.cell? ⟨B, 0, none⟩ = some (.slice (some a1) n1 c1) := by simp [World.cell?, hB]
  have b1 : w.cell? ⟨B, 1, none⟩ = some (.slice (some a2) n2 c2) := by simp [World.cell?, hB]
  have hBlt := (Array.getElem?_eq_some_iff.1 hB).1
  have HH := Lib.hid (And.intro hl1 (And.intro hl2 (And.intro h1 (And.intro h2 (And.intro o1 o2)))))
  have HB := Lib.hid (And.intro b0 b1)
  have HLT := Lib.hid hBlt
  have s1 : (0 : Int) ≤ n1 := by omega
  have s2 : (n1 : Int) ≤ 1000000 := by omega
  have s3 : (n2 : Int) ≤ 1000000 := by omega
  clear hi hz0 hz1 hz2 hB hBlt hl1 hl2 h1 h2 o1 o2
  go_enter Try.func49, Try.ntmps49
  go_wp2_with fail
  go_loopg [3, 11] 2 (fun n t3 t11 wr => w = wr ∧ (n = 2 ∧ t3 = .int .i64 0 ∧ t11 = .int .i64 0 ∨ n = 1 ∧ t3 = .int .i64 n1 ∧ t11 = .int .i64 1 ∨ n = 0 ∧ t3 = .int .i64 ((n1 : Int) + n2) ∧ t11 = .int .i64 2))
  case atStart => exact ⟨rfl, .inl ⟨rfl, rfl, rfl⟩⟩
  case round =>
    obtain ⟨rfl, ⟨rfl, rfl, rfl⟩ | ⟨rfl, rfl, rfl⟩ | ⟨rfl, rfl, rfl⟩⟩ := hrel
    · go_wp2_with fail
      go_roundg 1
      case rel => exact ⟨rfl, .inr (.inl ⟨rfl, by simp, rfl⟩)⟩
      case measure => omega
    · go_wp2_with fail
      go_roundg 0
      case rel => exact ⟨rfl, .inr (.inr ⟨rfl, rfl, rfl⟩)⟩
      case measure => omega
    · have hg := grow_Op (n1 + n2) hn w
      rw [Int.natCast_add] at hg
      have HG := Lib.hid hg
      clear hg
      go_wp2_with fail
      refine HG.out.mono ?_
      rintro e2 w2 ⟨v2, rfl, hown, hb⟩
      have b0 := cell_below hb b0
      have b1 := cell_below hb b1
      have HO := Lib.hid hown
      have HBE := Lib.hid hb
      clear hown hb HG
      go_wp2_with fail
      go_loopg [6, 27] 2 (fun n t6 t27 wq => (n = 2 ∧ t6 = v2 ∧ t27 = .int .i64 0 ∧ wq = w2) ∨ (n = 1 ∧ t27 = .int .i64 1 ∧ Hid (wq.ownsRow w.heap.size 34 8 t6 n1 xs1 ∧ Below w.heap.size w wq)) ∨ (n = 0 ∧ t27 = .int .i64 2 ∧ Hid (wq.ownsRow w.heap.size 34 8 t6 (n1 + n2) (xs1 ++ xs2) ∧ Below w.heap.size w wq)))
      case atStart => exact .inl ⟨rfl, rfl, rfl, rfl⟩
      case round =>
        obtain ⟨rfl, rfl, rfl, rfl⟩ | ⟨rfl, rfl, HR⟩ | ⟨rfl, rfl, HR⟩ := hrel
        · go_wp2_with (at_builtin; refine wpList_append_own _ rfl _ _ 32 rfl w.heap.size 34 i0 opZ 8 80 Try.underlying32 HI.out.1 HI.out.2.1 HI.out.2.2.1 HI.out.2.2.2 rfl (by decide) u6 0 [] rfl HO.out a1 n1 c1 xs1 rfl HH.out.1 (fun j u hu => cell_below HBE.out (HH.out.2.2.1 j u hu)) HH.out.2.2.2.2.1 (by unfold maxLen; omega) (by omega) HBE.out.size ?_; intro v' w1 hown' hgrow hnil)
          have hown2 := hown'
          rw [Nat.zero_add, List.nil_append] at hown2
          have HR : Hid (w1.ownsRow w.heap.size 34 8 v' n1 xs1 ∧ Below w.heap.size w w1) := ⟨hown2, HBE.out.grown hgrow HBE.out.size (fun k e => own_ge' HO.out k e)⟩
          clear hown' hgrow hnil hown2
          go_wp2_with fail
          go_roundg 1
          case rel => exact .inr (.inl ⟨rfl, rfl, HR⟩)
          case measure => omega
        · have b0 := cell_below HR.out.2 HB.out.1
          have b1 := cell_below HR.out.2 HB.out.2
          go_wp2_with (at_builtin; refine wpList_append_own _ rfl _ _ 32 rfl w.heap.size 34 i0 opZ 8 80 Try.underlying32 HI.out.1 HI.out.2.1 HI.out.2.2.1 HI.out.2.2.2 rfl (by decide) u6 n1 xs1 rfl HR.out.1 a2 n2 c2 xs2 rfl HH.out.2.1 (fun j u hu => cell_below HR.out.2 (HH.out.2.2.2.1 j u hu)) HH.out.2.2.2.2.2 (by unfold maxLen; omega) (by omega) HR.out.2.size ?_; intro v' w1 hown' hgrow hnil)
          have HR2 : Hid (w1.ownsRow w.heap.size 34 8 v' (n1 + n2) (xs1 ++ xs2) ∧ Below w.heap.size w w1) := ⟨hown', HR.out.2.grown hgrow HR.out.2.size (fun k e => own_ge' HR.out.1 k e)⟩
          clear hown' hgrow hnil
          go_wp2_with fail
          go_roundg 0
          case rel => exact .inr (.inr ⟨rfl, rfl, HR2⟩)
          case measure => omega
        · go_wp2_with fail
          go_ret
          exact ⟨_, rfl, HR.out.1, HR.out.2⟩
end Go.Proofs.Ytnnmhpplmihidaa
