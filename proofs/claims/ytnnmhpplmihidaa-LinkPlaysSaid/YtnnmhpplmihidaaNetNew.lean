/- The net of package link: New, All. -/
import Derived.Deep.LoopGhost
import Derived.Maps.RangeWalk
import Derived.Test.YtnnmhpplmihidaaNetNil
namespace Go.Proofs.Ytnnmhpplmihidaa
set_option linter.unusedVariables false
set_option linter.unusedSimpArgs false
open Go.RowKit

set_option maxHeartbeats 2000000 in
set_option maxRecDepth 100000 in
theorem new_none (p : Int) (hp : ¬ (1 ≤ p ∧ p ≤ 64)) (w : World) :
    Calls Try.prog 28 #[.int .i64 p] w fun e w' => e = .returned (.pointer none) ∧ w = w' := by
  by_cases h1 : p < 1
  · go_enter Try.func28, Try.ntmps28
    go_wp2
    go_ret
    exact ⟨rfl, rfl⟩
  · have h2 : p > 64 := by omega
    go_enter Try.func28, Try.ntmps28
    go_wp2
    go_ret
    exact ⟨rfl, rfl⟩

set_option maxHeartbeats 2000000 in
set_option maxRecDepth 100000 in
theorem new_net (p : Int) (hp : 1 ≤ p ∧ p ≤ 64) (w : World) :
    Calls Try.prog 28 #[.int .i64 p] w fun e w' => e = .returned (.pointer (some ⟨w.heap.size + 1, 0, none⟩)) ∧
      IsNet w.heap.size w' (fun k => k = w.heap.size ∨ k = w.heap.size + 1) (w.heap.size + 1) p (fun _ => []) w.heap.size [] ∧ Below w.heap.size w w' := by
  have h1 : ¬ p < 1 := by omega
  have h2 : ¬ p > 64 := by omega
  have HP := Lib.hid hp
  clear hp
  go_enter Try.func28, Try.ntmps28
  go_wp2
  rw [show (Instr.makeMap 84 none).run Try.prog w = .ok (.map (some w.heap.size)) (w.alloc (.map #[] 0)) from rfl]
  go_wp2
  go_ret
  have hM : IsMap pk (w.alloc (.map #[] 0)) w.heap.size ([] : List ((Int × Int) × Value)) := IsMap.made w
  have hsz : (w.alloc (.map #[] 0)).heap.size = w.heap.size + 1 := by simp
  refine ⟨by simp, ?_, ((Below.refl _ _).alloc (Nat.le_refl _) _).alloc (by simp) _⟩
  exact { cells := by rw [← hsz]; exact World.alloc_heap_new _ _
          map := hM.same (Below.heap_alloc _ _ _ (by simp))
          some_ := fun p v h => by simp [aget] at h
          none_ := fun _ _ => rfl
          og := .inr rfl
          om := .inl rfl
          ge := fun k hk => by rcases hk with rfl | rfl <;> omega
          lt := fun k hk => by simp; omega
          most := fun _ => by simp
          few := HP.out }

def allM (L : Int × Int → List Fr) (m : List ((Int × Int) × Value)) : Nat := (m.map fun p => (L p.1).length).sum

section
variable {n0 : Nat} {w : World} {O : Nat → Prop} {g : Nat} {peers : Int} {L : Int × Int → List Fr} {mb : Nat} {m : List ((Int × Int) × Value)}

theorem allM_perm {m m' : List ((Int × Int) × Value)} (h : m.Perm m') : allM L m = allM L m' := (h.map _).sum_nat
theorem allM_append (m m' : List ((Int × Int) × Value)) : allM L (m ++ m') = allM L m + allM L m' := by simp [allM]
theorem allM_one (p : (Int × Int) × Value) : allM L [p] = (L p.1).length := by simp [allM]

theorem Ranging.perm {r b : Nat} {done left : List ((Int × Int) × Value)} (h : Ranging pk w r b m done left) : (done ++ left).Perm m := by
  obtain ⟨_, _, _, _, _, _, _, _, h⟩ := h; exact h

theorem Ranging.same {w' : World} {r b : Nat} {done left : List ((Int × Int) × Value)} (h : Ranging pk w r b m done left) (hr : w'.heap[r]? = w.heap[r]?) (hb : w'.heap[b]? = w.heap[b]?) : Ranging pk w' r b m done left := by
  obtain ⟨es, clock, seen, h1, h2, h3⟩ := h
  exact ⟨es, clock, seen, hb.trans h1, hr.trans h2, h3⟩

set_option maxHeartbeats 2000000 in
set_option maxRecDepth 100000 in
theorem all_net (h : IsNet n0 w O g peers L mb m) (hN : allM L m < 4611686018427387904) :
    Calls Try.prog 39 #[.pointer (some ⟨g, 0, none⟩)] w fun e w' => e = .returned (.int .i64 (allM L m)) ∧ Below w.heap.size w w' := by
  have c1 := h.cell1
  have HH := Lib.hid h
  have HN := Lib.hid hN
  have hmap := h.map
  clear h hN
  have hmlt := hmap.lt
  go_enter Try.func39, Try.ntmps39
  go_wp2_with (first | (at_range; refine wpList_range_map rfl _ 84 rfl Try.underlying84 rfl hmap ?_; intro w0 hrg0 hg0 hs0) | go_in)
  go_frame
  clear hmap
  have HR0 := Lib.hid hrg0
  have HB0 : Hid (Below w.heap.size w w0) := ⟨hg0.os, hg0.tape, hg0.output, hg0.size, fun k hk => hg0.block k hk (by simp)⟩
  clear hrg0 hg0 hs0
  go_loopg [3] m.length (fun n t wr => ∃ done left, left.length = n ∧ t = .int .i64 (allM L done) ∧ Hid (Ranging pk wr w.heap.size mb m done left) ∧ Hid (Below w.heap.size w wr))
  case atStart => exact ⟨[], m, rfl, rfl, HR0, HB0⟩
  case round =>
    obtain ⟨done, left, hlen, rfl, HRG, HBW⟩ := hrel
    have HL := Lib.hid hlen
    clear hlen
    go_wp2_with (first | (at_next; refine wpList_next_map rfl _ rfl rfl (by omega) HRG.out ?_ ?_) | go_in)
    · intro h0
      have hpm := HRG.out.perm
      rw [h0, List.append_nil] at hpm
      have HE := Lib.hid (allM_perm (L := L) hpm)
      clear h0 hpm
      go_wp2
      go_ret
      rw [HE.out]
      exact ⟨rfl, HBW.out⟩
    · intro p q v left' w1 hpl hrg1 hg1 hs1 hen
      have hpm := HRG.out.perm
      have hmem : ((p, q), v) ∈ m := hpm.subset (List.mem_append_right _ (hpl.symm.subset (List.mem_cons_self)))
      have hget : aget m (p, q) = some v := aget_mem HH.out.map.nodup hmem
      obtain ⟨u, rfl, hrow, _, _⟩ := HH.out.some_ _ _ hget
      obtain ⟨A, c, rfl⟩ := own_shape hrow
      have hsum : allM L m = allM L done + (L (p, q)).length + allM L left' := by
        rw [← allM_perm (L := L) hpm, allM_append, allM_perm (L := L) hpl]
        simp [allM]
        omega
      have hlt : allM L done + (L (p, q)).length < 4611686018427387904 := by have := HN.out; omega
      have HD : Hid (allM L (done ++ [((p, q), .agg #[.slice A (L (p, q)).length c])]) = allM L done + (L (p, q)).length) := by simp [Hid, allM]
      have HP := Lib.hid hpl
      have HR1 := Lib.hid hrg1
      have HB1 : Hid (Below w.heap.size w w1) := ⟨hg1.os.trans HBW.out.os, hg1.tape.trans HBW.out.tape, hg1.output.trans HBW.out.output, Nat.le_trans HBW.out.size hg1.size, fun k hk => (hg1.block k (Nat.lt_of_lt_of_le hk HBW.out.size) (by simp; omega)).trans (HBW.out.block k hk)⟩
      clear hpm hmem hget hrow hsum hpl hrg1 hg1 hs1
      unfold pk at hen
      go_wp2
      go_roundg left'.length
      case rel =>
        refine ⟨_, _, rfl, ?_, HR1.out.same (Below.heap_alloc _ _ _ ?_) (Below.heap_alloc _ _ _ ?_), HB1.out.alloc HB1.out.size _⟩
        · rw [HD.out]; simp
        all_goals (have := HB1.out.size; obtain ⟨_, _, _, h1, h2, _⟩ := HR1.out; have h3 := (Array.getElem?_eq_some_iff.1 h1).1; have h4 := (Array.getElem?_eq_some_iff.1 h2).1; omega)
      case measure =>
        have h1 := HP.out.length_eq
        have h2 := HL.out
        simp at h1
        omega
end
end Go.Proofs.Ytnnmhpplmihidaa
