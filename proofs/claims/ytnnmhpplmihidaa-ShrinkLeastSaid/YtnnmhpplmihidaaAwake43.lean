/- Layer 43: Least without a question; the example; equal scripts. -/
import Derived.Test.YtnnmhpplmihidaaLeast
import Derived.Test.YtnnmhpplmihidaaAskedPure
namespace Go.Proofs.Ytnnmhpplmihidaa
set_option linter.unusedVariables false
set_option linter.unusedSimpArgs false
open PShrinkLeast Go.RowKit Go.Proofs.YtnnmhpplmihidaaW.PrintWords

set_option maxRecDepth 100000 in
theorem least_nil (w : World) (A : Option Addr) (c : Nat) (l : List Int) (hl : l.length ≤ 1000) (hr : Rd w (.slice A l.length c) 8 l.length (opsC l)) :
    Calls Try.prog 20 #[.slice A l.length c, .nilFunc] w fun e w' => ∃ v', e = .returned (.tuple #[v', .int .i64 0]) ∧ w'.ownsRow w.heap.size 34 8 v' l.length (opsC l) ∧ Below w.heap.size w w' := by
  have HCL := Lib.hid (clone_Op (.slice A l.length c) l.length (opsC l) (opsC_one _) (by omega) w hr)
  clear hr hl
  have heq := fun w => eql_nil_nil w
  go_enter Try.func20, Try.ntmps20
  go_wp2_with fail
  go_step3
  go_wp2_with fail
  refine HCL.out.mono ?_
  rintro e w1 ⟨v1, rfl, hown, hb⟩
  have HO := Lib.hid hown
  have HB := Lib.hid hb
  clear hown hb HCL
  go_wp2_with fail
  try rw [Exit.noGoto_ret]
  go_ret2
  exact ⟨v1, rfl, HO.out, HB.out⟩

def mkS (n : Int) : S34 := ⟨0, 0, 0, n, 0, 0, ⟨#[]⟩, ⟨#[]⟩⟩

theorem opsToR {w : World} {base : Nat} {v : Value} {l : List Int} (h : w.ownsRow base 34 8 v l.length (opsC l)) : Kd.R k34 34 w base (fun _ => True) v (l.map mkS) := by
  refine ⟨fun _ _ => trivial, opsC l, ?_, by rw [opsC_length, List.length_map]; rfl, fun j p hp => ?_⟩
  · have : (l.map mkS).length = l.length := by simp
    rw [this]
    exact h
  · rw [List.getElem?_map] at hp
    obtain ⟨x, hx, rfl⟩ := Option.map_eq_some_iff.1 hp
    obtain ⟨hj, rfl⟩ := List.getElem?_eq_some_iff.1 hx
    show Kd.M _ _ _ _ (mkS l[j]) (((opsC l).drop (j * 8)).take 8)
    have : ((opsC l).drop (j * 8)).take 8 = opC l[j] := by
      rw [opsC_drop, List.drop_eq_getElem_cons hj]
      rfl
    rw [this]
    exact k34_mkM _ _ _ (mkS l[j])

theorem opsToC {w : World} {base : Nat} {A : Option Addr} {c : Nat} {l : List Int} (h : w.ownsRow base 34 8 (.slice A l.length c) l.length (opsC l)) : l.length ≤ c ∧ Kd.C k34 w A l.length (l.map mkS) := by
  obtain ⟨A', c', e, h1, h2⟩ := Kd.R_reads (opsToR h)
  rw [List.length_map] at e h1 h2
  cases e
  exact ⟨h1, h2⟩

theorem same_l (k : Nat) (x : List S34) (hx : x.length ≤ 1000) : ∀ (d i : Nat), i + d = x.length → d < k → hearsayref34_Same.l0 k x x (i : Int) = some true
  | 0, i, hi, hk => by
    obtain ⟨k, rfl⟩ : ∃ m, k = m + 1 := ⟨k - 1, by omega⟩
    simp only [hearsayref34_Same.l0]
    rw [if_neg (by omega)]
  | d + 1, i, hi, hk => by
    obtain ⟨k, rfl⟩ : ∃ m, k = m + 1 := ⟨k - 1, by omega⟩
    simp only [hearsayref34_Same.l0]
    rw [if_pos (by omega), if_pos (by omega), if_pos (by omega), if_neg (by simp), w64 _ (by omega) (by omega)]
    exact same_l k x hx d (i + 1) (by omega) (by omega)

theorem same_ops {w : World} {b1 b2 : Nat} {A1 A2 : Option Addr} {c1 c2 : Nat} {l : List Int} (h1 : w.ownsRow b1 34 8 (.slice A1 l.length c1) l.length (opsC l)) (h2 : w.ownsRow b2 34 8 (.slice A2 l.length c2) l.length (opsC l)) (hl : l.length ≤ 1000) :
    Calls Try.prog 25 #[.slice A1 l.length c1, .slice A2 l.length c2] w fun e w' => e = .returned (.bool true) ∧ Below w.heap.size w w' := by
  obtain ⟨hc1, hC1⟩ := opsToC h1
  obtain ⟨hc2, hC2⟩ := opsToC h2
  have hf : hearsayref34_Same.f 2000 (l.map mkS) (l.map mkS) = some true := by
    unfold hearsayref34_Same.f
    rw [if_pos rfl]
    exact same_l 2000 (l.map mkS) (by simpa using hl) (l.map mkS).length 0 (by omega) (by simp; omega)
  have := hearsayref34_Same.calls 2000 A1 c1 (l.map mkS) A2 c2 (l.map mkS) true w (by rw [List.length_map]; exact hC1) (by rw [List.length_map]; exact hc1) (by rw [List.length_map]; exact hC2) (by rw [List.length_map]; exact hc2) hf
  rw [List.length_map] at this
  exact this.mono fun e w' ⟨he, hd⟩ => ⟨he, hd.below⟩

theorem enters_K (F : FuncId) (hf : ∀ args w, (callFunc F args).run Try.prog w = .ok (.enter F args) w) : ∀ (args : Array Value) (w : World), (callFunc F args).run Try.prog w = .ok (.enter F args) w := hf

set_option maxHeartbeats 1000000 in
set_option maxRecDepth 100000 in
theorem awake43 (w : World) : Calls Try.prog 19 #[] w fun e w' => e = .returned (.bool true) ∧ Below w.heap.size w w' := by
  obtain ⟨w1, hw1⟩ : ∃ W, w.alloc (.cells #[.int .i64 0, .int .i64 0, .int .i64 0, .int .i64 1, .int .i64 0, .int .i64 0, .string ⟨#[]⟩, .string ⟨#[]⟩, .int .i64 0, .int .i64 0, .int .i64 0, .int .i64 2, .int .i64 0, .int .i64 0, .string ⟨#[]⟩, .string ⟨#[]⟩, .int .i64 0, .int .i64 0, .int .i64 0, .int .i64 3, .int .i64 0, .int .i64 0, .string ⟨#[]⟩, .string ⟨#[]⟩] 34) = W := ⟨_, rfl⟩
  have hb1 : Below w.heap.size w w1 := by rw [← hw1]; exact (Below.refl _ _).alloc (Nat.le_refl _) _
  have hr : Rd w1 (.slice (some ⟨w.heap.size, 0, none⟩) ([1, 2, 3] : List Int).length 3) 8 ([1, 2, 3] : List Int).length (opsC [1, 2, 3]) := by
    refine ⟨rfl, by decide, some ⟨w.heap.size, 0, none⟩, 3, rfl, (fun h => by cases h), fun ad hA j u hj => ?_⟩
    cases hA
    rw [← hw1]
    exact cells_new w (opsC [1, 2, 3]) 34 j u hj
  have hE := enters_of Try.func46 (by kernel_rfl) rfl
  have HLE := Lib.hid (least_any hE w1 (asks_has w1) (some ⟨w.heap.size, 0, none⟩) 3 [1, 2, 3] (by decide) hr)
  have HB1 := Lib.hid hb1
  clear hb1 hr hE
  have hres : leastOf (fun l => decide ((2 : Int) ∈ l)) [1, 2, 3] = ([2], 5) := by decide
  have HRES := Lib.hid hres
  clear hres
  go_enter Try.func19, Try.ntmps19
  go_wp2_with fail
  refine HLE.out.mono ?_
  rintro e w2 ⟨v2, rfl, hown, hb2⟩
  rw [HRES.out] at hown ⊢
  obtain ⟨g, c2, rfl⟩ := row_some hown (by decide)
  have hc : w2.cell? ⟨g, 3, none⟩ = some (.int .i64 2) := (hown.cellAt 3 (by decide)).trans rfl
  have HB2 := Lib.hid hb2
  clear hown hb2
  go_wp2_with fail
  go_ret
  exact ⟨rfl, HB1.out.trans (HB2.out.mono HB1.out.size)⟩
end Go.Proofs.Ytnnmhpplmihidaa
