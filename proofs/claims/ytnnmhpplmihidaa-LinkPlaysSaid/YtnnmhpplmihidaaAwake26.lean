/- Chapter 26's example. -/
import Derived.Deep.QuietTactic
import Derived.BigQuiet
import Derived.Deep.RegionLaw
import Derived.Test.YtnnmhpplmihidaaStep
import Derived.Test.YtnnmhpplmihidaaNetBend
import Derived.Test.YtnnmhpplmihidaaNetNew
namespace Go.Proofs.Ytnnmhpplmihidaa
set_option linter.unusedVariables false
set_option linter.unusedSimpArgs false
open Go.RowKit

def S1 : ByteArray := ⟨#[97, 98, 99, 100]⟩
def S2 : ByteArray := ⟨#[96, 98, 99, 100]⟩
def L0 : Int × Int → List Fr := fun _ => []
def L1 : Int × Int → List Fr := upd L0 (0, 1) [(S1, S1)]
def L2 : Int × Int → List Fr := upd L1 (0, 1) [(S2, S1)]

theorem ex_send : sendM 2 L0 0 1 S1 = (0, L1) := by
  simp [sendM, thereB, L1, L0, show S1.size = 4 from rfl]
theorem ex_find1 : findM 2 L1 0 1 0 = (0, (S1, S1)) := by
  simp [findM, thereB, L1, upd]
theorem ex_bend : bendM 2 L1 0 1 0 0 1 = (0, L2) := by
  have h : (⟨(bendB S1.data.toList ((IntKind.u64.wrap 0).toNat % (S1.size - 3)) 1 4).toArray⟩ : ByteArray) = S2 := by
    rw [show (IntKind.u64.wrap 0).toNat % (S1.size - 3) = 0 from rfl]
    decide
  simp only [bendM, ex_find1, if_pos, h, show ¬ S1.size < 4 from by decide, if_false]
  simp [L2, L1, upd]
theorem ex_find2 : findM 2 L2 0 1 0 = (0, (S2, S1)) := by
  simp [findM, thereB, L2, upd]
theorem ex_take : ∃ L3, takeM 2 L2 0 1 0 = ((S2, false, 0), L3) ∧ ∀ p, L3 p = [] := by
  refine ⟨_, by simp only [takeM, ex_find2, if_pos]; rw [show decide (S2 = S1) = false from by decide], fun p => ?_⟩
  simp [takeL, ex_find2, upd, L2, L1, L0]
  intro h
  simp [h]

theorem IsNet.empty {n0 : Nat} {w : World} {O : Nat → Prop} {g : Nat} {peers : Int} {L : Int × Int → List Fr} {mb : Nat} {m : List ((Int × Int) × Value)} (h : IsNet n0 w O g peers L mb m) (h0 : ∀ p, L p = []) : allM L m = 0 := by
  unfold allM
  have : ∀ l : List ((Int × Int) × Value), (l.map fun p => (L p.1).length).sum = 0 := by
    intro l
    induction l with
    | nil => rfl
    | cons p l ih => simp only [List.map_cons, List.sum_cons, h0, List.length_nil] at ih ⊢; rw [ih]
  exact this m

set_option maxHeartbeats 2000000 in
set_option maxRecDepth 100000 in
theorem awake26 (w : World) : Calls Try.prog 27 #[] w fun e w' => e = .returned (.bool true) ∧ Below w.heap.size w w' := by
  have HNEW := Lib.hid (new_net 2 (by omega) w)
  go_enter Try.func27, Try.ntmps27
  go_wp2_with fail
  refine HNEW.out.mono ?_
  rintro e w1 ⟨rfl, hnet, hb1⟩
  have HN1 := Lib.hid hnet
  have HB1 := Lib.hid hb1
  clear hnet hb1
  have HS := Lib.hid (send_net (L := L0) HN1.out 0 1 S1 (by decide))
  rw [ex_send] at HS
  go_wp2_with fail
  refine HS.out.mono ?_
  rintro e w2 ⟨rfl, O2, m2, hnet, _, hmv⟩
  have HN2 := Lib.hid hnet
  have HB2 := Lib.hid (HB1.out.trans hmv.below)
  clear hnet hmv HN1 HB1 HS
  have HS := Lib.hid (bend_net HN2.out 0 1 0 0 1 (by omega) (fun p f hf => by
    have : f = (S1, S1) ∨ f ∈ ([] : List Fr) := by
      by_cases hp : p = (0, 1)
      · left; simp [L1, upd, hp] at hf; exact hf
      · simp [L1, L0, upd, hp] at hf
    rcases this with rfl | h
    · decide
    · cases h))
  rw [ex_bend] at HS
  go_wp2_with fail
  refine HS.out.mono ?_
  rintro e w3 ⟨rfl, O3, m3, hnet, _, hmv⟩
  have HN3 := Lib.hid hnet
  have HB3 := Lib.hid (HB2.out.trans hmv.below)
  clear hnet hmv HN2 HB2 HS
  obtain ⟨L3, hT, h3⟩ := ex_take
  have HS := Lib.hid (take_net HN3.out 0 1 0)
  rw [hT] at HS
  unfold takeRet at HS
  have H3 := Lib.hid h3
  clear h3 hT
  go_wp2_with fail
  refine HS.out.mono ?_
  rintro e w4 ⟨rfl, O4, m4, hnet, _, hmv⟩
  have HN4 := Lib.hid hnet
  have HB4 := Lib.hid (HB3.out.trans hmv.below)
  clear hnet hmv HN3 HB3 HS
  have h0 := HN4.out.empty H3.out
  have HS := Lib.hid (all_net HN4.out (by rw [h0]; omega))
  rw [h0] at HS
  clear h0
  have hs2 : S2.toList = [96, 98, 99, 100] := by rw [ByteArray.toList_eq]; rfl
  go_wp2_with fail
  refine HS.out.mono ?_
  rintro e w5 ⟨rfl, hb⟩
  have HB5 := Lib.hid (HB4.out.trans (hb.mono HB4.out.size))
  clear hb HS
  go_wp2_with fail
  go_ret
  exact ⟨rfl, HB5.out⟩
end Go.Proofs.Ytnnmhpplmihidaa
