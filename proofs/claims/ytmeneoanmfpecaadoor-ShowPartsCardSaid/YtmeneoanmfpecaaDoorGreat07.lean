/- Are versions too much to be asked? -/
import Derived.Deep.QuietTactic
import Derived.BigQuiet
import Derived.Test.YtmeneoanmfpecaaDoorOpenVals
import Derived.Test.YtmeneoanmfpecaaDoorShort2
namespace Go.Proofs.YtmeneoanmfpecaaDoor
set_option linter.unusedVariables false
set_option linter.unusedSimpArgs false
open Go.RowKit

theorem mem_sum : ∀ {l : List Nat} {x : Nat}, x ∈ l → x ≤ l.sum
  | y :: l, x, h => by
    simp only [List.sum_cons]
    rcases List.mem_cons.1 h with rfl | h
    · omega
    · have := mem_sum h; omega
structure SmallV (L : List VerR) : Prop where
  len : L.length ≤ 70
  past : ∀ x ∈ L, x.past.length ≤ 400
  data : ∀ x ∈ L, x.data.size ≤ 200
def Great07Ok (L : List VerR) (e : Ending) : Prop := ∃ b, e = .returned (.bool b) ∧ (b = false → SmallV L)
def pastSum (L : List VerR) : Nat := (L.map fun x => x.past.length).sum
theorem pastSum_succ (L : List VerR) (k : Nat) (h : k < L.length) : pastSum (L.take (k + 1)) = pastSum (L.take k) + L[k].past.length := by
  unfold pastSum
  rw [List.take_succ_eq_append_getElem h, List.map_append, List.sum_append]
  simp

set_option maxHeartbeats 2000000 in
set_option maxRecDepth 100000 in
theorem great07_any (b : Nat) (A : Option Addr) (c : Nat) (L : List VerR) (w : World) (hg : w.cell? ⟨b, 0, none⟩ = some (.slice A L.length c)) (h : VersAt w A L) (hr : VersRead L) (hL : L.length * 64 ≤ 140737488351232) :
    Calls Tryd.prog 28 #[.slice (some ⟨b, 0, none⟩) 1 1] w fun e w' => Great07Ok L e ∧ Below w.heap.size w w' := by
  have HA := Lib.hid h
  have HR := Lib.hid hr
  have HG : Hid (∀ w', Below w.heap.size w w' → w'.cell? ⟨b, 0, none⟩ = some (.slice A L.length c)) := fun w' hb => cell_below hb hg
  obtain ⟨n, hn⟩ : ∃ n, L.length = n := ⟨_, rfl⟩
  have HN := Lib.hid hn
  rw [hn] at HG hL
  have hL' : (n : Int) ≤ 9223372036854775807 := by omega
  clear h hr hg hn
  go_enter Tryd.func28, Tryd.ntmps28
  go_wp2_with fail
  go_loopg [3, 4, 5] 1 (fun g t3 t4 t5 wr => ∃ k : Nat, Hid (g = 1 - k ∧ k ≤ 1) ∧ t3 = .int .i64 k ∧ Hid (1 ≤ k → SmallV L) ∧ Hid (Below w.heap.size w wr))
  case atStart => exact ⟨0, ⟨rfl, Nat.zero_le _⟩, rfl, Lib.hid (fun h => by omega), Below.refl _ _⟩
  case round =>
    obtain ⟨k, HK, rfl, HS, HB⟩ := hrel
    by_cases hk : k = 1
    · subst hk
      have hs := HS.out (Nat.le_refl _)
      go_wp2_with fail
      go_ret
      exact ⟨⟨false, rfl, fun _ => hs⟩, HB.out⟩
    · obtain rfl : k = 0 := by have := HK.out; omega
      have hg := HG.out wr HB.out
      clear hk
      by_cases h70 : 70 < (n : Int)
      · go_wp2_with fail
        go_ret
        exact ⟨⟨true, rfl, fun h => by cases h⟩, HB.out⟩
      · have h70' : n ≤ 70 := by omega
        clear hL hL'
        go_wp2_with fail
        obtain ⟨wo, hwo⟩ : ∃ wo : World, wo = wr := ⟨_, rfl⟩
        go_loopg [4, 5] n (fun g t4 t5 wi => ∃ j : Nat, Hid (g = n - j ∧ j ≤ n) ∧ t5 = .int .i64 j ∧ t4 = .int .i64 (pastSum (L.take j)) ∧ Hid (pastSum (L.take j) ≤ 400 ∧ ∀ x ∈ L.take j, x.data.size ≤ 200) ∧ Hid (Below w.heap.size w wi))
        case atStart => exact ⟨0, ⟨rfl, Nat.zero_le _⟩, rfl, by simp [pastSum], Lib.hid ⟨by simp [pastSum], by simp⟩, HB⟩
        case round =>
          obtain ⟨j, HJ, rfl, rfl, HP, HW⟩ := hrel
          clear hg
          have hg := HG.out _ HW.out
          by_cases hlt : j < n
          · have hlt' : (j : Int) < n := by omega
            have hjl : j < L.length := by rw [HN.out]; exact hlt
            obtain ⟨a, rfl, d0, d1, d2, d3, d4, -⟩ := (HA.out.below HW.out) j hjl
            have hpl := (HR.out L[j] (List.getElem_mem hjl)).len
            have hsum := pastSum_succ L j hjl
            have htk : L.take (j + 1) = L.take j ++ [L[j]] := List.take_succ_eq_append_getElem hjl
            obtain ⟨x, hx⟩ : ∃ x, L[j] = x := ⟨_, rfl⟩
            rw [hx] at d2 d4 hpl hsum htk
            obtain ⟨S, hS⟩ : ∃ S, pastSum (L.take j) = S := ⟨_, rfl⟩
            have hS4 : S ≤ 400 := by rw [← hS]; exact HP.out.1
            have HSM := Lib.hid hsum
            have HTK := Lib.hid htk
            rw [hS] at HSM ⊢
            obtain ⟨dp, dc, A1, c1, past, dead, data⟩ := x
            simp only at d2 d4 hpl HSM
            obtain ⟨q, hq⟩ : ∃ q, past.length = q := ⟨_, rfl⟩
            rw [hq] at d2 hpl HSM
            have HQ := Lib.hid hq
            clear d0 d1 d3 hsum htk hx hS hjl hq
            have hw1 : wrap64 ((S : Int) + q) = (S : Int) + q := by unfold wrap64; omega
            by_cases hgt : 400 < (S : Int) + q
            · go_wp2_with fail
              go_ret
              exact ⟨⟨true, rfl, fun h => by cases h⟩, HW.out⟩
            · by_cases hdt : 200 < (data.size : Int)
              · go_wp2_with fail
                go_ret
                exact ⟨⟨true, rfl, fun h => by cases h⟩, HW.out⟩
              · go_wp2_with fail
                go_roundg (n - (j + 1))
                case rel => exact ⟨j + 1, ⟨rfl, hlt⟩, by go_num, by rw [HSM.out]; simp, Lib.hid ⟨by rw [HSM.out]; omega, fun y hy => by
                  rw [HTK.out] at hy
                  rcases List.mem_append.1 hy with h | h
                  · exact HP.out.2 y h
                  · simp only [List.mem_singleton] at h
                    subst h
                    show data.size ≤ 200
                    omega⟩, HW⟩
                case measure => have := HJ.out; omega
          · have hlt' : ¬ (j : Int) < n := by omega
            have hjn : j = n := by have := HJ.out; omega
            have HSV : Hid (SmallV L) := by
              have htk : L.take j = L := List.take_of_length_le (by rw [HN.out]; omega)
              have hp := HP.out
              rw [htk] at hp
              refine Lib.hid ⟨by rw [HN.out]; exact h70', fun x hx => ?_, hp.2⟩
              have hle : x.past.length ≤ pastSum L := by
                unfold pastSum
                exact mem_sum (List.mem_map.2 ⟨x, hx, rfl⟩)
              omega
            clear hjn
            go_wp2_with fail
            go_roundg (1 - (0 + 1))
            case rel => exact ⟨0 + 1, ⟨rfl, Nat.le_refl _⟩, by go_num, Lib.hid (fun _ => HSV.out), HW⟩
            case measure => have := HK.out; omega
end Go.Proofs.YtmeneoanmfpecaaDoor
