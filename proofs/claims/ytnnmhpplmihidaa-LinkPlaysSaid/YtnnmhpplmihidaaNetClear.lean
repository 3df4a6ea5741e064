/- The net of package link: Clear. -/
import Derived.Test.YtnnmhpplmihidaaNetNew
namespace Go.Proofs.Ytnnmhpplmihidaa
set_option linter.unusedVariables false
set_option linter.unusedSimpArgs false
open Go.RowKit

section
variable {n0 : Nat} {w : World} {O : Nat → Prop} {g : Nat} {peers : Int} {L : Int × Int → List Fr} {mb : Nat} {m : List ((Int × Int) × Value)}

theorem NetStep.step {w1 w2 : World} {L2 : Int × Int → List Fr} {O1 : Nat → Prop} (h2 : ∀ k, O1 k → O k ∨ w.heap.size ≤ k) (h3 : Moved n0 (fun k => ¬ O k) w w1) (k : NetStep n0 w1 O1 g peers L2 mb w2) : NetStep n0 w O g peers L2 mb w2 := by
  obtain ⟨O2, m2, k1, k2, k3⟩ := k
  have hsz := h3.below.size
  refine ⟨O2, m2, k1, fun b hb => ?_, h3.below.trans k3.below, fun b hb ho => ?_⟩
  · rcases k2 b hb with h | h
    · exact h2 b h
    · exact .inr (by omega)
  · rw [k3.keep b (by omega) (fun h => by rcases h2 b h with h | h; exact ho h; omega)]
    exact h3.keep b hb ho

def clearL (L : Int × Int → List Fr) (peer : Int) (f : Nat) : Int × Int → List Fr := fun q => if q.2 = peer ∧ 0 ≤ q.1 ∧ q.1 < f then [] else L q
def clearK (peers : Int) (L : Int × Int → List Fr) (peer : Int) : Nat → Nat
  | 0 => 0
  | f + 1 => clearK peers L peer f + lenM peers L f peer

theorem clearK_le (h : ∀ p, (L p).length ≤ 8) (peer : Int) : ∀ f, clearK peers L peer f ≤ 8 * f
  | 0 => Nat.le_refl _
  | f + 1 => by
    have := clearK_le h peer f
    have h2 := h ((f : Int), peer)
    have h3 : lenM peers L f peer ≤ 8 := by unfold lenM; split <;> omega
    unfold clearK
    omega

theorem clearL_succ (hT : ∀ p, L p ≠ [] → thereB peers p.1 p.2 = true) (peer : Int) (f : Nat) (h0 : lenM peers L f peer = 0) : clearL L peer (f + 1) = clearL L peer f := by
  funext q
  unfold clearL
  by_cases h : q.2 = peer ∧ 0 ≤ q.1 ∧ q.1 < f
  · rw [if_pos ⟨h.1, h.2.1, by omega⟩, if_pos h]
  · rw [if_neg h]
    by_cases h' : q.2 = peer ∧ 0 ≤ q.1 ∧ q.1 < ((f + 1 : Nat) : Int)
    · rw [if_pos h']
      have e : q = ((f : Int), peer) := Prod.ext (by show q.1 = f; omega) h'.1
      rw [e]
      unfold lenM at h0
      split at h0
      · rename_i ht
        by_cases hn : L ((f : Int), peer) = []
        · exact hn.symm
        · have := hT _ hn
          simp only at this
          rw [ht] at this
          cases this
      · exact (List.length_eq_zero_iff.1 h0).symm
    · rw [if_neg h']

theorem clearL_upd (peer : Int) (f : Nat) : upd (clearL L peer f) ((f : Int), peer) [] = clearL L peer (f + 1) := by
  funext q
  unfold upd clearL
  by_cases h : q = ((f : Int), peer)
  · subst h
    rw [if_pos rfl, if_pos ⟨rfl, by simp; omega⟩]
  · rw [if_neg h]
    by_cases h1 : q.2 = peer ∧ 0 ≤ q.1 ∧ q.1 < f
    · rw [if_pos h1, if_pos ⟨h1.1, h1.2.1, by omega⟩]
    · rw [if_neg h1, if_neg]
      intro h2
      exact h (Prod.ext (by show q.1 = f; omega) h2.1)

theorem clearL_at (peer : Int) (f : Nat) : clearL L peer f ((f : Int), peer) = L ((f : Int), peer) := by
  unfold clearL
  rw [if_neg]
  simp

set_option maxHeartbeats 2000000 in
set_option maxRecDepth 100000 in
theorem clear_net (h : IsNet n0 w O g peers L mb m) (peer : Int) (hT : ∀ p, L p ≠ [] → thereB peers p.1 p.2 = true) :
    Calls Try.prog 37 #[.pointer (some ⟨g, 0, none⟩), .int .i64 peer] w fun e w' => e = .returned (.int .i64 (clearK peers L peer peers.toNat)) ∧ NetStep n0 w O g peers (clearL L peer peers.toNat) mb w' := by
  have c0 := h.cell0
  obtain ⟨n, rfl⟩ := Int.eq_ofNat_of_zero_le (show 0 ≤ peers from by have := h.few; omega)
  have hn64 : n ≤ 64 := by have := h.few; omega
  have hS0 : NetStep n0 w O g (n : Int) (clearL L peer 0) mb w := by
    have e : clearL L peer 0 = L := by
      funext q
      unfold clearL
      rw [if_neg]
      intro h
      omega
    rw [e]
    exact NetStep.same h (Below.refl _ _)
  have HS0 := Lib.hid hS0
  have HM := Lib.hid h.most
  have HT := Lib.hid hT
  clear h hS0 hT
  go_enter Try.func37, Try.ntmps37
  go_wp2_with fail
  go_loopg [5, 15] n (fun d t5 t15 wr => ∃ f : Nat, Hid (d = n - f ∧ f ≤ n) ∧ t5 = .int .i64 (clearK n L peer f) ∧ t15 = .int .i64 f ∧ Hid (NetStep n0 w O g n (clearL L peer f) mb wr))
  case atStart => exact ⟨0, ⟨rfl, Nat.zero_le _⟩, rfl, rfl, HS0⟩
  case round =>
    obtain ⟨f, HF, rfl, rfl, HST⟩ := hrel
    by_cases hf : f < n
    · have hf' : (f : Int) < n := by omega
      have hf0 : 0 ≤ (f : Int) := by omega
      have hk := clearK_le (peers := (n : Int)) HM.out peer f
      have hk' : (clearK n L peer f : Int) ≤ 512 := by omega
      clear hk
      obtain ⟨O1, m1, hnet, hO1, hmv1⟩ := HST.out
      have HO1 := Lib.hid hO1
      have HMV1 := Lib.hid hmv1
      clear hO1 hmv1
      have hn0 := hnet.hn0
      have d0 := hnet.cell0
      have HNET := Lib.hid hnet
      clear hnet hn0
      by_cases ht : thereB n f peer = true
      · have Hl := Lib.hid (list_net HNET.out f peer ht)
        rw [clearL_at] at Hl
        obtain ⟨len, hlen⟩ : ∃ len, (L ((f : Int), peer)).length = len := ⟨_, rfl⟩
        have h8 := HM.out ((f : Int), peer)
        rw [hlen] at h8
        have hK : Hid (clearK n L peer (f + 1) = clearK n L peer f + len) := by
          show clearK n L peer f + lenM n L f peer = _
          rw [lenM, ht, if_neg (by simp), hlen]
        rw [hlen] at Hl
        have HLEN := Lib.hid hlen
        clear ht hlen
        go_wp2_with fail
        refine Hl.out.mono ?_
        rintro e w' ⟨u, rfl, hrow, hO, rfl⟩
        obtain ⟨A, c, rfl⟩ := own_shape hrow
        clear hrow hO Hl
        by_cases hz : len = 0
        · subst hz
          go_wp2_with fail
          go_roundg (n - (f + 1))
          case rel =>
            refine ⟨f + 1, ⟨rfl, hf⟩, by rw [hK.out]; simp, by go_num, ?_⟩
            rw [clearL_succ HT.out peer f (by unfold lenM; split; rfl; exact HLEN.out)]
            exact HST
          case measure => have := HF.out; omega
        · have hz' : (0 : Int) < len := by omega
          have hput := Lib.hid (put_fresh HNET.out (Below.refl _ _) f peer (.slice none 0 0) [] ⟨rfl, .inl ⟨rfl, rfl⟩⟩ (by simp))
          unfold pk at hput
          rw [clearL_upd] at hput
          go_wp2_with fail
          refine hput.out.mono ?_
          rintro e w5 ⟨rfl, hs, _⟩
          have HS5 : Hid (NetStep n0 w O g n (clearL L peer (f + 1)) mb w5) := NetStep.step HO1.out HMV1.out hs
          clear hs hput
          go_wp2_with fail
          go_roundg (n - (f + 1))
          case rel => exact ⟨f + 1, ⟨rfl, hf⟩, by rw [hK.out]; simp, by go_num, HS5⟩
          case measure => have := HF.out; omega
      · have ht' : thereB n f peer = false := by simpa using ht
        have hK : Hid (clearK n L peer (f + 1) = clearK n L peer f) := by
          show clearK n L peer f + lenM n L f peer = _
          rw [lenM, ht', if_pos rfl]
          rfl
        have HTF := Lib.hid ht'
        clear ht ht'
        go_wp2_with fail
        refine (list_none g d0 f peer HTF.out).mono ?_
        rintro e w' ⟨rfl, rfl⟩
        go_wp2_with fail
        go_roundg (n - (f + 1))
        case rel =>
          refine ⟨f + 1, ⟨rfl, hf⟩, by rw [hK.out], by go_num, ?_⟩
          rw [clearL_succ HT.out peer f (by unfold lenM; rw [HTF.out]; rfl)]
          exact HST
        case measure => have := HF.out; omega
    · have hfe : f = n := by have := HF.out; omega
      subst hfe
      clear hf
      go_wp2_with fail
      go_ret
      refine ⟨by simp, ?_⟩
      rw [Int.toNat_natCast]
      exact HST.out
end
end Go.Proofs.Ytnnmhpplmihidaa
