/- The questions of layer 43's laws. -/
import Derived.Deep.LoopGhost
import Derived.Test.YtnnmhpplmihidaaLeastPure
namespace Go.Proofs.Ytnnmhpplmihidaa
set_option linter.unusedVariables false
set_option linter.unusedSimpArgs false
open Go.RowKit

theorem rd_op {w : World} {A : Option Addr} {c : Nat} {l : List Int} (h : Rd w (.slice A l.length c) 8 l.length (opsC l)) {k : Nat} (hk : k < l.length) : ∃ a, A = some a ∧ w.cell? ⟨(a.add (k * 8)).block, (a.add (k * 8)).off + 3, none⟩ = some (.int .i64 l[k]) := by
  obtain ⟨_, _, A', c', e, h1, h2⟩ := h
  cases e
  cases A with
  | none => have := (h1 rfl).1; omega
  | some a =>
    refine ⟨a, rfl, ?_⟩
    have h3 := h2 a rfl (k * 8 + 3) (.int .i64 l[k]) (by rw [opsC_at l k hk 3 (by omega)]; rfl)
    rw [← h3]
    congr 1
    unfold Addr.add
    by_cases hm : k * 8 = 0
    · simp [hm]
    · simp [hm, Nat.add_assoc]

set_option maxHeartbeats 1000000 in
set_option maxRecDepth 100000 in
theorem has_any (w : World) (A : Option Addr) (c : Nat) (l : List Int) (n : Int) (hl : l.length ≤ 1000) (hr : Rd w (.slice A l.length c) 8 l.length (opsC l)) :
    Calls Try.prog 22 #[.slice A l.length c, .int .i64 n] w fun e w' => e = .returned (.bool (decide (n ∈ l))) ∧ w = w' := by
  have HR := Lib.hid hr
  have hl' : (l.length : Int) ≤ 1000 := by omega
  clear hr
  go_enter Try.func22, Try.ntmps22
  go_wp2_with fail
  go_loopg [5] l.length (fun g t5 wr => ∃ k : Nat, Hid (g = l.length - k ∧ k ≤ l.length) ∧ t5 = .int .i64 k ∧ Hid (n ∉ l.take k) ∧ w = wr)
  case atStart => exact ⟨0, ⟨rfl, Nat.zero_le _⟩, rfl, by simp [Hid], rfl⟩
  case round =>
    obtain ⟨k, HN, rfl, HI, rfl⟩ := hrel
    by_cases hlt : k < l.length
    · obtain ⟨a, rfl, hc⟩ := rd_op HR.out hlt
      obtain ⟨x, hx⟩ : ∃ x, l[k] = x := ⟨_, rfl⟩
      rw [hx] at hc
      have HX := Lib.hid hx
      have hlt' : (k : Int) < l.length := by omega
      clear hx
      by_cases hxn : x = n
      · subst hxn
        have HM : Hid (decide (x ∈ l) = true) := by
          simp only [Hid, decide_eq_true_eq]
          rw [← HX.out]
          exact List.getElem_mem hlt
        go_wp2_with fail
        go_ret
        exact ⟨by rw [HM.out]; rfl, rfl⟩
      · have hb : (x == n) = false := by simpa using hxn
        have HI2 : Hid (n ∉ l.take (k + 1)) := by
          simp only [Hid]
          rw [List.take_succ_eq_append_getElem hlt, List.mem_append]
          rintro (h | h)
          · exact HI.out h
          · simp [HX.out] at h
            exact hxn h.symm
        clear hxn
        go_wp2_with fail
        go_roundg (l.length - (k + 1))
        case rel => exact ⟨k + 1, ⟨rfl, hlt⟩, by go_num, HI2, rfl⟩
        case measure => have := HN.out; omega
    · have hlt' : ¬ (k : Int) < l.length := by omega
      have HM : Hid (decide (n ∈ l) = false) := by
        simp only [Hid, decide_eq_false_iff_not]
        have h := HI.out
        rw [List.take_of_length_le (by omega)] at h
        exact h
      go_wp2_with fail
      go_ret
      exact ⟨by rw [HM.out]; rfl, rfl⟩

theorem asks_has (w : World) : Asks w 46 #[] (fun l => decide ((2 : Int) ∈ l)) := by
  intro w' A c l hb hr hl
  have H := Lib.hid (has_any w' A c l 2 hl hr)
  clear hb hr hl
  show Calls Try.prog 46 #[.slice A l.length c] w' _
  go_enter Try.func46, Try.ntmps46
  go_wp2_with fail
  refine H.out.mono ?_
  rintro e w2 ⟨rfl, rfl⟩
  go_wp2_with fail
  go_ret
  exact ⟨rfl, Below.refl _ _⟩

theorem asks_no (w : World) : Asks w 24 #[] (fun _ => false) := by
  intro w' A c l hb hr hl
  clear hb hr hl
  show Calls Try.prog 24 #[.slice A l.length c] w' _
  go_enter Try.func24, Try.ntmps24
  go_wp2_with fail
  go_ret
  exact ⟨rfl, Below.refl _ _⟩

/-- A row of bools that may be read. -/
def BoolsAt (w : World) (A : Option Addr) (l : List Bool) : Prop := ∀ j (hj : j < l.length), ∃ a, A = some a ∧ w.cell? (a.add j) = some (.bool l[j])
theorem BoolsAt.below {w w' : World} {A : Option Addr} {l : List Bool} (h : BoolsAt w A l) (hb : Below w.heap.size w w') : BoolsAt w' A l := fun j hj => by
  obtain ⟨a, e, h1⟩ := h j hj
  exact ⟨a, e, cell_below hb h1⟩

def needK (need : List Bool) (l : List Int) : Bool := (List.range need.length).all fun i => !need.getD i false || decide ((i : Int) ∈ l)

theorem needK_false {need : List Bool} {l : List Int} {k : Nat} (hk : k < need.length) (h1 : need[k] = true) (h2 : ((k : Int) ∈ l) = False) : needK need l = false := by
  rw [needK, List.all_eq_false]
  refine ⟨k, List.mem_range.2 hk, ?_⟩
  simp [List.getElem?_eq_getElem hk, h1, h2]

set_option maxHeartbeats 1000000 in
set_option maxRecDepth 100000 in
theorem asks_need (w : World) (b : Nat) (An : Option Addr) (cn : Nat) (need : List Bool) (hbx : w.heap[b]? = some (.cells #[.slice An need.length cn] 28 (0, 0))) (hnd : BoolsAt w An need) (hln : need.length ≤ 1000) :
    Asks w 21 #[.pointer (some ⟨b, 0, none⟩)] (needK need) := by
  intro w' A c l hb hr hl
  have HH := Lib.hid (fun n => has_any w' A c l n hl hr)
  have hc : w'.cell? ⟨b, 0, none⟩ = some (.slice An need.length cn) := cell_below hb (by simp [World.cell?, hbx])
  have HND := Lib.hid (hnd.below hb)
  have hln' : (need.length : Int) ≤ 1000 := by omega
  clear hb hr hl hbx hnd
  show Calls Try.prog 21 #[.slice A l.length c, .pointer (some ⟨b, 0, none⟩)] w' _
  go_enter Try.func21, Try.ntmps21
  go_wp2_with fail
  go_loopg [4] need.length (fun g t4 wr => ∃ k : Nat, Hid (g = need.length - k ∧ k ≤ need.length) ∧ t4 = .int .i64 k ∧ Hid (∀ i, i < k → need.getD i false = true → (i : Int) ∈ l) ∧ w' = wr)
  case atStart => exact ⟨0, ⟨rfl, Nat.zero_le _⟩, rfl, fun i hi => by omega, rfl⟩
  case round =>
    obtain ⟨k, HN, rfl, HI, rfl⟩ := hrel
    by_cases hlt : k < need.length
    · obtain ⟨a, rfl, hcell⟩ := HND.out k hlt
      have hlt' : (k : Int) < need.length := by omega
      cases hnk : need[k] with
      | true =>
        rw [hnk] at hcell
        by_cases hin : (k : Int) ∈ l
        · have HD : Hid (decide ((k : Int) ∈ l) = true) := by simpa [Hid] using hin
          have HI2 : Hid (∀ i, i < k + 1 → need.getD i false = true → (i : Int) ∈ l) := fun i hi h => by
            by_cases e : i = k
            · rw [e]; exact hin
            · exact HI.out i (by omega) h
          have HHK := Lib.hid (HH.out (k : Int))
          rw [HD.out] at HHK
          clear hnk hin
          go_wp2_with fail
          refine HHK.out.mono ?_
          rintro e w2 ⟨rfl, rfl⟩
          go_wp2_with fail
          go_roundg (need.length - (k + 1))
          case rel => exact ⟨k + 1, ⟨rfl, hlt⟩, by go_num, HI2, rfl⟩
          case measure => have := HN.out; omega
        · have HD : Hid (decide ((k : Int) ∈ l) = false) := by simpa [Hid] using hin
          have HF : Hid (needK need l = false) := needK_false hlt hnk (by simpa using hin)
          have HHK := Lib.hid (HH.out (k : Int))
          rw [HD.out] at HHK
          clear hnk hin
          go_wp2_with fail
          refine HHK.out.mono ?_
          rintro e w2 ⟨rfl, rfl⟩
          go_wp2_with fail
          go_ret
          exact ⟨by rw [HF.out]; rfl, Below.refl _ _⟩
      | false =>
        rw [hnk] at hcell
        have HI2 : Hid (∀ i, i < k + 1 → need.getD i false = true → (i : Int) ∈ l) := fun i hi h => by
          by_cases e : i = k
          · subst e
            rw [List.getD_eq_getElem?_getD, List.getElem?_eq_getElem hlt, hnk] at h
            cases h
          · exact HI.out i (by omega) h
        clear hnk
        go_wp2_with fail
        go_roundg (need.length - (k + 1))
        case rel => exact ⟨k + 1, ⟨rfl, hlt⟩, by go_num, HI2, rfl⟩
        case measure => have := HN.out; omega
    · have hlt' : ¬ (k : Int) < need.length := by omega
      have HT : Hid (needK need l = true) := by
        rw [Hid, needK, List.all_eq_true]
        intro i hi
        have hi' := List.mem_range.1 hi
        cases h : need.getD i false with
        | true => rw [decide_eq_true (HI.out i (by omega) h)]; rfl
        | false => rfl
      go_wp2_with fail
      go_ret
      exact ⟨by rw [HT.out]; rfl, Below.refl _ _⟩
end Go.Proofs.Ytnnmhpplmihidaa
