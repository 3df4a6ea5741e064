/- package shrink: a question, asked and counted. -/
import Derived.Test.YtnnmhpplmihidaaConcatOp
import Derived.Test.YtnnmhpplmihidaaStep
import Derived.Test.YtnnmhpplmihidaaWWords
namespace Go.Proofs.Ytnnmhpplmihidaa
set_option linter.unusedVariables false
set_option linter.unusedSimpArgs false
open Go.RowKit

/-- Operations that have a number alone. -/
def opC (n : Int) : List Value := [.int .i64 0, .int .i64 0, .int .i64 0, .int .i64 n, .int .i64 0, .int .i64 0, .string ⟨#[]⟩, .string ⟨#[]⟩]
def opsC (l : List Int) : List Value := l.flatMap opC
theorem opsC_append (a b : List Int) : opsC (a ++ b) = opsC a ++ opsC b := by simp [opsC]
theorem opsC_length (l : List Int) : (opsC l).length = l.length * 8 := by
  induction l with
  | nil => rfl
  | cons f l ih => simp only [opsC, List.flatMap_cons, List.length_append, opC, List.length_cons, List.length_nil] at ih ⊢; omega
theorem opsC_drop : ∀ (l : List Int) (j : Nat), (opsC l).drop (j * 8) = opsC (l.drop j)
  | l, 0 => by simp
  | [], j + 1 => by simp [opsC]
  | x :: l, j + 1 => by
    show (opC x ++ opsC l).drop ((j + 1) * 8) = opsC (l.drop j)
    rw [← opsC_drop l j, show (j + 1) * 8 = 8 + j * 8 by omega, ← List.drop_drop]
    rfl
theorem opsC_take : ∀ (l : List Int) (j : Nat), (opsC l).take (j * 8) = opsC (l.take j)
  | l, 0 => by simp [opsC]
  | [], j + 1 => by simp [opsC]
  | x :: l, j + 1 => by
    show (opC x ++ opsC l).take ((j + 1) * 8) = opC x ++ opsC (l.take j)
    rw [← opsC_take l j, show (j + 1) * 8 = 8 + j * 8 by omega, List.take_append]
    have e : (opC x).length = 8 := rfl
    rw [List.take_of_length_le (by rw [e]; omega), e, Nat.add_sub_cancel_left]
theorem opsC_at (l : List Int) (i : Nat) (h : i < l.length) (j : Nat) (hj : j < 8) : (opsC l)[i * 8 + j]? = (opC l[i])[j]? := by
  rw [← List.getElem?_drop, opsC_drop, List.drop_eq_getElem_cons h]
  show (opC l[i] ++ opsC _)[j]? = _
  rw [List.getElem?_append_left (by simp [opC]; omega)]
theorem opsC_one (l : List Int) : ∀ u ∈ opsC l, u.oneCell' = true := by
  intro u hu
  simp only [opsC, List.mem_flatMap] at hu
  obtain ⟨f, _, hf⟩ := hu
  simp [opC] at hf
  rcases hf with rfl | rfl | rfl | rfl <;> rfl

/-- What a question is: it may be called with any list that can be read, in any later memory, and answers K. -/
def Asks (w : World) (F : FuncId) (cap : Array Value) (K : List Int → Bool) : Prop :=
  ∀ (w' : World) (A : Option Addr) (c : Nat) (l : List Int), Below w.heap.size w w' → Rd w' (.slice A l.length c) 8 l.length (opsC l) → l.length ≤ 1000 →
    Calls Try.prog F (#[.slice A l.length c] ++ cap) w' fun e w2 => e = .returned (.bool (K l)) ∧ Below w'.heap.size w' w2

theorem addr_block (ad : Addr) (j : Nat) : (ad.add j).block = ad.block := by unfold Addr.add; split <;> rfl

theorem blk_set1' {X : World} {B : Nat} {u v : Value} {T : TypeId} (h : X.heap[B]? = some (.cells #[u, v] T (0, 0))) (v' : Value) :
    (X.setCell ⟨B, 1, none⟩ v').heap[B]? = some (.cells #[u, v'] T (0, 0)) := by
  simpa using Go.Proofs.YtnnmhpplmihidaaW.PrintWords.blk_set h 1 v'

def askN (n : Nat) : Nat := if n < 600 then n + 1 else n
def askB (K : List Int → Bool) (n : Nat) (l : List Int) : Bool := decide (n < 600) && K l

/-- The asker at block b: its question, and how often was asked. -/
def AskAt (w : World) (b : Nat) (F : FuncId) (cap : Array Value) (n : Nat) : Prop := w.heap[b]? = some (.cells #[.func (.func F) #[] cap, .int .i64 n] 82 (0, 0))

theorem AskAt.below {w w' : World} {b : Nat} {F : FuncId} {cap : Array Value} {n : Nat} (h : AskAt w b F cap n) (hb : Below w.heap.size w w') : AskAt w' b F cap n :=
  (hb.block b (Array.getElem?_eq_some_iff.1 h).1).trans h

set_option maxHeartbeats 1000000 in
set_option maxRecDepth 100000 in
theorem ask_any {w0 : World} {F : FuncId} {cap : Array Value} {K : List Int → Bool} (hE : ∀ (args : Array Value) (w : World), (callFunc F args).run Try.prog w = .ok (.enter F args) w) (hK : Asks w0 F cap K)
    (b n : Nat) (hb0 : w0.heap.size ≤ b) (A : Option Addr) (c : Nat) (l : List Int) (hl : l.length ≤ 1000) (w : World) (hw : Below w0.heap.size w0 w) (ha : AskAt w b F cap n) (hr : Rd w (.slice A l.length c) 8 l.length (opsC l)) (hrb : ∀ ad, A = some ad → ad.block ≠ b) (hn : n ≤ 600) :
    Calls Try.prog 48 #[.pointer (some ⟨b, 0, none⟩), .slice A l.length c] w fun e w' => e = .returned (.bool (askB K n l)) ∧ AskAt w' b F cap (askN n) ∧ Below w0.heap.size w0 w' ∧ w.heap.size ≤ w'.heap.size ∧ (∀ k, k < w.heap.size → k ≠ b → w'.heap[k]? = w.heap[k]?) := by
  have c0 : w.cell? ⟨b, 0, none⟩ = some (.func (.func F) #[] cap) := by simp [World.cell?, show w.heap[b]? = _ from ha]
  have c1 : w.cell? ⟨b, 1, none⟩ = some (.int .i64 n) := by simp [World.cell?, show w.heap[b]? = _ from ha]
  have f1 : w.frozen? ⟨b, 1, none⟩ = false := by simp [World.frozen?, show w.heap[b]? = _ from ha]
  have HA := Lib.hid ha
  have HK := Lib.hid hK
  have HR := Lib.hid hr
  have HW := Lib.hid hw
  have HRB := Lib.hid hrb
  clear ha hK hr hw hrb
  by_cases h6 : n < 600
  · have h6' : (n : Int) < 600 := by omega
    have HT : Hid (askB K n l = K l ∧ askN n = n + 1) := by simp [Hid, askB, askN, h6]
    obtain ⟨w1, hw1⟩ : ∃ W, w.setCell ⟨b, 1, none⟩ (.int .i64 ((n : Int) + 1)) = W := ⟨_, rfl⟩
    have ha1 : AskAt w1 b F cap (n + 1) := by rw [← hw1]; exact blk_set1' HA.out _
    have hold : ∀ k, k ≠ b → w1.heap[k]? = w.heap[k]? := fun k hk => by rw [← hw1]; exact Below.heap_setCell _ _ _ _ (by simpa using hk)
    have hs1 : w1.heap.size = w.heap.size := by rw [← hw1]; simp [World.setCell]
    have hbw : Below w0.heap.size w0 w1 := by rw [← hw1]; exact HW.out.setCell (p := ⟨b, 1, none⟩) hb0 _
    have hr1 : Rd w1 (.slice A l.length c) 8 l.length (opsC l) := by
      obtain ⟨h1, h2, A', c', e, h3, h4⟩ := HR.out
      cases e
      exact ⟨h1, h2, A, c, rfl, h3, fun ad hA j u hj => by rw [World.cell?_of_block (hold _ (by rw [addr_block]; exact HRB.out ad hA))]; exact h4 ad hA j u hj⟩
    have hcall := HK.out w1 A c l hbw hr1 hl
    have HC := Lib.hid hcall
    have c0' : w1.cell? ⟨b, 0, none⟩ = some (.func (.func F) #[] cap) := by simp [World.cell?, show w1.heap[b]? = _ from ha1]
    have HX := Lib.hid (And.intro ha1 (And.intro hold (And.intro hs1 hbw)))
    have HE := Lib.hid hE
    clear ha1 hold hs1 hbw hr1 hcall h6
    go_enter Try.func48, Try.ntmps48
    go_wp2_with fail
    refine HC.out.mono ?_
    rintro e w2 ⟨rfl, hb⟩
    have HB := Lib.hid hb
    clear hb
    go_wp2_with fail
    go_ret
    obtain ⟨h1, h2, h3, h4⟩ := HX.out
    rw [HT.out.1, HT.out.2]
    refine ⟨rfl, h1.below HB.out, h4.trans (HB.out.mono h4.size), by have := HB.out.size; omega, fun k hk hne => (HB.out.block k (by omega)).trans (h2 k hne)⟩
  · have h6' : ¬ (n : Int) < 600 := by omega
    have HT : Hid (askB K n l = false ∧ askN n = n) := by simp [Hid, askB, askN, h6]
    clear h6
    go_enter Try.func48, Try.ntmps48
    go_wp2_with fail
    go_ret
    rw [HT.out.1, HT.out.2]
    exact ⟨rfl, HA.out, HW.out, Nat.le_refl _, fun _ _ _ => rfl⟩
end Go.Proofs.Ytnnmhpplmihidaa
